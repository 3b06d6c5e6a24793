/-
  Texts for the law LadderSame, laid together by my program merge2.py; what nothing here names is left out.
-/
import Derived.Test.YtmehbabchakkpaaMLadderSamex2
namespace Go.Proofs.Ytmehbabchakkpaa.QLadderSame
open Go.RowKit Go.Proofs.YtmehbabchakkpaaW.PrintWords Go.Proofs.YtmehbabchakkpaaW.PrintLast Go.Proofs.YtmehbabchakkpaaW.PrintMore
attribute [local go_sem] max2_int min2_int max_two min_two max_three min_three max_four min_four   -- for this text's walks alone
set_option linter.unusedVariables false
set_option linter.unusedSimpArgs false
def tag_Take.j0 : Nat → Bool → Int → Int → Int → Int → Option (Int × Int × Int × Int × Int)
 | 0, _, _, _, _, _ => none
 | k + 1, x44, x223000, x223001, x223002, x223003 => if x44 = true then (some (0, 0, 0, 0, 11)) else (some (x223000, x223001, x223002, x223003, 0))
def tag_Take.f (k : Nat) (l0 : List Int) : Option (Int × Int × Int × Int × Int) := (tag_layout.f).bind fun t211 => ((pack_Take.f k t211 l0).bind fun bt214 => (if bt214.2 = 0 then (if 1 < (bt214.1.length : Int) then (if 2 < (bt214.1.length : Int) then (if 3 < (bt214.1.length : Int) then (if 4 < (bt214.1.length : Int) then (if 0 < (bt214.1.length : Int) then (if (rd bt214.1 0) = 0 then (if 5 < (bt214.1.length : Int) then (if (rd bt214.1 5) = 0 then ((tag_May.f (rd bt214.1 1) (rd bt214.1 2) (rd bt214.1 3) (rd bt214.1 4)).bind fun t225 => (tag_Take.j0 k (!t225) (rd bt214.1 1) (rd bt214.1 2) (rd bt214.1 3) (rd bt214.1 4))) else (tag_Take.j0 k true (rd bt214.1 1) (rd bt214.1 2) (rd bt214.1 3) (rd bt214.1 4))) else (none)) else (tag_Take.j0 k true (rd bt214.1 1) (rd bt214.1 2) (rd bt214.1 3) (rd bt214.1 4))) else (none)) else (none)) else (none)) else (none)) else (none)) else (some (0, 0, 0, 0, bt214.2))))
theorem tag_Take.mono_l : ∀ k, (∀ y0 y1 y2 y3 y4, LeO (tag_Take.j0 k y0 y1 y2 y3 y4) (tag_Take.j0 (k + 1) y0 y1 y2 y3 y4))
 | 0 => fun _ _ _ _ _ r h => by simp [tag_Take.j0] at h
 | k + 1 => by
  have ih0 := tag_Take.mono_l k
  ·intro y0 y1 y2 y3 y4
   unfold tag_Take.j0
   repeat' first
   | (with_reducible exact ih0 _ _ _ _ _)
   | (with_reducible exact pack_Take.mono _ _ _)
   | (with_reducible exact LeO.refl _)
   | (with_reducible exact LeO.none _)
   | (with_reducible refine LeO.ite ?_ ?_)
   | (with_reducible refine LeO.bind ?_ (fun _ => ?_))
theorem tag_Take.mono : ∀ a0 k, LeO (tag_Take.f k a0) (tag_Take.f (k + 1) a0) := by
 intro a0 k
 have ih0 := tag_Take.mono_l k
 unfold tag_Take.f
 repeat' first
  | (with_reducible exact ih0 _ _ _ _ _)
  | (with_reducible exact pack_Take.mono _ _ _)
  | (with_reducible exact LeO.refl _)
  | (with_reducible exact LeO.none _)
  | (with_reducible refine LeO.ite ?_ ?_)
  | (with_reducible refine LeO.bind ?_ (fun _ => ?_))
def tag_Take.T4 : Bool × List (List Nat × List Nat) := (true, [([], []), ([0], [0]), ([1], [1]), ([], []), ([3], [3]), ([4], [4]), ([], []), ([6], [6]), ([7], [7]), ([], []), ([9], [9]), ([10], [10]), ([2, 5, 8, 11], [2, 5, 8, 11]), ([], []), ([13, 12, 0, 1, 2, 3, 4, 5, 6, 7, 8, 9, 10, 11, 12, 13], [12, 13])])
def tag_Take.B4 : List Nat := [0, 1, 3, 0, 8, 24, 0, 64, 192, 0, 512, 1536, 4095, 0, 16383]
theorem tag_Take.tab4 : rtab .any (opsOf Try.f62 4) = tag_Take.T4 := by kernel_rfl
theorem tag_Take.bits4 : waitsOk tag_Take.T4.2 tag_Take.B4 = true := by kernel_rfl
set_option maxHeartbeats 8000000 in
set_option maxRecDepth 100000 in
theorem tag_Take.calls (k : Nat) (A0 : Option Addr) (c0 : Nat) (l0 : List Int) (r1 : Int) (r2 : Int) (r3 : Int) (r4 : Int) (r5 : Int) (w : World) (hr0 : Kd.C (Kd.int .u8) w A0 l0.length l0) (hc0 : l0.length ≤ c0) (h : tag_Take.f k l0 = some (r1, r2, r3, r4, r5)) :
  Calls Try.prog 62 #[.slice A0 l0.length c0] w fun e w' => e = .returned (.tuple #[.agg #[.int .i64 r1, .int .i64 r2, .int .i64 r3, .int .i64 r4], .int .i64 r5]) ∧ Below w.heap.size w w' := by
 have hu26 := Try.underlying26
 have HR0 := ak_ hr0
 have HC0 := ak_ hc0
 clear hr0 hc0
 have HB := ak_ (Below.refl w.heap.size w)
 have H : ((tag_layout.f).bind fun t211 => ((pack_Take.f k t211 l0).bind fun bt214 => (if bt214.2 = 0 then (if 1 < (bt214.1.length : Int) then (if 2 < (bt214.1.length : Int) then (if 3 < (bt214.1.length : Int) then (if 4 < (bt214.1.length : Int) then (if 0 < (bt214.1.length : Int) then (if (rd bt214.1 0) = 0 then (if 5 < (bt214.1.length : Int) then (if (rd bt214.1 5) = 0 then ((tag_May.f (rd bt214.1 1) (rd bt214.1 2) (rd bt214.1 3) (rd bt214.1 4)).bind fun t225 => (tag_Take.j0 k (!t225) (rd bt214.1 1) (rd bt214.1 2) (rd bt214.1 3) (rd bt214.1 4))) else (tag_Take.j0 k true (rd bt214.1 1) (rd bt214.1 2) (rd bt214.1 3) (rd bt214.1 4))) else (none)) else (tag_Take.j0 k true (rd bt214.1 1) (rd bt214.1 2) (rd bt214.1 3) (rd bt214.1 4))) else (none)) else (none)) else (none)) else (none)) else (none)) else (some (0, 0, 0, 0, bt214.2))))) = some (r1, r2, r3, r4, r5) := h
 clear h
 replace H := Option.bind_eq_some_iff.mp H
 obtain ⟨t211, A20, H⟩ := H
 replace H : ((pack_Take.f k t211 l0).bind fun bt214 => (if bt214.2 = 0 then (if 1 < (bt214.1.length : Int) then (if 2 < (bt214.1.length : Int) then (if 3 < (bt214.1.length : Int) then (if 4 < (bt214.1.length : Int) then (if 0 < (bt214.1.length : Int) then (if (rd bt214.1 0) = 0 then (if 5 < (bt214.1.length : Int) then (if (rd bt214.1 5) = 0 then ((tag_May.f (rd bt214.1 1) (rd bt214.1 2) (rd bt214.1 3) (rd bt214.1 4)).bind fun t225 => (tag_Take.j0 k (!t225) (rd bt214.1 1) (rd bt214.1 2) (rd bt214.1 3) (rd bt214.1 4))) else (tag_Take.j0 k true (rd bt214.1 1) (rd bt214.1 2) (rd bt214.1 3) (rd bt214.1 4))) else (none)) else (tag_Take.j0 k true (rd bt214.1 1) (rd bt214.1 2) (rd bt214.1 3) (rd bt214.1 4))) else (none)) else (none)) else (none)) else (none)) else (none)) else (some (0, 0, 0, 0, bt214.2)))) = some (r1, r2, r3, r4, r5) := H
 have A2 := ak_ A20
 clear A20
 replace H := Option.bind_eq_some_iff.mp H
 obtain ⟨⟨t214, t217⟩, A30, H⟩ := H
 replace H : (if t217 = 0 then (if 1 < (t214.length : Int) then (if 2 < (t214.length : Int) then (if 3 < (t214.length : Int) then (if 4 < (t214.length : Int) then (if 0 < (t214.length : Int) then (if (rd t214 0) = 0 then (if 5 < (t214.length : Int) then (if (rd t214 5) = 0 then ((tag_May.f (rd t214 1) (rd t214 2) (rd t214 3) (rd t214 4)).bind fun t225 => (tag_Take.j0 k (!t225) (rd t214 1) (rd t214 2) (rd t214 3) (rd t214 4))) else (tag_Take.j0 k true (rd t214 1) (rd t214 2) (rd t214 3) (rd t214 4))) else (none)) else (tag_Take.j0 k true (rd t214 1) (rd t214 2) (rd t214 3) (rd t214 4))) else (none)) else (none)) else (none)) else (none)) else (none)) else (some (0, 0, 0, 0, t217))) = some (r1, r2, r3, r4, r5) := H
 have A3 := ak_ A30
 clear A30
 by_cases c4 : t217 = 0
 ·rw [if_pos c4] at H
  have c4b0 : (t217 == 0) = true := beq_iff_eq.mpr c4
  have c4b1 : (t217 != 0) = false := bne_eq_false_iff_eq.mpr c4
  clear c4
  by_cases c5 : 1 < (t214.length : Int)
  ·rw [if_pos c5] at H
   have c5b0 : decide (1 < (t214.length : Int)) = true := decide_eq_true c5
   have c5b1 : decide (1 < t214.length) = true := decide_eq_true (by omega)
   clear c5
   by_cases c6 : 2 < (t214.length : Int)
   ·rw [if_pos c6] at H
    have c6b0 : decide (2 < (t214.length : Int)) = true := decide_eq_true c6
    have c6b1 : decide (2 < t214.length) = true := decide_eq_true (by omega)
    clear c6
    by_cases c7 : 3 < (t214.length : Int)
    ·rw [if_pos c7] at H
     have c7b0 : decide (3 < (t214.length : Int)) = true := decide_eq_true c7
     have c7b1 : decide (3 < t214.length) = true := decide_eq_true (by omega)
     clear c7
     by_cases c8 : 4 < (t214.length : Int)
     ·rw [if_pos c8] at H
      have c8b0 : decide (4 < (t214.length : Int)) = true := decide_eq_true c8
      have c8b1 : decide (4 < t214.length) = true := decide_eq_true (by omega)
      clear c8
      have HC9 := ak_ H
      clear H
      go_enter Try.func62, Try.ntmps62
      try go_wp2_with (first | ((with_reducible refine gate_dst (N := 2) rfl ?_); refine box_event ?hg (N := 2) ?hd (cs := #[.int .i64 0, .int .i64 0, .int .i64 0, .int .i64 0]) (t := 26) ?hr ?_; (case hd => rfl); (case hg => rfl); (case hr => first | (go_simp; done) | (go_simp; rfl)); intro gb210 hg w10 hbox hb; have n0_ := ak_ (below_step (by repeat (first | (with_reducible first | exact HB.out | apply below_alloc | apply pw_below_drewN | apply below_drew1) | exact HB.out)) hb); have n1_ := ak_ (hbox); have n2_ := ak_ ((by rw [hg]; exact (below_size (by repeat (first | (with_reducible first | exact HB.out | apply below_alloc | apply pw_below_drewN | apply below_drew1) | exact HB.out))) : w.heap.size ≤ gb210)); have n3_ := ak_ ((by rw [hg]; exact (below_size (by repeat (first | (with_reducible first | exact HB.out | apply below_alloc | apply pw_below_drewN | apply below_drew1) | exact HB.out))) : w.heap.size ≤ gb210)); clear HB; have HB := n0_; have BK210 := n1_; have GW210 := n2_; have GE210 := n3_; clear n0_ n1_ n2_ n3_; clear hb hbox hg) | ((with_reducible refine gate_callee (f := 67) rfl ?_); refine goesL_ (some 8) rfl rfl Try.func67 (by kernel_rfl) rfl #[] rfl (by (try simp only [List.map_toArray, List.map_cons, List.map_nil]); first | done | rfl | (simp only [List.length_drop, List.length_take]; rfl)) ?_; (with_reducible refine (tag_layout.calls  t211 _ A2.out).mono ?_); rintro e w11 ⟨v212, rfl, ho0, hb⟩; refine ⟨_, rfl, ?_⟩; have n0_ := ak_ (Kd.R_lower ho0 (below_size (by repeat (first | (with_reducible first | exact HB.out | apply below_alloc | apply pw_below_drewN | apply below_drew1 | refine below_set ?_ GE210.out) | exact HB.out)))); have n1_ := ak_ (blk_below (g := gb210) (o := .cells #[.int .i64 0, .int .i64 0, .int .i64 0, .int .i64 0] 26 (0, 0)) (by (with_reducible repeat (first | apply blk_drewN | apply blk_drew | apply blk_alloc)); exact BK210.out) hb); have n2_ := ak_ (below_step (by repeat (first | (with_reducible first | exact HB.out | apply below_alloc | apply pw_below_drewN | apply below_drew1 | refine below_set ?_ GE210.out) | exact HB.out)) hb); clear BK210; clear HB; have HO213 := n0_; have BK210 := n1_; have HB := n2_; clear n0_ n1_ n2_; (try clear hb); (try clear hb2); (try clear hk); (try clear hi); (try clear ho0); obtain ⟨Ao12, co12, eo12⟩ := Kd.R_slice HO213.out; subst eo12) | ((with_reducible refine gate_callee (f := 80) rfl ?_); refine goesL_ (some 10) rfl rfl Try.func80 (by kernel_rfl) rfl #[.slice Ao12 t211.length co12, .slice A0 l0.length c0] rfl (by (try simp only [List.map_toArray, List.map_cons, List.map_nil]); first | done | rfl | (simp only [List.length_drop, List.length_take]; rfl)) ?_; (with_reducible refine (pack_Take.calls k _ _ t211 (fun k_ => k_ < w.heap.size) _ _ l0 t214 t217 _ ?side1 ?side2 ?side3 A3.out).mono ?_); (case side1 => repeat (first | exact (Kd.R_reads' HO213.out).2.2 | (with_reducible refine Kd.C_alloc ?_ _) | (with_reducible refine Kd.C_drewN ?_ _) | (with_reducible refine Kd.C_drew ?_))); (case side2 => exact (Kd.R_reads' HO213.out).2.1); (case side3 => exact Kd.V_mk HC0.out (Kd.F_below (Kd.C_F (Kd.heap_int .u8) HR0.out) (by repeat (first | (with_reducible first | exact HB.out | apply below_alloc | apply pw_below_drewN | apply below_drew1 | refine below_set ?_ GE210.out) | exact HB.out)))); rintro e w13 ⟨v215, rfl, ho0, hb⟩; refine ⟨_, rfl, ?_⟩; have n0_ := ak_ (Kd.R_elder' (by (with_reducible repeat (first | apply Kd.R_alloc | apply Kd.R_drewN | apply Kd.R_drew)); exact HO213.out) (Kd.R_base ho0) hb); have n1_ := ak_ (Kd.R_lower (Kd.R_new' (Kd.R_mono (ok' := fun k_ => True) ho0 (fun _ hk_ => trivial)) (Kd.R_lt (by (with_reducible repeat (first | apply Kd.R_alloc | apply Kd.R_drewN | apply Kd.R_drew)); exact HO213.out))) (below_size (by repeat (first | (with_reducible first | exact HB.out | apply below_alloc | apply pw_below_drewN | apply below_drew1 | refine below_set ?_ GE210.out) | exact HB.out)))); have n2_ := ak_ (blk_below (g := gb210) (o := .cells #[.int .i64 0, .int .i64 0, .int .i64 0, .int .i64 0] 26 (0, 0)) (by (with_reducible repeat (first | apply blk_drewN | apply blk_drew | apply blk_alloc)); exact BK210.out) hb); have n3_ := ak_ (below_step (by repeat (first | (with_reducible first | exact HB.out | apply below_alloc | apply pw_below_drewN | apply below_drew1 | refine below_set ?_ GE210.out) | exact HB.out)) hb); clear HO213; clear BK210; clear HB; have HO213 := n0_; have HO216 := n1_; have BK210 := n2_; have HB := n3_; clear n0_ n1_ n2_ n3_; (try clear hb); (try clear hb2); (try clear hk); (try clear hi); (try clear ho0)))
      have n0_ := ak_ (Kd.R_drew HO213.out)
      have n1_ := ak_ (Kd.R_drew HO216.out)
      have n2_ := ak_ (blk_drew BK210.out)
      have n3_ := ak_ (below_drew1 HB.out)
      clear HO213
      clear HO216
      clear BK210
      clear HB
      have HO213 := n0_
      have HO216 := n1_
      have BK210 := n2_
      have HB := n3_
      clear n0_ n1_ n2_ n3_
      obtain ⟨Ao15, co15, eo15⟩ := Kd.R_slice HO216.out
      (first | subst eo15 | (injection eo15 with f1_ f2_ f3_; have f4_ := f1_.symm; have f5_ := f3_.symm; clear f1_ f2_ f3_; subst f4_; subst f5_))
      have p218 : 0 ≤ (1 : Int) := (by omega)
      have q218 : 1 < (t214.length : Int) := of_decide_eq_true (by first | (with_reducible assumption) | assumption)
      obtain ⟨ad218, e218, hx218_0⟩ := Kd.at_int (Kd.R_reads' HO216.out).2.2 1 p218 q218
      cases e218
      (try simp only [show (1 : Int).toNat = 1 from rfl, Nat.reduceMul, Nat.reduceEqDiff, Go.Addr.add, ↓reduceIte] at hx218_0)
      have qi218 : (1 < t214.length) = True := eq_true (by omega)
      (try rw [show ((1 : Int)).toNat = 1 from rfl] at hx218_0)
      replace p218 := eq_true p218
      replace q218 := eq_true q218
      have p219 : 0 ≤ (2 : Int) := (by omega)
      have q219 : 2 < (t214.length : Int) := of_decide_eq_true (by first | (with_reducible assumption) | assumption)
      obtain ⟨ad219, e219, hx219_0⟩ := Kd.at_int (Kd.R_reads' HO216.out).2.2 2 p219 q219
      obtain rfl : ad218 = ad219 := (by injection e219)
      (try simp only [show (2 : Int).toNat = 2 from rfl, Nat.reduceMul, Nat.reduceEqDiff, Go.Addr.add, ↓reduceIte] at hx219_0)
      have qi219 : (2 < t214.length) = True := eq_true (by omega)
      (try rw [show ((2 : Int)).toNat = 2 from rfl] at hx219_0)
      replace p219 := eq_true p219
      replace q219 := eq_true q219
      have p220 : 0 ≤ (3 : Int) := (by omega)
      have q220 : 3 < (t214.length : Int) := of_decide_eq_true (by first | (with_reducible assumption) | assumption)
      obtain ⟨ad220, e220, hx220_0⟩ := Kd.at_int (Kd.R_reads' HO216.out).2.2 3 p220 q220
      obtain rfl : ad218 = ad220 := (by injection e220)
      (try simp only [show (3 : Int).toNat = 3 from rfl, Nat.reduceMul, Nat.reduceEqDiff, Go.Addr.add, ↓reduceIte] at hx220_0)
      have qi220 : (3 < t214.length) = True := eq_true (by omega)
      (try rw [show ((3 : Int)).toNat = 3 from rfl] at hx220_0)
      replace p220 := eq_true p220
      replace q220 := eq_true q220
      have p221 : 0 ≤ (4 : Int) := (by omega)
      have q221 : 4 < (t214.length : Int) := of_decide_eq_true (by first | (with_reducible assumption) | assumption)
      obtain ⟨ad221, e221, hx221_0⟩ := Kd.at_int (Kd.R_reads' HO216.out).2.2 4 p221 q221
      obtain rfl : ad218 = ad221 := (by injection e221)
      (try simp only [show (4 : Int).toNat = 4 from rfl, Nat.reduceMul, Nat.reduceEqDiff, Go.Addr.add, ↓reduceIte] at hx221_0)
      have qi221 : (4 < t214.length) = True := eq_true (by omega)
      (try rw [show ((4 : Int)).toNat = 4 from rfl] at hx221_0)
      replace p221 := eq_true p221
      replace q221 := eq_true q221
      refine start_ (n := 15) (S := fun w' => w'.cell? ⟨ad218.block, ad218.off + 1, none⟩ = some (.int .i64 (rd t214 1)) ∧ w'.cell? ⟨ad218.block, ad218.off + 2, none⟩ = some (.int .i64 (rd t214 2)) ∧ w'.cell? ⟨ad218.block, ad218.off + 3, none⟩ = some (.int .i64 (rd t214 3)) ∧ w'.cell? ⟨ad218.block, ad218.off + 4, none⟩ = some (.int .i64 (rd t214 4))) (ds := []) #[false, false, false, false, false, false, false, false, false, false, false, false, false, false, false] (by kernel_rfl) rfl rfl ⟨hx218_0, hx219_0, hx220_0, hx221_0⟩ (fun hHeld => ?_); refine with_tabW tag_Take.tab4 tag_Take.bits4 (fun HT_ HW_ => ?_)
      generalize w13.drew = w14 at HO213 HO216 BK210 HB hx218_0 hx219_0 hx220_0 hx221_0 hHeld ⊢
      refine pure_ (i := 0) (N := some 17) (v := ?_) (a' := ?_) #[true, false, false, false, false, false, false, false, false, false, false, false, false, false, false] rfl rfl (any_of HT_.out (by kernel_rfl)) (fun _ _ _ h => h) (Or.inl ⟨by rfl, ?_⟩) ?_ ?_
      rotate_left
      ·intro w'
       go_simp
       with_reducible rfl
      rotate_left
      ·simp only [Act.put, List.setIfInBounds_toArray, List.set_cons_zero, List.set_cons_succ, i64_w, i32_w]
       rfl
      refine pure_ (i := 1) (N := some 18) (v := ?_) (a' := ?_) #[true, true, false, false, false, false, false, false, false, false, false, false, false, false, false] rfl rfl (any_of HT_.out (by kernel_rfl)) (fun _ _ _ h => h) (Or.inl ⟨by rfl, ?_⟩) ?_ ?_
      rotate_left
      ·intro w'
       go_simp
       with_reducible rfl
      rotate_left
      ·simp only [Act.put, List.setIfInBounds_toArray, List.set_cons_zero, List.set_cons_succ, i64_w, i32_w]
       rfl
      refine pure_ (i := 3) (N := some 20) (v := ?_) (a' := ?_) #[true, true, false, true, false, false, false, false, false, false, false, false, false, false, false] rfl rfl (any_of HT_.out (by kernel_rfl)) (fun _ _ _ h => h) (Or.inl ⟨by rfl, ?_⟩) ?_ ?_
      rotate_left
      ·intro w'
       go_simp
       with_reducible rfl
      rotate_left
      ·simp only [Act.put, List.setIfInBounds_toArray, List.set_cons_zero, List.set_cons_succ, i64_w, i32_w]
       rfl
      refine pure_ (i := 4) (N := some 21) (v := ?_) (a' := ?_) #[true, true, false, true, true, false, false, false, false, false, false, false, false, false, false] rfl rfl (any_of HT_.out (by kernel_rfl)) (fun _ _ _ h => h) (Or.inl ⟨by rfl, ?_⟩) ?_ ?_
      rotate_left
      ·intro w'
       go_simp
       with_reducible rfl
      rotate_left
      ·simp only [Act.put, List.setIfInBounds_toArray, List.set_cons_zero, List.set_cons_succ, i64_w, i32_w]
       rfl
      refine pure_ (i := 6) (N := some 23) (v := ?_) (a' := ?_) #[true, true, false, true, true, false, true, false, false, false, false, false, false, false, false] rfl rfl (any_of HT_.out (by kernel_rfl)) (fun _ _ _ h => h) (Or.inl ⟨by rfl, ?_⟩) ?_ ?_
      rotate_left
      ·intro w'
       go_simp
       with_reducible rfl
      rotate_left
      ·simp only [Act.put, List.setIfInBounds_toArray, List.set_cons_zero, List.set_cons_succ, i64_w, i32_w]
       rfl
      refine pure_ (i := 7) (N := some 24) (v := ?_) (a' := ?_) #[true, true, false, true, true, false, true, true, false, false, false, false, false, false, false] rfl rfl (any_of HT_.out (by kernel_rfl)) (fun _ _ _ h => h) (Or.inl ⟨by rfl, ?_⟩) ?_ ?_
      rotate_left
      ·intro w'
       go_simp
       with_reducible rfl
      rotate_left
      ·simp only [Act.put, List.setIfInBounds_toArray, List.set_cons_zero, List.set_cons_succ, i64_w, i32_w]
       rfl
      refine pure_ (i := 9) (N := some 26) (v := ?_) (a' := ?_) #[true, true, false, true, true, false, true, true, false, true, false, false, false, false, false] rfl rfl (any_of HT_.out (by kernel_rfl)) (fun _ _ _ h => h) (Or.inl ⟨by rfl, ?_⟩) ?_ ?_
      rotate_left
      ·intro w'
       go_simp
       with_reducible rfl
      rotate_left
      ·simp only [Act.put, List.setIfInBounds_toArray, List.set_cons_zero, List.set_cons_succ, i64_w, i32_w]
       rfl
      refine pure_ (i := 10) (N := some 27) (v := ?_) (a' := ?_) #[true, true, false, true, true, false, true, true, false, true, true, false, false, false, false] rfl rfl (any_of HT_.out (by kernel_rfl)) (fun _ _ _ h => h) (Or.inl ⟨by rfl, ?_⟩) ?_ ?_
      rotate_left
      ·intro w'
       go_simp
       with_reducible rfl
      rotate_left
      ·simp only [Act.put, List.setIfInBounds_toArray, List.set_cons_zero, List.set_cons_succ, i64_w, i32_w]
       rfl
      refine take_ (i := 2) (N := some 19) (v := ?_) (a' := ?_) #[true, true, true, true, true, false, true, true, false, true, true, false, false, false, false] rfl rfl (take_ofW HT_.out HW_.out (by kernel_rfl)) (fun _ _ _ h => h) (Or.inl ⟨by rfl, ?_⟩) hHeld ?_ ?_
      rotate_left
      ·rintro w' ⟨s0, s1, s2, s3⟩
       go_simp
       with_reducible rfl
      rotate_left
      ·simp only [Act.put, List.setIfInBounds_toArray, List.set_cons_zero, List.set_cons_succ, i64_w, i32_w]
       rfl
      refine take_ (i := 5) (N := some 22) (v := ?_) (a' := ?_) #[true, true, true, true, true, true, true, true, false, true, true, false, false, false, false] rfl rfl (take_ofW HT_.out HW_.out (by kernel_rfl)) (fun _ _ _ h => h) (Or.inl ⟨by rfl, ?_⟩) hHeld ?_ ?_
      rotate_left
      ·rintro w' ⟨s0, s1, s2, s3⟩
       go_simp
       with_reducible rfl
      rotate_left
      ·simp only [Act.put, List.setIfInBounds_toArray, List.set_cons_zero, List.set_cons_succ, i64_w, i32_w]
       rfl
      refine take_ (i := 8) (N := some 25) (v := ?_) (a' := ?_) #[true, true, true, true, true, true, true, true, true, true, true, false, false, false, false] rfl rfl (take_ofW HT_.out HW_.out (by kernel_rfl)) (fun _ _ _ h => h) (Or.inl ⟨by rfl, ?_⟩) hHeld ?_ ?_
      rotate_left
      ·rintro w' ⟨s0, s1, s2, s3⟩
       go_simp
       with_reducible rfl
      rotate_left
      ·simp only [Act.put, List.setIfInBounds_toArray, List.set_cons_zero, List.set_cons_succ, i64_w, i32_w]
       rfl
      refine take_ (i := 11) (N := some 28) (v := ?_) (a' := ?_) #[true, true, true, true, true, true, true, true, true, true, true, true, false, false, false] rfl rfl (take_ofW HT_.out HW_.out (by kernel_rfl)) (fun _ _ _ h => h) (Or.inl ⟨by rfl, ?_⟩) hHeld ?_ ?_
      rotate_left
      ·rintro w' ⟨s0, s1, s2, s3⟩
       go_simp
       with_reducible rfl
      rotate_left
      ·simp only [Act.put, List.setIfInBounds_toArray, List.set_cons_zero, List.set_cons_succ, i64_w, i32_w]
       rfl
      refine pure_ (i := 12) (N := some 29) (v := ?_) (a' := ?_) #[true, true, true, true, true, true, true, true, true, true, true, true, true, false, false] rfl rfl (any_of HT_.out (by kernel_rfl)) (fun _ _ _ h => h) (Or.inl ⟨by rfl, ?_⟩) ?_ ?_
      rotate_left
      ·intro w'
       go_simp
       with_reducible rfl
      rotate_left
      ·simp only [Act.put, List.setIfInBounds_toArray, List.set_cons_zero, List.set_cons_succ, i64_w, i32_w]
       rfl
      refine one_ (i := 13) (N := some 6) #[true, true, true, true, true, true, true, true, true, true, true, true, true, true, false] rfl rfl (one_of HT_.out (by kernel_rfl)) (by decide) (fun K hK => ?_)
      refine box_step ?hg (N := 6) ?hd (cs := #[.int .i64 0, .int .i64 0, .int .i64 0, .int .i64 0]) (t := 26) ?hr ?_; (case hd => rfl); (case hg => rfl); (case hr => first | (go_simp; done) | (go_simp; rfl))
      intro gb222 hg w16 hbox hb
      have HS0_ := (hb.cell (World.block_lt_of_cell? _ _ (hHeld.1))).trans (hHeld.1)
      have HS1_ := (hb.cell (World.block_lt_of_cell? _ _ (hHeld.2.1))).trans (hHeld.2.1)
      have HS2_ := (hb.cell (World.block_lt_of_cell? _ _ (hHeld.2.2.1))).trans (hHeld.2.2.1)
      have HS3_ := (hb.cell (World.block_lt_of_cell? _ _ (hHeld.2.2.2))).trans (hHeld.2.2.2)
      have n0_ := ak_ (Kd.R_below (by (with_reducible repeat (first | apply Kd.R_alloc | apply Kd.R_drewN | apply Kd.R_drew)); exact HO213.out) hb)
      have n1_ := ak_ (Kd.R_below (by (with_reducible repeat (first | apply Kd.R_alloc | apply Kd.R_drewN | apply Kd.R_drew)); exact HO216.out) hb)
      have n2_ := ak_ (blk_below (g := gb210) (o := .cells #[.int .i64 0, .int .i64 0, .int .i64 0, .int .i64 0] 26 (0, 0)) (by (with_reducible repeat (first | apply blk_drewN | apply blk_drew | apply blk_alloc)); exact BK210.out) hb)
      have n3_ := ak_ (below_step (by repeat (first | (with_reducible first | exact HB.out | apply below_alloc | apply pw_below_drewN | apply below_drew1 | refine below_set ?_ GE210.out) | exact HB.out)) hb)
      have n4_ := ak_ (hbox)
      have n5_ := ak_ ((by rw [hg]; exact (below_size (by repeat (first | (with_reducible first | exact HB.out | apply below_alloc | apply pw_below_drewN | apply below_drew1 | refine below_set ?_ GE210.out) | exact HB.out))) : w.heap.size ≤ gb222))
      have n6_ := ak_ ((by rw [hg]; exact (below_size (by repeat (first | (with_reducible first | exact HB.out | apply below_alloc | apply pw_below_drewN | apply below_drew1 | refine below_set ?_ GE210.out) | exact HB.out))) : w.heap.size ≤ gb222))
      have n7_ := ak_ ((by rw [hg]; exact Nat.ne_of_lt (blk_lt (g := gb210) (o := .cells #[.int .i64 0, .int .i64 0, .int .i64 0, .int .i64 0] 26 (0, 0)) (by (with_reducible repeat (first | apply blk_drewN | apply blk_drew | apply blk_alloc)); exact BK210.out)) : gb210 ≠ gb222))
      have n8_ := ak_ ((by rw [hg]; exact Nat.ne_of_gt (blk_lt (g := gb210) (o := .cells #[.int .i64 0, .int .i64 0, .int .i64 0, .int .i64 0] 26 (0, 0)) (by (with_reducible repeat (first | apply blk_drewN | apply blk_drew | apply blk_alloc)); exact BK210.out)) : gb222 ≠ gb210))
      clear HO213
      clear HO216
      clear BK210
      clear HB
      have HO213 := n0_
      have HO216 := n1_
      have BK210 := n2_
      have HB := n3_
      have BK222 := n4_
      have GW222 := n5_
      have GE222 := n6_
      have NB210_222 := n7_
      have NB222_210 := n8_
      clear n0_ n1_ n2_ n3_ n4_ n5_ n6_ n7_ n8_
      clear hb hbox hg
      refine hK.out _ _ ⟨HS0_, HS1_, HS2_, HS3_⟩ (fun hHeld => ?_)
      clear hK K
      refine norm_ (a' := ?_) ?_ ?_
      rotate_left
      ·show Act.put _ (some 6) _ = _
       simp only [Act.put, List.setIfInBounds_toArray, List.set_cons_zero, List.set_cons_succ, i64_w, i32_w]
       rfl
      refine one_ (i := 14) (N := none) #[true, true, true, true, true, true, true, true, true, true, true, true, true, true, true] rfl rfl (one_of HT_.out (by kernel_rfl)) (by decide) (fun K hK => ?_)
      have hs17 : w16.cell? ⟨gb222, 0, none⟩ = some (.int .i64 0) := (blk_cell BK222.out 0).trans rfl
      have hfs17 := blk_frozen BK222.out 0
      have hns17_0 := NB210_222.out
      have hms17_0 := NB222_210.out
      have hs18 : w16.cell? ⟨gb222, 1, none⟩ = some (.int .i64 0) := (blk_cell BK222.out 1).trans rfl
      have hfs18 := blk_frozen BK222.out 1
      have hns18_0 := NB210_222.out
      have hms18_0 := NB222_210.out
      have hs19 : w16.cell? ⟨gb222, 2, none⟩ = some (.int .i64 0) := (blk_cell BK222.out 2).trans rfl
      have hfs19 := blk_frozen BK222.out 2
      have hns19_0 := NB210_222.out
      have hms19_0 := NB222_210.out
      have hs20 : w16.cell? ⟨gb222, 3, none⟩ = some (.int .i64 0) := (blk_cell BK222.out 3).trans rfl
      have hfs20 := blk_frozen BK222.out 3
      have hns20_0 := NB210_222.out
      have hms20_0 := NB222_210.out
      refine skip_ (w1 := ?_) (by rfl) rfl ?_ ?_
      rotate_left
      ·go_simp
       rfl
      refine hK.out _ _ ⟨((cell_far (p := ⟨gb222, _, none⟩) (by first | exact Kd.own_blk (Kd.R_ne HO216.out BK222.out (by decide)) | (rw [add_block]; exact Kd.own_blk (Kd.R_ne HO216.out BK222.out (by decide))) | (show (Addr.add _ _).block ≠ _; rw [add_block]; exact Kd.own_blk (Kd.R_ne HO216.out BK222.out (by decide))) | (dsimp only; exact Kd.own_blk (Kd.R_ne HO216.out BK222.out (by decide)))) _).trans (((cell_far (p := ⟨gb222, _, none⟩) (by first | exact Kd.own_blk (Kd.R_ne HO216.out BK222.out (by decide)) | (rw [add_block]; exact Kd.own_blk (Kd.R_ne HO216.out BK222.out (by decide))) | (show (Addr.add _ _).block ≠ _; rw [add_block]; exact Kd.own_blk (Kd.R_ne HO216.out BK222.out (by decide))) | (dsimp only; exact Kd.own_blk (Kd.R_ne HO216.out BK222.out (by decide)))) _).trans (((cell_far (p := ⟨gb222, _, none⟩) (by first | exact Kd.own_blk (Kd.R_ne HO216.out BK222.out (by decide)) | (rw [add_block]; exact Kd.own_blk (Kd.R_ne HO216.out BK222.out (by decide))) | (show (Addr.add _ _).block ≠ _; rw [add_block]; exact Kd.own_blk (Kd.R_ne HO216.out BK222.out (by decide))) | (dsimp only; exact Kd.own_blk (Kd.R_ne HO216.out BK222.out (by decide)))) _).trans (((cell_far (p := ⟨gb222, _, none⟩) (by first | exact Kd.own_blk (Kd.R_ne HO216.out BK222.out (by decide)) | (rw [add_block]; exact Kd.own_blk (Kd.R_ne HO216.out BK222.out (by decide))) | (show (Addr.add _ _).block ≠ _; rw [add_block]; exact Kd.own_blk (Kd.R_ne HO216.out BK222.out (by decide))) | (dsimp only; exact Kd.own_blk (Kd.R_ne HO216.out BK222.out (by decide)))) _).trans (hHeld.1)))))))), ((cell_far (p := ⟨gb222, _, none⟩) (by first | exact Kd.own_blk (Kd.R_ne HO216.out BK222.out (by decide)) | (rw [add_block]; exact Kd.own_blk (Kd.R_ne HO216.out BK222.out (by decide))) | (show (Addr.add _ _).block ≠ _; rw [add_block]; exact Kd.own_blk (Kd.R_ne HO216.out BK222.out (by decide))) | (dsimp only; exact Kd.own_blk (Kd.R_ne HO216.out BK222.out (by decide)))) _).trans (((cell_far (p := ⟨gb222, _, none⟩) (by first | exact Kd.own_blk (Kd.R_ne HO216.out BK222.out (by decide)) | (rw [add_block]; exact Kd.own_blk (Kd.R_ne HO216.out BK222.out (by decide))) | (show (Addr.add _ _).block ≠ _; rw [add_block]; exact Kd.own_blk (Kd.R_ne HO216.out BK222.out (by decide))) | (dsimp only; exact Kd.own_blk (Kd.R_ne HO216.out BK222.out (by decide)))) _).trans (((cell_far (p := ⟨gb222, _, none⟩) (by first | exact Kd.own_blk (Kd.R_ne HO216.out BK222.out (by decide)) | (rw [add_block]; exact Kd.own_blk (Kd.R_ne HO216.out BK222.out (by decide))) | (show (Addr.add _ _).block ≠ _; rw [add_block]; exact Kd.own_blk (Kd.R_ne HO216.out BK222.out (by decide))) | (dsimp only; exact Kd.own_blk (Kd.R_ne HO216.out BK222.out (by decide)))) _).trans (((cell_far (p := ⟨gb222, _, none⟩) (by first | exact Kd.own_blk (Kd.R_ne HO216.out BK222.out (by decide)) | (rw [add_block]; exact Kd.own_blk (Kd.R_ne HO216.out BK222.out (by decide))) | (show (Addr.add _ _).block ≠ _; rw [add_block]; exact Kd.own_blk (Kd.R_ne HO216.out BK222.out (by decide))) | (dsimp only; exact Kd.own_blk (Kd.R_ne HO216.out BK222.out (by decide)))) _).trans (hHeld.2.1)))))))), ((cell_far (p := ⟨gb222, _, none⟩) (by first | exact Kd.own_blk (Kd.R_ne HO216.out BK222.out (by decide)) | (rw [add_block]; exact Kd.own_blk (Kd.R_ne HO216.out BK222.out (by decide))) | (show (Addr.add _ _).block ≠ _; rw [add_block]; exact Kd.own_blk (Kd.R_ne HO216.out BK222.out (by decide))) | (dsimp only; exact Kd.own_blk (Kd.R_ne HO216.out BK222.out (by decide)))) _).trans (((cell_far (p := ⟨gb222, _, none⟩) (by first | exact Kd.own_blk (Kd.R_ne HO216.out BK222.out (by decide)) | (rw [add_block]; exact Kd.own_blk (Kd.R_ne HO216.out BK222.out (by decide))) | (show (Addr.add _ _).block ≠ _; rw [add_block]; exact Kd.own_blk (Kd.R_ne HO216.out BK222.out (by decide))) | (dsimp only; exact Kd.own_blk (Kd.R_ne HO216.out BK222.out (by decide)))) _).trans (((cell_far (p := ⟨gb222, _, none⟩) (by first | exact Kd.own_blk (Kd.R_ne HO216.out BK222.out (by decide)) | (rw [add_block]; exact Kd.own_blk (Kd.R_ne HO216.out BK222.out (by decide))) | (show (Addr.add _ _).block ≠ _; rw [add_block]; exact Kd.own_blk (Kd.R_ne HO216.out BK222.out (by decide))) | (dsimp only; exact Kd.own_blk (Kd.R_ne HO216.out BK222.out (by decide)))) _).trans (((cell_far (p := ⟨gb222, _, none⟩) (by first | exact Kd.own_blk (Kd.R_ne HO216.out BK222.out (by decide)) | (rw [add_block]; exact Kd.own_blk (Kd.R_ne HO216.out BK222.out (by decide))) | (show (Addr.add _ _).block ≠ _; rw [add_block]; exact Kd.own_blk (Kd.R_ne HO216.out BK222.out (by decide))) | (dsimp only; exact Kd.own_blk (Kd.R_ne HO216.out BK222.out (by decide)))) _).trans (hHeld.2.2.1)))))))), ((cell_far (p := ⟨gb222, _, none⟩) (by first | exact Kd.own_blk (Kd.R_ne HO216.out BK222.out (by decide)) | (rw [add_block]; exact Kd.own_blk (Kd.R_ne HO216.out BK222.out (by decide))) | (show (Addr.add _ _).block ≠ _; rw [add_block]; exact Kd.own_blk (Kd.R_ne HO216.out BK222.out (by decide))) | (dsimp only; exact Kd.own_blk (Kd.R_ne HO216.out BK222.out (by decide)))) _).trans (((cell_far (p := ⟨gb222, _, none⟩) (by first | exact Kd.own_blk (Kd.R_ne HO216.out BK222.out (by decide)) | (rw [add_block]; exact Kd.own_blk (Kd.R_ne HO216.out BK222.out (by decide))) | (show (Addr.add _ _).block ≠ _; rw [add_block]; exact Kd.own_blk (Kd.R_ne HO216.out BK222.out (by decide))) | (dsimp only; exact Kd.own_blk (Kd.R_ne HO216.out BK222.out (by decide)))) _).trans (((cell_far (p := ⟨gb222, _, none⟩) (by first | exact Kd.own_blk (Kd.R_ne HO216.out BK222.out (by decide)) | (rw [add_block]; exact Kd.own_blk (Kd.R_ne HO216.out BK222.out (by decide))) | (show (Addr.add _ _).block ≠ _; rw [add_block]; exact Kd.own_blk (Kd.R_ne HO216.out BK222.out (by decide))) | (dsimp only; exact Kd.own_blk (Kd.R_ne HO216.out BK222.out (by decide)))) _).trans (((cell_far (p := ⟨gb222, _, none⟩) (by first | exact Kd.own_blk (Kd.R_ne HO216.out BK222.out (by decide)) | (rw [add_block]; exact Kd.own_blk (Kd.R_ne HO216.out BK222.out (by decide))) | (show (Addr.add _ _).block ≠ _; rw [add_block]; exact Kd.own_blk (Kd.R_ne HO216.out BK222.out (by decide))) | (dsimp only; exact Kd.own_blk (Kd.R_ne HO216.out BK222.out (by decide)))) _).trans (hHeld.2.2.2))))))))⟩ (fun hHeld => ?_)
      clear hK K
      refine done_ (done_of HT_.out (by kernel_rfl)) ?_
      go_upto_region 5 with (fail)
      go_cut [44] (fun v44 wc => ∃ (kq : Nat) (x44_8 : Bool), v44 = .bool x44_8 ∧ Aside0 (tag_Take.j0 kq x44_8 (rd t214 1) (rd t214 2) (rd t214 3) (rd t214 4) = some (r1, r2, r3, r4, r5)) ∧ Aside0 (kq ≤ k) ∧ Aside0 (wc.heap[gb210]? = some (.cells #[.int .i64 0, .int .i64 0, .int .i64 0, .int .i64 0] 26 (0, 0))) ∧ Aside0 (wc.heap[gb222]? = some (.cells #[.int .i64 (rd t214 1), .int .i64 (rd t214 2), .int .i64 (rd t214 3), .int .i64 (rd t214 4)] 26 (0, 0))) ∧ Aside0 (Below w.heap.size w wc))
      case first =>
       have H := HC9.out
       clear HC9
       by_cases c21 : 0 < (t214.length : Int)
       ·rw [if_pos c21] at H
        have c21b0 : decide (0 < (t214.length : Int)) = true := decide_eq_true c21
        have c21b1 : decide (0 < t214.length) = true := decide_eq_true (by omega)
        clear c21
        (first | rw [c21b0] | (simp only [i64_w, i32_w]; rw [c21b0]) | skip)
        by_cases c22 : (rd t214 0) = 0
        ·rw [if_pos c22] at H
         have c22b0 : ((rd t214 0) == 0) = true := beq_iff_eq.mpr c22
         have c22b1 : ((rd t214 0) != 0) = false := bne_eq_false_iff_eq.mpr c22
         clear c22
         by_cases c23 : 5 < (t214.length : Int)
         ·rw [if_pos c23] at H
          have c23b0 : decide (5 < (t214.length : Int)) = true := decide_eq_true c23
          have c23b1 : decide (5 < t214.length) = true := decide_eq_true (by omega)
          clear c23
          by_cases c24 : (rd t214 5) = 0
          ·rw [if_pos c24] at H
           have c24b0 : ((rd t214 5) == 0) = true := beq_iff_eq.mpr c24
           have c24b1 : ((rd t214 5) != 0) = false := bne_eq_false_iff_eq.mpr c24
           clear c24
           replace H := Option.bind_eq_some_iff.mp H
           obtain ⟨t225, A250, H⟩ := H
           replace H : (tag_Take.j0 k (!t225) (rd t214 1) (rd t214 2) (rd t214 3) (rd t214 4)) = some (r1, r2, r3, r4, r5) := H
           have A25 := ak_ A250
           clear A250
           have H' := ak_ H
           clear H
           have p223 : 0 ≤ (0 : Int) := (by omega)
           have q223 : 0 < (t214.length : Int) := of_decide_eq_true (by first | (with_reducible assumption) | assumption)
           obtain ⟨ad223, e223, hx223_0⟩ := Kd.at_int (Kd.R_reads' HO216.out).2.2 0 p223 q223
           obtain rfl : ad218 = ad223 := (by injection e223)
           have qi223 : (0 < t214.length) = True := eq_true (by omega)
           (try rw [show ((0 : Int)).toNat = 0 from rfl] at hx223_0)
           (try rw [Addr.add_zero'] at hx223_0)
           have hn223_0 : ad218.block ≠ gb222 := Kd.own_blk (Kd.R_ne HO216.out BK222.out (by decide))
           have hn223_1 : ad218.block ≠ gb222 := Kd.own_blk (Kd.R_ne HO216.out BK222.out (by decide))
           have hn223_2 : ad218.block ≠ gb222 := Kd.own_blk (Kd.R_ne HO216.out BK222.out (by decide))
           have hn223_3 : ad218.block ≠ gb222 := Kd.own_blk (Kd.R_ne HO216.out BK222.out (by decide))
           replace hx223_0 := (cell_far (p := ⟨gb222, 0, none⟩) (by first | (rw [add_block]; exact hn223_0) | (show (Addr.add _ _).block ≠ _; rw [add_block]; exact hn223_0) | exact hn223_0) (.int .i64 (rd t214 1))).trans hx223_0
           replace hx223_0 := (cell_far (p := ⟨gb222, 1, none⟩) (by first | (rw [add_block]; exact hn223_1) | (show (Addr.add _ _).block ≠ _; rw [add_block]; exact hn223_1) | exact hn223_1) (.int .i64 (rd t214 2))).trans hx223_0
           replace hx223_0 := (cell_far (p := ⟨gb222, 2, none⟩) (by first | (rw [add_block]; exact hn223_2) | (show (Addr.add _ _).block ≠ _; rw [add_block]; exact hn223_2) | exact hn223_2) (.int .i64 (rd t214 3))).trans hx223_0
           replace hx223_0 := (cell_far (p := ⟨gb222, 3, none⟩) (by first | (rw [add_block]; exact hn223_3) | (show (Addr.add _ _).block ≠ _; rw [add_block]; exact hn223_3) | exact hn223_3) (.int .i64 (rd t214 4))).trans hx223_0
           clear hn223_0
           clear hn223_1
           clear hn223_2
           clear hn223_3
           replace p223 := eq_true p223
           replace q223 := eq_true q223
           have p224 : 0 ≤ (5 : Int) := (by omega)
           have q224 : 5 < (t214.length : Int) := of_decide_eq_true (by first | (with_reducible assumption) | assumption)
           obtain ⟨ad224, e224, hx224_0⟩ := Kd.at_int (Kd.R_reads' HO216.out).2.2 5 p224 q224
           obtain rfl : ad218 = ad224 := (by injection e224)
           (try simp only [show (5 : Int).toNat = 5 from rfl, Nat.reduceMul, Nat.reduceEqDiff, Go.Addr.add, ↓reduceIte] at hx224_0)
           have qi224 : (5 < t214.length) = True := eq_true (by omega)
           (try rw [show ((5 : Int)).toNat = 5 from rfl] at hx224_0)
           have hn224_0 : ad218.block ≠ gb222 := Kd.own_blk (Kd.R_ne HO216.out BK222.out (by decide))
           have hn224_1 : ad218.block ≠ gb222 := Kd.own_blk (Kd.R_ne HO216.out BK222.out (by decide))
           have hn224_2 : ad218.block ≠ gb222 := Kd.own_blk (Kd.R_ne HO216.out BK222.out (by decide))
           have hn224_3 : ad218.block ≠ gb222 := Kd.own_blk (Kd.R_ne HO216.out BK222.out (by decide))
           replace hx224_0 := (cell_far (p := ⟨gb222, 0, none⟩) (by first | (rw [add_block]; exact hn224_0) | (show (Addr.add _ _).block ≠ _; rw [add_block]; exact hn224_0) | exact hn224_0) (.int .i64 (rd t214 1))).trans hx224_0
           replace hx224_0 := (cell_far (p := ⟨gb222, 1, none⟩) (by first | (rw [add_block]; exact hn224_1) | (show (Addr.add _ _).block ≠ _; rw [add_block]; exact hn224_1) | exact hn224_1) (.int .i64 (rd t214 2))).trans hx224_0
           replace hx224_0 := (cell_far (p := ⟨gb222, 2, none⟩) (by first | (rw [add_block]; exact hn224_2) | (show (Addr.add _ _).block ≠ _; rw [add_block]; exact hn224_2) | exact hn224_2) (.int .i64 (rd t214 3))).trans hx224_0
           replace hx224_0 := (cell_far (p := ⟨gb222, 3, none⟩) (by first | (rw [add_block]; exact hn224_3) | (show (Addr.add _ _).block ≠ _; rw [add_block]; exact hn224_3) | exact hn224_3) (.int .i64 (rd t214 4))).trans hx224_0
           clear hn224_0
           clear hn224_1
           clear hn224_2
           clear hn224_3
           replace p224 := eq_true p224
           replace q224 := eq_true q224
           have hnb26 := NB222_210.out
           have hnc26 := NB210_222.out
           have hcz27_0 : w16.cell? ⟨gb222, 0, none⟩ = some (.int .i64 0) := (blk_cell BK222.out 0).trans rfl
           have hcz27_1 : w16.cell? ⟨gb222, 1, none⟩ = some (.int .i64 0) := (blk_cell BK222.out 1).trans rfl
           have hcz27_2 : w16.cell? ⟨gb222, 2, none⟩ = some (.int .i64 0) := (blk_cell BK222.out 2).trans rfl
           have hcz27_3 : w16.cell? ⟨gb222, 3, none⟩ = some (.int .i64 0) := (blk_cell BK222.out 3).trans rfl
           have hfz27_0 := blk_frozen BK222.out 0
           have hfz27_1 := blk_frozen BK222.out 1
           have hfz27_2 := blk_frozen BK222.out 2
           have hfz27_3 := blk_frozen BK222.out 3
           go_wp2_with (first | (go_at_call 65; (with_reducible refine (tag_May.calls (rd t214 1) (rd t214 2) (rd t214 3) (rd t214 4) t225 _ A25.out).mono ?_); rintro e w28 ⟨rfl, hb⟩; have n0_ := ak_ (Kd.R_below (by (with_reducible repeat (first | apply Kd.R_alloc | apply Kd.R_drewN | apply Kd.R_drew)); exact (Kd.R_mono (Kd.R_far (p := ⟨gb222, 3, none⟩) (Kd.R_far (p := ⟨gb222, 2, none⟩) (Kd.R_far (p := ⟨gb222, 1, none⟩) (Kd.R_far (p := ⟨gb222, 0, none⟩) (Kd.R_types HO213.out BK222.out (by decide)) (fun _ hk => hk.2) (.int .i64 (rd t214 1))) (fun _ hk => hk.2) (.int .i64 (rd t214 2))) (fun _ hk => hk.2) (.int .i64 (rd t214 3))) (fun _ hk => hk.2) (.int .i64 (rd t214 4))) (fun _ h_ => h_.1))) hb); have n1_ := ak_ (Kd.R_below (by (with_reducible repeat (first | apply Kd.R_alloc | apply Kd.R_drewN | apply Kd.R_drew)); exact (Kd.R_mono (Kd.R_far (p := ⟨gb222, 3, none⟩) (Kd.R_far (p := ⟨gb222, 2, none⟩) (Kd.R_far (p := ⟨gb222, 1, none⟩) (Kd.R_far (p := ⟨gb222, 0, none⟩) (Kd.R_types HO216.out BK222.out (by decide)) (fun _ hk => hk.2) (.int .i64 (rd t214 1))) (fun _ hk => hk.2) (.int .i64 (rd t214 2))) (fun _ hk => hk.2) (.int .i64 (rd t214 3))) (fun _ hk => hk.2) (.int .i64 (rd t214 4))) (fun _ h_ => h_.1))) hb); have n2_ := ak_ (blk_below (g := gb210) (o := .cells #[.int .i64 0, .int .i64 0, .int .i64 0, .int .i64 0] 26 (0, 0)) (by (with_reducible repeat (first | apply blk_drewN | apply blk_drew | apply blk_alloc)); refine blk_far ?_ NB210_222.out _; (with_reducible repeat (first | apply blk_drewN | apply blk_drew | apply blk_alloc)); refine blk_far ?_ NB210_222.out _; (with_reducible repeat (first | apply blk_drewN | apply blk_drew | apply blk_alloc)); refine blk_far ?_ NB210_222.out _; (with_reducible repeat (first | apply blk_drewN | apply blk_drew | apply blk_alloc)); refine blk_far ?_ NB210_222.out _; (with_reducible repeat (first | apply blk_drewN | apply blk_drew | apply blk_alloc)); exact BK210.out) hb); have n3_ := ak_ (blk_below (g := gb222) (o := .cells #[.int .i64 (rd t214 1), .int .i64 (rd t214 2), .int .i64 (rd t214 3), .int .i64 (rd t214 4)] 26 (0, 0)) (by (with_reducible repeat (first | apply blk_drewN | apply blk_drew | apply blk_alloc)); refine blk_put (cs := #[.int .i64 (rd t214 1), .int .i64 (rd t214 2), .int .i64 (rd t214 3), .int .i64 0]) ?_ 3 _ rfl; (with_reducible repeat (first | apply blk_drewN | apply blk_drew | apply blk_alloc)); refine blk_put (cs := #[.int .i64 (rd t214 1), .int .i64 (rd t214 2), .int .i64 0, .int .i64 0]) ?_ 2 _ rfl; (with_reducible repeat (first | apply blk_drewN | apply blk_drew | apply blk_alloc)); refine blk_put (cs := #[.int .i64 (rd t214 1), .int .i64 0, .int .i64 0, .int .i64 0]) ?_ 1 _ rfl; (with_reducible repeat (first | apply blk_drewN | apply blk_drew | apply blk_alloc)); refine blk_put (cs := #[.int .i64 0, .int .i64 0, .int .i64 0, .int .i64 0]) ?_ 0 _ rfl; (with_reducible repeat (first | apply blk_drewN | apply blk_drew | apply blk_alloc)); exact BK222.out) hb); have n4_ := ak_ (below_step (by repeat (first | (with_reducible first | exact HB.out | apply below_alloc | apply pw_below_drewN | apply below_drew1 | refine below_set ?_ GE210.out | refine below_set ?_ GE222.out) | exact HB.out)) hb); clear HO213; clear HO216; clear BK210; clear BK222; clear HB; have HO213 := n0_; have HO216 := n1_; have BK210 := n2_; have BK222 := n3_; have HB := n4_; clear n0_ n1_ n2_ n3_ n4_; (try clear hb); (try clear hb2); (try clear hk); (try clear hi)))
           go_meet
           case rel => exact ⟨_, (!t225), (by first | rfl | (simp; done) | (simp [*]; done)), H', ⟨by first | omega | exact Nat.le_refl _⟩, ⟨by (with_reducible repeat (first | apply blk_drewN | apply blk_drew | apply blk_alloc)); exact BK210.out⟩, ⟨by (with_reducible repeat (first | apply blk_drewN | apply blk_drew | apply blk_alloc)); exact BK222.out⟩, ⟨by repeat (first | (with_reducible first | exact HB.out | apply below_alloc | apply pw_below_drewN | apply below_drew1 | refine below_set ?_ GE210.out | refine below_set ?_ GE222.out) | exact HB.out)⟩⟩
          ·rw [if_neg c24] at H
           have c24b0 : ((rd t214 5) == 0) = false := beq_eq_false_iff_ne.mpr c24
           have c24b1 : ((rd t214 5) != 0) = true := bne_iff_ne.mpr c24
           have H' := ak_ H
           clear H
           have p223 : 0 ≤ (0 : Int) := (by omega)
           have q223 : 0 < (t214.length : Int) := of_decide_eq_true (by first | (with_reducible assumption) | assumption)
           obtain ⟨ad223, e223, hx223_0⟩ := Kd.at_int (Kd.R_reads' HO216.out).2.2 0 p223 q223
           obtain rfl : ad218 = ad223 := (by injection e223)
           have qi223 : (0 < t214.length) = True := eq_true (by omega)
           (try rw [show ((0 : Int)).toNat = 0 from rfl] at hx223_0)
           (try rw [Addr.add_zero'] at hx223_0)
           have hn223_0 : ad218.block ≠ gb222 := Kd.own_blk (Kd.R_ne HO216.out BK222.out (by decide))
           have hn223_1 : ad218.block ≠ gb222 := Kd.own_blk (Kd.R_ne HO216.out BK222.out (by decide))
           have hn223_2 : ad218.block ≠ gb222 := Kd.own_blk (Kd.R_ne HO216.out BK222.out (by decide))
           have hn223_3 : ad218.block ≠ gb222 := Kd.own_blk (Kd.R_ne HO216.out BK222.out (by decide))
           replace hx223_0 := (cell_far (p := ⟨gb222, 0, none⟩) (by first | (rw [add_block]; exact hn223_0) | (show (Addr.add _ _).block ≠ _; rw [add_block]; exact hn223_0) | exact hn223_0) (.int .i64 (rd t214 1))).trans hx223_0
           replace hx223_0 := (cell_far (p := ⟨gb222, 1, none⟩) (by first | (rw [add_block]; exact hn223_1) | (show (Addr.add _ _).block ≠ _; rw [add_block]; exact hn223_1) | exact hn223_1) (.int .i64 (rd t214 2))).trans hx223_0
           replace hx223_0 := (cell_far (p := ⟨gb222, 2, none⟩) (by first | (rw [add_block]; exact hn223_2) | (show (Addr.add _ _).block ≠ _; rw [add_block]; exact hn223_2) | exact hn223_2) (.int .i64 (rd t214 3))).trans hx223_0
           replace hx223_0 := (cell_far (p := ⟨gb222, 3, none⟩) (by first | (rw [add_block]; exact hn223_3) | (show (Addr.add _ _).block ≠ _; rw [add_block]; exact hn223_3) | exact hn223_3) (.int .i64 (rd t214 4))).trans hx223_0
           clear hn223_0
           clear hn223_1
           clear hn223_2
           clear hn223_3
           replace p223 := eq_true p223
           replace q223 := eq_true q223
           have p224 : 0 ≤ (5 : Int) := (by omega)
           have q224 : 5 < (t214.length : Int) := of_decide_eq_true (by first | (with_reducible assumption) | assumption)
           obtain ⟨ad224, e224, hx224_0⟩ := Kd.at_int (Kd.R_reads' HO216.out).2.2 5 p224 q224
           obtain rfl : ad218 = ad224 := (by injection e224)
           (try simp only [show (5 : Int).toNat = 5 from rfl, Nat.reduceMul, Nat.reduceEqDiff, Go.Addr.add, ↓reduceIte] at hx224_0)
           have qi224 : (5 < t214.length) = True := eq_true (by omega)
           (try rw [show ((5 : Int)).toNat = 5 from rfl] at hx224_0)
           have hn224_0 : ad218.block ≠ gb222 := Kd.own_blk (Kd.R_ne HO216.out BK222.out (by decide))
           have hn224_1 : ad218.block ≠ gb222 := Kd.own_blk (Kd.R_ne HO216.out BK222.out (by decide))
           have hn224_2 : ad218.block ≠ gb222 := Kd.own_blk (Kd.R_ne HO216.out BK222.out (by decide))
           have hn224_3 : ad218.block ≠ gb222 := Kd.own_blk (Kd.R_ne HO216.out BK222.out (by decide))
           replace hx224_0 := (cell_far (p := ⟨gb222, 0, none⟩) (by first | (rw [add_block]; exact hn224_0) | (show (Addr.add _ _).block ≠ _; rw [add_block]; exact hn224_0) | exact hn224_0) (.int .i64 (rd t214 1))).trans hx224_0
           replace hx224_0 := (cell_far (p := ⟨gb222, 1, none⟩) (by first | (rw [add_block]; exact hn224_1) | (show (Addr.add _ _).block ≠ _; rw [add_block]; exact hn224_1) | exact hn224_1) (.int .i64 (rd t214 2))).trans hx224_0
           replace hx224_0 := (cell_far (p := ⟨gb222, 2, none⟩) (by first | (rw [add_block]; exact hn224_2) | (show (Addr.add _ _).block ≠ _; rw [add_block]; exact hn224_2) | exact hn224_2) (.int .i64 (rd t214 3))).trans hx224_0
           replace hx224_0 := (cell_far (p := ⟨gb222, 3, none⟩) (by first | (rw [add_block]; exact hn224_3) | (show (Addr.add _ _).block ≠ _; rw [add_block]; exact hn224_3) | exact hn224_3) (.int .i64 (rd t214 4))).trans hx224_0
           clear hn224_0
           clear hn224_1
           clear hn224_2
           clear hn224_3
           replace p224 := eq_true p224
           replace q224 := eq_true q224
           go_wp2
           go_meet
           case rel => exact ⟨_, (true), (by first | rfl | (simp; done) | (simp [*]; done)), H', ⟨by first | omega | exact Nat.le_refl _⟩, ⟨by (with_reducible repeat (first | apply blk_drewN | apply blk_drew | apply blk_alloc)); refine blk_far ?_ NB210_222.out _; (with_reducible repeat (first | apply blk_drewN | apply blk_drew | apply blk_alloc)); refine blk_far ?_ NB210_222.out _; (with_reducible repeat (first | apply blk_drewN | apply blk_drew | apply blk_alloc)); refine blk_far ?_ NB210_222.out _; (with_reducible repeat (first | apply blk_drewN | apply blk_drew | apply blk_alloc)); refine blk_far ?_ NB210_222.out _; (with_reducible repeat (first | apply blk_drewN | apply blk_drew | apply blk_alloc)); exact BK210.out⟩, ⟨by (with_reducible repeat (first | apply blk_drewN | apply blk_drew | apply blk_alloc)); refine blk_put (cs := #[.int .i64 (rd t214 1), .int .i64 (rd t214 2), .int .i64 (rd t214 3), .int .i64 0]) ?_ 3 _ rfl; (with_reducible repeat (first | apply blk_drewN | apply blk_drew | apply blk_alloc)); refine blk_put (cs := #[.int .i64 (rd t214 1), .int .i64 (rd t214 2), .int .i64 0, .int .i64 0]) ?_ 2 _ rfl; (with_reducible repeat (first | apply blk_drewN | apply blk_drew | apply blk_alloc)); refine blk_put (cs := #[.int .i64 (rd t214 1), .int .i64 0, .int .i64 0, .int .i64 0]) ?_ 1 _ rfl; (with_reducible repeat (first | apply blk_drewN | apply blk_drew | apply blk_alloc)); refine blk_put (cs := #[.int .i64 0, .int .i64 0, .int .i64 0, .int .i64 0]) ?_ 0 _ rfl; (with_reducible repeat (first | apply blk_drewN | apply blk_drew | apply blk_alloc)); exact BK222.out⟩, ⟨by repeat (first | (with_reducible first | exact HB.out | apply below_alloc | apply pw_below_drewN | apply below_drew1 | refine below_set ?_ GE210.out | refine below_set ?_ GE222.out) | exact HB.out)⟩⟩
         ·rw [if_neg c23] at H
          exact absurd H (by simp)
        ·rw [if_neg c22] at H
         have c22b0 : ((rd t214 0) == 0) = false := beq_eq_false_iff_ne.mpr c22
         have c22b1 : ((rd t214 0) != 0) = true := bne_iff_ne.mpr c22
         have H' := ak_ H
         clear H
         have p223 : 0 ≤ (0 : Int) := (by omega)
         have q223 : 0 < (t214.length : Int) := of_decide_eq_true (by first | (with_reducible assumption) | assumption)
         obtain ⟨ad223, e223, hx223_0⟩ := Kd.at_int (Kd.R_reads' HO216.out).2.2 0 p223 q223
         obtain rfl : ad218 = ad223 := (by injection e223)
         have qi223 : (0 < t214.length) = True := eq_true (by omega)
         (try rw [show ((0 : Int)).toNat = 0 from rfl] at hx223_0)
         (try rw [Addr.add_zero'] at hx223_0)
         have hn223_0 : ad218.block ≠ gb222 := Kd.own_blk (Kd.R_ne HO216.out BK222.out (by decide))
         have hn223_1 : ad218.block ≠ gb222 := Kd.own_blk (Kd.R_ne HO216.out BK222.out (by decide))
         have hn223_2 : ad218.block ≠ gb222 := Kd.own_blk (Kd.R_ne HO216.out BK222.out (by decide))
         have hn223_3 : ad218.block ≠ gb222 := Kd.own_blk (Kd.R_ne HO216.out BK222.out (by decide))
         replace hx223_0 := (cell_far (p := ⟨gb222, 0, none⟩) (by first | (rw [add_block]; exact hn223_0) | (show (Addr.add _ _).block ≠ _; rw [add_block]; exact hn223_0) | exact hn223_0) (.int .i64 (rd t214 1))).trans hx223_0
         replace hx223_0 := (cell_far (p := ⟨gb222, 1, none⟩) (by first | (rw [add_block]; exact hn223_1) | (show (Addr.add _ _).block ≠ _; rw [add_block]; exact hn223_1) | exact hn223_1) (.int .i64 (rd t214 2))).trans hx223_0
         replace hx223_0 := (cell_far (p := ⟨gb222, 2, none⟩) (by first | (rw [add_block]; exact hn223_2) | (show (Addr.add _ _).block ≠ _; rw [add_block]; exact hn223_2) | exact hn223_2) (.int .i64 (rd t214 3))).trans hx223_0
         replace hx223_0 := (cell_far (p := ⟨gb222, 3, none⟩) (by first | (rw [add_block]; exact hn223_3) | (show (Addr.add _ _).block ≠ _; rw [add_block]; exact hn223_3) | exact hn223_3) (.int .i64 (rd t214 4))).trans hx223_0
         clear hn223_0
         clear hn223_1
         clear hn223_2
         clear hn223_3
         replace p223 := eq_true p223
         replace q223 := eq_true q223
         go_wp2
         go_meet
         case rel => exact ⟨_, (true), (by first | rfl | (simp; done) | (simp [*]; done)), H', ⟨by first | omega | exact Nat.le_refl _⟩, ⟨by (with_reducible repeat (first | apply blk_drewN | apply blk_drew | apply blk_alloc)); refine blk_far ?_ NB210_222.out _; (with_reducible repeat (first | apply blk_drewN | apply blk_drew | apply blk_alloc)); refine blk_far ?_ NB210_222.out _; (with_reducible repeat (first | apply blk_drewN | apply blk_drew | apply blk_alloc)); refine blk_far ?_ NB210_222.out _; (with_reducible repeat (first | apply blk_drewN | apply blk_drew | apply blk_alloc)); refine blk_far ?_ NB210_222.out _; (with_reducible repeat (first | apply blk_drewN | apply blk_drew | apply blk_alloc)); exact BK210.out⟩, ⟨by (with_reducible repeat (first | apply blk_drewN | apply blk_drew | apply blk_alloc)); refine blk_put (cs := #[.int .i64 (rd t214 1), .int .i64 (rd t214 2), .int .i64 (rd t214 3), .int .i64 0]) ?_ 3 _ rfl; (with_reducible repeat (first | apply blk_drewN | apply blk_drew | apply blk_alloc)); refine blk_put (cs := #[.int .i64 (rd t214 1), .int .i64 (rd t214 2), .int .i64 0, .int .i64 0]) ?_ 2 _ rfl; (with_reducible repeat (first | apply blk_drewN | apply blk_drew | apply blk_alloc)); refine blk_put (cs := #[.int .i64 (rd t214 1), .int .i64 0, .int .i64 0, .int .i64 0]) ?_ 1 _ rfl; (with_reducible repeat (first | apply blk_drewN | apply blk_drew | apply blk_alloc)); refine blk_put (cs := #[.int .i64 0, .int .i64 0, .int .i64 0, .int .i64 0]) ?_ 0 _ rfl; (with_reducible repeat (first | apply blk_drewN | apply blk_drew | apply blk_alloc)); exact BK222.out⟩, ⟨by repeat (first | (with_reducible first | exact HB.out | apply below_alloc | apply pw_below_drewN | apply below_drew1 | refine below_set ?_ GE210.out | refine below_set ?_ GE222.out) | exact HB.out)⟩⟩
       ·rw [if_neg c21] at H
        exact absurd H (by simp)
      case rest =>
       clear HC9
       try clear c2
       try clear p2
       try clear q2
       try clear hx2
       try clear qi2
       try clear c4
       try clear c4b0
       try clear c4b1
       try clear c5
       try clear c5b0
       try clear c5b1
       try clear c6
       try clear c6b0
       try clear c6b1
       try clear c7
       try clear c7b0
       try clear c7b1
       try clear c8
       try clear c8b0
       try clear c8b1
       try clear c21
       try clear c21b0
       try clear c21b1
       try clear p21
       try clear q21
       try clear hx21
       try clear qi21
       try clear c22
       try clear c22b0
       try clear c22b1
       try clear p22
       try clear q22
       try clear hx22
       try clear qi22
       try clear c23
       try clear c23b0
       try clear c23b1
       try clear c24
       try clear c24b0
       try clear c24b1
       try clear c26
       try clear hcz27_0
       try clear hcz27_1
       try clear hcz27_2
       try clear hcz27_3
       try clear hfz27_0
       try clear hfz27_1
       try clear hfz27_2
       try clear hfz27_3
       try clear hx218_0
       try clear hx219_0
       try clear hx220_0
       try clear hx221_0
       try clear hx223_0
       try clear hx224_0
       try clear p218
       try clear p219
       try clear p220
       try clear p221
       try clear p223
       try clear p224
       try clear q218
       try clear q219
       try clear q220
       try clear q221
       try clear q223
       try clear q224
       obtain ⟨kq, x44_8, rfl, HA, HJ8, BK210, BK222, HB⟩ := hcut
       cases kq with
       | zero => exact absurd HA.out (by simp [tag_Take.j0])
       | succ kj8 =>
        have H := HA.out
        clear HA
        simp only [tag_Take.j0] at H
        by_cases c29 : x44_8 = true
        ·subst c29
         have H1 : (some (0, 0, 0, 0, 11)) = some (r1, r2, r3, r4, r5) := by rw [if_pos rfl] at H; exact H
         clear H
         have H := H1
         clear H1
         simp only [Option.some.injEq, Prod.mk.injEq] at H
         obtain ⟨rfl, rfl, rfl, rfl, rfl⟩ := H
         have hnb30 := NB210_222.out
         have hnc30 := NB222_210.out
         have hcz31_0 : wc.cell? ⟨gb210, 0, none⟩ = some (.int .i64 0) := (blk_cell BK210.out 0).trans rfl
         have hcz31_1 : wc.cell? ⟨gb210, 1, none⟩ = some (.int .i64 0) := (blk_cell BK210.out 1).trans rfl
         have hcz31_2 : wc.cell? ⟨gb210, 2, none⟩ = some (.int .i64 0) := (blk_cell BK210.out 2).trans rfl
         have hcz31_3 : wc.cell? ⟨gb210, 3, none⟩ = some (.int .i64 0) := (blk_cell BK210.out 3).trans rfl
         have hfz31_0 := blk_frozen BK210.out 0
         have hfz31_1 := blk_frozen BK210.out 1
         have hfz31_2 := blk_frozen BK210.out 2
         have hfz31_3 := blk_frozen BK210.out 3
         go_wp2
         refine bodyPost_ret (results_ct rfl _ _ gb210 26 #[.int .i64 0, .int .i64 0, .int .i64 0, .int .i64 0] (0, 0) _ rfl (by (with_reducible repeat (first | apply blk_drewN | apply blk_drew | apply blk_alloc)); refine blk_put (cs := #[.int .i64 0, .int .i64 0, .int .i64 0, .int .i64 0]) ?_ 3 _ rfl; (with_reducible repeat (first | apply blk_drewN | apply blk_drew | apply blk_alloc)); refine blk_put (cs := #[.int .i64 0, .int .i64 0, .int .i64 0, .int .i64 0]) ?_ 2 _ rfl; (with_reducible repeat (first | apply blk_drewN | apply blk_drew | apply blk_alloc)); refine blk_put (cs := #[.int .i64 0, .int .i64 0, .int .i64 0, .int .i64 0]) ?_ 1 _ rfl; (with_reducible repeat (first | apply blk_drewN | apply blk_drew | apply blk_alloc)); refine blk_put (cs := #[.int .i64 0, .int .i64 0, .int .i64 0, .int .i64 0]) ?_ 0 _ rfl; (with_reducible repeat (first | apply blk_drewN | apply blk_drew | apply blk_alloc)); exact BK210.out) Try.underlying26 rfl (by kernel_rfl)) rfl ?_
         exact ⟨by first | rfl | (simp [errW_none, errW_some] <;> rfl) | (simp [*, errW_none, errW_some] <;> rfl) | (have hz_ : ∀ z : Int, -9223372036854775808 ≤ z → z ≤ 9223372036854775807 → wrap64 z = z := (fun z h1_ h2_ => by unfold wrap64; omega); rw [hz_] <;> first | rfl | omega), by repeat (first | (with_reducible first | exact HB.out | apply below_alloc | apply pw_below_drewN | apply below_drew1 | refine below_set ?_ GE210.out | refine below_set ?_ GE222.out) | exact HB.out)⟩
        ·replace c29 := Bool.eq_false_iff.mpr c29
         subst c29
         have H1 : (some ((rd t214 1), (rd t214 2), (rd t214 3), (rd t214 4), 0)) = some (r1, r2, r3, r4, r5) := by rw [if_neg (show ¬ (false = true) by decide)] at H; exact H
         clear H
         have H := H1
         clear H1
         simp only [Option.some.injEq, Prod.mk.injEq] at H
         obtain ⟨rfl, rfl, rfl, rfl, rfl⟩ := H
         have hnb32 := NB222_210.out
         have hnc32 := NB210_222.out
         have hcz33_0 : wc.cell? ⟨gb222, 0, none⟩ = some (.int .i64 (rd t214 1)) := (blk_cell BK222.out 0).trans rfl
         have hcz33_1 : wc.cell? ⟨gb222, 1, none⟩ = some (.int .i64 (rd t214 2)) := (blk_cell BK222.out 1).trans rfl
         have hcz33_2 : wc.cell? ⟨gb222, 2, none⟩ = some (.int .i64 (rd t214 3)) := (blk_cell BK222.out 2).trans rfl
         have hcz33_3 : wc.cell? ⟨gb222, 3, none⟩ = some (.int .i64 (rd t214 4)) := (blk_cell BK222.out 3).trans rfl
         have hfz33_0 := blk_frozen BK222.out 0
         have hfz33_1 := blk_frozen BK222.out 1
         have hfz33_2 := blk_frozen BK222.out 2
         have hfz33_3 := blk_frozen BK222.out 3
         have hcz34_0 : wc.cell? ⟨gb210, 0, none⟩ = some (.int .i64 0) := (blk_cell BK210.out 0).trans rfl
         have hcz34_1 : wc.cell? ⟨gb210, 1, none⟩ = some (.int .i64 0) := (blk_cell BK210.out 1).trans rfl
         have hcz34_2 : wc.cell? ⟨gb210, 2, none⟩ = some (.int .i64 0) := (blk_cell BK210.out 2).trans rfl
         have hcz34_3 : wc.cell? ⟨gb210, 3, none⟩ = some (.int .i64 0) := (blk_cell BK210.out 3).trans rfl
         have hfz34_0 := blk_frozen BK210.out 0
         have hfz34_1 := blk_frozen BK210.out 1
         have hfz34_2 := blk_frozen BK210.out 2
         have hfz34_3 := blk_frozen BK210.out 3
         go_wp2
         refine bodyPost_ret (results_ct rfl _ _ gb210 26 #[.int .i64 (rd t214 1), .int .i64 (rd t214 2), .int .i64 (rd t214 3), .int .i64 (rd t214 4)] (0, 0) _ rfl (by (with_reducible repeat (first | apply blk_drewN | apply blk_drew | apply blk_alloc)); refine blk_put (cs := #[.int .i64 (rd t214 1), .int .i64 (rd t214 2), .int .i64 (rd t214 3), .int .i64 0]) ?_ 3 _ rfl; (with_reducible repeat (first | apply blk_drewN | apply blk_drew | apply blk_alloc)); refine blk_put (cs := #[.int .i64 (rd t214 1), .int .i64 (rd t214 2), .int .i64 0, .int .i64 0]) ?_ 2 _ rfl; (with_reducible repeat (first | apply blk_drewN | apply blk_drew | apply blk_alloc)); refine blk_put (cs := #[.int .i64 (rd t214 1), .int .i64 0, .int .i64 0, .int .i64 0]) ?_ 1 _ rfl; (with_reducible repeat (first | apply blk_drewN | apply blk_drew | apply blk_alloc)); refine blk_put (cs := #[.int .i64 0, .int .i64 0, .int .i64 0, .int .i64 0]) ?_ 0 _ rfl; (with_reducible repeat (first | apply blk_drewN | apply blk_drew | apply blk_alloc)); exact BK210.out) Try.underlying26 rfl (by kernel_rfl)) rfl ?_
         exact ⟨by first | rfl | (simp [errW_none, errW_some] <;> rfl) | (simp [*, errW_none, errW_some] <;> rfl) | (have hz_ : ∀ z : Int, -9223372036854775808 ≤ z → z ≤ 9223372036854775807 → wrap64 z = z := (fun z h1_ h2_ => by unfold wrap64; omega); rw [hz_] <;> first | rfl | omega), by repeat (first | (with_reducible first | exact HB.out | apply below_alloc | apply pw_below_drewN | apply below_drew1 | refine below_set ?_ GE210.out | refine below_set ?_ GE222.out) | exact HB.out)⟩
     ·rw [if_neg c8] at H
      exact absurd H (by simp)
    ·rw [if_neg c7] at H
     exact absurd H (by simp)
   ·rw [if_neg c6] at H
    exact absurd H (by simp)
  ·rw [if_neg c5] at H
   exact absurd H (by simp)
 ·rw [if_neg c4] at H
  have c4b0 : (t217 == 0) = false := beq_eq_false_iff_ne.mpr c4
  have c4b1 : (t217 != 0) = true := bne_iff_ne.mpr c4
  simp only [Option.some.injEq, Prod.mk.injEq] at H
  obtain ⟨rfl, rfl, rfl, rfl, rfl⟩ := H
  go_enter Try.func62, Try.ntmps62
  go_wp2_with (first | ((with_reducible refine gate_dst (N := 2) rfl ?_); refine box_event ?hg (N := 2) ?hd (cs := #[.int .i64 0, .int .i64 0, .int .i64 0, .int .i64 0]) (t := 26) ?hr ?_; (case hd => rfl); (case hg => rfl); (case hr => first | (go_simp; done) | (go_simp; rfl)); intro gb210 hg w35 hbox hb; have n0_ := ak_ (below_step (by repeat (first | (with_reducible first | exact HB.out | apply below_alloc | apply pw_below_drewN | apply below_drew1) | exact HB.out)) hb); have n1_ := ak_ (hbox); have n2_ := ak_ ((by rw [hg]; exact (below_size (by repeat (first | (with_reducible first | exact HB.out | apply below_alloc | apply pw_below_drewN | apply below_drew1) | exact HB.out))) : w.heap.size ≤ gb210)); have n3_ := ak_ ((by rw [hg]; exact (below_size (by repeat (first | (with_reducible first | exact HB.out | apply below_alloc | apply pw_below_drewN | apply below_drew1) | exact HB.out))) : w.heap.size ≤ gb210)); clear HB; have HB := n0_; have BK210 := n1_; have GW210 := n2_; have GE210 := n3_; clear n0_ n1_ n2_ n3_; clear hb hbox hg) | ((with_reducible refine gate_callee (f := 67) rfl ?_); refine goesL_ (some 8) rfl rfl Try.func67 (by kernel_rfl) rfl #[] rfl (by (try simp only [List.map_toArray, List.map_cons, List.map_nil]); first | done | rfl | (simp only [List.length_drop, List.length_take]; rfl)) ?_; (with_reducible refine (tag_layout.calls  t211 _ A2.out).mono ?_); rintro e w36 ⟨v212, rfl, ho0, hb⟩; refine ⟨_, rfl, ?_⟩; have n0_ := ak_ (Kd.R_lower ho0 (below_size (by repeat (first | (with_reducible first | exact HB.out | apply below_alloc | apply pw_below_drewN | apply below_drew1 | refine below_set ?_ GE210.out) | exact HB.out)))); have n1_ := ak_ (blk_below (g := gb210) (o := .cells #[.int .i64 0, .int .i64 0, .int .i64 0, .int .i64 0] 26 (0, 0)) (by (with_reducible repeat (first | apply blk_drewN | apply blk_drew | apply blk_alloc)); exact BK210.out) hb); have n2_ := ak_ (below_step (by repeat (first | (with_reducible first | exact HB.out | apply below_alloc | apply pw_below_drewN | apply below_drew1 | refine below_set ?_ GE210.out) | exact HB.out)) hb); clear BK210; clear HB; have HO213 := n0_; have BK210 := n1_; have HB := n2_; clear n0_ n1_ n2_; (try clear hb); (try clear hb2); (try clear hk); (try clear hi); (try clear ho0); obtain ⟨Ao37, co37, eo37⟩ := Kd.R_slice HO213.out; subst eo37) | ((with_reducible refine gate_callee (f := 80) rfl ?_); refine goesL_ (some 10) rfl rfl Try.func80 (by kernel_rfl) rfl #[.slice Ao37 t211.length co37, .slice A0 l0.length c0] rfl (by (try simp only [List.map_toArray, List.map_cons, List.map_nil]); first | done | rfl | (simp only [List.length_drop, List.length_take]; rfl)) ?_; (with_reducible refine (pack_Take.calls k _ _ t211 (fun k_ => k_ < w.heap.size) _ _ l0 t214 t217 _ ?side1 ?side2 ?side3 A3.out).mono ?_); (case side1 => repeat (first | exact (Kd.R_reads' HO213.out).2.2 | (with_reducible refine Kd.C_alloc ?_ _) | (with_reducible refine Kd.C_drewN ?_ _) | (with_reducible refine Kd.C_drew ?_))); (case side2 => exact (Kd.R_reads' HO213.out).2.1); (case side3 => exact Kd.V_mk HC0.out (Kd.F_below (Kd.C_F (Kd.heap_int .u8) HR0.out) (by repeat (first | (with_reducible first | exact HB.out | apply below_alloc | apply pw_below_drewN | apply below_drew1 | refine below_set ?_ GE210.out) | exact HB.out)))); rintro e w38 ⟨v215, rfl, ho0, hb⟩; refine ⟨_, rfl, ?_⟩; have n0_ := ak_ (Kd.R_elder' (by (with_reducible repeat (first | apply Kd.R_alloc | apply Kd.R_drewN | apply Kd.R_drew)); exact HO213.out) (Kd.R_base ho0) hb); have n1_ := ak_ (Kd.R_lower (Kd.R_new' (Kd.R_mono (ok' := fun k_ => True) ho0 (fun _ hk_ => trivial)) (Kd.R_lt (by (with_reducible repeat (first | apply Kd.R_alloc | apply Kd.R_drewN | apply Kd.R_drew)); exact HO213.out))) (below_size (by repeat (first | (with_reducible first | exact HB.out | apply below_alloc | apply pw_below_drewN | apply below_drew1 | refine below_set ?_ GE210.out) | exact HB.out)))); have n2_ := ak_ (blk_below (g := gb210) (o := .cells #[.int .i64 0, .int .i64 0, .int .i64 0, .int .i64 0] 26 (0, 0)) (by (with_reducible repeat (first | apply blk_drewN | apply blk_drew | apply blk_alloc)); exact BK210.out) hb); have n3_ := ak_ (below_step (by repeat (first | (with_reducible first | exact HB.out | apply below_alloc | apply pw_below_drewN | apply below_drew1 | refine below_set ?_ GE210.out) | exact HB.out)) hb); clear HO213; clear BK210; clear HB; have HO213 := n0_; have HO216 := n1_; have BK210 := n2_; have HB := n3_; clear n0_ n1_ n2_ n3_; (try clear hb); (try clear hb2); (try clear hk); (try clear hi); (try clear ho0); have hcz39_0 : w38.cell? ⟨gb210, 0, none⟩ = some (.int .i64 0) := (blk_cell BK210.out 0).trans rfl; have hcz39_1 : w38.cell? ⟨gb210, 1, none⟩ = some (.int .i64 0) := (blk_cell BK210.out 1).trans rfl; have hcz39_2 : w38.cell? ⟨gb210, 2, none⟩ = some (.int .i64 0) := (blk_cell BK210.out 2).trans rfl; have hcz39_3 : w38.cell? ⟨gb210, 3, none⟩ = some (.int .i64 0) := (blk_cell BK210.out 3).trans rfl; have hfz39_0 := blk_frozen BK210.out 0; have hfz39_1 := blk_frozen BK210.out 1; have hfz39_2 := blk_frozen BK210.out 2; have hfz39_3 := blk_frozen BK210.out 3))
  refine bodyPost_ret (results_ct rfl _ _ gb210 26 #[.int .i64 0, .int .i64 0, .int .i64 0, .int .i64 0] (0, 0) _ rfl (by (with_reducible repeat (first | apply blk_drewN | apply blk_drew | apply blk_alloc)); refine blk_put (cs := #[.int .i64 0, .int .i64 0, .int .i64 0, .int .i64 0]) ?_ 3 _ rfl; (with_reducible repeat (first | apply blk_drewN | apply blk_drew | apply blk_alloc)); refine blk_put (cs := #[.int .i64 0, .int .i64 0, .int .i64 0, .int .i64 0]) ?_ 2 _ rfl; (with_reducible repeat (first | apply blk_drewN | apply blk_drew | apply blk_alloc)); refine blk_put (cs := #[.int .i64 0, .int .i64 0, .int .i64 0, .int .i64 0]) ?_ 1 _ rfl; (with_reducible repeat (first | apply blk_drewN | apply blk_drew | apply blk_alloc)); refine blk_put (cs := #[.int .i64 0, .int .i64 0, .int .i64 0, .int .i64 0]) ?_ 0 _ rfl; (with_reducible repeat (first | apply blk_drewN | apply blk_drew | apply blk_alloc)); exact BK210.out) Try.underlying26 rfl (by kernel_rfl)) rfl ?_
  exact ⟨by first | rfl | (simp [errW_none, errW_some] <;> rfl) | (simp [*, errW_none, errW_some] <;> rfl) | (have hz_ : ∀ z : Int, -9223372036854775808 ≤ z → z ≤ 9223372036854775807 → wrap64 z = z := (fun z h1_ h2_ => by unfold wrap64; omega); rw [hz_] <;> first | rfl | omega), by repeat (first | (with_reducible first | exact HB.out | apply below_alloc | apply pw_below_drewN | apply below_drew1 | refine below_set ?_ GE210.out) | exact HB.out)⟩
end Go.Proofs.Ytmehbabchakkpaa.QLadderSame
namespace Go.Proofs.Ytmehbabchakkpaa.QLadderSame
open Go.RowKit Go.Proofs.YtmehbabchakkpaaW.PrintWords Go.Proofs.YtmehbabchakkpaaW.PrintLast Go.Proofs.YtmehbabchakkpaaW.PrintMore
attribute [local go_sem] max2_int min2_int max_two min_two max_three min_three max_four min_four   -- for this text's walks alone
set_option linter.unusedVariables false
set_option linter.unusedSimpArgs false
mutual
def page_Decode.j0 : Nat → List Int → Int → Bool → Int → Int → Int → Int → Int → Int → Int → Int → Option (List Int × Int × Int × Int × Int × Int × Int)
 | 0, _, _, _, _, _, _, _, _, _, _, _ => none
 | k + 1, x1, x6, x26, x238000, x238001, x238002, x238003, x238004, x238005, x238006, x238007 => if x26 = true then (some (([] : List Int), 0, 0, 0, 0, 0, 2)) else (page_Decode.j1 k x1 x6 x238000 x238001 x238002 x238003 x238004 x238005 x238006 x238007)
def page_Decode.j1 : Nat → List Int → Int → Int → Int → Int → Int → Int → Int → Int → Int → Option (List Int × Int × Int × Int × Int × Int × Int)
 | 0, _, _, _, _, _, _, _, _, _, _ => none
 | k + 1, x1, x6, x238000, x238001, x238002, x238003, x238004, x238005, x238006, x238007 => (page_shape_label.f x238000 x238001 x238002 x238003 x238004 x238005 x238006 x238007 x1).bind fun t239 => ((bits_Zeros.f k t239).bind fun t242 => (if t242 ≤ 20 then (some (([] : List Int), 0, 0, 0, 0, 2, 0)) else (page_Decode.j2 k x1 x6 x238000 x238001 x238002 x238003 x238004 x238005 x238006 x238007)))
def page_Decode.j2 : Nat → List Int → Int → Int → Int → Int → Int → Int → Int → Int → Int → Option (List Int × Int × Int × Int × Int × Int × Int)
 | 0, _, _, _, _, _, _, _, _, _, _ => none
 | k + 1, x1, x6, x238000, x238001, x238002, x238003, x238004, x238005, x238006, x238007 => (page_shape_chunks.f x238000 x238001 x238002 x238003 x238004 x238005 x238006 x238007 x1).bind fun t243 => ((chunk_All.f k t243 x238004).bind fun bt246 => (if bt246.2.2 = 0 then (page_Decode.j3 k x1 bt246.1 x6 bt246.2.1 x238000 x238001 x238002 x238003 x238004 x238005 x238006 x238007) else (some (([] : List Int), 0, 0, 0, 0, 0, bt246.2.2))))
def page_Decode.j3 : Nat → List Int → List Int → Int → Int → Int → Int → Int → Int → Int → Int → Int → Int → Option (List Int × Int × Int × Int × Int × Int × Int)
 | 0, _, _, _, _, _, _, _, _, _, _, _, _ => none
 | k + 1, x1, x4, x6, x10, x238000, x238001, x238002, x238003, x238004, x238005, x238006, x238007 => (page_shape_label.f x238000 x238001 x238002 x238003 x238004 x238005 x238006 x238007 x1).bind fun t251 => ((chunk_Decode.f k t251).bind fun bt254 => (if bt254.2.2 = 0 then (page_Decode.j4 k x4 x6 x10 bt254.1 bt254.2.1) else (some (([] : List Int), 0, 0, 0, 0, 0, bt254.2.2))))
def page_Decode.j4 : Nat → List Int → Int → Int → List Int → Int → Option (List Int × Int × Int × Int × Int × Int × Int)
 | 0, _, _, _, _, _ => none
 | k + 1, x4, x6, x10, x11, x12 => (some (([] : List Int) : List Int)).bind fun y259 => (if y259.length + x4.length < 140737488355328 then ((some (y259 ++ x4 : List Int)).bind fun y262 => (if y262.length + x11.length < 140737488355328 then ((crc_Check.f k (y262 ++ x11)).bind fun t268 => (if t268 = true then (page_Decode.j5 k x4 x6 x10 x11 x12) else (some (([] : List Int), 0, 0, 0, 0, 0, 12)))) else (none))) else (none))
def page_Decode.j5 : Nat → List Int → Int → Int → List Int → Int → Option (List Int × Int × Int × Int × Int × Int × Int)
 | 0, _, _, _, _, _ => none
 | k + 1, x4, x6, x10, x11, x12 => if 24 ≤ (x11.length : Int) then ((tag_Take.f k (x11.take 24)).bind fun bt273 => (if bt273.2.2.2.2 = 0 then (if (wrap64 (x10 + x12)) > 0 then (some (x4, bt273.1, bt273.2.1, bt273.2.2.1, bt273.2.2.2.1, 1, 0)) else (some (x4, bt273.1, bt273.2.1, bt273.2.2.1, bt273.2.2.2.1, x6, 0))) else (some (([] : List Int), 0, 0, 0, 0, 0, bt273.2.2.2.2)))) else (none)
end
def page_Decode.f (k : Nat) (a0_0 : Int) (a0_1 : Int) (a0_2 : Int) (a0_3 : Int) (a0_4 : Int) (a0_5 : Int) (a0_6 : Int) (l1 : List Int) : Option (List Int × Int × Int × Int × Int × Int × Int) := (page_of.f a0_0 a0_1 a0_2 a0_3 a0_4 a0_5 a0_6).bind fun bt228 => (if bt228.2.2.2.2.2.2.2.2 = true then ((page_shape_size.f bt228.1 bt228.2.1 bt228.2.2.1 bt228.2.2.2.1 bt228.2.2.2.2.1 bt228.2.2.2.2.2.1 bt228.2.2.2.2.2.2.1 bt228.2.2.2.2.2.2.2.1).bind fun t238 => (page_Decode.j0 k l1 0 ((l1.length : Int) != t238) bt228.1 bt228.2.1 bt228.2.2.1 bt228.2.2.2.1 bt228.2.2.2.2.1 bt228.2.2.2.2.2.1 bt228.2.2.2.2.2.2.1 bt228.2.2.2.2.2.2.2.1)) else (page_Decode.j0 k l1 0 true bt228.1 bt228.2.1 bt228.2.2.1 bt228.2.2.2.1 bt228.2.2.2.2.1 bt228.2.2.2.2.2.1 bt228.2.2.2.2.2.2.1 bt228.2.2.2.2.2.2.2.1))
theorem page_Decode.mono_l : ∀ k, (∀ y0 y1 y2 y3 y4 y5 y6 y7 y8 y9 y10, LeO (page_Decode.j0 k y0 y1 y2 y3 y4 y5 y6 y7 y8 y9 y10) (page_Decode.j0 (k + 1) y0 y1 y2 y3 y4 y5 y6 y7 y8 y9 y10)) ∧ (∀ y0 y1 y2 y3 y4 y5 y6 y7 y8 y9, LeO (page_Decode.j1 k y0 y1 y2 y3 y4 y5 y6 y7 y8 y9) (page_Decode.j1 (k + 1) y0 y1 y2 y3 y4 y5 y6 y7 y8 y9)) ∧ (∀ y0 y1 y2 y3 y4 y5 y6 y7 y8 y9, LeO (page_Decode.j2 k y0 y1 y2 y3 y4 y5 y6 y7 y8 y9) (page_Decode.j2 (k + 1) y0 y1 y2 y3 y4 y5 y6 y7 y8 y9)) ∧ (∀ y0 y1 y2 y3 y4 y5 y6 y7 y8 y9 y10 y11, LeO (page_Decode.j3 k y0 y1 y2 y3 y4 y5 y6 y7 y8 y9 y10 y11) (page_Decode.j3 (k + 1) y0 y1 y2 y3 y4 y5 y6 y7 y8 y9 y10 y11)) ∧ (∀ y0 y1 y2 y3 y4, LeO (page_Decode.j4 k y0 y1 y2 y3 y4) (page_Decode.j4 (k + 1) y0 y1 y2 y3 y4)) ∧ (∀ y0 y1 y2 y3 y4, LeO (page_Decode.j5 k y0 y1 y2 y3 y4) (page_Decode.j5 (k + 1) y0 y1 y2 y3 y4))
 | 0 => ⟨fun _ _ _ _ _ _ _ _ _ _ _ r h => by simp [page_Decode.j0] at h, fun _ _ _ _ _ _ _ _ _ _ r h => by simp [page_Decode.j1] at h, fun _ _ _ _ _ _ _ _ _ _ r h => by simp [page_Decode.j2] at h, fun _ _ _ _ _ _ _ _ _ _ _ _ r h => by simp [page_Decode.j3] at h, fun _ _ _ _ _ r h => by simp [page_Decode.j4] at h, fun _ _ _ _ _ r h => by simp [page_Decode.j5] at h⟩
 | k + 1 => by
  obtain ⟨ih0, ih1, ih2, ih3, ih4, ih5⟩ := page_Decode.mono_l k
  refine ⟨?_, ?_, ?_, ?_, ?_, ?_⟩
  ·intro y0 y1 y2 y3 y4 y5 y6 y7 y8 y9 y10
   unfold page_Decode.j0
   repeat' first
   | (with_reducible exact ih0 _ _ _ _ _ _ _ _ _ _ _)
   | (with_reducible exact ih1 _ _ _ _ _ _ _ _ _ _)
   | (with_reducible exact ih2 _ _ _ _ _ _ _ _ _ _)
   | (with_reducible exact ih3 _ _ _ _ _ _ _ _ _ _ _ _)
   | (with_reducible exact ih4 _ _ _ _ _)
   | (with_reducible exact ih5 _ _ _ _ _)
   | (with_reducible exact bits_Zeros.mono _ _)
   | (with_reducible exact chunk_All.mono _ _ _)
   | (with_reducible exact chunk_Decode.mono _ _)
   | (with_reducible exact crc_Check.mono _ _)
   | (with_reducible exact tag_Take.mono _ _)
   | (with_reducible exact LeO.refl _)
   | (with_reducible exact LeO.none _)
   | (with_reducible refine LeO.ite ?_ ?_)
   | (with_reducible refine LeO.bind ?_ (fun _ => ?_))
  ·intro y0 y1 y2 y3 y4 y5 y6 y7 y8 y9
   unfold page_Decode.j1
   repeat' first
   | (with_reducible exact ih0 _ _ _ _ _ _ _ _ _ _ _)
   | (with_reducible exact ih1 _ _ _ _ _ _ _ _ _ _)
   | (with_reducible exact ih2 _ _ _ _ _ _ _ _ _ _)
   | (with_reducible exact ih3 _ _ _ _ _ _ _ _ _ _ _ _)
   | (with_reducible exact ih4 _ _ _ _ _)
   | (with_reducible exact ih5 _ _ _ _ _)
   | (with_reducible exact bits_Zeros.mono _ _)
   | (with_reducible exact chunk_All.mono _ _ _)
   | (with_reducible exact chunk_Decode.mono _ _)
   | (with_reducible exact crc_Check.mono _ _)
   | (with_reducible exact tag_Take.mono _ _)
   | (with_reducible exact LeO.refl _)
   | (with_reducible exact LeO.none _)
   | (with_reducible refine LeO.ite ?_ ?_)
   | (with_reducible refine LeO.bind ?_ (fun _ => ?_))
  ·intro y0 y1 y2 y3 y4 y5 y6 y7 y8 y9
   unfold page_Decode.j2
   repeat' first
   | (with_reducible exact ih0 _ _ _ _ _ _ _ _ _ _ _)
   | (with_reducible exact ih1 _ _ _ _ _ _ _ _ _ _)
   | (with_reducible exact ih2 _ _ _ _ _ _ _ _ _ _)
   | (with_reducible exact ih3 _ _ _ _ _ _ _ _ _ _ _ _)
   | (with_reducible exact ih4 _ _ _ _ _)
   | (with_reducible exact ih5 _ _ _ _ _)
   | (with_reducible exact bits_Zeros.mono _ _)
   | (with_reducible exact chunk_All.mono _ _ _)
   | (with_reducible exact chunk_Decode.mono _ _)
   | (with_reducible exact crc_Check.mono _ _)
   | (with_reducible exact tag_Take.mono _ _)
   | (with_reducible exact LeO.refl _)
   | (with_reducible exact LeO.none _)
   | (with_reducible refine LeO.ite ?_ ?_)
   | (with_reducible refine LeO.bind ?_ (fun _ => ?_))
  ·intro y0 y1 y2 y3 y4 y5 y6 y7 y8 y9 y10 y11
   unfold page_Decode.j3
   repeat' first
   | (with_reducible exact ih0 _ _ _ _ _ _ _ _ _ _ _)
   | (with_reducible exact ih1 _ _ _ _ _ _ _ _ _ _)
   | (with_reducible exact ih2 _ _ _ _ _ _ _ _ _ _)
   | (with_reducible exact ih3 _ _ _ _ _ _ _ _ _ _ _ _)
   | (with_reducible exact ih4 _ _ _ _ _)
   | (with_reducible exact ih5 _ _ _ _ _)
   | (with_reducible exact bits_Zeros.mono _ _)
   | (with_reducible exact chunk_All.mono _ _ _)
   | (with_reducible exact chunk_Decode.mono _ _)
   | (with_reducible exact crc_Check.mono _ _)
   | (with_reducible exact tag_Take.mono _ _)
   | (with_reducible exact LeO.refl _)
   | (with_reducible exact LeO.none _)
   | (with_reducible refine LeO.ite ?_ ?_)
   | (with_reducible refine LeO.bind ?_ (fun _ => ?_))
  ·intro y0 y1 y2 y3 y4
   unfold page_Decode.j4
   repeat' first
   | (with_reducible exact ih0 _ _ _ _ _ _ _ _ _ _ _)
   | (with_reducible exact ih1 _ _ _ _ _ _ _ _ _ _)
   | (with_reducible exact ih2 _ _ _ _ _ _ _ _ _ _)
   | (with_reducible exact ih3 _ _ _ _ _ _ _ _ _ _ _ _)
   | (with_reducible exact ih4 _ _ _ _ _)
   | (with_reducible exact ih5 _ _ _ _ _)
   | (with_reducible exact bits_Zeros.mono _ _)
   | (with_reducible exact chunk_All.mono _ _ _)
   | (with_reducible exact chunk_Decode.mono _ _)
   | (with_reducible exact crc_Check.mono _ _)
   | (with_reducible exact tag_Take.mono _ _)
   | (with_reducible exact LeO.refl _)
   | (with_reducible exact LeO.none _)
   | (with_reducible refine LeO.ite ?_ ?_)
   | (with_reducible refine LeO.bind ?_ (fun _ => ?_))
  ·intro y0 y1 y2 y3 y4
   unfold page_Decode.j5
   repeat' first
   | (with_reducible exact ih0 _ _ _ _ _ _ _ _ _ _ _)
   | (with_reducible exact ih1 _ _ _ _ _ _ _ _ _ _)
   | (with_reducible exact ih2 _ _ _ _ _ _ _ _ _ _)
   | (with_reducible exact ih3 _ _ _ _ _ _ _ _ _ _ _ _)
   | (with_reducible exact ih4 _ _ _ _ _)
   | (with_reducible exact ih5 _ _ _ _ _)
   | (with_reducible exact bits_Zeros.mono _ _)
   | (with_reducible exact chunk_All.mono _ _ _)
   | (with_reducible exact chunk_Decode.mono _ _)
   | (with_reducible exact crc_Check.mono _ _)
   | (with_reducible exact tag_Take.mono _ _)
   | (with_reducible exact LeO.refl _)
   | (with_reducible exact LeO.none _)
   | (with_reducible refine LeO.ite ?_ ?_)
   | (with_reducible refine LeO.bind ?_ (fun _ => ?_))
theorem page_Decode.mono : ∀ a0 a1 a2 a3 a4 a5 a6 a7 k, LeO (page_Decode.f k a0 a1 a2 a3 a4 a5 a6 a7) (page_Decode.f (k + 1) a0 a1 a2 a3 a4 a5 a6 a7) := by
 intro a0 a1 a2 a3 a4 a5 a6 a7 k
 obtain ⟨ih0, ih1, ih2, ih3, ih4, ih5⟩ := page_Decode.mono_l k
 unfold page_Decode.f
 repeat' first
  | (with_reducible exact ih0 _ _ _ _ _ _ _ _ _ _ _)
  | (with_reducible exact ih1 _ _ _ _ _ _ _ _ _ _)
  | (with_reducible exact ih2 _ _ _ _ _ _ _ _ _ _)
  | (with_reducible exact ih3 _ _ _ _ _ _ _ _ _ _ _ _)
  | (with_reducible exact ih4 _ _ _ _ _)
  | (with_reducible exact ih5 _ _ _ _ _)
  | (with_reducible exact bits_Zeros.mono _ _)
  | (with_reducible exact chunk_All.mono _ _ _)
  | (with_reducible exact chunk_Decode.mono _ _)
  | (with_reducible exact crc_Check.mono _ _)
  | (with_reducible exact tag_Take.mono _ _)
  | (with_reducible exact LeO.refl _)
  | (with_reducible exact LeO.none _)
  | (with_reducible refine LeO.ite ?_ ?_)
  | (with_reducible refine LeO.bind ?_ (fun _ => ?_))
def page_Decode.T6 : Bool × List (List Nat × List Nat) := (true, [([], []), ([], []), ([0, 1], [0, 1]), ([], []), ([3], [3]), ([4], [4]), ([2, 5, 2], [2, 5]), ([6], [6]), ([7], [7]), ([7], [7]), ([7], [7]), ([8, 6, 0, 1, 2, 3, 4, 5, 6, 7, 8], [8]), ([9, 11, 0, 1, 2, 3, 4, 5, 6, 7, 8, 9, 11], [9]), ([10, 12, 0, 1, 2, 3, 4, 5, 6, 7, 8, 9, 10, 11, 12], [10])])
def page_Decode.B6 : List Nat := [0, 0, 3, 0, 8, 24, 63, 127, 255, 255, 255, 511, 3071, 8191]
theorem page_Decode.tab6 : rtab .any (opsOf Try.f30 6) = page_Decode.T6 := by kernel_rfl
theorem page_Decode.bits6 : waitsOk page_Decode.T6.2 page_Decode.B6 = true := by kernel_rfl
set_option maxHeartbeats 8000000 in
set_option maxRecDepth 100000 in
theorem page_Decode.calls (k : Nat) (a0_0 : Int) (a0_1 : Int) (a0_2 : Int) (a0_3 : Int) (a0_4 : Int) (a0_5 : Int) (a0_6 : Int) (A1 : Option Addr) (c1 : Nat) (l1 : List Int) (r1 : List Int) (r2 : Int) (r3 : Int) (r4 : Int) (r5 : Int) (r6 : Int) (r7 : Int) (w : World) (hr1 : Kd.C (Kd.int .u8) w A1 l1.length l1) (hc1 : l1.length ≤ c1) (h : page_Decode.f k a0_0 a0_1 a0_2 a0_3 a0_4 a0_5 a0_6 l1 = some (r1, r2, r3, r4, r5, r6, r7)) :
  Calls Try.prog 30 #[.agg #[.int .i64 a0_0, .int .i64 a0_1, .int .i64 a0_2, .int .i64 a0_3, .int .i64 a0_4, .int .i64 a0_5, .int .i64 a0_6], .slice A1 l1.length c1] w fun e w' => ∃ v0_ : Value, e = .returned (.tuple #[v0_, .agg #[.int .i64 r2, .int .i64 r3, .int .i64 r4, .int .i64 r5], .int .i64 r6, .int .i64 r7]) ∧ Kd.R (Kd.int .u8) 5 w' w.heap.size (fun _ => True) v0_ r1 ∧ Below w.heap.size w w' := by
 have hu23 := Try.underlying23
 have hu26 := Try.underlying26
 have hu70 := Try.underlying70
 have HR1 := ak_ hr1
 have HC1 := ak_ hc1
 clear hr1 hc1
 have HB := ak_ (Below.refl w.heap.size w)
 have H : ((page_of.f a0_0 a0_1 a0_2 a0_3 a0_4 a0_5 a0_6).bind fun bt228 => (if bt228.2.2.2.2.2.2.2.2 = true then ((page_shape_size.f bt228.1 bt228.2.1 bt228.2.2.1 bt228.2.2.2.1 bt228.2.2.2.2.1 bt228.2.2.2.2.2.1 bt228.2.2.2.2.2.2.1 bt228.2.2.2.2.2.2.2.1).bind fun t238 => (page_Decode.j0 k l1 0 ((l1.length : Int) != t238) bt228.1 bt228.2.1 bt228.2.2.1 bt228.2.2.2.1 bt228.2.2.2.2.1 bt228.2.2.2.2.2.1 bt228.2.2.2.2.2.2.1 bt228.2.2.2.2.2.2.2.1)) else (page_Decode.j0 k l1 0 true bt228.1 bt228.2.1 bt228.2.2.1 bt228.2.2.2.1 bt228.2.2.2.2.1 bt228.2.2.2.2.2.1 bt228.2.2.2.2.2.2.1 bt228.2.2.2.2.2.2.2.1))) = some (r1, r2, r3, r4, r5, r6, r7) := h
 clear h
 replace H := Option.bind_eq_some_iff.mp H
 obtain ⟨⟨t228, t229, t230, t231, t232, t233, t234, t235, t236⟩, A30, H⟩ := H
 replace H : (if t236 = true then ((page_shape_size.f t228 t229 t230 t231 t232 t233 t234 t235).bind fun t238 => (page_Decode.j0 k l1 0 ((l1.length : Int) != t238) t228 t229 t230 t231 t232 t233 t234 t235)) else (page_Decode.j0 k l1 0 true t228 t229 t230 t231 t232 t233 t234 t235)) = some (r1, r2, r3, r4, r5, r6, r7) := H
 have A3 := ak_ A30
 clear A30
 have HC4 := ak_ H
 clear H
 go_enter Try.func30, Try.ntmps30
 go_upto_region 2 with (first | ((with_reducible refine gate_dst (N := 2) rfl ?_); (try (refine gate_guard (by rfl) ?_; dsimp only)); refine box_event ?hg (N := 2) ?hd (cs := #[.int .i64 a0_0, .int .i64 a0_1, .int .i64 a0_2, .int .i64 a0_3, .int .i64 a0_4, .int .i64 a0_5, .int .i64 a0_6]) (t := 23) ?hr ?_; (case hd => rfl); (case hg => rfl); (case hr => first | (go_simp; done) | (go_simp; rfl)); intro gb226 hg w5 hbox hb; have n0_ := ak_ (below_step (by repeat (first | (with_reducible first | exact HB.out | apply below_alloc | apply pw_below_drewN | apply below_drew1) | exact HB.out)) hb); have n1_ := ak_ (hbox); have n2_ := ak_ ((by rw [hg]; exact (below_size (by repeat (first | (with_reducible first | exact HB.out | apply below_alloc | apply pw_below_drewN | apply below_drew1) | exact HB.out))) : w.heap.size ≤ gb226)); have n3_ := ak_ ((by rw [hg]; exact (below_size (by repeat (first | (with_reducible first | exact HB.out | apply below_alloc | apply pw_below_drewN | apply below_drew1) | exact HB.out))) : w.heap.size ≤ gb226)); clear HB; have HB := n0_; have BK226 := n1_; have GW226 := n2_; have GE226 := n3_; clear n0_ n1_ n2_ n3_; clear hb hbox hg) | ((with_reducible refine gate_dst (N := 5) rfl ?_); (try (refine gate_guard (by rfl) ?_; dsimp only)); refine box_event ?hg (N := 5) ?hd (cs := #[.int .i64 0, .int .i64 0, .int .i64 0, .int .i64 0]) (t := 26) ?hr ?_; (case hd => rfl); (case hg => rfl); (case hr => first | (go_simp; done) | (go_simp; rfl)); intro gb227 hg w6 hbox hb; have n0_ := ak_ (blk_below (g := gb226) (o := .cells #[.int .i64 a0_0, .int .i64 a0_1, .int .i64 a0_2, .int .i64 a0_3, .int .i64 a0_4, .int .i64 a0_5, .int .i64 a0_6] 23 (0, 0)) (by (with_reducible repeat (first | apply blk_drewN | apply blk_drew | apply blk_alloc)); exact BK226.out) hb); have n1_ := ak_ (below_step (by repeat (first | (with_reducible first | exact HB.out | apply below_alloc | apply pw_below_drewN | apply below_drew1 | refine below_set ?_ GE226.out) | exact HB.out)) hb); have n2_ := ak_ (hbox); have n3_ := ak_ ((by rw [hg]; exact (below_size (by repeat (first | (with_reducible first | exact HB.out | apply below_alloc | apply pw_below_drewN | apply below_drew1 | refine below_set ?_ GE226.out) | exact HB.out))) : w.heap.size ≤ gb227)); have n4_ := ak_ ((by rw [hg]; exact (below_size (by repeat (first | (with_reducible first | exact HB.out | apply below_alloc | apply pw_below_drewN | apply below_drew1 | refine below_set ?_ GE226.out) | exact HB.out))) : w.heap.size ≤ gb227)); have n5_ := ak_ ((by rw [hg]; exact Nat.ne_of_lt (blk_lt (g := gb226) (o := .cells #[.int .i64 a0_0, .int .i64 a0_1, .int .i64 a0_2, .int .i64 a0_3, .int .i64 a0_4, .int .i64 a0_5, .int .i64 a0_6] 23 (0, 0)) (by (with_reducible repeat (first | apply blk_drewN | apply blk_drew | apply blk_alloc)); exact BK226.out)) : gb226 ≠ gb227)); have n6_ := ak_ ((by rw [hg]; exact Nat.ne_of_gt (blk_lt (g := gb226) (o := .cells #[.int .i64 a0_0, .int .i64 a0_1, .int .i64 a0_2, .int .i64 a0_3, .int .i64 a0_4, .int .i64 a0_5, .int .i64 a0_6] 23 (0, 0)) (by (with_reducible repeat (first | apply blk_drewN | apply blk_drew | apply blk_alloc)); exact BK226.out)) : gb227 ≠ gb226)); clear BK226; clear HB; have BK226 := n0_; have HB := n1_; have BK227 := n2_; have GW227 := n3_; have GE227 := n4_; have NB226_227 := n5_; have NB227_226 := n6_; clear n0_ n1_ n2_ n3_ n4_ n5_ n6_; clear hb hbox hg; have hnb7 := NB226_227.out; have hnc7 := NB227_226.out; have hcz8_0 : w6.cell? ⟨gb226, 0, none⟩ = some (.int .i64 a0_0) := (blk_cell BK226.out 0).trans rfl; have hcz8_1 : w6.cell? ⟨gb226, 1, none⟩ = some (.int .i64 a0_1) := (blk_cell BK226.out 1).trans rfl; have hcz8_2 : w6.cell? ⟨gb226, 2, none⟩ = some (.int .i64 a0_2) := (blk_cell BK226.out 2).trans rfl; have hcz8_3 : w6.cell? ⟨gb226, 3, none⟩ = some (.int .i64 a0_3) := (blk_cell BK226.out 3).trans rfl; have hcz8_4 : w6.cell? ⟨gb226, 4, none⟩ = some (.int .i64 a0_4) := (blk_cell BK226.out 4).trans rfl; have hcz8_5 : w6.cell? ⟨gb226, 5, none⟩ = some (.int .i64 a0_5) := (blk_cell BK226.out 5).trans rfl; have hcz8_6 : w6.cell? ⟨gb226, 6, none⟩ = some (.int .i64 a0_6) := (blk_cell BK226.out 6).trans rfl; have hfz8_0 := blk_frozen BK226.out 0; have hfz8_1 := blk_frozen BK226.out 1; have hfz8_2 := blk_frozen BK226.out 2; have hfz8_3 := blk_frozen BK226.out 3; have hfz8_4 := blk_frozen BK226.out 4; have hfz8_5 := blk_frozen BK226.out 5; have hfz8_6 := blk_frozen BK226.out 6) | ((with_reducible refine gate_callee (f := 37) rfl ?_); refine goesL_ (some 15) rfl rfl Try.func37 (by kernel_rfl) rfl #[.agg #[.int .i64 a0_0, .int .i64 a0_1, .int .i64 a0_2, .int .i64 a0_3, .int .i64 a0_4, .int .i64 a0_5, .int .i64 a0_6]] rfl (by (try simp only [List.map_toArray, List.map_cons, List.map_nil]); first | done | rfl | (simp only [List.length_drop, List.length_take]; rfl)) ?_; (with_reducible refine (page_of.calls a0_0 a0_1 a0_2 a0_3 a0_4 a0_5 a0_6 t228 t229 t230 t231 t232 t233 t234 t235 t236 _ A3.out).mono ?_); rintro e w9 ⟨rfl, hb⟩; refine ⟨_, rfl, ?_⟩; have n0_ := ak_ (blk_below (g := gb226) (o := .cells #[.int .i64 a0_0, .int .i64 a0_1, .int .i64 a0_2, .int .i64 a0_3, .int .i64 a0_4, .int .i64 a0_5, .int .i64 a0_6] 23 (0, 0)) (by (with_reducible repeat (first | apply blk_drewN | apply blk_drew | apply blk_alloc)); exact BK226.out) hb); have n1_ := ak_ (blk_below (g := gb227) (o := .cells #[.int .i64 0, .int .i64 0, .int .i64 0, .int .i64 0] 26 (0, 0)) (by (with_reducible repeat (first | apply blk_drewN | apply blk_drew | apply blk_alloc)); exact BK227.out) hb); have n2_ := ak_ (below_step (by repeat (first | (with_reducible first | exact HB.out | apply below_alloc | apply pw_below_drewN | apply below_drew1 | refine below_set ?_ GE226.out | refine below_set ?_ GE227.out) | exact HB.out)) hb); clear BK226; clear BK227; clear HB; have BK226 := n0_; have BK227 := n1_; have HB := n2_; clear n0_ n1_ n2_; (try clear hb); (try clear hb2); (try clear hk); (try clear hi)) | ((with_reducible refine gate_dst (N := 8) rfl ?_); (try (refine gate_guard (by rfl) ?_; dsimp only)); refine box_event ?hg (N := 8) ?hd (cs := #[.int .i64 0, .int .i64 0, .int .i64 0, .int .i64 0, .int .i64 0, .int .i64 0, .int .i64 0, .int .i64 0]) (t := 70) ?hr ?_; (case hd => rfl); (case hg => rfl); (case hr => first | (go_simp; done) | (go_simp; rfl)); intro gb237 hg w10 hbox hb; have n0_ := ak_ (blk_below (g := gb226) (o := .cells #[.int .i64 a0_0, .int .i64 a0_1, .int .i64 a0_2, .int .i64 a0_3, .int .i64 a0_4, .int .i64 a0_5, .int .i64 a0_6] 23 (0, 0)) (by (with_reducible repeat (first | apply blk_drewN | apply blk_drew | apply blk_alloc)); exact BK226.out) hb); have n1_ := ak_ (blk_below (g := gb227) (o := .cells #[.int .i64 0, .int .i64 0, .int .i64 0, .int .i64 0] 26 (0, 0)) (by (with_reducible repeat (first | apply blk_drewN | apply blk_drew | apply blk_alloc)); exact BK227.out) hb); have n2_ := ak_ (below_step (by repeat (first | (with_reducible first | exact HB.out | apply below_alloc | apply pw_below_drewN | apply below_drew1 | refine below_set ?_ GE226.out | refine below_set ?_ GE227.out) | exact HB.out)) hb); have n3_ := ak_ (hbox); have n4_ := ak_ ((by rw [hg]; exact (below_size (by repeat (first | (with_reducible first | exact HB.out | apply below_alloc | apply pw_below_drewN | apply below_drew1 | refine below_set ?_ GE226.out | refine below_set ?_ GE227.out) | exact HB.out))) : w.heap.size ≤ gb237)); have n5_ := ak_ ((by rw [hg]; exact (below_size (by repeat (first | (with_reducible first | exact HB.out | apply below_alloc | apply pw_below_drewN | apply below_drew1 | refine below_set ?_ GE226.out | refine below_set ?_ GE227.out) | exact HB.out))) : w.heap.size ≤ gb237)); have n6_ := ak_ ((by rw [hg]; exact Nat.ne_of_lt (blk_lt (g := gb226) (o := .cells #[.int .i64 a0_0, .int .i64 a0_1, .int .i64 a0_2, .int .i64 a0_3, .int .i64 a0_4, .int .i64 a0_5, .int .i64 a0_6] 23 (0, 0)) (by (with_reducible repeat (first | apply blk_drewN | apply blk_drew | apply blk_alloc)); exact BK226.out)) : gb226 ≠ gb237)); have n7_ := ak_ ((by rw [hg]; exact Nat.ne_of_gt (blk_lt (g := gb226) (o := .cells #[.int .i64 a0_0, .int .i64 a0_1, .int .i64 a0_2, .int .i64 a0_3, .int .i64 a0_4, .int .i64 a0_5, .int .i64 a0_6] 23 (0, 0)) (by (with_reducible repeat (first | apply blk_drewN | apply blk_drew | apply blk_alloc)); exact BK226.out)) : gb237 ≠ gb226)); have n8_ := ak_ ((by rw [hg]; exact Nat.ne_of_lt (blk_lt (g := gb227) (o := .cells #[.int .i64 0, .int .i64 0, .int .i64 0, .int .i64 0] 26 (0, 0)) (by (with_reducible repeat (first | apply blk_drewN | apply blk_drew | apply blk_alloc)); exact BK227.out)) : gb227 ≠ gb237)); have n9_ := ak_ ((by rw [hg]; exact Nat.ne_of_gt (blk_lt (g := gb227) (o := .cells #[.int .i64 0, .int .i64 0, .int .i64 0, .int .i64 0] 26 (0, 0)) (by (with_reducible repeat (first | apply blk_drewN | apply blk_drew | apply blk_alloc)); exact BK227.out)) : gb237 ≠ gb227)); clear BK226; clear BK227; clear HB; have BK226 := n0_; have BK227 := n1_; have HB := n2_; have BK237 := n3_; have GW237 := n4_; have GE237 := n5_; have NB226_237 := n6_; have NB237_226 := n7_; have NB227_237 := n8_; have NB237_227 := n9_; clear n0_ n1_ n2_ n3_ n4_ n5_ n6_ n7_ n8_ n9_; clear hb hbox hg; have hnb11 := NB237_226.out; have hnc11 := NB226_237.out; have hnb12 := NB237_227.out; have hnc12 := NB227_237.out; have hcz13_0 : w10.cell? ⟨gb237, 0, none⟩ = some (.int .i64 0) := (blk_cell BK237.out 0).trans rfl; have hcz13_1 : w10.cell? ⟨gb237, 1, none⟩ = some (.int .i64 0) := (blk_cell BK237.out 1).trans rfl; have hcz13_2 : w10.cell? ⟨gb237, 2, none⟩ = some (.int .i64 0) := (blk_cell BK237.out 2).trans rfl; have hcz13_3 : w10.cell? ⟨gb237, 3, none⟩ = some (.int .i64 0) := (blk_cell BK237.out 3).trans rfl; have hcz13_4 : w10.cell? ⟨gb237, 4, none⟩ = some (.int .i64 0) := (blk_cell BK237.out 4).trans rfl; have hcz13_5 : w10.cell? ⟨gb237, 5, none⟩ = some (.int .i64 0) := (blk_cell BK237.out 5).trans rfl; have hcz13_6 : w10.cell? ⟨gb237, 6, none⟩ = some (.int .i64 0) := (blk_cell BK237.out 6).trans rfl; have hcz13_7 : w10.cell? ⟨gb237, 7, none⟩ = some (.int .i64 0) := (blk_cell BK237.out 7).trans rfl; have hfz13_0 := blk_frozen BK237.out 0; have hfz13_1 := blk_frozen BK237.out 1; have hfz13_2 := blk_frozen BK237.out 2; have hfz13_3 := blk_frozen BK237.out 3; have hfz13_4 := blk_frozen BK237.out 4; have hfz13_5 := blk_frozen BK237.out 5; have hfz13_6 := blk_frozen BK237.out 6; have hfz13_7 := blk_frozen BK237.out 7))
 (try simp only [Act.put, List.setIfInBounds_toArray, List.set_cons_zero, List.set_cons_succ])
 go_cut [26] (fun v26 wc => ∃ (kq : Nat) (x26_3 : Bool), v26 = .bool x26_3 ∧ Aside0 (page_Decode.j0 kq l1 0 x26_3 t228 t229 t230 t231 t232 t233 t234 t235 = some (r1, r2, r3, r4, r5, r6, r7)) ∧ Aside0 (kq ≤ k) ∧ Aside0 (wc.heap[gb226]? = some (.cells #[.int .i64 a0_0, .int .i64 a0_1, .int .i64 a0_2, .int .i64 a0_3, .int .i64 a0_4, .int .i64 a0_5, .int .i64 a0_6] 23 (0, 0))) ∧ Aside0 (wc.heap[gb227]? = some (.cells #[.int .i64 0, .int .i64 0, .int .i64 0, .int .i64 0] 26 (0, 0))) ∧ Aside0 (wc.heap[gb237]? = some (.cells #[.int .i64 t228, .int .i64 t229, .int .i64 t230, .int .i64 t231, .int .i64 t232, .int .i64 t233, .int .i64 t234, .int .i64 t235] 70 (0, 0))) ∧ Aside0 (Below w.heap.size w wc))
 case first =>
  have H := HC4.out
  clear HC4
  by_cases c14 : t236 = true
  ·subst c14
   have H1 : ((page_shape_size.f t228 t229 t230 t231 t232 t233 t234 t235).bind fun t238 => (page_Decode.j0 k l1 0 ((l1.length : Int) != t238) t228 t229 t230 t231 t232 t233 t234 t235)) = some (r1, r2, r3, r4, r5, r6, r7) := by rw [if_pos rfl] at H; exact H
   clear H
   have H := H1
   clear H1
   replace H := Option.bind_eq_some_iff.mp H
   obtain ⟨t238, A150, H⟩ := H
   replace H : (page_Decode.j0 k l1 0 ((l1.length : Int) != t238) t228 t229 t230 t231 t232 t233 t234 t235) = some (r1, r2, r3, r4, r5, r6, r7) := H
   have A15 := ak_ A150
   clear A150
   have H' := ak_ H
   clear H
   have hnb16 := NB237_226.out
   have hnc16 := NB226_237.out
   have hnb17 := NB237_227.out
   have hnc17 := NB227_237.out
   have hcz18_0 : w10.cell? ⟨gb237, 0, none⟩ = some (.int .i64 0) := (blk_cell BK237.out 0).trans rfl
   have hcz18_1 : w10.cell? ⟨gb237, 1, none⟩ = some (.int .i64 0) := (blk_cell BK237.out 1).trans rfl
   have hcz18_2 : w10.cell? ⟨gb237, 2, none⟩ = some (.int .i64 0) := (blk_cell BK237.out 2).trans rfl
   have hcz18_3 : w10.cell? ⟨gb237, 3, none⟩ = some (.int .i64 0) := (blk_cell BK237.out 3).trans rfl
   have hcz18_4 : w10.cell? ⟨gb237, 4, none⟩ = some (.int .i64 0) := (blk_cell BK237.out 4).trans rfl
   have hcz18_5 : w10.cell? ⟨gb237, 5, none⟩ = some (.int .i64 0) := (blk_cell BK237.out 5).trans rfl
   have hcz18_6 : w10.cell? ⟨gb237, 6, none⟩ = some (.int .i64 0) := (blk_cell BK237.out 6).trans rfl
   have hcz18_7 : w10.cell? ⟨gb237, 7, none⟩ = some (.int .i64 0) := (blk_cell BK237.out 7).trans rfl
   have hfz18_0 := blk_frozen BK237.out 0
   have hfz18_1 := blk_frozen BK237.out 1
   have hfz18_2 := blk_frozen BK237.out 2
   have hfz18_3 := blk_frozen BK237.out 3
   have hfz18_4 := blk_frozen BK237.out 4
   have hfz18_5 := blk_frozen BK237.out 5
   have hfz18_6 := blk_frozen BK237.out 6
   have hfz18_7 := blk_frozen BK237.out 7
   go_wp2_with (first | (go_at_call 56; (with_reducible refine (page_shape_size.calls t228 t229 t230 t231 t232 t233 t234 t235 t238 _ A15.out).mono ?_); rintro e w19 ⟨rfl, hb⟩; have n0_ := ak_ (blk_below (g := gb226) (o := .cells #[.int .i64 a0_0, .int .i64 a0_1, .int .i64 a0_2, .int .i64 a0_3, .int .i64 a0_4, .int .i64 a0_5, .int .i64 a0_6] 23 (0, 0)) (by (with_reducible repeat (first | apply blk_drewN | apply blk_drew | apply blk_alloc)); refine blk_far ?_ NB226_237.out _; (with_reducible repeat (first | apply blk_drewN | apply blk_drew | apply blk_alloc)); refine blk_far ?_ NB226_237.out _; (with_reducible repeat (first | apply blk_drewN | apply blk_drew | apply blk_alloc)); refine blk_far ?_ NB226_237.out _; (with_reducible repeat (first | apply blk_drewN | apply blk_drew | apply blk_alloc)); refine blk_far ?_ NB226_237.out _; (with_reducible repeat (first | apply blk_drewN | apply blk_drew | apply blk_alloc)); refine blk_far ?_ NB226_237.out _; (with_reducible repeat (first | apply blk_drewN | apply blk_drew | apply blk_alloc)); refine blk_far ?_ NB226_237.out _; (with_reducible repeat (first | apply blk_drewN | apply blk_drew | apply blk_alloc)); refine blk_far ?_ NB226_237.out _; (with_reducible repeat (first | apply blk_drewN | apply blk_drew | apply blk_alloc)); refine blk_far ?_ NB226_237.out _; (with_reducible repeat (first | apply blk_drewN | apply blk_drew | apply blk_alloc)); exact BK226.out) hb); have n1_ := ak_ (blk_below (g := gb227) (o := .cells #[.int .i64 0, .int .i64 0, .int .i64 0, .int .i64 0] 26 (0, 0)) (by (with_reducible repeat (first | apply blk_drewN | apply blk_drew | apply blk_alloc)); refine blk_far ?_ NB227_237.out _; (with_reducible repeat (first | apply blk_drewN | apply blk_drew | apply blk_alloc)); refine blk_far ?_ NB227_237.out _; (with_reducible repeat (first | apply blk_drewN | apply blk_drew | apply blk_alloc)); refine blk_far ?_ NB227_237.out _; (with_reducible repeat (first | apply blk_drewN | apply blk_drew | apply blk_alloc)); refine blk_far ?_ NB227_237.out _; (with_reducible repeat (first | apply blk_drewN | apply blk_drew | apply blk_alloc)); refine blk_far ?_ NB227_237.out _; (with_reducible repeat (first | apply blk_drewN | apply blk_drew | apply blk_alloc)); refine blk_far ?_ NB227_237.out _; (with_reducible repeat (first | apply blk_drewN | apply blk_drew | apply blk_alloc)); refine blk_far ?_ NB227_237.out _; (with_reducible repeat (first | apply blk_drewN | apply blk_drew | apply blk_alloc)); refine blk_far ?_ NB227_237.out _; (with_reducible repeat (first | apply blk_drewN | apply blk_drew | apply blk_alloc)); exact BK227.out) hb); have n2_ := ak_ (blk_below (g := gb237) (o := .cells #[.int .i64 t228, .int .i64 t229, .int .i64 t230, .int .i64 t231, .int .i64 t232, .int .i64 t233, .int .i64 t234, .int .i64 t235] 70 (0, 0)) (by (with_reducible repeat (first | apply blk_drewN | apply blk_drew | apply blk_alloc)); refine blk_put (cs := #[.int .i64 t228, .int .i64 t229, .int .i64 t230, .int .i64 t231, .int .i64 t232, .int .i64 t233, .int .i64 t234, .int .i64 0]) ?_ 7 _ rfl; (with_reducible repeat (first | apply blk_drewN | apply blk_drew | apply blk_alloc)); refine blk_put (cs := #[.int .i64 t228, .int .i64 t229, .int .i64 t230, .int .i64 t231, .int .i64 t232, .int .i64 t233, .int .i64 0, .int .i64 0]) ?_ 6 _ rfl; (with_reducible repeat (first | apply blk_drewN | apply blk_drew | apply blk_alloc)); refine blk_put (cs := #[.int .i64 t228, .int .i64 t229, .int .i64 t230, .int .i64 t231, .int .i64 t232, .int .i64 0, .int .i64 0, .int .i64 0]) ?_ 5 _ rfl; (with_reducible repeat (first | apply blk_drewN | apply blk_drew | apply blk_alloc)); refine blk_put (cs := #[.int .i64 t228, .int .i64 t229, .int .i64 t230, .int .i64 t231, .int .i64 0, .int .i64 0, .int .i64 0, .int .i64 0]) ?_ 4 _ rfl; (with_reducible repeat (first | apply blk_drewN | apply blk_drew | apply blk_alloc)); refine blk_put (cs := #[.int .i64 t228, .int .i64 t229, .int .i64 t230, .int .i64 0, .int .i64 0, .int .i64 0, .int .i64 0, .int .i64 0]) ?_ 3 _ rfl; (with_reducible repeat (first | apply blk_drewN | apply blk_drew | apply blk_alloc)); refine blk_put (cs := #[.int .i64 t228, .int .i64 t229, .int .i64 0, .int .i64 0, .int .i64 0, .int .i64 0, .int .i64 0, .int .i64 0]) ?_ 2 _ rfl; (with_reducible repeat (first | apply blk_drewN | apply blk_drew | apply blk_alloc)); refine blk_put (cs := #[.int .i64 t228, .int .i64 0, .int .i64 0, .int .i64 0, .int .i64 0, .int .i64 0, .int .i64 0, .int .i64 0]) ?_ 1 _ rfl; (with_reducible repeat (first | apply blk_drewN | apply blk_drew | apply blk_alloc)); refine blk_put (cs := #[.int .i64 0, .int .i64 0, .int .i64 0, .int .i64 0, .int .i64 0, .int .i64 0, .int .i64 0, .int .i64 0]) ?_ 0 _ rfl; (with_reducible repeat (first | apply blk_drewN | apply blk_drew | apply blk_alloc)); exact BK237.out) hb); have n3_ := ak_ (below_step (by repeat (first | (with_reducible first | exact HB.out | apply below_alloc | apply pw_below_drewN | apply below_drew1 | refine below_set ?_ GE226.out | refine below_set ?_ GE227.out | refine below_set ?_ GE237.out) | exact HB.out)) hb); clear BK226; clear BK227; clear BK237; clear HB; have BK226 := n0_; have BK227 := n1_; have BK237 := n2_; have HB := n3_; clear n0_ n1_ n2_ n3_; (try clear hb); (try clear hb2); (try clear hk); (try clear hi)))
   go_meet
   case rel => exact ⟨_, (((l1.length : Int) != t238)), (by first | rfl | (simp; done) | (simp [*]; done)), H', ⟨by first | omega | exact Nat.le_refl _⟩, ⟨by (with_reducible repeat (first | apply blk_drewN | apply blk_drew | apply blk_alloc)); exact BK226.out⟩, ⟨by (with_reducible repeat (first | apply blk_drewN | apply blk_drew | apply blk_alloc)); exact BK227.out⟩, ⟨by (with_reducible repeat (first | apply blk_drewN | apply blk_drew | apply blk_alloc)); exact BK237.out⟩, ⟨by repeat (first | (with_reducible first | exact HB.out | apply below_alloc | apply pw_below_drewN | apply below_drew1 | refine below_set ?_ GE226.out | refine below_set ?_ GE227.out | refine below_set ?_ GE237.out) | exact HB.out)⟩⟩
  ·replace c14 := Bool.eq_false_iff.mpr c14
   subst c14
   have H1 : (page_Decode.j0 k l1 0 true t228 t229 t230 t231 t232 t233 t234 t235) = some (r1, r2, r3, r4, r5, r6, r7) := by rw [if_neg (show ¬ (false = true) by decide)] at H; exact H
   clear H
   have H := H1
   clear H1
   have H' := ak_ H
   clear H
   go_wp2
   go_meet
   case rel => exact ⟨_, (true), (by first | rfl | (simp; done) | (simp [*]; done)), H', ⟨by first | omega | exact Nat.le_refl _⟩, ⟨by (with_reducible repeat (first | apply blk_drewN | apply blk_drew | apply blk_alloc)); refine blk_far ?_ NB226_237.out _; (with_reducible repeat (first | apply blk_drewN | apply blk_drew | apply blk_alloc)); refine blk_far ?_ NB226_237.out _; (with_reducible repeat (first | apply blk_drewN | apply blk_drew | apply blk_alloc)); refine blk_far ?_ NB226_237.out _; (with_reducible repeat (first | apply blk_drewN | apply blk_drew | apply blk_alloc)); refine blk_far ?_ NB226_237.out _; (with_reducible repeat (first | apply blk_drewN | apply blk_drew | apply blk_alloc)); refine blk_far ?_ NB226_237.out _; (with_reducible repeat (first | apply blk_drewN | apply blk_drew | apply blk_alloc)); refine blk_far ?_ NB226_237.out _; (with_reducible repeat (first | apply blk_drewN | apply blk_drew | apply blk_alloc)); refine blk_far ?_ NB226_237.out _; (with_reducible repeat (first | apply blk_drewN | apply blk_drew | apply blk_alloc)); refine blk_far ?_ NB226_237.out _; (with_reducible repeat (first | apply blk_drewN | apply blk_drew | apply blk_alloc)); exact BK226.out⟩, ⟨by (with_reducible repeat (first | apply blk_drewN | apply blk_drew | apply blk_alloc)); refine blk_far ?_ NB227_237.out _; (with_reducible repeat (first | apply blk_drewN | apply blk_drew | apply blk_alloc)); refine blk_far ?_ NB227_237.out _; (with_reducible repeat (first | apply blk_drewN | apply blk_drew | apply blk_alloc)); refine blk_far ?_ NB227_237.out _; (with_reducible repeat (first | apply blk_drewN | apply blk_drew | apply blk_alloc)); refine blk_far ?_ NB227_237.out _; (with_reducible repeat (first | apply blk_drewN | apply blk_drew | apply blk_alloc)); refine blk_far ?_ NB227_237.out _; (with_reducible repeat (first | apply blk_drewN | apply blk_drew | apply blk_alloc)); refine blk_far ?_ NB227_237.out _; (with_reducible repeat (first | apply blk_drewN | apply blk_drew | apply blk_alloc)); refine blk_far ?_ NB227_237.out _; (with_reducible repeat (first | apply blk_drewN | apply blk_drew | apply blk_alloc)); refine blk_far ?_ NB227_237.out _; (with_reducible repeat (first | apply blk_drewN | apply blk_drew | apply blk_alloc)); exact BK227.out⟩, ⟨by (with_reducible repeat (first | apply blk_drewN | apply blk_drew | apply blk_alloc)); refine blk_put (cs := #[.int .i64 t228, .int .i64 t229, .int .i64 t230, .int .i64 t231, .int .i64 t232, .int .i64 t233, .int .i64 t234, .int .i64 0]) ?_ 7 _ rfl; (with_reducible repeat (first | apply blk_drewN | apply blk_drew | apply blk_alloc)); refine blk_put (cs := #[.int .i64 t228, .int .i64 t229, .int .i64 t230, .int .i64 t231, .int .i64 t232, .int .i64 t233, .int .i64 0, .int .i64 0]) ?_ 6 _ rfl; (with_reducible repeat (first | apply blk_drewN | apply blk_drew | apply blk_alloc)); refine blk_put (cs := #[.int .i64 t228, .int .i64 t229, .int .i64 t230, .int .i64 t231, .int .i64 t232, .int .i64 0, .int .i64 0, .int .i64 0]) ?_ 5 _ rfl; (with_reducible repeat (first | apply blk_drewN | apply blk_drew | apply blk_alloc)); refine blk_put (cs := #[.int .i64 t228, .int .i64 t229, .int .i64 t230, .int .i64 t231, .int .i64 0, .int .i64 0, .int .i64 0, .int .i64 0]) ?_ 4 _ rfl; (with_reducible repeat (first | apply blk_drewN | apply blk_drew | apply blk_alloc)); refine blk_put (cs := #[.int .i64 t228, .int .i64 t229, .int .i64 t230, .int .i64 0, .int .i64 0, .int .i64 0, .int .i64 0, .int .i64 0]) ?_ 3 _ rfl; (with_reducible repeat (first | apply blk_drewN | apply blk_drew | apply blk_alloc)); refine blk_put (cs := #[.int .i64 t228, .int .i64 t229, .int .i64 0, .int .i64 0, .int .i64 0, .int .i64 0, .int .i64 0, .int .i64 0]) ?_ 2 _ rfl; (with_reducible repeat (first | apply blk_drewN | apply blk_drew | apply blk_alloc)); refine blk_put (cs := #[.int .i64 t228, .int .i64 0, .int .i64 0, .int .i64 0, .int .i64 0, .int .i64 0, .int .i64 0, .int .i64 0]) ?_ 1 _ rfl; (with_reducible repeat (first | apply blk_drewN | apply blk_drew | apply blk_alloc)); refine blk_put (cs := #[.int .i64 0, .int .i64 0, .int .i64 0, .int .i64 0, .int .i64 0, .int .i64 0, .int .i64 0, .int .i64 0]) ?_ 0 _ rfl; (with_reducible repeat (first | apply blk_drewN | apply blk_drew | apply blk_alloc)); exact BK237.out⟩, ⟨by repeat (first | (with_reducible first | exact HB.out | apply below_alloc | apply pw_below_drewN | apply below_drew1 | refine below_set ?_ GE226.out | refine below_set ?_ GE227.out | refine below_set ?_ GE237.out) | exact HB.out)⟩⟩
 case rest =>
  clear HC4
  try clear c1
  try clear p2
  try clear c3
  try clear c7
  try clear c11
  try clear c12
  try clear c14
  try clear c16
  try clear c17
  try clear hcz13_0
  try clear hcz13_1
  try clear hcz13_2
  try clear hcz13_3
  try clear hcz13_4
  try clear hcz13_5
  try clear hcz13_6
  try clear hcz13_7
  try clear hcz18_0
  try clear hcz18_1
  try clear hcz18_2
  try clear hcz18_3
  try clear hcz18_4
  try clear hcz18_5
  try clear hcz18_6
  try clear hcz18_7
  try clear hcz8_0
  try clear hcz8_1
  try clear hcz8_2
  try clear hcz8_3
  try clear hcz8_4
  try clear hcz8_5
  try clear hcz8_6
  try clear hfz13_0
  try clear hfz13_1
  try clear hfz13_2
  try clear hfz13_3
  try clear hfz13_4
  try clear hfz13_5
  try clear hfz13_6
  try clear hfz13_7
  try clear hfz18_0
  try clear hfz18_1
  try clear hfz18_2
  try clear hfz18_3
  try clear hfz18_4
  try clear hfz18_5
  try clear hfz18_6
  try clear hfz18_7
  try clear hfz8_0
  try clear hfz8_1
  try clear hfz8_2
  try clear hfz8_3
  try clear hfz8_4
  try clear hfz8_5
  try clear hfz8_6
  obtain ⟨kq, x26_3, rfl, HA, HJ3, BK226, BK227, BK237, HB⟩ := hcut
  cases kq with
  | zero => exact absurd HA.out (by simp [page_Decode.j0])
  | succ kj3 =>
   have H := HA.out
   clear HA
   simp only [page_Decode.j0] at H
   have HC20 := ak_ H
   clear H
   go_upto_if 26 with (fail)
   go_cut [6] (fun v6 wc => ∃ (kq : Nat) (x6_19 : Int) (x228000_19 : Int) (x228001_19 : Int) (x228002_19 : Int) (x228003_19 : Int), v6 = .int .i64 x6_19 ∧ Aside0 (page_Decode.j1 kq l1 x6_19 t228 t229 t230 t231 t232 t233 t234 t235 = some (r1, r2, r3, r4, r5, r6, r7)) ∧ Aside0 (kq ≤ kj3) ∧ Aside0 (wc.heap[gb226]? = some (.cells #[.int .i64 a0_0, .int .i64 a0_1, .int .i64 a0_2, .int .i64 a0_3, .int .i64 a0_4, .int .i64 a0_5, .int .i64 a0_6] 23 (0, 0))) ∧ Aside0 (wc.heap[gb227]? = some (.cells #[.int .i64 x228000_19, .int .i64 x228001_19, .int .i64 x228002_19, .int .i64 x228003_19] 26 (0, 0))) ∧ Aside0 (wc.heap[gb237]? = some (.cells #[.int .i64 t228, .int .i64 t229, .int .i64 t230, .int .i64 t231, .int .i64 t232, .int .i64 t233, .int .i64 t234, .int .i64 t235] 70 (0, 0))) ∧ Aside0 (Below w.heap.size w wc))
   case first =>
    have H := HC20.out
    clear HC20
    by_cases c21 : x26_3 = true
    ·subst c21
     have H1 : (some (([] : List Int), 0, 0, 0, 0, 0, 2)) = some (r1, r2, r3, r4, r5, r6, r7) := by rw [if_pos rfl] at H; exact H
     clear H
     have H := H1
     clear H1
     simp only [Option.some.injEq, Prod.mk.injEq] at H
     obtain ⟨rfl, rfl, rfl, rfl, rfl, rfl, rfl⟩ := H
     have hnb22 := NB227_226.out
     have hnc22 := NB226_227.out
     have hnb23 := NB227_237.out
     have hnc23 := NB237_227.out
     have hcz24_0 : wc.cell? ⟨gb227, 0, none⟩ = some (.int .i64 0) := (blk_cell BK227.out 0).trans rfl
     have hcz24_1 : wc.cell? ⟨gb227, 1, none⟩ = some (.int .i64 0) := (blk_cell BK227.out 1).trans rfl
     have hcz24_2 : wc.cell? ⟨gb227, 2, none⟩ = some (.int .i64 0) := (blk_cell BK227.out 2).trans rfl
     have hcz24_3 : wc.cell? ⟨gb227, 3, none⟩ = some (.int .i64 0) := (blk_cell BK227.out 3).trans rfl
     have hfz24_0 := blk_frozen BK227.out 0
     have hfz24_1 := blk_frozen BK227.out 1
     have hfz24_2 := blk_frozen BK227.out 2
     have hfz24_3 := blk_frozen BK227.out 3
     go_wp2
     refine bodyPost_ret (results_list (rs := [.tmp 4, .cell 5 26, .tmp 6, .tmp 7]) rfl (by simp) (.tmp (.cell gb227 26 #[.int .i64 0, .int .i64 0, .int .i64 0, .int .i64 0] (0, 0) _ rfl (by (with_reducible repeat (first | apply blk_drewN | apply blk_drew | apply blk_alloc)); refine blk_put (cs := #[.int .i64 0, .int .i64 0, .int .i64 0, .int .i64 0]) ?_ 3 _ rfl; (with_reducible repeat (first | apply blk_drewN | apply blk_drew | apply blk_alloc)); refine blk_put (cs := #[.int .i64 0, .int .i64 0, .int .i64 0, .int .i64 0]) ?_ 2 _ rfl; (with_reducible repeat (first | apply blk_drewN | apply blk_drew | apply blk_alloc)); refine blk_put (cs := #[.int .i64 0, .int .i64 0, .int .i64 0, .int .i64 0]) ?_ 1 _ rfl; (with_reducible repeat (first | apply blk_drewN | apply blk_drew | apply blk_alloc)); refine blk_put (cs := #[.int .i64 0, .int .i64 0, .int .i64 0, .int .i64 0]) ?_ 0 _ rfl; (with_reducible repeat (first | apply blk_drewN | apply blk_drew | apply blk_alloc)); exact BK227.out) Try.underlying26 rfl (by kernel_rfl) (.tmp (.tmp .nil))))) rfl ?_
     exact ⟨_, by first | rfl | (simp [errW_none, errW_some] <;> rfl) | (simp [*, errW_none, errW_some] <;> rfl), by first | exact Kd.R_nil _ _ _ _ _ | exact Kd.N_nil _ _ _ _ _ | exact Kd.V_nil _ _ _ _ _ | exact Kd.Q_nil _ _ _ _ _ | exact Kd.S_nil _ _ _ _ _, by repeat (first | (with_reducible first | exact HB.out | apply below_alloc | apply pw_below_drewN | apply below_drew1 | refine below_set ?_ GE226.out | refine below_set ?_ GE227.out | refine below_set ?_ GE237.out) | exact HB.out)⟩
    ·replace c21 := Bool.eq_false_iff.mpr c21
     subst c21
     have H1 : (page_Decode.j1 kj3 l1 0 t228 t229 t230 t231 t232 t233 t234 t235) = some (r1, r2, r3, r4, r5, r6, r7) := by rw [if_neg (show ¬ (false = true) by decide)] at H; exact H
     clear H
     have H := H1
     clear H1
     have H' := ak_ H
     clear H
     go_wp2
     go_meet
     case rel => exact ⟨_, (0), (0), (0), (0), (0), (by first | rfl | (simp; done) | (simp [*]; done)), H', ⟨by have := HJ3.out; first | omega | exact Nat.le_refl _⟩, ⟨by (with_reducible repeat (first | apply blk_drewN | apply blk_drew | apply blk_alloc)); exact BK226.out⟩, ⟨by (with_reducible repeat (first | apply blk_drewN | apply blk_drew | apply blk_alloc)); exact BK227.out⟩, ⟨by (with_reducible repeat (first | apply blk_drewN | apply blk_drew | apply blk_alloc)); exact BK237.out⟩, ⟨by repeat (first | (with_reducible first | exact HB.out | apply below_alloc | apply pw_below_drewN | apply below_drew1 | refine below_set ?_ GE226.out | refine below_set ?_ GE227.out | refine below_set ?_ GE237.out) | exact HB.out)⟩⟩
   case rest =>
    clear HC20
    try clear c1
    try clear c2
    try clear p2
    try clear c3
    try clear c7
    try clear c11
    try clear c12
    try clear c14
    try clear c16
    try clear c17
    try clear c21
    try clear c22
    try clear c23
    try clear hcz13_0
    try clear hcz13_1
    try clear hcz13_2
    try clear hcz13_3
    try clear hcz13_4
    try clear hcz13_5
    try clear hcz13_6
    try clear hcz13_7
    try clear hcz18_0
    try clear hcz18_1
    try clear hcz18_2
    try clear hcz18_3
    try clear hcz18_4
    try clear hcz18_5
    try clear hcz18_6
    try clear hcz18_7
    try clear hcz24_0
    try clear hcz24_1
    try clear hcz24_2
    try clear hcz24_3
    try clear hcz8_0
    try clear hcz8_1
    try clear hcz8_2
    try clear hcz8_3
    try clear hcz8_4
    try clear hcz8_5
    try clear hcz8_6
    try clear hfz13_0
    try clear hfz13_1
    try clear hfz13_2
    try clear hfz13_3
    try clear hfz13_4
    try clear hfz13_5
    try clear hfz13_6
    try clear hfz13_7
    try clear hfz18_0
    try clear hfz18_1
    try clear hfz18_2
    try clear hfz18_3
    try clear hfz18_4
    try clear hfz18_5
    try clear hfz18_6
    try clear hfz18_7
    try clear hfz24_0
    try clear hfz24_1
    try clear hfz24_2
    try clear hfz24_3
    try clear hfz8_0
    try clear hfz8_1
    try clear hfz8_2
    try clear hfz8_3
    try clear hfz8_4
    try clear hfz8_5
    try clear hfz8_6
    try clear p2
    obtain ⟨kq, x6_19, x228000_19, x228001_19, x228002_19, x228003_19, rfl, HA, HJ19, BK226, BK227, BK237, HB⟩ := hcut
    cases kq with
    | zero => exact absurd HA.out (by simp [page_Decode.j1])
    | succ kj19 =>
     have H := HA.out
     clear HA
     simp only [page_Decode.j1] at H
     replace H := Option.bind_eq_some_iff.mp H
     obtain ⟨t239, A250, H⟩ := H
     replace H : ((bits_Zeros.f kj19 t239).bind fun t242 => (if t242 ≤ 20 then (some (([] : List Int), 0, 0, 0, 0, 2, 0)) else (page_Decode.j2 kj19 l1 x6_19 t228 t229 t230 t231 t232 t233 t234 t235))) = some (r1, r2, r3, r4, r5, r6, r7) := H
     have A25 := ak_ A250
     clear A250
     replace H := Option.bind_eq_some_iff.mp H
     obtain ⟨t242, A260, H⟩ := H
     replace H : (if t242 ≤ 20 then (some (([] : List Int), 0, 0, 0, 0, 2, 0)) else (page_Decode.j2 kj19 l1 x6_19 t228 t229 t230 t231 t232 t233 t234 t235)) = some (r1, r2, r3, r4, r5, r6, r7) := H
     have A26 := ak_ A260
     clear A260
     have HC27 := ak_ H
     clear H
     have hnb28 := NB237_226.out
     have hnc28 := NB226_237.out
     have hnb29 := NB237_227.out
     have hnc29 := NB227_237.out
     have hcz30_0 : wc.cell? ⟨gb237, 0, none⟩ = some (.int .i64 t228) := (blk_cell BK237.out 0).trans rfl
     have hcz30_1 : wc.cell? ⟨gb237, 1, none⟩ = some (.int .i64 t229) := (blk_cell BK237.out 1).trans rfl
     have hcz30_2 : wc.cell? ⟨gb237, 2, none⟩ = some (.int .i64 t230) := (blk_cell BK237.out 2).trans rfl
     have hcz30_3 : wc.cell? ⟨gb237, 3, none⟩ = some (.int .i64 t231) := (blk_cell BK237.out 3).trans rfl
     have hcz30_4 : wc.cell? ⟨gb237, 4, none⟩ = some (.int .i64 t232) := (blk_cell BK237.out 4).trans rfl
     have hcz30_5 : wc.cell? ⟨gb237, 5, none⟩ = some (.int .i64 t233) := (blk_cell BK237.out 5).trans rfl
     have hcz30_6 : wc.cell? ⟨gb237, 6, none⟩ = some (.int .i64 t234) := (blk_cell BK237.out 6).trans rfl
     have hcz30_7 : wc.cell? ⟨gb237, 7, none⟩ = some (.int .i64 t235) := (blk_cell BK237.out 7).trans rfl
     have hfz30_0 := blk_frozen BK237.out 0
     have hfz30_1 := blk_frozen BK237.out 1
     have hfz30_2 := blk_frozen BK237.out 2
     have hfz30_3 := blk_frozen BK237.out 3
     have hfz30_4 := blk_frozen BK237.out 4
     have hfz30_5 := blk_frozen BK237.out 5
     have hfz30_6 := blk_frozen BK237.out 6
     have hfz30_7 := blk_frozen BK237.out 7
     go_upto_if 32 with (first | ((with_reducible refine gate_callee (f := 57) rfl ?_); refine goesL_ (some 30) rfl rfl Try.func57 (by kernel_rfl) rfl #[.agg #[.int .i64 t228, .int .i64 t229, .int .i64 t230, .int .i64 t231, .int .i64 t232, .int .i64 t233, .int .i64 t234, .int .i64 t235], .slice A1 l1.length c1] rfl (by (try simp only [List.map_toArray, List.map_cons, List.map_nil]); first | done | rfl | (simp only [List.length_drop, List.length_take]; rfl)) ?_; (with_reducible refine (page_shape_label.calls t228 t229 t230 t231 t232 t233 t234 t235 (fun k_ => k_ < w.heap.size) _ _ l1 t239 _ ?side1 A25.out).mono ?_); (case side1 => exact Kd.V_mk HC1.out (Kd.F_below (Kd.C_F (Kd.heap_int .u8) HR1.out) (by repeat (first | (with_reducible first | exact HB.out | apply below_alloc | apply pw_below_drewN | apply below_drew1 | refine below_set ?_ GE226.out | refine below_set ?_ GE227.out | refine below_set ?_ GE237.out) | exact HB.out)))); rintro e w31 ⟨v240, rfl, ho0, hb⟩; refine ⟨_, rfl, ?_⟩; have n0_ := ak_ (Kd.V_lower (Kd.V_mono (ok' := fun k_ => k_ ≠ gb226 ∧ k_ ≠ gb227 ∧ k_ ≠ gb237) ho0 (fun k_ hk_ => ⟨Or.elim hk_ (fun hs_ => fun e_ => Nat.not_le.2 hs_ (by rw [e_]; exact GW226.out)) (fun hn_ => (Kd.freshB (g := gb226) (o := .cells #[.int .i64 a0_0, .int .i64 a0_1, .int .i64 a0_2, .int .i64 a0_3, .int .i64 a0_4, .int .i64 a0_5, .int .i64 a0_6] 23 (0, 0)) (by (with_reducible repeat (first | apply blk_drewN | apply blk_drew | apply blk_alloc)); exact BK226.out) k_ hn_)), Or.elim hk_ (fun hs_ => fun e_ => Nat.not_le.2 hs_ (by rw [e_]; exact GW227.out)) (fun hn_ => (Kd.freshB (g := gb227) (o := .cells #[.int .i64 x228000_19, .int .i64 x228001_19, .int .i64 x228002_19, .int .i64 x228003_19] 26 (0, 0)) (by (with_reducible repeat (first | apply blk_drewN | apply blk_drew | apply blk_alloc)); exact BK227.out) k_ hn_)), Or.elim hk_ (fun hs_ => fun e_ => Nat.not_le.2 hs_ (by rw [e_]; exact GW237.out)) (fun hn_ => (Kd.freshB (g := gb237) (o := .cells #[.int .i64 t228, .int .i64 t229, .int .i64 t230, .int .i64 t231, .int .i64 t232, .int .i64 t233, .int .i64 t234, .int .i64 t235] 70 (0, 0)) (by (with_reducible repeat (first | apply blk_drewN | apply blk_drew | apply blk_alloc)); exact BK237.out) k_ hn_))⟩)) (below_size (by repeat (first | (with_reducible first | exact HB.out | apply below_alloc | apply pw_below_drewN | apply below_drew1 | refine below_set ?_ GE226.out | refine below_set ?_ GE227.out | refine below_set ?_ GE237.out) | exact HB.out)))); have n1_ := ak_ (blk_below (g := gb226) (o := .cells #[.int .i64 a0_0, .int .i64 a0_1, .int .i64 a0_2, .int .i64 a0_3, .int .i64 a0_4, .int .i64 a0_5, .int .i64 a0_6] 23 (0, 0)) (by (with_reducible repeat (first | apply blk_drewN | apply blk_drew | apply blk_alloc)); exact BK226.out) hb); have n2_ := ak_ (blk_below (g := gb227) (o := .cells #[.int .i64 x228000_19, .int .i64 x228001_19, .int .i64 x228002_19, .int .i64 x228003_19] 26 (0, 0)) (by (with_reducible repeat (first | apply blk_drewN | apply blk_drew | apply blk_alloc)); exact BK227.out) hb); have n3_ := ak_ (blk_below (g := gb237) (o := .cells #[.int .i64 t228, .int .i64 t229, .int .i64 t230, .int .i64 t231, .int .i64 t232, .int .i64 t233, .int .i64 t234, .int .i64 t235] 70 (0, 0)) (by (with_reducible repeat (first | apply blk_drewN | apply blk_drew | apply blk_alloc)); exact BK237.out) hb); have n4_ := ak_ (below_step (by repeat (first | (with_reducible first | exact HB.out | apply below_alloc | apply pw_below_drewN | apply below_drew1 | refine below_set ?_ GE226.out | refine below_set ?_ GE227.out | refine below_set ?_ GE237.out) | exact HB.out)) hb); clear BK226; clear BK227; clear BK237; clear HB; have HO241 := n0_; have BK226 := n1_; have BK227 := n2_; have BK237 := n3_; have HB := n4_; clear n0_ n1_ n2_ n3_ n4_; (try clear hb); (try clear hb2); (try clear hk); (try clear hi); (try clear ho0); obtain ⟨Ao32, co32, eo32⟩ := Kd.V_slice HO241.out; subst eo32) | ((with_reducible refine gate_callee (f := 17) rfl ?_); refine goesL_ (some 31) rfl rfl Try.func17 (by kernel_rfl) rfl #[.slice Ao32 t239.length co32] rfl (by (try simp only [List.map_toArray, List.map_cons, List.map_nil]); first | done | rfl | (simp only [List.length_drop, List.length_take]; rfl)) ?_; (with_reducible refine (bits_Zeros.calls kj19 _ _ t239 t242 _ ?side1 ?side2 A26.out).mono ?_); (case side1 => repeat (first | exact (Kd.V_reads' HO241.out).2.2 | (with_reducible refine Kd.C_alloc ?_ _) | (with_reducible refine Kd.C_drewN ?_ _) | (with_reducible refine Kd.C_drew ?_))); (case side2 => exact (Kd.V_reads' HO241.out).2.1); rintro e w' ⟨rfl, ⟨nd, rfl⟩⟩; refine ⟨_, rfl, ?_⟩))
     (try simp only [Act.put, List.setIfInBounds_toArray, List.set_cons_zero, List.set_cons_succ])
     go_cut [6] (fun v6 wc => ∃ (kq : Nat) (x6_26 : Int) (x228000_26 : Int) (x228001_26 : Int) (x228002_26 : Int) (x228003_26 : Int), v6 = .int .i64 x6_26 ∧ Aside0 (page_Decode.j2 kq l1 x6_26 t228 t229 t230 t231 t232 t233 t234 t235 = some (r1, r2, r3, r4, r5, r6, r7)) ∧ Aside0 (kq ≤ kj19) ∧ Aside0 (wc.heap[gb226]? = some (.cells #[.int .i64 a0_0, .int .i64 a0_1, .int .i64 a0_2, .int .i64 a0_3, .int .i64 a0_4, .int .i64 a0_5, .int .i64 a0_6] 23 (0, 0))) ∧ Aside0 (wc.heap[gb227]? = some (.cells #[.int .i64 x228000_26, .int .i64 x228001_26, .int .i64 x228002_26, .int .i64 x228003_26] 26 (0, 0))) ∧ Aside0 (wc.heap[gb237]? = some (.cells #[.int .i64 t228, .int .i64 t229, .int .i64 t230, .int .i64 t231, .int .i64 t232, .int .i64 t233, .int .i64 t234, .int .i64 t235] 70 (0, 0))) ∧ Aside0 (Below w.heap.size w wc))
     case first =>
      have H := HC27.out
      clear HC27
      by_cases c33 : t242 ≤ 20
      ·rw [if_pos c33] at H
       have c33b0 : decide (t242 ≤ 20) = true := decide_eq_true c33
       clear c33
       (first | rw [c33b0] | (simp only [i64_w, i32_w]; rw [c33b0]) | skip)
       simp only [Option.some.injEq, Prod.mk.injEq] at H
       obtain ⟨rfl, rfl, rfl, rfl, rfl, rfl, rfl⟩ := H
       have hnb34 := NB227_226.out
       have hnc34 := NB226_227.out
       have hnb35 := NB227_237.out
       have hnc35 := NB237_227.out
       have hcz36_0 : w31.cell? ⟨gb227, 0, none⟩ = some (.int .i64 x228000_19) := (blk_cell BK227.out 0).trans rfl
       have hcz36_1 : w31.cell? ⟨gb227, 1, none⟩ = some (.int .i64 x228001_19) := (blk_cell BK227.out 1).trans rfl
       have hcz36_2 : w31.cell? ⟨gb227, 2, none⟩ = some (.int .i64 x228002_19) := (blk_cell BK227.out 2).trans rfl
       have hcz36_3 : w31.cell? ⟨gb227, 3, none⟩ = some (.int .i64 x228003_19) := (blk_cell BK227.out 3).trans rfl
       have hfz36_0 := blk_frozen BK227.out 0
       have hfz36_1 := blk_frozen BK227.out 1
       have hfz36_2 := blk_frozen BK227.out 2
       have hfz36_3 := blk_frozen BK227.out 3
       go_wp2
       refine bodyPost_ret (results_list (rs := [.tmp 4, .cell 5 26, .tmp 6, .tmp 7]) rfl (by simp) (.tmp (.cell gb227 26 #[.int .i64 0, .int .i64 0, .int .i64 0, .int .i64 0] (0, 0) _ rfl (by (with_reducible repeat (first | apply blk_drewN | apply blk_drew | apply blk_alloc)); refine blk_put (cs := #[.int .i64 0, .int .i64 0, .int .i64 0, .int .i64 x228003_19]) ?_ 3 _ rfl; (with_reducible repeat (first | apply blk_drewN | apply blk_drew | apply blk_alloc)); refine blk_put (cs := #[.int .i64 0, .int .i64 0, .int .i64 x228002_19, .int .i64 x228003_19]) ?_ 2 _ rfl; (with_reducible repeat (first | apply blk_drewN | apply blk_drew | apply blk_alloc)); refine blk_put (cs := #[.int .i64 0, .int .i64 x228001_19, .int .i64 x228002_19, .int .i64 x228003_19]) ?_ 1 _ rfl; (with_reducible repeat (first | apply blk_drewN | apply blk_drew | apply blk_alloc)); refine blk_put (cs := #[.int .i64 x228000_19, .int .i64 x228001_19, .int .i64 x228002_19, .int .i64 x228003_19]) ?_ 0 _ rfl; (with_reducible repeat (first | apply blk_drewN | apply blk_drew | apply blk_alloc)); exact BK227.out) Try.underlying26 rfl (by kernel_rfl) (.tmp (.tmp .nil))))) rfl ?_
       exact ⟨_, by first | rfl | (simp [errW_none, errW_some] <;> rfl) | (simp [*, errW_none, errW_some] <;> rfl), by first | exact Kd.R_nil _ _ _ _ _ | exact Kd.N_nil _ _ _ _ _ | exact Kd.V_nil _ _ _ _ _ | exact Kd.Q_nil _ _ _ _ _ | exact Kd.S_nil _ _ _ _ _, by repeat (first | (with_reducible first | exact HB.out | apply below_alloc | apply pw_below_drewN | apply below_drew1 | refine below_set ?_ GE226.out | refine below_set ?_ GE227.out | refine below_set ?_ GE237.out) | exact HB.out)⟩
      ·rw [if_neg c33] at H
       have c33b0 : decide (t242 ≤ 20) = false := decide_eq_false c33
       clear c33
       (first | rw [c33b0] | (simp only [i64_w, i32_w]; rw [c33b0]) | skip)
       have H' := ak_ H
       clear H
       go_wp2
       go_meet
       case rel => exact ⟨_, (x6_19), (x228000_19), (x228001_19), (x228002_19), (x228003_19), (by first | rfl | (simp; done) | (simp [*]; done)), H', ⟨by have := HJ3.out; have := HJ19.out; first | omega | exact Nat.le_refl _⟩, ⟨by (with_reducible repeat (first | apply blk_drewN | apply blk_drew | apply blk_alloc)); exact BK226.out⟩, ⟨by (with_reducible repeat (first | apply blk_drewN | apply blk_drew | apply blk_alloc)); exact BK227.out⟩, ⟨by (with_reducible repeat (first | apply blk_drewN | apply blk_drew | apply blk_alloc)); exact BK237.out⟩, ⟨by repeat (first | (with_reducible first | exact HB.out | apply below_alloc | apply pw_below_drewN | apply below_drew1 | refine below_set ?_ GE226.out | refine below_set ?_ GE227.out | refine below_set ?_ GE237.out) | exact HB.out)⟩⟩
     case rest =>
      clear HC27
      try clear c1
      try clear c2
      try clear p2
      try clear c3
      try clear c5
      try clear c7
      try clear c11
      try clear c12
      try clear c14
      try clear c16
      try clear c17
      try clear c21
      try clear c22
      try clear c23
      try clear c28
      try clear c29
      try clear c30
      try clear c33
      try clear c33b0
      try clear c34
      try clear c35
      try clear hcz13_0
      try clear hcz13_1
      try clear hcz13_2
      try clear hcz13_3
      try clear hcz13_4
      try clear hcz13_5
      try clear hcz13_6
      try clear hcz13_7
      try clear hcz18_0
      try clear hcz18_1
      try clear hcz18_2
      try clear hcz18_3
      try clear hcz18_4
      try clear hcz18_5
      try clear hcz18_6
      try clear hcz18_7
      try clear hcz24_0
      try clear hcz24_1
      try clear hcz24_2
      try clear hcz24_3
      try clear hcz30_0
      try clear hcz30_1
      try clear hcz30_2
      try clear hcz30_3
      try clear hcz30_4
      try clear hcz30_5
      try clear hcz30_6
      try clear hcz30_7
      try clear hcz36_0
      try clear hcz36_1
      try clear hcz36_2
      try clear hcz36_3
      try clear hcz8_0
      try clear hcz8_1
      try clear hcz8_2
      try clear hcz8_3
      try clear hcz8_4
      try clear hcz8_5
      try clear hcz8_6
      try clear hfz13_0
      try clear hfz13_1
      try clear hfz13_2
      try clear hfz13_3
      try clear hfz13_4
      try clear hfz13_5
      try clear hfz13_6
      try clear hfz13_7
      try clear hfz18_0
      try clear hfz18_1
      try clear hfz18_2
      try clear hfz18_3
      try clear hfz18_4
      try clear hfz18_5
      try clear hfz18_6
      try clear hfz18_7
      try clear hfz24_0
      try clear hfz24_1
      try clear hfz24_2
      try clear hfz24_3
      try clear hfz30_0
      try clear hfz30_1
      try clear hfz30_2
      try clear hfz30_3
      try clear hfz30_4
      try clear hfz30_5
      try clear hfz30_6
      try clear hfz30_7
      try clear hfz36_0
      try clear hfz36_1
      try clear hfz36_2
      try clear hfz36_3
      try clear hfz8_0
      try clear hfz8_1
      try clear hfz8_2
      try clear hfz8_3
      try clear hfz8_4
      try clear hfz8_5
      try clear hfz8_6
      try clear p2
      obtain ⟨kq, x6_26, x228000_26, x228001_26, x228002_26, x228003_26, rfl, HA, HJ26, BK226, BK227, BK237, HB⟩ := hcut
      cases kq with
      | zero => exact absurd HA.out (by simp [page_Decode.j2])
      | succ kj26 =>
       have H := HA.out
       clear HA
       simp only [page_Decode.j2] at H
       replace H := Option.bind_eq_some_iff.mp H
       obtain ⟨t243, A370, H⟩ := H
       replace H : ((chunk_All.f kj26 t243 t232).bind fun bt246 => (if bt246.2.2 = 0 then (page_Decode.j3 kj26 l1 bt246.1 x6_26 bt246.2.1 t228 t229 t230 t231 t232 t233 t234 t235) else (some (([] : List Int), 0, 0, 0, 0, 0, bt246.2.2)))) = some (r1, r2, r3, r4, r5, r6, r7) := H
       have A37 := ak_ A370
       clear A370
       replace H := Option.bind_eq_some_iff.mp H
       obtain ⟨⟨t246, t247, t248⟩, A380, H⟩ := H
       replace H : (if t248 = 0 then (page_Decode.j3 kj26 l1 t246 x6_26 t247 t228 t229 t230 t231 t232 t233 t234 t235) else (some (([] : List Int), 0, 0, 0, 0, 0, t248))) = some (r1, r2, r3, r4, r5, r6, r7) := H
       have A38 := ak_ A380
       clear A380
       have HC39 := ak_ H
       clear H
       try go_wp2
       have n0_ := ak_ (blk_drew BK226.out)
       have n1_ := ak_ (blk_drew BK227.out)
       have n2_ := ak_ (blk_drew BK237.out)
       have n3_ := ak_ (below_drew1 HB.out)
       clear BK226
       clear BK227
       clear BK237
       clear HB
       have BK226 := n0_
       have BK227 := n1_
       have BK237 := n2_
       have HB := n3_
       clear n0_ n1_ n2_ n3_
       refine start_ (n := 14) (S := fun w' => w'.cell? ⟨gb237, 0, none⟩ = some (.int .i64 t228) ∧ w'.cell? ⟨gb237, 1, none⟩ = some (.int .i64 t229) ∧ w'.cell? ⟨gb237, 2, none⟩ = some (.int .i64 t230) ∧ w'.cell? ⟨gb237, 3, none⟩ = some (.int .i64 t231) ∧ w'.cell? ⟨gb237, 4, none⟩ = some (.int .i64 t232) ∧ w'.cell? ⟨gb237, 5, none⟩ = some (.int .i64 t233) ∧ w'.cell? ⟨gb237, 6, none⟩ = some (.int .i64 t234) ∧ w'.cell? ⟨gb237, 7, none⟩ = some (.int .i64 t235)) (ds := []) #[false, false, false, false, false, false, false, false, false, false, false, false, false, false] (by kernel_rfl) rfl rfl ⟨(blk_cell BK237.out 0).trans rfl, (blk_cell BK237.out 1).trans rfl, (blk_cell BK237.out 2).trans rfl, (blk_cell BK237.out 3).trans rfl, (blk_cell BK237.out 4).trans rfl, (blk_cell BK237.out 5).trans rfl, (blk_cell BK237.out 6).trans rfl, (blk_cell BK237.out 7).trans rfl⟩ (fun hHeld => ?_); refine with_tabW page_Decode.tab6 page_Decode.bits6 (fun HT_ HW_ => ?_)
       generalize wc.drew = w40 at BK226 BK227 BK237 HB hHeld ⊢
       refine pure_ (i := 1) (N := some 36) (v := ?_) (a' := ?_) #[false, true, false, false, false, false, false, false, false, false, false, false, false, false] rfl rfl (any_of HT_.out (by kernel_rfl)) (fun _ _ _ h => h) (Or.inl ⟨by rfl, ?_⟩) ?_ ?_
       rotate_left
       ·intro w'
        go_simp
        with_reducible rfl
       rotate_left
       ·simp only [Act.put, List.setIfInBounds_toArray, List.set_cons_zero, List.set_cons_succ, i64_w, i32_w]
        rfl
       refine pure_ (i := 3) (N := some 38) (v := ?_) (a' := ?_) #[false, true, false, true, false, false, false, false, false, false, false, false, false, false] rfl rfl (any_of HT_.out (by kernel_rfl)) (fun _ _ _ h => h) (Or.inl ⟨by rfl, ?_⟩) ?_ ?_
       rotate_left
       ·intro w'
        go_simp
        with_reducible rfl
       rotate_left
       ·simp only [Act.put, List.setIfInBounds_toArray, List.set_cons_zero, List.set_cons_succ, i64_w, i32_w]
        rfl
       refine pure_ (i := 4) (N := some 39) (v := ?_) (a' := ?_) #[false, true, false, true, true, false, false, false, false, false, false, false, false, false] rfl rfl (any_of HT_.out (by kernel_rfl)) (fun _ _ _ h => h) (Or.inl ⟨by rfl, ?_⟩) ?_ ?_
       rotate_left
       ·intro w'
        go_simp
        with_reducible rfl
       rotate_left
       ·simp only [Act.put, List.setIfInBounds_toArray, List.set_cons_zero, List.set_cons_succ, i64_w, i32_w]
        rfl
       refine take_ (i := 0) (N := some 35) (v := ?_) (a' := ?_) #[true, true, false, true, true, false, false, false, false, false, false, false, false, false] rfl rfl (take_ofW HT_.out HW_.out (by kernel_rfl)) (fun _ _ _ h => h) (Or.inl ⟨by rfl, ?_⟩) hHeld ?_ ?_
       rotate_left
       ·rintro w' ⟨s0, s1, s2, s3, s4, s5, s6, s7⟩
        go_simp
        with_reducible rfl
       rotate_left
       ·simp only [Act.put, List.setIfInBounds_toArray, List.set_cons_zero, List.set_cons_succ, i64_w, i32_w]
        rfl
       refine take_ (i := 5) (N := some 40) (v := ?_) (a' := ?_) #[true, true, false, true, true, true, false, false, false, false, false, false, false, false] rfl rfl (take_ofW HT_.out HW_.out (by kernel_rfl)) (fun _ _ _ h => h) (Or.inl ⟨by rfl, ?_⟩) hHeld ?_ ?_
       rotate_left
       ·rintro w' ⟨s0, s1, s2, s3, s4, s5, s6, s7⟩
        go_simp
        with_reducible rfl
       rotate_left
       ·simp only [Act.put, List.setIfInBounds_toArray, List.set_cons_zero, List.set_cons_succ, i64_w, i32_w]
        rfl
       refine one_ (i := 2) (N := some 37) #[true, true, true, true, true, true, false, false, false, false, false, false, false, false] rfl rfl (one_of HT_.out (by kernel_rfl)) (by decide) (fun K hK => ?_)
       refine goes_ Try.func59 (by kernel_rfl) rfl #[.agg #[.int .i64 t228, .int .i64 t229, .int .i64 t230, .int .i64 t231, .int .i64 t232, .int .i64 t233, .int .i64 t234, .int .i64 t235], .slice A1 l1.length c1] (by rfl) rfl rfl (by (try simp only [List.map_toArray, List.map_cons, List.map_nil]); first | done | rfl | (simp only [List.length_drop, List.length_take]; rfl)) ?_
       with_reducible refine (page_shape_chunks.calls t228 t229 t230 t231 t232 t233 t234 t235 (fun k_ => k_ < w.heap.size) _ _ l1 t243 _ ?side1 A37.out).mono ?_
       (case side1 => exact Kd.V_mk HC1.out (Kd.F_below (Kd.C_F (Kd.heap_int .u8) HR1.out) (by repeat (first | (with_reducible first | exact HB.out | apply below_alloc | apply pw_below_drewN | apply below_drew1 | refine below_set ?_ GE226.out | refine below_set ?_ GE227.out | refine below_set ?_ GE237.out) | exact HB.out))))
       rintro e w41 ⟨v244, rfl, ho0, hb⟩
       refine ⟨_, rfl, ?_⟩
       have n0_ := ak_ (Kd.V_lower (Kd.V_mono (ok' := fun k_ => k_ ≠ gb226 ∧ k_ ≠ gb227 ∧ k_ ≠ gb237) ho0 (fun k_ hk_ => ⟨Or.elim hk_ (fun hs_ => fun e_ => Nat.not_le.2 hs_ (by rw [e_]; exact GW226.out)) (fun hn_ => (Kd.freshB (g := gb226) (o := .cells #[.int .i64 a0_0, .int .i64 a0_1, .int .i64 a0_2, .int .i64 a0_3, .int .i64 a0_4, .int .i64 a0_5, .int .i64 a0_6] 23 (0, 0)) (by (with_reducible repeat (first | apply blk_drewN | apply blk_drew | apply blk_alloc)); exact BK226.out) k_ hn_)), Or.elim hk_ (fun hs_ => fun e_ => Nat.not_le.2 hs_ (by rw [e_]; exact GW227.out)) (fun hn_ => (Kd.freshB (g := gb227) (o := .cells #[.int .i64 x228000_26, .int .i64 x228001_26, .int .i64 x228002_26, .int .i64 x228003_26] 26 (0, 0)) (by (with_reducible repeat (first | apply blk_drewN | apply blk_drew | apply blk_alloc)); exact BK227.out) k_ hn_)), Or.elim hk_ (fun hs_ => fun e_ => Nat.not_le.2 hs_ (by rw [e_]; exact GW237.out)) (fun hn_ => (Kd.freshB (g := gb237) (o := .cells #[.int .i64 t228, .int .i64 t229, .int .i64 t230, .int .i64 t231, .int .i64 t232, .int .i64 t233, .int .i64 t234, .int .i64 t235] 70 (0, 0)) (by (with_reducible repeat (first | apply blk_drewN | apply blk_drew | apply blk_alloc)); exact BK237.out) k_ hn_))⟩)) (below_size (by repeat (first | (with_reducible first | exact HB.out | apply below_alloc | apply pw_below_drewN | apply below_drew1 | refine below_set ?_ GE226.out | refine below_set ?_ GE227.out | refine below_set ?_ GE237.out) | exact HB.out))))
       have n1_ := ak_ (blk_below (g := gb226) (o := .cells #[.int .i64 a0_0, .int .i64 a0_1, .int .i64 a0_2, .int .i64 a0_3, .int .i64 a0_4, .int .i64 a0_5, .int .i64 a0_6] 23 (0, 0)) (by (with_reducible repeat (first | apply blk_drewN | apply blk_drew | apply blk_alloc)); exact BK226.out) hb)
       have n2_ := ak_ (blk_below (g := gb227) (o := .cells #[.int .i64 x228000_26, .int .i64 x228001_26, .int .i64 x228002_26, .int .i64 x228003_26] 26 (0, 0)) (by (with_reducible repeat (first | apply blk_drewN | apply blk_drew | apply blk_alloc)); exact BK227.out) hb)
       have n3_ := ak_ (blk_below (g := gb237) (o := .cells #[.int .i64 t228, .int .i64 t229, .int .i64 t230, .int .i64 t231, .int .i64 t232, .int .i64 t233, .int .i64 t234, .int .i64 t235] 70 (0, 0)) (by (with_reducible repeat (first | apply blk_drewN | apply blk_drew | apply blk_alloc)); exact BK237.out) hb)
       have n4_ := ak_ (below_step (by repeat (first | (with_reducible first | exact HB.out | apply below_alloc | apply pw_below_drewN | apply below_drew1 | refine below_set ?_ GE226.out | refine below_set ?_ GE227.out | refine below_set ?_ GE237.out) | exact HB.out)) hb)
       clear BK226
       clear BK227
       clear BK237
       clear HB
       have HO245 := n0_
       have BK226 := n1_
       have BK227 := n2_
       have BK237 := n3_
       have HB := n4_
       clear n0_ n1_ n2_ n3_ n4_
       (try clear hb)
       (try clear hb2)
       (try clear hk)
       (try clear hi)
       (try clear ho0)
       obtain ⟨Ao42, co42, eo42⟩ := Kd.V_slice HO245.out
       (first | subst eo42 | (injection eo42 with f1_ f2_ f3_; have f4_ := f1_.symm; have f5_ := f3_.symm; clear f1_ f2_ f3_; subst f4_; subst f5_))
       refine hK.out _ _ ⟨(blk_cell BK237.out 0).trans rfl, (blk_cell BK237.out 1).trans rfl, (blk_cell BK237.out 2).trans rfl, (blk_cell BK237.out 3).trans rfl, (blk_cell BK237.out 4).trans rfl, (blk_cell BK237.out 5).trans rfl, (blk_cell BK237.out 6).trans rfl, (blk_cell BK237.out 7).trans rfl⟩ (fun hHeld => ?_)
       clear hK K
       refine norm_ (a' := ?_) ?_ ?_
       rotate_left
       ·show Act.put _ (some 37) _ = _
        simp only [Act.put, List.setIfInBounds_toArray, List.set_cons_zero, List.set_cons_succ, i64_w, i32_w]
        rfl
       refine one_ (i := 6) (N := some 41) #[true, true, true, true, true, true, true, false, false, false, false, false, false, false] rfl rfl (one_of HT_.out (by kernel_rfl)) (by decide) (fun K hK => ?_)
       refine goes_ Try.func58 (by kernel_rfl) rfl #[.slice Ao42 t243.length co42, .int .i64 t232] (by rfl) rfl rfl (by (try simp only [List.map_toArray, List.map_cons, List.map_nil]); first | done | rfl | (simp only [List.length_drop, List.length_take]; rfl)) ?_
       with_reducible refine (chunk_All.calls kj26 _ _ t243 t232 t246 t247 t248 _ ?side1 ?side2 A38.out).mono ?_
       (case side1 => repeat (first | exact (Kd.V_reads' HO245.out).2.2 | (with_reducible refine Kd.C_alloc ?_ _) | (with_reducible refine Kd.C_drewN ?_ _) | (with_reducible refine Kd.C_drew ?_)))
       (case side2 => exact (Kd.V_reads' HO245.out).2.1)
       rintro e w43 ⟨v249, rfl, ho0, hb⟩
       refine ⟨_, rfl, ?_⟩
       have n0_ := ak_ (Kd.V_elder' (by (with_reducible repeat (first | apply Kd.V_alloc | apply Kd.V_drewN | apply Kd.V_drew)); exact HO245.out) (Kd.R_base ho0) hb)
       have n1_ := ak_ (Kd.R_lower ho0 (below_size (by repeat (first | (with_reducible first | exact HB.out | apply below_alloc | apply pw_below_drewN | apply below_drew1 | refine below_set ?_ GE226.out | refine below_set ?_ GE227.out | refine below_set ?_ GE237.out) | exact HB.out))))
       have n2_ := ak_ (blk_below (g := gb226) (o := .cells #[.int .i64 a0_0, .int .i64 a0_1, .int .i64 a0_2, .int .i64 a0_3, .int .i64 a0_4, .int .i64 a0_5, .int .i64 a0_6] 23 (0, 0)) (by (with_reducible repeat (first | apply blk_drewN | apply blk_drew | apply blk_alloc)); exact BK226.out) hb)
       have n3_ := ak_ (blk_below (g := gb227) (o := .cells #[.int .i64 x228000_26, .int .i64 x228001_26, .int .i64 x228002_26, .int .i64 x228003_26] 26 (0, 0)) (by (with_reducible repeat (first | apply blk_drewN | apply blk_drew | apply blk_alloc)); exact BK227.out) hb)
       have n4_ := ak_ (blk_below (g := gb237) (o := .cells #[.int .i64 t228, .int .i64 t229, .int .i64 t230, .int .i64 t231, .int .i64 t232, .int .i64 t233, .int .i64 t234, .int .i64 t235] 70 (0, 0)) (by (with_reducible repeat (first | apply blk_drewN | apply blk_drew | apply blk_alloc)); exact BK237.out) hb)
       have n5_ := ak_ (below_step (by repeat (first | (with_reducible first | exact HB.out | apply below_alloc | apply pw_below_drewN | apply below_drew1 | refine below_set ?_ GE226.out | refine below_set ?_ GE227.out | refine below_set ?_ GE237.out) | exact HB.out)) hb)
       clear HO245
       clear BK226
       clear BK227
       clear BK237
       clear HB
       have HO245 := n0_
       have HO250 := n1_
       have BK226 := n2_
       have BK227 := n3_
       have BK237 := n4_
       have HB := n5_
       clear n0_ n1_ n2_ n3_ n4_ n5_
       (try clear hb)
       (try clear hb2)
       (try clear hk)
       (try clear hi)
       (try clear ho0)
       refine hK.out _ _ ⟨(blk_cell BK237.out 0).trans rfl, (blk_cell BK237.out 1).trans rfl, (blk_cell BK237.out 2).trans rfl, (blk_cell BK237.out 3).trans rfl, (blk_cell BK237.out 4).trans rfl, (blk_cell BK237.out 5).trans rfl, (blk_cell BK237.out 6).trans rfl, (blk_cell BK237.out 7).trans rfl⟩ (fun hHeld => ?_)
       clear hK K
       refine norm_ (a' := ?_) ?_ ?_
       rotate_left
       ·show Act.put _ (some 41) _ = _
        simp only [Act.put, List.setIfInBounds_toArray, List.set_cons_zero, List.set_cons_succ, i64_w, i32_w]
        rfl
       refine pure_ (i := 7) (N := some 34) (v := ?_) (a' := ?_) #[true, true, true, true, true, true, true, true, false, false, false, false, false, false] rfl rfl (any_of HT_.out (by kernel_rfl)) (fun _ _ _ h => h) (Or.inl ⟨by rfl, ?_⟩) ?_ ?_
       rotate_left
       ·intro w'
        go_simp
        with_reducible rfl
       rotate_left
       ·simp only [Act.put, List.setIfInBounds_toArray, List.set_cons_zero, List.set_cons_succ, i64_w, i32_w]
        rfl
       refine pure_ (i := 8) (N := some 42) (v := ?_) (a' := ?_) #[true, true, true, true, true, true, true, true, true, false, false, false, false, false] rfl rfl (any_of HT_.out (by kernel_rfl)) (fun _ _ _ h => h) (Or.inl ⟨by rfl, ?_⟩) ?_ ?_
       rotate_left
       ·intro w'
        go_simp
        with_reducible rfl
       rotate_left
       ·simp only [Act.put, List.setIfInBounds_toArray, List.set_cons_zero, List.set_cons_succ, i64_w, i32_w]
        rfl
       refine pure_ (i := 9) (N := some 43) (v := ?_) (a' := ?_) #[true, true, true, true, true, true, true, true, true, true, false, false, false, false] rfl rfl (any_of HT_.out (by kernel_rfl)) (fun _ _ _ h => h) (Or.inl ⟨by rfl, ?_⟩) ?_ ?_
       rotate_left
       ·intro w'
        go_simp
        with_reducible rfl
       rotate_left
       ·simp only [Act.put, List.setIfInBounds_toArray, List.set_cons_zero, List.set_cons_succ, i64_w, i32_w]
        rfl
       refine pure_ (i := 10) (N := some 44) (v := ?_) (a' := ?_) #[true, true, true, true, true, true, true, true, true, true, true, false, false, false] rfl rfl (any_of HT_.out (by kernel_rfl)) (fun _ _ _ h => h) (Or.inl ⟨by rfl, ?_⟩) ?_ ?_
       rotate_left
       ·intro w'
        go_simp
        with_reducible rfl
       rotate_left
       ·simp only [Act.put, List.setIfInBounds_toArray, List.set_cons_zero, List.set_cons_succ, i64_w, i32_w]
        rfl
       refine pure_ (i := 11) (N := some 4) (v := ?_) (a' := ?_) #[true, true, true, true, true, true, true, true, true, true, true, true, false, false] rfl rfl (any_of HT_.out (by kernel_rfl)) (fun _ _ _ h => h) (Or.inl ⟨by rfl, ?_⟩) ?_ ?_
       rotate_left
       ·intro w'
        go_simp
        with_reducible rfl
       rotate_left
       ·simp only [Act.put, List.setIfInBounds_toArray, List.set_cons_zero, List.set_cons_succ, i64_w, i32_w]
        rfl
       refine pure_ (i := 12) (N := some 10) (v := ?_) (a' := ?_) #[true, true, true, true, true, true, true, true, true, true, true, true, true, false] rfl rfl (any_of HT_.out (by kernel_rfl)) (fun _ _ _ h => h) (Or.inl ⟨by rfl, ?_⟩) ?_ ?_
       rotate_left
       ·intro w'
        go_simp
        with_reducible rfl
       rotate_left
       ·simp only [Act.put, List.setIfInBounds_toArray, List.set_cons_zero, List.set_cons_succ, i64_w, i32_w]
        rfl
       refine pure_ (i := 13) (N := some 7) (v := ?_) (a' := ?_) #[true, true, true, true, true, true, true, true, true, true, true, true, true, true] rfl rfl (any_of HT_.out (by kernel_rfl)) (fun _ _ _ h => h) (Or.inl ⟨by rfl, ?_⟩) ?_ ?_
       rotate_left
       ·intro w'
        go_simp
        with_reducible rfl
       rotate_left
       ·simp only [Act.put, List.setIfInBounds_toArray, List.set_cons_zero, List.set_cons_succ, i64_w, i32_w]
        rfl
       refine done_ (done_of HT_.out (by kernel_rfl)) ?_
       go_upto_if 46 with (fail)
       go_cut [4, 6] (fun v4 v6 wc => ∃ (kq : Nat) (x4_38 : List Int) (x6_38 : Int) (x228000_38 : Int) (x228001_38 : Int) (x228002_38 : Int) (x228003_38 : Int), v6 = .int .i64 x6_38 ∧ Aside0 (page_Decode.j3 kq l1 x4_38 x6_38 t247 t228 t229 t230 t231 t232 t233 t234 t235 = some (r1, r2, r3, r4, r5, r6, r7)) ∧ Aside0 (kq ≤ kj26) ∧ Aside0 (Kd.R (Kd.int .u8) 5 wc w.heap.size (fun _ => True) v4 x4_38) ∧ Aside0 (wc.heap[gb226]? = some (.cells #[.int .i64 a0_0, .int .i64 a0_1, .int .i64 a0_2, .int .i64 a0_3, .int .i64 a0_4, .int .i64 a0_5, .int .i64 a0_6] 23 (0, 0))) ∧ Aside0 (wc.heap[gb227]? = some (.cells #[.int .i64 x228000_38, .int .i64 x228001_38, .int .i64 x228002_38, .int .i64 x228003_38] 26 (0, 0))) ∧ Aside0 (wc.heap[gb237]? = some (.cells #[.int .i64 t228, .int .i64 t229, .int .i64 t230, .int .i64 t231, .int .i64 t232, .int .i64 t233, .int .i64 t234, .int .i64 t235] 70 (0, 0))) ∧ Aside0 (Below w.heap.size w wc))
       case first =>
        have H := HC39.out
        clear HC39
        by_cases c44 : t248 = 0
        ·rw [if_pos c44] at H
         have c44b0 : (t248 == 0) = true := beq_iff_eq.mpr c44
         have c44b1 : (t248 != 0) = false := bne_eq_false_iff_eq.mpr c44
         clear c44
         (first | rw [c44b0] | (simp only [i64_w, i32_w]; rw [c44b0]) | skip)
         have H' := ak_ H
         clear H
         go_wp2
         go_meet
         case rel => exact ⟨_, (t246), (x6_26), (x228000_26), (x228001_26), (x228002_26), (x228003_26), (by first | rfl | (simp; done) | (simp [*]; done)), H', ⟨by have := HJ3.out; have := HJ19.out; have := HJ26.out; first | omega | exact Nat.le_refl _⟩, ⟨by (with_reducible repeat (first | apply Kd.R_alloc | apply Kd.R_drewN | apply Kd.R_drew)); exact HO250.out⟩, ⟨by (with_reducible repeat (first | apply blk_drewN | apply blk_drew | apply blk_alloc)); exact BK226.out⟩, ⟨by (with_reducible repeat (first | apply blk_drewN | apply blk_drew | apply blk_alloc)); exact BK227.out⟩, ⟨by (with_reducible repeat (first | apply blk_drewN | apply blk_drew | apply blk_alloc)); exact BK237.out⟩, ⟨by repeat (first | (with_reducible first | exact HB.out | apply below_alloc | apply pw_below_drewN | apply below_drew1 | refine below_set ?_ GE226.out | refine below_set ?_ GE227.out | refine below_set ?_ GE237.out) | exact HB.out)⟩⟩
        ·rw [if_neg c44] at H
         have c44b0 : (t248 == 0) = false := beq_eq_false_iff_ne.mpr c44
         have c44b1 : (t248 != 0) = true := bne_iff_ne.mpr c44
         (first | rw [c44b0] | (simp only [i64_w, i32_w]; rw [c44b0]) | skip)
         simp only [Option.some.injEq, Prod.mk.injEq] at H
         obtain ⟨rfl, rfl, rfl, rfl, rfl, rfl, rfl⟩ := H
         have hnb45 := NB227_226.out
         have hnc45 := NB226_227.out
         have hnb46 := NB227_237.out
         have hnc46 := NB237_227.out
         have hcz47_0 : w43.cell? ⟨gb227, 0, none⟩ = some (.int .i64 x228000_26) := (blk_cell BK227.out 0).trans rfl
         have hcz47_1 : w43.cell? ⟨gb227, 1, none⟩ = some (.int .i64 x228001_26) := (blk_cell BK227.out 1).trans rfl
         have hcz47_2 : w43.cell? ⟨gb227, 2, none⟩ = some (.int .i64 x228002_26) := (blk_cell BK227.out 2).trans rfl
         have hcz47_3 : w43.cell? ⟨gb227, 3, none⟩ = some (.int .i64 x228003_26) := (blk_cell BK227.out 3).trans rfl
         have hfz47_0 := blk_frozen BK227.out 0
         have hfz47_1 := blk_frozen BK227.out 1
         have hfz47_2 := blk_frozen BK227.out 2
         have hfz47_3 := blk_frozen BK227.out 3
         go_wp2
         refine bodyPost_ret (results_list (rs := [.tmp 4, .cell 5 26, .tmp 6, .tmp 7]) rfl (by simp) (.tmp (.cell gb227 26 #[.int .i64 0, .int .i64 0, .int .i64 0, .int .i64 0] (0, 0) _ rfl (by (with_reducible repeat (first | apply blk_drewN | apply blk_drew | apply blk_alloc)); refine blk_put (cs := #[.int .i64 0, .int .i64 0, .int .i64 0, .int .i64 x228003_26]) ?_ 3 _ rfl; (with_reducible repeat (first | apply blk_drewN | apply blk_drew | apply blk_alloc)); refine blk_put (cs := #[.int .i64 0, .int .i64 0, .int .i64 x228002_26, .int .i64 x228003_26]) ?_ 2 _ rfl; (with_reducible repeat (first | apply blk_drewN | apply blk_drew | apply blk_alloc)); refine blk_put (cs := #[.int .i64 0, .int .i64 x228001_26, .int .i64 x228002_26, .int .i64 x228003_26]) ?_ 1 _ rfl; (with_reducible repeat (first | apply blk_drewN | apply blk_drew | apply blk_alloc)); refine blk_put (cs := #[.int .i64 x228000_26, .int .i64 x228001_26, .int .i64 x228002_26, .int .i64 x228003_26]) ?_ 0 _ rfl; (with_reducible repeat (first | apply blk_drewN | apply blk_drew | apply blk_alloc)); exact BK227.out) Try.underlying26 rfl (by kernel_rfl) (.tmp (.tmp .nil))))) rfl ?_
         exact ⟨_, by first | rfl | (simp [errW_none, errW_some] <;> rfl) | (simp [*, errW_none, errW_some] <;> rfl), by first | exact Kd.R_nil _ _ _ _ _ | exact Kd.N_nil _ _ _ _ _ | exact Kd.V_nil _ _ _ _ _ | exact Kd.Q_nil _ _ _ _ _ | exact Kd.S_nil _ _ _ _ _, by repeat (first | (with_reducible first | exact HB.out | apply below_alloc | apply pw_below_drewN | apply below_drew1 | refine below_set ?_ GE226.out | refine below_set ?_ GE227.out | refine below_set ?_ GE237.out) | exact HB.out)⟩
       case rest =>
        clear HC39
        try clear c1
        try clear c2
        try clear p2
        try clear c3
        try clear c4
        try clear c5
        try clear c7
        try clear c11
        try clear c12
        try clear c14
        try clear c16
        try clear c17
        try clear c21
        try clear c22
        try clear c23
        try clear c28
        try clear c29
        try clear c30
        try clear c33
        try clear c33b0
        try clear c34
        try clear c35
        try clear c44
        try clear c44b0
        try clear c44b1
        try clear c45
        try clear c46
        try clear hcz13_0
        try clear hcz13_1
        try clear hcz13_2
        try clear hcz13_3
        try clear hcz13_4
        try clear hcz13_5
        try clear hcz13_6
        try clear hcz13_7
        try clear hcz18_0
        try clear hcz18_1
        try clear hcz18_2
        try clear hcz18_3
        try clear hcz18_4
        try clear hcz18_5
        try clear hcz18_6
        try clear hcz18_7
        try clear hcz24_0
        try clear hcz24_1
        try clear hcz24_2
        try clear hcz24_3
        try clear hcz30_0
        try clear hcz30_1
        try clear hcz30_2
        try clear hcz30_3
        try clear hcz30_4
        try clear hcz30_5
        try clear hcz30_6
        try clear hcz30_7
        try clear hcz36_0
        try clear hcz36_1
        try clear hcz36_2
        try clear hcz36_3
        try clear hcz47_0
        try clear hcz47_1
        try clear hcz47_2
        try clear hcz47_3
        try clear hcz8_0
        try clear hcz8_1
        try clear hcz8_2
        try clear hcz8_3
        try clear hcz8_4
        try clear hcz8_5
        try clear hcz8_6
        try clear hfz13_0
        try clear hfz13_1
        try clear hfz13_2
        try clear hfz13_3
        try clear hfz13_4
        try clear hfz13_5
        try clear hfz13_6
        try clear hfz13_7
        try clear hfz18_0
        try clear hfz18_1
        try clear hfz18_2
        try clear hfz18_3
        try clear hfz18_4
        try clear hfz18_5
        try clear hfz18_6
        try clear hfz18_7
        try clear hfz24_0
        try clear hfz24_1
        try clear hfz24_2
        try clear hfz24_3
        try clear hfz30_0
        try clear hfz30_1
        try clear hfz30_2
        try clear hfz30_3
        try clear hfz30_4
        try clear hfz30_5
        try clear hfz30_6
        try clear hfz30_7
        try clear hfz36_0
        try clear hfz36_1
        try clear hfz36_2
        try clear hfz36_3
        try clear hfz47_0
        try clear hfz47_1
        try clear hfz47_2
        try clear hfz47_3
        try clear hfz8_0
        try clear hfz8_1
        try clear hfz8_2
        try clear hfz8_3
        try clear hfz8_4
        try clear hfz8_5
        try clear hfz8_6
        try clear p2
        obtain ⟨kq, x4_38, x6_38, x228000_38, x228001_38, x228002_38, x228003_38, rfl, HA, HJ38, HO_4, BK226, BK227, BK237, HB⟩ := hcut
        cases kq with
        | zero => exact absurd HA.out (by simp [page_Decode.j3])
        | succ kj38 =>
         have H := HA.out
         clear HA
         simp only [page_Decode.j3] at H
         replace H := Option.bind_eq_some_iff.mp H
         obtain ⟨t251, A480, H⟩ := H
         replace H : ((chunk_Decode.f kj38 t251).bind fun bt254 => (if bt254.2.2 = 0 then (page_Decode.j4 kj38 x4_38 x6_38 t247 bt254.1 bt254.2.1) else (some (([] : List Int), 0, 0, 0, 0, 0, bt254.2.2)))) = some (r1, r2, r3, r4, r5, r6, r7) := H
         have A48 := ak_ A480
         clear A480
         replace H := Option.bind_eq_some_iff.mp H
         obtain ⟨⟨t254, t255, t256⟩, A490, H⟩ := H
         replace H : (if t256 = 0 then (page_Decode.j4 kj38 x4_38 x6_38 t247 t254 t255) else (some (([] : List Int), 0, 0, 0, 0, 0, t256))) = some (r1, r2, r3, r4, r5, r6, r7) := H
         have A49 := ak_ A490
         clear A490
         have HC50 := ak_ H
         clear H
         have hnb51 := NB237_226.out
         have hnc51 := NB226_237.out
         have hnb52 := NB237_227.out
         have hnc52 := NB227_237.out
         have hcz53_0 : wc.cell? ⟨gb237, 0, none⟩ = some (.int .i64 t228) := (blk_cell BK237.out 0).trans rfl
         have hcz53_1 : wc.cell? ⟨gb237, 1, none⟩ = some (.int .i64 t229) := (blk_cell BK237.out 1).trans rfl
         have hcz53_2 : wc.cell? ⟨gb237, 2, none⟩ = some (.int .i64 t230) := (blk_cell BK237.out 2).trans rfl
         have hcz53_3 : wc.cell? ⟨gb237, 3, none⟩ = some (.int .i64 t231) := (blk_cell BK237.out 3).trans rfl
         have hcz53_4 : wc.cell? ⟨gb237, 4, none⟩ = some (.int .i64 t232) := (blk_cell BK237.out 4).trans rfl
         have hcz53_5 : wc.cell? ⟨gb237, 5, none⟩ = some (.int .i64 t233) := (blk_cell BK237.out 5).trans rfl
         have hcz53_6 : wc.cell? ⟨gb237, 6, none⟩ = some (.int .i64 t234) := (blk_cell BK237.out 6).trans rfl
         have hcz53_7 : wc.cell? ⟨gb237, 7, none⟩ = some (.int .i64 t235) := (blk_cell BK237.out 7).trans rfl
         have hfz53_0 := blk_frozen BK237.out 0
         have hfz53_1 := blk_frozen BK237.out 1
         have hfz53_2 := blk_frozen BK237.out 2
         have hfz53_3 := blk_frozen BK237.out 3
         have hfz53_4 := blk_frozen BK237.out 4
         have hfz53_5 := blk_frozen BK237.out 5
         have hfz53_6 := blk_frozen BK237.out 6
         have hfz53_7 := blk_frozen BK237.out 7
         go_upto_if 58 with (first | ((with_reducible refine gate_callee (f := 57) rfl ?_); refine goesL_ (some 52) rfl rfl Try.func57 (by kernel_rfl) rfl #[.agg #[.int .i64 t228, .int .i64 t229, .int .i64 t230, .int .i64 t231, .int .i64 t232, .int .i64 t233, .int .i64 t234, .int .i64 t235], .slice A1 l1.length c1] rfl (by (try simp only [List.map_toArray, List.map_cons, List.map_nil]); first | done | rfl | (simp only [List.length_drop, List.length_take]; rfl)) ?_; (with_reducible refine (page_shape_label.calls t228 t229 t230 t231 t232 t233 t234 t235 (fun k_ => k_ < w.heap.size) _ _ l1 t251 _ ?side1 A48.out).mono ?_); (case side1 => exact Kd.V_mk HC1.out (Kd.F_below (Kd.C_F (Kd.heap_int .u8) HR1.out) (by repeat (first | (with_reducible first | exact HB.out | apply below_alloc | apply pw_below_drewN | apply below_drew1 | refine below_set ?_ GE226.out | refine below_set ?_ GE227.out | refine below_set ?_ GE237.out) | exact HB.out)))); rintro e w54 ⟨v252, rfl, ho0, hb⟩; refine ⟨_, rfl, ?_⟩; have n0_ := ak_ (Kd.R_below (by (with_reducible repeat (first | apply Kd.R_alloc | apply Kd.R_drewN | apply Kd.R_drew)); exact HO_4.out) hb); have n1_ := ak_ (Kd.V_lower (Kd.V_mono (ok' := fun k_ => some k_ ≠ (u4 : Value).ownBlock ∧ k_ ≠ gb226 ∧ k_ ≠ gb227 ∧ k_ ≠ gb237) ho0 (fun k_ hk_ => ⟨Or.elim hk_ (fun hs_ => fun e_ => Nat.not_le.2 hs_ (Kd.R_base HO_4.out k_ e_.symm)) (fun hn_ => (Kd.fresh' (Kd.R_lt (by (with_reducible repeat (first | apply Kd.R_alloc | apply Kd.R_drewN | apply Kd.R_drew)); exact HO_4.out)) k_ hn_)), Or.elim hk_ (fun hs_ => fun e_ => Nat.not_le.2 hs_ (by rw [e_]; exact GW226.out)) (fun hn_ => (Kd.freshB (g := gb226) (o := .cells #[.int .i64 a0_0, .int .i64 a0_1, .int .i64 a0_2, .int .i64 a0_3, .int .i64 a0_4, .int .i64 a0_5, .int .i64 a0_6] 23 (0, 0)) (by (with_reducible repeat (first | apply blk_drewN | apply blk_drew | apply blk_alloc)); exact BK226.out) k_ hn_)), Or.elim hk_ (fun hs_ => fun e_ => Nat.not_le.2 hs_ (by rw [e_]; exact GW227.out)) (fun hn_ => (Kd.freshB (g := gb227) (o := .cells #[.int .i64 x228000_38, .int .i64 x228001_38, .int .i64 x228002_38, .int .i64 x228003_38] 26 (0, 0)) (by (with_reducible repeat (first | apply blk_drewN | apply blk_drew | apply blk_alloc)); exact BK227.out) k_ hn_)), Or.elim hk_ (fun hs_ => fun e_ => Nat.not_le.2 hs_ (by rw [e_]; exact GW237.out)) (fun hn_ => (Kd.freshB (g := gb237) (o := .cells #[.int .i64 t228, .int .i64 t229, .int .i64 t230, .int .i64 t231, .int .i64 t232, .int .i64 t233, .int .i64 t234, .int .i64 t235] 70 (0, 0)) (by (with_reducible repeat (first | apply blk_drewN | apply blk_drew | apply blk_alloc)); exact BK237.out) k_ hn_))⟩)) (below_size (by repeat (first | (with_reducible first | exact HB.out | apply below_alloc | apply pw_below_drewN | apply below_drew1 | refine below_set ?_ GE226.out | refine below_set ?_ GE227.out | refine below_set ?_ GE237.out) | exact HB.out)))); have n2_ := ak_ (blk_below (g := gb226) (o := .cells #[.int .i64 a0_0, .int .i64 a0_1, .int .i64 a0_2, .int .i64 a0_3, .int .i64 a0_4, .int .i64 a0_5, .int .i64 a0_6] 23 (0, 0)) (by (with_reducible repeat (first | apply blk_drewN | apply blk_drew | apply blk_alloc)); exact BK226.out) hb); have n3_ := ak_ (blk_below (g := gb227) (o := .cells #[.int .i64 x228000_38, .int .i64 x228001_38, .int .i64 x228002_38, .int .i64 x228003_38] 26 (0, 0)) (by (with_reducible repeat (first | apply blk_drewN | apply blk_drew | apply blk_alloc)); exact BK227.out) hb); have n4_ := ak_ (blk_below (g := gb237) (o := .cells #[.int .i64 t228, .int .i64 t229, .int .i64 t230, .int .i64 t231, .int .i64 t232, .int .i64 t233, .int .i64 t234, .int .i64 t235] 70 (0, 0)) (by (with_reducible repeat (first | apply blk_drewN | apply blk_drew | apply blk_alloc)); exact BK237.out) hb); have n5_ := ak_ (below_step (by repeat (first | (with_reducible first | exact HB.out | apply below_alloc | apply pw_below_drewN | apply below_drew1 | refine below_set ?_ GE226.out | refine below_set ?_ GE227.out | refine below_set ?_ GE237.out) | exact HB.out)) hb); clear HO_4; clear BK226; clear BK227; clear BK237; clear HB; have HO_4 := n0_; have HO253 := n1_; have BK226 := n2_; have BK227 := n3_; have BK237 := n4_; have HB := n5_; clear n0_ n1_ n2_ n3_ n4_ n5_; (try clear hb); (try clear hb2); (try clear hk); (try clear hi); (try clear ho0); obtain ⟨Ao55, co55, eo55⟩ := Kd.V_slice HO253.out; subst eo55) | ((with_reducible refine gate_callee (f := 60) rfl ?_); refine goesL_ (some 53) rfl rfl Try.func60 (by kernel_rfl) rfl #[.slice Ao55 t251.length co55] rfl (by (try simp only [List.map_toArray, List.map_cons, List.map_nil]); first | done | rfl | (simp only [List.length_drop, List.length_take]; rfl)) ?_; (with_reducible refine (chunk_Decode.calls kj38 _ _ t251 t254 t255 t256 _ ?side1 ?side2 A49.out).mono ?_); (case side1 => repeat (first | exact (Kd.V_reads' HO253.out).2.2 | (with_reducible refine Kd.C_alloc ?_ _) | (with_reducible refine Kd.C_drewN ?_ _) | (with_reducible refine Kd.C_drew ?_))); (case side2 => exact (Kd.V_reads' HO253.out).2.1); rintro e w56 ⟨v257, rfl, ho0, hb⟩; refine ⟨_, rfl, ?_⟩; have n0_ := ak_ (Kd.R_elder' (by (with_reducible repeat (first | apply Kd.R_alloc | apply Kd.R_drewN | apply Kd.R_drew)); exact HO_4.out) (Kd.R_base ho0) hb); have n1_ := ak_ (Kd.V_elder' (by (with_reducible repeat (first | apply Kd.V_alloc | apply Kd.V_drewN | apply Kd.V_drew)); exact HO253.out) (Kd.R_base ho0) hb); have n2_ := ak_ (Kd.R_lower (Kd.R_new' ho0 (Kd.R_lt (by (with_reducible repeat (first | apply Kd.R_alloc | apply Kd.R_drewN | apply Kd.R_drew)); exact HO_4.out))) (below_size (by repeat (first | (with_reducible first | exact HB.out | apply below_alloc | apply pw_below_drewN | apply below_drew1 | refine below_set ?_ GE226.out | refine below_set ?_ GE227.out | refine below_set ?_ GE237.out) | exact HB.out)))); have n3_ := ak_ (blk_below (g := gb226) (o := .cells #[.int .i64 a0_0, .int .i64 a0_1, .int .i64 a0_2, .int .i64 a0_3, .int .i64 a0_4, .int .i64 a0_5, .int .i64 a0_6] 23 (0, 0)) (by (with_reducible repeat (first | apply blk_drewN | apply blk_drew | apply blk_alloc)); exact BK226.out) hb); have n4_ := ak_ (blk_below (g := gb227) (o := .cells #[.int .i64 x228000_38, .int .i64 x228001_38, .int .i64 x228002_38, .int .i64 x228003_38] 26 (0, 0)) (by (with_reducible repeat (first | apply blk_drewN | apply blk_drew | apply blk_alloc)); exact BK227.out) hb); have n5_ := ak_ (blk_below (g := gb237) (o := .cells #[.int .i64 t228, .int .i64 t229, .int .i64 t230, .int .i64 t231, .int .i64 t232, .int .i64 t233, .int .i64 t234, .int .i64 t235] 70 (0, 0)) (by (with_reducible repeat (first | apply blk_drewN | apply blk_drew | apply blk_alloc)); exact BK237.out) hb); have n6_ := ak_ (below_step (by repeat (first | (with_reducible first | exact HB.out | apply below_alloc | apply pw_below_drewN | apply below_drew1 | refine below_set ?_ GE226.out | refine below_set ?_ GE227.out | refine below_set ?_ GE237.out) | exact HB.out)) hb); clear HO_4; clear HO253; clear BK226; clear BK227; clear BK237; clear HB; have HO_4 := n0_; have HO253 := n1_; have HO258 := n2_; have BK226 := n3_; have BK227 := n4_; have BK237 := n5_; have HB := n6_; clear n0_ n1_ n2_ n3_ n4_ n5_ n6_; (try clear hb); (try clear hb2); (try clear hk); (try clear hi); (try clear ho0)))
         (try simp only [Act.put, List.setIfInBounds_toArray, List.set_cons_zero, List.set_cons_succ])
         go_cut [4, 6] (fun v4 v6 wc => ∃ (kq : Nat) (x4_49 : List Int) (x6_49 : Int) (x228000_49 : Int) (x228001_49 : Int) (x228002_49 : Int) (x228003_49 : Int), v6 = .int .i64 x6_49 ∧ Aside0 (page_Decode.j4 kq x4_49 x6_49 t247 t254 t255 = some (r1, r2, r3, r4, r5, r6, r7)) ∧ Aside0 (kq ≤ kj38) ∧ Aside0 (Kd.R (Kd.int .u8) 5 wc w.heap.size (fun k_ => some k_ ≠ (v257 : Value).ownBlock) v4 x4_49) ∧ Aside0 (Kd.R (Kd.int .u8) 5 wc w.heap.size (fun k_ => some k_ ≠ (v4 : Value).ownBlock) v257 t254) ∧ Aside0 (wc.heap[gb226]? = some (.cells #[.int .i64 a0_0, .int .i64 a0_1, .int .i64 a0_2, .int .i64 a0_3, .int .i64 a0_4, .int .i64 a0_5, .int .i64 a0_6] 23 (0, 0))) ∧ Aside0 (wc.heap[gb227]? = some (.cells #[.int .i64 x228000_49, .int .i64 x228001_49, .int .i64 x228002_49, .int .i64 x228003_49] 26 (0, 0))) ∧ Aside0 (wc.heap[gb237]? = some (.cells #[.int .i64 t228, .int .i64 t229, .int .i64 t230, .int .i64 t231, .int .i64 t232, .int .i64 t233, .int .i64 t234, .int .i64 t235] 70 (0, 0))) ∧ Aside0 (Below w.heap.size w wc))
         case first =>
          have H := HC50.out
          clear HC50
          by_cases c57 : t256 = 0
          ·rw [if_pos c57] at H
           have c57b0 : (t256 == 0) = true := beq_iff_eq.mpr c57
           have c57b1 : (t256 != 0) = false := bne_eq_false_iff_eq.mpr c57
           clear c57
           (first | rw [c57b0] | (simp only [i64_w, i32_w]; rw [c57b0]) | skip)
           have H' := ak_ H
           clear H
           go_wp2
           go_meet
           case rel => exact ⟨_, (x4_38), (x6_38), (x228000_38), (x228001_38), (x228002_38), (x228003_38), (by first | rfl | (simp; done) | (simp [*]; done)), H', ⟨by have := HJ3.out; have := HJ19.out; have := HJ26.out; have := HJ38.out; first | omega | exact Nat.le_refl _⟩, ⟨by (with_reducible repeat (first | apply Kd.R_alloc | apply Kd.R_drewN | apply Kd.R_drew)); exact Kd.R_mono HO_4.out (fun _ hk => hk.2)⟩, ⟨by (with_reducible repeat (first | apply Kd.R_alloc | apply Kd.R_drewN | apply Kd.R_drew)); exact Kd.R_mono HO258.out (fun _ hk => hk.2)⟩, ⟨by (with_reducible repeat (first | apply blk_drewN | apply blk_drew | apply blk_alloc)); exact BK226.out⟩, ⟨by (with_reducible repeat (first | apply blk_drewN | apply blk_drew | apply blk_alloc)); exact BK227.out⟩, ⟨by (with_reducible repeat (first | apply blk_drewN | apply blk_drew | apply blk_alloc)); exact BK237.out⟩, ⟨by repeat (first | (with_reducible first | exact HB.out | apply below_alloc | apply pw_below_drewN | apply below_drew1 | refine below_set ?_ GE226.out | refine below_set ?_ GE227.out | refine below_set ?_ GE237.out) | exact HB.out)⟩⟩
          ·rw [if_neg c57] at H
           have c57b0 : (t256 == 0) = false := beq_eq_false_iff_ne.mpr c57
           have c57b1 : (t256 != 0) = true := bne_iff_ne.mpr c57
           (first | rw [c57b0] | (simp only [i64_w, i32_w]; rw [c57b0]) | skip)
           simp only [Option.some.injEq, Prod.mk.injEq] at H
           obtain ⟨rfl, rfl, rfl, rfl, rfl, rfl, rfl⟩ := H
           have hnb58 := NB227_226.out
           have hnc58 := NB226_227.out
           have hnb59 := NB227_237.out
           have hnc59 := NB237_227.out
           have hcz60_0 : w56.cell? ⟨gb227, 0, none⟩ = some (.int .i64 x228000_38) := (blk_cell BK227.out 0).trans rfl
           have hcz60_1 : w56.cell? ⟨gb227, 1, none⟩ = some (.int .i64 x228001_38) := (blk_cell BK227.out 1).trans rfl
           have hcz60_2 : w56.cell? ⟨gb227, 2, none⟩ = some (.int .i64 x228002_38) := (blk_cell BK227.out 2).trans rfl
           have hcz60_3 : w56.cell? ⟨gb227, 3, none⟩ = some (.int .i64 x228003_38) := (blk_cell BK227.out 3).trans rfl
           have hfz60_0 := blk_frozen BK227.out 0
           have hfz60_1 := blk_frozen BK227.out 1
           have hfz60_2 := blk_frozen BK227.out 2
           have hfz60_3 := blk_frozen BK227.out 3
           go_wp2
           refine bodyPost_ret (results_list (rs := [.tmp 4, .cell 5 26, .tmp 6, .tmp 7]) rfl (by simp) (.tmp (.cell gb227 26 #[.int .i64 0, .int .i64 0, .int .i64 0, .int .i64 0] (0, 0) _ rfl (by (with_reducible repeat (first | apply blk_drewN | apply blk_drew | apply blk_alloc)); refine blk_put (cs := #[.int .i64 0, .int .i64 0, .int .i64 0, .int .i64 x228003_38]) ?_ 3 _ rfl; (with_reducible repeat (first | apply blk_drewN | apply blk_drew | apply blk_alloc)); refine blk_put (cs := #[.int .i64 0, .int .i64 0, .int .i64 x228002_38, .int .i64 x228003_38]) ?_ 2 _ rfl; (with_reducible repeat (first | apply blk_drewN | apply blk_drew | apply blk_alloc)); refine blk_put (cs := #[.int .i64 0, .int .i64 x228001_38, .int .i64 x228002_38, .int .i64 x228003_38]) ?_ 1 _ rfl; (with_reducible repeat (first | apply blk_drewN | apply blk_drew | apply blk_alloc)); refine blk_put (cs := #[.int .i64 x228000_38, .int .i64 x228001_38, .int .i64 x228002_38, .int .i64 x228003_38]) ?_ 0 _ rfl; (with_reducible repeat (first | apply blk_drewN | apply blk_drew | apply blk_alloc)); exact BK227.out) Try.underlying26 rfl (by kernel_rfl) (.tmp (.tmp .nil))))) rfl ?_
           exact ⟨_, by first | rfl | (simp [errW_none, errW_some] <;> rfl) | (simp [*, errW_none, errW_some] <;> rfl), by first | exact Kd.R_nil _ _ _ _ _ | exact Kd.N_nil _ _ _ _ _ | exact Kd.V_nil _ _ _ _ _ | exact Kd.Q_nil _ _ _ _ _ | exact Kd.S_nil _ _ _ _ _, by repeat (first | (with_reducible first | exact HB.out | apply below_alloc | apply pw_below_drewN | apply below_drew1 | refine below_set ?_ GE226.out | refine below_set ?_ GE227.out | refine below_set ?_ GE237.out) | exact HB.out)⟩
         case rest =>
          clear HC50
          try clear c1
          try clear c2
          try clear p2
          try clear c3
          try clear c4
          try clear c5
          try clear c6
          try clear c7
          try clear c11
          try clear c12
          try clear c14
          try clear c16
          try clear c17
          try clear c21
          try clear c22
          try clear c23
          try clear c28
          try clear c29
          try clear c30
          try clear c33
          try clear c33b0
          try clear c34
          try clear c35
          try clear c44
          try clear c44b0
          try clear c44b1
          try clear c45
          try clear c46
          try clear c51
          try clear c52
          try clear c57
          try clear c57b0
          try clear c57b1
          try clear c58
          try clear c59
          try clear c60
          try clear hcz13_0
          try clear hcz13_1
          try clear hcz13_2
          try clear hcz13_3
          try clear hcz13_4
          try clear hcz13_5
          try clear hcz13_6
          try clear hcz13_7
          try clear hcz18_0
          try clear hcz18_1
          try clear hcz18_2
          try clear hcz18_3
          try clear hcz18_4
          try clear hcz18_5
          try clear hcz18_6
          try clear hcz18_7
          try clear hcz24_0
          try clear hcz24_1
          try clear hcz24_2
          try clear hcz24_3
          try clear hcz30_0
          try clear hcz30_1
          try clear hcz30_2
          try clear hcz30_3
          try clear hcz30_4
          try clear hcz30_5
          try clear hcz30_6
          try clear hcz30_7
          try clear hcz36_0
          try clear hcz36_1
          try clear hcz36_2
          try clear hcz36_3
          try clear hcz47_0
          try clear hcz47_1
          try clear hcz47_2
          try clear hcz47_3
          try clear hcz53_0
          try clear hcz53_1
          try clear hcz53_2
          try clear hcz53_3
          try clear hcz53_4
          try clear hcz53_5
          try clear hcz53_6
          try clear hcz53_7
          try clear hcz60_0
          try clear hcz60_1
          try clear hcz60_2
          try clear hcz60_3
          try clear hcz8_0
          try clear hcz8_1
          try clear hcz8_2
          try clear hcz8_3
          try clear hcz8_4
          try clear hcz8_5
          try clear hcz8_6
          try clear hfz13_0
          try clear hfz13_1
          try clear hfz13_2
          try clear hfz13_3
          try clear hfz13_4
          try clear hfz13_5
          try clear hfz13_6
          try clear hfz13_7
          try clear hfz18_0
          try clear hfz18_1
          try clear hfz18_2
          try clear hfz18_3
          try clear hfz18_4
          try clear hfz18_5
          try clear hfz18_6
          try clear hfz18_7
          try clear hfz24_0
          try clear hfz24_1
          try clear hfz24_2
          try clear hfz24_3
          try clear hfz30_0
          try clear hfz30_1
          try clear hfz30_2
          try clear hfz30_3
          try clear hfz30_4
          try clear hfz30_5
          try clear hfz30_6
          try clear hfz30_7
          try clear hfz36_0
          try clear hfz36_1
          try clear hfz36_2
          try clear hfz36_3
          try clear hfz47_0
          try clear hfz47_1
          try clear hfz47_2
          try clear hfz47_3
          try clear hfz53_0
          try clear hfz53_1
          try clear hfz53_2
          try clear hfz53_3
          try clear hfz53_4
          try clear hfz53_5
          try clear hfz53_6
          try clear hfz53_7
          try clear hfz60_0
          try clear hfz60_1
          try clear hfz60_2
          try clear hfz60_3
          try clear hfz8_0
          try clear hfz8_1
          try clear hfz8_2
          try clear hfz8_3
          try clear hfz8_4
          try clear hfz8_5
          try clear hfz8_6
          try clear p2
          obtain ⟨kq, x4_49, x6_49, x228000_49, x228001_49, x228002_49, x228003_49, rfl, HA, HJ49, HO_4, HO_11, BK226, BK227, BK237, HB⟩ := hcut
          cases kq with
          | zero => exact absurd HA.out (by simp [page_Decode.j4])
          | succ kj49 =>
           have H := HA.out
           clear HA
           simp only [page_Decode.j4] at H
           obtain ⟨y259, hy259⟩ : ∃ y_ : List Int, y_ = (([] : List Int)) := ⟨_, rfl⟩
           replace H : (if y259.length + x4_49.length < 140737488355328 then ((some (y259 ++ x4_49 : List Int)).bind fun y262 => (if y262.length + t254.length < 140737488355328 then ((crc_Check.f kj49 (y262 ++ t254)).bind fun t268 => (if t268 = true then (page_Decode.j5 kj49 x4_49 x6_49 t247 t254 t255) else (some (([] : List Int), 0, 0, 0, 0, 0, 12)))) else (none))) else (none)) = some (r1, r2, r3, r4, r5, r6, r7) := by first | (rw [hy259]; with_reducible exact H) | (have H2_ := (Option.bind_some _ _).symm.trans H; rw [hy259]; with_reducible exact H2_) | (have H2_ := (Option.bind_some _ _).symm.trans H; with_reducible exact H2_) | with_reducible exact H | (rw [hy259]; exact H) | exact H
           have Ny259 := ak_ hy259
           clear hy259
           by_cases c61 : y259.length + x4_49.length < 140737488355328
           ·rw [if_pos c61] at H
            have LMc61 := ak_ c61
            clear c61
            obtain ⟨y262, hy262⟩ : ∃ y_ : List Int, y_ = (y259 ++ x4_49) := ⟨_, rfl⟩
            replace H : (if y262.length + t254.length < 140737488355328 then ((crc_Check.f kj49 (y262 ++ t254)).bind fun t268 => (if t268 = true then (page_Decode.j5 kj49 x4_49 x6_49 t247 t254 t255) else (some (([] : List Int), 0, 0, 0, 0, 0, 12)))) else (none)) = some (r1, r2, r3, r4, r5, r6, r7) := by first | (rw [hy262]; with_reducible exact H) | (have H2_ := (Option.bind_some _ _).symm.trans H; rw [hy262]; with_reducible exact H2_) | (have H2_ := (Option.bind_some _ _).symm.trans H; with_reducible exact H2_) | with_reducible exact H | (rw [hy262]; exact H) | exact H
            have Ny262 := ak_ hy262
            clear hy262
            by_cases c62 : y262.length + t254.length < 140737488355328
            ·rw [if_pos c62] at H
             have LMc62 := ak_ c62
             clear c62
             obtain ⟨y265, hy265⟩ : ∃ y_ : List Int, y_ = (y262 ++ t254) := ⟨_, rfl⟩
             replace H : ((crc_Check.f kj49 y265).bind fun t268 => (if t268 = true then (page_Decode.j5 kj49 x4_49 x6_49 t247 t254 t255) else (some (([] : List Int), 0, 0, 0, 0, 0, 12)))) = some (r1, r2, r3, r4, r5, r6, r7) := by first | (rw [hy265]; with_reducible exact H) | (have H2_ := (Option.bind_some _ _).symm.trans H; rw [hy265]; with_reducible exact H2_) | (have H2_ := (Option.bind_some _ _).symm.trans H; with_reducible exact H2_) | with_reducible exact H | (rw [hy265]; exact H) | exact H
             have Ny265 := ak_ hy265
             clear hy265
             replace H := Option.bind_eq_some_iff.mp H
             obtain ⟨t268, A630, H⟩ := H
             replace H : (if t268 = true then (page_Decode.j5 kj49 x4_49 x6_49 t247 t254 t255) else (some (([] : List Int), 0, 0, 0, 0, 0, 12))) = some (r1, r2, r3, r4, r5, r6, r7) := H
             have A63 := ak_ A630
             clear A630
             have HC64 := ak_ H
             clear H
             go_upto_if 67 with (first | ((with_reducible refine gate_dst (N := 61) rfl ?_); (try (refine gate_guard (by rfl) ?_; dsimp only)); refine Kd.R_lit (Kd.int .u8) _ 5 ?hg (N := 61) ?hd (xs := ([] : List Int)) (inner := []) (ok := fun _ => True) (okp := fun _ => True) ?hr ?hp (fun _ hk => hk) trivial (Below.refl _ _) (Nat.le_refl _) (by simp) ?_; (case hd => rfl); (case hg => rfl); (case hr => first | (go_simp; done) | (go_simp; rfl)); (case hp => exact (Reps.none _ _)); intro v260 w65 ho66 hb hg_ hnew_; clear hg_ hnew_; (first | rw [← Ny259.out] at ho66 | (simp only [Int.reduceToNat] at ho66; rw [← Ny259.out] at ho66)); have n0_ := ak_ (Kd.R_elder' (by (with_reducible repeat (first | apply Kd.R_alloc | apply Kd.R_drewN | apply Kd.R_drew)); exact HO_4.out) (Kd.R_base ho66) hb); have n1_ := ak_ (Kd.R_elder' (by (with_reducible repeat (first | apply Kd.R_alloc | apply Kd.R_drewN | apply Kd.R_drew)); exact HO_11.out) (Kd.R_base ho66) hb); have n2_ := ak_ (Kd.R_lower (Kd.R_new' (Kd.R_new' ho66 (Kd.R_lt (by (with_reducible repeat (first | apply Kd.R_alloc | apply Kd.R_drewN | apply Kd.R_drew)); exact HO_4.out))) (Kd.R_lt (by (with_reducible repeat (first | apply Kd.R_alloc | apply Kd.R_drewN | apply Kd.R_drew)); exact HO_11.out))) (below_size (by repeat (first | (with_reducible first | exact HB.out | apply below_alloc | apply pw_below_drewN | apply below_drew1 | refine below_set ?_ GE226.out | refine below_set ?_ GE227.out | refine below_set ?_ GE237.out) | exact HB.out)))); have n3_ := ak_ (blk_below (g := gb226) (o := .cells #[.int .i64 a0_0, .int .i64 a0_1, .int .i64 a0_2, .int .i64 a0_3, .int .i64 a0_4, .int .i64 a0_5, .int .i64 a0_6] 23 (0, 0)) (by (with_reducible repeat (first | apply blk_drewN | apply blk_drew | apply blk_alloc)); exact BK226.out) hb); have n4_ := ak_ (blk_below (g := gb227) (o := .cells #[.int .i64 x228000_49, .int .i64 x228001_49, .int .i64 x228002_49, .int .i64 x228003_49] 26 (0, 0)) (by (with_reducible repeat (first | apply blk_drewN | apply blk_drew | apply blk_alloc)); exact BK227.out) hb); have n5_ := ak_ (blk_below (g := gb237) (o := .cells #[.int .i64 t228, .int .i64 t229, .int .i64 t230, .int .i64 t231, .int .i64 t232, .int .i64 t233, .int .i64 t234, .int .i64 t235] 70 (0, 0)) (by (with_reducible repeat (first | apply blk_drewN | apply blk_drew | apply blk_alloc)); exact BK237.out) hb); have n6_ := ak_ (below_step (by repeat (first | (with_reducible first | exact HB.out | apply below_alloc | apply pw_below_drewN | apply below_drew1 | refine below_set ?_ GE226.out | refine below_set ?_ GE227.out | refine below_set ?_ GE237.out) | exact HB.out)) hb); clear HO_4; clear HO_11; clear BK226; clear BK227; clear BK237; clear HB; have HO_4 := n0_; have HO_11 := n1_; have HO261 := n2_; have BK226 := n3_; have BK227 := n4_; have BK237 := n5_; have HB := n6_; clear n0_ n1_ n2_ n3_ n4_ n5_ n6_; clear hb ho66; obtain ⟨Ao68, co68, eo68⟩ := Kd.R_slice HO_4.out; subst eo68) | ((with_reducible refine gate_builtin (b := .append) (xs := #[.tmp 61, .tmp 62]) rfl ?_); (try (refine gate_guard (by rfl) ?_; dsimp only)); at_builtin; refine Kd.R_append_rows (Kd.int .u8) (w0 := w) w.heap.size rfl (.tmp 61) (.tmp 62) 24 5 (.int .u8 0) 1 rfl Try.underlying24 info5 rfl (by decide) (by omega) v260 y259 x4_49 _ _ _ (fun k_ => some k_ ≠ (.slice Ao68 x4_49.length co68 : Value).ownBlock ∧ some k_ ≠ (v257 : Value).ownBlock) (fun _ => False) rfl rfl ?aO ?aR (fun _ _ h => h) (fun _ h => h.elim) ?aF ?aB ?aS ?aL ?_; (case aR => repeat (first | exact (Kd.R_reads' HO_4.out).2.2 | (with_reducible refine Kd.C_alloc ?_ _) | (with_reducible refine Kd.C_drewN ?_ _) | (with_reducible refine Kd.C_drew ?_))); (case aB => exact (by repeat (first | (with_reducible first | exact HB.out | apply below_alloc | apply pw_below_drewN | apply below_drew1 | refine below_set ?_ GE226.out | refine below_set ?_ GE227.out | refine below_set ?_ GE237.out) | exact HB.out))); (case aF => exact (fun k_ hk => ⟨Kd.fresh' (Kd.R_lt (by (with_reducible repeat (first | apply Kd.R_alloc | apply Kd.R_drewN | apply Kd.R_drew)); exact HO_4.out)) k_ hk, Kd.fresh' (Kd.R_lt (by (with_reducible repeat (first | apply Kd.R_alloc | apply Kd.R_drewN | apply Kd.R_drew)); exact HO_11.out)) k_ hk⟩)); (case aO => exact (by (with_reducible repeat (first | apply Kd.R_alloc | apply Kd.R_drewN | apply Kd.R_drew)); exact Kd.R_mono HO261.out (fun _ hk => by first | exact ⟨hk.1.2, hk.2⟩ | exact hk | (simp only [and_assoc, and_comm, and_left_comm] at hk ⊢; exact hk) | grind))); (case aS => exact (below_size (by repeat (first | (with_reducible first | exact HB.out | apply below_alloc | apply pw_below_drewN | apply below_drew1 | refine below_set ?_ GE226.out | refine below_set ?_ GE227.out | refine below_set ?_ GE237.out) | exact HB.out)))); (case aL => have := LMc61.out; omega); intro v263 w67 ho hb hg hat; rw [← Ny262.out] at ho; have n0_ := ak_ (Kd.R_after (ok := (fun k_ => some k_ ≠ (v257 : Value).ownBlock)) (by (with_reducible repeat (first | apply Kd.R_alloc | apply Kd.R_drewN | apply Kd.R_drew)); exact HO_4.out) hg hat); have n1_ := ak_ (Kd.R_after (ok := (fun k_ => some k_ ≠ (.slice Ao68 x4_49.length co68 : Value).ownBlock)) (by (with_reducible repeat (first | apply Kd.R_alloc | apply Kd.R_drewN | apply Kd.R_drew)); exact HO_11.out) hg hat); have n2_ := ak_ (blk_grown (g := gb226) (o := .cells #[.int .i64 a0_0, .int .i64 a0_1, .int .i64 a0_2, .int .i64 a0_3, .int .i64 a0_4, .int .i64 a0_5, .int .i64 a0_6] 23 (0, 0)) (by (with_reducible repeat (first | apply blk_drewN | apply blk_drew | apply blk_alloc)); exact BK226.out) hg (Kd.R_ne HO261.out BK226.out (by decide))); have n3_ := ak_ (blk_grown (g := gb227) (o := .cells #[.int .i64 x228000_49, .int .i64 x228001_49, .int .i64 x228002_49, .int .i64 x228003_49] 26 (0, 0)) (by (with_reducible repeat (first | apply blk_drewN | apply blk_drew | apply blk_alloc)); exact BK227.out) hg (Kd.R_ne HO261.out BK227.out (by decide))); have n4_ := ak_ (blk_grown (g := gb237) (o := .cells #[.int .i64 t228, .int .i64 t229, .int .i64 t230, .int .i64 t231, .int .i64 t232, .int .i64 t233, .int .i64 t234, .int .i64 t235] 70 (0, 0)) (by (with_reducible repeat (first | apply blk_drewN | apply blk_drew | apply blk_alloc)); exact BK237.out) hg (Kd.R_ne HO261.out BK237.out (by decide))); have n5_ := ak_ (hb); have n6_ := ak_ (ho); clear HO_4; clear HO_11; clear BK226; clear BK227; clear BK237; clear HB; clear HO261; have HO_4 := n0_; have HO_11 := n1_; have BK226 := n2_; have BK227 := n3_; have BK237 := n4_; have HB := n5_; have HO264 := n6_; clear n0_ n1_ n2_ n3_ n4_ n5_ n6_; clear ho hb hg hat; obtain ⟨Ao70, co70, eo70⟩ := Kd.R_slice HO_11.out; subst eo70) | ((with_reducible refine gate_builtin (b := .append) (xs := #[.tmp 63, .tmp 64]) rfl ?_); (try (refine gate_guard (by rfl) ?_; dsimp only)); at_builtin; refine Kd.R_append_rows (Kd.int .u8) (w0 := w) w.heap.size rfl (.tmp 63) (.tmp 64) 24 5 (.int .u8 0) 1 rfl Try.underlying24 info5 rfl (by decide) (by omega) v263 y262 t254 _ _ _ (fun k_ => some k_ ≠ (.slice Ao68 x4_49.length co68 : Value).ownBlock ∧ some k_ ≠ (.slice Ao70 t254.length co70 : Value).ownBlock) (fun _ => False) rfl rfl ?aO ?aR (fun _ _ h => h) (fun _ h => h.elim) ?aF ?aB ?aS ?aL ?_; (case aR => repeat (first | exact (Kd.R_reads' HO_11.out).2.2 | (with_reducible refine Kd.C_alloc ?_ _) | (with_reducible refine Kd.C_drewN ?_ _) | (with_reducible refine Kd.C_drew ?_))); (case aB => exact (by repeat (first | (with_reducible first | exact HB.out | apply below_alloc | apply pw_below_drewN | apply below_drew1 | refine below_set ?_ GE226.out | refine below_set ?_ GE227.out | refine below_set ?_ GE237.out) | exact HB.out))); (case aF => exact (fun k_ hk => ⟨Kd.fresh' (Kd.R_lt (by (with_reducible repeat (first | apply Kd.R_alloc | apply Kd.R_drewN | apply Kd.R_drew)); exact HO_4.out)) k_ hk, Kd.fresh' (Kd.R_lt (by (with_reducible repeat (first | apply Kd.R_alloc | apply Kd.R_drewN | apply Kd.R_drew)); exact HO_11.out)) k_ hk⟩)); (case aO => exact (by (with_reducible repeat (first | apply Kd.R_alloc | apply Kd.R_drewN | apply Kd.R_drew)); exact HO264.out)); (case aS => exact (below_size (by repeat (first | (with_reducible first | exact HB.out | apply below_alloc | apply pw_below_drewN | apply below_drew1 | refine below_set ?_ GE226.out | refine below_set ?_ GE227.out | refine below_set ?_ GE237.out) | exact HB.out)))); (case aL => have := LMc62.out; omega); intro v266 w69 ho hb hg hat; rw [← Ny265.out] at ho; have n0_ := ak_ (Kd.R_after (ok := (fun k_ => some k_ ≠ (.slice Ao70 t254.length co70 : Value).ownBlock)) (by (with_reducible repeat (first | apply Kd.R_alloc | apply Kd.R_drewN | apply Kd.R_drew)); exact HO_4.out) hg hat); have n1_ := ak_ (Kd.R_after (ok := (fun k_ => some k_ ≠ (.slice Ao68 x4_49.length co68 : Value).ownBlock)) (by (with_reducible repeat (first | apply Kd.R_alloc | apply Kd.R_drewN | apply Kd.R_drew)); exact HO_11.out) hg hat); have n2_ := ak_ (blk_grown (g := gb226) (o := .cells #[.int .i64 a0_0, .int .i64 a0_1, .int .i64 a0_2, .int .i64 a0_3, .int .i64 a0_4, .int .i64 a0_5, .int .i64 a0_6] 23 (0, 0)) (by (with_reducible repeat (first | apply blk_drewN | apply blk_drew | apply blk_alloc)); exact BK226.out) hg (Kd.R_ne HO264.out BK226.out (by decide))); have n3_ := ak_ (blk_grown (g := gb227) (o := .cells #[.int .i64 x228000_49, .int .i64 x228001_49, .int .i64 x228002_49, .int .i64 x228003_49] 26 (0, 0)) (by (with_reducible repeat (first | apply blk_drewN | apply blk_drew | apply blk_alloc)); exact BK227.out) hg (Kd.R_ne HO264.out BK227.out (by decide))); have n4_ := ak_ (blk_grown (g := gb237) (o := .cells #[.int .i64 t228, .int .i64 t229, .int .i64 t230, .int .i64 t231, .int .i64 t232, .int .i64 t233, .int .i64 t234, .int .i64 t235] 70 (0, 0)) (by (with_reducible repeat (first | apply blk_drewN | apply blk_drew | apply blk_alloc)); exact BK237.out) hg (Kd.R_ne HO264.out BK237.out (by decide))); have n5_ := ak_ (hb); have n6_ := ak_ (ho); clear HO_4; clear HO_11; clear BK226; clear BK227; clear BK237; clear HB; clear HO264; have HO_4 := n0_; have HO_11 := n1_; have BK226 := n2_; have BK227 := n3_; have BK237 := n4_; have HB := n5_; have HO267 := n6_; clear n0_ n1_ n2_ n3_ n4_ n5_ n6_; clear ho hb hg hat; obtain ⟨Ao71, co71, eo71⟩ := Kd.R_slice HO267.out; subst eo71) | ((with_reducible refine gate_callee (f := 61) rfl ?_); refine goesL_ (some 66) rfl rfl Try.func61 (by kernel_rfl) rfl #[.slice Ao71 y265.length co71] rfl (by (try simp only [List.map_toArray, List.map_cons, List.map_nil]); first | done | rfl | (simp only [List.length_drop, List.length_take]; rfl)) ?_; (with_reducible refine (crc_Check.calls kj49 (fun k_ => some k_ = (.slice Ao71 y265.length co71 : Value).ownBlock) _ _ y265 t268 _ ?side1 A63.out).mono ?_); (case side1 => exact Kd.R_V (Kd.R_tight rfl (Kd.R_types (Kd.R_types (Kd.R_types (HO267.out) BK226.out (by decide)) BK227.out (by decide)) BK237.out (by decide)))); rintro e w72 ⟨rfl, hb⟩; refine ⟨_, rfl, ?_⟩; have n0_ := ak_ (Kd.R_below (by (with_reducible repeat (first | apply Kd.R_alloc | apply Kd.R_drewN | apply Kd.R_drew)); exact HO_4.out) hb); have n1_ := ak_ (Kd.R_below (by (with_reducible repeat (first | apply Kd.R_alloc | apply Kd.R_drewN | apply Kd.R_drew)); exact HO_11.out) hb); have n2_ := ak_ (Kd.R_below (by (with_reducible repeat (first | apply Kd.R_alloc | apply Kd.R_drewN | apply Kd.R_drew)); exact HO267.out) hb); have n3_ := ak_ (blk_below (g := gb226) (o := .cells #[.int .i64 a0_0, .int .i64 a0_1, .int .i64 a0_2, .int .i64 a0_3, .int .i64 a0_4, .int .i64 a0_5, .int .i64 a0_6] 23 (0, 0)) (by (with_reducible repeat (first | apply blk_drewN | apply blk_drew | apply blk_alloc)); exact BK226.out) hb); have n4_ := ak_ (blk_below (g := gb227) (o := .cells #[.int .i64 x228000_49, .int .i64 x228001_49, .int .i64 x228002_49, .int .i64 x228003_49] 26 (0, 0)) (by (with_reducible repeat (first | apply blk_drewN | apply blk_drew | apply blk_alloc)); exact BK227.out) hb); have n5_ := ak_ (blk_below (g := gb237) (o := .cells #[.int .i64 t228, .int .i64 t229, .int .i64 t230, .int .i64 t231, .int .i64 t232, .int .i64 t233, .int .i64 t234, .int .i64 t235] 70 (0, 0)) (by (with_reducible repeat (first | apply blk_drewN | apply blk_drew | apply blk_alloc)); exact BK237.out) hb); have n6_ := ak_ (below_step (by repeat (first | (with_reducible first | exact HB.out | apply below_alloc | apply pw_below_drewN | apply below_drew1 | refine below_set ?_ GE226.out | refine below_set ?_ GE227.out | refine below_set ?_ GE237.out) | exact HB.out)) hb); clear HO_4; clear HO_11; clear HO267; clear BK226; clear BK227; clear BK237; clear HB; have HO_4 := n0_; have HO_11 := n1_; have HO267 := n2_; have BK226 := n3_; have BK227 := n4_; have BK237 := n5_; have HB := n6_; clear n0_ n1_ n2_ n3_ n4_ n5_ n6_; (try clear hb); (try clear hb2); (try clear hk); (try clear hi)))
             (try simp only [Act.put, List.setIfInBounds_toArray, List.set_cons_zero, List.set_cons_succ])
             go_cut [4, 6] (fun v4 v6 wc => ∃ (kq : Nat) (x4_63 : List Int) (x6_63 : Int) (x228000_63 : Int) (x228001_63 : Int) (x228002_63 : Int) (x228003_63 : Int), v6 = .int .i64 x6_63 ∧ Aside0 (page_Decode.j5 kq x4_63 x6_63 t247 t254 t255 = some (r1, r2, r3, r4, r5, r6, r7)) ∧ Aside0 (kq ≤ kj49) ∧ Aside0 (Kd.R (Kd.int .u8) 5 wc w.heap.size (fun k_ => some k_ ≠ ((.slice Ao70 t254.length co70) : Value).ownBlock) v4 x4_63) ∧ Aside0 (Kd.R (Kd.int .u8) 5 wc w.heap.size (fun k_ => some k_ ≠ (v4 : Value).ownBlock) (.slice Ao70 t254.length co70) t254) ∧ Aside0 (wc.heap[gb226]? = some (.cells #[.int .i64 a0_0, .int .i64 a0_1, .int .i64 a0_2, .int .i64 a0_3, .int .i64 a0_4, .int .i64 a0_5, .int .i64 a0_6] 23 (0, 0))) ∧ Aside0 (wc.heap[gb227]? = some (.cells #[.int .i64 x228000_63, .int .i64 x228001_63, .int .i64 x228002_63, .int .i64 x228003_63] 26 (0, 0))) ∧ Aside0 (wc.heap[gb237]? = some (.cells #[.int .i64 t228, .int .i64 t229, .int .i64 t230, .int .i64 t231, .int .i64 t232, .int .i64 t233, .int .i64 t234, .int .i64 t235] 70 (0, 0))) ∧ Aside0 (Below w.heap.size w wc))
             case first =>
              have H := HC64.out
              clear HC64
              by_cases c73 : t268 = true
              ·subst c73
               have H1 : (page_Decode.j5 kj49 x4_49 x6_49 t247 t254 t255) = some (r1, r2, r3, r4, r5, r6, r7) := by rw [if_pos rfl] at H; exact H
               clear H
               have H := H1
               clear H1
               have H' := ak_ H
               clear H
               go_wp2
               go_meet
               case rel => exact ⟨_, (x4_49), (x6_49), (x228000_49), (x228001_49), (x228002_49), (x228003_49), (by first | rfl | (simp; done) | (simp [*]; done)), H', ⟨by have := HJ3.out; have := HJ19.out; have := HJ26.out; have := HJ38.out; have := HJ49.out; first | omega | exact Nat.le_refl _⟩, ⟨by (with_reducible repeat (first | apply Kd.R_alloc | apply Kd.R_drewN | apply Kd.R_drew)); exact Kd.R_mono HO_4.out (fun _ hk => hk.1)⟩, ⟨by (with_reducible repeat (first | apply Kd.R_alloc | apply Kd.R_drewN | apply Kd.R_drew)); exact Kd.R_mono HO_11.out (fun _ hk => hk.1)⟩, ⟨by (with_reducible repeat (first | apply blk_drewN | apply blk_drew | apply blk_alloc)); exact BK226.out⟩, ⟨by (with_reducible repeat (first | apply blk_drewN | apply blk_drew | apply blk_alloc)); exact BK227.out⟩, ⟨by (with_reducible repeat (first | apply blk_drewN | apply blk_drew | apply blk_alloc)); exact BK237.out⟩, ⟨by repeat (first | (with_reducible first | exact HB.out | apply below_alloc | apply pw_below_drewN | apply below_drew1 | refine below_set ?_ GE226.out | refine below_set ?_ GE227.out | refine below_set ?_ GE237.out) | exact HB.out)⟩⟩
              ·replace c73 := Bool.eq_false_iff.mpr c73
               subst c73
               have H1 : (some (([] : List Int), 0, 0, 0, 0, 0, 12)) = some (r1, r2, r3, r4, r5, r6, r7) := by rw [if_neg (show ¬ (false = true) by decide)] at H; exact H
               clear H
               have H := H1
               clear H1
               simp only [Option.some.injEq, Prod.mk.injEq] at H
               obtain ⟨rfl, rfl, rfl, rfl, rfl, rfl, rfl⟩ := H
               have hnb74 := NB227_226.out
               have hnc74 := NB226_227.out
               have hnb75 := NB227_237.out
               have hnc75 := NB237_227.out
               have hcz76_0 : w72.cell? ⟨gb227, 0, none⟩ = some (.int .i64 x228000_49) := (blk_cell BK227.out 0).trans rfl
               have hcz76_1 : w72.cell? ⟨gb227, 1, none⟩ = some (.int .i64 x228001_49) := (blk_cell BK227.out 1).trans rfl
               have hcz76_2 : w72.cell? ⟨gb227, 2, none⟩ = some (.int .i64 x228002_49) := (blk_cell BK227.out 2).trans rfl
               have hcz76_3 : w72.cell? ⟨gb227, 3, none⟩ = some (.int .i64 x228003_49) := (blk_cell BK227.out 3).trans rfl
               have hfz76_0 := blk_frozen BK227.out 0
               have hfz76_1 := blk_frozen BK227.out 1
               have hfz76_2 := blk_frozen BK227.out 2
               have hfz76_3 := blk_frozen BK227.out 3
               go_wp2
               refine bodyPost_ret (results_list (rs := [.tmp 4, .cell 5 26, .tmp 6, .tmp 7]) rfl (by simp) (.tmp (.cell gb227 26 #[.int .i64 0, .int .i64 0, .int .i64 0, .int .i64 0] (0, 0) _ rfl (by (with_reducible repeat (first | apply blk_drewN | apply blk_drew | apply blk_alloc)); refine blk_put (cs := #[.int .i64 0, .int .i64 0, .int .i64 0, .int .i64 x228003_49]) ?_ 3 _ rfl; (with_reducible repeat (first | apply blk_drewN | apply blk_drew | apply blk_alloc)); refine blk_put (cs := #[.int .i64 0, .int .i64 0, .int .i64 x228002_49, .int .i64 x228003_49]) ?_ 2 _ rfl; (with_reducible repeat (first | apply blk_drewN | apply blk_drew | apply blk_alloc)); refine blk_put (cs := #[.int .i64 0, .int .i64 x228001_49, .int .i64 x228002_49, .int .i64 x228003_49]) ?_ 1 _ rfl; (with_reducible repeat (first | apply blk_drewN | apply blk_drew | apply blk_alloc)); refine blk_put (cs := #[.int .i64 x228000_49, .int .i64 x228001_49, .int .i64 x228002_49, .int .i64 x228003_49]) ?_ 0 _ rfl; (with_reducible repeat (first | apply blk_drewN | apply blk_drew | apply blk_alloc)); exact BK227.out) Try.underlying26 rfl (by kernel_rfl) (.tmp (.tmp .nil))))) rfl ?_
               exact ⟨_, by first | rfl | (simp [errW_none, errW_some] <;> rfl) | (simp [*, errW_none, errW_some] <;> rfl), by first | exact Kd.R_nil _ _ _ _ _ | exact Kd.N_nil _ _ _ _ _ | exact Kd.V_nil _ _ _ _ _ | exact Kd.Q_nil _ _ _ _ _ | exact Kd.S_nil _ _ _ _ _, by repeat (first | (with_reducible first | exact HB.out | apply below_alloc | apply pw_below_drewN | apply below_drew1 | refine below_set ?_ GE226.out | refine below_set ?_ GE227.out | refine below_set ?_ GE237.out) | exact HB.out)⟩
             case rest =>
              clear HC64
              try clear c1
              try clear c2
              try clear p2
              try clear c3
              try clear c4
              try clear c5
              try clear c6
              try clear c7
              try clear c11
              try clear c12
              try clear c14
              try clear c16
              try clear c17
              try clear c21
              try clear c22
              try clear c23
              try clear c28
              try clear c29
              try clear c30
              try clear c33
              try clear c33b0
              try clear c34
              try clear c35
              try clear c44
              try clear c44b0
              try clear c44b1
              try clear c45
              try clear c46
              try clear c51
              try clear c52
              try clear c57
              try clear c57b0
              try clear c57b1
              try clear c58
              try clear c59
              try clear c60
              try clear c61
              try clear c62
              try clear c73
              try clear c74
              try clear c75
              try clear hcz13_0
              try clear hcz13_1
              try clear hcz13_2
              try clear hcz13_3
              try clear hcz13_4
              try clear hcz13_5
              try clear hcz13_6
              try clear hcz13_7
              try clear hcz18_0
              try clear hcz18_1
              try clear hcz18_2
              try clear hcz18_3
              try clear hcz18_4
              try clear hcz18_5
              try clear hcz18_6
              try clear hcz18_7
              try clear hcz24_0
              try clear hcz24_1
              try clear hcz24_2
              try clear hcz24_3
              try clear hcz30_0
              try clear hcz30_1
              try clear hcz30_2
              try clear hcz30_3
              try clear hcz30_4
              try clear hcz30_5
              try clear hcz30_6
              try clear hcz30_7
              try clear hcz36_0
              try clear hcz36_1
              try clear hcz36_2
              try clear hcz36_3
              try clear hcz47_0
              try clear hcz47_1
              try clear hcz47_2
              try clear hcz47_3
              try clear hcz53_0
              try clear hcz53_1
              try clear hcz53_2
              try clear hcz53_3
              try clear hcz53_4
              try clear hcz53_5
              try clear hcz53_6
              try clear hcz53_7
              try clear hcz60_0
              try clear hcz60_1
              try clear hcz60_2
              try clear hcz60_3
              try clear hcz76_0
              try clear hcz76_1
              try clear hcz76_2
              try clear hcz76_3
              try clear hcz8_0
              try clear hcz8_1
              try clear hcz8_2
              try clear hcz8_3
              try clear hcz8_4
              try clear hcz8_5
              try clear hcz8_6
              try clear hfz13_0
              try clear hfz13_1
              try clear hfz13_2
              try clear hfz13_3
              try clear hfz13_4
              try clear hfz13_5
              try clear hfz13_6
              try clear hfz13_7
              try clear hfz18_0
              try clear hfz18_1
              try clear hfz18_2
              try clear hfz18_3
              try clear hfz18_4
              try clear hfz18_5
              try clear hfz18_6
              try clear hfz18_7
              try clear hfz24_0
              try clear hfz24_1
              try clear hfz24_2
              try clear hfz24_3
              try clear hfz30_0
              try clear hfz30_1
              try clear hfz30_2
              try clear hfz30_3
              try clear hfz30_4
              try clear hfz30_5
              try clear hfz30_6
              try clear hfz30_7
              try clear hfz36_0
              try clear hfz36_1
              try clear hfz36_2
              try clear hfz36_3
              try clear hfz47_0
              try clear hfz47_1
              try clear hfz47_2
              try clear hfz47_3
              try clear hfz53_0
              try clear hfz53_1
              try clear hfz53_2
              try clear hfz53_3
              try clear hfz53_4
              try clear hfz53_5
              try clear hfz53_6
              try clear hfz53_7
              try clear hfz60_0
              try clear hfz60_1
              try clear hfz60_2
              try clear hfz60_3
              try clear hfz76_0
              try clear hfz76_1
              try clear hfz76_2
              try clear hfz76_3
              try clear hfz8_0
              try clear hfz8_1
              try clear hfz8_2
              try clear hfz8_3
              try clear hfz8_4
              try clear hfz8_5
              try clear hfz8_6
              try clear p2
              obtain ⟨kq, x4_63, x6_63, x228000_63, x228001_63, x228002_63, x228003_63, rfl, HA, HJ63, HO_4, HO_11, BK226, BK227, BK237, HB⟩ := hcut
              cases kq with
              | zero => exact absurd HA.out (by simp [page_Decode.j5])
              | succ kj63 =>
               have H := HA.out
               clear HA
               simp only [page_Decode.j5] at H
               by_cases c77 : 24 ≤ (t254.length : Int)
               ·rw [if_pos c77] at H
                have c77b0 := eq_true c77
                have c77b1 : decide (24 ≤ (t254.length : Int)) = true := decide_eq_true c77
                clear c77
                obtain ⟨y269, hy269⟩ : ∃ y_ : List Int, y_ = (t254.take 24) := ⟨_, rfl⟩
                replace H : ((tag_Take.f kj63 y269).bind fun bt273 => (if bt273.2.2.2.2 = 0 then (if (wrap64 (t247 + t255)) > 0 then (some (x4_63, bt273.1, bt273.2.1, bt273.2.2.1, bt273.2.2.2.1, 1, 0)) else (some (x4_63, bt273.1, bt273.2.1, bt273.2.2.1, bt273.2.2.2.1, x6_63, 0))) else (some (([] : List Int), 0, 0, 0, 0, 0, bt273.2.2.2.2)))) = some (r1, r2, r3, r4, r5, r6, r7) := by first | (rw [hy269]; with_reducible exact H) | (have H2_ := (Option.bind_some _ _).symm.trans H; rw [hy269]; with_reducible exact H2_) | (have H2_ := (Option.bind_some _ _).symm.trans H; with_reducible exact H2_) | with_reducible exact H | (rw [hy269]; exact H) | exact H
                have Ny269 := ak_ hy269
                clear hy269
                replace H := Option.bind_eq_some_iff.mp H
                obtain ⟨⟨t273, t274, t275, t276, t277⟩, A780, H⟩ := H
                replace H : (if t277 = 0 then (if (wrap64 (t247 + t255)) > 0 then (some (x4_63, t273, t274, t275, t276, 1, 0)) else (some (x4_63, t273, t274, t275, t276, x6_63, 0))) else (some (([] : List Int), 0, 0, 0, 0, 0, t277))) = some (r1, r2, r3, r4, r5, r6, r7) := H
                have A78 := ak_ A780
                clear A780
                by_cases c79 : t277 = 0
                ·rw [if_pos c79] at H
                 have c79b0 : (t277 == 0) = true := beq_iff_eq.mpr c79
                 have c79b1 : (t277 != 0) = false := bne_eq_false_iff_eq.mpr c79
                 clear c79
                 by_cases c80 : (wrap64 (t247 + t255)) > 0
                 ·rw [if_pos c80] at H
                  have c80b0 : decide (0 < (wrap64 (t247 + t255))) = true := decide_eq_true c80
                  clear c80
                  simp only [Option.some.injEq, Prod.mk.injEq] at H
                  obtain ⟨rfl, rfl, rfl, rfl, rfl, rfl, rfl⟩ := H
                  have q81 : (24 : Int) ≤ ((t254.length : Int) : Int) := of_decide_eq_true (by first | (with_reducible assumption) | assumption)
                  obtain ⟨i081, hi081, _, hsz81, _⟩ := info_parts info5
                  have hroom81 : t254.length ≤ co70 := (Kd.R_reads' HO_11.out).2.1
                  have hC81 : Kd.C (Kd.int .u8) _ Ao70 t254.length t254 := (Kd.R_reads' HO_11.out).2.2
                  have hcut81 := cut_to (P := Try.prog) 24 5 .i64 Try.underlying24 hi081 Ao70 t254.length co70 24 (by omega) q81 hroom81
                  have hr81 := Kd.C_take (m := 24) hC81 (by omega)
                  have hy81 : y269.length = (24 : Int).toNat := (by rw [Ny269.out, List.length_take]; omega)
                  rw [← Ny269.out] at hr81
                  rw [← hy81] at hcut81
                  have HR272 := ak_ hr81
                  have HC272 := ak_ (show y269.length ≤ co70 from by omega)
                  clear hr81 hC81 hroom81 hi081 hsz81
                  have KY81 := ak_ hy81
                  clear hy81
                  have KL81 := ak_ (show 24 ≤ t254.length from by omega)
                  replace q81 := eq_true q81
                  try go_wp2_with (first | ((with_reducible refine gate_callee (f := 62) rfl ?_); refine goesL_ (some 72) rfl rfl Try.func62 (by kernel_rfl) rfl #[.slice Ao70 y269.length co70] rfl (by (try simp only [List.map_toArray, List.map_cons, List.map_nil]); first | done | rfl | (simp only [List.length_drop, List.length_take]; rfl)) ?_; (with_reducible refine (tag_Take.calls kj63 _ _ y269 t273 t274 t275 t276 t277 _ ?side1 ?side2 A78.out).mono ?_); (case side1 => repeat (first | exact (by repeat (first | (with_reducible exact HR272.out) | (with_reducible refine Kd.C_alloc ?_ _) | (with_reducible refine Kd.C_drewN ?_ _) | (with_reducible refine Kd.C_drew ?_) | exact HR272.out)) | (with_reducible refine Kd.C_alloc ?_ _) | (with_reducible refine Kd.C_drewN ?_ _) | (with_reducible refine Kd.C_drew ?_))); (case side2 => exact HC272.out); rintro e w82 ⟨rfl, hb⟩; refine ⟨_, rfl, ?_⟩; have n0_ := ak_ (Kd.R_below (by (with_reducible repeat (first | apply Kd.R_alloc | apply Kd.R_drewN | apply Kd.R_drew)); exact HO_4.out) hb); have n1_ := ak_ (Kd.R_below (by (with_reducible repeat (first | apply Kd.R_alloc | apply Kd.R_drewN | apply Kd.R_drew)); exact HO_11.out) hb); have n2_ := ak_ (blk_below (g := gb226) (o := .cells #[.int .i64 a0_0, .int .i64 a0_1, .int .i64 a0_2, .int .i64 a0_3, .int .i64 a0_4, .int .i64 a0_5, .int .i64 a0_6] 23 (0, 0)) (by (with_reducible repeat (first | apply blk_drewN | apply blk_drew | apply blk_alloc)); exact BK226.out) hb); have n3_ := ak_ (blk_below (g := gb227) (o := .cells #[.int .i64 x228000_63, .int .i64 x228001_63, .int .i64 x228002_63, .int .i64 x228003_63] 26 (0, 0)) (by (with_reducible repeat (first | apply blk_drewN | apply blk_drew | apply blk_alloc)); exact BK227.out) hb); have n4_ := ak_ (blk_below (g := gb237) (o := .cells #[.int .i64 t228, .int .i64 t229, .int .i64 t230, .int .i64 t231, .int .i64 t232, .int .i64 t233, .int .i64 t234, .int .i64 t235] 70 (0, 0)) (by (with_reducible repeat (first | apply blk_drewN | apply blk_drew | apply blk_alloc)); exact BK237.out) hb); have n5_ := ak_ (Kd.C_below (by repeat (first | (with_reducible exact HR272.out) | (with_reducible refine Kd.C_alloc ?_ _) | (with_reducible refine Kd.C_drewN ?_ _) | (with_reducible refine Kd.C_drew ?_) | exact HR272.out)) hb); have n6_ := ak_ (below_step (by repeat (first | (with_reducible first | exact HB.out | apply below_alloc | apply pw_below_drewN | apply below_drew1 | refine below_set ?_ GE226.out | refine below_set ?_ GE227.out | refine below_set ?_ GE237.out) | exact HB.out)) hb); clear HO_4; clear HO_11; clear BK226; clear BK227; clear BK237; clear HR272; clear HB; have HO_4 := n0_; have HO_11 := n1_; have BK226 := n2_; have BK227 := n3_; have BK237 := n4_; have HR272 := n5_; have HB := n6_; clear n0_ n1_ n2_ n3_ n4_ n5_ n6_; (try clear hb); (try clear hb2); (try clear hk); (try clear hi); have hnb83 := NB227_226.out; have hnc83 := NB226_227.out; have hnb84 := NB227_237.out; have hnc84 := NB237_227.out; have hcz85_0 : w82.cell? ⟨gb227, 0, none⟩ = some (.int .i64 x228000_63) := (blk_cell BK227.out 0).trans rfl; have hcz85_1 : w82.cell? ⟨gb227, 1, none⟩ = some (.int .i64 x228001_63) := (blk_cell BK227.out 1).trans rfl; have hcz85_2 : w82.cell? ⟨gb227, 2, none⟩ = some (.int .i64 x228002_63) := (blk_cell BK227.out 2).trans rfl; have hcz85_3 : w82.cell? ⟨gb227, 3, none⟩ = some (.int .i64 x228003_63) := (blk_cell BK227.out 3).trans rfl; have hfz85_0 := blk_frozen BK227.out 0; have hfz85_1 := blk_frozen BK227.out 1; have hfz85_2 := blk_frozen BK227.out 2; have hfz85_3 := blk_frozen BK227.out 3))
                  have n0_ : Aside0 (Kd.R (Kd.int .u8) 5 ((((w82.setCell ⟨gb227, 0, none⟩ (.int .i64 t273)).setCell ⟨gb227, 1, none⟩ (.int .i64 t274)).setCell ⟨gb227, 2, none⟩ (.int .i64 t275)).setCell ⟨gb227, 3, none⟩ (.int .i64 t276)) w.heap.size (fun k_ => some k_ ≠ (.slice Ao70 t254.length co70 : Value).ownBlock) u4 x4_63) := ⟨by (with_reducible repeat (first | apply Kd.R_alloc | apply Kd.R_drewN | apply Kd.R_drew)); exact Kd.R_mono (Kd.R_far (p := ⟨gb227, 3, none⟩) (Kd.R_far (p := ⟨gb227, 2, none⟩) (Kd.R_far (p := ⟨gb227, 1, none⟩) (Kd.R_far (p := ⟨gb227, 0, none⟩) (Kd.R_types HO_4.out BK227.out (by decide)) (fun _ hk => hk.2) (.int .i64 t273)) (fun _ hk => hk.2) (.int .i64 t274)) (fun _ hk => hk.2) (.int .i64 t275)) (fun _ hk => hk.2) (.int .i64 t276)) (fun _ hk => hk.1)⟩
                  have n1_ : Aside0 (Kd.R (Kd.int .u8) 5 ((((w82.setCell ⟨gb227, 0, none⟩ (.int .i64 t273)).setCell ⟨gb227, 1, none⟩ (.int .i64 t274)).setCell ⟨gb227, 2, none⟩ (.int .i64 t275)).setCell ⟨gb227, 3, none⟩ (.int .i64 t276)) w.heap.size (fun k_ => some k_ ≠ (u4 : Value).ownBlock) (.slice Ao70 t254.length co70) t254) := ⟨by (with_reducible repeat (first | apply Kd.R_alloc | apply Kd.R_drewN | apply Kd.R_drew)); exact Kd.R_mono (Kd.R_far (p := ⟨gb227, 3, none⟩) (Kd.R_far (p := ⟨gb227, 2, none⟩) (Kd.R_far (p := ⟨gb227, 1, none⟩) (Kd.R_far (p := ⟨gb227, 0, none⟩) (Kd.R_types HO_11.out BK227.out (by decide)) (fun _ hk => hk.2) (.int .i64 t273)) (fun _ hk => hk.2) (.int .i64 t274)) (fun _ hk => hk.2) (.int .i64 t275)) (fun _ hk => hk.2) (.int .i64 t276)) (fun _ hk => hk.1)⟩
                  have n2_ : Aside0 (((((w82.setCell ⟨gb227, 0, none⟩ (.int .i64 t273)).setCell ⟨gb227, 1, none⟩ (.int .i64 t274)).setCell ⟨gb227, 2, none⟩ (.int .i64 t275)).setCell ⟨gb227, 3, none⟩ (.int .i64 t276)).heap[gb226]? = some (.cells #[.int .i64 a0_0, .int .i64 a0_1, .int .i64 a0_2, .int .i64 a0_3, .int .i64 a0_4, .int .i64 a0_5, .int .i64 a0_6] 23 (0, 0))) := ⟨by (with_reducible repeat (first | apply blk_drewN | apply blk_drew | apply blk_alloc)); refine blk_far ?_ NB226_227.out _; (with_reducible repeat (first | apply blk_drewN | apply blk_drew | apply blk_alloc)); refine blk_far ?_ NB226_227.out _; (with_reducible repeat (first | apply blk_drewN | apply blk_drew | apply blk_alloc)); refine blk_far ?_ NB226_227.out _; (with_reducible repeat (first | apply blk_drewN | apply blk_drew | apply blk_alloc)); refine blk_far ?_ NB226_227.out _; (with_reducible repeat (first | apply blk_drewN | apply blk_drew | apply blk_alloc)); exact BK226.out⟩
                  have n3_ : Aside0 (((((w82.setCell ⟨gb227, 0, none⟩ (.int .i64 t273)).setCell ⟨gb227, 1, none⟩ (.int .i64 t274)).setCell ⟨gb227, 2, none⟩ (.int .i64 t275)).setCell ⟨gb227, 3, none⟩ (.int .i64 t276)).heap[gb227]? = some (.cells #[.int .i64 t273, .int .i64 t274, .int .i64 t275, .int .i64 t276] 26 (0, 0))) := ⟨by (with_reducible repeat (first | apply blk_drewN | apply blk_drew | apply blk_alloc)); refine blk_put (cs := #[.int .i64 t273, .int .i64 t274, .int .i64 t275, .int .i64 x228003_63]) ?_ 3 _ rfl; (with_reducible repeat (first | apply blk_drewN | apply blk_drew | apply blk_alloc)); refine blk_put (cs := #[.int .i64 t273, .int .i64 t274, .int .i64 x228002_63, .int .i64 x228003_63]) ?_ 2 _ rfl; (with_reducible repeat (first | apply blk_drewN | apply blk_drew | apply blk_alloc)); refine blk_put (cs := #[.int .i64 t273, .int .i64 x228001_63, .int .i64 x228002_63, .int .i64 x228003_63]) ?_ 1 _ rfl; (with_reducible repeat (first | apply blk_drewN | apply blk_drew | apply blk_alloc)); refine blk_put (cs := #[.int .i64 x228000_63, .int .i64 x228001_63, .int .i64 x228002_63, .int .i64 x228003_63]) ?_ 0 _ rfl; (with_reducible repeat (first | apply blk_drewN | apply blk_drew | apply blk_alloc)); exact BK227.out⟩
                  have n4_ : Aside0 (((((w82.setCell ⟨gb227, 0, none⟩ (.int .i64 t273)).setCell ⟨gb227, 1, none⟩ (.int .i64 t274)).setCell ⟨gb227, 2, none⟩ (.int .i64 t275)).setCell ⟨gb227, 3, none⟩ (.int .i64 t276)).heap[gb237]? = some (.cells #[.int .i64 t228, .int .i64 t229, .int .i64 t230, .int .i64 t231, .int .i64 t232, .int .i64 t233, .int .i64 t234, .int .i64 t235] 70 (0, 0))) := ⟨by (with_reducible repeat (first | apply blk_drewN | apply blk_drew | apply blk_alloc)); refine blk_far ?_ NB237_227.out _; (with_reducible repeat (first | apply blk_drewN | apply blk_drew | apply blk_alloc)); refine blk_far ?_ NB237_227.out _; (with_reducible repeat (first | apply blk_drewN | apply blk_drew | apply blk_alloc)); refine blk_far ?_ NB237_227.out _; (with_reducible repeat (first | apply blk_drewN | apply blk_drew | apply blk_alloc)); refine blk_far ?_ NB237_227.out _; (with_reducible repeat (first | apply blk_drewN | apply blk_drew | apply blk_alloc)); exact BK237.out⟩
                  have n5_ : Aside0 (Below w.heap.size w ((((w82.setCell ⟨gb227, 0, none⟩ (.int .i64 t273)).setCell ⟨gb227, 1, none⟩ (.int .i64 t274)).setCell ⟨gb227, 2, none⟩ (.int .i64 t275)).setCell ⟨gb227, 3, none⟩ (.int .i64 t276))) := ⟨by repeat (first | (with_reducible first | exact HB.out | apply below_alloc | apply pw_below_drewN | apply below_drew1 | refine below_set ?_ GE226.out | refine below_set ?_ GE227.out | refine below_set ?_ GE237.out) | exact HB.out)⟩
                  (try clear HO_4)
                  (try clear HO_11)
                  (try clear BK226)
                  (try clear BK227)
                  (try clear BK237)
                  (try clear HB)
                  generalize ((((w82.setCell ⟨gb227, 0, none⟩ (.int .i64 t273)).setCell ⟨gb227, 1, none⟩ (.int .i64 t274)).setCell ⟨gb227, 2, none⟩ (.int .i64 t275)).setCell ⟨gb227, 3, none⟩ (.int .i64 t276)) = w86 at n0_ n1_ n2_ n3_ n4_ n5_ ⊢
                  have HO_4 := n0_
                  have HO_11 := n1_
                  have BK226 := n2_
                  have BK227 := n3_
                  have BK237 := n4_
                  have HB := n5_
                  clear n0_ n1_ n2_ n3_ n4_ n5_
                  have n0_ := ak_ (Kd.R_drew HO_4.out)
                  have n1_ := ak_ (Kd.R_drew HO_11.out)
                  have n2_ := ak_ (blk_drew BK226.out)
                  have n3_ := ak_ (blk_drew BK227.out)
                  have n4_ := ak_ (blk_drew BK237.out)
                  have n5_ := ak_ (below_drew1 HB.out)
                  clear HO_4
                  clear HO_11
                  clear BK226
                  clear BK227
                  clear BK237
                  clear HB
                  have HO_4 := n0_
                  have HO_11 := n1_
                  have BK226 := n2_
                  have BK227 := n3_
                  have BK237 := n4_
                  have HB := n5_
                  clear n0_ n1_ n2_ n3_ n4_ n5_
                  refine start_ (n := 7) (S := fun w' => w'.cell? ⟨gb227, 0, none⟩ = some (.int .i64 t273) ∧ w'.cell? ⟨gb227, 1, none⟩ = some (.int .i64 t274) ∧ w'.cell? ⟨gb227, 2, none⟩ = some (.int .i64 t275) ∧ w'.cell? ⟨gb227, 3, none⟩ = some (.int .i64 t276)) (ds := [4]) #[false, false, false, false, false, false, false] (by kernel_rfl) rfl rfl ⟨(blk_cell BK227.out 0).trans rfl, (blk_cell BK227.out 1).trans rfl, (blk_cell BK227.out 2).trans rfl, (blk_cell BK227.out 3).trans rfl⟩ (fun hHeld => ?_)
                  generalize w86.drew = w87 at HO_4 HO_11 BK226 BK227 BK237 HB hHeld ⊢
                  refine pure_ (i := 0) (N := some 83) (v := ?_) (a' := ?_) #[true, false, false, false, false, false, false] rfl rfl (by kernel_rfl) (fun _ _ _ h => h) (Or.inl ⟨by rfl, ?_⟩) ?_ ?_
                  rotate_left
                  ·intro w'
                   go_simp
                   with_reducible rfl
                  rotate_left
                  ·simp only [Act.put, List.setIfInBounds_toArray, List.set_cons_zero, List.set_cons_succ, i64_w, i32_w]
                   rfl
                  refine pure_ (i := 2) (N := some 85) (v := ?_) (a' := ?_) #[true, false, true, false, false, false, false] rfl rfl (by kernel_rfl) (fun _ _ _ h => h) (Or.inl ⟨by rfl, ?_⟩) ?_ ?_
                  rotate_left
                  ·intro w'
                   go_simp
                   with_reducible rfl
                  rotate_left
                  ·simp only [Act.put, List.setIfInBounds_toArray, List.set_cons_zero, List.set_cons_succ, i64_w, i32_w]
                   rfl
                  refine pure_ (i := 3) (N := some 4) (v := ?_) (a' := ?_) #[true, false, true, true, false, false, false] rfl rfl (by kernel_rfl) (fun _ _ _ h => h) (Or.inl ⟨by rfl, ?_⟩) ?_ ?_
                  rotate_left
                  ·intro w'
                   go_simp
                   with_reducible rfl
                  rotate_left
                  ·simp only [Act.put, List.setIfInBounds_toArray, List.set_cons_zero, List.set_cons_succ, i64_w, i32_w]
                   rfl
                  refine take_ (i := 1) (N := some 84) (v := ?_) (a' := ?_) #[true, true, true, true, false, false, false] rfl rfl (by kernel_rfl) (fun _ _ _ h => h) (Or.inl ⟨by rfl, ?_⟩) hHeld ?_ ?_
                  rotate_left
                  ·rintro w' ⟨s0, s1, s2, s3⟩
                   go_simp
                   with_reducible rfl
                  rotate_left
                  ·simp only [Act.put, List.setIfInBounds_toArray, List.set_cons_zero, List.set_cons_succ, i64_w, i32_w]
                   rfl
                  refine last_ (i := 4) (N := none) #[true, true, true, true, true, false, false] rfl rfl (by kernel_rfl) (by decide) (fun K hK => ?_)
                  have hs88 : w87.cell? ⟨gb227, 0, none⟩ = some (.int .i64 t273) := (blk_cell BK227.out 0).trans rfl
                  have hfs88 := blk_frozen BK227.out 0
                  have hns88_0 := NB226_227.out
                  have hns88_2 := NB237_227.out
                  have hms88_0 := NB227_226.out
                  have hms88_2 := NB227_237.out
                  have hs89 : w87.cell? ⟨gb227, 1, none⟩ = some (.int .i64 t274) := (blk_cell BK227.out 1).trans rfl
                  have hfs89 := blk_frozen BK227.out 1
                  have hns89_0 := NB226_227.out
                  have hns89_2 := NB237_227.out
                  have hms89_0 := NB227_226.out
                  have hms89_2 := NB227_237.out
                  have hs90 : w87.cell? ⟨gb227, 2, none⟩ = some (.int .i64 t275) := (blk_cell BK227.out 2).trans rfl
                  have hfs90 := blk_frozen BK227.out 2
                  have hns90_0 := NB226_227.out
                  have hns90_2 := NB237_227.out
                  have hms90_0 := NB227_226.out
                  have hms90_2 := NB227_237.out
                  have hs91 : w87.cell? ⟨gb227, 3, none⟩ = some (.int .i64 t276) := (blk_cell BK227.out 3).trans rfl
                  have hfs91 := blk_frozen BK227.out 3
                  have hns91_0 := NB226_227.out
                  have hns91_2 := NB237_227.out
                  have hms91_0 := NB227_226.out
                  have hms91_2 := NB227_237.out
                  refine skip_ (w1 := ?_) (by rfl) rfl ?_ ?_
                  rotate_left
                  ·go_simp
                   rfl
                  refine hK.out _ _ ?_
                  clear hK K
                  refine pure_ (i := 5) (N := some 6) (v := ?_) (a' := ?_) #[true, true, true, true, true, true, false] rfl rfl (by kernel_rfl) (fun _ _ _ h => h) (Or.inl ⟨by rfl, ?_⟩) ?_ ?_
                  rotate_left
                  ·intro w'
                   go_simp
                   with_reducible rfl
                  rotate_left
                  ·simp only [Act.put, List.setIfInBounds_toArray, List.set_cons_zero, List.set_cons_succ, i64_w, i32_w]
                   rfl
                  refine pure_ (i := 6) (N := some 7) (v := ?_) (a' := ?_) #[true, true, true, true, true, true, true] rfl rfl (by kernel_rfl) (fun _ _ _ h => h) (Or.inl ⟨by rfl, ?_⟩) ?_ ?_
                  rotate_left
                  ·intro w'
                   go_simp
                   with_reducible rfl
                  rotate_left
                  ·simp only [Act.put, List.setIfInBounds_toArray, List.set_cons_zero, List.set_cons_succ, i64_w, i32_w]
                   rfl
                  refine done_ (by kernel_rfl) ?_
                  try go_wp2
                  refine bodyPost_ret (results_list (rs := [.tmp 4, .cell 5 26, .tmp 6, .tmp 7]) rfl (by simp) (.tmp (.cell gb227 26 #[.int .i64 t273, .int .i64 t274, .int .i64 t275, .int .i64 t276] (0, 0) _ rfl (by (with_reducible repeat (first | apply blk_drewN | apply blk_drew | apply blk_alloc)); refine blk_put (cs := #[.int .i64 t273, .int .i64 t274, .int .i64 t275, .int .i64 t276]) ?_ 3 _ rfl; (with_reducible repeat (first | apply blk_drewN | apply blk_drew | apply blk_alloc)); refine blk_put (cs := #[.int .i64 t273, .int .i64 t274, .int .i64 t275, .int .i64 t276]) ?_ 2 _ rfl; (with_reducible repeat (first | apply blk_drewN | apply blk_drew | apply blk_alloc)); refine blk_put (cs := #[.int .i64 t273, .int .i64 t274, .int .i64 t275, .int .i64 t276]) ?_ 1 _ rfl; (with_reducible repeat (first | apply blk_drewN | apply blk_drew | apply blk_alloc)); refine blk_put (cs := #[.int .i64 t273, .int .i64 t274, .int .i64 t275, .int .i64 t276]) ?_ 0 _ rfl; (with_reducible repeat (first | apply blk_drewN | apply blk_drew | apply blk_alloc)); exact BK227.out) Try.underlying26 rfl (by kernel_rfl) (.tmp (.tmp .nil))))) rfl ?_
                  exact ⟨_, by first | rfl | (simp [errW_none, errW_some] <;> rfl) | (simp [*, errW_none, errW_some] <;> rfl), by (with_reducible repeat (first | apply Kd.R_alloc | apply Kd.R_drewN | apply Kd.R_drew)); exact Kd.R_mono (Kd.R_far (p := ⟨gb227, 3, none⟩) (Kd.R_far (p := ⟨gb227, 2, none⟩) (Kd.R_far (p := ⟨gb227, 1, none⟩) (Kd.R_far (p := ⟨gb227, 0, none⟩) (Kd.R_types HO_4.out BK227.out (by decide)) (fun _ hk => hk.2) (.int .i64 t273)) (fun _ hk => hk.2) (.int .i64 t274)) (fun _ hk => hk.2) (.int .i64 t275)) (fun _ hk => hk.2) (.int .i64 t276)) (fun _ hk => trivial), by repeat (first | (with_reducible first | exact HB.out | apply below_alloc | apply pw_below_drewN | apply below_drew1 | refine below_set ?_ GE226.out | refine below_set ?_ GE227.out | refine below_set ?_ GE237.out) | exact HB.out)⟩
                 ·rw [if_neg c80] at H
                  have c80b0 : decide (0 < (wrap64 (t247 + t255))) = false := decide_eq_false c80
                  clear c80
                  simp only [Option.some.injEq, Prod.mk.injEq] at H
                  obtain ⟨rfl, rfl, rfl, rfl, rfl, rfl, rfl⟩ := H
                  have q92 : (24 : Int) ≤ ((t254.length : Int) : Int) := of_decide_eq_true (by first | (with_reducible assumption) | assumption)
                  obtain ⟨i092, hi092, _, hsz92, _⟩ := info_parts info5
                  have hroom92 : t254.length ≤ co70 := (Kd.R_reads' HO_11.out).2.1
                  have hC92 : Kd.C (Kd.int .u8) _ Ao70 t254.length t254 := (Kd.R_reads' HO_11.out).2.2
                  have hcut92 := cut_to (P := Try.prog) 24 5 .i64 Try.underlying24 hi092 Ao70 t254.length co70 24 (by omega) q92 hroom92
                  have hr92 := Kd.C_take (m := 24) hC92 (by omega)
                  have hy92 : y269.length = (24 : Int).toNat := (by rw [Ny269.out, List.length_take]; omega)
                  rw [← Ny269.out] at hr92
                  rw [← hy92] at hcut92
                  have HR272 := ak_ hr92
                  have HC272 := ak_ (show y269.length ≤ co70 from by omega)
                  clear hr92 hC92 hroom92 hi092 hsz92
                  have KY92 := ak_ hy92
                  clear hy92
                  have KL92 := ak_ (show 24 ≤ t254.length from by omega)
                  replace q92 := eq_true q92
                  try go_wp2_with (first | ((with_reducible refine gate_callee (f := 62) rfl ?_); refine goesL_ (some 72) rfl rfl Try.func62 (by kernel_rfl) rfl #[.slice Ao70 y269.length co70] rfl (by (try simp only [List.map_toArray, List.map_cons, List.map_nil]); first | done | rfl | (simp only [List.length_drop, List.length_take]; rfl)) ?_; (with_reducible refine (tag_Take.calls kj63 _ _ y269 t273 t274 t275 t276 t277 _ ?side1 ?side2 A78.out).mono ?_); (case side1 => repeat (first | exact (by repeat (first | (with_reducible exact HR272.out) | (with_reducible refine Kd.C_alloc ?_ _) | (with_reducible refine Kd.C_drewN ?_ _) | (with_reducible refine Kd.C_drew ?_) | exact HR272.out)) | (with_reducible refine Kd.C_alloc ?_ _) | (with_reducible refine Kd.C_drewN ?_ _) | (with_reducible refine Kd.C_drew ?_))); (case side2 => exact HC272.out); rintro e w93 ⟨rfl, hb⟩; refine ⟨_, rfl, ?_⟩; have n0_ := ak_ (Kd.R_below (by (with_reducible repeat (first | apply Kd.R_alloc | apply Kd.R_drewN | apply Kd.R_drew)); exact HO_4.out) hb); have n1_ := ak_ (Kd.R_below (by (with_reducible repeat (first | apply Kd.R_alloc | apply Kd.R_drewN | apply Kd.R_drew)); exact HO_11.out) hb); have n2_ := ak_ (blk_below (g := gb226) (o := .cells #[.int .i64 a0_0, .int .i64 a0_1, .int .i64 a0_2, .int .i64 a0_3, .int .i64 a0_4, .int .i64 a0_5, .int .i64 a0_6] 23 (0, 0)) (by (with_reducible repeat (first | apply blk_drewN | apply blk_drew | apply blk_alloc)); exact BK226.out) hb); have n3_ := ak_ (blk_below (g := gb227) (o := .cells #[.int .i64 x228000_63, .int .i64 x228001_63, .int .i64 x228002_63, .int .i64 x228003_63] 26 (0, 0)) (by (with_reducible repeat (first | apply blk_drewN | apply blk_drew | apply blk_alloc)); exact BK227.out) hb); have n4_ := ak_ (blk_below (g := gb237) (o := .cells #[.int .i64 t228, .int .i64 t229, .int .i64 t230, .int .i64 t231, .int .i64 t232, .int .i64 t233, .int .i64 t234, .int .i64 t235] 70 (0, 0)) (by (with_reducible repeat (first | apply blk_drewN | apply blk_drew | apply blk_alloc)); exact BK237.out) hb); have n5_ := ak_ (Kd.C_below (by repeat (first | (with_reducible exact HR272.out) | (with_reducible refine Kd.C_alloc ?_ _) | (with_reducible refine Kd.C_drewN ?_ _) | (with_reducible refine Kd.C_drew ?_) | exact HR272.out)) hb); have n6_ := ak_ (below_step (by repeat (first | (with_reducible first | exact HB.out | apply below_alloc | apply pw_below_drewN | apply below_drew1 | refine below_set ?_ GE226.out | refine below_set ?_ GE227.out | refine below_set ?_ GE237.out) | exact HB.out)) hb); clear HO_4; clear HO_11; clear BK226; clear BK227; clear BK237; clear HR272; clear HB; have HO_4 := n0_; have HO_11 := n1_; have BK226 := n2_; have BK227 := n3_; have BK237 := n4_; have HR272 := n5_; have HB := n6_; clear n0_ n1_ n2_ n3_ n4_ n5_ n6_; (try clear hb); (try clear hb2); (try clear hk); (try clear hi); have hnb94 := NB227_226.out; have hnc94 := NB226_227.out; have hnb95 := NB227_237.out; have hnc95 := NB237_227.out; have hcz96_0 : w93.cell? ⟨gb227, 0, none⟩ = some (.int .i64 x228000_63) := (blk_cell BK227.out 0).trans rfl; have hcz96_1 : w93.cell? ⟨gb227, 1, none⟩ = some (.int .i64 x228001_63) := (blk_cell BK227.out 1).trans rfl; have hcz96_2 : w93.cell? ⟨gb227, 2, none⟩ = some (.int .i64 x228002_63) := (blk_cell BK227.out 2).trans rfl; have hcz96_3 : w93.cell? ⟨gb227, 3, none⟩ = some (.int .i64 x228003_63) := (blk_cell BK227.out 3).trans rfl; have hfz96_0 := blk_frozen BK227.out 0; have hfz96_1 := blk_frozen BK227.out 1; have hfz96_2 := blk_frozen BK227.out 2; have hfz96_3 := blk_frozen BK227.out 3))
                  have n0_ : Aside0 (Kd.R (Kd.int .u8) 5 ((((w93.setCell ⟨gb227, 0, none⟩ (.int .i64 t273)).setCell ⟨gb227, 1, none⟩ (.int .i64 t274)).setCell ⟨gb227, 2, none⟩ (.int .i64 t275)).setCell ⟨gb227, 3, none⟩ (.int .i64 t276)) w.heap.size (fun k_ => some k_ ≠ (.slice Ao70 t254.length co70 : Value).ownBlock) u4 x4_63) := ⟨by (with_reducible repeat (first | apply Kd.R_alloc | apply Kd.R_drewN | apply Kd.R_drew)); exact Kd.R_mono (Kd.R_far (p := ⟨gb227, 3, none⟩) (Kd.R_far (p := ⟨gb227, 2, none⟩) (Kd.R_far (p := ⟨gb227, 1, none⟩) (Kd.R_far (p := ⟨gb227, 0, none⟩) (Kd.R_types HO_4.out BK227.out (by decide)) (fun _ hk => hk.2) (.int .i64 t273)) (fun _ hk => hk.2) (.int .i64 t274)) (fun _ hk => hk.2) (.int .i64 t275)) (fun _ hk => hk.2) (.int .i64 t276)) (fun _ hk => hk.1)⟩
                  have n1_ : Aside0 (Kd.R (Kd.int .u8) 5 ((((w93.setCell ⟨gb227, 0, none⟩ (.int .i64 t273)).setCell ⟨gb227, 1, none⟩ (.int .i64 t274)).setCell ⟨gb227, 2, none⟩ (.int .i64 t275)).setCell ⟨gb227, 3, none⟩ (.int .i64 t276)) w.heap.size (fun k_ => some k_ ≠ (u4 : Value).ownBlock) (.slice Ao70 t254.length co70) t254) := ⟨by (with_reducible repeat (first | apply Kd.R_alloc | apply Kd.R_drewN | apply Kd.R_drew)); exact Kd.R_mono (Kd.R_far (p := ⟨gb227, 3, none⟩) (Kd.R_far (p := ⟨gb227, 2, none⟩) (Kd.R_far (p := ⟨gb227, 1, none⟩) (Kd.R_far (p := ⟨gb227, 0, none⟩) (Kd.R_types HO_11.out BK227.out (by decide)) (fun _ hk => hk.2) (.int .i64 t273)) (fun _ hk => hk.2) (.int .i64 t274)) (fun _ hk => hk.2) (.int .i64 t275)) (fun _ hk => hk.2) (.int .i64 t276)) (fun _ hk => hk.1)⟩
                  have n2_ : Aside0 (((((w93.setCell ⟨gb227, 0, none⟩ (.int .i64 t273)).setCell ⟨gb227, 1, none⟩ (.int .i64 t274)).setCell ⟨gb227, 2, none⟩ (.int .i64 t275)).setCell ⟨gb227, 3, none⟩ (.int .i64 t276)).heap[gb226]? = some (.cells #[.int .i64 a0_0, .int .i64 a0_1, .int .i64 a0_2, .int .i64 a0_3, .int .i64 a0_4, .int .i64 a0_5, .int .i64 a0_6] 23 (0, 0))) := ⟨by (with_reducible repeat (first | apply blk_drewN | apply blk_drew | apply blk_alloc)); refine blk_far ?_ NB226_227.out _; (with_reducible repeat (first | apply blk_drewN | apply blk_drew | apply blk_alloc)); refine blk_far ?_ NB226_227.out _; (with_reducible repeat (first | apply blk_drewN | apply blk_drew | apply blk_alloc)); refine blk_far ?_ NB226_227.out _; (with_reducible repeat (first | apply blk_drewN | apply blk_drew | apply blk_alloc)); refine blk_far ?_ NB226_227.out _; (with_reducible repeat (first | apply blk_drewN | apply blk_drew | apply blk_alloc)); exact BK226.out⟩
                  have n3_ : Aside0 (((((w93.setCell ⟨gb227, 0, none⟩ (.int .i64 t273)).setCell ⟨gb227, 1, none⟩ (.int .i64 t274)).setCell ⟨gb227, 2, none⟩ (.int .i64 t275)).setCell ⟨gb227, 3, none⟩ (.int .i64 t276)).heap[gb227]? = some (.cells #[.int .i64 t273, .int .i64 t274, .int .i64 t275, .int .i64 t276] 26 (0, 0))) := ⟨by (with_reducible repeat (first | apply blk_drewN | apply blk_drew | apply blk_alloc)); refine blk_put (cs := #[.int .i64 t273, .int .i64 t274, .int .i64 t275, .int .i64 x228003_63]) ?_ 3 _ rfl; (with_reducible repeat (first | apply blk_drewN | apply blk_drew | apply blk_alloc)); refine blk_put (cs := #[.int .i64 t273, .int .i64 t274, .int .i64 x228002_63, .int .i64 x228003_63]) ?_ 2 _ rfl; (with_reducible repeat (first | apply blk_drewN | apply blk_drew | apply blk_alloc)); refine blk_put (cs := #[.int .i64 t273, .int .i64 x228001_63, .int .i64 x228002_63, .int .i64 x228003_63]) ?_ 1 _ rfl; (with_reducible repeat (first | apply blk_drewN | apply blk_drew | apply blk_alloc)); refine blk_put (cs := #[.int .i64 x228000_63, .int .i64 x228001_63, .int .i64 x228002_63, .int .i64 x228003_63]) ?_ 0 _ rfl; (with_reducible repeat (first | apply blk_drewN | apply blk_drew | apply blk_alloc)); exact BK227.out⟩
                  have n4_ : Aside0 (((((w93.setCell ⟨gb227, 0, none⟩ (.int .i64 t273)).setCell ⟨gb227, 1, none⟩ (.int .i64 t274)).setCell ⟨gb227, 2, none⟩ (.int .i64 t275)).setCell ⟨gb227, 3, none⟩ (.int .i64 t276)).heap[gb237]? = some (.cells #[.int .i64 t228, .int .i64 t229, .int .i64 t230, .int .i64 t231, .int .i64 t232, .int .i64 t233, .int .i64 t234, .int .i64 t235] 70 (0, 0))) := ⟨by (with_reducible repeat (first | apply blk_drewN | apply blk_drew | apply blk_alloc)); refine blk_far ?_ NB237_227.out _; (with_reducible repeat (first | apply blk_drewN | apply blk_drew | apply blk_alloc)); refine blk_far ?_ NB237_227.out _; (with_reducible repeat (first | apply blk_drewN | apply blk_drew | apply blk_alloc)); refine blk_far ?_ NB237_227.out _; (with_reducible repeat (first | apply blk_drewN | apply blk_drew | apply blk_alloc)); refine blk_far ?_ NB237_227.out _; (with_reducible repeat (first | apply blk_drewN | apply blk_drew | apply blk_alloc)); exact BK237.out⟩
                  have n5_ : Aside0 (Below w.heap.size w ((((w93.setCell ⟨gb227, 0, none⟩ (.int .i64 t273)).setCell ⟨gb227, 1, none⟩ (.int .i64 t274)).setCell ⟨gb227, 2, none⟩ (.int .i64 t275)).setCell ⟨gb227, 3, none⟩ (.int .i64 t276))) := ⟨by repeat (first | (with_reducible first | exact HB.out | apply below_alloc | apply pw_below_drewN | apply below_drew1 | refine below_set ?_ GE226.out | refine below_set ?_ GE227.out | refine below_set ?_ GE237.out) | exact HB.out)⟩
                  (try clear HO_4)
                  (try clear HO_11)
                  (try clear BK226)
                  (try clear BK227)
                  (try clear BK237)
                  (try clear HB)
                  generalize ((((w93.setCell ⟨gb227, 0, none⟩ (.int .i64 t273)).setCell ⟨gb227, 1, none⟩ (.int .i64 t274)).setCell ⟨gb227, 2, none⟩ (.int .i64 t275)).setCell ⟨gb227, 3, none⟩ (.int .i64 t276)) = w97 at n0_ n1_ n2_ n3_ n4_ n5_ ⊢
                  have HO_4 := n0_
                  have HO_11 := n1_
                  have BK226 := n2_
                  have BK227 := n3_
                  have BK237 := n4_
                  have HB := n5_
                  clear n0_ n1_ n2_ n3_ n4_ n5_
                  have n0_ := ak_ (Kd.R_drew HO_4.out)
                  have n1_ := ak_ (Kd.R_drew HO_11.out)
                  have n2_ := ak_ (blk_drew BK226.out)
                  have n3_ := ak_ (blk_drew BK227.out)
                  have n4_ := ak_ (blk_drew BK237.out)
                  have n5_ := ak_ (below_drew1 HB.out)
                  clear HO_4
                  clear HO_11
                  clear BK226
                  clear BK227
                  clear BK237
                  clear HB
                  have HO_4 := n0_
                  have HO_11 := n1_
                  have BK226 := n2_
                  have BK227 := n3_
                  have BK237 := n4_
                  have HB := n5_
                  clear n0_ n1_ n2_ n3_ n4_ n5_
                  refine start_ (n := 7) (S := fun w' => w'.cell? ⟨gb227, 0, none⟩ = some (.int .i64 t273) ∧ w'.cell? ⟨gb227, 1, none⟩ = some (.int .i64 t274) ∧ w'.cell? ⟨gb227, 2, none⟩ = some (.int .i64 t275) ∧ w'.cell? ⟨gb227, 3, none⟩ = some (.int .i64 t276)) (ds := [4]) #[false, false, false, false, false, false, false] (by kernel_rfl) rfl rfl ⟨(blk_cell BK227.out 0).trans rfl, (blk_cell BK227.out 1).trans rfl, (blk_cell BK227.out 2).trans rfl, (blk_cell BK227.out 3).trans rfl⟩ (fun hHeld => ?_)
                  generalize w97.drew = w98 at HO_4 HO_11 BK226 BK227 BK237 HB hHeld ⊢
                  refine pure_ (i := 0) (N := some 83) (v := ?_) (a' := ?_) #[true, false, false, false, false, false, false] rfl rfl (by kernel_rfl) (fun _ _ _ h => h) (Or.inl ⟨by rfl, ?_⟩) ?_ ?_
                  rotate_left
                  ·intro w'
                   go_simp
                   with_reducible rfl
                  rotate_left
                  ·simp only [Act.put, List.setIfInBounds_toArray, List.set_cons_zero, List.set_cons_succ, i64_w, i32_w]
                   rfl
                  refine pure_ (i := 2) (N := some 85) (v := ?_) (a' := ?_) #[true, false, true, false, false, false, false] rfl rfl (by kernel_rfl) (fun _ _ _ h => h) (Or.inl ⟨by rfl, ?_⟩) ?_ ?_
                  rotate_left
                  ·intro w'
                   go_simp
                   with_reducible rfl
                  rotate_left
                  ·simp only [Act.put, List.setIfInBounds_toArray, List.set_cons_zero, List.set_cons_succ, i64_w, i32_w]
                   rfl
                  refine pure_ (i := 3) (N := some 4) (v := ?_) (a' := ?_) #[true, false, true, true, false, false, false] rfl rfl (by kernel_rfl) (fun _ _ _ h => h) (Or.inl ⟨by rfl, ?_⟩) ?_ ?_
                  rotate_left
                  ·intro w'
                   go_simp
                   with_reducible rfl
                  rotate_left
                  ·simp only [Act.put, List.setIfInBounds_toArray, List.set_cons_zero, List.set_cons_succ, i64_w, i32_w]
                   rfl
                  refine take_ (i := 1) (N := some 84) (v := ?_) (a' := ?_) #[true, true, true, true, false, false, false] rfl rfl (by kernel_rfl) (fun _ _ _ h => h) (Or.inl ⟨by rfl, ?_⟩) hHeld ?_ ?_
                  rotate_left
                  ·rintro w' ⟨s0, s1, s2, s3⟩
                   go_simp
                   with_reducible rfl
                  rotate_left
                  ·simp only [Act.put, List.setIfInBounds_toArray, List.set_cons_zero, List.set_cons_succ, i64_w, i32_w]
                   rfl
                  refine last_ (i := 4) (N := none) #[true, true, true, true, true, false, false] rfl rfl (by kernel_rfl) (by decide) (fun K hK => ?_)
                  have hs99 : w98.cell? ⟨gb227, 0, none⟩ = some (.int .i64 t273) := (blk_cell BK227.out 0).trans rfl
                  have hfs99 := blk_frozen BK227.out 0
                  have hns99_0 := NB226_227.out
                  have hns99_2 := NB237_227.out
                  have hms99_0 := NB227_226.out
                  have hms99_2 := NB227_237.out
                  have hs100 : w98.cell? ⟨gb227, 1, none⟩ = some (.int .i64 t274) := (blk_cell BK227.out 1).trans rfl
                  have hfs100 := blk_frozen BK227.out 1
                  have hns100_0 := NB226_227.out
                  have hns100_2 := NB237_227.out
                  have hms100_0 := NB227_226.out
                  have hms100_2 := NB227_237.out
                  have hs101 : w98.cell? ⟨gb227, 2, none⟩ = some (.int .i64 t275) := (blk_cell BK227.out 2).trans rfl
                  have hfs101 := blk_frozen BK227.out 2
                  have hns101_0 := NB226_227.out
                  have hns101_2 := NB237_227.out
                  have hms101_0 := NB227_226.out
                  have hms101_2 := NB227_237.out
                  have hs102 : w98.cell? ⟨gb227, 3, none⟩ = some (.int .i64 t276) := (blk_cell BK227.out 3).trans rfl
                  have hfs102 := blk_frozen BK227.out 3
                  have hns102_0 := NB226_227.out
                  have hns102_2 := NB237_227.out
                  have hms102_0 := NB227_226.out
                  have hms102_2 := NB227_237.out
                  refine skip_ (w1 := ?_) (by rfl) rfl ?_ ?_
                  rotate_left
                  ·go_simp
                   rfl
                  refine hK.out _ _ ?_
                  clear hK K
                  refine pure_ (i := 5) (N := some 6) (v := ?_) (a' := ?_) #[true, true, true, true, true, true, false] rfl rfl (by kernel_rfl) (fun _ _ _ h => h) (Or.inl ⟨by rfl, ?_⟩) ?_ ?_
                  rotate_left
                  ·intro w'
                   go_simp
                   with_reducible rfl
                  rotate_left
                  ·simp only [Act.put, List.setIfInBounds_toArray, List.set_cons_zero, List.set_cons_succ, i64_w, i32_w]
                   rfl
                  refine pure_ (i := 6) (N := some 7) (v := ?_) (a' := ?_) #[true, true, true, true, true, true, true] rfl rfl (by kernel_rfl) (fun _ _ _ h => h) (Or.inl ⟨by rfl, ?_⟩) ?_ ?_
                  rotate_left
                  ·intro w'
                   go_simp
                   with_reducible rfl
                  rotate_left
                  ·simp only [Act.put, List.setIfInBounds_toArray, List.set_cons_zero, List.set_cons_succ, i64_w, i32_w]
                   rfl
                  refine done_ (by kernel_rfl) ?_
                  try go_wp2
                  refine bodyPost_ret (results_list (rs := [.tmp 4, .cell 5 26, .tmp 6, .tmp 7]) rfl (by simp) (.tmp (.cell gb227 26 #[.int .i64 t273, .int .i64 t274, .int .i64 t275, .int .i64 t276] (0, 0) _ rfl (by (with_reducible repeat (first | apply blk_drewN | apply blk_drew | apply blk_alloc)); refine blk_put (cs := #[.int .i64 t273, .int .i64 t274, .int .i64 t275, .int .i64 t276]) ?_ 3 _ rfl; (with_reducible repeat (first | apply blk_drewN | apply blk_drew | apply blk_alloc)); refine blk_put (cs := #[.int .i64 t273, .int .i64 t274, .int .i64 t275, .int .i64 t276]) ?_ 2 _ rfl; (with_reducible repeat (first | apply blk_drewN | apply blk_drew | apply blk_alloc)); refine blk_put (cs := #[.int .i64 t273, .int .i64 t274, .int .i64 t275, .int .i64 t276]) ?_ 1 _ rfl; (with_reducible repeat (first | apply blk_drewN | apply blk_drew | apply blk_alloc)); refine blk_put (cs := #[.int .i64 t273, .int .i64 t274, .int .i64 t275, .int .i64 t276]) ?_ 0 _ rfl; (with_reducible repeat (first | apply blk_drewN | apply blk_drew | apply blk_alloc)); exact BK227.out) Try.underlying26 rfl (by kernel_rfl) (.tmp (.tmp .nil))))) rfl ?_
                  exact ⟨_, by first | rfl | (simp [errW_none, errW_some] <;> rfl) | (simp [*, errW_none, errW_some] <;> rfl), by (with_reducible repeat (first | apply Kd.R_alloc | apply Kd.R_drewN | apply Kd.R_drew)); exact Kd.R_mono (Kd.R_far (p := ⟨gb227, 3, none⟩) (Kd.R_far (p := ⟨gb227, 2, none⟩) (Kd.R_far (p := ⟨gb227, 1, none⟩) (Kd.R_far (p := ⟨gb227, 0, none⟩) (Kd.R_types HO_4.out BK227.out (by decide)) (fun _ hk => hk.2) (.int .i64 t273)) (fun _ hk => hk.2) (.int .i64 t274)) (fun _ hk => hk.2) (.int .i64 t275)) (fun _ hk => hk.2) (.int .i64 t276)) (fun _ hk => trivial), by repeat (first | (with_reducible first | exact HB.out | apply below_alloc | apply pw_below_drewN | apply below_drew1 | refine below_set ?_ GE226.out | refine below_set ?_ GE227.out | refine below_set ?_ GE237.out) | exact HB.out)⟩
                ·rw [if_neg c79] at H
                 have c79b0 : (t277 == 0) = false := beq_eq_false_iff_ne.mpr c79
                 have c79b1 : (t277 != 0) = true := bne_iff_ne.mpr c79
                 simp only [Option.some.injEq, Prod.mk.injEq] at H
                 obtain ⟨rfl, rfl, rfl, rfl, rfl, rfl, rfl⟩ := H
                 have q103 : (24 : Int) ≤ ((t254.length : Int) : Int) := of_decide_eq_true (by first | (with_reducible assumption) | assumption)
                 obtain ⟨i0103, hi0103, _, hsz103, _⟩ := info_parts info5
                 have hroom103 : t254.length ≤ co70 := (Kd.R_reads' HO_11.out).2.1
                 have hC103 : Kd.C (Kd.int .u8) _ Ao70 t254.length t254 := (Kd.R_reads' HO_11.out).2.2
                 have hcut103 := cut_to (P := Try.prog) 24 5 .i64 Try.underlying24 hi0103 Ao70 t254.length co70 24 (by omega) q103 hroom103
                 have hr103 := Kd.C_take (m := 24) hC103 (by omega)
                 have hy103 : y269.length = (24 : Int).toNat := (by rw [Ny269.out, List.length_take]; omega)
                 rw [← Ny269.out] at hr103
                 rw [← hy103] at hcut103
                 have HR272 := ak_ hr103
                 have HC272 := ak_ (show y269.length ≤ co70 from by omega)
                 clear hr103 hC103 hroom103 hi0103 hsz103
                 have KY103 := ak_ hy103
                 clear hy103
                 have KL103 := ak_ (show 24 ≤ t254.length from by omega)
                 replace q103 := eq_true q103
                 go_wp2_with (first | ((with_reducible refine gate_callee (f := 62) rfl ?_); refine goesL_ (some 72) rfl rfl Try.func62 (by kernel_rfl) rfl #[.slice Ao70 y269.length co70] rfl (by (try simp only [List.map_toArray, List.map_cons, List.map_nil]); first | done | rfl | (simp only [List.length_drop, List.length_take]; rfl)) ?_; (with_reducible refine (tag_Take.calls kj63 _ _ y269 t273 t274 t275 t276 t277 _ ?side1 ?side2 A78.out).mono ?_); (case side1 => repeat (first | exact (by repeat (first | (with_reducible exact HR272.out) | (with_reducible refine Kd.C_alloc ?_ _) | (with_reducible refine Kd.C_drewN ?_ _) | (with_reducible refine Kd.C_drew ?_) | exact HR272.out)) | (with_reducible refine Kd.C_alloc ?_ _) | (with_reducible refine Kd.C_drewN ?_ _) | (with_reducible refine Kd.C_drew ?_))); (case side2 => exact HC272.out); rintro e w104 ⟨rfl, hb⟩; refine ⟨_, rfl, ?_⟩; have n0_ := ak_ (Kd.R_below (by (with_reducible repeat (first | apply Kd.R_alloc | apply Kd.R_drewN | apply Kd.R_drew)); exact HO_4.out) hb); have n1_ := ak_ (Kd.R_below (by (with_reducible repeat (first | apply Kd.R_alloc | apply Kd.R_drewN | apply Kd.R_drew)); exact HO_11.out) hb); have n2_ := ak_ (blk_below (g := gb226) (o := .cells #[.int .i64 a0_0, .int .i64 a0_1, .int .i64 a0_2, .int .i64 a0_3, .int .i64 a0_4, .int .i64 a0_5, .int .i64 a0_6] 23 (0, 0)) (by (with_reducible repeat (first | apply blk_drewN | apply blk_drew | apply blk_alloc)); exact BK226.out) hb); have n3_ := ak_ (blk_below (g := gb227) (o := .cells #[.int .i64 x228000_63, .int .i64 x228001_63, .int .i64 x228002_63, .int .i64 x228003_63] 26 (0, 0)) (by (with_reducible repeat (first | apply blk_drewN | apply blk_drew | apply blk_alloc)); exact BK227.out) hb); have n4_ := ak_ (blk_below (g := gb237) (o := .cells #[.int .i64 t228, .int .i64 t229, .int .i64 t230, .int .i64 t231, .int .i64 t232, .int .i64 t233, .int .i64 t234, .int .i64 t235] 70 (0, 0)) (by (with_reducible repeat (first | apply blk_drewN | apply blk_drew | apply blk_alloc)); exact BK237.out) hb); have n5_ := ak_ (Kd.C_below (by repeat (first | (with_reducible exact HR272.out) | (with_reducible refine Kd.C_alloc ?_ _) | (with_reducible refine Kd.C_drewN ?_ _) | (with_reducible refine Kd.C_drew ?_) | exact HR272.out)) hb); have n6_ := ak_ (below_step (by repeat (first | (with_reducible first | exact HB.out | apply below_alloc | apply pw_below_drewN | apply below_drew1 | refine below_set ?_ GE226.out | refine below_set ?_ GE227.out | refine below_set ?_ GE237.out) | exact HB.out)) hb); clear HO_4; clear HO_11; clear BK226; clear BK227; clear BK237; clear HR272; clear HB; have HO_4 := n0_; have HO_11 := n1_; have BK226 := n2_; have BK227 := n3_; have BK237 := n4_; have HR272 := n5_; have HB := n6_; clear n0_ n1_ n2_ n3_ n4_ n5_ n6_; (try clear hb); (try clear hb2); (try clear hk); (try clear hi); have hnb105 := NB227_226.out; have hnc105 := NB226_227.out; have hnb106 := NB227_237.out; have hnc106 := NB237_227.out; have hcz107_0 : w104.cell? ⟨gb227, 0, none⟩ = some (.int .i64 x228000_63) := (blk_cell BK227.out 0).trans rfl; have hcz107_1 : w104.cell? ⟨gb227, 1, none⟩ = some (.int .i64 x228001_63) := (blk_cell BK227.out 1).trans rfl; have hcz107_2 : w104.cell? ⟨gb227, 2, none⟩ = some (.int .i64 x228002_63) := (blk_cell BK227.out 2).trans rfl; have hcz107_3 : w104.cell? ⟨gb227, 3, none⟩ = some (.int .i64 x228003_63) := (blk_cell BK227.out 3).trans rfl; have hfz107_0 := blk_frozen BK227.out 0; have hfz107_1 := blk_frozen BK227.out 1; have hfz107_2 := blk_frozen BK227.out 2; have hfz107_3 := blk_frozen BK227.out 3))
                 refine bodyPost_ret (results_list (rs := [.tmp 4, .cell 5 26, .tmp 6, .tmp 7]) rfl (by simp) (.tmp (.cell gb227 26 #[.int .i64 0, .int .i64 0, .int .i64 0, .int .i64 0] (0, 0) _ rfl (by (with_reducible repeat (first | apply blk_drewN | apply blk_drew | apply blk_alloc)); refine blk_put (cs := #[.int .i64 0, .int .i64 0, .int .i64 0, .int .i64 t276]) ?_ 3 _ rfl; (with_reducible repeat (first | apply blk_drewN | apply blk_drew | apply blk_alloc)); refine blk_put (cs := #[.int .i64 0, .int .i64 0, .int .i64 t275, .int .i64 t276]) ?_ 2 _ rfl; (with_reducible repeat (first | apply blk_drewN | apply blk_drew | apply blk_alloc)); refine blk_put (cs := #[.int .i64 0, .int .i64 t274, .int .i64 t275, .int .i64 t276]) ?_ 1 _ rfl; (with_reducible repeat (first | apply blk_drewN | apply blk_drew | apply blk_alloc)); refine blk_put (cs := #[.int .i64 t273, .int .i64 t274, .int .i64 t275, .int .i64 t276]) ?_ 0 _ rfl; (with_reducible repeat (first | apply blk_drewN | apply blk_drew | apply blk_alloc)); refine blk_put (cs := #[.int .i64 t273, .int .i64 t274, .int .i64 t275, .int .i64 x228003_63]) ?_ 3 _ rfl; (with_reducible repeat (first | apply blk_drewN | apply blk_drew | apply blk_alloc)); refine blk_put (cs := #[.int .i64 t273, .int .i64 t274, .int .i64 x228002_63, .int .i64 x228003_63]) ?_ 2 _ rfl; (with_reducible repeat (first | apply blk_drewN | apply blk_drew | apply blk_alloc)); refine blk_put (cs := #[.int .i64 t273, .int .i64 x228001_63, .int .i64 x228002_63, .int .i64 x228003_63]) ?_ 1 _ rfl; (with_reducible repeat (first | apply blk_drewN | apply blk_drew | apply blk_alloc)); refine blk_put (cs := #[.int .i64 x228000_63, .int .i64 x228001_63, .int .i64 x228002_63, .int .i64 x228003_63]) ?_ 0 _ rfl; (with_reducible repeat (first | apply blk_drewN | apply blk_drew | apply blk_alloc)); exact BK227.out) Try.underlying26 rfl (by kernel_rfl) (.tmp (.tmp .nil))))) rfl ?_
                 exact ⟨_, by first | rfl | (simp [errW_none, errW_some] <;> rfl) | (simp [*, errW_none, errW_some] <;> rfl), by first | exact Kd.R_nil _ _ _ _ _ | exact Kd.N_nil _ _ _ _ _ | exact Kd.V_nil _ _ _ _ _ | exact Kd.Q_nil _ _ _ _ _ | exact Kd.S_nil _ _ _ _ _, by repeat (first | (with_reducible first | exact HB.out | apply below_alloc | apply pw_below_drewN | apply below_drew1 | refine below_set ?_ GE226.out | refine below_set ?_ GE227.out | refine below_set ?_ GE237.out) | exact HB.out)⟩
               ·rw [if_neg c77] at H
                exact absurd H (by simp)
            ·rw [if_neg c62] at H
             exact absurd H (by simp)
           ·rw [if_neg c61] at H
            exact absurd H (by simp)
end Go.Proofs.Ytmehbabchakkpaa.QLadderSame
