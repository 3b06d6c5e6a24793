-- Written by my program pp.py for this claim
import Derived.Test.YtpabehkdedhncaaQBadBackx0
import Derived.Test.YtpabehkdedhncaaQBadBackx2
import Derived.Test.YtpabehkdedhncaaQBadBackx3
import Derived.Test.YtpabehkdedhncaaQBadBackx4
namespace Go.Proofs.Ytpabehkdedhncaa.QBadBack
open Go.RowKit Go.Proofs.YtpabehkdedhncaaW.PrintWords Go.Proofs.YtpabehkdedhncaaW.PrintLast Go.Proofs.YtpabehkdedhncaaW.PrintMore
attribute [local go_sem] max2_int min2_int max_two min_two max_three min_three max_four min_four   -- for this text's walks alone
set_option linter.unusedVariables false
set_option linter.unusedSimpArgs false

/-! ### bad_Take: function 40 -/
theorem cutlen_ {xs : List Int} {a b : Nat} (h : b ≤ xs.length) : ((xs.take b).drop a).length = b - a := by
  rw [List.length_drop, List.length_take]
  omega
mutual
def bad_Take.j0 : Nat → List Int → List Int → List Int → Bool → Option (Int × List Int × Int)
  | 0, _, _, _, _ => none
  | k + 1, x0, x3, x5, x41 => if x41 = true then (some (0, ([] : List Int), 11)) else (if 1 < (x5.length : Int) then (bad_Take.l0 k x0 x3 x5 (rd x5 1) 0) else (none))
def bad_Take.l0 : Nat → List Int → List Int → List Int → Int → Int → Option (Int × List Int × Int)
  | 0, _, _, _, _, _ => none
  | k + 1, x0, x3, x5, x44, x45 => if x45 < x44 then (if 0 ≤ (wrap64 (10 + (wrap64 (2 * x45)))) then (if (wrap64 (10 + (wrap64 (2 * x45)))) ≤ (wrap64 ((wrap64 (10 + (wrap64 (2 * x45)))) + 2)) then (if (wrap64 ((wrap64 (10 + (wrap64 (2 * x45)))) + 2)) ≤ (x0.length : Int) then ((pack_Take.f k (([2] : List Int)) ((x0.take ((wrap64 ((wrap64 (10 + (wrap64 (2 * x45)))) + 2)) : Int).toNat).drop ((wrap64 (10 + (wrap64 (2 * x45)))) : Int).toNat)).bind fun bt208 => (if x3.length + bt208.1.length < 17592186044416 then (bad_Take.l0 k x0 (x3 ++ bt208.1) x5 x44 (wrap64 (x45 + 1))) else (none))) else (none)) else (none)) else (none)) else (if 1 < (x5.length : Int) then (if 0 ≤ (wrap64 (10 + (wrap64 (2 * (rd x5 1))))) then (if (wrap64 (10 + (wrap64 (2 * (rd x5 1))))) ≤ (wrap64 ((x0.length : Int) - 4)) then (if (wrap64 ((x0.length : Int) - 4)) ≤ (x0.length : Int) then (bad_Take.l1 k x3 x5 ((x0.take ((wrap64 ((x0.length : Int) - 4)) : Int).toNat).drop ((wrap64 (10 + (wrap64 (2 * (rd x5 1))))) : Int).toNat) (((x0.take ((wrap64 ((x0.length : Int) - 4)) : Int).toNat).drop ((wrap64 (10 + (wrap64 (2 * (rd x5 1))))) : Int).toNat).length : Int) 0) else (none)) else (none)) else (none)) else (none))
def bad_Take.l1 : Nat → List Int → List Int → List Int → Int → Int → Option (Int × List Int × Int)
  | 0, _, _, _, _, _ => none
  | k + 1, x3, x5, x75, x76, x77 => if x77 < x76 then (if 0 ≤ x77 then (if x77 < (x75.length : Int) then (if (rd x75 x77) = 0 then (bad_Take.l1 k x3 x5 x75 x76 (wrap64 (x77 + 1))) else (some (0, ([] : List Int), 11))) else (none)) else (none)) else (if 0 < (x5.length : Int) then ((bad_may.f k (rd x5 0) x3).bind fun t219 => (if t219 = true then (some (rd x5 0, x3, 0)) else (some (0, ([] : List Int), 11)))) else (none))
end
def bad_Take.f (k : Nat) (l0 : List Int) : Option (Int × List Int × Int) := if (l0.length : Int) < 14 then (some (0, ([] : List Int), 10)) else ((crc_Check.f k l0).bind fun t192 => (if t192 = true then (if 10 ≤ (l0.length : Int) then ((pack_Take.f k (([8, 2] : List Int)) (l0.take 10)).bind fun bt197 => (if bt197.2 = 0 then (if 1 < (bt197.1.length : Int) then (if (rd bt197.1 1) > (wrap64 (Int.tdiv (wrap64 ((l0.length : Int) - 14)) 2)) then (bad_Take.j0 k l0 ([] : List Int) bt197.1 true) else (bad_Take.j0 k l0 ([] : List Int) bt197.1 (decide ((rd bt197.1 1) > 256)))) else (none)) else (bad_Take.j0 k l0 ([] : List Int) bt197.1 true))) else (none)) else (some (0, ([] : List Int), 12))))
theorem bad_Take.mono_l : ∀ k, (∀ y0 y1 y2 y3, LeO (bad_Take.j0 k y0 y1 y2 y3) (bad_Take.j0 (k + 1) y0 y1 y2 y3)) ∧ (∀ y0 y1 y2 y3 y4, LeO (bad_Take.l0 k y0 y1 y2 y3 y4) (bad_Take.l0 (k + 1) y0 y1 y2 y3 y4)) ∧ (∀ y0 y1 y2 y3 y4, LeO (bad_Take.l1 k y0 y1 y2 y3 y4) (bad_Take.l1 (k + 1) y0 y1 y2 y3 y4))
  | 0 => ⟨fun _ _ _ _ r h => by simp [bad_Take.j0] at h, fun _ _ _ _ _ r h => by simp [bad_Take.l0] at h, fun _ _ _ _ _ r h => by simp [bad_Take.l1] at h⟩
  | k + 1 => by
    obtain ⟨ih0, ih1, ih2⟩ := bad_Take.mono_l k
    refine ⟨?_, ?_, ?_⟩
    · intro y0 y1 y2 y3
      unfold bad_Take.j0
      repeat' first
      | (with_reducible exact ih0 _ _ _ _)
      | (with_reducible exact ih1 _ _ _ _ _)
      | (with_reducible exact ih2 _ _ _ _ _)
      | (with_reducible exact bad_may.mono _ _ _)
      | (with_reducible exact crc_Check.mono _ _)
      | (with_reducible exact pack_Take.mono _ _ _)
      | (with_reducible exact LeO.refl _)
      | (with_reducible exact LeO.none _)
      | (with_reducible refine LeO.ite ?_ ?_)
      | (with_reducible refine LeO.bind ?_ (fun _ => ?_))
      | exact ih0 _ _ _ _
      | exact ih1 _ _ _ _ _
      | exact ih2 _ _ _ _ _
      | exact bad_may.mono _ _ _
      | exact crc_Check.mono _ _
      | exact pack_Take.mono _ _ _
      | exact LeO.none _
      | refine LeO.ite ?_ ?_
      | refine LeO.bind ?_ (fun _ => ?_)
    · intro y0 y1 y2 y3 y4
      unfold bad_Take.l0
      repeat' first
      | (with_reducible exact ih0 _ _ _ _)
      | (with_reducible exact ih1 _ _ _ _ _)
      | (with_reducible exact ih2 _ _ _ _ _)
      | (with_reducible exact bad_may.mono _ _ _)
      | (with_reducible exact crc_Check.mono _ _)
      | (with_reducible exact pack_Take.mono _ _ _)
      | (with_reducible exact LeO.refl _)
      | (with_reducible exact LeO.none _)
      | (with_reducible refine LeO.ite ?_ ?_)
      | (with_reducible refine LeO.bind ?_ (fun _ => ?_))
      | exact ih0 _ _ _ _
      | exact ih1 _ _ _ _ _
      | exact ih2 _ _ _ _ _
      | exact bad_may.mono _ _ _
      | exact crc_Check.mono _ _
      | exact pack_Take.mono _ _ _
      | exact LeO.none _
      | refine LeO.ite ?_ ?_
      | refine LeO.bind ?_ (fun _ => ?_)
    · intro y0 y1 y2 y3 y4
      unfold bad_Take.l1
      repeat' first
      | (with_reducible exact ih0 _ _ _ _)
      | (with_reducible exact ih1 _ _ _ _ _)
      | (with_reducible exact ih2 _ _ _ _ _)
      | (with_reducible exact bad_may.mono _ _ _)
      | (with_reducible exact crc_Check.mono _ _)
      | (with_reducible exact pack_Take.mono _ _ _)
      | (with_reducible exact LeO.refl _)
      | (with_reducible exact LeO.none _)
      | (with_reducible refine LeO.ite ?_ ?_)
      | (with_reducible refine LeO.bind ?_ (fun _ => ?_))
      | exact ih0 _ _ _ _
      | exact ih1 _ _ _ _ _
      | exact ih2 _ _ _ _ _
      | exact bad_may.mono _ _ _
      | exact crc_Check.mono _ _
      | exact pack_Take.mono _ _ _
      | exact LeO.none _
      | refine LeO.ite ?_ ?_
      | refine LeO.bind ?_ (fun _ => ?_)
theorem bad_Take.mono : ∀ a0 k, LeO (bad_Take.f k a0) (bad_Take.f (k + 1) a0) := by
  intro a0 k
  obtain ⟨ih0, ih1, ih2⟩ := bad_Take.mono_l k
  unfold bad_Take.f
  repeat' first
      | (with_reducible exact ih0 _ _ _ _)
      | (with_reducible exact ih1 _ _ _ _ _)
      | (with_reducible exact ih2 _ _ _ _ _)
      | (with_reducible exact bad_may.mono _ _ _)
      | (with_reducible exact crc_Check.mono _ _)
      | (with_reducible exact pack_Take.mono _ _ _)
      | (with_reducible exact LeO.refl _)
      | (with_reducible exact LeO.none _)
      | (with_reducible refine LeO.ite ?_ ?_)
      | (with_reducible refine LeO.bind ?_ (fun _ => ?_))
      | exact ih0 _ _ _ _
      | exact ih1 _ _ _ _ _
      | exact ih2 _ _ _ _ _
      | exact bad_may.mono _ _ _
      | exact crc_Check.mono _ _
      | exact pack_Take.mono _ _ _
      | exact LeO.none _
      | refine LeO.ite ?_ ?_
      | refine LeO.bind ?_ (fun _ => ?_)
set_option maxHeartbeats 8000000 in
set_option maxRecDepth 100000 in
theorem bad_Take.calls (k : Nat) (A0 : Option Addr) (c0 : Nat) (l0 : List Int) (r1 : Int) (r2 : List Int) (r3 : Int) (w : World) (hr0 : Kd.C (Kd.int .u8) w A0 l0.length l0) (hc0 : l0.length ≤ c0) (h : bad_Take.f k l0 = some (r1, r2, r3)) :
    Calls Try.prog 40 #[.slice A0 l0.length c0] w fun e w' => ∃ v1_ : Value, e = .returned (.tuple #[.int .i64 r1, v1_, .int .i64 r3]) ∧ Kd.R (Kd.int .i64) 3 w' w.heap.size (fun _ => True) v1_ r2 ∧ Below w.heap.size w w' := by
  have HR0 := Aside0.mk hr0
  have HC0 := Aside0.mk hc0
  clear hr0 hc0
  have HB := Aside0.mk (Below.refl w.heap.size w)
  have H : (if (l0.length : Int) < 14 then (some (0, ([] : List Int), 10)) else ((crc_Check.f k l0).bind fun t192 => (if t192 = true then (if 10 ≤ (l0.length : Int) then ((pack_Take.f k (([8, 2] : List Int)) (l0.take 10)).bind fun bt197 => (if bt197.2 = 0 then (if 1 < (bt197.1.length : Int) then (if (rd bt197.1 1) > (wrap64 (Int.tdiv (wrap64 ((l0.length : Int) - 14)) 2)) then (bad_Take.j0 k l0 ([] : List Int) bt197.1 true) else (bad_Take.j0 k l0 ([] : List Int) bt197.1 (decide ((rd bt197.1 1) > 256)))) else (none)) else (bad_Take.j0 k l0 ([] : List Int) bt197.1 true))) else (none)) else (some (0, ([] : List Int), 12))))) = some (r1, r2, r3) := h
  clear h
  by_cases c2 : (l0.length : Int) < 14
  · rw [if_pos c2] at H
    have c2b0 : decide ((l0.length : Int) < 14) = true := decide_eq_true c2
    have c2b1 : decide (l0.length < 14) = true := decide_eq_true (by omega)
    clear c2
    simp only [Option.some.injEq, Prod.mk.injEq] at H
    obtain ⟨rfl, rfl, rfl⟩ := H
    go_enter Try.func40, Try.ntmps40
    go_wp2
    go_ret3
    exact ⟨_, by first | rfl | (simp [errW_none, errW_some] <;> rfl) | (simp [*, errW_none, errW_some] <;> rfl), by first | exact Kd.R_nil _ _ _ _ _ | exact Kd.N_nil _ _ _ _ _ | exact Kd.V_nil _ _ _ _ _ | exact Kd.Q_nil _ _ _ _ _ | exact Kd.S_nil _ _ _ _ _, by repeat (first | (with_reducible first | exact HB.out | apply below_alloc | apply pw_below_drewN | apply below_drew1) | exact HB.out)⟩
  · rw [if_neg c2] at H
    have c2b0 : decide ((l0.length : Int) < 14) = false := decide_eq_false c2
    have c2b1 : decide (l0.length < 14) = false := decide_eq_false (by omega)
    clear c2
    replace H := Option.bind_eq_some_iff.mp H
    obtain ⟨t192, A30, H⟩ := H
    replace H : (if t192 = true then (if 10 ≤ (l0.length : Int) then ((pack_Take.f k (([8, 2] : List Int)) (l0.take 10)).bind fun bt197 => (if bt197.2 = 0 then (if 1 < (bt197.1.length : Int) then (if (rd bt197.1 1) > (wrap64 (Int.tdiv (wrap64 ((l0.length : Int) - 14)) 2)) then (bad_Take.j0 k l0 ([] : List Int) bt197.1 true) else (bad_Take.j0 k l0 ([] : List Int) bt197.1 (decide ((rd bt197.1 1) > 256)))) else (none)) else (bad_Take.j0 k l0 ([] : List Int) bt197.1 true))) else (none)) else (some (0, ([] : List Int), 12))) = some (r1, r2, r3) := H
    have A3 := Aside0.mk A30
    clear A30
    by_cases c4 : t192 = true
    · subst c4
      have H1 : (if 10 ≤ (l0.length : Int) then ((pack_Take.f k (([8, 2] : List Int)) (l0.take 10)).bind fun bt197 => (if bt197.2 = 0 then (if 1 < (bt197.1.length : Int) then (if (rd bt197.1 1) > (wrap64 (Int.tdiv (wrap64 ((l0.length : Int) - 14)) 2)) then (bad_Take.j0 k l0 ([] : List Int) bt197.1 true) else (bad_Take.j0 k l0 ([] : List Int) bt197.1 (decide ((rd bt197.1 1) > 256)))) else (none)) else (bad_Take.j0 k l0 ([] : List Int) bt197.1 true))) else (none)) = some (r1, r2, r3) := by rw [if_pos rfl] at H; exact H
      clear H
      have H := H1
      clear H1
      obtain ⟨y193, hy193⟩ : ∃ y_ : List Int, y_ = (([8, 2] : List Int)) := ⟨_, rfl⟩
      replace H : (if 10 ≤ (l0.length : Int) then ((pack_Take.f k y193 (l0.take 10)).bind fun bt197 => (if bt197.2 = 0 then (if 1 < (bt197.1.length : Int) then (if (rd bt197.1 1) > (wrap64 (Int.tdiv (wrap64 ((l0.length : Int) - 14)) 2)) then (bad_Take.j0 k l0 ([] : List Int) bt197.1 true) else (bad_Take.j0 k l0 ([] : List Int) bt197.1 (decide ((rd bt197.1 1) > 256)))) else (none)) else (bad_Take.j0 k l0 ([] : List Int) bt197.1 true))) else (none)) = some (r1, r2, r3) := by first | (rw [hy193]; with_reducible exact H) | (have H2_ := (Option.bind_some _ _).symm.trans H; rw [hy193]; with_reducible exact H2_) | (have H2_ := (Option.bind_some _ _).symm.trans H; with_reducible exact H2_) | with_reducible exact H | (rw [hy193]; exact H) | exact H
      have Ny193 := Aside0.mk hy193
      clear hy193
      by_cases c5 : 10 ≤ (l0.length : Int)
      · rw [if_pos c5] at H
        have c5b0 := eq_true c5
        have c5b1 : decide (10 ≤ (l0.length : Int)) = true := decide_eq_true c5
        clear c5
        replace H := Option.bind_eq_some_iff.mp H
        obtain ⟨⟨t197, t200⟩, A60, H⟩ := H
        replace H : (if t200 = 0 then (if 1 < (t197.length : Int) then (if (rd t197 1) > (wrap64 (Int.tdiv (wrap64 ((l0.length : Int) - 14)) 2)) then (bad_Take.j0 k l0 ([] : List Int) t197 true) else (bad_Take.j0 k l0 ([] : List Int) t197 (decide ((rd t197 1) > 256)))) else (none)) else (bad_Take.j0 k l0 ([] : List Int) t197 true)) = some (r1, r2, r3) := H
        have A6 := Aside0.mk A60
        clear A60
        have HC7 := Aside0.mk H
        clear H
        go_enter Try.func40, Try.ntmps40
        go_upto_region 6 with (first | ((with_reducible refine gate_callee (f := 64) rfl ?_); refine goesL_ (some 15) rfl rfl Try.func64 (by kernel_rfl) rfl #[.slice A0 l0.length c0] rfl (by (try simp only [List.map_toArray, List.map_cons, List.map_nil]); first | done | rfl | (simp only [List.length_drop, List.length_take]; rfl)) ?_; (with_reducible refine (crc_Check.calls k (fun k_ => k_ < w.heap.size) _ _ l0 true _ ?side1 A3.out).mono ?_); (case side1 => exact Kd.V_mk HC0.out (Kd.F_below (Kd.C_F (Kd.heap_int .u8) HR0.out) (by repeat (first | (with_reducible first | exact HB.out | apply below_alloc | apply pw_below_drewN | apply below_drew1) | exact HB.out)))); rintro e w8 ⟨rfl, hb⟩; refine ⟨_, rfl, ?_⟩; have n0_ := Aside0.mk (below_step (by repeat (first | (with_reducible first | exact HB.out | apply below_alloc | apply pw_below_drewN | apply below_drew1) | exact HB.out)) hb); clear HB; have HB := n0_; clear n0_; (try clear hb); (try clear hb2); (try clear hk); (try clear hi)) | ((with_reducible refine gate_dst (N := 18) rfl ?_); (try (refine gate_guard (by rfl) ?_; dsimp only)); refine Kd.R_lit (Kd.int .i64) _ 3 ?hg (N := 18) ?hd (xs := ([8, 2] : List Int)) (inner := [.int .i64 8, .int .i64 2]) (ok := fun _ => True) (okp := fun _ => True) ?hr ?hp (fun _ hk => hk) trivial (Below.refl _ _) (Nat.le_refl _) (by simp) ?_; (case hd => rfl); (case hg => rfl); (case hr => first | (go_simp; done) | (go_simp; rfl)); (case hp => exact (Reps.one (show Kd.M (Kd.int .i64) _ _ _ 8 [.int .i64 8] from rfl) (Reps.one (show Kd.M (Kd.int .i64) _ _ _ 2 [.int .i64 2] from rfl) (Reps.none _ _)))); intro v194 w9 ho10 hb hg_ hnew_; clear hg_ hnew_; (first | rw [← Ny193.out] at ho10 | (simp only [Int.reduceToNat] at ho10; rw [← Ny193.out] at ho10)); have n0_ := Aside0.mk (Kd.R_lower ho10 (below_size (by repeat (first | (with_reducible first | exact HB.out | apply below_alloc | apply pw_below_drewN | apply below_drew1) | exact HB.out)))); have n1_ := Aside0.mk (below_step (by repeat (first | (with_reducible first | exact HB.out | apply below_alloc | apply pw_below_drewN | apply below_drew1) | exact HB.out)) hb); clear HB; have HO195 := n0_; have HB := n1_; clear n0_ n1_; clear hb ho10; obtain ⟨i011, hi011, _, hsz11, _⟩ := info_parts info5; obtain ⟨hcut11, hA11, hC11⟩ := print_take_of (P := Try.prog) (Value.int .u8) 0 35 5 .i64 Try.underlying35 hi011 hsz11 A0 c0 l0 10 (by omega) (of_decide_eq_true (by first | (with_reducible assumption) | assumption)) HC0.out; have HR196 := Aside0.mk (Kd.C_of_reads (h1 := fun _ => rfl) (hA11 _ (Kd.reads_of_C HR0.out))); have HC196 := Aside0.mk hC11; clear hA11 hC11 hi011 hsz11; obtain ⟨Ao12, co12, eo12⟩ := Kd.R_slice HO195.out; subst eo12) | ((with_reducible refine gate_callee (f := 55) rfl ?_); refine goesL_ (some 21) rfl rfl Try.func55 (by kernel_rfl) rfl #[.slice Ao12 y193.length co12, .slice A0 (l0.take 10).length c0] rfl (by (try simp only [List.map_toArray, List.map_cons, List.map_nil]); first | done | (rw [show (l0.take 10).length = 10 from (by rw [List.length_take]; have h_ : (10 : Int) ≤ (l0.length : Int) := of_decide_eq_true (by first | (with_reducible assumption) | assumption); omega)] <;> rfl) | rfl | (simp only [List.length_drop, List.length_take]; rfl)) ?_; (with_reducible refine (pack_Take.calls k _ _ y193 (fun k_ => k_ < w.heap.size) _ _ (l0.take 10) t197 t200 _ ?side1 ?side2 ?side3 A6.out).mono ?_); (case side1 => repeat (first | exact (Kd.R_reads' HO195.out).2.2 | (with_reducible refine Kd.C_alloc ?_ _) | (with_reducible refine Kd.C_drewN ?_ _) | (with_reducible refine Kd.C_drew ?_))); (case side2 => exact (Kd.R_reads' HO195.out).2.1); (case side3 => exact Kd.V_mk HC196.out (Kd.F_below (Kd.C_F (Kd.heap_int .u8) HR196.out) (by repeat (first | (with_reducible first | exact HB.out | apply below_alloc | apply pw_below_drewN | apply below_drew1) | exact HB.out)))); rintro e w13 ⟨v198, rfl, ho0, hb⟩; refine ⟨_, rfl, ?_⟩; have n0_ := Aside0.mk (Kd.R_elder' (by (with_reducible repeat (first | apply Kd.R_alloc | apply Kd.R_drewN | apply Kd.R_drew)); exact HO195.out) (Kd.R_base ho0) hb); have n1_ := Aside0.mk (Kd.R_lower (Kd.R_new' (Kd.R_mono (ok' := fun k_ => True) ho0 (fun _ hk_ => trivial)) (Kd.R_lt (by (with_reducible repeat (first | apply Kd.R_alloc | apply Kd.R_drewN | apply Kd.R_drew)); exact HO195.out))) (below_size (by repeat (first | (with_reducible first | exact HB.out | apply below_alloc | apply pw_below_drewN | apply below_drew1) | exact HB.out)))); have n2_ := Aside0.mk (below_step (by repeat (first | (with_reducible first | exact HB.out | apply below_alloc | apply pw_below_drewN | apply below_drew1) | exact HB.out)) hb); clear HO195; clear HB; have HO195 := n0_; have HO199 := n1_; have HB := n2_; clear n0_ n1_ n2_; (try clear hb); (try clear hb2); (try clear hk); (try clear hi); (try clear ho0)))
        (try simp only [Act.put, List.setIfInBounds_toArray, List.set_cons_zero, List.set_cons_succ])
        go_cut [41] (fun v41 wc => ∃ (kq : Nat) (x41_6 : Bool), v41 = .bool x41_6 ∧ Aside0 (bad_Take.j0 kq l0 ([] : List Int) t197 x41_6 = some (r1, r2, r3)) ∧ Aside0 (kq ≤ k) ∧ Aside0 (Kd.R (Kd.int .i64) 3 wc w.heap.size (fun k_ => some k_ ≠ (v198 : Value).ownBlock) (.slice none 0 0) ([] : List Int)) ∧ Aside0 (Kd.R (Kd.int .i64) 3 wc w.heap.size (fun k_ => some k_ ≠ ((.slice none 0 0) : Value).ownBlock) v198 t197) ∧ Aside0 (Below w.heap.size w wc))
        case first =>
          have H := HC7.out
          clear HC7
          by_cases c14 : t200 = 0
          · rw [if_pos c14] at H
            have c14b0 : (t200 == 0) = true := beq_iff_eq.mpr c14
            have c14b1 : (t200 != 0) = false := bne_eq_false_iff_eq.mpr c14
            clear c14
            (first | rw [c14b0] | (simp only [i64_w, i32_w]; rw [c14b0]) | skip)
            by_cases c15 : 1 < (t197.length : Int)
            · rw [if_pos c15] at H
              have c15b0 : decide (1 < (t197.length : Int)) = true := decide_eq_true c15
              have c15b1 : decide (1 < t197.length) = true := decide_eq_true (by omega)
              clear c15
              by_cases c16 : (rd t197 1) > (wrap64 (Int.tdiv (wrap64 ((l0.length : Int) - 14)) 2))
              · rw [if_pos c16] at H
                have c16b0 : decide ((wrap64 (Int.tdiv (wrap64 ((l0.length : Int) - 14)) 2)) < (rd t197 1)) = true := decide_eq_true c16
                clear c16
                have H' := Aside0.mk H
                clear H
                obtain ⟨Ao17, co17, eo17⟩ := Kd.R_slice HO199.out
                subst eo17
                have p201 : 0 ≤ (1 : Int) := (by omega)
                have q201 : 1 < (t197.length : Int) := of_decide_eq_true (by first | (with_reducible assumption) | assumption)
                obtain ⟨ad201, e201, hx201_0⟩ := Kd.at_int (Kd.R_reads' HO199.out).2.2 1 p201 q201
                cases e201
                (try simp only [show (1 : Int).toNat = 1 from rfl, Nat.reduceMul, Nat.reduceEqDiff, Go.Addr.add, ↓reduceIte] at hx201_0)
                have qi201 : (1 < t197.length) = True := eq_true (by omega)
                (try rw [show ((1 : Int)).toNat = 1 from rfl] at hx201_0)
                replace p201 := eq_true p201
                replace q201 := eq_true q201
                go_wp2
                go_meet
                case rel => exact ⟨_, (true), (by first | rfl | (simp; done) | (simp [*]; done)), H', ⟨by first | omega | exact Nat.le_refl _⟩, ⟨by first | exact Kd.R_nil _ _ _ _ _ | exact Kd.N_nil _ _ _ _ _ | exact Kd.V_nil _ _ _ _ _ | exact Kd.Q_nil _ _ _ _ _ | exact Kd.S_nil _ _ _ _ _⟩, ⟨by (with_reducible repeat (first | apply Kd.R_alloc | apply Kd.R_drewN | apply Kd.R_drew)); exact Kd.R_mono HO199.out (fun _ hk => (by simp [Value.ownBlock]))⟩, ⟨by repeat (first | (with_reducible first | exact HB.out | apply below_alloc | apply pw_below_drewN | apply below_drew1) | exact HB.out)⟩⟩
              · rw [if_neg c16] at H
                have c16b0 : decide ((wrap64 (Int.tdiv (wrap64 ((l0.length : Int) - 14)) 2)) < (rd t197 1)) = false := decide_eq_false c16
                clear c16
                have H' := Aside0.mk H
                clear H
                obtain ⟨Ao18, co18, eo18⟩ := Kd.R_slice HO199.out
                subst eo18
                have p201 : 0 ≤ (1 : Int) := (by omega)
                have q201 : 1 < (t197.length : Int) := of_decide_eq_true (by first | (with_reducible assumption) | assumption)
                obtain ⟨ad201, e201, hx201_0⟩ := Kd.at_int (Kd.R_reads' HO199.out).2.2 1 p201 q201
                cases e201
                (try simp only [show (1 : Int).toNat = 1 from rfl, Nat.reduceMul, Nat.reduceEqDiff, Go.Addr.add, ↓reduceIte] at hx201_0)
                have qi201 : (1 < t197.length) = True := eq_true (by omega)
                (try rw [show ((1 : Int)).toNat = 1 from rfl] at hx201_0)
                replace p201 := eq_true p201
                replace q201 := eq_true q201
                have p202 : 0 ≤ (1 : Int) := (by omega)
                have q202 : 1 < (t197.length : Int) := of_decide_eq_true (by first | (with_reducible assumption) | assumption)
                obtain ⟨ad202, e202, hx202_0⟩ := Kd.at_int (Kd.R_reads' HO199.out).2.2 1 p202 q202
                obtain rfl : ad201 = ad202 := (by injection e202)
                (try simp only [show (1 : Int).toNat = 1 from rfl, Nat.reduceMul, Nat.reduceEqDiff, Go.Addr.add, ↓reduceIte] at hx202_0)
                have qi202 : (1 < t197.length) = True := eq_true (by omega)
                (try rw [show ((1 : Int)).toNat = 1 from rfl] at hx202_0)
                replace p202 := eq_true p202
                replace q202 := eq_true q202
                go_wp2
                go_meet
                case rel => exact ⟨_, (decide ((rd t197 1) > 256)), (by first | rfl | (simp; done) | (simp [*]; done)), H', ⟨by first | omega | exact Nat.le_refl _⟩, ⟨by first | exact Kd.R_nil _ _ _ _ _ | exact Kd.N_nil _ _ _ _ _ | exact Kd.V_nil _ _ _ _ _ | exact Kd.Q_nil _ _ _ _ _ | exact Kd.S_nil _ _ _ _ _⟩, ⟨by (with_reducible repeat (first | apply Kd.R_alloc | apply Kd.R_drewN | apply Kd.R_drew)); exact Kd.R_mono HO199.out (fun _ hk => (by simp [Value.ownBlock]))⟩, ⟨by repeat (first | (with_reducible first | exact HB.out | apply below_alloc | apply pw_below_drewN | apply below_drew1) | exact HB.out)⟩⟩
            · rw [if_neg c15] at H
              exact absurd H (by simp)
          · rw [if_neg c14] at H
            have c14b0 : (t200 == 0) = false := beq_eq_false_iff_ne.mpr c14
            have c14b1 : (t200 != 0) = true := bne_iff_ne.mpr c14
            (first | rw [c14b0] | (simp only [i64_w, i32_w]; rw [c14b0]) | skip)
            have H' := Aside0.mk H
            clear H
            go_wp2
            go_meet
            case rel => exact ⟨_, (true), (by first | rfl | (simp; done) | (simp [*]; done)), H', ⟨by first | omega | exact Nat.le_refl _⟩, ⟨by first | exact Kd.R_nil _ _ _ _ _ | exact Kd.N_nil _ _ _ _ _ | exact Kd.V_nil _ _ _ _ _ | exact Kd.Q_nil _ _ _ _ _ | exact Kd.S_nil _ _ _ _ _⟩, ⟨by (with_reducible repeat (first | apply Kd.R_alloc | apply Kd.R_drewN | apply Kd.R_drew)); exact Kd.R_mono HO199.out (fun _ hk => (by simp [Value.ownBlock]))⟩, ⟨by repeat (first | (with_reducible first | exact HB.out | apply below_alloc | apply pw_below_drewN | apply below_drew1) | exact HB.out)⟩⟩
        case rest =>
          clear HC7
          try clear c1
          try clear c2
          try clear c2b0
          try clear c2b1
          try clear p2
          try clear q2
          try clear hx2
          try clear qi2
          try clear c4
          try clear c5
          try clear c5b0
          try clear c5b1
          try clear c6
          try clear p6
          try clear c14
          try clear c14b0
          try clear c14b1
          try clear c15
          try clear c15b0
          try clear c15b1
          try clear c16
          try clear c16b0
          try clear hx201_0
          try clear hx202_0
          try clear p201
          try clear p202
          try clear q201
          try clear q202
          obtain ⟨kq, x41_6, rfl, HA, HJ6, HO_3, HO_5, HB⟩ := hcut
          cases kq with
          | zero => exact absurd HA.out (by simp [bad_Take.j0])
          | succ kj6 =>
            have H := HA.out
            clear HA
            simp only [bad_Take.j0] at H
            by_cases c19 : x41_6 = true
            · subst c19
              have H1 : (some (0, ([] : List Int), 11)) = some (r1, r2, r3) := by rw [if_pos rfl] at H; exact H
              clear H
              have H := H1
              clear H1
              simp only [Option.some.injEq, Prod.mk.injEq] at H
              obtain ⟨rfl, rfl, rfl⟩ := H
              go_wp2
              go_ret3
              exact ⟨_, by first | rfl | (simp [errW_none, errW_some] <;> rfl) | (simp [*, errW_none, errW_some] <;> rfl), by first | exact Kd.R_nil _ _ _ _ _ | exact Kd.N_nil _ _ _ _ _ | exact Kd.V_nil _ _ _ _ _ | exact Kd.Q_nil _ _ _ _ _ | exact Kd.S_nil _ _ _ _ _, by repeat (first | (with_reducible first | exact HB.out | apply below_alloc | apply pw_below_drewN | apply below_drew1) | exact HB.out)⟩
            · replace c19 := Bool.eq_false_iff.mpr c19
              subst c19
              have H1 : (if 1 < (t197.length : Int) then (bad_Take.l0 kj6 l0 ([] : List Int) t197 (rd t197 1) 0) else (none)) = some (r1, r2, r3) := by rw [if_neg (show ¬ (false = true) by decide)] at H; exact H
              clear H
              have H := H1
              clear H1
              by_cases c20 : 1 < (t197.length : Int)
              · rw [if_pos c20] at H
                have c20b0 : decide (1 < (t197.length : Int)) = true := decide_eq_true c20
                have c20b1 : decide (1 < t197.length) = true := decide_eq_true (by omega)
                clear c20
                have H' := Aside0.mk H
                clear H
                obtain ⟨Ao21, co21, eo21⟩ := Kd.R_slice HO_5.out
                subst eo21
                have p203 : 0 ≤ (1 : Int) := (by omega)
                have q203 : 1 < (t197.length : Int) := of_decide_eq_true (by first | (with_reducible assumption) | assumption)
                obtain ⟨ad203, e203, hx203_0⟩ := Kd.at_int (Kd.R_reads' HO_5.out).2.2 1 p203 q203
                cases e203
                (try simp only [show (1 : Int).toNat = 1 from rfl, Nat.reduceMul, Nat.reduceEqDiff, Go.Addr.add, ↓reduceIte] at hx203_0)
                have qi203 : (1 < t197.length) = True := eq_true (by omega)
                (try rw [show ((1 : Int)).toNat = 1 from rfl] at hx203_0)
                replace p203 := eq_true p203
                replace q203 := eq_true q203
                go_wp2
                go_loopg [3, 45] kj6 (fun kq v3 v45 w' => ∃ (x3_2 : List Int) (x45_2 : Int), v45 = .int .i64 x45_2 ∧ Aside0 (bad_Take.l0 kq l0 x3_2 t197 (rd t197 1) x45_2 = some (r1, r2, r3)) ∧ Aside0 (kq ≤ kj6) ∧ Aside0 (Kd.R (Kd.int .i64) 3 w' w.heap.size (fun k_ => some k_ ≠ ((.slice (some ad203) t197.length co21) : Value).ownBlock) v3 x3_2) ∧ Aside0 (Kd.R (Kd.int .i64) 3 w' w.heap.size (fun k_ => some k_ ≠ (v3 : Value).ownBlock) (.slice (some ad203) t197.length co21) t197) ∧ Aside0 (Below w.heap.size w w'))
                case atStart => exact ⟨(([] : List Int)), (0), (by first | rfl | (simp; done) | (simp [*]; done)), H', ⟨Nat.le_refl _⟩, ⟨by (with_reducible repeat (first | apply Kd.R_alloc | apply Kd.R_drewN | apply Kd.R_drew)); exact HO_3.out⟩, ⟨by (with_reducible repeat (first | apply Kd.R_alloc | apply Kd.R_drewN | apply Kd.R_drew)); exact HO_5.out⟩, ⟨by repeat (first | (with_reducible first | exact HB.out | apply below_alloc | apply pw_below_drewN | apply below_drew1) | exact HB.out)⟩⟩
                case round =>
                  clear H'
                  try clear c1
                  try clear c2
                  try clear c2b0
                  try clear c2b1
                  try clear p2
                  try clear q2
                  try clear hx2
                  try clear qi2
                  try clear c4
                  try clear c5
                  try clear c5b0
                  try clear c5b1
                  try clear c6
                  try clear p6
                  try clear c14
                  try clear c14b0
                  try clear c14b1
                  try clear c15
                  try clear c15b0
                  try clear c15b1
                  try clear c16
                  try clear c16b0
                  try clear c19
                  try clear c20
                  try clear c20b0
                  try clear c20b1
                  try clear p20
                  try clear q20
                  try clear hx20
                  try clear qi20
                  try clear hx201_0
                  try clear hx202_0
                  try clear hx203_0
                  try clear p2
                  try clear p201
                  try clear p202
                  try clear p203
                  try clear p6
                  try clear q2
                  try clear q201
                  try clear q202
                  try clear q203
                  obtain ⟨x3_2, x45_2, rfl, HA, HK2, HO_3, HO_5, HB⟩ := hrel
                  cases gk with
                  | zero => exact absurd HA.out (by simp [bad_Take.l0])
                  | succ k2 =>
                    have H := HA.out
                    clear HA
                    simp only [bad_Take.l0] at H
                    by_cases c22 : x45_2 < (rd t197 1)
                    · rw [if_pos c22] at H
                      have c22b0 : decide (x45_2 < (rd t197 1)) = true := decide_eq_true c22
                      clear c22
                      obtain ⟨y204, hy204⟩ : ∃ y_ : List Int, y_ = (([2] : List Int)) := ⟨_, rfl⟩
                      replace H : (if 0 ≤ (wrap64 (10 + (wrap64 (2 * x45_2)))) then (if (wrap64 (10 + (wrap64 (2 * x45_2)))) ≤ (wrap64 ((wrap64 (10 + (wrap64 (2 * x45_2)))) + 2)) then (if (wrap64 ((wrap64 (10 + (wrap64 (2 * x45_2)))) + 2)) ≤ (l0.length : Int) then ((pack_Take.f k2 y204 ((l0.take ((wrap64 ((wrap64 (10 + (wrap64 (2 * x45_2)))) + 2)) : Int).toNat).drop ((wrap64 (10 + (wrap64 (2 * x45_2)))) : Int).toNat)).bind fun bt208 => (if x3_2.length + bt208.1.length < 17592186044416 then (bad_Take.l0 k2 l0 (x3_2 ++ bt208.1) t197 (rd t197 1) (wrap64 (x45_2 + 1))) else (none))) else (none)) else (none)) else (none)) = some (r1, r2, r3) := by first | (rw [hy204]; with_reducible exact H) | (have H2_ := (Option.bind_some _ _).symm.trans H; rw [hy204]; with_reducible exact H2_) | (have H2_ := (Option.bind_some _ _).symm.trans H; with_reducible exact H2_) | with_reducible exact H | (rw [hy204]; exact H) | exact H
                      have Ny204 := Aside0.mk hy204
                      clear hy204
                      obtain ⟨ji23, hji23⟩ : ∃ j_ : Int, (wrap64 (10 + (wrap64 (2 * x45_2)))) = j_ := ⟨_, rfl⟩
                      replace H : (if 0 ≤ (ji23) then (if (ji23) ≤ (wrap64 ((ji23) + 2)) then (if (wrap64 ((ji23) + 2)) ≤ (l0.length : Int) then ((pack_Take.f k2 y204 ((l0.take ((wrap64 ((ji23) + 2)) : Int).toNat).drop ((ji23) : Int).toNat)).bind fun bt208 => (if x3_2.length + bt208.1.length < 17592186044416 then (bad_Take.l0 k2 l0 (x3_2 ++ bt208.1) t197 (rd t197 1) (wrap64 (x45_2 + 1))) else (none))) else (none)) else (none)) else (none)) = some (r1, r2, r3) := by first | (rw [hji23] at H; exact H) | (simp only [hji23] at H ⊢; exact H)
                      have hji23w : (IntKind.i64.wrap (10 + (wrap64 (2 * x45_2)))) = ji23 := (i64_w _).trans hji23
                      by_cases c24 : 0 ≤ (ji23)
                      · rw [if_pos c24] at H
                        have c24b0 := eq_true c24
                        have c24b1 : decide (0 ≤ (ji23)) = true := decide_eq_true c24
                        clear c24
                        by_cases c25 : (ji23) ≤ (wrap64 ((ji23) + 2))
                        · rw [if_pos c25] at H
                          have c25b0 := eq_true c25
                          have c25b1 : decide ((ji23) ≤ (wrap64 ((ji23) + 2))) = true := decide_eq_true c25
                          by_cases c26 : (wrap64 ((ji23) + 2)) ≤ (l0.length : Int)
                          · rw [if_pos c26] at H
                            have c26b0 := eq_true c26
                            have c26b1 : decide ((wrap64 ((ji23) + 2)) ≤ (l0.length : Int)) = true := decide_eq_true c26
                            replace H := Option.bind_eq_some_iff.mp H
                            obtain ⟨⟨t208, t211⟩, A270, H⟩ := H
                            replace H : (if x3_2.length + t208.length < 17592186044416 then (bad_Take.l0 k2 l0 (x3_2 ++ t208) t197 (rd t197 1) (wrap64 (x45_2 + 1))) else (none)) = some (r1, r2, r3) := H
                            have A27 := Aside0.mk A270
                            clear A270
                            by_cases c28 : x3_2.length + t208.length < 17592186044416
                            · rw [if_pos c28] at H
                              have LMc28 := Aside0.mk c28
                              clear c28
                              obtain ⟨y212, hy212⟩ : ∃ y_ : List Int, y_ = (x3_2 ++ t208) := ⟨_, rfl⟩
                              replace H : (bad_Take.l0 k2 l0 y212 t197 (rd t197 1) (wrap64 (x45_2 + 1))) = some (r1, r2, r3) := by first | (rw [hy212]; with_reducible exact H) | (have H2_ := (Option.bind_some _ _).symm.trans H; rw [hy212]; with_reducible exact H2_) | (have H2_ := (Option.bind_some _ _).symm.trans H; with_reducible exact H2_) | with_reducible exact H | (rw [hy212]; exact H) | exact H
                              have Ny212 := Aside0.mk hy212
                              clear hy212
                              have H' := Aside0.mk H
                              clear H
                              go_wp2_with (first | ((with_reducible refine gate_dst (N := 49) rfl ?_); (try (refine gate_guard (by rfl) ?_; dsimp only)); refine Kd.R_lit (Kd.int .i64) _ 3 ?hg (N := 49) ?hd (xs := ([2] : List Int)) (inner := [.int .i64 2]) (ok := fun _ => True) (okp := fun _ => True) ?hr ?hp (fun _ hk => hk) trivial (Below.refl _ _) (Nat.le_refl _) (by simp) ?_; (case hd => rfl); (case hg => rfl); (case hr => first | (go_simp; done) | (go_simp; rfl)); (case hp => exact (Reps.one (show Kd.M (Kd.int .i64) _ _ _ 2 [.int .i64 2] from rfl) (Reps.none _ _))); intro v205 w29 ho30 hb hg_ hnew_; clear hg_ hnew_; (first | rw [← Ny204.out] at ho30 | (simp only [Int.reduceToNat] at ho30; rw [← Ny204.out] at ho30)); have n0_ := Aside0.mk (Kd.R_elder' (by (with_reducible repeat (first | apply Kd.R_alloc | apply Kd.R_drewN | apply Kd.R_drew)); exact HO_3.out) (Kd.R_base ho30) hb); have n1_ := Aside0.mk (Kd.R_elder' (by (with_reducible repeat (first | apply Kd.R_alloc | apply Kd.R_drewN | apply Kd.R_drew)); exact HO_5.out) (Kd.R_base ho30) hb); have n2_ := Aside0.mk (Kd.R_lower (Kd.R_new' (Kd.R_new' ho30 (Kd.R_lt (by (with_reducible repeat (first | apply Kd.R_alloc | apply Kd.R_drewN | apply Kd.R_drew)); exact HO_3.out))) (Kd.R_lt (by (with_reducible repeat (first | apply Kd.R_alloc | apply Kd.R_drewN | apply Kd.R_drew)); exact HO_5.out))) (below_size (by repeat (first | (with_reducible first | exact HB.out | apply below_alloc | apply pw_below_drewN | apply below_drew1) | exact HB.out)))); have n3_ := Aside0.mk (below_step (by repeat (first | (with_reducible first | exact HB.out | apply below_alloc | apply pw_below_drewN | apply below_drew1) | exact HB.out)) hb); clear HO_3; clear HO_5; clear HB; have HO_3 := n0_; have HO_5 := n1_; have HO206 := n2_; have HB := n3_; clear n0_ n1_ n2_ n3_; clear hb ho30; obtain ⟨i031, hi031, _, hsz31, _⟩ := info_parts info5; obtain ⟨A31, hcut31, hA31, hC31⟩ := print_mid_of (P := Try.prog) (Value.int .u8) 0 35 5 .i64 .i64 Try.underlying35 hi031 hsz31 A0 c0 l0 (ji23) (wrap64 ((ji23) + 2)) (of_decide_eq_true (by first | (with_reducible assumption) | assumption)) (by first | omega | exact of_decide_eq_true (by first | (with_reducible assumption) | assumption)) (of_decide_eq_true (by first | (with_reducible assumption) | assumption)) HC0.out; have HR207 := Aside0.mk (Kd.C_of_reads (h1 := fun _ => rfl) (hA31 _ (Kd.reads_of_C HR0.out))); have HC207 := Aside0.mk hC31; clear hA31 hC31 hi031 hsz31; obtain ⟨Ao32, co32, eo32⟩ := Kd.R_slice HO206.out; subst eo32) | ((with_reducible refine gate_callee (f := 55) rfl ?_); refine goesL_ (some 59) rfl rfl Try.func55 (by kernel_rfl) rfl #[.slice Ao32 y204.length co32, .slice A31 ((l0.take ((wrap64 ((ji23) + 2)) : Int).toNat).drop ((ji23) : Int).toNat).length (c0 - (ji23).toNat)] rfl (by (try simp only [List.map_toArray, List.map_cons, List.map_nil]); first | done | (rw [show ((l0.take ((wrap64 ((ji23) + 2)) : Int).toNat).drop ((ji23) : Int).toNat).length = ((wrap64 ((ji23) + 2)).toNat - (ji23).toNat) from (by rw [List.length_drop, List.length_take]; have h_ : ((wrap64 ((ji23) + 2)) : Int) ≤ (l0.length : Int) := of_decide_eq_true (by first | (with_reducible assumption) | assumption); omega)] <;> rfl) | (simp only [hji23]; rfl) | rfl | (simp only [List.length_drop, List.length_take]; rfl)) ?_; (with_reducible refine (pack_Take.calls k2 _ _ y204 (fun k_ => k_ < w.heap.size) _ _ ((l0.take ((wrap64 ((ji23) + 2)) : Int).toNat).drop ((ji23) : Int).toNat) t208 t211 _ ?side1 ?side2 ?side3 A27.out).mono ?_); (case side1 => repeat (first | exact (Kd.R_reads' HO206.out).2.2 | (with_reducible refine Kd.C_alloc ?_ _) | (with_reducible refine Kd.C_drewN ?_ _) | (with_reducible refine Kd.C_drew ?_))); (case side2 => exact (Kd.R_reads' HO206.out).2.1); (case side3 => exact Kd.V_mk HC207.out (Kd.F_below (Kd.C_F (Kd.heap_int .u8) HR207.out) (by repeat (first | (with_reducible first | exact HB.out | apply below_alloc | apply pw_below_drewN | apply below_drew1) | exact HB.out)))); rintro e w33 ⟨v209, rfl, ho0, hb⟩; refine ⟨_, rfl, ?_⟩; have n0_ := Aside0.mk (Kd.R_elder' (by (with_reducible repeat (first | apply Kd.R_alloc | apply Kd.R_drewN | apply Kd.R_drew)); exact HO_3.out) (Kd.R_base ho0) hb); have n1_ := Aside0.mk (Kd.R_elder' (by (with_reducible repeat (first | apply Kd.R_alloc | apply Kd.R_drewN | apply Kd.R_drew)); exact HO_5.out) (Kd.R_base ho0) hb); have n2_ := Aside0.mk (Kd.R_elder' (by (with_reducible repeat (first | apply Kd.R_alloc | apply Kd.R_drewN | apply Kd.R_drew)); exact HO206.out) (Kd.R_base ho0) hb); have n3_ := Aside0.mk (Kd.R_lower (Kd.R_new' (Kd.R_new' (Kd.R_new' (Kd.R_mono (ok' := fun k_ => True) ho0 (fun _ hk_ => trivial)) (Kd.R_lt (by (with_reducible repeat (first | apply Kd.R_alloc | apply Kd.R_drewN | apply Kd.R_drew)); exact HO_3.out))) (Kd.R_lt (by (with_reducible repeat (first | apply Kd.R_alloc | apply Kd.R_drewN | apply Kd.R_drew)); exact HO_5.out))) (Kd.R_lt (by (with_reducible repeat (first | apply Kd.R_alloc | apply Kd.R_drewN | apply Kd.R_drew)); exact HO206.out))) (below_size (by repeat (first | (with_reducible first | exact HB.out | apply below_alloc | apply pw_below_drewN | apply below_drew1) | exact HB.out)))); have n4_ := Aside0.mk (below_step (by repeat (first | (with_reducible first | exact HB.out | apply below_alloc | apply pw_below_drewN | apply below_drew1) | exact HB.out)) hb); clear HO_3; clear HO_5; clear HO206; clear HB; have HO_3 := n0_; have HO_5 := n1_; have HO206 := n2_; have HO210 := n3_; have HB := n4_; clear n0_ n1_ n2_ n3_ n4_; (try clear hb); (try clear hb2); (try clear hk); (try clear hi); (try clear ho0); obtain ⟨Ao35, co35, eo35⟩ := Kd.R_slice HO210.out; subst eo35) | ((with_reducible refine gate_builtin (b := .append) (xs := #[.tmp 62, .tmp 63]) rfl ?_); (try (refine gate_guard (by rfl) ?_; dsimp only)); at_builtin; refine Kd.R_append_rows (Kd.int .i64) (w0 := w) w.heap.size rfl (.tmp 62) (.tmp 63) 22 3 (.int .i64 0) 8 rfl Try.underlying22 info3 rfl (by decide) (by omega) u3 x3_2 t208 _ _ _ (fun k_ => some k_ ≠ (.slice (some ad203) t197.length co21 : Value).ownBlock ∧ some k_ ≠ (.slice Ao32 y204.length co32 : Value).ownBlock ∧ some k_ ≠ (.slice Ao35 t208.length co35 : Value).ownBlock) (fun _ => False) rfl rfl ?aO ?aR (fun _ _ h => h) (fun _ h => h.elim) ?aF ?aB ?aS ?aL ?_; (case aR => repeat (first | exact (Kd.R_reads' HO210.out).2.2 | (with_reducible refine Kd.C_alloc ?_ _) | (with_reducible refine Kd.C_drewN ?_ _) | (with_reducible refine Kd.C_drew ?_))); (case aB => exact (by repeat (first | (with_reducible first | exact HB.out | apply below_alloc | apply pw_below_drewN | apply below_drew1) | exact HB.out))); (case aF => exact (fun k_ hk => ⟨Kd.fresh' (Kd.R_lt (by (with_reducible repeat (first | apply Kd.R_alloc | apply Kd.R_drewN | apply Kd.R_drew)); exact HO_5.out)) k_ hk, Kd.fresh' (Kd.R_lt (by (with_reducible repeat (first | apply Kd.R_alloc | apply Kd.R_drewN | apply Kd.R_drew)); exact HO206.out)) k_ hk, Kd.fresh' (Kd.R_lt (by (with_reducible repeat (first | apply Kd.R_alloc | apply Kd.R_drewN | apply Kd.R_drew)); exact HO210.out)) k_ hk⟩)); (case aO => exact (by (with_reducible repeat (first | apply Kd.R_alloc | apply Kd.R_drewN | apply Kd.R_drew)); exact Kd.R_mono HO_3.out (fun _ hk => by first | exact ⟨hk.1.1, ⟨hk.1.2, hk.2⟩⟩ | exact hk | (simp only [and_assoc, and_comm, and_left_comm] at hk ⊢; exact hk) | grind))); (case aS => exact (below_size (by repeat (first | (with_reducible first | exact HB.out | apply below_alloc | apply pw_below_drewN | apply below_drew1) | exact HB.out)))); (case aL => have := LMc28.out; omega); intro v213 w34 ho hb hg hat; rw [← Ny212.out] at ho; have n0_ := Aside0.mk (Kd.R_after (ok := (fun k_ => some k_ ≠ (.slice Ao32 y204.length co32 : Value).ownBlock ∧ some k_ ≠ (.slice Ao35 t208.length co35 : Value).ownBlock)) (by (with_reducible repeat (first | apply Kd.R_alloc | apply Kd.R_drewN | apply Kd.R_drew)); exact Kd.R_mono HO_5.out (fun _ hk => by first | exact ⟨⟨hk.1.2, hk.2⟩, hk.1.1⟩ | exact hk | (simp only [and_assoc, and_comm, and_left_comm] at hk ⊢; exact hk) | grind)) hg hat); have n1_ := Aside0.mk (Kd.R_after (ok := (fun k_ => some k_ ≠ (.slice (some ad203) t197.length co21 : Value).ownBlock ∧ some k_ ≠ (.slice Ao35 t208.length co35 : Value).ownBlock)) (by (with_reducible repeat (first | apply Kd.R_alloc | apply Kd.R_drewN | apply Kd.R_drew)); exact Kd.R_mono HO206.out (fun _ hk => by first | exact ⟨⟨hk.1.2, hk.2⟩, hk.1.1.2⟩ | exact hk | (simp only [and_assoc, and_comm, and_left_comm] at hk ⊢; exact hk) | grind)) hg hat); have n2_ := Aside0.mk (Kd.R_after (ok := (fun k_ => some k_ ≠ (.slice (some ad203) t197.length co21 : Value).ownBlock ∧ some k_ ≠ (.slice Ao32 y204.length co32 : Value).ownBlock)) (by (with_reducible repeat (first | apply Kd.R_alloc | apply Kd.R_drewN | apply Kd.R_drew)); exact Kd.R_mono HO210.out (fun _ hk => by first | exact ⟨⟨hk.1.2, hk.2⟩, hk.1.1.2⟩ | exact hk | (simp only [and_assoc, and_comm, and_left_comm] at hk ⊢; exact hk) | grind)) hg hat); have n3_ := Aside0.mk (hb); have n4_ := Aside0.mk (ho); clear HO_5; clear HO206; clear HO210; clear HB; clear HO_3; have HO_5 := n0_; have HO206 := n1_; have HO210 := n2_; have HB := n3_; have HO214 := n4_; clear n0_ n1_ n2_ n3_ n4_; clear ho hb hg hat))
                              go_roundg k2
                              case measure => have := HJ6.out; have := HK2.out; omega
                              case rel => exact ⟨(y212), (wrap64 (x45_2 + 1)), (by first | rfl | (simp; done) | (simp [*]; done)), H', ⟨by have := HJ6.out; have := HK2.out; omega⟩, ⟨by (with_reducible repeat (first | apply Kd.R_alloc | apply Kd.R_drewN | apply Kd.R_drew)); exact Kd.R_mono HO214.out (fun _ hk => hk.1)⟩, ⟨by (with_reducible repeat (first | apply Kd.R_alloc | apply Kd.R_drewN | apply Kd.R_drew)); exact Kd.R_mono HO_5.out (fun _ hk => hk.2)⟩, ⟨by repeat (first | (with_reducible first | exact HB.out | apply below_alloc | apply pw_below_drewN | apply below_drew1) | exact HB.out)⟩⟩
                            · rw [if_neg c28] at H
                              exact absurd H (by simp)
                          · rw [if_neg c26] at H
                            exact absurd H (by simp)
                        · rw [if_neg c25] at H
                          exact absurd H (by simp)
                      · rw [if_neg c24] at H
                        exact absurd H (by simp)
                    · rw [if_neg c22] at H
                      have c22b0 : decide (x45_2 < (rd t197 1)) = false := decide_eq_false c22
                      clear c22
                      by_cases c36 : 1 < (t197.length : Int)
                      · rw [if_pos c36] at H
                        have c36b0 : decide (1 < (t197.length : Int)) = true := decide_eq_true c36
                        have c36b1 : decide (1 < t197.length) = true := decide_eq_true (by omega)
                        clear c36
                        obtain ⟨ji37, hji37⟩ : ∃ j_ : Int, (wrap64 (10 + (wrap64 (2 * (rd t197 1))))) = j_ := ⟨_, rfl⟩
                        replace H : (if 0 ≤ (ji37) then (if (ji37) ≤ (wrap64 ((l0.length : Int) - 4)) then (if (wrap64 ((l0.length : Int) - 4)) ≤ (l0.length : Int) then (bad_Take.l1 k2 x3_2 t197 ((l0.take ((wrap64 ((l0.length : Int) - 4)) : Int).toNat).drop ((ji37) : Int).toNat) (((l0.take ((wrap64 ((l0.length : Int) - 4)) : Int).toNat).drop ((ji37) : Int).toNat).length : Int) 0) else (none)) else (none)) else (none)) = some (r1, r2, r3) := by first | (rw [hji37] at H; exact H) | (simp only [hji37] at H ⊢; exact H)
                        have hji37w : (IntKind.i64.wrap (10 + (wrap64 (2 * (rd t197 1))))) = ji37 := (i64_w _).trans hji37
                        by_cases c38 : 0 ≤ (ji37)
                        · rw [if_pos c38] at H
                          have c38b0 := eq_true c38
                          have c38b1 : decide (0 ≤ (ji37)) = true := decide_eq_true c38
                          clear c38
                          by_cases c39 : (ji37) ≤ (wrap64 ((l0.length : Int) - 4))
                          · rw [if_pos c39] at H
                            have c39b0 := eq_true c39
                            have c39b1 : decide ((ji37) ≤ (wrap64 ((l0.length : Int) - 4))) = true := decide_eq_true c39
                            clear c39
                            by_cases c40 : (wrap64 ((l0.length : Int) - 4)) ≤ (l0.length : Int)
                            · rw [if_pos c40] at H
                              have c40b0 := eq_true c40
                              have c40b1 : decide ((wrap64 ((l0.length : Int) - 4)) ≤ (l0.length : Int)) = true := decide_eq_true c40
                              clear c40
                              have H' := Aside0.mk H
                              clear H
                              have p215 : 0 ≤ (1 : Int) := (by omega)
                              have q215 : 1 < (t197.length : Int) := of_decide_eq_true (by first | (with_reducible assumption) | assumption)
                              obtain ⟨ad215, e215, hx215_0⟩ := Kd.at_int (Kd.R_reads' HO_5.out).2.2 1 p215 q215
                              obtain rfl : ad203 = ad215 := (by injection e215)
                              (try simp only [show (1 : Int).toNat = 1 from rfl, Nat.reduceMul, Nat.reduceEqDiff, Go.Addr.add, ↓reduceIte] at hx215_0)
                              have qi215 : (1 < t197.length) = True := eq_true (by omega)
                              (try rw [show ((1 : Int)).toNat = 1 from rfl] at hx215_0)
                              replace p215 := eq_true p215
                              replace q215 := eq_true q215
                              obtain ⟨i041, hi041, _, hsz41, _⟩ := info_parts info5
                              obtain ⟨A41, hcut41, hA41, hC41⟩ := print_mid_of (P := Try.prog) (Value.int .u8) 0 35 5 .i64 .i64 Try.underlying35 hi041 hsz41 A0 c0 l0 (ji37) (wrap64 ((l0.length : Int) - 4)) (of_decide_eq_true (by first | (with_reducible assumption) | assumption)) (by first | omega | exact of_decide_eq_true (by first | (with_reducible assumption) | assumption)) (of_decide_eq_true (by first | (with_reducible assumption) | assumption)) HC0.out
                              have HLEN41 := Aside0.mk (cutlen_ (xs := l0) (a := ((ji37) : Int).toNat) (b := ((wrap64 ((l0.length : Int) - 4)) : Int).toNat) (Int.toNat_le.2 (of_decide_eq_true (by first | (with_reducible assumption) | assumption))))
                              have HR216 := Aside0.mk (Kd.C_of_reads (h1 := fun _ => rfl) (hA41 _ (Kd.reads_of_C HR0.out)))
                              have HC216 := Aside0.mk hC41
                              clear hA41 hC41 hi041 hsz41
                              go_wp2
                              go_loopg [3, 77] k2 (fun kq v3 v77 w' => ∃ (x3_3 : List Int) (x77_3 : Int), v77 = .int .i64 x77_3 ∧ Aside0 (bad_Take.l1 kq x3_3 t197 ((l0.take ((wrap64 ((l0.length : Int) - 4)) : Int).toNat).drop ((ji37) : Int).toNat) (((l0.take ((wrap64 ((l0.length : Int) - 4)) : Int).toNat).drop ((ji37) : Int).toNat).length : Int) x77_3 = some (r1, r2, r3)) ∧ Aside0 (kq ≤ k2) ∧ Aside0 (Kd.R (Kd.int .i64) 3 w' w.heap.size (fun k_ => some k_ ≠ ((.slice (some ad203) t197.length co21) : Value).ownBlock) v3 x3_3) ∧ Aside0 (Kd.R (Kd.int .i64) 3 w' w.heap.size (fun k_ => some k_ ≠ (v3 : Value).ownBlock) (.slice (some ad203) t197.length co21) t197) ∧ Aside0 (Below w.heap.size w w'))
                              case atStart => exact ⟨(x3_2), (0), (by first | rfl | (simp; done) | (simp [*]; done)), H', ⟨Nat.le_refl _⟩, ⟨by (with_reducible repeat (first | apply Kd.R_alloc | apply Kd.R_drewN | apply Kd.R_drew)); exact HO_3.out⟩, ⟨by (with_reducible repeat (first | apply Kd.R_alloc | apply Kd.R_drewN | apply Kd.R_drew)); exact HO_5.out⟩, ⟨by repeat (first | (with_reducible first | exact HB.out | apply below_alloc | apply pw_below_drewN | apply below_drew1) | exact HB.out)⟩⟩
                              case round =>
                                clear H'
                                try clear c1
                                try clear c2
                                try clear c2b0
                                try clear c2b1
                                try clear p2
                                try clear q2
                                try clear hx2
                                try clear qi2
                                try clear c3
                                try clear c4
                                try clear c5
                                try clear c5b0
                                try clear c5b1
                                try clear c6
                                try clear p6
                                try clear c14
                                try clear c14b0
                                try clear c14b1
                                try clear c15
                                try clear c15b0
                                try clear c15b1
                                try clear c16
                                try clear c16b0
                                try clear c19
                                try clear c20
                                try clear c20b0
                                try clear c20b1
                                try clear p20
                                try clear q20
                                try clear hx20
                                try clear qi20
                                try clear p21
                                try clear q21
                                try clear hx21
                                try clear qi21
                                try clear c22
                                try clear c22b0
                                try clear c24
                                try clear c24b0
                                try clear c24b1
                                try clear c25
                                try clear c25b0
                                try clear c25b1
                                try clear c26
                                try clear c26b0
                                try clear c26b1
                                try clear c28
                                try clear c36
                                try clear c36b0
                                try clear c36b1
                                try clear c38
                                try clear c38b0
                                try clear c38b1
                                try clear c39
                                try clear c39b0
                                try clear c39b1
                                try clear c40
                                try clear c40b0
                                try clear c40b1
                                try clear hx201_0
                                try clear hx202_0
                                try clear hx203_0
                                try clear hx215_0
                                try clear p2
                                try clear p20
                                try clear p201
                                try clear p202
                                try clear p203
                                try clear p215
                                try clear p6
                                try clear q2
                                try clear q20
                                try clear q201
                                try clear q202
                                try clear q203
                                try clear q215
                                obtain ⟨x3_3, x77_3, rfl, HA, HK3, HO_3, HO_5, HB⟩ := hrel
                                cases gk with
                                | zero => exact absurd HA.out (by simp [bad_Take.l1])
                                | succ k3 =>
                                  have H := HA.out
                                  clear HA
                                  simp only [bad_Take.l1] at H
                                  by_cases c42 : x77_3 < (((l0.take ((wrap64 ((l0.length : Int) - 4)) : Int).toNat).drop ((ji37) : Int).toNat).length : Int)
                                  · rw [if_pos c42] at H
                                    have c42b0 : decide (x77_3 < (((l0.take ((wrap64 ((l0.length : Int) - 4)) : Int).toNat).drop ((ji37) : Int).toNat).length : Int)) = true := decide_eq_true c42
                                    have c42b9 : decide (x77_3 < ((((wrap64 ((l0.length : Int) - 4)) : Int).toNat - ((ji37) : Int).toNat : Nat) : Int)) = true := by rw [← HLEN41.out]; exact c42b0
                                    have c42b8 : (x77_3 < ((((wrap64 ((l0.length : Int) - 4)) : Int).toNat - ((ji37) : Int).toNat : Nat) : Int)) = True := eq_true (of_decide_eq_true c42b9)
                                    clear c42
                                    by_cases c43 : 0 ≤ x77_3
                                    · rw [if_pos c43] at H
                                      have c43b0 : decide (0 ≤ x77_3) = true := decide_eq_true c43
                                      clear c43
                                      by_cases c44 : x77_3 < (((l0.take ((wrap64 ((l0.length : Int) - 4)) : Int).toNat).drop ((ji37) : Int).toNat).length : Int)
                                      · rw [if_pos c44] at H
                                        have c44b0 : decide (x77_3 < (((l0.take ((wrap64 ((l0.length : Int) - 4)) : Int).toNat).drop ((ji37) : Int).toNat).length : Int)) = true := decide_eq_true c44
                                        have c44b9 : decide (x77_3 < ((((wrap64 ((l0.length : Int) - 4)) : Int).toNat - ((ji37) : Int).toNat : Nat) : Int)) = true := by rw [← HLEN41.out]; exact c44b0
                                        have c44b8 : (x77_3 < ((((wrap64 ((l0.length : Int) - 4)) : Int).toNat - ((ji37) : Int).toNat : Nat) : Int)) = True := eq_true (of_decide_eq_true c44b9)
                                        clear c44
                                        by_cases c45 : (rd ((l0.take ((wrap64 ((l0.length : Int) - 4)) : Int).toNat).drop ((ji37) : Int).toNat) x77_3) = 0
                                        · rw [if_pos c45] at H
                                          have c45b0 : ((rd ((l0.take ((wrap64 ((l0.length : Int) - 4)) : Int).toNat).drop ((ji37) : Int).toNat) x77_3) == 0) = true := beq_iff_eq.mpr c45
                                          have c45b1 : ((rd ((l0.take ((wrap64 ((l0.length : Int) - 4)) : Int).toNat).drop ((ji37) : Int).toNat) x77_3) != 0) = false := bne_eq_false_iff_eq.mpr c45
                                          clear c45
                                          have H' := Aside0.mk H
                                          clear H
                                          have p217 : 0 ≤ (x77_3 : Int) := of_decide_eq_true (by first | (with_reducible assumption) | assumption)
                                          have q217 : x77_3 < (((l0.take ((wrap64 ((l0.length : Int) - 4)) : Int).toNat).drop ((ji37) : Int).toNat).length : Int) := of_decide_eq_true (by first | (with_reducible assumption) | assumption)
                                          obtain ⟨ad217, e217, hx217_0⟩ := Kd.at_int HR216.out x77_3 p217 q217
                                          cases e217
                                          replace hx217_0 := (HB.out.cell (World.block_lt_of_cell? w _ hx217_0)).trans hx217_0
                                          replace p217 := eq_true p217
                                          replace q217 := eq_true q217
                                          go_wp2
                                          go_roundg k3
                                          case measure => have := HJ6.out; have := HK2.out; have := HK3.out; omega
                                          case rel => exact ⟨(x3_3), (wrap64 (x77_3 + 1)), (by first | rfl | (simp; done) | (simp [*]; done)), H', ⟨by have := HJ6.out; have := HK2.out; have := HK3.out; omega⟩, ⟨by (with_reducible repeat (first | apply Kd.R_alloc | apply Kd.R_drewN | apply Kd.R_drew)); exact HO_3.out⟩, ⟨by (with_reducible repeat (first | apply Kd.R_alloc | apply Kd.R_drewN | apply Kd.R_drew)); exact HO_5.out⟩, ⟨by repeat (first | (with_reducible first | exact HB.out | apply below_alloc | apply pw_below_drewN | apply below_drew1) | exact HB.out)⟩⟩
                                        · rw [if_neg c45] at H
                                          have c45b0 : ((rd ((l0.take ((wrap64 ((l0.length : Int) - 4)) : Int).toNat).drop ((ji37) : Int).toNat) x77_3) == 0) = false := beq_eq_false_iff_ne.mpr c45
                                          have c45b1 : ((rd ((l0.take ((wrap64 ((l0.length : Int) - 4)) : Int).toNat).drop ((ji37) : Int).toNat) x77_3) != 0) = true := bne_iff_ne.mpr c45
                                          simp only [Option.some.injEq, Prod.mk.injEq] at H
                                          obtain ⟨rfl, rfl, rfl⟩ := H
                                          have p217 : 0 ≤ (x77_3 : Int) := of_decide_eq_true (by first | (with_reducible assumption) | assumption)
                                          have q217 : x77_3 < (((l0.take ((wrap64 ((l0.length : Int) - 4)) : Int).toNat).drop ((ji37) : Int).toNat).length : Int) := of_decide_eq_true (by first | (with_reducible assumption) | assumption)
                                          obtain ⟨ad217, e217, hx217_0⟩ := Kd.at_int HR216.out x77_3 p217 q217
                                          cases e217
                                          replace hx217_0 := (HB.out.cell (World.block_lt_of_cell? w _ hx217_0)).trans hx217_0
                                          replace p217 := eq_true p217
                                          replace q217 := eq_true q217
                                          go_wp2
                                          go_ret3
                                          exact ⟨_, by first | rfl | (simp [errW_none, errW_some] <;> rfl) | (simp only [← hji37]; first | rfl | (simp [errW_none, errW_some] <;> rfl)) | (simp [*, errW_none, errW_some] <;> rfl), by first | exact Kd.R_nil _ _ _ _ _ | exact Kd.N_nil _ _ _ _ _ | exact Kd.V_nil _ _ _ _ _ | exact Kd.Q_nil _ _ _ _ _ | exact Kd.S_nil _ _ _ _ _, by repeat (first | (with_reducible first | exact HB.out | apply below_alloc | apply pw_below_drewN | apply below_drew1) | exact HB.out)⟩
                                      · rw [if_neg c44] at H
                                        exact absurd H (by simp)
                                    · rw [if_neg c43] at H
                                      exact absurd H (by simp)
                                  · rw [if_neg c42] at H
                                    have c42b0 : decide (x77_3 < (((l0.take ((wrap64 ((l0.length : Int) - 4)) : Int).toNat).drop ((ji37) : Int).toNat).length : Int)) = false := decide_eq_false c42
                                    have c42b9 : decide (x77_3 < ((((wrap64 ((l0.length : Int) - 4)) : Int).toNat - ((ji37) : Int).toNat : Nat) : Int)) = false := by rw [← HLEN41.out]; exact c42b0
                                    have c42b8 : (x77_3 < ((((wrap64 ((l0.length : Int) - 4)) : Int).toNat - ((ji37) : Int).toNat : Nat) : Int)) = False := eq_false (of_decide_eq_false c42b9)
                                    clear c42
                                    by_cases c46 : 0 < (t197.length : Int)
                                    · rw [if_pos c46] at H
                                      have c46b0 : decide (0 < (t197.length : Int)) = true := decide_eq_true c46
                                      have c46b1 : decide (0 < t197.length) = true := decide_eq_true (by omega)
                                      clear c46
                                      replace H := Option.bind_eq_some_iff.mp H
                                      obtain ⟨t219, A470, H⟩ := H
                                      replace H : (if t219 = true then (some (rd t197 0, x3_3, 0)) else (some (0, ([] : List Int), 11))) = some (r1, r2, r3) := H
                                      have A47 := Aside0.mk A470
                                      clear A470
                                      by_cases c48 : t219 = true
                                      · subst c48
                                        have H1 : (some (rd t197 0, x3_3, 0)) = some (r1, r2, r3) := by rw [if_pos rfl] at H; exact H
                                        clear H
                                        have H := H1
                                        clear H1
                                        simp only [Option.some.injEq, Prod.mk.injEq] at H
                                        obtain ⟨rfl, rfl, rfl⟩ := H
                                        have p218 : 0 ≤ (0 : Int) := (by omega)
                                        have q218 : 0 < (t197.length : Int) := of_decide_eq_true (by first | (with_reducible assumption) | assumption)
                                        obtain ⟨ad218, e218, hx218_0⟩ := Kd.at_int (Kd.R_reads' HO_5.out).2.2 0 p218 q218
                                        obtain rfl : ad203 = ad218 := (by injection e218)
                                        have qi218 : (0 < t197.length) = True := eq_true (by omega)
                                        (try rw [show ((0 : Int)).toNat = 0 from rfl] at hx218_0)
                                        (try rw [Addr.add_zero'] at hx218_0)
                                        replace p218 := eq_true p218
                                        replace q218 := eq_true q218
                                        obtain ⟨Ao49, co49, eo49⟩ := Kd.R_slice HO_3.out
                                        subst eo49
                                        go_wp2_with (first | ((with_reducible refine gate_callee (f := 58) rfl ?_); refine goesL_ (some 88) rfl rfl Try.func58 (by kernel_rfl) rfl #[.int .i64 (rd t197 0), .slice Ao49 x3_3.length co49] rfl (by (try simp only [List.map_toArray, List.map_cons, List.map_nil]); first | done | rfl | (simp only [List.length_drop, List.length_take]; rfl)) ?_; (with_reducible refine (bad_may.calls k3 (rd t197 0) _ _ x3_3 true _ ?side1 ?side2 A47.out).mono ?_); (case side1 => repeat (first | exact (Kd.R_reads' HO_3.out).2.2 | (with_reducible refine Kd.C_alloc ?_ _) | (with_reducible refine Kd.C_drewN ?_ _) | (with_reducible refine Kd.C_drew ?_))); (case side2 => exact (Kd.R_reads' HO_3.out).2.1); rintro e w' ⟨rfl, ⟨nd, rfl⟩⟩; refine ⟨_, rfl, ?_⟩; have p220 : 0 ≤ (0 : Int) := (by omega); have q220 : 0 < (t197.length : Int) := of_decide_eq_true (by first | (with_reducible assumption) | assumption); obtain ⟨ad220, e220, hx220_0⟩ := Kd.at_int (Kd.R_reads' HO_5.out).2.2 0 p220 q220; obtain rfl : ad203 = ad220 := (by injection e220); have qi220 : (0 < t197.length) = True := eq_true (by omega); (try rw [show ((0 : Int)).toNat = 0 from rfl] at hx220_0); (try rw [Addr.add_zero'] at hx220_0); replace p220 := eq_true p220; replace q220 := eq_true q220))
                                        go_ret3
                                        exact ⟨_, by first | rfl | (simp [errW_none, errW_some] <;> rfl) | (simp only [← hji37]; first | rfl | (simp [errW_none, errW_some] <;> rfl)) | (simp [*, errW_none, errW_some] <;> rfl), by (with_reducible repeat (first | apply Kd.R_alloc | apply Kd.R_drewN | apply Kd.R_drew)); exact Kd.R_mono HO_3.out (fun _ hk => trivial), by repeat (first | (with_reducible first | exact HB.out | apply below_alloc | apply pw_below_drewN | apply below_drew1) | exact HB.out)⟩
                                      · replace c48 := Bool.eq_false_iff.mpr c48
                                        subst c48
                                        have H1 : (some (0, ([] : List Int), 11)) = some (r1, r2, r3) := by rw [if_neg (show ¬ (false = true) by decide)] at H; exact H
                                        clear H
                                        have H := H1
                                        clear H1
                                        simp only [Option.some.injEq, Prod.mk.injEq] at H
                                        obtain ⟨rfl, rfl, rfl⟩ := H
                                        have p218 : 0 ≤ (0 : Int) := (by omega)
                                        have q218 : 0 < (t197.length : Int) := of_decide_eq_true (by first | (with_reducible assumption) | assumption)
                                        obtain ⟨ad218, e218, hx218_0⟩ := Kd.at_int (Kd.R_reads' HO_5.out).2.2 0 p218 q218
                                        obtain rfl : ad203 = ad218 := (by injection e218)
                                        have qi218 : (0 < t197.length) = True := eq_true (by omega)
                                        (try rw [show ((0 : Int)).toNat = 0 from rfl] at hx218_0)
                                        (try rw [Addr.add_zero'] at hx218_0)
                                        replace p218 := eq_true p218
                                        replace q218 := eq_true q218
                                        obtain ⟨Ao50, co50, eo50⟩ := Kd.R_slice HO_3.out
                                        subst eo50
                                        go_wp2_with (first | ((with_reducible refine gate_callee (f := 58) rfl ?_); refine goesL_ (some 88) rfl rfl Try.func58 (by kernel_rfl) rfl #[.int .i64 (rd t197 0), .slice Ao50 x3_3.length co50] rfl (by (try simp only [List.map_toArray, List.map_cons, List.map_nil]); first | done | rfl | (simp only [List.length_drop, List.length_take]; rfl)) ?_; (with_reducible refine (bad_may.calls k3 (rd t197 0) _ _ x3_3 false _ ?side1 ?side2 A47.out).mono ?_); (case side1 => repeat (first | exact (Kd.R_reads' HO_3.out).2.2 | (with_reducible refine Kd.C_alloc ?_ _) | (with_reducible refine Kd.C_drewN ?_ _) | (with_reducible refine Kd.C_drew ?_))); (case side2 => exact (Kd.R_reads' HO_3.out).2.1); rintro e w' ⟨rfl, ⟨nd, rfl⟩⟩; refine ⟨_, rfl, ?_⟩))
                                        go_ret3
                                        exact ⟨_, by first | rfl | (simp [errW_none, errW_some] <;> rfl) | (simp only [← hji37]; first | rfl | (simp [errW_none, errW_some] <;> rfl)) | (simp [*, errW_none, errW_some] <;> rfl), by first | exact Kd.R_nil _ _ _ _ _ | exact Kd.N_nil _ _ _ _ _ | exact Kd.V_nil _ _ _ _ _ | exact Kd.Q_nil _ _ _ _ _ | exact Kd.S_nil _ _ _ _ _, by repeat (first | (with_reducible first | exact HB.out | apply below_alloc | apply pw_below_drewN | apply below_drew1) | exact HB.out)⟩
                                    · rw [if_neg c46] at H
                                      exact absurd H (by simp)
                            · rw [if_neg c40] at H
                              exact absurd H (by simp)
                          · rw [if_neg c39] at H
                            exact absurd H (by simp)
                        · rw [if_neg c38] at H
                          exact absurd H (by simp)
                      · rw [if_neg c36] at H
                        exact absurd H (by simp)
              · rw [if_neg c20] at H
                exact absurd H (by simp)
      · rw [if_neg c5] at H
        exact absurd H (by simp)
    · replace c4 := Bool.eq_false_iff.mpr c4
      subst c4
      have H1 : (some (0, ([] : List Int), 12)) = some (r1, r2, r3) := by rw [if_neg (show ¬ (false = true) by decide)] at H; exact H
      clear H
      have H := H1
      clear H1
      simp only [Option.some.injEq, Prod.mk.injEq] at H
      obtain ⟨rfl, rfl, rfl⟩ := H
      go_enter Try.func40, Try.ntmps40
      go_wp2_with (first | ((with_reducible refine gate_callee (f := 64) rfl ?_); refine goesL_ (some 15) rfl rfl Try.func64 (by kernel_rfl) rfl #[.slice A0 l0.length c0] rfl (by (try simp only [List.map_toArray, List.map_cons, List.map_nil]); first | done | rfl | (simp only [List.length_drop, List.length_take]; rfl)) ?_; (with_reducible refine (crc_Check.calls k (fun k_ => k_ < w.heap.size) _ _ l0 false _ ?side1 A3.out).mono ?_); (case side1 => exact Kd.V_mk HC0.out (Kd.F_below (Kd.C_F (Kd.heap_int .u8) HR0.out) (by repeat (first | (with_reducible first | exact HB.out | apply below_alloc | apply pw_below_drewN | apply below_drew1) | exact HB.out)))); rintro e w51 ⟨rfl, hb⟩; refine ⟨_, rfl, ?_⟩; have n0_ := Aside0.mk (below_step (by repeat (first | (with_reducible first | exact HB.out | apply below_alloc | apply pw_below_drewN | apply below_drew1) | exact HB.out)) hb); clear HB; have HB := n0_; clear n0_; (try clear hb); (try clear hb2); (try clear hk); (try clear hi)))
      go_ret3
      exact ⟨_, by first | rfl | (simp [errW_none, errW_some] <;> rfl) | (simp [*, errW_none, errW_some] <;> rfl), by first | exact Kd.R_nil _ _ _ _ _ | exact Kd.N_nil _ _ _ _ _ | exact Kd.V_nil _ _ _ _ _ | exact Kd.Q_nil _ _ _ _ _ | exact Kd.S_nil _ _ _ _ _, by repeat (first | (with_reducible first | exact HB.out | apply below_alloc | apply pw_below_drewN | apply below_drew1) | exact HB.out)⟩

/-! ### incunablelaw25_in: function 42 -/
def incunablelaw25_in.l0 : Nat → Int → List Int → Int → Int → Option (Bool)
  | 0, _, _, _, _ => none
  | k + 1, x1, x7, x8, x9 => if x9 < x8 then (if 0 ≤ x9 then (if x9 < (x7.length : Int) then (if (rd x7 x9) = x1 then (some true) else (incunablelaw25_in.l0 k x1 x7 x8 (wrap64 (x9 + 1)))) else (none)) else (none)) else (some false)
def incunablelaw25_in.f (k : Nat) (l0 : List Int) (a1 : Int) : Option (Bool) := incunablelaw25_in.l0 k a1 l0 (l0.length : Int) 0
theorem incunablelaw25_in.mono_l : ∀ k, (∀ y0 y1 y2 y3, LeO (incunablelaw25_in.l0 k y0 y1 y2 y3) (incunablelaw25_in.l0 (k + 1) y0 y1 y2 y3))
  | 0 => fun _ _ _ _ r h => by simp [incunablelaw25_in.l0] at h
  | k + 1 => by
    have ih0 := incunablelaw25_in.mono_l k
    · intro y0 y1 y2 y3
      unfold incunablelaw25_in.l0
      repeat' first
      | (with_reducible exact ih0 _ _ _ _)
      | (with_reducible exact LeO.refl _)
      | (with_reducible exact LeO.none _)
      | (with_reducible refine LeO.ite ?_ ?_)
      | (with_reducible refine LeO.bind ?_ (fun _ => ?_))
      | exact ih0 _ _ _ _
      | exact LeO.none _
      | refine LeO.ite ?_ ?_
      | refine LeO.bind ?_ (fun _ => ?_)
theorem incunablelaw25_in.mono : ∀ a0 a1 k, LeO (incunablelaw25_in.f k a0 a1) (incunablelaw25_in.f (k + 1) a0 a1) := by
  intro a0 a1 k
  have ih0 := incunablelaw25_in.mono_l k
  unfold incunablelaw25_in.f
  repeat' first
      | (with_reducible exact ih0 _ _ _ _)
      | (with_reducible exact LeO.refl _)
      | (with_reducible exact LeO.none _)
      | (with_reducible refine LeO.ite ?_ ?_)
      | (with_reducible refine LeO.bind ?_ (fun _ => ?_))
      | exact ih0 _ _ _ _
      | exact LeO.none _
      | refine LeO.ite ?_ ?_
      | refine LeO.bind ?_ (fun _ => ?_)
set_option maxHeartbeats 8000000 in
set_option maxRecDepth 100000 in
theorem incunablelaw25_in.calls (k : Nat) (A0 : Option Addr) (c0 : Nat) (l0 : List Int) (a1 : Int) (r : Bool) (w : World) (hr0 : Kd.C (Kd.int .i64) w A0 l0.length l0) (hc0 : l0.length ≤ c0) (h : incunablelaw25_in.f k l0 a1 = some r) :
    Calls Try.prog 42 #[.slice A0 l0.length c0, .int .i64 a1] w fun e w' => e = .returned (.bool r) ∧ Drawn0 w w' := by
  have HR0 := Aside0.mk hr0
  have HC0 := Aside0.mk hc0
  clear hr0 hc0
  have H : (incunablelaw25_in.l0 k a1 l0 (l0.length : Int) 0) = some r := h
  clear h
  have H' := Aside0.mk H
  clear H
  go_enter Try.func42, Try.ntmps42
  go_wp2
  go_loopg [9] k (fun kq v9 w' => ∃ (x9_1 : Int), v9 = .int .i64 x9_1 ∧ Aside0 (incunablelaw25_in.l0 kq a1 l0 (l0.length : Int) x9_1 = some r) ∧ Aside0 (kq ≤ k) ∧ Drawn0 w w')
  case atStart => exact ⟨(0), (by first | rfl | (simp; done) | (simp [*]; done)), H', ⟨Nat.le_refl _⟩, by repeat (first | exact Drawn0.refl _ | apply Drawn0.step)⟩
  case round =>
    clear H'
    try clear p2
    obtain ⟨x9_1, rfl, HA, HK1, ⟨m1, rfl⟩⟩ := hrel
    cases gk with
    | zero => exact absurd HA.out (by simp [incunablelaw25_in.l0])
    | succ k1 =>
      have H := HA.out
      clear HA
      simp only [incunablelaw25_in.l0] at H
      by_cases c3 : x9_1 < (l0.length : Int)
      · rw [if_pos c3] at H
        have c3b0 : decide (x9_1 < (l0.length : Int)) = true := decide_eq_true c3
        clear c3
        by_cases c4 : 0 ≤ x9_1
        · rw [if_pos c4] at H
          have c4b0 : decide (0 ≤ x9_1) = true := decide_eq_true c4
          clear c4
          by_cases c5 : x9_1 < (l0.length : Int)
          · rw [if_pos c5] at H
            have c5b0 : decide (x9_1 < (l0.length : Int)) = true := decide_eq_true c5
            clear c5
            by_cases c6 : (rd l0 x9_1) = a1
            · rw [if_pos c6] at H
              have c6b0 : ((rd l0 x9_1) == a1) = true := beq_iff_eq.mpr c6
              have c6b1 : ((rd l0 x9_1) != a1) = false := bne_eq_false_iff_eq.mpr c6
              clear c6
              obtain rfl := Option.some.inj H
              have p221 : 0 ≤ (x9_1 : Int) := of_decide_eq_true (by first | (with_reducible assumption) | assumption)
              have q221 : x9_1 < (l0.length : Int) := of_decide_eq_true (by first | (with_reducible assumption) | assumption)
              obtain ⟨ad221, e221, hx221_0⟩ := Kd.at_int HR0.out x9_1 p221 q221
              cases e221
              replace p221 := eq_true p221
              replace q221 := eq_true q221
              go_wp2
              go_ret
              exact ⟨by first | rfl | (simp; done) | (simp [*]; done), by repeat (first | exact Drawn0.refl _ | apply Drawn0.step)⟩
            · rw [if_neg c6] at H
              have c6b0 : ((rd l0 x9_1) == a1) = false := beq_eq_false_iff_ne.mpr c6
              have c6b1 : ((rd l0 x9_1) != a1) = true := bne_iff_ne.mpr c6
              have H' := Aside0.mk H
              clear H
              have p221 : 0 ≤ (x9_1 : Int) := of_decide_eq_true (by first | (with_reducible assumption) | assumption)
              have q221 : x9_1 < (l0.length : Int) := of_decide_eq_true (by first | (with_reducible assumption) | assumption)
              obtain ⟨ad221, e221, hx221_0⟩ := Kd.at_int HR0.out x9_1 p221 q221
              cases e221
              replace p221 := eq_true p221
              replace q221 := eq_true q221
              go_wp2
              go_roundg k1
              case measure => have := HK1.out; omega
              case rel => exact ⟨(wrap64 (x9_1 + 1)), (by first | rfl | (simp; done) | (simp [*]; done)), H', ⟨by have := HK1.out; omega⟩, by repeat (first | exact Drawn0.refl _ | apply Drawn0.step)⟩
          · rw [if_neg c5] at H
            exact absurd H (by simp)
        · rw [if_neg c4] at H
          exact absurd H (by simp)
      · rw [if_neg c3] at H
        have c3b0 : decide (x9_1 < (l0.length : Int)) = false := decide_eq_false c3
        clear c3
        obtain rfl := Option.some.inj H
        go_wp2
        go_ret
        exact ⟨by first | rfl | (simp; done) | (simp [*]; done), by repeat (first | exact Drawn0.refl _ | apply Drawn0.step)⟩

end Go.Proofs.Ytpabehkdedhncaa.QBadBack
