import Derived.Test.YtmehbabchakkpaaMLadderWalksx6
namespace Go.Proofs.Ytmehbabchakkpaa.QLadderWalks
open Go.RowKit YtmehbabchakkpaaW.PrintWords YtmehbabchakkpaaW.PrintLast YtmehbabchakkpaaW.PrintMore Short
attribute [local go_sem] max2_int min2_int max_two min_two max_three min_three max_four min_four
set_option linter.unusedVariables false
set_option maxHeartbeats 8000000
set_option maxRecDepth 100000
set_option linter.unusedSimpArgs false
def tag_May.f (a0_0 : Int) (a0_1 : Int) (a0_2 : Int) (a0_3 : Int) : Option (Bool) := (tag_within.f a0_0 1 4).bind fun t198 => (if t198 = true then ((tag_within.f a0_1 0 2147483648).bind fun t199 => (if t199 = true then ((tag_within.f a0_2 0 2305843009213693952).bind fun t200 => (if t200 = true then ((tag_within.f a0_3 0 2147483648).bind fun t201 => (some t201)) else (some false))) else (some false))) else (some false))
theorem tag_May.calls (a0_0 : Int) (a0_1 : Int) (a0_2 : Int) (a0_3 : Int) (r : Bool) (w : World) (h : tag_May.f a0_0 a0_1 a0_2 a0_3 = some r) :
  Calls Try.prog 65 #[.agg #[.int .i64 a0_0, .int .i64 a0_1, .int .i64 a0_2, .int .i64 a0_3]] w fun e w' => e = .returned (.bool r) ∧ Below w.heap.size w w' := by
 have hu26 := Try.underlying26
 have HB := br_ w
 unfold tag_May.f at h
 have H := h
 clear h
 obtain ⟨t105, A2, H⟩ := bs_ H
 by_cases c3 : t105 = true
 ·subst c3
  rw [if_pos rfl] at H
  obtain ⟨t106, A4, H⟩ := bs_ H
  by_cases c5 : t106 = true
  ·subst c5
   rw [if_pos rfl] at H
   obtain ⟨t107, A6, H⟩ := bs_ H
   by_cases c7 : t107 = true
   ·subst c7
    rw [if_pos rfl] at H
    obtain ⟨t108, A8, H⟩ := bs_ H
    obtain rfl := si_ H
    go_enter Try.func65, Try.ntmps65
    go_wp2_with (first | ((with_reducible refine gate_dst (N := 1) rfl ?_); refine box_event ?hg (N := 1) ?hd (cs := #[.int .i64 a0_0, .int .i64 a0_1, .int .i64 a0_2, .int .i64 a0_3]) (t := 26) ?hr ?_; (case hd => rfl); (case hg => rfl); (case hr => (go_simp; done)); intro gb104 hg w9 hbox hb; have BK104 := ak_ (hbox); have GW104 := ak_ (gw_ hg (below_size HB.out)); have GE104 := ak_ (gw_ hg (below_size HB.out)); replace HB := ak_ (below_step HB.out hb); clear hb hbox hg; obtain ⟨hcz10_0, hcz10_1, hcz10_2, hcz10_3⟩ := cells4 BK104.out; obtain ⟨hfz10_0, hfz10_1, hfz10_2, hfz10_3⟩ := froz4 BK104.out) | ((with_reducible refine gate_callee (f := 81) rfl ?_); refine goesL_ (some 5) rfl rfl Try.func81 (by kernel_rfl) rfl #[.int .i64 a0_0, .int .i64 1, .int .i64 4] rfl (by (try simp only [List.map_toArray, List.map_cons, List.map_nil]); first | done | rfl | (simp only [List.length_drop, List.length_take]; rfl)) ?_; (with_reducible refine (tag_within.calls a0_0 1 4 true _ A2.out).mono ?_); rintro e w' ⟨rfl, ⟨nd, rfl⟩⟩; refine ⟨_, rfl, ?_⟩) | (go_at_call 81; (with_reducible refine (tag_within.calls _ _ _ _ _ (Aside0.out (by assumption))).mono ?_); rintro e w' ⟨rfl, ⟨nd, rfl⟩⟩))
    go_ret
    exact ⟨by rfl, by repeat (first | (with_reducible first | exact HB.out | apply below_alloc | apply pw_below_drewN | apply below_drew1 | refine below_set ?_ GE104.out) | exact HB.out)⟩
   ·replace c7 := Bool.eq_false_iff.mpr c7
    subst c7
    rw [if_neg (show ¬ (false = true) by decide)] at H
    obtain rfl := si_ H
    go_enter Try.func65, Try.ntmps65
    go_wp2_with (first | ((with_reducible refine gate_dst (N := 1) rfl ?_); refine box_event ?hg (N := 1) ?hd (cs := #[.int .i64 a0_0, .int .i64 a0_1, .int .i64 a0_2, .int .i64 a0_3]) (t := 26) ?hr ?_; (case hd => rfl); (case hg => rfl); (case hr => (go_simp; done)); intro gb104 hg w11 hbox hb; have BK104 := ak_ (hbox); have GW104 := ak_ (gw_ hg (below_size HB.out)); have GE104 := ak_ (gw_ hg (below_size HB.out)); replace HB := ak_ (below_step HB.out hb); clear hb hbox hg; obtain ⟨hcz12_0, hcz12_1, hcz12_2, hcz12_3⟩ := cells4 BK104.out; obtain ⟨hfz12_0, hfz12_1, hfz12_2, hfz12_3⟩ := froz4 BK104.out) | ((with_reducible refine gate_callee (f := 81) rfl ?_); refine goesL_ (some 5) rfl rfl Try.func81 (by kernel_rfl) rfl #[.int .i64 a0_0, .int .i64 1, .int .i64 4] rfl (by (try simp only [List.map_toArray, List.map_cons, List.map_nil]); first | done | rfl | (simp only [List.length_drop, List.length_take]; rfl)) ?_; (with_reducible refine (tag_within.calls a0_0 1 4 true _ A2.out).mono ?_); rintro e w' ⟨rfl, ⟨nd, rfl⟩⟩; refine ⟨_, rfl, ?_⟩) | (go_at_call 81; (with_reducible refine (tag_within.calls _ _ _ _ _ (Aside0.out (by assumption))).mono ?_); rintro e w' ⟨rfl, ⟨nd, rfl⟩⟩))
    go_ret
    exact ⟨by rfl, by repeat (first | (with_reducible first | exact HB.out | apply below_alloc | apply pw_below_drewN | apply below_drew1 | refine below_set ?_ GE104.out) | exact HB.out)⟩
  ·replace c5 := Bool.eq_false_iff.mpr c5
   subst c5
   rw [if_neg (show ¬ (false = true) by decide)] at H
   obtain rfl := si_ H
   go_enter Try.func65, Try.ntmps65
   go_wp2_with (first | ((with_reducible refine gate_dst (N := 1) rfl ?_); refine box_event ?hg (N := 1) ?hd (cs := #[.int .i64 a0_0, .int .i64 a0_1, .int .i64 a0_2, .int .i64 a0_3]) (t := 26) ?hr ?_; (case hd => rfl); (case hg => rfl); (case hr => (go_simp; done)); intro gb104 hg w13 hbox hb; have BK104 := ak_ (hbox); have GW104 := ak_ (gw_ hg (below_size HB.out)); have GE104 := ak_ (gw_ hg (below_size HB.out)); replace HB := ak_ (below_step HB.out hb); clear hb hbox hg; obtain ⟨hcz14_0, hcz14_1, hcz14_2, hcz14_3⟩ := cells4 BK104.out; obtain ⟨hfz14_0, hfz14_1, hfz14_2, hfz14_3⟩ := froz4 BK104.out) | ((with_reducible refine gate_callee (f := 81) rfl ?_); refine goesL_ (some 5) rfl rfl Try.func81 (by kernel_rfl) rfl #[.int .i64 a0_0, .int .i64 1, .int .i64 4] rfl (by (try simp only [List.map_toArray, List.map_cons, List.map_nil]); first | done | rfl | (simp only [List.length_drop, List.length_take]; rfl)) ?_; (with_reducible refine (tag_within.calls a0_0 1 4 true _ A2.out).mono ?_); rintro e w' ⟨rfl, ⟨nd, rfl⟩⟩; refine ⟨_, rfl, ?_⟩) | (go_at_call 81; (with_reducible refine (tag_within.calls a0_1 0 2147483648 false _ A4.out).mono ?_); rintro e w' ⟨rfl, ⟨nd, rfl⟩⟩))
   go_ret
   exact ⟨by rfl, by repeat (first | (with_reducible first | exact HB.out | apply below_alloc | apply pw_below_drewN | apply below_drew1 | refine below_set ?_ GE104.out) | exact HB.out)⟩
 ·replace c3 := Bool.eq_false_iff.mpr c3
  subst c3
  rw [if_neg (show ¬ (false = true) by decide)] at H
  obtain rfl := si_ H
  go_enter Try.func65, Try.ntmps65
  go_wp2_with (first | ((with_reducible refine gate_dst (N := 1) rfl ?_); refine box_event ?hg (N := 1) ?hd (cs := #[.int .i64 a0_0, .int .i64 a0_1, .int .i64 a0_2, .int .i64 a0_3]) (t := 26) ?hr ?_; (case hd => rfl); (case hg => rfl); (case hr => (go_simp; done)); intro gb104 hg w15 hbox hb; have BK104 := ak_ (hbox); have GW104 := ak_ (gw_ hg (below_size HB.out)); have GE104 := ak_ (gw_ hg (below_size HB.out)); replace HB := ak_ (below_step HB.out hb); clear hb hbox hg; obtain ⟨hcz16_0, hcz16_1, hcz16_2, hcz16_3⟩ := cells4 BK104.out; obtain ⟨hfz16_0, hfz16_1, hfz16_2, hfz16_3⟩ := froz4 BK104.out) | ((with_reducible refine gate_callee (f := 81) rfl ?_); refine goesL_ (some 5) rfl rfl Try.func81 (by kernel_rfl) rfl #[.int .i64 a0_0, .int .i64 1, .int .i64 4] rfl (by (try simp only [List.map_toArray, List.map_cons, List.map_nil]); first | done | rfl | (simp only [List.length_drop, List.length_take]; rfl)) ?_; (with_reducible refine (tag_within.calls a0_0 1 4 false _ A2.out).mono ?_); rintro e w' ⟨rfl, ⟨nd, rfl⟩⟩; refine ⟨_, rfl, ?_⟩))
  go_ret
  exact ⟨by rfl, by repeat (first | (with_reducible first | exact HB.out | apply below_alloc | apply pw_below_drewN | apply below_drew1 | refine below_set ?_ GE104.out) | exact HB.out)⟩
def tag_layout.f  : Option (List Int) := some (([2, 1, 4, 8, 4, 5] : List Int))
theorem tag_layout.calls  (r : List Int) (w : World) (h : tag_layout.f  = some r) :
  Calls Try.prog 67 #[] w fun e w' => ∃ v0_ : Value, e = .returned (v0_) ∧ Kd.R (Kd.int .i64) 3 w' w.heap.size (fun _ => True) v0_ r ∧ Below w.heap.size w w' := by
 have HB := br_ w
 unfold tag_layout.f at h
 have H := h
 clear h
 obtain ⟨y194, hy194⟩ : ∃ y_ : List Int, y_ = (([2, 1, 4, 8, 4, 5] : List Int)) := ⟨_, rfl⟩
 replace H : (some y194) = some r := (by rw [hy194]; with_reducible exact H)
 have Ny194 := ak_ hy194
 clear hy194
 obtain rfl := si_ H
 go_enter Try.func67, Try.ntmps67
 go_wp2_with ((with_reducible refine gate_dst (N := 1) rfl ?_); refine Kd.R_lit (Kd.int .i64) _ 3 ?hg (N := 1) ?hd (xs := ([2, 1, 4, 8, 4, 5] : List Int)) (inner := [.int .i64 2, .int .i64 1, .int .i64 4, .int .i64 8, .int .i64 4, .int .i64 5]) (ok := fun _ => True) (okp := fun _ => True) ?hr ?hp (fun _ hk => hk) trivial (Below.refl _ _) (Nat.le_refl _) (by simp) ?_; (case hd => rfl); (case hg => rfl); (case hr => (go_simp; done)); (case hp => exact (Reps.one (show Kd.M (Kd.int .i64) _ _ _ 2 [.int .i64 2] from rfl) (Reps.one (show Kd.M (Kd.int .i64) _ _ _ 1 [.int .i64 1] from rfl) (Reps.one (show Kd.M (Kd.int .i64) _ _ _ 4 [.int .i64 4] from rfl) (Reps.one (show Kd.M (Kd.int .i64) _ _ _ 8 [.int .i64 8] from rfl) (Reps.one (show Kd.M (Kd.int .i64) _ _ _ 4 [.int .i64 4] from rfl) (Reps.one (show Kd.M (Kd.int .i64) _ _ _ 5 [.int .i64 5] from rfl) (Reps.none _ _)))))))); intro v195 w1 ho2 hb hg_ hnew_; clear hg_ hnew_; (rw [← Ny194.out] at ho2); have HO196 := ak_ (Kd.R_lower ho2 (below_size HB.out)); replace HB := ak_ (below_step HB.out hb); clear hb ho2)
 go_ret
 exact ⟨_, by rfl, by (with_reducible repeat (first | apply Kd.R_alloc | apply Kd.R_drewN | apply Kd.R_drew)); exact HO196.out, HB.out⟩
def pack_Size.l0 : Nat → Int → List Int → Int → Int → Option (Int × Bool)
 | 0, _, _, _, _ => none
 | k + 1, x4, x10, x11, x12 => if x12 < x11 then (if 0 ≤ x12 then (if x12 < (x10.length : Int) then (if (rd x10 x12) < 1 then (some (0, false)) else (if (rd x10 x12) > 8 then (some (0, false)) else (pack_Size.l0 k (wrap64 (x4 + (rd x10 x12))) x10 x11 (wrap64 (x12 + 1))))) else (none)) else (none)) else (some (x4, true))
def pack_Size.f (k : Nat) (l0 : List Int) : Option (Int × Bool) := if (l0.length : Int) > 64 then (some (0, false)) else (pack_Size.l0 k 0 l0 (l0.length : Int) 0)
theorem pack_Size.mono_l : ∀ k, (∀ y0 y1 y2 y3, LeO (pack_Size.l0 k y0 y1 y2 y3) (pack_Size.l0 (k + 1) y0 y1 y2 y3))
 | 0 => fun _ _ _ _ r h => by simp [pack_Size.l0] at h
 | k + 1 => by
  have ih0 := pack_Size.mono_l k
  ·intro y0 y1 y2 y3
   unfold pack_Size.l0
   repeat' first
   | (with_reducible exact ih0 _ _ _ _)
   | (with_reducible exact LeO.refl _)
   | (with_reducible exact LeO.none _)
   | (with_reducible refine LeO.ite ?_ ?_)
   | (with_reducible refine LeO.bind ?_ (fun _ => ?_))
theorem pack_Size.mono : ∀ a0 k, LeO (pack_Size.f k a0) (pack_Size.f (k + 1) a0) := by
 intro a0 k
 have ih0 := pack_Size.mono_l k
 unfold pack_Size.f
 repeat' with_reducible first
  | exact ih0 _ _ _ _
  | exact LeO.refl _
  | exact LeO.none _
  | refine LeO.ite ?_ ?_
  | refine LeO.bind ?_ (fun _ => ?_)
theorem pack_Size.calls (k : Nat) (A0 : Option Addr) (c0 : Nat) (l0 : List Int) (r1 : Int) (r2 : Bool) (w : World) (hr0 : Kd.C (Kd.int .i64) w A0 l0.length l0) (hc0 : l0.length ≤ c0) (h : pack_Size.f k l0 = some (r1, r2)) :
  Calls Try.prog 82 #[.slice A0 l0.length c0] w fun e w' => e = .returned (.tuple #[.int .i64 r1, .bool r2]) ∧ Drawn0 w w' := by
 have HR0 := ak_ hr0
 have HC0 := ak_ hc0
 clear hr0 hc0
 unfold pack_Size.f at h
 have H := h
 clear h
 by_cases c2 : (l0.length : Int) > 64
 ·rw [if_pos c2] at H
  have c2b0 : decide (64 < (l0.length : Int)) = true := dt_ c2
  have c2b1 : decide (64 < l0.length) = true := dt_ (by omega)
  clear c2
  simp only [Option.some.injEq, Prod.mk.injEq] at H
  obtain ⟨rfl, rfl⟩ := H
  go_enter Try.func82, Try.ntmps82
  go_wp2
  go_ret2
  exact ⟨by rfl, by repeat (first | exact Drawn0.refl _ | apply Drawn0.step)⟩
 ·rw [if_neg c2] at H
  have c2b0 : decide (64 < (l0.length : Int)) = false := df_ c2
  have c2b1 : decide (64 < l0.length) = false := df_ (by omega)
  clear c2
  have H' := ak_ H
  clear H
  go_enter Try.func82, Try.ntmps82
  go_wp2
  go_loopg [4, 12] k (fun kq v4 v12 w' => ∃ (x4_1 : Int) (x12_1 : Int), v4 = .int .i64 x4_1 ∧ v12 = .int .i64 x12_1 ∧ Aside0 (pack_Size.l0 kq x4_1 l0 (l0.length : Int) x12_1 = some (r1, r2)) ∧ Aside0 (kq ≤ k) ∧ Drawn0 w w')
  case atStart => exact ⟨(0), (0), (by rfl), (by rfl), H', ⟨Nat.le_refl _⟩, by repeat (first | exact Drawn0.refl _ | apply Drawn0.step)⟩
  case round =>
   clear H'
   clear c2b0 c2b1
   obtain ⟨x4_1, x12_1, rfl, rfl, HA, HK1, ⟨m1, rfl⟩⟩ := hrel
   cases gk with
   | zero => exact absurd HA.out (by simp [pack_Size.l0])
   | succ k1 =>
    have H := HA.out
    clear HA
    simp only [pack_Size.l0] at H
    by_cases c3 : x12_1 < (l0.length : Int)
    ·rw [if_pos c3] at H
     have c3b0 := dt_ c3
     clear c3
     by_cases c4 : 0 ≤ x12_1
     ·rw [if_pos c4] at H
      have c4b0 := dt_ c4
      clear c4
      by_cases c5 : x12_1 < (l0.length : Int)
      ·rw [if_pos c5] at H
       have c5b0 := dt_ c5
       clear c5
       by_cases c6 : (rd l0 x12_1) < 1
       ·rw [if_pos c6] at H
        have c6b0 := dt_ c6
        clear c6
        simp only [Option.some.injEq, Prod.mk.injEq] at H
        obtain ⟨rfl, rfl⟩ := H
        have p109 : 0 ≤ (x12_1 : Int) := od_ ‹_›
        have q109 : x12_1 < (l0.length : Int) := od_ ‹_›
        obtain ⟨ad109, e109, hx109_0⟩ := Kd.at_int HR0.out x12_1 p109 q109
        cases e109
        replace p109 := eq_true p109
        replace q109 := eq_true q109
        go_wp2
        go_ret2
        exact ⟨by rfl, by repeat (first | exact Drawn0.refl _ | apply Drawn0.step)⟩
       ·rw [if_neg c6] at H
        have c6b0 := df_ c6
        clear c6
        by_cases c7 : (rd l0 x12_1) > 8
        ·rw [if_pos c7] at H
         have c7b0 : decide (8 < (rd l0 x12_1)) = true := dt_ c7
         clear c7
         simp only [Option.some.injEq, Prod.mk.injEq] at H
         obtain ⟨rfl, rfl⟩ := H
         have p109 : 0 ≤ (x12_1 : Int) := od_ ‹_›
         have q109 : x12_1 < (l0.length : Int) := od_ ‹_›
         obtain ⟨ad109, e109, hx109_0⟩ := Kd.at_int HR0.out x12_1 p109 q109
         cases e109
         replace p109 := eq_true p109
         replace q109 := eq_true q109
         go_wp2
         go_ret2
         exact ⟨by rfl, by repeat (first | exact Drawn0.refl _ | apply Drawn0.step)⟩
        ·rw [if_neg c7] at H
         have c7b0 : decide (8 < (rd l0 x12_1)) = false := df_ c7
         clear c7
         have H' := ak_ H
         clear H
         have p109 : 0 ≤ (x12_1 : Int) := od_ ‹_›
         have q109 : x12_1 < (l0.length : Int) := od_ ‹_›
         obtain ⟨ad109, e109, hx109_0⟩ := Kd.at_int HR0.out x12_1 p109 q109
         cases e109
         replace p109 := eq_true p109
         replace q109 := eq_true q109
         go_wp2
         go_roundg k1
         case measure => have := HK1.out; omega
         case rel => exact ⟨(wrap64 (x4_1 + (rd l0 x12_1))), (wrap64 (x12_1 + 1)), (by rfl), (by rfl), H', ⟨by have := HK1.out; omega⟩, by repeat (first | exact Drawn0.refl _ | apply Drawn0.step)⟩
      ·rw [if_neg c5] at H
       exact absurd H (by simp)
     ·rw [if_neg c4] at H
      exact absurd H (by simp)
    ·rw [if_neg c3] at H
     have c3b0 := df_ c3
     clear c3
     simp only [Option.some.injEq, Prod.mk.injEq] at H
     obtain ⟨rfl, rfl⟩ := H
     go_wp2
     go_ret2
     exact ⟨by rfl, by repeat (first | exact Drawn0.refl _ | apply Drawn0.step)⟩
mutual
def pack_Take.l0 : Nat → List Int → List Int → List Int → Int → Int → Option (List Int × Int)
 | 0, _, _, _, _, _ => none
 | k + 1, x1, x8, x31, x32, x33 => if x33 < x32 then (if 0 ≤ x33 then (if x33 < (x31.length : Int) then (pack_Take.l1 k x1 x8 (rd x31 x33) 0 (wrap64 ((rd x31 x33) - 1)) x31 x32 x33) else (none)) else (none)) else (some (x8, 0))
def pack_Take.l1 : Nat → List Int → List Int → Int → Int → Int → List Int → Int → Int → Option (List Int × Int)
 | 0, _, _, _, _, _, _, _, _ => none
 | k + 1, x1, x8, x10, x11, x12, x31, x32, x33 => if x12 ≥ 0 then (if 0 ≤ x12 then (if x12 < (x1.length : Int) then (pack_Take.l1 k x1 x8 x10 (Go.bits .or .u64 (IntKind.u64.wrap (x11 * 256)) (IntKind.u64.wrap (rd x1 x12))) (wrap64 (x12 - 1)) x31 x32 x33) else (none)) else (none)) else (if x11 > 4611686018427387904 then (some (([] : List Int), 11)) else (if x8.length < 17592186044416 then (if 0 ≤ x10 then (if x10 ≤ (x1.length : Int) then (pack_Take.l0 k (x1.drop (x10 : Int).toNat) (x8 ++ [wrap64 (x11)]) x31 x32 (wrap64 (x33 + 1))) else (none)) else (none)) else (none)))
end
def pack_Take.f (k : Nat) (l0 : List Int) (l1 : List Int) : Option (List Int × Int) := (pack_Size.f k l0).bind fun bt206 => (if bt206.2 = true then (if (l1.length : Int) < bt206.1 then (some (([] : List Int), 10)) else (if (l1.length : Int) > bt206.1 then (some (([] : List Int), 13)) else (pack_Take.l0 k l1 ([] : List Int) l0 (l0.length : Int) 0))) else (some (([] : List Int), 2)))
theorem pack_Take.mono_l : ∀ k, (∀ y0 y1 y2 y3 y4, LeO (pack_Take.l0 k y0 y1 y2 y3 y4) (pack_Take.l0 (k + 1) y0 y1 y2 y3 y4)) ∧ (∀ y0 y1 y2 y3 y4 y5 y6 y7, LeO (pack_Take.l1 k y0 y1 y2 y3 y4 y5 y6 y7) (pack_Take.l1 (k + 1) y0 y1 y2 y3 y4 y5 y6 y7))
 | 0 => ⟨fun _ _ _ _ _ r h => by simp [pack_Take.l0] at h, fun _ _ _ _ _ _ _ _ r h => by simp [pack_Take.l1] at h⟩
 | k + 1 => by
  obtain ⟨ih0, ih1⟩ := pack_Take.mono_l k
  refine ⟨?_, ?_⟩
  ·intro y0 y1 y2 y3 y4
   unfold pack_Take.l0
   repeat' first
   | (with_reducible exact ih0 _ _ _ _ _)
   | (with_reducible exact ih1 _ _ _ _ _ _ _ _)
   | (with_reducible exact pack_Size.mono _ _)
   | (with_reducible exact LeO.refl _)
   | (with_reducible exact LeO.none _)
   | (with_reducible refine LeO.ite ?_ ?_)
   | (with_reducible refine LeO.bind ?_ (fun _ => ?_))
  ·intro y0 y1 y2 y3 y4 y5 y6 y7
   unfold pack_Take.l1
   repeat' first
   | (with_reducible exact ih0 _ _ _ _ _)
   | (with_reducible exact ih1 _ _ _ _ _ _ _ _)
   | (with_reducible exact pack_Size.mono _ _)
   | (with_reducible exact LeO.refl _)
   | (with_reducible exact LeO.none _)
   | (with_reducible refine LeO.ite ?_ ?_)
   | (with_reducible refine LeO.bind ?_ (fun _ => ?_))
theorem pack_Take.mono : ∀ a0 a1 k, LeO (pack_Take.f k a0 a1) (pack_Take.f (k + 1) a0 a1) := by
 intro a0 a1 k
 obtain ⟨ih0, ih1⟩ := pack_Take.mono_l k
 unfold pack_Take.f
 repeat' with_reducible first
  | exact ih0 _ _ _ _ _
  | exact ih1 _ _ _ _ _ _ _ _
  | exact pack_Size.mono _ _
  | exact LeO.refl _
  | exact LeO.none _
  | refine LeO.ite ?_ ?_
  | refine LeO.bind ?_ (fun _ => ?_)
theorem pack_Take.calls (k : Nat) (A0 : Option Addr) (c0 : Nat) (l0 : List Int) (P1_ : Nat → Prop) (A1 : Option Addr) (c1 : Nat) (l1 : List Int) (r1 : List Int) (r2 : Int) (w : World) (hr0 : Kd.C (Kd.int .i64) w A0 l0.length l0) (hc0 : l0.length ≤ c0) (hs1 : Kd.V (Kd.int .u8) 5 w w.heap.size (fun k_ => P1_ k_) (.slice A1 l1.length c1) l1) (h : pack_Take.f k l0 l1 = some (r1, r2)) :
  Calls Try.prog 80 #[.slice A0 l0.length c0, .slice A1 l1.length c1] w fun e w' => ∃ v0_ : Value, e = .returned (.tuple #[v0_, .int .i64 r2]) ∧ Kd.R (Kd.int .i64) 3 w' w.heap.size (fun k_ => (w.heap.size ≤ k_)) v0_ r1 ∧ Below w.heap.size w w' := by
 have HR0 := ak_ hr0
 have HC0 := ak_ hc0
 clear hr0 hc0
 have HO1 := ak_ (show Kd.V (Kd.int .u8) 5 w w.heap.size (fun k_ => (P1_ k_ ∨ w.heap.size ≤ k_)) (.slice A1 l1.length c1) l1 from Kd.V_mono hs1 (fun k_ hk => .inl hk))
 have HB := br_ w
 unfold pack_Take.f at h
 have H := h
 clear h
 obtain ⟨⟨t479, t480⟩, A3, H⟩ := bs_ H
 try dsimp only at H
 by_cases c4 : t480 = true
 ·subst c4
  rw [if_pos rfl] at H
  by_cases c5 : (l1.length : Int) < t479
  ·rw [if_pos c5] at H
   have c5b0 := dt_ c5
   clear c5
   simp only [Option.some.injEq, Prod.mk.injEq] at H
   obtain ⟨rfl, rfl⟩ := H
   go_enter Try.func80, Try.ntmps80
   go_wp2_with ((with_reducible refine gate_callee (f := 82) rfl ?_); refine goesL_ (some 15) rfl rfl Try.func82 (by kernel_rfl) rfl #[.slice A0 l0.length c0] rfl (by (try simp only [List.map_toArray, List.map_cons, List.map_nil]); first | done | rfl | (simp only [List.length_drop, List.length_take]; rfl)) ?_; (with_reducible refine (pack_Size.calls k _ _ l0 t479 true _ ?side1 ?side2 A3.out).mono ?_); (case side1 => exact HR0.out); (case side2 => exact HC0.out); rintro e w' ⟨rfl, ⟨nd, rfl⟩⟩; refine ⟨_, rfl, ?_⟩)
   go_ret2
   exact ⟨_, by rfl, (Kd.R_nil _ _ _ _ _), by repeat (first | (with_reducible first | exact HB.out | apply below_alloc | apply pw_below_drewN | apply below_drew1) | exact HB.out)⟩
  ·rw [if_neg c5] at H
   have c5b0 := df_ c5
   clear c5
   by_cases c6 : (l1.length : Int) > t479
   ·rw [if_pos c6] at H
    have c6b0 : decide (t479 < (l1.length : Int)) = true := dt_ c6
    clear c6
    simp only [Option.some.injEq, Prod.mk.injEq] at H
    obtain ⟨rfl, rfl⟩ := H
    go_enter Try.func80, Try.ntmps80
    go_wp2_with ((with_reducible refine gate_callee (f := 82) rfl ?_); refine goesL_ (some 15) rfl rfl Try.func82 (by kernel_rfl) rfl #[.slice A0 l0.length c0] rfl (by (try simp only [List.map_toArray, List.map_cons, List.map_nil]); first | done | rfl | (simp only [List.length_drop, List.length_take]; rfl)) ?_; (with_reducible refine (pack_Size.calls k _ _ l0 t479 true _ ?side1 ?side2 A3.out).mono ?_); (case side1 => exact HR0.out); (case side2 => exact HC0.out); rintro e w' ⟨rfl, ⟨nd, rfl⟩⟩; refine ⟨_, rfl, ?_⟩)
    go_ret2
    exact ⟨_, by rfl, (Kd.R_nil _ _ _ _ _), by repeat (first | (with_reducible first | exact HB.out | apply below_alloc | apply pw_below_drewN | apply below_drew1) | exact HB.out)⟩
   ·rw [if_neg c6] at H
    have c6b0 : decide (t479 < (l1.length : Int)) = false := df_ c6
    clear c6
    have H' := ak_ H
    clear H
    go_enter Try.func80, Try.ntmps80
    go_wp2_with ((with_reducible refine gate_callee (f := 82) rfl ?_); refine goesL_ (some 15) rfl rfl Try.func82 (by kernel_rfl) rfl #[.slice A0 l0.length c0] rfl (by (try simp only [List.map_toArray, List.map_cons, List.map_nil]); first | done | rfl | (simp only [List.length_drop, List.length_take]; rfl)) ?_; (with_reducible refine (pack_Size.calls k _ _ l0 t479 true _ ?side1 ?side2 A3.out).mono ?_); (case side1 => exact HR0.out); (case side2 => exact HC0.out); rintro e w' ⟨rfl, ⟨nd, rfl⟩⟩; refine ⟨_, rfl, ?_⟩)
    go_loopg [1, 8, 33] k (fun kq v1 v8 v33 w' => ∃ (x1_1 : List Int) (x8_1 : List Int) (x33_1 : Int), v33 = .int .i64 x33_1 ∧ Aside0 (pack_Take.l0 kq x1_1 x8_1 l0 (l0.length : Int) x33_1 = some (r1, r2)) ∧ Aside0 (kq ≤ k) ∧ Aside0 (Kd.V (Kd.int .u8) 5 w' w.heap.size (fun k_ => (P1_ k_ ∨ w.heap.size ≤ k_) ∧ some k_ ≠ (v8 : Value).ownBlock) v1 x1_1) ∧ Aside0 (Kd.R (Kd.int .i64) 3 w' w.heap.size (fun k_ => (w.heap.size ≤ k_)) v8 x8_1) ∧ Aside0 (Below w.heap.size w w'))
    case atStart => exact ⟨(l1), (([] : List Int)), (0), (by rfl), H', ⟨Nat.le_refl _⟩, ⟨by (with_reducible repeat (first | apply Kd.V_alloc | apply Kd.V_drewN | apply Kd.V_drew)); exact Kd.V_mono HO1.out (fun _ hk => ⟨hk, (by simp [Value.ownBlock])⟩)⟩, ⟨(Kd.R_nil _ _ _ _ _)⟩, ⟨by repeat (first | (with_reducible first | exact HB.out | apply below_alloc | apply pw_below_drewN | apply below_drew1) | exact HB.out)⟩⟩
    case round =>
     clear H'
     clear c5b0 c6b0
     obtain ⟨x1_1, x8_1, x33_1, rfl, HA, HK1, HO_1, HO_8, HB⟩ := hrel
     cases gk with
     | zero => exact absurd HA.out (by simp [pack_Take.l0])
     | succ k1 =>
      have H := HA.out
      clear HA
      simp only [pack_Take.l0] at H
      by_cases c7 : x33_1 < (l0.length : Int)
      ·rw [if_pos c7] at H
       have c7b0 := dt_ c7
       clear c7
       by_cases c8 : 0 ≤ x33_1
       ·rw [if_pos c8] at H
        have c8b0 := dt_ c8
        clear c8
        by_cases c9 : x33_1 < (l0.length : Int)
        ·rw [if_pos c9] at H
         have c9b0 := dt_ c9
         clear c9
         have H' := ak_ H
         clear H
         have p481 : 0 ≤ (x33_1 : Int) := od_ ‹_›
         have q481 : x33_1 < (l0.length : Int) := od_ ‹_›
         obtain ⟨ad481, e481, hx481_0⟩ := Kd.at_int HR0.out x33_1 p481 q481
         cases e481
         replace hx481_0 := (HB.out.cell (World.block_lt_of_cell? w _ hx481_0)).trans hx481_0
         replace p481 := eq_true p481
         replace q481 := eq_true q481
         go_wp2
         go_loopg [11, 12] k1 (fun kq v11 v12 w' => ∃ (x11_2 : Int) (x12_2 : Int), v11 = .int .u64 x11_2 ∧ v12 = .int .i64 x12_2 ∧ Aside0 (pack_Take.l1 kq x1_1 x8_1 (rd l0 x33_1) x11_2 x12_2 l0 (l0.length : Int) x33_1 = some (r1, r2)) ∧ Aside0 (kq ≤ k1) ∧ Aside0 (Kd.V (Kd.int .u8) 5 w' w.heap.size (fun k_ => (P1_ k_ ∨ w.heap.size ≤ k_) ∧ some k_ ≠ (u8 : Value).ownBlock) u1 x1_1) ∧ Aside0 (Kd.R (Kd.int .i64) 3 w' w.heap.size (fun k_ => (w.heap.size ≤ k_)) u8 x8_1) ∧ Aside0 (Below w.heap.size w w'))
         case atStart => exact ⟨(0), (wrap64 ((rd l0 x33_1) - 1)), (by rfl), (by rfl), H', ⟨Nat.le_refl _⟩, ⟨HO_1.out⟩, ⟨HO_8.out⟩, ⟨HB.out⟩⟩
         case round =>
          clear H'
          clear c7b0 c8b0 c9b0 hx481_0 p481 q481
          obtain ⟨x11_2, x12_2, rfl, rfl, HA, HK2, HO_1, HO_8, HB⟩ := hrel
          cases gk with
          | zero => exact absurd HA.out (by simp [pack_Take.l1])
          | succ k2 =>
           have H := HA.out
           clear HA
           simp only [pack_Take.l1] at H
           by_cases c10 : x12_2 ≥ 0
           ·rw [if_pos c10] at H
            have c10b0 : decide (0 ≤ x12_2) = true := dt_ c10
            clear c10
            by_cases c11 : 0 ≤ x12_2
            ·rw [if_pos c11] at H
             have c11b0 := dt_ c11
             clear c11
             by_cases c12 : x12_2 < (x1_1.length : Int)
             ·rw [if_pos c12] at H
              have c12b0 := dt_ c12
              clear c12
              have H' := ak_ H
              clear H
              obtain ⟨Ao13, co13, eo13⟩ := Kd.V_slice HO_1.out
              subst eo13
              have p482 : 0 ≤ (x12_2 : Int) := od_ ‹_›
              have q482 : x12_2 < (x1_1.length : Int) := od_ ‹_›
              obtain ⟨ad482, e482, hx482_0⟩ := Kd.at_int (Kd.V_reads' HO_1.out).2.2 x12_2 p482 q482
              cases e482
              replace p482 := eq_true p482
              replace q482 := eq_true q482
              go_wp2
              go_roundg k2
              case measure => have := HK1.out; have := HK2.out; omega
              case rel => exact ⟨(Go.bits .or .u64 (IntKind.u64.wrap (x11_2 * 256)) (IntKind.u64.wrap (rd x1_1 x12_2))), (wrap64 (x12_2 - 1)), (by rfl), (by rfl), H', ⟨by have := HK1.out; have := HK2.out; omega⟩, ⟨HO_1.out⟩, ⟨HO_8.out⟩, ⟨HB.out⟩⟩
             ·rw [if_neg c12] at H
              exact absurd H (by simp)
            ·rw [if_neg c11] at H
             exact absurd H (by simp)
           ·rw [if_neg c10] at H
            have c10b0 : decide (0 ≤ x12_2) = false := df_ c10
            clear c10
            by_cases c14 : x11_2 > 4611686018427387904
            ·rw [if_pos c14] at H
             have c14b0 : decide (4611686018427387904 < x11_2) = true := dt_ c14
             clear c14
             simp only [Option.some.injEq, Prod.mk.injEq] at H
             obtain ⟨rfl, rfl⟩ := H
             go_wp2
             go_ret2
             exact ⟨_, by rfl, (Kd.R_nil _ _ _ _ _), HB.out⟩
            ·rw [if_neg c14] at H
             have c14b0 : decide (4611686018427387904 < x11_2) = false := df_ c14
             clear c14
             by_cases c15 : x8_1.length < 17592186044416
             ·rw [if_pos c15] at H
              have LMc15 := ak_ c15
              clear c15
              obtain ⟨y483, hy483⟩ : ∃ y_ : List Int, y_ = (x8_1 ++ [wrap64 (x11_2)]) := ⟨_, rfl⟩
              replace H : (if 0 ≤ (rd l0 x33_1) then (if (rd l0 x33_1) ≤ (x1_1.length : Int) then (pack_Take.l0 k2 (x1_1.drop ((rd l0 x33_1) : Int).toNat) y483 l0 (l0.length : Int) (wrap64 (x33_1 + 1))) else (none)) else (none)) = some (r1, r2) := (by rw [hy483]; with_reducible exact H)
              have Ny483 := ak_ hy483
              clear hy483
              by_cases c16 : 0 ≤ (rd l0 x33_1)
              ·rw [if_pos c16] at H
               have c16b0 := eq_true c16
               have c16b1 := dt_ c16
               clear c16
               by_cases c17 : (rd l0 x33_1) ≤ (x1_1.length : Int)
               ·rw [if_pos c17] at H
                have c17b0 := eq_true c17
                have c17b1 := dt_ c17
                clear c17
                obtain ⟨y486, hy486⟩ : ∃ y_ : List Int, y_ = (x1_1.drop ((rd l0 x33_1) : Int).toNat) := ⟨_, rfl⟩
                replace H : (pack_Take.l0 k2 y486 y483 l0 (l0.length : Int) (wrap64 (x33_1 + 1))) = some (r1, r2) := (by rw [hy486]; with_reducible exact H)
                have Ny486 := ak_ hy486
                clear hy486
                have H' := ak_ H
                clear H
                go_wp2_with ((with_reducible refine gate_builtin (b := .append) (xs := #[.tmp 53, .tmp 56]) rfl ?_); at_builtin; refine Kd.R_append (Kd.int .i64) (w0 := w) w.heap.size rfl (.tmp 53) (.tmp 56) 67 3 (.int .i64 0) 8 rfl Try.underlying67 info3 rfl (by decide) (by omega) u8 x8_1 (wrap64 (x11_2)) [.int .i64 (wrap64 (x11_2))] (fun k_ => (w.heap.size ≤ k_)) (fun _ => False) rfl rfl ?aP (fun _ hk => hk.elim) ?aF ?aO ?aB ?aS ?aL ?_; (case aP => exact rfl); (case aB => exact HB.out); (case aF => exact (fun k_ hk => (Nat.le_trans (below_size HB.out) hk))); (case aO => exact HO_8.out); (case aS => exact (below_size HB.out)); (case aL => have := LMc15.out; omega); intro v484 w18 ho hb hg hat; rw [← Ny483.out] at ho; have n0_ := ak_ (Kd.V_afterv (ok := (fun k_ => (P1_ k_ ∨ w.heap.size ≤ k_))) HO_1.out hg hat); have n1_ := ak_ (hb); have n2_ := ak_ (ho); clear HO_1; clear HB; clear HO_8; have HO_1 := n0_; have HB := n1_; have HO485 := n2_; clear n0_ n1_ n2_; clear ho hb hg hat; obtain ⟨Ao20, co20, eo20⟩ := Kd.V_slice HO_1.out; subst eo20; have q19 : ((rd l0 x33_1) : Int) ≤ ((x1_1.length : Int) : Int) := od_ ‹_›; obtain ⟨i019, hi019, _, hsz19, _⟩ := info_parts info5; have hroom19 : x1_1.length ≤ co20 := (Kd.V_reads' HO_1.out).2.1; have hC19 : Kd.F (Kd.int .u8) _ _ Ao20 x1_1.length x1_1 := (Kd.V_at (base := w.heap.size) HO_1.out).2.2; have q019 : (0 : Int) ≤ ((rd l0 x33_1) : Int) := od_ ‹_›; have hcut19 := cut_from (P := Try.prog) 24 5 .i64 Try.underlying24 hi019 1 hsz19 Ao20 x1_1.length co20 (rd l0 x33_1) q019 q19; have hr19 := Kd.F_cut (m := ((rd l0 x33_1) : Int).toNat) (c := co20) hC19 (by omega) hroom19; obtain ⟨A19, hA19⟩ : ∃ A1, A1 = (if co20 = ((rd l0 x33_1) : Int).toNat then Ao20 else (Ao20 : Option Addr).map (·.add (((rd l0 x33_1) : Int).toNat * 1))) := ⟨_, rfl⟩; obtain ⟨c19, hc19⟩ : ∃ c1, c1 = co20 - ((rd l0 x33_1) : Int).toNat := ⟨_, rfl⟩; have hy19 : y486.length = x1_1.length - ((rd l0 x33_1) : Int).toNat := (by rw [Ny486.out, List.length_drop] <;> omega); rw [show (x1_1).drop ((rd l0 x33_1) : Int).toNat = y486 from Ny486.out.symm] at hr19; replace hr19 : Kd.F (Kd.int .u8) _ _ A19 y486.length y486 := (by rw [hA19]; exact hr19); rw [← hy19, ← hA19, ← hc19] at hcut19; have HO490 := ak_ (show Kd.V (Kd.int .u8) 5 _ w.heap.size _ (.slice A19 y486.length c19) y486 from Kd.V_mk (by rw [hy19, hc19]; exact Nat.sub_le_sub_right hroom19 _) hr19); have HC490 := ak_ (show y486.length ≤ c19 from by rw [hy19, hc19]; exact Nat.sub_le_sub_right hroom19 _); clear hr19 hC19 hroom19 hi019 hsz19 hc19; have KY19 := ak_ hy19; have KA19 := ak_ hA19; clear hy19 hA19; replace q19 := eq_true q19)
                go_roundg k2
                case measure => have := HK1.out; have := HK2.out; omega
                case rel => exact ⟨(y486), (y483), (wrap64 (x33_1 + 1)), (by rfl), H', ⟨by have := HK1.out; have := HK2.out; omega⟩, ⟨HO490.out⟩, ⟨HO485.out⟩, ⟨HB.out⟩⟩
               ·rw [if_neg c17] at H
                exact absurd H (by simp)
              ·rw [if_neg c16] at H
               exact absurd H (by simp)
             ·rw [if_neg c15] at H
              exact absurd H (by simp)
        ·rw [if_neg c9] at H
         exact absurd H (by simp)
       ·rw [if_neg c8] at H
        exact absurd H (by simp)
      ·rw [if_neg c7] at H
       have c7b0 := df_ c7
       clear c7
       simp only [Option.some.injEq, Prod.mk.injEq] at H
       obtain ⟨rfl, rfl⟩ := H
       go_wp2
       go_ret2
       exact ⟨_, by rfl, by (with_reducible repeat (first | apply Kd.R_alloc | apply Kd.R_drewN | apply Kd.R_drew)); exact HO_8.out, HB.out⟩
 ·replace c4 := Bool.eq_false_iff.mpr c4
  subst c4
  rw [if_neg (show ¬ (false = true) by decide)] at H
  simp only [Option.some.injEq, Prod.mk.injEq] at H
  obtain ⟨rfl, rfl⟩ := H
  go_enter Try.func80, Try.ntmps80
  go_wp2_with ((with_reducible refine gate_callee (f := 82) rfl ?_); refine goesL_ (some 15) rfl rfl Try.func82 (by kernel_rfl) rfl #[.slice A0 l0.length c0] rfl (by (try simp only [List.map_toArray, List.map_cons, List.map_nil]); first | done | rfl | (simp only [List.length_drop, List.length_take]; rfl)) ?_; (with_reducible refine (pack_Size.calls k _ _ l0 t479 false _ ?side1 ?side2 A3.out).mono ?_); (case side1 => exact HR0.out); (case side2 => exact HC0.out); rintro e w' ⟨rfl, ⟨nd, rfl⟩⟩; refine ⟨_, rfl, ?_⟩)
  go_ret2
  exact ⟨_, by rfl, (Kd.R_nil _ _ _ _ _), by repeat (first | (with_reducible first | exact HB.out | apply below_alloc | apply pw_below_drewN | apply below_drew1) | exact HB.out)⟩
end Go.Proofs.Ytmehbabchakkpaa.QLadderWalks
namespace Go.Proofs.Ytmehbabchakkpaa.QLadderWalks
open Go.RowKit YtmehbabchakkpaaW.PrintWords YtmehbabchakkpaaW.PrintLast YtmehbabchakkpaaW.PrintMore Short
attribute [local go_sem] max2_int min2_int max_two min_two max_three min_three max_four min_four
set_option linter.unusedVariables false
set_option maxHeartbeats 8000000
set_option maxRecDepth 100000
set_option linter.unusedSimpArgs false
def tag_Take.j0 : Nat → Bool → Int → Int → Int → Int → Option (Int × Int × Int × Int × Int)
 | 0, _, _, _, _, _ => none
 | k + 1, x44, x231000, x231001, x231002, x231003 => if x44 = true then (some (0, 0, 0, 0, 11)) else (some (x231000, x231001, x231002, x231003, 0))
def tag_Take.f (k : Nat) (l0 : List Int) : Option (Int × Int × Int × Int × Int) := (tag_layout.f).bind fun t219 => ((pack_Take.f k t219 l0).bind fun bt222 => (if bt222.2 = 0 then (if 1 < (bt222.1.length : Int) then (if 2 < (bt222.1.length : Int) then (if 3 < (bt222.1.length : Int) then (if 4 < (bt222.1.length : Int) then (if 0 < (bt222.1.length : Int) then (if (rd bt222.1 0) = 0 then (if 5 < (bt222.1.length : Int) then (if (rd bt222.1 5) = 0 then ((tag_May.f (rd bt222.1 1) (rd bt222.1 2) (rd bt222.1 3) (rd bt222.1 4)).bind fun t233 => (tag_Take.j0 k (!t233) (rd bt222.1 1) (rd bt222.1 2) (rd bt222.1 3) (rd bt222.1 4))) else (tag_Take.j0 k true (rd bt222.1 1) (rd bt222.1 2) (rd bt222.1 3) (rd bt222.1 4))) else (none)) else (tag_Take.j0 k true (rd bt222.1 1) (rd bt222.1 2) (rd bt222.1 3) (rd bt222.1 4))) else (none)) else (none)) else (none)) else (none)) else (none)) else (some (0, 0, 0, 0, bt222.2))))
theorem tag_Take.mono_l : ∀ k, (∀ y0 y1 y2 y3 y4, LeO (tag_Take.j0 k y0 y1 y2 y3 y4) (tag_Take.j0 (k + 1) y0 y1 y2 y3 y4))
 | 0 => fun _ _ _ _ _ r h => by simp [tag_Take.j0] at h
 | k + 1 => by
  have ih0 := tag_Take.mono_l k
  ·intro y0 y1 y2 y3 y4
   unfold tag_Take.j0
   repeat' first
   | (with_reducible exact ih0 _ _ _ _ _)
   | (with_reducible exact pack_Take.mono _ _ _)
   | (with_reducible exact LeO.refl _)
   | (with_reducible exact LeO.none _)
   | (with_reducible refine LeO.ite ?_ ?_)
   | (with_reducible refine LeO.bind ?_ (fun _ => ?_))
theorem tag_Take.mono : ∀ a0 k, LeO (tag_Take.f k a0) (tag_Take.f (k + 1) a0) := by
 intro a0 k
 have ih0 := tag_Take.mono_l k
 unfold tag_Take.f
 repeat' with_reducible first
  | exact ih0 _ _ _ _ _
  | exact pack_Take.mono _ _ _
  | exact LeO.refl _
  | exact LeO.none _
  | refine LeO.ite ?_ ?_
  | refine LeO.bind ?_ (fun _ => ?_)
def tag_Take.T4 : Bool × List (List Nat × List Nat) := (true, [([], []), ([0], [0]), ([1], [1]), ([], []), ([3], [3]), ([4], [4]), ([], []), ([6], [6]), ([7], [7]), ([], []), ([9], [9]), ([10], [10]), ([2, 5, 8, 11], [2, 5, 8, 11]), ([], []), ([13, 12, 0, 1, 2, 3, 4, 5, 6, 7, 8, 9, 10, 11, 12, 13], [12, 13])])
def tag_Take.B4 : List Nat := [0, 1, 3, 0, 8, 24, 0, 64, 192, 0, 512, 1536, 4095, 0, 16383]
theorem tag_Take.tab4 : rtab .any (opsOf Try.f62 4) = tag_Take.T4 := by kernel_rfl
theorem tag_Take.bits4 : waitsOk tag_Take.T4.2 tag_Take.B4 = true := by kernel_rfl
theorem tag_Take.calls (k : Nat) (A0 : Option Addr) (c0 : Nat) (l0 : List Int) (r1 : Int) (r2 : Int) (r3 : Int) (r4 : Int) (r5 : Int) (w : World) (hr0 : Kd.C (Kd.int .u8) w A0 l0.length l0) (hc0 : l0.length ≤ c0) (h : tag_Take.f k l0 = some (r1, r2, r3, r4, r5)) :
  Calls Try.prog 62 #[.slice A0 l0.length c0] w fun e w' => e = .returned (.tuple #[.agg #[.int .i64 r1, .int .i64 r2, .int .i64 r3, .int .i64 r4], .int .i64 r5]) ∧ Below w.heap.size w w' := by
 have hu26 := Try.underlying26
 have HR0 := ak_ hr0
 have HC0 := ak_ hc0
 clear hr0 hc0
 have HB := br_ w
 unfold tag_Take.f at h
 have H := h
 clear h
 obtain ⟨t492, A2, H⟩ := bs_ H
 obtain ⟨⟨t495, t498⟩, A3, H⟩ := bs_ H
 try dsimp only at H
 by_cases c4 : t498 = 0
 ·rw [if_pos c4] at H
  have c4b0 := beq_iff_eq.mpr c4
  have c4b1 := bne_eq_false_iff_eq.mpr c4
  clear c4
  by_cases c5 : 1 < (t495.length : Int)
  ·rw [if_pos c5] at H
   have c5b0 := dt_ c5
   have c5b1 : decide (1 < t495.length) = true := dt_ (by omega)
   clear c5
   by_cases c6 : 2 < (t495.length : Int)
   ·rw [if_pos c6] at H
    have c6b0 := dt_ c6
    have c6b1 : decide (2 < t495.length) = true := dt_ (by omega)
    clear c6
    by_cases c7 : 3 < (t495.length : Int)
    ·rw [if_pos c7] at H
     have c7b0 := dt_ c7
     have c7b1 : decide (3 < t495.length) = true := dt_ (by omega)
     clear c7
     by_cases c8 : 4 < (t495.length : Int)
     ·rw [if_pos c8] at H
      have c8b0 := dt_ c8
      have c8b1 : decide (4 < t495.length) = true := dt_ (by omega)
      clear c8
      have HC9 := ak_ H
      clear H
      go_enter Try.func62, Try.ntmps62
      try go_wp2_with (first | ((with_reducible refine gate_dst (N := 2) rfl ?_); refine box_event ?hg (N := 2) ?hd (cs := #[.int .i64 0, .int .i64 0, .int .i64 0, .int .i64 0]) (t := 26) ?hr ?_; (case hd => rfl); (case hg => rfl); (case hr => (go_simp; done)); intro gb491 hg w10 hbox hb; have BK491 := ak_ (hbox); have GW491 := ak_ (gw_ hg (below_size HB.out)); have GE491 := ak_ (gw_ hg (below_size HB.out)); replace HB := ak_ (below_step HB.out hb); clear hb hbox hg) | ((with_reducible refine gate_callee (f := 67) rfl ?_); refine goesL_ (some 8) rfl rfl Try.func67 (by kernel_rfl) rfl #[] rfl (by (try simp only [List.map_toArray, List.map_cons, List.map_nil]); done) ?_; (with_reducible refine (tag_layout.calls  t492 _ A2.out).mono ?_); rintro e w11 ⟨v493, rfl, ho0, hb⟩; refine ⟨_, rfl, ?_⟩; have HO494 := ak_ (Kd.R_lower ho0 (below_size HB.out)); replace BK491 := ak_ (blk_below BK491.out hb); replace HB := ak_ (below_step HB.out hb); (try clear hb); (try clear ho0); obtain ⟨Ao12, co12, eo12⟩ := Kd.R_slice HO494.out; subst eo12) | ((with_reducible refine gate_callee (f := 80) rfl ?_); refine goesL_ (some 10) rfl rfl Try.func80 (by kernel_rfl) rfl #[.slice Ao12 t492.length co12, .slice A0 l0.length c0] rfl (by (try simp only [List.map_toArray, List.map_cons, List.map_nil]); first | done | rfl | (simp only [List.length_drop, List.length_take]; rfl)) ?_; (with_reducible refine (pack_Take.calls k _ _ t492 (fun k_ => k_ < w.heap.size) _ _ l0 t495 t498 _ ?side1 ?side2 ?side3 A3.out).mono ?_); (case side1 => exact (Kd.R_reads' HO494.out).2.2); (case side2 => exact (Kd.R_reads' HO494.out).2.1); (case side3 => exact Kd.V_mk HC0.out (Kd.F_below (Kd.C_F (Kd.heap_int .u8) HR0.out) HB.out)); rintro e w13 ⟨v496, rfl, ho0, hb⟩; refine ⟨_, rfl, ?_⟩; have HO497 := ak_ (Kd.R_lower (Kd.R_new' (Kd.R_mono (ok' := fun k_ => True) ho0 (fun _ hk_ => trivial)) (Kd.R_lt HO494.out)) (below_size HB.out)); replace HO494 := ak_ (Kd.R_elder' HO494.out (Kd.R_base ho0) hb); replace BK491 := ak_ (blk_below BK491.out hb); replace HB := ak_ (below_step HB.out hb); (try clear hb); (try clear ho0)))
      replace HO494 := ak_ (Kd.R_drew HO494.out)
      replace HO497 := ak_ (Kd.R_drew HO497.out)
      replace BK491 := ak_ (blk_drew BK491.out)
      replace HB := ak_ (below_drew1 HB.out)
      obtain ⟨Ao15, co15, eo15⟩ := Kd.R_slice HO497.out
      (subst eo15)
      have p499 : 0 ≤ (1 : Int) := (by omega)
      have q499 : 1 < (t495.length : Int) := od_ ‹_›
      obtain ⟨ad499, e499, hx499_0⟩ := Kd.at_int (Kd.R_reads' HO497.out).2.2 1 p499 q499
      cases e499
      (try simp only [show (1 : Int).toNat = 1 from rfl, Nat.reduceMul, Nat.reduceEqDiff, Go.Addr.add, ↓reduceIte] at hx499_0)
      have qi499 : (1 < t495.length) = True := eq_true (by omega)
      (try rw [show ((1 : Int)).toNat = 1 from rfl] at hx499_0)
      replace p499 := eq_true p499
      replace q499 := eq_true q499
      have p500 : 0 ≤ (2 : Int) := (by omega)
      have q500 : 2 < (t495.length : Int) := od_ ‹_›
      obtain ⟨ad500, e500, hx500_0⟩ := Kd.at_int (Kd.R_reads' HO497.out).2.2 2 p500 q500
      obtain rfl : ad499 = ad500 := (by injection e500)
      (try simp only [show (2 : Int).toNat = 2 from rfl, Nat.reduceMul, Nat.reduceEqDiff, Go.Addr.add, ↓reduceIte] at hx500_0)
      have qi500 : (2 < t495.length) = True := eq_true (by omega)
      (try rw [show ((2 : Int)).toNat = 2 from rfl] at hx500_0)
      replace p500 := eq_true p500
      replace q500 := eq_true q500
      have p501 : 0 ≤ (3 : Int) := (by omega)
      have q501 : 3 < (t495.length : Int) := od_ ‹_›
      obtain ⟨ad501, e501, hx501_0⟩ := Kd.at_int (Kd.R_reads' HO497.out).2.2 3 p501 q501
      obtain rfl : ad499 = ad501 := (by injection e501)
      (try simp only [show (3 : Int).toNat = 3 from rfl, Nat.reduceMul, Nat.reduceEqDiff, Go.Addr.add, ↓reduceIte] at hx501_0)
      have qi501 : (3 < t495.length) = True := eq_true (by omega)
      (try rw [show ((3 : Int)).toNat = 3 from rfl] at hx501_0)
      replace p501 := eq_true p501
      replace q501 := eq_true q501
      have p502 : 0 ≤ (4 : Int) := (by omega)
      have q502 : 4 < (t495.length : Int) := od_ ‹_›
      obtain ⟨ad502, e502, hx502_0⟩ := Kd.at_int (Kd.R_reads' HO497.out).2.2 4 p502 q502
      obtain rfl : ad499 = ad502 := (by injection e502)
      (try simp only [show (4 : Int).toNat = 4 from rfl, Nat.reduceMul, Nat.reduceEqDiff, Go.Addr.add, ↓reduceIte] at hx502_0)
      have qi502 : (4 < t495.length) = True := eq_true (by omega)
      (try rw [show ((4 : Int)).toNat = 4 from rfl] at hx502_0)
      replace p502 := eq_true p502
      replace q502 := eq_true q502
      refine start_ (n := 15) (S := fun w' => w'.cell? ⟨ad499.block, ad499.off + 1, none⟩ = some (.int .i64 (rd t495 1)) ∧ w'.cell? ⟨ad499.block, ad499.off + 2, none⟩ = some (.int .i64 (rd t495 2)) ∧ w'.cell? ⟨ad499.block, ad499.off + 3, none⟩ = some (.int .i64 (rd t495 3)) ∧ w'.cell? ⟨ad499.block, ad499.off + 4, none⟩ = some (.int .i64 (rd t495 4))) (ds := []) #[false, false, false, false, false, false, false, false, false, false, false, false, false, false, false] (by kernel_rfl) rfl rfl ⟨hx499_0, hx500_0, hx501_0, hx502_0⟩ (fun hHeld => ?_); refine with_tabW tag_Take.tab4 tag_Take.bits4 (fun HT_ HW_ => ?_)
      generalize w13.drew = w14 at HO494 HO497 BK491 HB hx499_0 hx500_0 hx501_0 hx502_0 hHeld ⊢
      refine pu 0 (some 17) #[true, false, false, false, false, false, false, false, false, false, false, false, false, false, false] HT_.out rfl rfl ?_
      refine pu 1 (some 18) #[true, true, false, false, false, false, false, false, false, false, false, false, false, false, false] HT_.out rfl rfl ?_
      refine pu 3 (some 20) #[true, true, false, true, false, false, false, false, false, false, false, false, false, false, false] HT_.out rfl rfl ?_
      refine pu 4 (some 21) #[true, true, false, true, true, false, false, false, false, false, false, false, false, false, false] HT_.out rfl rfl ?_
      refine pu 6 (some 23) #[true, true, false, true, true, false, true, false, false, false, false, false, false, false, false] HT_.out rfl rfl ?_
      refine pu 7 (some 24) #[true, true, false, true, true, false, true, true, false, false, false, false, false, false, false] HT_.out rfl rfl ?_
      refine pu 9 (some 26) #[true, true, false, true, true, false, true, true, false, true, false, false, false, false, false] HT_.out rfl rfl ?_
      refine pu 10 (some 27) #[true, true, false, true, true, false, true, true, false, true, true, false, false, false, false] HT_.out rfl rfl ?_
      refine take_ (i := 2) (N := some 19) (v := ?_) (a' := ?_) #[true, true, true, true, true, false, true, true, false, true, true, false, false, false, false] rfl rfl (take_ofW HT_.out HW_.out (by kernel_rfl)) (fun _ _ _ h => h) (Or.inl ⟨by rfl, ?_⟩) hHeld ?_ ?_
      rotate_left
      ·rintro w' ⟨s0, s1, s2, s3⟩
       go_simp
       with_reducible rfl
      rotate_left
      ·simp only [Act.put, sb_, sz_, su_, i64_w, i32_w]
       rfl
      refine take_ (i := 5) (N := some 22) (v := ?_) (a' := ?_) #[true, true, true, true, true, true, true, true, false, true, true, false, false, false, false] rfl rfl (take_ofW HT_.out HW_.out (by kernel_rfl)) (fun _ _ _ h => h) (Or.inl ⟨by rfl, ?_⟩) hHeld ?_ ?_
      rotate_left
      ·rintro w' ⟨s0, s1, s2, s3⟩
       go_simp
       with_reducible rfl
      rotate_left
      ·simp only [Act.put, sb_, sz_, su_, i64_w, i32_w]
       rfl
      refine take_ (i := 8) (N := some 25) (v := ?_) (a' := ?_) #[true, true, true, true, true, true, true, true, true, true, true, false, false, false, false] rfl rfl (take_ofW HT_.out HW_.out (by kernel_rfl)) (fun _ _ _ h => h) (Or.inl ⟨by rfl, ?_⟩) hHeld ?_ ?_
      rotate_left
      ·rintro w' ⟨s0, s1, s2, s3⟩
       go_simp
       with_reducible rfl
      rotate_left
      ·simp only [Act.put, sb_, sz_, su_, i64_w, i32_w]
       rfl
      refine take_ (i := 11) (N := some 28) (v := ?_) (a' := ?_) #[true, true, true, true, true, true, true, true, true, true, true, true, false, false, false] rfl rfl (take_ofW HT_.out HW_.out (by kernel_rfl)) (fun _ _ _ h => h) (Or.inl ⟨by rfl, ?_⟩) hHeld ?_ ?_
      rotate_left
      ·rintro w' ⟨s0, s1, s2, s3⟩
       go_simp
       with_reducible rfl
      rotate_left
      ·simp only [Act.put, sb_, sz_, su_, i64_w, i32_w]
       rfl
      refine pu 12 (some 29) #[true, true, true, true, true, true, true, true, true, true, true, true, true, false, false] HT_.out rfl rfl ?_
      refine one_ (i := 13) (N := some 6) #[true, true, true, true, true, true, true, true, true, true, true, true, true, true, false] rfl rfl (one_of HT_.out (by kernel_rfl)) (by decide) (fun K hK => ?_)
      refine box_step ?hg (N := 6) ?hd (cs := #[.int .i64 0, .int .i64 0, .int .i64 0, .int .i64 0]) (t := 26) ?hr ?_; (case hd => rfl); (case hg => rfl); (case hr => (go_simp; done))
      intro gb503 hg w16 hbox hb
      have HS0_ := (hb.cell (World.block_lt_of_cell? _ _ (hHeld.1))).trans (hHeld.1)
      have HS1_ := (hb.cell (World.block_lt_of_cell? _ _ (hHeld.2.1))).trans (hHeld.2.1)
      have HS2_ := (hb.cell (World.block_lt_of_cell? _ _ (hHeld.2.2.1))).trans (hHeld.2.2.1)
      have HS3_ := (hb.cell (World.block_lt_of_cell? _ _ (hHeld.2.2.2))).trans (hHeld.2.2.2)
      have n0_ := ak_ (Kd.R_below HO494.out hb)
      have n1_ := ak_ (Kd.R_below HO497.out hb)
      have n2_ := ak_ (blk_below BK491.out hb)
      have n3_ := ak_ (below_step HB.out hb)
      have n4_ := ak_ (hbox)
      have n5_ := ak_ (gw_ hg (below_size HB.out))
      have n6_ := ak_ (gw_ hg (below_size HB.out))
      have n7_ := ak_ ((by rw [hg]; exact Nat.ne_of_lt (blk_lt BK491.out) : gb491 ≠ gb503))
      have n8_ := ak_ ((by rw [hg]; exact Nat.ne_of_gt (blk_lt BK491.out) : gb503 ≠ gb491))
      clear HO494 HO497 BK491 HB
      have HO494 := n0_
      have HO497 := n1_
      have BK491 := n2_
      have HB := n3_
      have BK503 := n4_
      have GW503 := n5_
      have GE503 := n6_
      have NB491_503 := n7_
      have NB503_491 := n8_
      clear n0_ n1_ n2_ n3_ n4_ n5_ n6_ n7_ n8_ hb hbox hg
      refine hK.out _ _ ⟨HS0_, HS1_, HS2_, HS3_⟩ (fun hHeld => ?_)
      clear hK K
      refine norm_ (a' := ?_) ?_ ?_
      rotate_left
      ·show Act.put _ (some 6) _ = _
       simp only [Act.put, sb_, sz_, su_, i64_w, i32_w]
       rfl
      refine one_ (i := 14) (N := none) #[true, true, true, true, true, true, true, true, true, true, true, true, true, true, true] rfl rfl (one_of HT_.out (by kernel_rfl)) (by decide) (fun K hK => ?_)
      have hs17 : w16.cell? ⟨gb503, 0, none⟩ = some (.int .i64 0) := (bc_ BK503.out 0).trans rfl
      have hfs17 := bf_ BK503.out 0
      have hns17_0 := NB491_503.out
      have hms17_0 := NB503_491.out
      have hs18 : w16.cell? ⟨gb503, 1, none⟩ = some (.int .i64 0) := (bc_ BK503.out 1).trans rfl
      have hfs18 := bf_ BK503.out 1
      have hns18_0 := NB491_503.out
      have hms18_0 := NB503_491.out
      have hs19 : w16.cell? ⟨gb503, 2, none⟩ = some (.int .i64 0) := (bc_ BK503.out 2).trans rfl
      have hfs19 := bf_ BK503.out 2
      have hns19_0 := NB491_503.out
      have hms19_0 := NB503_491.out
      have hs20 : w16.cell? ⟨gb503, 3, none⟩ = some (.int .i64 0) := (bc_ BK503.out 3).trans rfl
      have hfs20 := bf_ BK503.out 3
      have hns20_0 := NB491_503.out
      have hms20_0 := NB503_491.out
      refine skip_ (w1 := ?_) (by rfl) rfl ?_ ?_
      rotate_left
      ·go_simp
       rfl
      refine hK.out _ _ ⟨((cell_far (p := ⟨gb503, _, none⟩) (by first | exact Kd.own_blk (Kd.R_ne HO497.out BK503.out (by decide)) | (rw [add_block]; exact Kd.own_blk (Kd.R_ne HO497.out BK503.out (by decide))) | (show (Addr.add _ _).block ≠ _; rw [add_block]; exact Kd.own_blk (Kd.R_ne HO497.out BK503.out (by decide))) | (dsimp only; exact Kd.own_blk (Kd.R_ne HO497.out BK503.out (by decide)))) _).trans (((cell_far (p := ⟨gb503, _, none⟩) (by first | exact Kd.own_blk (Kd.R_ne HO497.out BK503.out (by decide)) | (rw [add_block]; exact Kd.own_blk (Kd.R_ne HO497.out BK503.out (by decide))) | (show (Addr.add _ _).block ≠ _; rw [add_block]; exact Kd.own_blk (Kd.R_ne HO497.out BK503.out (by decide))) | (dsimp only; exact Kd.own_blk (Kd.R_ne HO497.out BK503.out (by decide)))) _).trans (((cell_far (p := ⟨gb503, _, none⟩) (by first | exact Kd.own_blk (Kd.R_ne HO497.out BK503.out (by decide)) | (rw [add_block]; exact Kd.own_blk (Kd.R_ne HO497.out BK503.out (by decide))) | (show (Addr.add _ _).block ≠ _; rw [add_block]; exact Kd.own_blk (Kd.R_ne HO497.out BK503.out (by decide))) | (dsimp only; exact Kd.own_blk (Kd.R_ne HO497.out BK503.out (by decide)))) _).trans (((cell_far (p := ⟨gb503, _, none⟩) (by first | exact Kd.own_blk (Kd.R_ne HO497.out BK503.out (by decide)) | (rw [add_block]; exact Kd.own_blk (Kd.R_ne HO497.out BK503.out (by decide))) | (show (Addr.add _ _).block ≠ _; rw [add_block]; exact Kd.own_blk (Kd.R_ne HO497.out BK503.out (by decide))) | (dsimp only; exact Kd.own_blk (Kd.R_ne HO497.out BK503.out (by decide)))) _).trans (hHeld.1)))))))), ((cell_far (p := ⟨gb503, _, none⟩) (by first | exact Kd.own_blk (Kd.R_ne HO497.out BK503.out (by decide)) | (rw [add_block]; exact Kd.own_blk (Kd.R_ne HO497.out BK503.out (by decide))) | (show (Addr.add _ _).block ≠ _; rw [add_block]; exact Kd.own_blk (Kd.R_ne HO497.out BK503.out (by decide))) | (dsimp only; exact Kd.own_blk (Kd.R_ne HO497.out BK503.out (by decide)))) _).trans (((cell_far (p := ⟨gb503, _, none⟩) (by first | exact Kd.own_blk (Kd.R_ne HO497.out BK503.out (by decide)) | (rw [add_block]; exact Kd.own_blk (Kd.R_ne HO497.out BK503.out (by decide))) | (show (Addr.add _ _).block ≠ _; rw [add_block]; exact Kd.own_blk (Kd.R_ne HO497.out BK503.out (by decide))) | (dsimp only; exact Kd.own_blk (Kd.R_ne HO497.out BK503.out (by decide)))) _).trans (((cell_far (p := ⟨gb503, _, none⟩) (by first | exact Kd.own_blk (Kd.R_ne HO497.out BK503.out (by decide)) | (rw [add_block]; exact Kd.own_blk (Kd.R_ne HO497.out BK503.out (by decide))) | (show (Addr.add _ _).block ≠ _; rw [add_block]; exact Kd.own_blk (Kd.R_ne HO497.out BK503.out (by decide))) | (dsimp only; exact Kd.own_blk (Kd.R_ne HO497.out BK503.out (by decide)))) _).trans (((cell_far (p := ⟨gb503, _, none⟩) (by first | exact Kd.own_blk (Kd.R_ne HO497.out BK503.out (by decide)) | (rw [add_block]; exact Kd.own_blk (Kd.R_ne HO497.out BK503.out (by decide))) | (show (Addr.add _ _).block ≠ _; rw [add_block]; exact Kd.own_blk (Kd.R_ne HO497.out BK503.out (by decide))) | (dsimp only; exact Kd.own_blk (Kd.R_ne HO497.out BK503.out (by decide)))) _).trans (hHeld.2.1)))))))), ((cell_far (p := ⟨gb503, _, none⟩) (by first | exact Kd.own_blk (Kd.R_ne HO497.out BK503.out (by decide)) | (rw [add_block]; exact Kd.own_blk (Kd.R_ne HO497.out BK503.out (by decide))) | (show (Addr.add _ _).block ≠ _; rw [add_block]; exact Kd.own_blk (Kd.R_ne HO497.out BK503.out (by decide))) | (dsimp only; exact Kd.own_blk (Kd.R_ne HO497.out BK503.out (by decide)))) _).trans (((cell_far (p := ⟨gb503, _, none⟩) (by first | exact Kd.own_blk (Kd.R_ne HO497.out BK503.out (by decide)) | (rw [add_block]; exact Kd.own_blk (Kd.R_ne HO497.out BK503.out (by decide))) | (show (Addr.add _ _).block ≠ _; rw [add_block]; exact Kd.own_blk (Kd.R_ne HO497.out BK503.out (by decide))) | (dsimp only; exact Kd.own_blk (Kd.R_ne HO497.out BK503.out (by decide)))) _).trans (((cell_far (p := ⟨gb503, _, none⟩) (by first | exact Kd.own_blk (Kd.R_ne HO497.out BK503.out (by decide)) | (rw [add_block]; exact Kd.own_blk (Kd.R_ne HO497.out BK503.out (by decide))) | (show (Addr.add _ _).block ≠ _; rw [add_block]; exact Kd.own_blk (Kd.R_ne HO497.out BK503.out (by decide))) | (dsimp only; exact Kd.own_blk (Kd.R_ne HO497.out BK503.out (by decide)))) _).trans (((cell_far (p := ⟨gb503, _, none⟩) (by first | exact Kd.own_blk (Kd.R_ne HO497.out BK503.out (by decide)) | (rw [add_block]; exact Kd.own_blk (Kd.R_ne HO497.out BK503.out (by decide))) | (show (Addr.add _ _).block ≠ _; rw [add_block]; exact Kd.own_blk (Kd.R_ne HO497.out BK503.out (by decide))) | (dsimp only; exact Kd.own_blk (Kd.R_ne HO497.out BK503.out (by decide)))) _).trans (hHeld.2.2.1)))))))), ((cell_far (p := ⟨gb503, _, none⟩) (by first | exact Kd.own_blk (Kd.R_ne HO497.out BK503.out (by decide)) | (rw [add_block]; exact Kd.own_blk (Kd.R_ne HO497.out BK503.out (by decide))) | (show (Addr.add _ _).block ≠ _; rw [add_block]; exact Kd.own_blk (Kd.R_ne HO497.out BK503.out (by decide))) | (dsimp only; exact Kd.own_blk (Kd.R_ne HO497.out BK503.out (by decide)))) _).trans (((cell_far (p := ⟨gb503, _, none⟩) (by first | exact Kd.own_blk (Kd.R_ne HO497.out BK503.out (by decide)) | (rw [add_block]; exact Kd.own_blk (Kd.R_ne HO497.out BK503.out (by decide))) | (show (Addr.add _ _).block ≠ _; rw [add_block]; exact Kd.own_blk (Kd.R_ne HO497.out BK503.out (by decide))) | (dsimp only; exact Kd.own_blk (Kd.R_ne HO497.out BK503.out (by decide)))) _).trans (((cell_far (p := ⟨gb503, _, none⟩) (by first | exact Kd.own_blk (Kd.R_ne HO497.out BK503.out (by decide)) | (rw [add_block]; exact Kd.own_blk (Kd.R_ne HO497.out BK503.out (by decide))) | (show (Addr.add _ _).block ≠ _; rw [add_block]; exact Kd.own_blk (Kd.R_ne HO497.out BK503.out (by decide))) | (dsimp only; exact Kd.own_blk (Kd.R_ne HO497.out BK503.out (by decide)))) _).trans (((cell_far (p := ⟨gb503, _, none⟩) (by first | exact Kd.own_blk (Kd.R_ne HO497.out BK503.out (by decide)) | (rw [add_block]; exact Kd.own_blk (Kd.R_ne HO497.out BK503.out (by decide))) | (show (Addr.add _ _).block ≠ _; rw [add_block]; exact Kd.own_blk (Kd.R_ne HO497.out BK503.out (by decide))) | (dsimp only; exact Kd.own_blk (Kd.R_ne HO497.out BK503.out (by decide)))) _).trans (hHeld.2.2.2))))))))⟩ (fun hHeld => ?_)
      clear hK K
      refine done_ (done_of HT_.out (by kernel_rfl)) ?_
      go_upto_region 5 with (fail)
      go_cut [44] (fun v44 wc => ∃ (kq : Nat) (x44_8 : Bool), v44 = .bool x44_8 ∧ Aside0 (tag_Take.j0 kq x44_8 (rd t495 1) (rd t495 2) (rd t495 3) (rd t495 4) = some (r1, r2, r3, r4, r5)) ∧ Aside0 (kq ≤ k) ∧ Aside0 (wc.heap[gb491]? = some (.cells #[.int .i64 0, .int .i64 0, .int .i64 0, .int .i64 0] 26 (0, 0))) ∧ Aside0 (wc.heap[gb503]? = some (.cells #[.int .i64 (rd t495 1), .int .i64 (rd t495 2), .int .i64 (rd t495 3), .int .i64 (rd t495 4)] 26 (0, 0))) ∧ Aside0 (Below w.heap.size w wc))
      case first =>
       have H := HC9.out
       clear HC9
       by_cases c21 : 0 < (t495.length : Int)
       ·rw [if_pos c21] at H
        have c21b0 := dt_ c21
        have c21b1 : decide (0 < t495.length) = true := dt_ (by omega)
        clear c21
        (first | rw [c21b0] | (simp only [i64_w, i32_w]; rw [c21b0]) | skip)
        by_cases c22 : (rd t495 0) = 0
        ·rw [if_pos c22] at H
         have c22b0 := beq_iff_eq.mpr c22
         have c22b1 := bne_eq_false_iff_eq.mpr c22
         clear c22
         by_cases c23 : 5 < (t495.length : Int)
         ·rw [if_pos c23] at H
          have c23b0 := dt_ c23
          have c23b1 : decide (5 < t495.length) = true := dt_ (by omega)
          clear c23
          by_cases c24 : (rd t495 5) = 0
          ·rw [if_pos c24] at H
           have c24b0 := beq_iff_eq.mpr c24
           have c24b1 := bne_eq_false_iff_eq.mpr c24
           clear c24
           obtain ⟨t506, A25, H⟩ := bs_ H
           have H' := ak_ H
           clear H
           have p504 : 0 ≤ (0 : Int) := (by omega)
           have q504 : 0 < (t495.length : Int) := od_ ‹_›
           obtain ⟨ad504, e504, hx504_0⟩ := Kd.at_int (Kd.R_reads' HO497.out).2.2 0 p504 q504
           obtain rfl : ad499 = ad504 := (by injection e504)
           have qi504 : (0 < t495.length) = True := eq_true (by omega)
           (try rw [show ((0 : Int)).toNat = 0 from rfl] at hx504_0)
           (try rw [Addr.add_zero'] at hx504_0)
           have hn504_0 : ad499.block ≠ gb503 := Kd.own_blk (Kd.R_ne HO497.out BK503.out (by decide))
           have hn504_1 : ad499.block ≠ gb503 := Kd.own_blk (Kd.R_ne HO497.out BK503.out (by decide))
           have hn504_2 : ad499.block ≠ gb503 := Kd.own_blk (Kd.R_ne HO497.out BK503.out (by decide))
           have hn504_3 : ad499.block ≠ gb503 := Kd.own_blk (Kd.R_ne HO497.out BK503.out (by decide))
           replace hx504_0 := (cell_far (p := ⟨gb503, 0, none⟩) (by first | (rw [add_block]; exact hn504_0) | (show (Addr.add _ _).block ≠ _; rw [add_block]; exact hn504_0) | exact hn504_0) (.int .i64 (rd t495 1))).trans hx504_0
           replace hx504_0 := (cell_far (p := ⟨gb503, 1, none⟩) (by first | (rw [add_block]; exact hn504_1) | (show (Addr.add _ _).block ≠ _; rw [add_block]; exact hn504_1) | exact hn504_1) (.int .i64 (rd t495 2))).trans hx504_0
           replace hx504_0 := (cell_far (p := ⟨gb503, 2, none⟩) (by first | (rw [add_block]; exact hn504_2) | (show (Addr.add _ _).block ≠ _; rw [add_block]; exact hn504_2) | exact hn504_2) (.int .i64 (rd t495 3))).trans hx504_0
           replace hx504_0 := (cell_far (p := ⟨gb503, 3, none⟩) (by first | (rw [add_block]; exact hn504_3) | (show (Addr.add _ _).block ≠ _; rw [add_block]; exact hn504_3) | exact hn504_3) (.int .i64 (rd t495 4))).trans hx504_0
           clear hn504_0 hn504_1 hn504_2 hn504_3
           replace p504 := eq_true p504
           replace q504 := eq_true q504
           have p505 : 0 ≤ (5 : Int) := (by omega)
           have q505 : 5 < (t495.length : Int) := od_ ‹_›
           obtain ⟨ad505, e505, hx505_0⟩ := Kd.at_int (Kd.R_reads' HO497.out).2.2 5 p505 q505
           obtain rfl : ad499 = ad505 := (by injection e505)
           (try simp only [show (5 : Int).toNat = 5 from rfl, Nat.reduceMul, Nat.reduceEqDiff, Go.Addr.add, ↓reduceIte] at hx505_0)
           have qi505 : (5 < t495.length) = True := eq_true (by omega)
           (try rw [show ((5 : Int)).toNat = 5 from rfl] at hx505_0)
           have hn505_0 : ad499.block ≠ gb503 := Kd.own_blk (Kd.R_ne HO497.out BK503.out (by decide))
           have hn505_1 : ad499.block ≠ gb503 := Kd.own_blk (Kd.R_ne HO497.out BK503.out (by decide))
           have hn505_2 : ad499.block ≠ gb503 := Kd.own_blk (Kd.R_ne HO497.out BK503.out (by decide))
           have hn505_3 : ad499.block ≠ gb503 := Kd.own_blk (Kd.R_ne HO497.out BK503.out (by decide))
           replace hx505_0 := (cell_far (p := ⟨gb503, 0, none⟩) (by first | (rw [add_block]; exact hn505_0) | (show (Addr.add _ _).block ≠ _; rw [add_block]; exact hn505_0) | exact hn505_0) (.int .i64 (rd t495 1))).trans hx505_0
           replace hx505_0 := (cell_far (p := ⟨gb503, 1, none⟩) (by first | (rw [add_block]; exact hn505_1) | (show (Addr.add _ _).block ≠ _; rw [add_block]; exact hn505_1) | exact hn505_1) (.int .i64 (rd t495 2))).trans hx505_0
           replace hx505_0 := (cell_far (p := ⟨gb503, 2, none⟩) (by first | (rw [add_block]; exact hn505_2) | (show (Addr.add _ _).block ≠ _; rw [add_block]; exact hn505_2) | exact hn505_2) (.int .i64 (rd t495 3))).trans hx505_0
           replace hx505_0 := (cell_far (p := ⟨gb503, 3, none⟩) (by first | (rw [add_block]; exact hn505_3) | (show (Addr.add _ _).block ≠ _; rw [add_block]; exact hn505_3) | exact hn505_3) (.int .i64 (rd t495 4))).trans hx505_0
           clear hn505_0 hn505_1 hn505_2 hn505_3
           replace p505 := eq_true p505
           replace q505 := eq_true q505
           have hnb26 := NB503_491.out
           have hnc26 := NB491_503.out
           obtain ⟨hcz27_0, hcz27_1, hcz27_2, hcz27_3⟩ := cells4 BK503.out
           obtain ⟨hfz27_0, hfz27_1, hfz27_2, hfz27_3⟩ := froz4 BK503.out
           go_wp2_with (go_at_call 65; (with_reducible refine (tag_May.calls (rd t495 1) (rd t495 2) (rd t495 3) (rd t495 4) t506 _ A25.out).mono ?_); rintro e w28 ⟨rfl, hb⟩; replace HO494 := ak_ (Kd.R_below (Kd.R_mono (Kd.R_far (p := ⟨gb503, 3, none⟩) (Kd.R_far (p := ⟨gb503, 2, none⟩) (Kd.R_far (p := ⟨gb503, 1, none⟩) (Kd.R_far (p := ⟨gb503, 0, none⟩) (Kd.R_types HO494.out BK503.out (by decide)) (fun _ hk => hk.2) (.int .i64 (rd t495 1))) (fun _ hk => hk.2) (.int .i64 (rd t495 2))) (fun _ hk => hk.2) (.int .i64 (rd t495 3))) (fun _ hk => hk.2) (.int .i64 (rd t495 4))) (fun _ h_ => h_.1)) hb); replace HO497 := ak_ (Kd.R_below (Kd.R_mono (Kd.R_far (p := ⟨gb503, 3, none⟩) (Kd.R_far (p := ⟨gb503, 2, none⟩) (Kd.R_far (p := ⟨gb503, 1, none⟩) (Kd.R_far (p := ⟨gb503, 0, none⟩) (Kd.R_types HO497.out BK503.out (by decide)) (fun _ hk => hk.2) (.int .i64 (rd t495 1))) (fun _ hk => hk.2) (.int .i64 (rd t495 2))) (fun _ hk => hk.2) (.int .i64 (rd t495 3))) (fun _ hk => hk.2) (.int .i64 (rd t495 4))) (fun _ h_ => h_.1)) hb); replace BK491 := ak_ (blk_below (far4 BK491.out NB491_503.out) hb); replace BK503 := ak_ (blk_below (put4 BK503.out) hb); replace HB := ak_ (below_step (by repeat (first | (with_reducible first | exact HB.out | apply below_alloc | apply pw_below_drewN | apply below_drew1 | refine below_set ?_ GE491.out | refine below_set ?_ GE503.out) | exact HB.out)) hb); (try clear hb))
           go_meet
           case rel => exact ⟨_, (!t506), (by rfl), H', ⟨by omega⟩, ⟨BK491.out⟩, ⟨BK503.out⟩, ⟨by repeat (first | (with_reducible first | exact HB.out | apply below_alloc | apply pw_below_drewN | apply below_drew1 | refine below_set ?_ GE491.out | refine below_set ?_ GE503.out) | exact HB.out)⟩⟩
          ·rw [if_neg c24] at H
           have c24b0 := beq_eq_false_iff_ne.mpr c24
           have c24b1 := bne_iff_ne.mpr c24
           have H' := ak_ H
           clear H
           have p504 : 0 ≤ (0 : Int) := (by omega)
           have q504 : 0 < (t495.length : Int) := od_ ‹_›
           obtain ⟨ad504, e504, hx504_0⟩ := Kd.at_int (Kd.R_reads' HO497.out).2.2 0 p504 q504
           obtain rfl : ad499 = ad504 := (by injection e504)
           have qi504 : (0 < t495.length) = True := eq_true (by omega)
           (try rw [show ((0 : Int)).toNat = 0 from rfl] at hx504_0)
           (try rw [Addr.add_zero'] at hx504_0)
           have hn504_0 : ad499.block ≠ gb503 := Kd.own_blk (Kd.R_ne HO497.out BK503.out (by decide))
           have hn504_1 : ad499.block ≠ gb503 := Kd.own_blk (Kd.R_ne HO497.out BK503.out (by decide))
           have hn504_2 : ad499.block ≠ gb503 := Kd.own_blk (Kd.R_ne HO497.out BK503.out (by decide))
           have hn504_3 : ad499.block ≠ gb503 := Kd.own_blk (Kd.R_ne HO497.out BK503.out (by decide))
           replace hx504_0 := (cell_far (p := ⟨gb503, 0, none⟩) (by first | (rw [add_block]; exact hn504_0) | (show (Addr.add _ _).block ≠ _; rw [add_block]; exact hn504_0) | exact hn504_0) (.int .i64 (rd t495 1))).trans hx504_0
           replace hx504_0 := (cell_far (p := ⟨gb503, 1, none⟩) (by first | (rw [add_block]; exact hn504_1) | (show (Addr.add _ _).block ≠ _; rw [add_block]; exact hn504_1) | exact hn504_1) (.int .i64 (rd t495 2))).trans hx504_0
           replace hx504_0 := (cell_far (p := ⟨gb503, 2, none⟩) (by first | (rw [add_block]; exact hn504_2) | (show (Addr.add _ _).block ≠ _; rw [add_block]; exact hn504_2) | exact hn504_2) (.int .i64 (rd t495 3))).trans hx504_0
           replace hx504_0 := (cell_far (p := ⟨gb503, 3, none⟩) (by first | (rw [add_block]; exact hn504_3) | (show (Addr.add _ _).block ≠ _; rw [add_block]; exact hn504_3) | exact hn504_3) (.int .i64 (rd t495 4))).trans hx504_0
           clear hn504_0 hn504_1 hn504_2 hn504_3
           replace p504 := eq_true p504
           replace q504 := eq_true q504
           have p505 : 0 ≤ (5 : Int) := (by omega)
           have q505 : 5 < (t495.length : Int) := od_ ‹_›
           obtain ⟨ad505, e505, hx505_0⟩ := Kd.at_int (Kd.R_reads' HO497.out).2.2 5 p505 q505
           obtain rfl : ad499 = ad505 := (by injection e505)
           (try simp only [show (5 : Int).toNat = 5 from rfl, Nat.reduceMul, Nat.reduceEqDiff, Go.Addr.add, ↓reduceIte] at hx505_0)
           have qi505 : (5 < t495.length) = True := eq_true (by omega)
           (try rw [show ((5 : Int)).toNat = 5 from rfl] at hx505_0)
           have hn505_0 : ad499.block ≠ gb503 := Kd.own_blk (Kd.R_ne HO497.out BK503.out (by decide))
           have hn505_1 : ad499.block ≠ gb503 := Kd.own_blk (Kd.R_ne HO497.out BK503.out (by decide))
           have hn505_2 : ad499.block ≠ gb503 := Kd.own_blk (Kd.R_ne HO497.out BK503.out (by decide))
           have hn505_3 : ad499.block ≠ gb503 := Kd.own_blk (Kd.R_ne HO497.out BK503.out (by decide))
           replace hx505_0 := (cell_far (p := ⟨gb503, 0, none⟩) (by first | (rw [add_block]; exact hn505_0) | (show (Addr.add _ _).block ≠ _; rw [add_block]; exact hn505_0) | exact hn505_0) (.int .i64 (rd t495 1))).trans hx505_0
           replace hx505_0 := (cell_far (p := ⟨gb503, 1, none⟩) (by first | (rw [add_block]; exact hn505_1) | (show (Addr.add _ _).block ≠ _; rw [add_block]; exact hn505_1) | exact hn505_1) (.int .i64 (rd t495 2))).trans hx505_0
           replace hx505_0 := (cell_far (p := ⟨gb503, 2, none⟩) (by first | (rw [add_block]; exact hn505_2) | (show (Addr.add _ _).block ≠ _; rw [add_block]; exact hn505_2) | exact hn505_2) (.int .i64 (rd t495 3))).trans hx505_0
           replace hx505_0 := (cell_far (p := ⟨gb503, 3, none⟩) (by first | (rw [add_block]; exact hn505_3) | (show (Addr.add _ _).block ≠ _; rw [add_block]; exact hn505_3) | exact hn505_3) (.int .i64 (rd t495 4))).trans hx505_0
           clear hn505_0 hn505_1 hn505_2 hn505_3
           replace p505 := eq_true p505
           replace q505 := eq_true q505
           go_wp2
           go_meet
           case rel => exact ⟨_, (true), (by rfl), H', ⟨by omega⟩, ⟨(far4 BK491.out NB491_503.out)⟩, ⟨(put4 BK503.out)⟩, ⟨by repeat (first | (with_reducible first | exact HB.out | apply below_alloc | apply pw_below_drewN | apply below_drew1 | refine below_set ?_ GE491.out | refine below_set ?_ GE503.out) | exact HB.out)⟩⟩
         ·rw [if_neg c23] at H
          exact absurd H (by simp)
        ·rw [if_neg c22] at H
         have c22b0 := beq_eq_false_iff_ne.mpr c22
         have c22b1 := bne_iff_ne.mpr c22
         have H' := ak_ H
         clear H
         have p504 : 0 ≤ (0 : Int) := (by omega)
         have q504 : 0 < (t495.length : Int) := od_ ‹_›
         obtain ⟨ad504, e504, hx504_0⟩ := Kd.at_int (Kd.R_reads' HO497.out).2.2 0 p504 q504
         obtain rfl : ad499 = ad504 := (by injection e504)
         have qi504 : (0 < t495.length) = True := eq_true (by omega)
         (try rw [show ((0 : Int)).toNat = 0 from rfl] at hx504_0)
         (try rw [Addr.add_zero'] at hx504_0)
         have hn504_0 : ad499.block ≠ gb503 := Kd.own_blk (Kd.R_ne HO497.out BK503.out (by decide))
         have hn504_1 : ad499.block ≠ gb503 := Kd.own_blk (Kd.R_ne HO497.out BK503.out (by decide))
         have hn504_2 : ad499.block ≠ gb503 := Kd.own_blk (Kd.R_ne HO497.out BK503.out (by decide))
         have hn504_3 : ad499.block ≠ gb503 := Kd.own_blk (Kd.R_ne HO497.out BK503.out (by decide))
         replace hx504_0 := (cell_far (p := ⟨gb503, 0, none⟩) (by first | (rw [add_block]; exact hn504_0) | (show (Addr.add _ _).block ≠ _; rw [add_block]; exact hn504_0) | exact hn504_0) (.int .i64 (rd t495 1))).trans hx504_0
         replace hx504_0 := (cell_far (p := ⟨gb503, 1, none⟩) (by first | (rw [add_block]; exact hn504_1) | (show (Addr.add _ _).block ≠ _; rw [add_block]; exact hn504_1) | exact hn504_1) (.int .i64 (rd t495 2))).trans hx504_0
         replace hx504_0 := (cell_far (p := ⟨gb503, 2, none⟩) (by first | (rw [add_block]; exact hn504_2) | (show (Addr.add _ _).block ≠ _; rw [add_block]; exact hn504_2) | exact hn504_2) (.int .i64 (rd t495 3))).trans hx504_0
         replace hx504_0 := (cell_far (p := ⟨gb503, 3, none⟩) (by first | (rw [add_block]; exact hn504_3) | (show (Addr.add _ _).block ≠ _; rw [add_block]; exact hn504_3) | exact hn504_3) (.int .i64 (rd t495 4))).trans hx504_0
         clear hn504_0 hn504_1 hn504_2 hn504_3
         replace p504 := eq_true p504
         replace q504 := eq_true q504
         go_wp2
         go_meet
         case rel => exact ⟨_, (true), (by rfl), H', ⟨by omega⟩, ⟨(far4 BK491.out NB491_503.out)⟩, ⟨(put4 BK503.out)⟩, ⟨by repeat (first | (with_reducible first | exact HB.out | apply below_alloc | apply pw_below_drewN | apply below_drew1 | refine below_set ?_ GE491.out | refine below_set ?_ GE503.out) | exact HB.out)⟩⟩
       ·rw [if_neg c21] at H
        exact absurd H (by simp)
      case rest =>
       clear HC9 c4b0 c4b1 c5b0 c5b1 c6b0 c6b1 c7b0 c7b1 c8b0 c8b1 hx499_0 hx500_0 hx501_0 hx502_0 p499 p500 p501 p502 q499 q500 q501 q502
       obtain ⟨kq, x44_8, rfl, HA, HJ8, BK491, BK503, HB⟩ := hcut
       cases kq with
       | zero => exact absurd HA.out (by simp [tag_Take.j0])
       | succ kj8 =>
        have H := HA.out
        clear HA
        simp only [tag_Take.j0] at H
        by_cases c29 : x44_8 = true
        ·subst c29
         rw [if_pos rfl] at H
         simp only [Option.some.injEq, Prod.mk.injEq] at H
         obtain ⟨rfl, rfl, rfl, rfl, rfl⟩ := H
         have hnb30 := NB491_503.out
         have hnc30 := NB503_491.out
         obtain ⟨hcz31_0, hcz31_1, hcz31_2, hcz31_3⟩ := cells4 BK491.out
         obtain ⟨hfz31_0, hfz31_1, hfz31_2, hfz31_3⟩ := froz4 BK491.out
         go_wp2
         refine bodyPost_ret (results_ct rfl _ _ gb491 26 #[.int .i64 0, .int .i64 0, .int .i64 0, .int .i64 0] (0, 0) _ rfl (put4 BK491.out) Try.underlying26 rfl (by kernel_rfl)) rfl ?_
         exact ⟨by first | rfl | (simp [errW_none, errW_some] <;> rfl) | (simp [*, errW_none, errW_some] <;> rfl) | (have hz_ : ∀ z : Int, -9223372036854775808 ≤ z → z ≤ 9223372036854775807 → wrap64 z = z := (fun z h1_ h2_ => by unfold wrap64; omega); rw [hz_] <;> first | rfl | omega), by repeat (first | (with_reducible first | exact HB.out | apply below_alloc | apply pw_below_drewN | apply below_drew1 | refine below_set ?_ GE491.out | refine below_set ?_ GE503.out) | exact HB.out)⟩
        ·replace c29 := Bool.eq_false_iff.mpr c29
         subst c29
         rw [if_neg (show ¬ (false = true) by decide)] at H
         simp only [Option.some.injEq, Prod.mk.injEq] at H
         obtain ⟨rfl, rfl, rfl, rfl, rfl⟩ := H
         have hnb32 := NB503_491.out
         have hnc32 := NB491_503.out
         obtain ⟨hcz33_0, hcz33_1, hcz33_2, hcz33_3⟩ := cells4 BK503.out
         obtain ⟨hfz33_0, hfz33_1, hfz33_2, hfz33_3⟩ := froz4 BK503.out
         obtain ⟨hcz34_0, hcz34_1, hcz34_2, hcz34_3⟩ := cells4 BK491.out
         obtain ⟨hfz34_0, hfz34_1, hfz34_2, hfz34_3⟩ := froz4 BK491.out
         go_wp2
         refine bodyPost_ret (results_ct rfl _ _ gb491 26 #[.int .i64 (rd t495 1), .int .i64 (rd t495 2), .int .i64 (rd t495 3), .int .i64 (rd t495 4)] (0, 0) _ rfl (put4 BK491.out) Try.underlying26 rfl (by kernel_rfl)) rfl ?_
         exact ⟨by first | rfl | (simp [errW_none, errW_some] <;> rfl) | (simp [*, errW_none, errW_some] <;> rfl) | (have hz_ : ∀ z : Int, -9223372036854775808 ≤ z → z ≤ 9223372036854775807 → wrap64 z = z := (fun z h1_ h2_ => by unfold wrap64; omega); rw [hz_] <;> first | rfl | omega), by repeat (first | (with_reducible first | exact HB.out | apply below_alloc | apply pw_below_drewN | apply below_drew1 | refine below_set ?_ GE491.out | refine below_set ?_ GE503.out) | exact HB.out)⟩
     ·rw [if_neg c8] at H
      exact absurd H (by simp)
    ·rw [if_neg c7] at H
     exact absurd H (by simp)
   ·rw [if_neg c6] at H
    exact absurd H (by simp)
  ·rw [if_neg c5] at H
   exact absurd H (by simp)
 ·rw [if_neg c4] at H
  have c4b0 := beq_eq_false_iff_ne.mpr c4
  have c4b1 := bne_iff_ne.mpr c4
  simp only [Option.some.injEq, Prod.mk.injEq] at H
  obtain ⟨rfl, rfl, rfl, rfl, rfl⟩ := H
  go_enter Try.func62, Try.ntmps62
  go_wp2_with (first | ((with_reducible refine gate_dst (N := 2) rfl ?_); refine box_event ?hg (N := 2) ?hd (cs := #[.int .i64 0, .int .i64 0, .int .i64 0, .int .i64 0]) (t := 26) ?hr ?_; (case hd => rfl); (case hg => rfl); (case hr => (go_simp; done)); intro gb491 hg w35 hbox hb; have BK491 := ak_ (hbox); have GW491 := ak_ (gw_ hg (below_size HB.out)); have GE491 := ak_ (gw_ hg (below_size HB.out)); replace HB := ak_ (below_step HB.out hb); clear hb hbox hg) | ((with_reducible refine gate_callee (f := 67) rfl ?_); refine goesL_ (some 8) rfl rfl Try.func67 (by kernel_rfl) rfl #[] rfl (by (try simp only [List.map_toArray, List.map_cons, List.map_nil]); done) ?_; (with_reducible refine (tag_layout.calls  t492 _ A2.out).mono ?_); rintro e w36 ⟨v493, rfl, ho0, hb⟩; refine ⟨_, rfl, ?_⟩; have HO494 := ak_ (Kd.R_lower ho0 (below_size HB.out)); replace BK491 := ak_ (blk_below BK491.out hb); replace HB := ak_ (below_step HB.out hb); (try clear hb); (try clear ho0); obtain ⟨Ao37, co37, eo37⟩ := Kd.R_slice HO494.out; subst eo37) | ((with_reducible refine gate_callee (f := 80) rfl ?_); refine goesL_ (some 10) rfl rfl Try.func80 (by kernel_rfl) rfl #[.slice Ao37 t492.length co37, .slice A0 l0.length c0] rfl (by (try simp only [List.map_toArray, List.map_cons, List.map_nil]); first | done | rfl | (simp only [List.length_drop, List.length_take]; rfl)) ?_; (with_reducible refine (pack_Take.calls k _ _ t492 (fun k_ => k_ < w.heap.size) _ _ l0 t495 t498 _ ?side1 ?side2 ?side3 A3.out).mono ?_); (case side1 => exact (Kd.R_reads' HO494.out).2.2); (case side2 => exact (Kd.R_reads' HO494.out).2.1); (case side3 => exact Kd.V_mk HC0.out (Kd.F_below (Kd.C_F (Kd.heap_int .u8) HR0.out) HB.out)); rintro e w38 ⟨v496, rfl, ho0, hb⟩; refine ⟨_, rfl, ?_⟩; have HO497 := ak_ (Kd.R_lower (Kd.R_new' (Kd.R_mono (ok' := fun k_ => True) ho0 (fun _ hk_ => trivial)) (Kd.R_lt HO494.out)) (below_size HB.out)); replace HO494 := ak_ (Kd.R_elder' HO494.out (Kd.R_base ho0) hb); replace BK491 := ak_ (blk_below BK491.out hb); replace HB := ak_ (below_step HB.out hb); (try clear hb); (try clear ho0); have hcz39_0 : w38.cell? ⟨gb491, 0, none⟩ = some (.int .i64 0) := (bc_ BK491.out 0).trans rfl; have hcz39_1 : w38.cell? ⟨gb491, 1, none⟩ = some (.int .i64 0) := (bc_ BK491.out 1).trans rfl; have hcz39_2 : w38.cell? ⟨gb491, 2, none⟩ = some (.int .i64 0) := (bc_ BK491.out 2).trans rfl; have hcz39_3 : w38.cell? ⟨gb491, 3, none⟩ = some (.int .i64 0) := (bc_ BK491.out 3).trans rfl; have hfz39_0 := bf_ BK491.out 0; have hfz39_1 := bf_ BK491.out 1; have hfz39_2 := bf_ BK491.out 2; have hfz39_3 := bf_ BK491.out 3))
  refine bodyPost_ret (results_ct rfl _ _ gb491 26 #[.int .i64 0, .int .i64 0, .int .i64 0, .int .i64 0] (0, 0) _ rfl (put4 BK491.out) Try.underlying26 rfl (by kernel_rfl)) rfl ?_
  exact ⟨by first | rfl | (simp [errW_none, errW_some] <;> rfl) | (simp [*, errW_none, errW_some] <;> rfl) | (have hz_ : ∀ z : Int, -9223372036854775808 ≤ z → z ≤ 9223372036854775807 → wrap64 z = z := (fun z h1_ h2_ => by unfold wrap64; omega); rw [hz_] <;> first | rfl | omega), by repeat (first | (with_reducible first | exact HB.out | apply below_alloc | apply pw_below_drewN | apply below_drew1 | refine below_set ?_ GE491.out) | exact HB.out)⟩
end Go.Proofs.Ytmehbabchakkpaa.QLadderWalks
