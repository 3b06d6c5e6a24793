import Derived.Test.YtmehbabchakkpaaMLadderClimbsx14
namespace Go.Proofs.Ytmehbabchakkpaa.QLadderClimbs
open Go.RowKit YtmehbabchakkpaaW.PrintWords YtmehbabchakkpaaW.PrintLast YtmehbabchakkpaaW.PrintMore Short
attribute [local go_sem] max2_int min2_int max_two min_two max_three min_three max_four min_four
set_option linter.unusedVariables false
set_option maxHeartbeats 8000000
set_option maxRecDepth 100000
set_option linter.unusedSimpArgs false
mutual
def r09_Climb.j0 : Nat → List (List Int) → Bool → Int → Int → Int → Int → Int → Int → Int → Option (List Int × Int × Int × Int × Int × Int × Int × Int)
 | 0, _, _, _, _, _, _, _, _, _ => none
 | k + 1, x1, x27, x503000, x503001, x503002, x503003, x503004, x503005, x503006 => if x27 = true then (some (([] : List Int), 0, 0, 0, 0, 0, 0, 2)) else (r09_Climb.l0 k x1 0 x503000 x503001 x503002 x503003 x503004 x503005 x503006)
def r09_Climb.l0 : Nat → List (List Int) → Int → Int → Int → Int → Int → Int → Int → Int → Option (List Int × Int × Int × Int × Int × Int × Int × Int)
 | 0, _, _, _, _, _, _, _, _, _ => none
 | k + 1, x1, x7, x503000, x503001, x503002, x503003, x503004, x503005, x503006 => if x7 < (x1.length : Int) then (if 0 ≤ x7 then ((r04_Raw.f x503000 x503001 x503002 x503003 x503004 x503005 x503006).bind fun t506 => (if ((rd_L3 x1 x7).length : Int) = t506 then (r09_Climb.l0 k x1 (wrap64 (x7 + 1)) x503000 x503001 x503002 x503003 x503004 x503005 x503006) else (some (([] : List Int), 0, 0, 0, 0, 0, 0, 2)))) else (none)) else (r09_Climb.l1 k x1 0 x503000 x503001 x503002 x503003 x503004 x503005 x503006)
def r09_Climb.l1 : Nat → List (List Int) → Int → Int → Int → Int → Int → Int → Int → Int → Option (List Int × Int × Int × Int × Int × Int × Int × Int)
 | 0, _, _, _, _, _, _, _, _, _ => none
 | k + 1, x1, x8, x503000, x503001, x503002, x503003, x503004, x503005, x503006 => if x8 < (x1.length : Int) then (if 0 ≤ x8 then ((r08_Decode.f k x503000 x503001 x503002 x503003 x503004 x503005 x503006 (rd_L3 x1 x8)).bind fun bt508 => (if bt508.2.2.2.2.2.2 = 0 then (some (bt508.1, bt508.2.1, bt508.2.2.1, bt508.2.2.2.1, bt508.2.2.2.2.1, bt508.2.2.2.2.2.1, x8, 0)) else (r09_Climb.l1 k x1 (wrap64 (x8 + 1)) x503000 x503001 x503002 x503003 x503004 x503005 x503006))) else (none)) else (some (([] : List Int), 0, 0, 0, 0, 0, 0, 30))
end
def r09_Climb.f (k : Nat) (a0_0 : Int) (a0_1 : Int) (a0_2 : Int) (a0_3 : Int) (a0_4 : Int) (a0_5 : Int) (a0_6 : Int) (l1 : List (List Int)) : Option (List Int × Int × Int × Int × Int × Int × Int × Int) := (r04_Right.f a0_0 a0_1 a0_2 a0_3 a0_4 a0_5 a0_6).bind fun t504 => (if t504 = true then (if (l1.length : Int) = 0 then (r09_Climb.j0 k l1 true a0_0 a0_1 a0_2 a0_3 a0_4 a0_5 a0_6) else (r09_Climb.j0 k l1 (decide ((l1.length : Int) > a0_5)) a0_0 a0_1 a0_2 a0_3 a0_4 a0_5 a0_6)) else (r09_Climb.j0 k l1 true a0_0 a0_1 a0_2 a0_3 a0_4 a0_5 a0_6))
theorem r09_Climb.mono_l : ∀ k, (∀ y0 y1 y2 y3 y4 y5 y6 y7 y8, LeO (r09_Climb.j0 k y0 y1 y2 y3 y4 y5 y6 y7 y8) (r09_Climb.j0 (k + 1) y0 y1 y2 y3 y4 y5 y6 y7 y8)) ∧ (∀ y0 y1 y2 y3 y4 y5 y6 y7 y8, LeO (r09_Climb.l0 k y0 y1 y2 y3 y4 y5 y6 y7 y8) (r09_Climb.l0 (k + 1) y0 y1 y2 y3 y4 y5 y6 y7 y8)) ∧ (∀ y0 y1 y2 y3 y4 y5 y6 y7 y8, LeO (r09_Climb.l1 k y0 y1 y2 y3 y4 y5 y6 y7 y8) (r09_Climb.l1 (k + 1) y0 y1 y2 y3 y4 y5 y6 y7 y8))
 | 0 => ⟨fun _ _ _ _ _ _ _ _ _ r h => by simp [r09_Climb.j0] at h, fun _ _ _ _ _ _ _ _ _ r h => by simp [r09_Climb.l0] at h, fun _ _ _ _ _ _ _ _ _ r h => by simp [r09_Climb.l1] at h⟩
 | k + 1 => by
  obtain ⟨ih0, ih1, ih2⟩ := r09_Climb.mono_l k
  refine ⟨?_, ?_, ?_⟩
  ·intro y0 y1 y2 y3 y4 y5 y6 y7 y8
   unfold r09_Climb.j0
   repeat' with_reducible first
   | exact ih0 _ _ _ _ _ _ _ _ _
   | exact ih1 _ _ _ _ _ _ _ _ _
   | exact ih2 _ _ _ _ _ _ _ _ _
   | exact r08_Decode.mono _ _ _ _ _ _ _ _ _
   | exact LeO.refl _
   | exact LeO.none _
   | refine LeO.ite ?_ ?_
   | refine LeO.bind ?_ (fun _ => ?_)
  ·intro y0 y1 y2 y3 y4 y5 y6 y7 y8
   unfold r09_Climb.l0
   repeat' with_reducible first
   | exact ih0 _ _ _ _ _ _ _ _ _
   | exact ih1 _ _ _ _ _ _ _ _ _
   | exact ih2 _ _ _ _ _ _ _ _ _
   | exact r08_Decode.mono _ _ _ _ _ _ _ _ _
   | exact LeO.refl _
   | exact LeO.none _
   | refine LeO.ite ?_ ?_
   | refine LeO.bind ?_ (fun _ => ?_)
  ·intro y0 y1 y2 y3 y4 y5 y6 y7 y8
   unfold r09_Climb.l1
   repeat' with_reducible first
   | exact ih0 _ _ _ _ _ _ _ _ _
   | exact ih1 _ _ _ _ _ _ _ _ _
   | exact ih2 _ _ _ _ _ _ _ _ _
   | exact r08_Decode.mono _ _ _ _ _ _ _ _ _
   | exact LeO.refl _
   | exact LeO.none _
   | refine LeO.ite ?_ ?_
   | refine LeO.bind ?_ (fun _ => ?_)
theorem r09_Climb.mono : ∀ a0 a1 a2 a3 a4 a5 a6 a7 k, LeO (r09_Climb.f k a0 a1 a2 a3 a4 a5 a6 a7) (r09_Climb.f (k + 1) a0 a1 a2 a3 a4 a5 a6 a7) := by
 intro a0 a1 a2 a3 a4 a5 a6 a7 k
 obtain ⟨ih0, ih1, ih2⟩ := r09_Climb.mono_l k
 unfold r09_Climb.f
 repeat' with_reducible first
  | exact ih0 _ _ _ _ _ _ _ _ _
  | exact ih1 _ _ _ _ _ _ _ _ _
  | exact ih2 _ _ _ _ _ _ _ _ _
  | exact r08_Decode.mono _ _ _ _ _ _ _ _ _
  | exact LeO.refl _
  | exact LeO.none _
  | refine LeO.ite ?_ ?_
  | refine LeO.bind ?_ (fun _ => ?_)
def r09_Climb.T6 : Bool × List (List Nat × List Nat) := (true, [([], []), ([], []), ([0, 1], [0, 1]), ([2], [2]), ([3], [3]), ([], []), ([5], [5]), ([4, 6], [4, 6])])
def r09_Climb.B6 : List Nat := [0, 0, 3, 7, 15, 0, 32, 127]
theorem r09_Climb.tab6 : rtab .any (opsOf Try.f25 6) = r09_Climb.T6 := by kernel_rfl
theorem r09_Climb.bits6 : waitsOk r09_Climb.T6.2 r09_Climb.B6 = true := by kernel_rfl
def r09_Climb.T11 : Bool × List (List Nat × List Nat) := (true, [([], []), ([], []), ([], []), ([1, 2], [1, 2]), ([3], [3]), ([0, 4], [0, 4]), ([5], [5]), ([6], [6]), ([6], [6]), ([6], [6]), ([6], [6]), ([], []), ([7, 5, 0, 1, 2, 3, 4, 5, 6, 7, 11], [7]), ([11, 8, 12, 0, 1, 2, 3, 4, 5, 6, 7, 8, 11, 12], [8, 11]), ([9, 13, 0, 1, 2, 3, 4, 5, 6, 7, 8, 9, 11, 12, 13], [9]), ([10, 14, 0, 1, 2, 3, 4, 5, 6, 7, 8, 9, 10, 11, 12, 13, 14], [10])])
def r09_Climb.B11 : List Nat := [0, 0, 0, 6, 14, 31, 63, 127, 127, 127, 127, 0, 2303, 6655, 15359, 32767]
theorem r09_Climb.tab11 : rtab .any (opsOf Try.f25 11) = r09_Climb.T11 := by kernel_rfl
theorem r09_Climb.bits11 : waitsOk r09_Climb.T11.2 r09_Climb.B11 = true := by kernel_rfl
theorem r09_Climb.calls (k : Nat) (a0_0 : Int) (a0_1 : Int) (a0_2 : Int) (a0_3 : Int) (a0_4 : Int) (a0_5 : Int) (a0_6 : Int) (A1 : Option Addr) (c1 : Nat) (l1 : List (List Int)) (r1 : List Int) (r2 : Int) (r3 : Int) (r4 : Int) (r5 : Int) (r6 : Int) (r7 : Int) (r8 : Int) (w : World) (hr1 : Kd.C (Kd.slice 5 (Kd.int .u8)) w A1 l1.length l1) (hc1 : l1.length ≤ c1) (h : r09_Climb.f k a0_0 a0_1 a0_2 a0_3 a0_4 a0_5 a0_6 l1 = some (r1, r2, r3, r4, r5, r6, r7, r8)) :
  Calls Try.prog 25 #[.agg #[.int .i64 a0_0, .int .i64 a0_1, .int .i64 a0_2, .int .i64 a0_3, .int .i64 a0_4, .int .i64 a0_5, .int .i64 a0_6], .slice A1 l1.length c1] w fun e w' => ∃ v0_ : Value, e = .returned (.tuple #[.agg #[v0_, .int .i64 r2, .int .i64 r3, .int .i64 r4, .int .i64 r5, .int .i64 r6], .int .i64 r7, .int .i64 r8]) ∧ Kd.R (Kd.int .u8) 5 w' w.heap.size (fun _ => True) v0_ r1 ∧ Below w.heap.size w w' := by
 have hu23 := Try.underlying23
 have hu42 := Try.underlying42
 have hu26 := Try.underlying26
 have HR1 := ak_ hr1
 have HC1 := ak_ hc1
 clear hr1 hc1
 have HB := br_ w
 unfold r09_Climb.f at h
 have H := h
 clear h
 have HC3 := ak_ H
 clear H
 go_enter Try.func25, Try.ntmps25
 go_upto_region 1 with (first | ((with_reducible refine gate_dst (N := 2) rfl ?_); (try (refine gate_guard (by rfl) ?_; dsimp only)); refine box_event ?hg (N := 2) ?hd (cs := #[.int .i64 a0_0, .int .i64 a0_1, .int .i64 a0_2, .int .i64 a0_3, .int .i64 a0_4, .int .i64 a0_5, .int .i64 a0_6]) (t := 23) ?hr ?_; (case hd => rfl); (case hg => rfl); (case hr => (go_simp; done)); intro gb502 hg w4 hbox hb; have BK502 := ak_ (hbox); have GW502 := ak_ (gw_ hg (below_size HB.out)); have GE502 := ak_ (gw_ hg (below_size HB.out)); replace HB := ak_ (below_step HB.out hb); clear hb hbox hg) | ((with_reducible refine gate_dst (N := 4) rfl ?_); (try (refine gate_guard (by rfl) ?_; dsimp only)); refine box_event ?hg (N := 4) ?hd (cs := #[.slice none 0 0, .int .i64 0, .int .i64 0, .int .i64 0, .int .i64 0, .int .i64 0]) (t := 42) ?hr ?_; (case hd => rfl); (case hg => rfl); (case hr => (go_simp; done)); intro gb503 hg w5 hbox hb; have BK503 := ak_ (hbox); have GW503 := ak_ (gw_ hg (below_size HB.out)); have GE503 := ak_ (gw_ hg (below_size HB.out)); replace HB := ak_ (below_step HB.out hb); have NB502_503 := ak_ ((by rw [hg]; exact Nat.ne_of_lt (blk_lt BK502.out) : gb502 ≠ gb503)); have NB503_502 := ak_ ((by rw [hg]; exact Nat.ne_of_gt (blk_lt BK502.out) : gb503 ≠ gb502)); replace BK502 := ak_ (blk_below BK502.out hb); clear hb hbox hg))
 go_cut [27] (fun v27 wc => ∃ (kq : Nat) (x27_2 : Bool), v27 = .bool x27_2 ∧ Aside0 (r09_Climb.j0 kq l1 x27_2 a0_0 a0_1 a0_2 a0_3 a0_4 a0_5 a0_6 = some (r1, r2, r3, r4, r5, r6, r7, r8)) ∧ Aside0 (kq ≤ k) ∧ Aside0 (wc.heap[gb502]? = some (.cells #[.int .i64 a0_0, .int .i64 a0_1, .int .i64 a0_2, .int .i64 a0_3, .int .i64 a0_4, .int .i64 a0_5, .int .i64 a0_6] 23 (0, 0))) ∧ Aside0 (wc.heap[gb503]? = some (.cells #[(.slice none 0 0), .int .i64 0, .int .i64 0, .int .i64 0, .int .i64 0, .int .i64 0] 42 (0, 0))) ∧ Aside0 (Below w.heap.size w wc))
 case first =>
  have H := HC3.out
  clear HC3
  obtain ⟨t504, A6, H⟩ := bs_ H
  by_cases c7 : t504 = true
  ·subst c7
   rw [if_pos rfl] at H
   by_cases c8 : (l1.length : Int) = 0
   ·rw [if_pos c8] at H
    have c8b0 := beq_iff_eq.mpr c8
    have c8b1 := bne_eq_false_iff_eq.mpr c8
    clear c8
    (first | rw [c8b0] | (simp only [i64_w, i32_w]; rw [c8b0]) | skip)
    have H' := ak_ H
    clear H
    have hnb9 := NB502_503.out
    have hnc9 := NB503_502.out
    obtain ⟨hcz10_0, hcz10_1, hcz10_2, hcz10_3, hcz10_4, hcz10_5, hcz10_6⟩ := cells7 BK502.out
    obtain ⟨hfz10_0, hfz10_1, hfz10_2, hfz10_3, hfz10_4, hfz10_5, hfz10_6⟩ := froz7 BK502.out
    go_wp2_with ((with_reducible refine gate_callee (f := 18) rfl ?_); refine goesL_ (some 14) rfl rfl Try.func18 (by kernel_rfl) rfl #[.agg #[.int .i64 a0_0, .int .i64 a0_1, .int .i64 a0_2, .int .i64 a0_3, .int .i64 a0_4, .int .i64 a0_5, .int .i64 a0_6]] rfl (by (try simp only [List.map_toArray, List.map_cons, List.map_nil]); first | done | rfl | (simp only [List.length_drop, List.length_take]; rfl)) ?_; (with_reducible refine (r04_Right.calls a0_0 a0_1 a0_2 a0_3 a0_4 a0_5 a0_6 true _ A6.out).mono ?_); rintro e w11 ⟨rfl, hb⟩; refine ⟨_, rfl, ?_⟩; replace BK502 := ak_ (blk_below BK502.out hb); replace BK503 := ak_ (blk_below BK503.out hb); replace HB := ak_ (below_step HB.out hb); (try clear hb))
    go_meet
    case rel => exact ⟨_, (true), (by rfl), H', ⟨by omega⟩, ⟨BK502.out⟩, ⟨BK503.out⟩, ⟨HB.out⟩⟩
   ·rw [if_neg c8] at H
    have c8b0 := beq_eq_false_iff_ne.mpr c8
    have c8b1 := bne_iff_ne.mpr c8
    have c8b2 : ¬ (l1 = []) := fun h_ => c8 (by rw [h_]; rfl)
    (first | rw [c8b0] | (simp only [i64_w, i32_w]; rw [c8b0]) | skip)
    have H' := ak_ H
    clear H
    have hnb12 := NB502_503.out
    have hnc12 := NB503_502.out
    obtain ⟨hcz13_0, hcz13_1, hcz13_2, hcz13_3, hcz13_4, hcz13_5, hcz13_6⟩ := cells7 BK502.out
    obtain ⟨hfz13_0, hfz13_1, hfz13_2, hfz13_3, hfz13_4, hfz13_5, hfz13_6⟩ := froz7 BK502.out
    go_wp2_with ((with_reducible refine gate_callee (f := 18) rfl ?_); refine goesL_ (some 14) rfl rfl Try.func18 (by kernel_rfl) rfl #[.agg #[.int .i64 a0_0, .int .i64 a0_1, .int .i64 a0_2, .int .i64 a0_3, .int .i64 a0_4, .int .i64 a0_5, .int .i64 a0_6]] rfl (by (try simp only [List.map_toArray, List.map_cons, List.map_nil]); first | done | rfl | (simp only [List.length_drop, List.length_take]; rfl)) ?_; (with_reducible refine (r04_Right.calls a0_0 a0_1 a0_2 a0_3 a0_4 a0_5 a0_6 true _ A6.out).mono ?_); rintro e w14 ⟨rfl, hb⟩; refine ⟨_, rfl, ?_⟩; replace BK502 := ak_ (blk_below BK502.out hb); replace BK503 := ak_ (blk_below BK503.out hb); replace HB := ak_ (below_step HB.out hb); (try clear hb); obtain ⟨hcz15_0, hcz15_1, hcz15_2, hcz15_3, hcz15_4, hcz15_5, hcz15_6⟩ := cells7 BK502.out; obtain ⟨hfz15_0, hfz15_1, hfz15_2, hfz15_3, hfz15_4, hfz15_5, hfz15_6⟩ := froz7 BK502.out)
    go_meet
    case rel => exact ⟨_, (decide ((l1.length : Int) > a0_5)), (by rfl), H', ⟨by omega⟩, ⟨BK502.out⟩, ⟨BK503.out⟩, ⟨HB.out⟩⟩
  ·replace c7 := Bool.eq_false_iff.mpr c7
   subst c7
   rw [if_neg (show ¬ (false = true) by decide)] at H
   have H' := ak_ H
   clear H
   have hnb16 := NB502_503.out
   have hnc16 := NB503_502.out
   obtain ⟨hcz17_0, hcz17_1, hcz17_2, hcz17_3, hcz17_4, hcz17_5, hcz17_6⟩ := cells7 BK502.out
   obtain ⟨hfz17_0, hfz17_1, hfz17_2, hfz17_3, hfz17_4, hfz17_5, hfz17_6⟩ := froz7 BK502.out
   go_wp2_with ((with_reducible refine gate_callee (f := 18) rfl ?_); refine goesL_ (some 14) rfl rfl Try.func18 (by kernel_rfl) rfl #[.agg #[.int .i64 a0_0, .int .i64 a0_1, .int .i64 a0_2, .int .i64 a0_3, .int .i64 a0_4, .int .i64 a0_5, .int .i64 a0_6]] rfl (by (try simp only [List.map_toArray, List.map_cons, List.map_nil]); first | done | rfl | (simp only [List.length_drop, List.length_take]; rfl)) ?_; (with_reducible refine (r04_Right.calls a0_0 a0_1 a0_2 a0_3 a0_4 a0_5 a0_6 false _ A6.out).mono ?_); rintro e w18 ⟨rfl, hb⟩; refine ⟨_, rfl, ?_⟩; replace BK502 := ak_ (blk_below BK502.out hb); replace BK503 := ak_ (blk_below BK503.out hb); replace HB := ak_ (below_step HB.out hb); (try clear hb))
   go_meet
   case rel => exact ⟨_, (true), (by rfl), H', ⟨by omega⟩, ⟨BK502.out⟩, ⟨BK503.out⟩, ⟨HB.out⟩⟩
 case rest =>
  clear HC3
  obtain ⟨kq, x27_2, rfl, HA, HJ2, BK502, BK503, HB⟩ := hcut
  cases kq with
  | zero => exact absurd HA.out (by simp [r09_Climb.j0])
  | succ kj2 =>
   have H := HA.out
   clear HA
   simp only [r09_Climb.j0] at H
   by_cases c19 : x27_2 = true
   ·subst c19
    rw [if_pos rfl] at H
    simp only [Option.some.injEq, Prod.mk.injEq] at H
    obtain ⟨rfl, rfl, rfl, rfl, rfl, rfl, rfl, rfl⟩ := H
    have hnb20 := NB503_502.out
    have hnc20 := NB502_503.out
    obtain ⟨hcz21_0, hcz21_1, hcz21_2, hcz21_3, hcz21_4, hcz21_5⟩ := cells6 BK503.out
    obtain ⟨hfz21_0, hfz21_1, hfz21_2, hfz21_3, hfz21_4, hfz21_5⟩ := froz6 BK503.out
    go_wp2
    refine bodyPost_ret (results_ctt rfl _ _ gb503 42 #[.slice none 0 0, .int .i64 0, .int .i64 0, .int .i64 0, .int .i64 0, .int .i64 0] (0, 0) _ rfl (put6 BK503.out) Try.underlying42 rfl (by kernel_rfl)) rfl ?_
    exact ⟨_, by rfl, (Kd.R_nil _ _ _ _ _), by repeat (first | (with_reducible first | exact HB.out | apply below_alloc | apply pw_below_drewN | apply below_drew1 | refine below_set ?_ GE502.out | refine below_set ?_ GE503.out) | exact HB.out)⟩
   ·replace c19 := Bool.eq_false_iff.mpr c19
    subst c19
    rw [if_neg (show ¬ (false = true) by decide)] at H
    have H' := ak_ H
    clear H
    go_wp2
    go_loopg [7] kj2 (fun kq v7 w' => ∃ (x7_2 : Int) (x504001_2 : Int) (x504002_2 : Int) (x504003_2 : Int) (x504004_2 : Int) (x504005_2 : Int), v7 = .int .i64 x7_2 ∧ Aside0 (r09_Climb.l0 kq l1 x7_2 a0_0 a0_1 a0_2 a0_3 a0_4 a0_5 a0_6 = some (r1, r2, r3, r4, r5, r6, r7, r8)) ∧ Aside0 (kq ≤ kj2) ∧ Aside0 (w'.heap[gb502]? = some (.cells #[.int .i64 a0_0, .int .i64 a0_1, .int .i64 a0_2, .int .i64 a0_3, .int .i64 a0_4, .int .i64 a0_5, .int .i64 a0_6] 23 (0, 0))) ∧ Aside0 (w'.heap[gb503]? = some (.cells #[(.slice none 0 0), .int .i64 x504001_2, .int .i64 x504002_2, .int .i64 x504003_2, .int .i64 x504004_2, .int .i64 x504005_2] 42 (0, 0))) ∧ Aside0 (Below w.heap.size w w'))
    case atStart => exact ⟨(0), (0), (0), (0), (0), (0), (by rfl), H', ⟨Nat.le_refl _⟩, ⟨BK502.out⟩, ⟨BK503.out⟩, ⟨HB.out⟩⟩
    case round =>
     clear H'
     obtain ⟨x7_2, x504001_2, x504002_2, x504003_2, x504004_2, x504005_2, rfl, HA, HK2, BK502, BK503, HB⟩ := hrel
     cases gk with
     | zero => exact absurd HA.out (by simp [r09_Climb.l0])
     | succ k2 =>
      have H := HA.out
      clear HA
      simp only [r09_Climb.l0] at H
      by_cases c22 : x7_2 < (l1.length : Int)
      ·rw [if_pos c22] at H
       have c22b0 := dt_ c22
       clear c22
       by_cases c23 : 0 ≤ x7_2
       ·rw [if_pos c23] at H
        have c23b0 := dt_ c23
        clear c23
        obtain ⟨t506, A24, H⟩ := bs_ H
        by_cases c25 : ((rd_L3 l1 x7_2).length : Int) = t506
        ·rw [if_pos c25] at H
         have c25b0 := beq_iff_eq.mpr c25
         have c25b1 := bne_eq_false_iff_eq.mpr c25
         clear c25
         have H' := ak_ H
         clear H
         try go_wp2
         replace BK502 := ak_ (blk_drew BK502.out)
         replace BK503 := ak_ (blk_drew BK503.out)
         replace HB := ak_ (below_drew1 HB.out)
         have p505 : 0 ≤ (x7_2 : Int) := od_ ‹_›
         have q505 : x7_2 < (l1.length : Int) := od_ ‹_›
         obtain ⟨ad505, A505_0, c505_0, e505, hx505_0, hl505_0, hi505_0⟩ := at_L3 HR1.out x7_2 p505 q505
         have hw505_0 := hx505_0
         cases e505
         replace hx505_0 := (HB.out.cell (World.block_lt_of_cell? w _ hx505_0)).trans hx505_0
         have HR505_0 := ak_ hi505_0
         have HC505_0 := ak_ hl505_0
         clear hi505_0 hl505_0
         replace p505 := eq_true p505
         replace q505 := eq_true q505
         refine start_ (n := 8) (S := fun w' => w'.cell? ⟨gb502, 0, none⟩ = some (.int .i64 a0_0) ∧ w'.cell? ⟨gb502, 1, none⟩ = some (.int .i64 a0_1) ∧ w'.cell? ⟨gb502, 2, none⟩ = some (.int .i64 a0_2) ∧ w'.cell? ⟨gb502, 3, none⟩ = some (.int .i64 a0_3) ∧ w'.cell? ⟨gb502, 4, none⟩ = some (.int .i64 a0_4) ∧ w'.cell? ⟨gb502, 5, none⟩ = some (.int .i64 a0_5) ∧ w'.cell? ⟨gb502, 6, none⟩ = some (.int .i64 a0_6) ∧ w'.cell? (ad505.add (x7_2).toNat) = some (.slice A505_0 (rd_L3 l1 x7_2).length c505_0)) (ds := []) #[false, false, false, false, false, false, false, false] (by kernel_rfl) rfl rfl ⟨(bc_ BK502.out 0).trans rfl, (bc_ BK502.out 1).trans rfl, (bc_ BK502.out 2).trans rfl, (bc_ BK502.out 3).trans rfl, (bc_ BK502.out 4).trans rfl, (bc_ BK502.out 5).trans rfl, (bc_ BK502.out 6).trans rfl, ((HB.out.cell (World.block_lt_of_cell? w _ hw505_0)).trans hw505_0)⟩ (fun hHeld => ?_); refine with_tabW r09_Climb.tab6 r09_Climb.bits6 (fun HT_ HW_ => ?_)
         generalize wr.drew = w26 at BK502 BK503 HB HR505_0 hx505_0 hHeld ⊢
         refine pu 0 (some 35) #[true, false, false, false, false, false, false, false] HT_.out rfl rfl ?_
         refine pu 1 (some 36) #[true, true, false, false, false, false, false, false] HT_.out rfl rfl ?_
         refine pu 2 (some 37) #[true, true, true, false, false, false, false, false] HT_.out rfl rfl ?_
         refine take_ (i := 3) (N := some 38) (v := ?_) (a' := ?_) #[true, true, true, true, false, false, false, false] rfl rfl (take_ofW HT_.out HW_.out (by kernel_rfl)) (fun _ _ _ h => h) (Or.inl ⟨by rfl, ?_⟩) hHeld ?_ ?_
         rotate_left
         ·rintro w' ⟨s0, s1, s2, s3, s4, s5, s6, s7⟩
          go_simp
          with_reducible rfl
         rotate_left
         ·simp only [Act.put, sb_, sz_, su_, i64_w, i32_w]
          rfl
         refine pu 4 (some 39) #[true, true, true, true, true, false, false, false] HT_.out rfl rfl ?_
         refine take_ (i := 5) (N := some 40) (v := ?_) (a' := ?_) #[true, true, true, true, true, true, false, false] rfl rfl (take_ofW HT_.out HW_.out (by kernel_rfl)) (fun _ _ _ h => h) (Or.inl ⟨by rfl, ?_⟩) hHeld ?_ ?_
         rotate_left
         ·rintro w' ⟨s0, s1, s2, s3, s4, s5, s6, s7⟩
          go_simp
          with_reducible rfl
         rotate_left
         ·simp only [Act.put, sb_, sz_, su_, i64_w, i32_w]
          rfl
         refine one_ (i := 6) (N := some 41) #[true, true, true, true, true, true, true, false] rfl rfl (one_of HT_.out (by kernel_rfl)) (by decide) (fun K hK => ?_)
         refine goes_ Try.func51 (by kernel_rfl) rfl #[.agg #[.int .i64 a0_0, .int .i64 a0_1, .int .i64 a0_2, .int .i64 a0_3, .int .i64 a0_4, .int .i64 a0_5, .int .i64 a0_6]] (by rfl) rfl rfl (by (try simp only [List.map_toArray, List.map_cons, List.map_nil]); first | done | rfl | (simp only [List.length_drop, List.length_take]; rfl)) ?_
         with_reducible refine (r04_Raw.calls a0_0 a0_1 a0_2 a0_3 a0_4 a0_5 a0_6 t506 _ A24.out).mono ?_
         rintro e w27 ⟨rfl, hb⟩
         refine ⟨_, rfl, ?_⟩
         replace BK502 := ak_ (blk_below BK502.out hb)
         replace BK503 := ak_ (blk_below BK503.out hb)
         replace HB := ak_ (below_step HB.out hb)
         (try clear hb)
         refine hK.out _ _ ⟨(bc_ BK502.out 0).trans rfl, (bc_ BK502.out 1).trans rfl, (bc_ BK502.out 2).trans rfl, (bc_ BK502.out 3).trans rfl, (bc_ BK502.out 4).trans rfl, (bc_ BK502.out 5).trans rfl, (bc_ BK502.out 6).trans rfl, ((HB.out.cell (World.block_lt_of_cell? w _ hw505_0)).trans hw505_0)⟩ (fun hHeld => ?_)
         clear hK K
         refine norm_ (a' := ?_) ?_ ?_
         rotate_left
         ·show Act.put _ (some 41) _ = _
          simp only [Act.put, sb_, sz_, su_, i64_w, i32_w]
          rfl
         refine pu 7 (some 42) #[true, true, true, true, true, true, true, true] HT_.out rfl rfl ?_
         refine done_ (done_of HT_.out (by kernel_rfl)) ?_
         try go_wp2
         go_roundg k2
         case measure => have := HJ2.out; have := HK2.out; omega
         case rel => exact ⟨(wrap64 (x7_2 + 1)), (x504001_2), (x504002_2), (x504003_2), (x504004_2), (x504005_2), (by rfl), H', ⟨by have := HJ2.out; have := HK2.out; omega⟩, ⟨BK502.out⟩, ⟨BK503.out⟩, ⟨HB.out⟩⟩
        ·rw [if_neg c25] at H
         have c25b0 := beq_eq_false_iff_ne.mpr c25
         have c25b1 := bne_iff_ne.mpr c25
         simp only [Option.some.injEq, Prod.mk.injEq] at H
         obtain ⟨rfl, rfl, rfl, rfl, rfl, rfl, rfl, rfl⟩ := H
         try go_wp2
         replace BK502 := ak_ (blk_drew BK502.out)
         replace BK503 := ak_ (blk_drew BK503.out)
         replace HB := ak_ (below_drew1 HB.out)
         have p505 : 0 ≤ (x7_2 : Int) := od_ ‹_›
         have q505 : x7_2 < (l1.length : Int) := od_ ‹_›
         obtain ⟨ad505, A505_0, c505_0, e505, hx505_0, hl505_0, hi505_0⟩ := at_L3 HR1.out x7_2 p505 q505
         have hw505_0 := hx505_0
         cases e505
         replace hx505_0 := (HB.out.cell (World.block_lt_of_cell? w _ hx505_0)).trans hx505_0
         have HR505_0 := ak_ hi505_0
         have HC505_0 := ak_ hl505_0
         clear hi505_0 hl505_0
         replace p505 := eq_true p505
         replace q505 := eq_true q505
         refine start_ (n := 8) (S := fun w' => w'.cell? ⟨gb502, 0, none⟩ = some (.int .i64 a0_0) ∧ w'.cell? ⟨gb502, 1, none⟩ = some (.int .i64 a0_1) ∧ w'.cell? ⟨gb502, 2, none⟩ = some (.int .i64 a0_2) ∧ w'.cell? ⟨gb502, 3, none⟩ = some (.int .i64 a0_3) ∧ w'.cell? ⟨gb502, 4, none⟩ = some (.int .i64 a0_4) ∧ w'.cell? ⟨gb502, 5, none⟩ = some (.int .i64 a0_5) ∧ w'.cell? ⟨gb502, 6, none⟩ = some (.int .i64 a0_6) ∧ w'.cell? (ad505.add (x7_2).toNat) = some (.slice A505_0 (rd_L3 l1 x7_2).length c505_0)) (ds := []) #[false, false, false, false, false, false, false, false] (by kernel_rfl) rfl rfl ⟨(bc_ BK502.out 0).trans rfl, (bc_ BK502.out 1).trans rfl, (bc_ BK502.out 2).trans rfl, (bc_ BK502.out 3).trans rfl, (bc_ BK502.out 4).trans rfl, (bc_ BK502.out 5).trans rfl, (bc_ BK502.out 6).trans rfl, ((HB.out.cell (World.block_lt_of_cell? w _ hw505_0)).trans hw505_0)⟩ (fun hHeld => ?_); refine with_tabW r09_Climb.tab6 r09_Climb.bits6 (fun HT_ HW_ => ?_)
         generalize wr.drew = w28 at BK502 BK503 HB HR505_0 hx505_0 hHeld ⊢
         refine pu 0 (some 35) #[true, false, false, false, false, false, false, false] HT_.out rfl rfl ?_
         refine pu 1 (some 36) #[true, true, false, false, false, false, false, false] HT_.out rfl rfl ?_
         refine pu 2 (some 37) #[true, true, true, false, false, false, false, false] HT_.out rfl rfl ?_
         refine take_ (i := 3) (N := some 38) (v := ?_) (a' := ?_) #[true, true, true, true, false, false, false, false] rfl rfl (take_ofW HT_.out HW_.out (by kernel_rfl)) (fun _ _ _ h => h) (Or.inl ⟨by rfl, ?_⟩) hHeld ?_ ?_
         rotate_left
         ·rintro w' ⟨s0, s1, s2, s3, s4, s5, s6, s7⟩
          go_simp
          with_reducible rfl
         rotate_left
         ·simp only [Act.put, sb_, sz_, su_, i64_w, i32_w]
          rfl
         refine pu 4 (some 39) #[true, true, true, true, true, false, false, false] HT_.out rfl rfl ?_
         refine take_ (i := 5) (N := some 40) (v := ?_) (a' := ?_) #[true, true, true, true, true, true, false, false] rfl rfl (take_ofW HT_.out HW_.out (by kernel_rfl)) (fun _ _ _ h => h) (Or.inl ⟨by rfl, ?_⟩) hHeld ?_ ?_
         rotate_left
         ·rintro w' ⟨s0, s1, s2, s3, s4, s5, s6, s7⟩
          go_simp
          with_reducible rfl
         rotate_left
         ·simp only [Act.put, sb_, sz_, su_, i64_w, i32_w]
          rfl
         refine one_ (i := 6) (N := some 41) #[true, true, true, true, true, true, true, false] rfl rfl (one_of HT_.out (by kernel_rfl)) (by decide) (fun K hK => ?_)
         refine goes_ Try.func51 (by kernel_rfl) rfl #[.agg #[.int .i64 a0_0, .int .i64 a0_1, .int .i64 a0_2, .int .i64 a0_3, .int .i64 a0_4, .int .i64 a0_5, .int .i64 a0_6]] (by rfl) rfl rfl (by (try simp only [List.map_toArray, List.map_cons, List.map_nil]); first | done | rfl | (simp only [List.length_drop, List.length_take]; rfl)) ?_
         with_reducible refine (r04_Raw.calls a0_0 a0_1 a0_2 a0_3 a0_4 a0_5 a0_6 t506 _ A24.out).mono ?_
         rintro e w29 ⟨rfl, hb⟩
         refine ⟨_, rfl, ?_⟩
         replace BK502 := ak_ (blk_below BK502.out hb)
         replace BK503 := ak_ (blk_below BK503.out hb)
         replace HB := ak_ (below_step HB.out hb)
         (try clear hb)
         refine hK.out _ _ ⟨(bc_ BK502.out 0).trans rfl, (bc_ BK502.out 1).trans rfl, (bc_ BK502.out 2).trans rfl, (bc_ BK502.out 3).trans rfl, (bc_ BK502.out 4).trans rfl, (bc_ BK502.out 5).trans rfl, (bc_ BK502.out 6).trans rfl, ((HB.out.cell (World.block_lt_of_cell? w _ hw505_0)).trans hw505_0)⟩ (fun hHeld => ?_)
         clear hK K
         refine norm_ (a' := ?_) ?_ ?_
         rotate_left
         ·show Act.put _ (some 41) _ = _
          simp only [Act.put, sb_, sz_, su_, i64_w, i32_w]
          rfl
         refine pu 7 (some 42) #[true, true, true, true, true, true, true, true] HT_.out rfl rfl ?_
         refine done_ (done_of HT_.out (by kernel_rfl)) ?_
         have hnb30 := NB503_502.out
         have hnc30 := NB502_503.out
         obtain ⟨hcz31_0, hcz31_1, hcz31_2, hcz31_3, hcz31_4, hcz31_5⟩ := cells6 BK503.out
         obtain ⟨hfz31_0, hfz31_1, hfz31_2, hfz31_3, hfz31_4, hfz31_5⟩ := froz6 BK503.out
         try go_wp2
         refine bodyPost_ret (results_ctt rfl _ _ gb503 42 #[.slice none 0 0, .int .i64 0, .int .i64 0, .int .i64 0, .int .i64 0, .int .i64 0] (0, 0) _ rfl (put6 BK503.out) Try.underlying42 rfl (by kernel_rfl)) rfl ?_
         exact ⟨_, by rfl, (Kd.R_nil _ _ _ _ _), by repeat (first | (with_reducible first | exact HB.out | apply below_alloc | apply pw_below_drewN | apply below_drew1 | refine below_set ?_ GE502.out | refine below_set ?_ GE503.out) | exact HB.out)⟩
       ·rw [if_neg c23] at H
        exact absurd H (by simp)
      ·rw [if_neg c22] at H
       have c22b0 := df_ c22
       clear c22
       have H' := ak_ H
       clear H
       go_wp2
       go_loopg [8] k2 (fun kq v8 w' => ∃ (x8_3 : Int) (x504001_3 : Int) (x504002_3 : Int) (x504003_3 : Int) (x504004_3 : Int) (x504005_3 : Int), v8 = .int .i64 x8_3 ∧ Aside0 (r09_Climb.l1 kq l1 x8_3 a0_0 a0_1 a0_2 a0_3 a0_4 a0_5 a0_6 = some (r1, r2, r3, r4, r5, r6, r7, r8)) ∧ Aside0 (kq ≤ k2) ∧ Aside0 (w'.heap[gb502]? = some (.cells #[.int .i64 a0_0, .int .i64 a0_1, .int .i64 a0_2, .int .i64 a0_3, .int .i64 a0_4, .int .i64 a0_5, .int .i64 a0_6] 23 (0, 0))) ∧ Aside0 (w'.heap[gb503]? = some (.cells #[(.slice none 0 0), .int .i64 x504001_3, .int .i64 x504002_3, .int .i64 x504003_3, .int .i64 x504004_3, .int .i64 x504005_3] 42 (0, 0))) ∧ Aside0 (Below w.heap.size w w'))
       case atStart => exact ⟨(0), (x504001_2), (x504002_2), (x504003_2), (x504004_2), (x504005_2), (by rfl), H', ⟨Nat.le_refl _⟩, ⟨BK502.out⟩, ⟨BK503.out⟩, ⟨HB.out⟩⟩
       case round =>
        clear H'
        clear c22b0
        obtain ⟨x8_3, x504001_3, x504002_3, x504003_3, x504004_3, x504005_3, rfl, HA, HK3, BK502, BK503, HB⟩ := hrel
        cases gk with
        | zero => exact absurd HA.out (by simp [r09_Climb.l1])
        | succ k3 =>
         have H := HA.out
         clear HA
         simp only [r09_Climb.l1] at H
         by_cases c32 : x8_3 < (l1.length : Int)
         ·rw [if_pos c32] at H
          have c32b0 := dt_ c32
          clear c32
          by_cases c33 : 0 ≤ x8_3
          ·rw [if_pos c33] at H
           have c33b0 := dt_ c33
           clear c33
           obtain ⟨⟨t508, t511, t512, t513, t514, t515, t516⟩, A34, H⟩ := bs_ H
           try dsimp only at H
           by_cases c35 : t516 = 0
           ·rw [if_pos c35] at H
            have c35b0 := beq_iff_eq.mpr c35
            have c35b1 := bne_eq_false_iff_eq.mpr c35
            clear c35
            simp only [Option.some.injEq, Prod.mk.injEq] at H
            obtain ⟨rfl, rfl, rfl, rfl, rfl, rfl, rfl, rfl⟩ := H
            try go_wp2
            replace BK502 := ak_ (blk_drew BK502.out)
            replace BK503 := ak_ (blk_drew BK503.out)
            replace HB := ak_ (below_drew1 HB.out)
            have p507 : 0 ≤ (x8_3 : Int) := od_ ‹_›
            have q507 : x8_3 < (l1.length : Int) := od_ ‹_›
            obtain ⟨ad507, A507_0, c507_0, e507, hx507_0, hl507_0, hi507_0⟩ := at_L3 HR1.out x8_3 p507 q507
            have hw507_0 := hx507_0
            cases e507
            replace hx507_0 := (HB.out.cell (World.block_lt_of_cell? w _ hx507_0)).trans hx507_0
            have HR507_0 := ak_ hi507_0
            have HC507_0 := ak_ hl507_0
            clear hi507_0 hl507_0
            replace p507 := eq_true p507
            replace q507 := eq_true q507
            refine start_ (n := 16) (S := fun w' => w'.cell? ⟨gb502, 0, none⟩ = some (.int .i64 a0_0) ∧ w'.cell? ⟨gb502, 1, none⟩ = some (.int .i64 a0_1) ∧ w'.cell? ⟨gb502, 2, none⟩ = some (.int .i64 a0_2) ∧ w'.cell? ⟨gb502, 3, none⟩ = some (.int .i64 a0_3) ∧ w'.cell? ⟨gb502, 4, none⟩ = some (.int .i64 a0_4) ∧ w'.cell? ⟨gb502, 5, none⟩ = some (.int .i64 a0_5) ∧ w'.cell? ⟨gb502, 6, none⟩ = some (.int .i64 a0_6) ∧ w'.cell? (ad507.add (x8_3).toNat) = some (.slice A507_0 (rd_L3 l1 x8_3).length c507_0)) (ds := []) #[false, false, false, false, false, false, false, false, false, false, false, false, false, false, false, false] (by kernel_rfl) rfl rfl ⟨(bc_ BK502.out 0).trans rfl, (bc_ BK502.out 1).trans rfl, (bc_ BK502.out 2).trans rfl, (bc_ BK502.out 3).trans rfl, (bc_ BK502.out 4).trans rfl, (bc_ BK502.out 5).trans rfl, (bc_ BK502.out 6).trans rfl, ((HB.out.cell (World.block_lt_of_cell? w _ hw507_0)).trans hw507_0)⟩ (fun hHeld => ?_); refine with_tabW r09_Climb.tab11 r09_Climb.bits11 (fun HT_ HW_ => ?_)
            generalize wr.drew = w36 at BK502 BK503 HB HR507_0 hx507_0 hHeld ⊢
            refine pu 1 (some 52) #[false, true, false, false, false, false, false, false, false, false, false, false, false, false, false, false] HT_.out rfl rfl ?_
            refine pu 2 (some 53) #[false, true, true, false, false, false, false, false, false, false, false, false, false, false, false, false] HT_.out rfl rfl ?_
            refine pu 3 (some 54) #[false, true, true, true, false, false, false, false, false, false, false, false, false, false, false, false] HT_.out rfl rfl ?_
            refine take_ (i := 0) (N := some 51) (v := ?_) (a' := ?_) #[true, true, true, true, false, false, false, false, false, false, false, false, false, false, false, false] rfl rfl (take_ofW HT_.out HW_.out (by kernel_rfl)) (fun _ _ _ h => h) (Or.inl ⟨by rfl, ?_⟩) hHeld ?_ ?_
            rotate_left
            ·rintro w' ⟨s0, s1, s2, s3, s4, s5, s6, s7⟩
             go_simp
             with_reducible rfl
            rotate_left
            ·simp only [Act.put, sb_, sz_, su_, i64_w, i32_w]
             rfl
            refine take_ (i := 4) (N := some 55) (v := ?_) (a' := ?_) #[true, true, true, true, true, false, false, false, false, false, false, false, false, false, false, false] rfl rfl (take_ofW HT_.out HW_.out (by kernel_rfl)) (fun _ _ _ h => h) (Or.inl ⟨by rfl, ?_⟩) hHeld ?_ ?_
            rotate_left
            ·rintro w' ⟨s0, s1, s2, s3, s4, s5, s6, s7⟩
             go_simp
             with_reducible rfl
            rotate_left
            ·simp only [Act.put, sb_, sz_, su_, i64_w, i32_w]
             rfl
            refine join_ (σ := Value × Nat) 4 #[true, true, true, true, true, true, true, true, true, true, true, true, false, false, false, false] (fun s_ => [(56, .tuple #[s_.1, .agg #[.int .i64 t511, .int .i64 t512, .int .i64 t513, .int .i64 t514], .int .i64 t515, .int .i64 t516]), (10, .pointer (some ⟨s_.2, 0, none⟩)), (50, .tuple #[s_.1, .agg #[.int .i64 t511, .int .i64 t512, .int .i64 t513, .int .i64 t514], .int .i64 t515, .int .i64 t516]), (57, s_.1), (58, .agg #[.int .i64 t511, .int .i64 t512, .int .i64 t513, .int .i64 t514]), (59, .int .i64 t515), (60, .int .i64 t516)]) (fun s_ w' => (w'.cell? ⟨gb502, 0, none⟩ = some (.int .i64 a0_0) ∧ w'.cell? ⟨gb502, 1, none⟩ = some (.int .i64 a0_1) ∧ w'.cell? ⟨gb502, 2, none⟩ = some (.int .i64 a0_2) ∧ w'.cell? ⟨gb502, 3, none⟩ = some (.int .i64 a0_3) ∧ w'.cell? ⟨gb502, 4, none⟩ = some (.int .i64 a0_4) ∧ w'.cell? ⟨gb502, 5, none⟩ = some (.int .i64 a0_5) ∧ w'.cell? ⟨gb502, 6, none⟩ = some (.int .i64 a0_6) ∧ w'.cell? (ad507.add (x8_3).toNat) = some (.slice A507_0 (rd_L3 l1 x8_3).length c507_0)) ∧ (Kd.R (Kd.int .u8) 5 w' w.heap.size (fun _ => True) s_.1 t508) ∧ (w'.heap[gb502]? = some (.cells #[.int .i64 a0_0, .int .i64 a0_1, .int .i64 a0_2, .int .i64 a0_3, .int .i64 a0_4, .int .i64 a0_5, .int .i64 a0_6] 23 (0, 0))) ∧ (w'.heap[gb503]? = some (.cells #[.slice none 0 0, .int .i64 x504001_3, .int .i64 x504002_3, .int .i64 x504003_3, .int .i64 x504004_3, .int .i64 x504005_3] 42 (0, 0))) ∧ (w'.heap[s_.2]? = some (.cells #[.int .i64 0, .int .i64 0, .int .i64 0, .int .i64 0] 26 (0, 0))) ∧ (w.heap.size ≤ s_.2) ∧ (w.heap.size ≤ s_.2) ∧ (gb502 ≠ s_.2) ∧ (s_.2 ≠ gb502) ∧ (gb503 ≠ s_.2) ∧ (s_.2 ≠ gb503) ∧ (Below w.heap.size w w')) ?_ ?_
            rotate_left
            ·intro hCont
             refine two_ (i := 5) (j := 11) (Ni := some 56) (Nj := some 10) #[true, true, true, true, true, true, false, false, false, false, false, false, false, false, false, false] #[true, true, true, true, true, false, false, false, false, false, false, true, false, false, false, false] rfl rfl rfl rfl (two_of HT_.out (by kernel_rfl)) (by decide) (by decide) (fun K hK => ?_) (fun K hK => ?_)
             ·skip
              refine goes_ Try.func29 (by kernel_rfl) rfl #[.agg #[.int .i64 a0_0, .int .i64 a0_1, .int .i64 a0_2, .int .i64 a0_3, .int .i64 a0_4, .int .i64 a0_5, .int .i64 a0_6], .slice A507_0 (rd_L3 l1 x8_3).length c507_0] (by rfl) rfl rfl (by (try simp only [List.map_toArray, List.map_cons, List.map_nil]); first | done | rfl | (simp only [List.length_drop, List.length_take]; rfl)) ?_
              with_reducible refine (r08_Decode.calls k3 a0_0 a0_1 a0_2 a0_3 a0_4 a0_5 a0_6 _ _ (rd_L3 l1 x8_3) t508 t511 t512 t513 t514 t515 t516 _ ?side1 ?side2 A34.out).mono ?_
              (case side1 => exact (Kd.C_below HR507_0.out HB.out))
              (case side2 => exact HC507_0.out)
              rintro e w37 ⟨v509, rfl, ho0, hb⟩
              refine ⟨_, rfl, ?_⟩
              have HO510 := ak_ (Kd.R_lower ho0 (below_size HB.out))
              replace BK502 := ak_ (blk_below BK502.out hb)
              replace BK503 := ak_ (blk_below BK503.out hb)
              replace HB := ak_ (below_step HB.out hb)
              (try clear hb)
              (try clear ho0)
              refine hK.out _ _ ⟨(bc_ BK502.out 0).trans rfl, (bc_ BK502.out 1).trans rfl, (bc_ BK502.out 2).trans rfl, (bc_ BK502.out 3).trans rfl, (bc_ BK502.out 4).trans rfl, (bc_ BK502.out 5).trans rfl, (bc_ BK502.out 6).trans rfl, ((HB.out.cell (World.block_lt_of_cell? w _ hw507_0)).trans hw507_0)⟩ (fun hHeld => ?_)
              clear hK K
              refine norm_ (a' := ?_) ?_ ?_
              rotate_left
              ·show Act.put _ (some 56) _ = _
               simp only [Act.put, sb_, sz_, su_, i64_w, i32_w]
               rfl
              refine pu 6 (some 50) #[true, true, true, true, true, true, true, false, false, false, false, false, false, false, false, false] HT_.out rfl rfl ?_
              refine pu 7 (some 57) #[true, true, true, true, true, true, true, true, false, false, false, false, false, false, false, false] HT_.out rfl rfl ?_
              refine pu 8 (some 58) #[true, true, true, true, true, true, true, true, true, false, false, false, false, false, false, false] HT_.out rfl rfl ?_
              refine pu 9 (some 59) #[true, true, true, true, true, true, true, true, true, true, false, false, false, false, false, false] HT_.out rfl rfl ?_
              refine pu 10 (some 60) #[true, true, true, true, true, true, true, true, true, true, true, false, false, false, false, false] HT_.out rfl rfl ?_
              refine one_ (i := 11) (N := some 10) #[true, true, true, true, true, true, true, true, true, true, true, true, false, false, false, false] rfl rfl (one_of HT_.out (by kernel_rfl)) (by decide) (fun K hK => ?_)
              refine box_step ?hg (N := 10) ?hd (cs := #[.int .i64 0, .int .i64 0, .int .i64 0, .int .i64 0]) (t := 26) ?hr ?_; (case hd => rfl); (case hg => rfl); (case hr => (go_simp; done))
              intro gb517 hg w38 hbox hb
              have n0_ := ak_ (Kd.R_below HO510.out hb)
              have n1_ := ak_ (blk_below BK502.out hb)
              have n2_ := ak_ (blk_below BK503.out hb)
              have n3_ := ak_ (below_step HB.out hb)
              have n4_ := ak_ (hbox)
              have n5_ := ak_ (gw_ hg (below_size HB.out))
              have n6_ := ak_ (gw_ hg (below_size HB.out))
              have n7_ := ak_ ((by rw [hg]; exact Nat.ne_of_lt (blk_lt BK502.out) : gb502 ≠ gb517))
              have n8_ := ak_ ((by rw [hg]; exact Nat.ne_of_gt (blk_lt BK502.out) : gb517 ≠ gb502))
              have n9_ := ak_ ((by rw [hg]; exact Nat.ne_of_lt (blk_lt BK503.out) : gb503 ≠ gb517))
              have n10_ := ak_ ((by rw [hg]; exact Nat.ne_of_gt (blk_lt BK503.out) : gb517 ≠ gb503))
              clear HO510 BK502 BK503 HB
              have HO510 := n0_
              have BK502 := n1_
              have BK503 := n2_
              have HB := n3_
              have BK517 := n4_
              have GW517 := n5_
              have GE517 := n6_
              have NB502_517 := n7_
              have NB517_502 := n8_
              have NB503_517 := n9_
              have NB517_503 := n10_
              clear n0_ n1_ n2_ n3_ n4_ n5_ n6_ n7_ n8_ n9_ n10_ hb hbox hg
              refine hK.out _ _ ⟨(bc_ BK502.out 0).trans rfl, (bc_ BK502.out 1).trans rfl, (bc_ BK502.out 2).trans rfl, (bc_ BK502.out 3).trans rfl, (bc_ BK502.out 4).trans rfl, (bc_ BK502.out 5).trans rfl, (bc_ BK502.out 6).trans rfl, ((HB.out.cell (World.block_lt_of_cell? w _ hw507_0)).trans hw507_0)⟩ (fun hHeld => ?_)
              clear hK K
              refine norm_ (a' := ?_) ?_ ?_
              rotate_left
              ·show Act.put _ (some 10) _ = _
               simp only [Act.put, sb_, sz_, su_, i64_w, i32_w]
               rfl
              exact norm_ (by simp only [putAll, Act.put, sb_, sz_, su_]) (hCont (v509, gb517) _ ⟨hHeld, HO510.out, BK502.out, BK503.out, BK517.out, GW517.out, GE517.out, NB502_517.out, NB517_502.out, NB503_517.out, NB517_503.out, HB.out⟩)
             ·skip
              refine box_step ?hg (N := 10) ?hd (cs := #[.int .i64 0, .int .i64 0, .int .i64 0, .int .i64 0]) (t := 26) ?hr ?_; (case hd => rfl); (case hg => rfl); (case hr => (go_simp; done))
              intro gb517 hg w37 hbox hb
              have n0_ := ak_ (blk_below BK502.out hb)
              have n1_ := ak_ (blk_below BK503.out hb)
              have n2_ := ak_ (below_step HB.out hb)
              have n3_ := ak_ (hbox)
              have n4_ := ak_ (gw_ hg (below_size HB.out))
              have n5_ := ak_ (gw_ hg (below_size HB.out))
              have n6_ := ak_ ((by rw [hg]; exact Nat.ne_of_lt (blk_lt BK502.out) : gb502 ≠ gb517))
              have n7_ := ak_ ((by rw [hg]; exact Nat.ne_of_gt (blk_lt BK502.out) : gb517 ≠ gb502))
              have n8_ := ak_ ((by rw [hg]; exact Nat.ne_of_lt (blk_lt BK503.out) : gb503 ≠ gb517))
              have n9_ := ak_ ((by rw [hg]; exact Nat.ne_of_gt (blk_lt BK503.out) : gb517 ≠ gb503))
              clear BK502 BK503 HB
              have BK502 := n0_
              have BK503 := n1_
              have HB := n2_
              have BK517 := n3_
              have GW517 := n4_
              have GE517 := n5_
              have NB502_517 := n6_
              have NB517_502 := n7_
              have NB503_517 := n8_
              have NB517_503 := n9_
              clear n0_ n1_ n2_ n3_ n4_ n5_ n6_ n7_ n8_ n9_ hb hbox hg
              refine hK.out _ _ ⟨(bc_ BK502.out 0).trans rfl, (bc_ BK502.out 1).trans rfl, (bc_ BK502.out 2).trans rfl, (bc_ BK502.out 3).trans rfl, (bc_ BK502.out 4).trans rfl, (bc_ BK502.out 5).trans rfl, (bc_ BK502.out 6).trans rfl, ((HB.out.cell (World.block_lt_of_cell? w _ hw507_0)).trans hw507_0)⟩ (fun hHeld => ?_)
              clear hK K
              refine norm_ (a' := ?_) ?_ ?_
              rotate_left
              ·show Act.put _ (some 10) _ = _
               simp only [Act.put, sb_, sz_, su_, i64_w, i32_w]
               rfl
              refine one_ (i := 5) (N := some 56) #[true, true, true, true, true, true, false, false, false, false, false, true, false, false, false, false] rfl rfl (one_of HT_.out (by kernel_rfl)) (by decide) (fun K hK => ?_)
              refine goes_ Try.func29 (by kernel_rfl) rfl #[.agg #[.int .i64 a0_0, .int .i64 a0_1, .int .i64 a0_2, .int .i64 a0_3, .int .i64 a0_4, .int .i64 a0_5, .int .i64 a0_6], .slice A507_0 (rd_L3 l1 x8_3).length c507_0] (by rfl) rfl rfl (by (try simp only [List.map_toArray, List.map_cons, List.map_nil]); first | done | rfl | (simp only [List.length_drop, List.length_take]; rfl)) ?_
              with_reducible refine (r08_Decode.calls k3 a0_0 a0_1 a0_2 a0_3 a0_4 a0_5 a0_6 _ _ (rd_L3 l1 x8_3) t508 t511 t512 t513 t514 t515 t516 _ ?side1 ?side2 A34.out).mono ?_
              (case side1 => exact (Kd.C_below HR507_0.out HB.out))
              (case side2 => exact HC507_0.out)
              rintro e w38 ⟨v509, rfl, ho0, hb⟩
              refine ⟨_, rfl, ?_⟩
              have HO510 := ak_ (Kd.R_lower ho0 (below_size HB.out))
              replace BK502 := ak_ (blk_below BK502.out hb)
              replace BK503 := ak_ (blk_below BK503.out hb)
              replace BK517 := ak_ (blk_below BK517.out hb)
              replace HB := ak_ (below_step HB.out hb)
              (try clear hb)
              (try clear ho0)
              refine hK.out _ _ ⟨(bc_ BK502.out 0).trans rfl, (bc_ BK502.out 1).trans rfl, (bc_ BK502.out 2).trans rfl, (bc_ BK502.out 3).trans rfl, (bc_ BK502.out 4).trans rfl, (bc_ BK502.out 5).trans rfl, (bc_ BK502.out 6).trans rfl, ((HB.out.cell (World.block_lt_of_cell? w _ hw507_0)).trans hw507_0)⟩ (fun hHeld => ?_)
              clear hK K
              refine norm_ (a' := ?_) ?_ ?_
              rotate_left
              ·show Act.put _ (some 56) _ = _
               simp only [Act.put, sb_, sz_, su_, i64_w, i32_w]
               rfl
              refine pu 6 (some 50) #[true, true, true, true, true, true, true, false, false, false, false, true, false, false, false, false] HT_.out rfl rfl ?_
              refine pu 7 (some 57) #[true, true, true, true, true, true, true, true, false, false, false, true, false, false, false, false] HT_.out rfl rfl ?_
              refine pu 8 (some 58) #[true, true, true, true, true, true, true, true, true, false, false, true, false, false, false, false] HT_.out rfl rfl ?_
              refine pu 9 (some 59) #[true, true, true, true, true, true, true, true, true, true, false, true, false, false, false, false] HT_.out rfl rfl ?_
              refine pu 10 (some 60) #[true, true, true, true, true, true, true, true, true, true, true, true, false, false, false, false] HT_.out rfl rfl ?_
              exact norm_ (by simp only [putAll, Act.put, sb_, sz_, su_]) (hCont (v509, gb517) _ ⟨hHeld, HO510.out, BK502.out, BK503.out, BK517.out, GW517.out, GE517.out, NB502_517.out, NB517_502.out, NB503_517.out, NB517_503.out, HB.out⟩)
            rintro ⟨v509, gb517⟩ w39 ⟨hS_, h0_, h1_, h2_, h3_, h4_, h5_, h6_, h7_, h8_, h9_, h10_⟩
            have n0_ : Aside0 (Kd.R (Kd.int .u8) 5 w39 w.heap.size (fun _ => True) v509 t508) := ⟨h0_⟩
            have n1_ : Aside0 (w39.heap[gb502]? = some (.cells #[.int .i64 a0_0, .int .i64 a0_1, .int .i64 a0_2, .int .i64 a0_3, .int .i64 a0_4, .int .i64 a0_5, .int .i64 a0_6] 23 (0, 0))) := ⟨h1_⟩
            have n2_ : Aside0 (w39.heap[gb503]? = some (.cells #[.slice none 0 0, .int .i64 x504001_3, .int .i64 x504002_3, .int .i64 x504003_3, .int .i64 x504004_3, .int .i64 x504005_3] 42 (0, 0))) := ⟨h2_⟩
            have n3_ : Aside0 (w39.heap[gb517]? = some (.cells #[.int .i64 0, .int .i64 0, .int .i64 0, .int .i64 0] 26 (0, 0))) := ⟨h3_⟩
            have n4_ : Aside0 (w.heap.size ≤ gb517) := ⟨h4_⟩
            have n5_ : Aside0 (w.heap.size ≤ gb517) := ⟨h5_⟩
            have n6_ : Aside0 (gb502 ≠ gb517) := ⟨h6_⟩
            have n7_ : Aside0 (gb517 ≠ gb502) := ⟨h7_⟩
            have n8_ : Aside0 (gb503 ≠ gb517) := ⟨h8_⟩
            have n9_ : Aside0 (gb517 ≠ gb503) := ⟨h9_⟩
            have n10_ : Aside0 (Below w.heap.size w w39) := ⟨h10_⟩
            clear BK502 BK503 HB h0_ h1_ h2_ h3_ h4_ h5_ h6_ h7_ h8_ h9_ h10_
            have HO510 := n0_
            have BK502 := n1_
            have BK503 := n2_
            have BK517 := n3_
            have GW517 := n4_
            have GE517 := n5_
            have NB502_517 := n6_
            have NB517_502 := n7_
            have NB503_517 := n8_
            have NB517_503 := n9_
            have HB := n10_
            clear n0_ n1_ n2_ n3_ n4_ n5_ n6_ n7_ n8_ n9_ n10_
            have hHeld : w39.cell? ⟨gb502, 0, none⟩ = some (.int .i64 a0_0) ∧ w39.cell? ⟨gb502, 1, none⟩ = some (.int .i64 a0_1) ∧ w39.cell? ⟨gb502, 2, none⟩ = some (.int .i64 a0_2) ∧ w39.cell? ⟨gb502, 3, none⟩ = some (.int .i64 a0_3) ∧ w39.cell? ⟨gb502, 4, none⟩ = some (.int .i64 a0_4) ∧ w39.cell? ⟨gb502, 5, none⟩ = some (.int .i64 a0_5) ∧ w39.cell? ⟨gb502, 6, none⟩ = some (.int .i64 a0_6) ∧ w39.cell? (ad507.add (x8_3).toNat) = some (.slice A507_0 (rd_L3 l1 x8_3).length c507_0) := hS_
            refine norm_ (a' := ?_) ?_ ?_
            rotate_left
            ·simp only [putAll, Act.put, sb_, sz_, su_]
             rfl
            refine pu 12 (some 9) #[true, true, true, true, true, true, true, true, true, true, true, true, true, false, false, false] HT_.out rfl rfl ?_
            refine one_ (i := 13) (N := none) #[true, true, true, true, true, true, true, true, true, true, true, true, true, true, false, false] rfl rfl (one_of HT_.out (by kernel_rfl)) (by decide) (fun K hK => ?_)
            have hs40 : w39.cell? ⟨gb517, 0, none⟩ = some (.int .i64 0) := (bc_ BK517.out 0).trans rfl
            have hfs40 := bf_ BK517.out 0
            have hns40_0 := NB502_517.out
            have hns40_1 := NB503_517.out
            have hms40_0 := NB517_502.out
            have hms40_1 := NB517_503.out
            have hs41 : w39.cell? ⟨gb517, 1, none⟩ = some (.int .i64 0) := (bc_ BK517.out 1).trans rfl
            have hfs41 := bf_ BK517.out 1
            have hns41_0 := NB502_517.out
            have hns41_1 := NB503_517.out
            have hms41_0 := NB517_502.out
            have hms41_1 := NB517_503.out
            have hs42 : w39.cell? ⟨gb517, 2, none⟩ = some (.int .i64 0) := (bc_ BK517.out 2).trans rfl
            have hfs42 := bf_ BK517.out 2
            have hns42_0 := NB502_517.out
            have hns42_1 := NB503_517.out
            have hms42_0 := NB517_502.out
            have hms42_1 := NB517_503.out
            have hs43 : w39.cell? ⟨gb517, 3, none⟩ = some (.int .i64 0) := (bc_ BK517.out 3).trans rfl
            have hfs43 := bf_ BK517.out 3
            have hns43_0 := NB502_517.out
            have hns43_1 := NB503_517.out
            have hms43_0 := NB517_502.out
            have hms43_1 := NB517_503.out
            refine skip_ (w1 := ?_) (by rfl) rfl ?_ ?_
            rotate_left
            ·go_simp
             rfl
            refine hK.out _ _ ⟨((cell_far (p := ⟨gb517, _, none⟩) NB502_517.out _).trans (((cell_far (p := ⟨gb517, _, none⟩) NB502_517.out _).trans (((cell_far (p := ⟨gb517, _, none⟩) NB502_517.out _).trans (((cell_far (p := ⟨gb517, _, none⟩) NB502_517.out _).trans (hHeld.1)))))))), ((cell_far (p := ⟨gb517, _, none⟩) NB502_517.out _).trans (((cell_far (p := ⟨gb517, _, none⟩) NB502_517.out _).trans (((cell_far (p := ⟨gb517, _, none⟩) NB502_517.out _).trans (((cell_far (p := ⟨gb517, _, none⟩) NB502_517.out _).trans (hHeld.2.1)))))))), ((cell_far (p := ⟨gb517, _, none⟩) NB502_517.out _).trans (((cell_far (p := ⟨gb517, _, none⟩) NB502_517.out _).trans (((cell_far (p := ⟨gb517, _, none⟩) NB502_517.out _).trans (((cell_far (p := ⟨gb517, _, none⟩) NB502_517.out _).trans (hHeld.2.2.1)))))))), ((cell_far (p := ⟨gb517, _, none⟩) NB502_517.out _).trans (((cell_far (p := ⟨gb517, _, none⟩) NB502_517.out _).trans (((cell_far (p := ⟨gb517, _, none⟩) NB502_517.out _).trans (((cell_far (p := ⟨gb517, _, none⟩) NB502_517.out _).trans (hHeld.2.2.2.1)))))))), ((cell_far (p := ⟨gb517, _, none⟩) NB502_517.out _).trans (((cell_far (p := ⟨gb517, _, none⟩) NB502_517.out _).trans (((cell_far (p := ⟨gb517, _, none⟩) NB502_517.out _).trans (((cell_far (p := ⟨gb517, _, none⟩) NB502_517.out _).trans (hHeld.2.2.2.2.1)))))))), ((cell_far (p := ⟨gb517, _, none⟩) NB502_517.out _).trans (((cell_far (p := ⟨gb517, _, none⟩) NB502_517.out _).trans (((cell_far (p := ⟨gb517, _, none⟩) NB502_517.out _).trans (((cell_far (p := ⟨gb517, _, none⟩) NB502_517.out _).trans (hHeld.2.2.2.2.2.1)))))))), ((cell_far (p := ⟨gb517, _, none⟩) NB502_517.out _).trans (((cell_far (p := ⟨gb517, _, none⟩) NB502_517.out _).trans (((cell_far (p := ⟨gb517, _, none⟩) NB502_517.out _).trans (((cell_far (p := ⟨gb517, _, none⟩) NB502_517.out _).trans (hHeld.2.2.2.2.2.2.1)))))))), ((cell_far (p := ⟨gb517, _, none⟩) ((by exact Nat.ne_of_lt (Nat.lt_of_lt_of_le (by have := World.block_lt_of_cell? _ _ hw507_0; first | rwa [add_block] at this | exact this) GW517.out))) _).trans (((cell_far (p := ⟨gb517, _, none⟩) ((by exact Nat.ne_of_lt (Nat.lt_of_lt_of_le (by have := World.block_lt_of_cell? _ _ hw507_0; first | rwa [add_block] at this | exact this) GW517.out))) _).trans (((cell_far (p := ⟨gb517, _, none⟩) ((by exact Nat.ne_of_lt (Nat.lt_of_lt_of_le (by have := World.block_lt_of_cell? _ _ hw507_0; first | rwa [add_block] at this | exact this) GW517.out))) _).trans (((cell_far (p := ⟨gb517, _, none⟩) ((by exact Nat.ne_of_lt (Nat.lt_of_lt_of_le (by have := World.block_lt_of_cell? _ _ hw507_0; first | rwa [add_block] at this | exact this) GW517.out))) _).trans (hHeld.2.2.2.2.2.2.2))))))))⟩ (fun hHeld => ?_)
            clear hK K
            refine pu 14 (some 11) #[true, true, true, true, true, true, true, true, true, true, true, true, true, true, true, false] HT_.out rfl rfl ?_
            refine pu 15 (some 12) #[true, true, true, true, true, true, true, true, true, true, true, true, true, true, true, true] HT_.out rfl rfl ?_
            refine done_ (done_of HT_.out (by kernel_rfl)) ?_
            have hnb44 := NB517_502.out
            have hnc44 := NB502_517.out
            have hnb45 := NB517_503.out
            have hnc45 := NB503_517.out
            obtain ⟨hcz46_0, hcz46_1, hcz46_2, hcz46_3⟩ := cells4 BK517.out
            obtain ⟨hfz46_0, hfz46_1, hfz46_2, hfz46_3⟩ := froz4 BK517.out
            obtain ⟨Ao47, co47, eo47⟩ := Kd.R_slice HO510.out
            subst eo47
            have hnb48 := NB503_502.out
            have hnc48 := NB502_503.out
            obtain ⟨hcz49_0, hcz49_1, hcz49_2, hcz49_3, hcz49_4, hcz49_5⟩ := cells6 BK503.out
            obtain ⟨hfz49_0, hfz49_1, hfz49_2, hfz49_3, hfz49_4, hfz49_5⟩ := froz6 BK503.out
            try go_wp2
            refine bodyPost_ret (results_ctt rfl _ _ gb503 42 #[.slice Ao47 t508.length co47, .int .i64 t511, .int .i64 t512, .int .i64 t513, .int .i64 t514, .int .i64 t515] (0, 0) _ rfl (put6 (far4 BK503.out NB503_517.out)) Try.underlying42 rfl (by kernel_rfl)) rfl ?_
            exact ⟨_, by rfl, (Kd.R_mono (Kd.R_far (p := ⟨gb503, 5, none⟩) (Kd.R_far (p := ⟨gb503, 4, none⟩) (Kd.R_far (p := ⟨gb503, 3, none⟩) (Kd.R_far (p := ⟨gb503, 2, none⟩) (Kd.R_far (p := ⟨gb503, 1, none⟩) (Kd.R_far (p := ⟨gb503, 0, none⟩) (Kd.R_far (p := ⟨gb517, 3, none⟩) (Kd.R_far (p := ⟨gb517, 2, none⟩) (Kd.R_far (p := ⟨gb517, 1, none⟩) (Kd.R_far (p := ⟨gb517, 0, none⟩) (Kd.R_types (Kd.R_types HO510.out BK517.out (by decide)) BK503.out (by decide)) (fun _ hk => hk.1.2) (.int .i64 t511)) (fun _ hk => hk.1.2) (.int .i64 t512)) (fun _ hk => hk.1.2) (.int .i64 t513)) (fun _ hk => hk.1.2) (.int .i64 t514)) (fun _ hk => hk.2) (.slice Ao47 t508.length co47)) (fun _ hk => hk.2) (.int .i64 t511)) (fun _ hk => hk.2) (.int .i64 t512)) (fun _ hk => hk.2) (.int .i64 t513)) (fun _ hk => hk.2) (.int .i64 t514)) (fun _ hk => hk.2) (.int .i64 t515)) (fun _ hk => trivial)), by repeat (first | (with_reducible first | exact HB.out | apply below_alloc | apply pw_below_drewN | apply below_drew1 | refine below_set ?_ GE502.out | refine below_set ?_ GE503.out | refine below_set ?_ GE517.out) | exact HB.out)⟩
           ·rw [if_neg c35] at H
            have c35b0 := beq_eq_false_iff_ne.mpr c35
            have c35b1 := bne_iff_ne.mpr c35
            have H' := ak_ H
            clear H
            try go_wp2
            replace BK502 := ak_ (blk_drew BK502.out)
            replace BK503 := ak_ (blk_drew BK503.out)
            replace HB := ak_ (below_drew1 HB.out)
            have p507 : 0 ≤ (x8_3 : Int) := od_ ‹_›
            have q507 : x8_3 < (l1.length : Int) := od_ ‹_›
            obtain ⟨ad507, A507_0, c507_0, e507, hx507_0, hl507_0, hi507_0⟩ := at_L3 HR1.out x8_3 p507 q507
            have hw507_0 := hx507_0
            cases e507
            replace hx507_0 := (HB.out.cell (World.block_lt_of_cell? w _ hx507_0)).trans hx507_0
            have HR507_0 := ak_ hi507_0
            have HC507_0 := ak_ hl507_0
            clear hi507_0 hl507_0
            replace p507 := eq_true p507
            replace q507 := eq_true q507
            refine start_ (n := 16) (S := fun w' => w'.cell? ⟨gb502, 0, none⟩ = some (.int .i64 a0_0) ∧ w'.cell? ⟨gb502, 1, none⟩ = some (.int .i64 a0_1) ∧ w'.cell? ⟨gb502, 2, none⟩ = some (.int .i64 a0_2) ∧ w'.cell? ⟨gb502, 3, none⟩ = some (.int .i64 a0_3) ∧ w'.cell? ⟨gb502, 4, none⟩ = some (.int .i64 a0_4) ∧ w'.cell? ⟨gb502, 5, none⟩ = some (.int .i64 a0_5) ∧ w'.cell? ⟨gb502, 6, none⟩ = some (.int .i64 a0_6) ∧ w'.cell? (ad507.add (x8_3).toNat) = some (.slice A507_0 (rd_L3 l1 x8_3).length c507_0)) (ds := []) #[false, false, false, false, false, false, false, false, false, false, false, false, false, false, false, false] (by kernel_rfl) rfl rfl ⟨(bc_ BK502.out 0).trans rfl, (bc_ BK502.out 1).trans rfl, (bc_ BK502.out 2).trans rfl, (bc_ BK502.out 3).trans rfl, (bc_ BK502.out 4).trans rfl, (bc_ BK502.out 5).trans rfl, (bc_ BK502.out 6).trans rfl, ((HB.out.cell (World.block_lt_of_cell? w _ hw507_0)).trans hw507_0)⟩ (fun hHeld => ?_); refine with_tabW r09_Climb.tab11 r09_Climb.bits11 (fun HT_ HW_ => ?_)
            generalize wr.drew = w50 at BK502 BK503 HB HR507_0 hx507_0 hHeld ⊢
            refine pu 1 (some 52) #[false, true, false, false, false, false, false, false, false, false, false, false, false, false, false, false] HT_.out rfl rfl ?_
            refine pu 2 (some 53) #[false, true, true, false, false, false, false, false, false, false, false, false, false, false, false, false] HT_.out rfl rfl ?_
            refine pu 3 (some 54) #[false, true, true, true, false, false, false, false, false, false, false, false, false, false, false, false] HT_.out rfl rfl ?_
            refine take_ (i := 0) (N := some 51) (v := ?_) (a' := ?_) #[true, true, true, true, false, false, false, false, false, false, false, false, false, false, false, false] rfl rfl (take_ofW HT_.out HW_.out (by kernel_rfl)) (fun _ _ _ h => h) (Or.inl ⟨by rfl, ?_⟩) hHeld ?_ ?_
            rotate_left
            ·rintro w' ⟨s0, s1, s2, s3, s4, s5, s6, s7⟩
             go_simp
             with_reducible rfl
            rotate_left
            ·simp only [Act.put, sb_, sz_, su_, i64_w, i32_w]
             rfl
            refine take_ (i := 4) (N := some 55) (v := ?_) (a' := ?_) #[true, true, true, true, true, false, false, false, false, false, false, false, false, false, false, false] rfl rfl (take_ofW HT_.out HW_.out (by kernel_rfl)) (fun _ _ _ h => h) (Or.inl ⟨by rfl, ?_⟩) hHeld ?_ ?_
            rotate_left
            ·rintro w' ⟨s0, s1, s2, s3, s4, s5, s6, s7⟩
             go_simp
             with_reducible rfl
            rotate_left
            ·simp only [Act.put, sb_, sz_, su_, i64_w, i32_w]
             rfl
            refine join_ (σ := Value × Nat) 4 #[true, true, true, true, true, true, true, true, true, true, true, true, false, false, false, false] (fun s_ => [(56, .tuple #[s_.1, .agg #[.int .i64 t511, .int .i64 t512, .int .i64 t513, .int .i64 t514], .int .i64 t515, .int .i64 t516]), (10, .pointer (some ⟨s_.2, 0, none⟩)), (50, .tuple #[s_.1, .agg #[.int .i64 t511, .int .i64 t512, .int .i64 t513, .int .i64 t514], .int .i64 t515, .int .i64 t516]), (57, s_.1), (58, .agg #[.int .i64 t511, .int .i64 t512, .int .i64 t513, .int .i64 t514]), (59, .int .i64 t515), (60, .int .i64 t516)]) (fun s_ w' => (w'.cell? ⟨gb502, 0, none⟩ = some (.int .i64 a0_0) ∧ w'.cell? ⟨gb502, 1, none⟩ = some (.int .i64 a0_1) ∧ w'.cell? ⟨gb502, 2, none⟩ = some (.int .i64 a0_2) ∧ w'.cell? ⟨gb502, 3, none⟩ = some (.int .i64 a0_3) ∧ w'.cell? ⟨gb502, 4, none⟩ = some (.int .i64 a0_4) ∧ w'.cell? ⟨gb502, 5, none⟩ = some (.int .i64 a0_5) ∧ w'.cell? ⟨gb502, 6, none⟩ = some (.int .i64 a0_6) ∧ w'.cell? (ad507.add (x8_3).toNat) = some (.slice A507_0 (rd_L3 l1 x8_3).length c507_0)) ∧ (Kd.R (Kd.int .u8) 5 w' w.heap.size (fun _ => True) s_.1 t508) ∧ (w'.heap[gb502]? = some (.cells #[.int .i64 a0_0, .int .i64 a0_1, .int .i64 a0_2, .int .i64 a0_3, .int .i64 a0_4, .int .i64 a0_5, .int .i64 a0_6] 23 (0, 0))) ∧ (w'.heap[gb503]? = some (.cells #[.slice none 0 0, .int .i64 x504001_3, .int .i64 x504002_3, .int .i64 x504003_3, .int .i64 x504004_3, .int .i64 x504005_3] 42 (0, 0))) ∧ (w'.heap[s_.2]? = some (.cells #[.int .i64 0, .int .i64 0, .int .i64 0, .int .i64 0] 26 (0, 0))) ∧ (w.heap.size ≤ s_.2) ∧ (w.heap.size ≤ s_.2) ∧ (gb502 ≠ s_.2) ∧ (s_.2 ≠ gb502) ∧ (gb503 ≠ s_.2) ∧ (s_.2 ≠ gb503) ∧ (Below w.heap.size w w')) ?_ ?_
            rotate_left
            ·intro hCont
             refine two_ (i := 5) (j := 11) (Ni := some 56) (Nj := some 10) #[true, true, true, true, true, true, false, false, false, false, false, false, false, false, false, false] #[true, true, true, true, true, false, false, false, false, false, false, true, false, false, false, false] rfl rfl rfl rfl (two_of HT_.out (by kernel_rfl)) (by decide) (by decide) (fun K hK => ?_) (fun K hK => ?_)
             ·skip
              refine goes_ Try.func29 (by kernel_rfl) rfl #[.agg #[.int .i64 a0_0, .int .i64 a0_1, .int .i64 a0_2, .int .i64 a0_3, .int .i64 a0_4, .int .i64 a0_5, .int .i64 a0_6], .slice A507_0 (rd_L3 l1 x8_3).length c507_0] (by rfl) rfl rfl (by (try simp only [List.map_toArray, List.map_cons, List.map_nil]); first | done | rfl | (simp only [List.length_drop, List.length_take]; rfl)) ?_
              with_reducible refine (r08_Decode.calls k3 a0_0 a0_1 a0_2 a0_3 a0_4 a0_5 a0_6 _ _ (rd_L3 l1 x8_3) t508 t511 t512 t513 t514 t515 t516 _ ?side1 ?side2 A34.out).mono ?_
              (case side1 => exact (Kd.C_below HR507_0.out HB.out))
              (case side2 => exact HC507_0.out)
              rintro e w51 ⟨v509, rfl, ho0, hb⟩
              refine ⟨_, rfl, ?_⟩
              have HO510 := ak_ (Kd.R_lower ho0 (below_size HB.out))
              replace BK502 := ak_ (blk_below BK502.out hb)
              replace BK503 := ak_ (blk_below BK503.out hb)
              replace HB := ak_ (below_step HB.out hb)
              (try clear hb)
              (try clear ho0)
              refine hK.out _ _ ⟨(bc_ BK502.out 0).trans rfl, (bc_ BK502.out 1).trans rfl, (bc_ BK502.out 2).trans rfl, (bc_ BK502.out 3).trans rfl, (bc_ BK502.out 4).trans rfl, (bc_ BK502.out 5).trans rfl, (bc_ BK502.out 6).trans rfl, ((HB.out.cell (World.block_lt_of_cell? w _ hw507_0)).trans hw507_0)⟩ (fun hHeld => ?_)
              clear hK K
              refine norm_ (a' := ?_) ?_ ?_
              rotate_left
              ·show Act.put _ (some 56) _ = _
               simp only [Act.put, sb_, sz_, su_, i64_w, i32_w]
               rfl
              refine pu 6 (some 50) #[true, true, true, true, true, true, true, false, false, false, false, false, false, false, false, false] HT_.out rfl rfl ?_
              refine pu 7 (some 57) #[true, true, true, true, true, true, true, true, false, false, false, false, false, false, false, false] HT_.out rfl rfl ?_
              refine pu 8 (some 58) #[true, true, true, true, true, true, true, true, true, false, false, false, false, false, false, false] HT_.out rfl rfl ?_
              refine pu 9 (some 59) #[true, true, true, true, true, true, true, true, true, true, false, false, false, false, false, false] HT_.out rfl rfl ?_
              refine pu 10 (some 60) #[true, true, true, true, true, true, true, true, true, true, true, false, false, false, false, false] HT_.out rfl rfl ?_
              refine one_ (i := 11) (N := some 10) #[true, true, true, true, true, true, true, true, true, true, true, true, false, false, false, false] rfl rfl (one_of HT_.out (by kernel_rfl)) (by decide) (fun K hK => ?_)
              refine box_step ?hg (N := 10) ?hd (cs := #[.int .i64 0, .int .i64 0, .int .i64 0, .int .i64 0]) (t := 26) ?hr ?_; (case hd => rfl); (case hg => rfl); (case hr => (go_simp; done))
              intro gb517 hg w52 hbox hb
              have n0_ := ak_ (Kd.R_below HO510.out hb)
              have n1_ := ak_ (blk_below BK502.out hb)
              have n2_ := ak_ (blk_below BK503.out hb)
              have n3_ := ak_ (below_step HB.out hb)
              have n4_ := ak_ (hbox)
              have n5_ := ak_ (gw_ hg (below_size HB.out))
              have n6_ := ak_ (gw_ hg (below_size HB.out))
              have n7_ := ak_ ((by rw [hg]; exact Nat.ne_of_lt (blk_lt BK502.out) : gb502 ≠ gb517))
              have n8_ := ak_ ((by rw [hg]; exact Nat.ne_of_gt (blk_lt BK502.out) : gb517 ≠ gb502))
              have n9_ := ak_ ((by rw [hg]; exact Nat.ne_of_lt (blk_lt BK503.out) : gb503 ≠ gb517))
              have n10_ := ak_ ((by rw [hg]; exact Nat.ne_of_gt (blk_lt BK503.out) : gb517 ≠ gb503))
              clear HO510 BK502 BK503 HB
              have HO510 := n0_
              have BK502 := n1_
              have BK503 := n2_
              have HB := n3_
              have BK517 := n4_
              have GW517 := n5_
              have GE517 := n6_
              have NB502_517 := n7_
              have NB517_502 := n8_
              have NB503_517 := n9_
              have NB517_503 := n10_
              clear n0_ n1_ n2_ n3_ n4_ n5_ n6_ n7_ n8_ n9_ n10_ hb hbox hg
              refine hK.out _ _ ⟨(bc_ BK502.out 0).trans rfl, (bc_ BK502.out 1).trans rfl, (bc_ BK502.out 2).trans rfl, (bc_ BK502.out 3).trans rfl, (bc_ BK502.out 4).trans rfl, (bc_ BK502.out 5).trans rfl, (bc_ BK502.out 6).trans rfl, ((HB.out.cell (World.block_lt_of_cell? w _ hw507_0)).trans hw507_0)⟩ (fun hHeld => ?_)
              clear hK K
              refine norm_ (a' := ?_) ?_ ?_
              rotate_left
              ·show Act.put _ (some 10) _ = _
               simp only [Act.put, sb_, sz_, su_, i64_w, i32_w]
               rfl
              exact norm_ (by simp only [putAll, Act.put, sb_, sz_, su_]) (hCont (v509, gb517) _ ⟨hHeld, HO510.out, BK502.out, BK503.out, BK517.out, GW517.out, GE517.out, NB502_517.out, NB517_502.out, NB503_517.out, NB517_503.out, HB.out⟩)
             ·skip
              refine box_step ?hg (N := 10) ?hd (cs := #[.int .i64 0, .int .i64 0, .int .i64 0, .int .i64 0]) (t := 26) ?hr ?_; (case hd => rfl); (case hg => rfl); (case hr => (go_simp; done))
              intro gb517 hg w51 hbox hb
              have n0_ := ak_ (blk_below BK502.out hb)
              have n1_ := ak_ (blk_below BK503.out hb)
              have n2_ := ak_ (below_step HB.out hb)
              have n3_ := ak_ (hbox)
              have n4_ := ak_ (gw_ hg (below_size HB.out))
              have n5_ := ak_ (gw_ hg (below_size HB.out))
              have n6_ := ak_ ((by rw [hg]; exact Nat.ne_of_lt (blk_lt BK502.out) : gb502 ≠ gb517))
              have n7_ := ak_ ((by rw [hg]; exact Nat.ne_of_gt (blk_lt BK502.out) : gb517 ≠ gb502))
              have n8_ := ak_ ((by rw [hg]; exact Nat.ne_of_lt (blk_lt BK503.out) : gb503 ≠ gb517))
              have n9_ := ak_ ((by rw [hg]; exact Nat.ne_of_gt (blk_lt BK503.out) : gb517 ≠ gb503))
              clear BK502 BK503 HB
              have BK502 := n0_
              have BK503 := n1_
              have HB := n2_
              have BK517 := n3_
              have GW517 := n4_
              have GE517 := n5_
              have NB502_517 := n6_
              have NB517_502 := n7_
              have NB503_517 := n8_
              have NB517_503 := n9_
              clear n0_ n1_ n2_ n3_ n4_ n5_ n6_ n7_ n8_ n9_ hb hbox hg
              refine hK.out _ _ ⟨(bc_ BK502.out 0).trans rfl, (bc_ BK502.out 1).trans rfl, (bc_ BK502.out 2).trans rfl, (bc_ BK502.out 3).trans rfl, (bc_ BK502.out 4).trans rfl, (bc_ BK502.out 5).trans rfl, (bc_ BK502.out 6).trans rfl, ((HB.out.cell (World.block_lt_of_cell? w _ hw507_0)).trans hw507_0)⟩ (fun hHeld => ?_)
              clear hK K
              refine norm_ (a' := ?_) ?_ ?_
              rotate_left
              ·show Act.put _ (some 10) _ = _
               simp only [Act.put, sb_, sz_, su_, i64_w, i32_w]
               rfl
              refine one_ (i := 5) (N := some 56) #[true, true, true, true, true, true, false, false, false, false, false, true, false, false, false, false] rfl rfl (one_of HT_.out (by kernel_rfl)) (by decide) (fun K hK => ?_)
              refine goes_ Try.func29 (by kernel_rfl) rfl #[.agg #[.int .i64 a0_0, .int .i64 a0_1, .int .i64 a0_2, .int .i64 a0_3, .int .i64 a0_4, .int .i64 a0_5, .int .i64 a0_6], .slice A507_0 (rd_L3 l1 x8_3).length c507_0] (by rfl) rfl rfl (by (try simp only [List.map_toArray, List.map_cons, List.map_nil]); first | done | rfl | (simp only [List.length_drop, List.length_take]; rfl)) ?_
              with_reducible refine (r08_Decode.calls k3 a0_0 a0_1 a0_2 a0_3 a0_4 a0_5 a0_6 _ _ (rd_L3 l1 x8_3) t508 t511 t512 t513 t514 t515 t516 _ ?side1 ?side2 A34.out).mono ?_
              (case side1 => exact (Kd.C_below HR507_0.out HB.out))
              (case side2 => exact HC507_0.out)
              rintro e w52 ⟨v509, rfl, ho0, hb⟩
              refine ⟨_, rfl, ?_⟩
              have HO510 := ak_ (Kd.R_lower ho0 (below_size HB.out))
              replace BK502 := ak_ (blk_below BK502.out hb)
              replace BK503 := ak_ (blk_below BK503.out hb)
              replace BK517 := ak_ (blk_below BK517.out hb)
              replace HB := ak_ (below_step HB.out hb)
              (try clear hb)
              (try clear ho0)
              refine hK.out _ _ ⟨(bc_ BK502.out 0).trans rfl, (bc_ BK502.out 1).trans rfl, (bc_ BK502.out 2).trans rfl, (bc_ BK502.out 3).trans rfl, (bc_ BK502.out 4).trans rfl, (bc_ BK502.out 5).trans rfl, (bc_ BK502.out 6).trans rfl, ((HB.out.cell (World.block_lt_of_cell? w _ hw507_0)).trans hw507_0)⟩ (fun hHeld => ?_)
              clear hK K
              refine norm_ (a' := ?_) ?_ ?_
              rotate_left
              ·show Act.put _ (some 56) _ = _
               simp only [Act.put, sb_, sz_, su_, i64_w, i32_w]
               rfl
              refine pu 6 (some 50) #[true, true, true, true, true, true, true, false, false, false, false, true, false, false, false, false] HT_.out rfl rfl ?_
              refine pu 7 (some 57) #[true, true, true, true, true, true, true, true, false, false, false, true, false, false, false, false] HT_.out rfl rfl ?_
              refine pu 8 (some 58) #[true, true, true, true, true, true, true, true, true, false, false, true, false, false, false, false] HT_.out rfl rfl ?_
              refine pu 9 (some 59) #[true, true, true, true, true, true, true, true, true, true, false, true, false, false, false, false] HT_.out rfl rfl ?_
              refine pu 10 (some 60) #[true, true, true, true, true, true, true, true, true, true, true, true, false, false, false, false] HT_.out rfl rfl ?_
              exact norm_ (by simp only [putAll, Act.put, sb_, sz_, su_]) (hCont (v509, gb517) _ ⟨hHeld, HO510.out, BK502.out, BK503.out, BK517.out, GW517.out, GE517.out, NB502_517.out, NB517_502.out, NB503_517.out, NB517_503.out, HB.out⟩)
            rintro ⟨v509, gb517⟩ w53 ⟨hS_, h0_, h1_, h2_, h3_, h4_, h5_, h6_, h7_, h8_, h9_, h10_⟩
            have n0_ : Aside0 (Kd.R (Kd.int .u8) 5 w53 w.heap.size (fun _ => True) v509 t508) := ⟨h0_⟩
            have n1_ : Aside0 (w53.heap[gb502]? = some (.cells #[.int .i64 a0_0, .int .i64 a0_1, .int .i64 a0_2, .int .i64 a0_3, .int .i64 a0_4, .int .i64 a0_5, .int .i64 a0_6] 23 (0, 0))) := ⟨h1_⟩
            have n2_ : Aside0 (w53.heap[gb503]? = some (.cells #[.slice none 0 0, .int .i64 x504001_3, .int .i64 x504002_3, .int .i64 x504003_3, .int .i64 x504004_3, .int .i64 x504005_3] 42 (0, 0))) := ⟨h2_⟩
            have n3_ : Aside0 (w53.heap[gb517]? = some (.cells #[.int .i64 0, .int .i64 0, .int .i64 0, .int .i64 0] 26 (0, 0))) := ⟨h3_⟩
            have n4_ : Aside0 (w.heap.size ≤ gb517) := ⟨h4_⟩
            have n5_ : Aside0 (w.heap.size ≤ gb517) := ⟨h5_⟩
            have n6_ : Aside0 (gb502 ≠ gb517) := ⟨h6_⟩
            have n7_ : Aside0 (gb517 ≠ gb502) := ⟨h7_⟩
            have n8_ : Aside0 (gb503 ≠ gb517) := ⟨h8_⟩
            have n9_ : Aside0 (gb517 ≠ gb503) := ⟨h9_⟩
            have n10_ : Aside0 (Below w.heap.size w w53) := ⟨h10_⟩
            clear BK502 BK503 HB h0_ h1_ h2_ h3_ h4_ h5_ h6_ h7_ h8_ h9_ h10_
            have HO510 := n0_
            have BK502 := n1_
            have BK503 := n2_
            have BK517 := n3_
            have GW517 := n4_
            have GE517 := n5_
            have NB502_517 := n6_
            have NB517_502 := n7_
            have NB503_517 := n8_
            have NB517_503 := n9_
            have HB := n10_
            clear n0_ n1_ n2_ n3_ n4_ n5_ n6_ n7_ n8_ n9_ n10_
            have hHeld : w53.cell? ⟨gb502, 0, none⟩ = some (.int .i64 a0_0) ∧ w53.cell? ⟨gb502, 1, none⟩ = some (.int .i64 a0_1) ∧ w53.cell? ⟨gb502, 2, none⟩ = some (.int .i64 a0_2) ∧ w53.cell? ⟨gb502, 3, none⟩ = some (.int .i64 a0_3) ∧ w53.cell? ⟨gb502, 4, none⟩ = some (.int .i64 a0_4) ∧ w53.cell? ⟨gb502, 5, none⟩ = some (.int .i64 a0_5) ∧ w53.cell? ⟨gb502, 6, none⟩ = some (.int .i64 a0_6) ∧ w53.cell? (ad507.add (x8_3).toNat) = some (.slice A507_0 (rd_L3 l1 x8_3).length c507_0) := hS_
            refine norm_ (a' := ?_) ?_ ?_
            rotate_left
            ·simp only [putAll, Act.put, sb_, sz_, su_]
             rfl
            refine pu 12 (some 9) #[true, true, true, true, true, true, true, true, true, true, true, true, true, false, false, false] HT_.out rfl rfl ?_
            refine one_ (i := 13) (N := none) #[true, true, true, true, true, true, true, true, true, true, true, true, true, true, false, false] rfl rfl (one_of HT_.out (by kernel_rfl)) (by decide) (fun K hK => ?_)
            have hs54 : w53.cell? ⟨gb517, 0, none⟩ = some (.int .i64 0) := (bc_ BK517.out 0).trans rfl
            have hfs54 := bf_ BK517.out 0
            have hns54_0 := NB502_517.out
            have hns54_1 := NB503_517.out
            have hms54_0 := NB517_502.out
            have hms54_1 := NB517_503.out
            have hs55 : w53.cell? ⟨gb517, 1, none⟩ = some (.int .i64 0) := (bc_ BK517.out 1).trans rfl
            have hfs55 := bf_ BK517.out 1
            have hns55_0 := NB502_517.out
            have hns55_1 := NB503_517.out
            have hms55_0 := NB517_502.out
            have hms55_1 := NB517_503.out
            have hs56 : w53.cell? ⟨gb517, 2, none⟩ = some (.int .i64 0) := (bc_ BK517.out 2).trans rfl
            have hfs56 := bf_ BK517.out 2
            have hns56_0 := NB502_517.out
            have hns56_1 := NB503_517.out
            have hms56_0 := NB517_502.out
            have hms56_1 := NB517_503.out
            have hs57 : w53.cell? ⟨gb517, 3, none⟩ = some (.int .i64 0) := (bc_ BK517.out 3).trans rfl
            have hfs57 := bf_ BK517.out 3
            have hns57_0 := NB502_517.out
            have hns57_1 := NB503_517.out
            have hms57_0 := NB517_502.out
            have hms57_1 := NB517_503.out
            refine skip_ (w1 := ?_) (by rfl) rfl ?_ ?_
            rotate_left
            ·go_simp
             rfl
            refine hK.out _ _ ⟨((cell_far (p := ⟨gb517, _, none⟩) NB502_517.out _).trans (((cell_far (p := ⟨gb517, _, none⟩) NB502_517.out _).trans (((cell_far (p := ⟨gb517, _, none⟩) NB502_517.out _).trans (((cell_far (p := ⟨gb517, _, none⟩) NB502_517.out _).trans (hHeld.1)))))))), ((cell_far (p := ⟨gb517, _, none⟩) NB502_517.out _).trans (((cell_far (p := ⟨gb517, _, none⟩) NB502_517.out _).trans (((cell_far (p := ⟨gb517, _, none⟩) NB502_517.out _).trans (((cell_far (p := ⟨gb517, _, none⟩) NB502_517.out _).trans (hHeld.2.1)))))))), ((cell_far (p := ⟨gb517, _, none⟩) NB502_517.out _).trans (((cell_far (p := ⟨gb517, _, none⟩) NB502_517.out _).trans (((cell_far (p := ⟨gb517, _, none⟩) NB502_517.out _).trans (((cell_far (p := ⟨gb517, _, none⟩) NB502_517.out _).trans (hHeld.2.2.1)))))))), ((cell_far (p := ⟨gb517, _, none⟩) NB502_517.out _).trans (((cell_far (p := ⟨gb517, _, none⟩) NB502_517.out _).trans (((cell_far (p := ⟨gb517, _, none⟩) NB502_517.out _).trans (((cell_far (p := ⟨gb517, _, none⟩) NB502_517.out _).trans (hHeld.2.2.2.1)))))))), ((cell_far (p := ⟨gb517, _, none⟩) NB502_517.out _).trans (((cell_far (p := ⟨gb517, _, none⟩) NB502_517.out _).trans (((cell_far (p := ⟨gb517, _, none⟩) NB502_517.out _).trans (((cell_far (p := ⟨gb517, _, none⟩) NB502_517.out _).trans (hHeld.2.2.2.2.1)))))))), ((cell_far (p := ⟨gb517, _, none⟩) NB502_517.out _).trans (((cell_far (p := ⟨gb517, _, none⟩) NB502_517.out _).trans (((cell_far (p := ⟨gb517, _, none⟩) NB502_517.out _).trans (((cell_far (p := ⟨gb517, _, none⟩) NB502_517.out _).trans (hHeld.2.2.2.2.2.1)))))))), ((cell_far (p := ⟨gb517, _, none⟩) NB502_517.out _).trans (((cell_far (p := ⟨gb517, _, none⟩) NB502_517.out _).trans (((cell_far (p := ⟨gb517, _, none⟩) NB502_517.out _).trans (((cell_far (p := ⟨gb517, _, none⟩) NB502_517.out _).trans (hHeld.2.2.2.2.2.2.1)))))))), ((cell_far (p := ⟨gb517, _, none⟩) ((by exact Nat.ne_of_lt (Nat.lt_of_lt_of_le (by have := World.block_lt_of_cell? _ _ hw507_0; first | rwa [add_block] at this | exact this) GW517.out))) _).trans (((cell_far (p := ⟨gb517, _, none⟩) ((by exact Nat.ne_of_lt (Nat.lt_of_lt_of_le (by have := World.block_lt_of_cell? _ _ hw507_0; first | rwa [add_block] at this | exact this) GW517.out))) _).trans (((cell_far (p := ⟨gb517, _, none⟩) ((by exact Nat.ne_of_lt (Nat.lt_of_lt_of_le (by have := World.block_lt_of_cell? _ _ hw507_0; first | rwa [add_block] at this | exact this) GW517.out))) _).trans (((cell_far (p := ⟨gb517, _, none⟩) ((by exact Nat.ne_of_lt (Nat.lt_of_lt_of_le (by have := World.block_lt_of_cell? _ _ hw507_0; first | rwa [add_block] at this | exact this) GW517.out))) _).trans (hHeld.2.2.2.2.2.2.2))))))))⟩ (fun hHeld => ?_)
            clear hK K
            refine pu 14 (some 11) #[true, true, true, true, true, true, true, true, true, true, true, true, true, true, true, false] HT_.out rfl rfl ?_
            refine pu 15 (some 12) #[true, true, true, true, true, true, true, true, true, true, true, true, true, true, true, true] HT_.out rfl rfl ?_
            refine done_ (done_of HT_.out (by kernel_rfl)) ?_
            try go_wp2
            go_roundg k3
            case measure => have := HJ2.out; have := HK2.out; have := HK3.out; omega
            case rel => exact ⟨(wrap64 (x8_3 + 1)), (x504001_3), (x504002_3), (x504003_3), (x504004_3), (x504005_3), (by rfl), H', ⟨by have := HJ2.out; have := HK2.out; have := HK3.out; omega⟩, ⟨(far4 BK502.out NB502_517.out)⟩, ⟨(far4 BK503.out NB503_517.out)⟩, ⟨by repeat (first | (with_reducible first | exact HB.out | apply below_alloc | apply pw_below_drewN | apply below_drew1 | refine below_set ?_ GE502.out | refine below_set ?_ GE503.out | refine below_set ?_ GE517.out) | exact HB.out)⟩⟩
          ·rw [if_neg c33] at H
           exact absurd H (by simp)
         ·rw [if_neg c32] at H
          have c32b0 := df_ c32
          clear c32
          simp only [Option.some.injEq, Prod.mk.injEq] at H
          obtain ⟨rfl, rfl, rfl, rfl, rfl, rfl, rfl, rfl⟩ := H
          have hnb58 := NB503_502.out
          have hnc58 := NB502_503.out
          obtain ⟨hcz59_0, hcz59_1, hcz59_2, hcz59_3, hcz59_4, hcz59_5⟩ := cells6 BK503.out
          obtain ⟨hfz59_0, hfz59_1, hfz59_2, hfz59_3, hfz59_4, hfz59_5⟩ := froz6 BK503.out
          go_wp2
          refine bodyPost_ret (results_ctt rfl _ _ gb503 42 #[.slice none 0 0, .int .i64 0, .int .i64 0, .int .i64 0, .int .i64 0, .int .i64 0] (0, 0) _ rfl (put6 BK503.out) Try.underlying42 rfl (by kernel_rfl)) rfl ?_
          exact ⟨_, by rfl, (Kd.R_nil _ _ _ _ _), by repeat (first | (with_reducible first | exact HB.out | apply below_alloc | apply pw_below_drewN | apply below_drew1 | refine below_set ?_ GE502.out | refine below_set ?_ GE503.out) | exact HB.out)⟩
end Go.Proofs.Ytmehbabchakkpaa.QLadderClimbs
