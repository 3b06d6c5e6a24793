import Derived.Test.YtmehbabchakkpaaMLadderWalksx9
import Derived.Test.YtmehbabchakkpaaMLadderWalksx12
namespace Go.Proofs.Ytmehbabchakkpaa.QLadderWalks
open Go.RowKit YtmehbabchakkpaaW.PrintWords YtmehbabchakkpaaW.PrintLast YtmehbabchakkpaaW.PrintMore Short
attribute [local go_sem] max2_int min2_int max_two min_two max_three min_three max_four min_four
set_option linter.unusedVariables false
set_option maxHeartbeats 8000000
set_option maxRecDepth 100000
set_option linter.unusedSimpArgs false
mutual
def r08_Decode.j0 : Nat → List Int → Bool → Int → Int → Int → Int → Int → Int → Int → Option (List Int × Int × Int × Int × Int × Int × Int)
 | 0, _, _, _, _, _, _, _, _, _ => none
 | k + 1, x1, x26, x457000, x457001, x457002, x457003, x457004, x457005, x457006 => if x26 = true then (some (([] : List Int), 0, 0, 0, 0, 0, 2)) else (r08_Decode.j1 k x1 x457000 x457001 x457002 x457003 x457004 x457005 x457006)
def r08_Decode.j1 : Nat → List Int → Int → Int → Int → Int → Int → Int → Int → Option (List Int × Int × Int × Int × Int × Int × Int)
 | 0, _, _, _, _, _, _, _, _ => none
 | k + 1, x1, x457000, x457001, x457002, x457003, x457004, x457005, x457006 => if 0 ≤ (wrap64 (x457003 * (wrap64 (x457004 + 2)))) then (if (wrap64 (x457003 * (wrap64 (x457004 + 2)))) ≤ (wrap64 ((wrap64 (x457003 * (wrap64 (x457004 + 2)))) + 30)) then (if (wrap64 ((wrap64 (x457003 * (wrap64 (x457004 + 2)))) + 30)) ≤ (x1.length : Int) then ((r01_Zeros.f k ((x1.take ((wrap64 ((wrap64 (x457003 * (wrap64 (x457004 + 2)))) + 30)) : Int).toNat).drop ((wrap64 (x457003 * (wrap64 (x457004 + 2)))) : Int).toNat)).bind fun t461 => (if t461 ≤ 20 then (some (([] : List Int), 0, 0, 0, 0, 2, 0)) else (r08_Decode.j2 k x1 (wrap64 (x457003 * (wrap64 (x457004 + 2)))) ((x1.take ((wrap64 ((wrap64 (x457003 * (wrap64 (x457004 + 2)))) + 30)) : Int).toNat).drop ((wrap64 (x457003 * (wrap64 (x457004 + 2)))) : Int).toNat) x457000 x457001 x457002 x457003 x457004 x457005 x457006))) else (none)) else (none)) else (none)
def r08_Decode.j2 : Nat → List Int → Int → List Int → Int → Int → Int → Int → Int → Int → Int → Option (List Int × Int × Int × Int × Int × Int × Int)
 | 0, _, _, _, _, _, _, _, _, _, _ => none
 | k + 1, x1, x8, x9, x457000, x457001, x457002, x457003, x457004, x457005, x457006 => if 0 ≤ x8 then (if x8 ≤ (x1.length : Int) then ((r06_All.f k (x1.take (x8 : Int).toNat) x457004).bind fun bt463 => (if bt463.2.2 = 0 then (r08_Decode.j3 k x9 bt463.1 bt463.2.1) else (some (([] : List Int), 0, 0, 0, 0, 0, bt463.2.2)))) else (none)) else (none)
def r08_Decode.j3 : Nat → List Int → List Int → Int → Option (List Int × Int × Int × Int × Int × Int × Int)
 | 0, _, _, _ => none
 | k + 1, x9, x10, x11 => (r06_Decode.f k x9).bind fun bt468 => (if bt468.2.2 = 0 then (r08_Decode.j4 k x10 x11 bt468.1 bt468.2.1) else (some (([] : List Int), 0, 0, 0, 0, 0, bt468.2.2)))
def r08_Decode.j4 : Nat → List Int → Int → List Int → Int → Option (List Int × Int × Int × Int × Int × Int × Int)
 | 0, _, _, _, _ => none
 | k + 1, x10, x11, x13, x14 => if ([] : List Int).length + x10.length < 140737488355328 then ((some (([] : List Int) ++ x10 : List Int)).bind fun y473 => (if 24 ≤ (x13.length : Int) then ((some (x13.take 24 : List Int)).bind fun y476 => (if y473.length + y476.length < 140737488355328 then ((r02_Sum.f k (y473 ++ y476)).bind fun t484 => ((r02_Bytes.f t484).bind fun t485 => ((r01_Same.f k t485 (x13.drop 24)).bind fun t493 => (if t493 = true then (r08_Decode.j5 k x10 x11 x13 x14) else (some (([] : List Int), 0, 0, 0, 0, 0, 12)))))) else (none))) else (none))) else (none)
def r08_Decode.j5 : Nat → List Int → Int → List Int → Int → Option (List Int × Int × Int × Int × Int × Int × Int)
 | 0, _, _, _, _ => none
 | k + 1, x10, x11, x13, x14 => if 24 ≤ (x13.length : Int) then ((r07_Take.f k (x13.take 24)).bind fun bt499 => (if bt499.2.2.2.2 = 0 then (if (wrap64 (x11 + x14)) > 0 then (some (x10, bt499.1, bt499.2.1, bt499.2.2.1, bt499.2.2.2.1, 1, 0)) else (some (x10, bt499.1, bt499.2.1, bt499.2.2.1, bt499.2.2.2.1, 0, 0))) else (some (([] : List Int), 0, 0, 0, 0, 0, bt499.2.2.2.2)))) else (none)
end
def r08_Decode.f (k : Nat) (a0_0 : Int) (a0_1 : Int) (a0_2 : Int) (a0_3 : Int) (a0_4 : Int) (a0_5 : Int) (a0_6 : Int) (l1 : List Int) : Option (List Int × Int × Int × Int × Int × Int × Int) := (r04_Right.f a0_0 a0_1 a0_2 a0_3 a0_4 a0_5 a0_6).bind fun t458 => (if t458 = true then ((r04_Raw.f a0_0 a0_1 a0_2 a0_3 a0_4 a0_5 a0_6).bind fun t459 => (r08_Decode.j0 k l1 ((l1.length : Int) != t459) a0_0 a0_1 a0_2 a0_3 a0_4 a0_5 a0_6)) else (r08_Decode.j0 k l1 true a0_0 a0_1 a0_2 a0_3 a0_4 a0_5 a0_6))
theorem r08_Decode.mono_l : ∀ k, (∀ y0 y1 y2 y3 y4 y5 y6 y7 y8, LeO (r08_Decode.j0 k y0 y1 y2 y3 y4 y5 y6 y7 y8) (r08_Decode.j0 (k + 1) y0 y1 y2 y3 y4 y5 y6 y7 y8)) ∧ (∀ y0 y1 y2 y3 y4 y5 y6 y7, LeO (r08_Decode.j1 k y0 y1 y2 y3 y4 y5 y6 y7) (r08_Decode.j1 (k + 1) y0 y1 y2 y3 y4 y5 y6 y7)) ∧ (∀ y0 y1 y2 y3 y4 y5 y6 y7 y8 y9, LeO (r08_Decode.j2 k y0 y1 y2 y3 y4 y5 y6 y7 y8 y9) (r08_Decode.j2 (k + 1) y0 y1 y2 y3 y4 y5 y6 y7 y8 y9)) ∧ (∀ y0 y1 y2, LeO (r08_Decode.j3 k y0 y1 y2) (r08_Decode.j3 (k + 1) y0 y1 y2)) ∧ (∀ y0 y1 y2 y3, LeO (r08_Decode.j4 k y0 y1 y2 y3) (r08_Decode.j4 (k + 1) y0 y1 y2 y3)) ∧ (∀ y0 y1 y2 y3, LeO (r08_Decode.j5 k y0 y1 y2 y3) (r08_Decode.j5 (k + 1) y0 y1 y2 y3))
 | 0 => ⟨fun _ _ _ _ _ _ _ _ _ r h => by simp [r08_Decode.j0] at h, fun _ _ _ _ _ _ _ _ r h => by simp [r08_Decode.j1] at h, fun _ _ _ _ _ _ _ _ _ _ r h => by simp [r08_Decode.j2] at h, fun _ _ _ r h => by simp [r08_Decode.j3] at h, fun _ _ _ _ r h => by simp [r08_Decode.j4] at h, fun _ _ _ _ r h => by simp [r08_Decode.j5] at h⟩
 | k + 1 => by
  obtain ⟨ih0, ih1, ih2, ih3, ih4, ih5⟩ := r08_Decode.mono_l k
  refine ⟨?_, ?_, ?_, ?_, ?_, ?_⟩
  ·intro y0 y1 y2 y3 y4 y5 y6 y7 y8
   unfold r08_Decode.j0
   repeat' first
   | (with_reducible exact ih0 _ _ _ _ _ _ _ _ _)
   | (with_reducible exact ih1 _ _ _ _ _ _ _ _)
   | (with_reducible exact ih2 _ _ _ _ _ _ _ _ _ _)
   | (with_reducible exact ih3 _ _ _)
   | (with_reducible exact ih4 _ _ _ _)
   | (with_reducible exact ih5 _ _ _ _)
   | (with_reducible exact r01_Same.mono _ _ _)
   | (with_reducible exact r01_Zeros.mono _ _)
   | (with_reducible exact r02_Sum.mono _ _)
   | (with_reducible exact r06_All.mono _ _ _)
   | (with_reducible exact r06_Decode.mono _ _)
   | (with_reducible exact r07_Take.mono _ _)
   | (with_reducible exact LeO.refl _)
   | (with_reducible exact LeO.none _)
   | (with_reducible refine LeO.ite ?_ ?_)
   | (with_reducible refine LeO.bind ?_ (fun _ => ?_))
  ·intro y0 y1 y2 y3 y4 y5 y6 y7
   unfold r08_Decode.j1
   repeat' first
   | (with_reducible exact ih0 _ _ _ _ _ _ _ _ _)
   | (with_reducible exact ih1 _ _ _ _ _ _ _ _)
   | (with_reducible exact ih2 _ _ _ _ _ _ _ _ _ _)
   | (with_reducible exact ih3 _ _ _)
   | (with_reducible exact ih4 _ _ _ _)
   | (with_reducible exact ih5 _ _ _ _)
   | (with_reducible exact r01_Same.mono _ _ _)
   | (with_reducible exact r01_Zeros.mono _ _)
   | (with_reducible exact r02_Sum.mono _ _)
   | (with_reducible exact r06_All.mono _ _ _)
   | (with_reducible exact r06_Decode.mono _ _)
   | (with_reducible exact r07_Take.mono _ _)
   | (with_reducible exact LeO.refl _)
   | (with_reducible exact LeO.none _)
   | (with_reducible refine LeO.ite ?_ ?_)
   | (with_reducible refine LeO.bind ?_ (fun _ => ?_))
  ·intro y0 y1 y2 y3 y4 y5 y6 y7 y8 y9
   unfold r08_Decode.j2
   repeat' first
   | (with_reducible exact ih0 _ _ _ _ _ _ _ _ _)
   | (with_reducible exact ih1 _ _ _ _ _ _ _ _)
   | (with_reducible exact ih2 _ _ _ _ _ _ _ _ _ _)
   | (with_reducible exact ih3 _ _ _)
   | (with_reducible exact ih4 _ _ _ _)
   | (with_reducible exact ih5 _ _ _ _)
   | (with_reducible exact r01_Same.mono _ _ _)
   | (with_reducible exact r01_Zeros.mono _ _)
   | (with_reducible exact r02_Sum.mono _ _)
   | (with_reducible exact r06_All.mono _ _ _)
   | (with_reducible exact r06_Decode.mono _ _)
   | (with_reducible exact r07_Take.mono _ _)
   | (with_reducible exact LeO.refl _)
   | (with_reducible exact LeO.none _)
   | (with_reducible refine LeO.ite ?_ ?_)
   | (with_reducible refine LeO.bind ?_ (fun _ => ?_))
  ·intro y0 y1 y2
   unfold r08_Decode.j3
   repeat' first
   | (with_reducible exact ih0 _ _ _ _ _ _ _ _ _)
   | (with_reducible exact ih1 _ _ _ _ _ _ _ _)
   | (with_reducible exact ih2 _ _ _ _ _ _ _ _ _ _)
   | (with_reducible exact ih3 _ _ _)
   | (with_reducible exact ih4 _ _ _ _)
   | (with_reducible exact ih5 _ _ _ _)
   | (with_reducible exact r01_Same.mono _ _ _)
   | (with_reducible exact r01_Zeros.mono _ _)
   | (with_reducible exact r02_Sum.mono _ _)
   | (with_reducible exact r06_All.mono _ _ _)
   | (with_reducible exact r06_Decode.mono _ _)
   | (with_reducible exact r07_Take.mono _ _)
   | (with_reducible exact LeO.refl _)
   | (with_reducible exact LeO.none _)
   | (with_reducible refine LeO.ite ?_ ?_)
   | (with_reducible refine LeO.bind ?_ (fun _ => ?_))
  ·intro y0 y1 y2 y3
   unfold r08_Decode.j4
   repeat' first
   | (with_reducible exact ih0 _ _ _ _ _ _ _ _ _)
   | (with_reducible exact ih1 _ _ _ _ _ _ _ _)
   | (with_reducible exact ih2 _ _ _ _ _ _ _ _ _ _)
   | (with_reducible exact ih3 _ _ _)
   | (with_reducible exact ih4 _ _ _ _)
   | (with_reducible exact ih5 _ _ _ _)
   | (with_reducible exact r01_Same.mono _ _ _)
   | (with_reducible exact r01_Zeros.mono _ _)
   | (with_reducible exact r02_Sum.mono _ _)
   | (with_reducible exact r06_All.mono _ _ _)
   | (with_reducible exact r06_Decode.mono _ _)
   | (with_reducible exact r07_Take.mono _ _)
   | (with_reducible exact LeO.refl _)
   | (with_reducible exact LeO.none _)
   | (with_reducible refine LeO.ite ?_ ?_)
   | (with_reducible refine LeO.bind ?_ (fun _ => ?_))
  ·intro y0 y1 y2 y3
   unfold r08_Decode.j5
   repeat' first
   | (with_reducible exact ih0 _ _ _ _ _ _ _ _ _)
   | (with_reducible exact ih1 _ _ _ _ _ _ _ _)
   | (with_reducible exact ih2 _ _ _ _ _ _ _ _ _ _)
   | (with_reducible exact ih3 _ _ _)
   | (with_reducible exact ih4 _ _ _ _)
   | (with_reducible exact ih5 _ _ _ _)
   | (with_reducible exact r01_Same.mono _ _ _)
   | (with_reducible exact r01_Zeros.mono _ _)
   | (with_reducible exact r02_Sum.mono _ _)
   | (with_reducible exact r06_All.mono _ _ _)
   | (with_reducible exact r06_Decode.mono _ _)
   | (with_reducible exact r07_Take.mono _ _)
   | (with_reducible exact LeO.refl _)
   | (with_reducible exact LeO.none _)
   | (with_reducible refine LeO.ite ?_ ?_)
   | (with_reducible refine LeO.bind ?_ (fun _ => ?_))
theorem r08_Decode.mono : ∀ a0 a1 a2 a3 a4 a5 a6 a7 k, LeO (r08_Decode.f k a0 a1 a2 a3 a4 a5 a6 a7) (r08_Decode.f (k + 1) a0 a1 a2 a3 a4 a5 a6 a7) := by
 intro a0 a1 a2 a3 a4 a5 a6 a7 k
 obtain ⟨ih0, ih1, ih2, ih3, ih4, ih5⟩ := r08_Decode.mono_l k
 unfold r08_Decode.f
 repeat' with_reducible first
  | exact ih0 _ _ _ _ _ _ _ _ _
  | exact ih1 _ _ _ _ _ _ _ _
  | exact ih2 _ _ _ _ _ _ _ _ _ _
  | exact ih3 _ _ _
  | exact ih4 _ _ _ _
  | exact ih5 _ _ _ _
  | exact r01_Same.mono _ _ _
  | exact r01_Zeros.mono _ _
  | exact r02_Sum.mono _ _
  | exact r06_All.mono _ _ _
  | exact r06_Decode.mono _ _
  | exact r07_Take.mono _ _
  | exact LeO.refl _
  | exact LeO.none _
  | refine LeO.ite ?_ ?_
  | refine LeO.bind ?_ (fun _ => ?_)
def r08_Decode.T7 : Bool × List (List Nat × List Nat) := (true, [([], []), ([], []), ([0, 1], [0, 1]), ([], []), ([3], [3]), ([2, 4], [2, 4]), ([5], [5]), ([6], [6]), ([6], [6]), ([6], [6]), ([7, 5, 0, 1, 2, 3, 4, 5, 6, 7], [7]), ([8, 10, 0, 1, 2, 3, 4, 5, 6, 7, 8, 10], [8]), ([9, 11, 0, 1, 2, 3, 4, 5, 6, 7, 8, 9, 10, 11], [9])])
def r08_Decode.B7 : List Nat := [0, 0, 3, 0, 8, 31, 63, 127, 127, 127, 255, 1535, 4095]
theorem r08_Decode.tab7 : rtab .any (opsOf Try.f29 7) = r08_Decode.T7 := by kernel_rfl
theorem r08_Decode.bits7 : waitsOk r08_Decode.T7.2 r08_Decode.B7 = true := by kernel_rfl
theorem r08_Decode.calls (k : Nat) (a0_0 : Int) (a0_1 : Int) (a0_2 : Int) (a0_3 : Int) (a0_4 : Int) (a0_5 : Int) (a0_6 : Int) (A1 : Option Addr) (c1 : Nat) (l1 : List Int) (r1 : List Int) (r2 : Int) (r3 : Int) (r4 : Int) (r5 : Int) (r6 : Int) (r7 : Int) (w : World) (hr1 : Kd.C (Kd.int .u8) w A1 l1.length l1) (hc1 : l1.length ≤ c1) (h : r08_Decode.f k a0_0 a0_1 a0_2 a0_3 a0_4 a0_5 a0_6 l1 = some (r1, r2, r3, r4, r5, r6, r7)) :
  Calls Try.prog 29 #[.agg #[.int .i64 a0_0, .int .i64 a0_1, .int .i64 a0_2, .int .i64 a0_3, .int .i64 a0_4, .int .i64 a0_5, .int .i64 a0_6], .slice A1 l1.length c1] w fun e w' => ∃ v0_ : Value, e = .returned (.tuple #[v0_, .agg #[.int .i64 r2, .int .i64 r3, .int .i64 r4, .int .i64 r5], .int .i64 r6, .int .i64 r7]) ∧ Kd.R (Kd.int .u8) 5 w' w.heap.size (fun _ => True) v0_ r1 ∧ Below w.heap.size w w' := by
 have hu23 := Try.underlying23
 have hu26 := Try.underlying26
 have HR1 := ak_ hr1
 have HC1 := ak_ hc1
 clear hr1 hc1
 have HB := br_ w
 unfold r08_Decode.f at h
 have H := h
 clear h
 have HC3 := ak_ H
 clear H
 go_enter Try.func29, Try.ntmps29
 go_upto_region 1 with (first | ((with_reducible refine gate_dst (N := 2) rfl ?_); (try (refine gate_guard (by rfl) ?_; dsimp only)); refine box_event ?hg (N := 2) ?hd (cs := #[.int .i64 a0_0, .int .i64 a0_1, .int .i64 a0_2, .int .i64 a0_3, .int .i64 a0_4, .int .i64 a0_5, .int .i64 a0_6]) (t := 23) ?hr ?_; (case hd => rfl); (case hg => rfl); (case hr => (go_simp; done)); intro gb361 hg w4 hbox hb; have BK361 := ak_ (hbox); have GW361 := ak_ (gw_ hg (below_size HB.out)); have GE361 := ak_ (gw_ hg (below_size HB.out)); replace HB := ak_ (below_step HB.out hb); clear hb hbox hg) | ((with_reducible refine gate_dst (N := 5) rfl ?_); (try (refine gate_guard (by rfl) ?_; dsimp only)); refine box_event ?hg (N := 5) ?hd (cs := #[.int .i64 0, .int .i64 0, .int .i64 0, .int .i64 0]) (t := 26) ?hr ?_; (case hd => rfl); (case hg => rfl); (case hr => (go_simp; done)); intro gb362 hg w5 hbox hb; have BK362 := ak_ (hbox); have GW362 := ak_ (gw_ hg (below_size HB.out)); have GE362 := ak_ (gw_ hg (below_size HB.out)); replace HB := ak_ (below_step HB.out hb); have NB361_362 := ak_ ((by rw [hg]; exact Nat.ne_of_lt (blk_lt BK361.out) : gb361 ≠ gb362)); have NB362_361 := ak_ ((by rw [hg]; exact Nat.ne_of_gt (blk_lt BK361.out) : gb362 ≠ gb361)); replace BK361 := ak_ (blk_below BK361.out hb); clear hb hbox hg))
 go_cut [26] (fun v26 wc => ∃ (kq : Nat) (x26_2 : Bool), v26 = .bool x26_2 ∧ Aside0 (r08_Decode.j0 kq l1 x26_2 a0_0 a0_1 a0_2 a0_3 a0_4 a0_5 a0_6 = some (r1, r2, r3, r4, r5, r6, r7)) ∧ Aside0 (kq ≤ k) ∧ Aside0 (wc.heap[gb361]? = some (.cells #[.int .i64 a0_0, .int .i64 a0_1, .int .i64 a0_2, .int .i64 a0_3, .int .i64 a0_4, .int .i64 a0_5, .int .i64 a0_6] 23 (0, 0))) ∧ Aside0 (wc.heap[gb362]? = some (.cells #[.int .i64 0, .int .i64 0, .int .i64 0, .int .i64 0] 26 (0, 0))) ∧ Aside0 (Below w.heap.size w wc))
 case first =>
  have H := HC3.out
  clear HC3
  obtain ⟨t363, A6, H⟩ := bs_ H
  by_cases c7 : t363 = true
  ·subst c7
   rw [if_pos rfl] at H
   obtain ⟨t364, A8, H⟩ := bs_ H
   have H' := ak_ H
   clear H
   have hnb9 := NB361_362.out
   have hnc9 := NB362_361.out
   obtain ⟨hcz10_0, hcz10_1, hcz10_2, hcz10_3, hcz10_4, hcz10_5, hcz10_6⟩ := cells7 BK361.out
   obtain ⟨hfz10_0, hfz10_1, hfz10_2, hfz10_3, hfz10_4, hfz10_5, hfz10_6⟩ := froz7 BK361.out
   go_wp2_with (first | ((with_reducible refine gate_callee (f := 18) rfl ?_); refine goesL_ (some 18) rfl rfl Try.func18 (by kernel_rfl) rfl #[.agg #[.int .i64 a0_0, .int .i64 a0_1, .int .i64 a0_2, .int .i64 a0_3, .int .i64 a0_4, .int .i64 a0_5, .int .i64 a0_6]] rfl (by (try simp only [List.map_toArray, List.map_cons, List.map_nil]); first | done | rfl | (simp only [List.length_drop, List.length_take]; rfl)) ?_; (with_reducible refine (r04_Right.calls a0_0 a0_1 a0_2 a0_3 a0_4 a0_5 a0_6 true _ A6.out).mono ?_); rintro e w11 ⟨rfl, hb⟩; refine ⟨_, rfl, ?_⟩; replace BK361 := ak_ (blk_below BK361.out hb); replace BK362 := ak_ (blk_below BK362.out hb); replace HB := ak_ (below_step HB.out hb); (try clear hb); obtain ⟨hcz12_0, hcz12_1, hcz12_2, hcz12_3, hcz12_4, hcz12_5, hcz12_6⟩ := cells7 BK361.out; obtain ⟨hfz12_0, hfz12_1, hfz12_2, hfz12_3, hfz12_4, hfz12_5, hfz12_6⟩ := froz7 BK361.out) | (go_at_call 51; (with_reducible refine (r04_Raw.calls a0_0 a0_1 a0_2 a0_3 a0_4 a0_5 a0_6 t364 _ A8.out).mono ?_); rintro e w13 ⟨rfl, hb⟩; replace BK361 := ak_ (blk_below BK361.out hb); replace BK362 := ak_ (blk_below BK362.out hb); replace HB := ak_ (below_step HB.out hb); (try clear hb)))
   go_meet
   case rel => exact ⟨_, (((l1.length : Int) != t364)), (by rfl), H', ⟨by omega⟩, ⟨BK361.out⟩, ⟨BK362.out⟩, ⟨HB.out⟩⟩
  ·replace c7 := Bool.eq_false_iff.mpr c7
   subst c7
   rw [if_neg (show ¬ (false = true) by decide)] at H
   have H' := ak_ H
   clear H
   have hnb14 := NB361_362.out
   have hnc14 := NB362_361.out
   obtain ⟨hcz15_0, hcz15_1, hcz15_2, hcz15_3, hcz15_4, hcz15_5, hcz15_6⟩ := cells7 BK361.out
   obtain ⟨hfz15_0, hfz15_1, hfz15_2, hfz15_3, hfz15_4, hfz15_5, hfz15_6⟩ := froz7 BK361.out
   go_wp2_with ((with_reducible refine gate_callee (f := 18) rfl ?_); refine goesL_ (some 18) rfl rfl Try.func18 (by kernel_rfl) rfl #[.agg #[.int .i64 a0_0, .int .i64 a0_1, .int .i64 a0_2, .int .i64 a0_3, .int .i64 a0_4, .int .i64 a0_5, .int .i64 a0_6]] rfl (by (try simp only [List.map_toArray, List.map_cons, List.map_nil]); first | done | rfl | (simp only [List.length_drop, List.length_take]; rfl)) ?_; (with_reducible refine (r04_Right.calls a0_0 a0_1 a0_2 a0_3 a0_4 a0_5 a0_6 false _ A6.out).mono ?_); rintro e w16 ⟨rfl, hb⟩; refine ⟨_, rfl, ?_⟩; replace BK361 := ak_ (blk_below BK361.out hb); replace BK362 := ak_ (blk_below BK362.out hb); replace HB := ak_ (below_step HB.out hb); (try clear hb))
   go_meet
   case rel => exact ⟨_, (true), (by rfl), H', ⟨by omega⟩, ⟨BK361.out⟩, ⟨BK362.out⟩, ⟨HB.out⟩⟩
 case rest =>
  clear HC3
  obtain ⟨kq, x26_2, rfl, HA, HJ2, BK361, BK362, HB⟩ := hcut
  cases kq with
  | zero => exact absurd HA.out (by simp [r08_Decode.j0])
  | succ kj2 =>
   have H := HA.out
   clear HA
   simp only [r08_Decode.j0] at H
   have HC17 := ak_ H
   clear H
   go_upto_if 26 with (fail)
   go_cut [] (fun wc => ∃ (kq : Nat) (x363000_16 : Int) (x363001_16 : Int) (x363002_16 : Int) (x363003_16 : Int), Aside0 (r08_Decode.j1 kq l1 a0_0 a0_1 a0_2 a0_3 a0_4 a0_5 a0_6 = some (r1, r2, r3, r4, r5, r6, r7)) ∧ Aside0 (kq ≤ kj2) ∧ Aside0 (wc.heap[gb361]? = some (.cells #[.int .i64 a0_0, .int .i64 a0_1, .int .i64 a0_2, .int .i64 a0_3, .int .i64 a0_4, .int .i64 a0_5, .int .i64 a0_6] 23 (0, 0))) ∧ Aside0 (wc.heap[gb362]? = some (.cells #[.int .i64 x363000_16, .int .i64 x363001_16, .int .i64 x363002_16, .int .i64 x363003_16] 26 (0, 0))) ∧ Aside0 (Below w.heap.size w wc))
   case first =>
    have H := HC17.out
    clear HC17
    by_cases c18 : x26_2 = true
    ·subst c18
     rw [if_pos rfl] at H
     simp only [Option.some.injEq, Prod.mk.injEq] at H
     obtain ⟨rfl, rfl, rfl, rfl, rfl, rfl, rfl⟩ := H
     have hnb19 := NB362_361.out
     have hnc19 := NB361_362.out
     obtain ⟨hcz20_0, hcz20_1, hcz20_2, hcz20_3⟩ := cells4 BK362.out
     obtain ⟨hfz20_0, hfz20_1, hfz20_2, hfz20_3⟩ := froz4 BK362.out
     go_wp2
     refine bodyPost_ret (results_list (rs := [.tmp 4, .cell 5 26, .tmp 6, .tmp 7]) rfl (by simp) (.tmp (.cell gb362 26 #[.int .i64 0, .int .i64 0, .int .i64 0, .int .i64 0] (0, 0) _ rfl (put4 BK362.out) Try.underlying26 rfl (by kernel_rfl) (.tmp (.tmp .nil))))) rfl ?_
     exact ⟨_, by rfl, (Kd.R_nil _ _ _ _ _), by repeat (first | (with_reducible first | exact HB.out | apply below_alloc | apply pw_below_drewN | apply below_drew1 | refine below_set ?_ GE361.out | refine below_set ?_ GE362.out) | exact HB.out)⟩
    ·replace c18 := Bool.eq_false_iff.mpr c18
     subst c18
     rw [if_neg (show ¬ (false = true) by decide)] at H
     have H' := ak_ H
     clear H
     go_wp2
     go_meet
     case rel => exact ⟨_, (0), (0), (0), (0), H', ⟨by have := HJ2.out; omega⟩, ⟨BK361.out⟩, ⟨BK362.out⟩, ⟨HB.out⟩⟩
   case rest =>
    clear HC17
    obtain ⟨kq, x363000_16, x363001_16, x363002_16, x363003_16, HA, HJ16, BK361, BK362, HB⟩ := hcut
    cases kq with
    | zero => exact absurd HA.out (by simp [r08_Decode.j1])
    | succ kj16 =>
     have H := HA.out
     clear HA
     simp only [r08_Decode.j1] at H
     obtain ⟨ji21, hji21⟩ : ∃ j_ : Int, (wrap64 (a0_3 * (wrap64 (a0_4 + 2)))) = j_ := ⟨_, rfl⟩
     replace H : (if 0 ≤ (ji21) then (if (ji21) ≤ (wrap64 ((ji21) + 30)) then (if (wrap64 ((ji21) + 30)) ≤ (l1.length : Int) then ((r01_Zeros.f kj16 ((l1.take ((wrap64 ((ji21) + 30)) : Int).toNat).drop ((ji21) : Int).toNat)).bind fun t366 => (if t366 ≤ 20 then (some (([] : List Int), 0, 0, 0, 0, 2, 0)) else (r08_Decode.j2 kj16 l1 ji21 ((l1.take ((wrap64 ((ji21) + 30)) : Int).toNat).drop ((ji21) : Int).toNat) a0_0 a0_1 a0_2 a0_3 a0_4 a0_5 a0_6))) else (none)) else (none)) else (none)) = some (r1, r2, r3, r4, r5, r6, r7) := (by rw [hji21] at H; exact H)
     have hji21w : (IntKind.i64.wrap (a0_3 * (wrap64 (a0_4 + 2)))) = ji21 := (i64_w _).trans hji21
     by_cases c22 : 0 ≤ (ji21)
     ·rw [if_pos c22] at H
      have c22b0 := eq_true c22
      have c22b1 := dt_ c22
      clear c22
      by_cases c23 : (ji21) ≤ (wrap64 ((ji21) + 30))
      ·rw [if_pos c23] at H
       have c23b0 := eq_true c23
       have c23b1 := dt_ c23
       by_cases c24 : (wrap64 ((ji21) + 30)) ≤ (l1.length : Int)
       ·rw [if_pos c24] at H
        have c24b0 := eq_true c24
        have c24b1 := dt_ c24
        obtain ⟨t366, A25, H⟩ := bs_ H
        have HC26 := ak_ H
        clear H
        have hnb27 := NB361_362.out
        have hnc27 := NB362_361.out
        obtain ⟨hcz28_0, hcz28_1, hcz28_2, hcz28_3, hcz28_4, hcz28_5, hcz28_6⟩ := cells7 BK361.out
        obtain ⟨hfz28_0, hfz28_1, hfz28_2, hfz28_3, hfz28_4, hfz28_5, hfz28_6⟩ := froz7 BK361.out
        obtain ⟨i029, hi029, _, hsz29, _⟩ := info_parts info5
        obtain ⟨A29, hcut29, hA29, hC29⟩ := print_mid_of (P := Try.prog) (Value.int .u8) 0 24 5 .i64 .i64 Try.underlying24 hi029 hsz29 A1 c1 l1 (ji21) (wrap64 ((ji21) + 30)) (od_ ‹_›) (by omega) (od_ ‹_›) HC1.out
        have HR365 := ak_ (Kd.C_of_reads (h1 := fun _ => rfl) (hA29 _ (Kd.reads_of_C HR1.out)))
        have HL29_ := ak_ (show ((l1.take ((wrap64 ((ji21) + 30)) : Int).toNat).drop ((ji21) : Int).toNat).length = ((wrap64 ((ji21) + 30)).toNat - (ji21).toNat) from (by rw [List.length_drop, List.length_take]; have h_ : ((wrap64 ((ji21) + 30)) : Int) ≤ (l1.length : Int) := od_ ‹_›; omega))
        have HC365 := ak_ hC29
        clear hA29 hC29 hi029 hsz29
        go_upto_if 41 with ((with_reducible refine gate_callee (f := 52) rfl ?_); refine goesL_ (some 40) rfl rfl Try.func52 (by kernel_rfl) rfl #[.slice A29 ((l1.take ((wrap64 ((ji21) + 30)) : Int).toNat).drop ((ji21) : Int).toNat).length (c1 - (ji21).toNat)] rfl (by (try simp only [List.map_toArray, List.map_cons, List.map_nil]); first | done | (rw [HL29_.out] <;> rfl) | (simp only [hji21]; rfl) | rfl | (simp only [List.length_drop, List.length_take]; rfl)) ?_; (with_reducible refine (r01_Zeros.calls kj16 _ _ ((l1.take ((wrap64 ((ji21) + 30)) : Int).toNat).drop ((ji21) : Int).toNat) t366 _ ?side1 ?side2 A25.out).mono ?_); (case side1 => exact (Kd.C_below HR365.out HB.out)); (case side2 => exact HC365.out); rintro e w30 ⟨rfl, hb⟩; refine ⟨_, rfl, ?_⟩; replace BK361 := ak_ (blk_below BK361.out hb); replace BK362 := ak_ (blk_below BK362.out hb); replace HB := ak_ (below_step HB.out hb); (try clear hb))
        go_cut [] (fun wc => ∃ (kq : Nat) (x363000_25 : Int) (x363001_25 : Int) (x363002_25 : Int) (x363003_25 : Int), Aside0 (r08_Decode.j2 kq l1 ji21 ((l1.take ((wrap64 ((ji21) + 30)) : Int).toNat).drop ((ji21) : Int).toNat) a0_0 a0_1 a0_2 a0_3 a0_4 a0_5 a0_6 = some (r1, r2, r3, r4, r5, r6, r7)) ∧ Aside0 (kq ≤ kj16) ∧ Aside0 (wc.heap[gb361]? = some (.cells #[.int .i64 a0_0, .int .i64 a0_1, .int .i64 a0_2, .int .i64 a0_3, .int .i64 a0_4, .int .i64 a0_5, .int .i64 a0_6] 23 (0, 0))) ∧ Aside0 (wc.heap[gb362]? = some (.cells #[.int .i64 x363000_25, .int .i64 x363001_25, .int .i64 x363002_25, .int .i64 x363003_25] 26 (0, 0))) ∧ Aside0 (Below w.heap.size w wc))
        case first =>
         have H := HC26.out
         clear HC26
         by_cases c31 : t366 ≤ 20
         ·rw [if_pos c31] at H
          have c31b0 := dt_ c31
          clear c31
          (rw [c31b0])
          simp only [Option.some.injEq, Prod.mk.injEq] at H
          obtain ⟨rfl, rfl, rfl, rfl, rfl, rfl, rfl⟩ := H
          have hnb32 := NB362_361.out
          have hnc32 := NB361_362.out
          obtain ⟨hcz33_0, hcz33_1, hcz33_2, hcz33_3⟩ := cells4 BK362.out
          obtain ⟨hfz33_0, hfz33_1, hfz33_2, hfz33_3⟩ := froz4 BK362.out
          go_wp2
          refine bodyPost_ret (results_list (rs := [.tmp 4, .cell 5 26, .tmp 6, .tmp 7]) rfl (by simp) (.tmp (.cell gb362 26 #[.int .i64 0, .int .i64 0, .int .i64 0, .int .i64 0] (0, 0) _ rfl (put4 BK362.out) Try.underlying26 rfl (by kernel_rfl) (.tmp (.tmp .nil))))) rfl ?_
          exact ⟨_, by rfl, (Kd.R_nil _ _ _ _ _), by repeat (first | (with_reducible first | exact HB.out | apply below_alloc | apply pw_below_drewN | apply below_drew1 | refine below_set ?_ GE361.out | refine below_set ?_ GE362.out) | exact HB.out)⟩
         ·rw [if_neg c31] at H
          have c31b0 := df_ c31
          clear c31
          (rw [c31b0])
          have H' := ak_ H
          clear H
          go_wp2
          go_meet
          case rel => exact ⟨_, (x363000_16), (x363001_16), (x363002_16), (x363003_16), H', ⟨by have := HJ2.out; have := HJ16.out; omega⟩, ⟨BK361.out⟩, ⟨BK362.out⟩, ⟨HB.out⟩⟩
        case rest =>
         clear HC26 c22b0 c22b1 c23 c23b0 c23b1 c24 c24b0 c24b1 hcz28_0 hcz28_1 hcz28_2 hcz28_3 hcz28_4 hcz28_5 hcz28_6 hfz28_0 hfz28_1 hfz28_2 hfz28_3 hfz28_4 hfz28_5 hfz28_6
         obtain ⟨kq, x363000_25, x363001_25, x363002_25, x363003_25, HA, HJ25, BK361, BK362, HB⟩ := hcut
         cases kq with
         | zero => exact absurd HA.out (by simp [r08_Decode.j2])
         | succ kj25 =>
          have H := HA.out
          clear HA
          simp only [r08_Decode.j2] at H
          by_cases c34 : 0 ≤ ji21
          ·rw [if_pos c34] at H
           have c34b0 := eq_true c34
           have c34b1 := dt_ c34
           clear c34
           by_cases c35 : ji21 ≤ (l1.length : Int)
           ·rw [if_pos c35] at H
            have c35b0 := eq_true c35
            have c35b1 := dt_ c35
            clear c35
            obtain ⟨⟨t368, t369, t370⟩, A36, H⟩ := bs_ H
            try dsimp only at H
            have HC37 := ak_ H
            clear H
            try go_wp2
            replace BK361 := ak_ (blk_drew BK361.out)
            replace BK362 := ak_ (blk_drew BK362.out)
            replace HB := ak_ (below_drew1 HB.out)
            obtain ⟨i039, hi039, _, hsz39, _⟩ := info_parts info5
            obtain ⟨hcut39, hA39, hC39⟩ := print_take_of (P := Try.prog) (Value.int .u8) 0 24 5 .i64 Try.underlying24 hi039 hsz39 A1 c1 l1 ji21 (od_ ‹_›) (od_ ‹_›) HC1.out
            have HR367 := ak_ (Kd.C_of_reads (h1 := fun _ => rfl) (hA39 _ (Kd.reads_of_C HR1.out)))
            have HC367 := ak_ hC39
            clear hA39 hC39 hi039 hsz39
            refine start_ (n := 13) (S := fun w' => w'.cell? ⟨gb361, 0, none⟩ = some (.int .i64 a0_0) ∧ w'.cell? ⟨gb361, 1, none⟩ = some (.int .i64 a0_1) ∧ w'.cell? ⟨gb361, 2, none⟩ = some (.int .i64 a0_2) ∧ w'.cell? ⟨gb361, 3, none⟩ = some (.int .i64 a0_3) ∧ w'.cell? ⟨gb361, 4, none⟩ = some (.int .i64 a0_4) ∧ w'.cell? ⟨gb361, 5, none⟩ = some (.int .i64 a0_5) ∧ w'.cell? ⟨gb361, 6, none⟩ = some (.int .i64 a0_6)) (ds := []) #[false, false, false, false, false, false, false, false, false, false, false, false, false] (by kernel_rfl) rfl rfl ⟨(bc_ BK361.out 0).trans rfl, (bc_ BK361.out 1).trans rfl, (bc_ BK361.out 2).trans rfl, (bc_ BK361.out 3).trans rfl, (bc_ BK361.out 4).trans rfl, (bc_ BK361.out 5).trans rfl, (bc_ BK361.out 6).trans rfl⟩ (fun hHeld => ?_); refine with_tabW r08_Decode.tab7 r08_Decode.bits7 (fun HT_ HW_ => ?_)
            generalize wc.drew = w38 at BK361 BK362 HB HR367 hHeld ⊢
            refine pu 0 (some 44) #[true, false, false, false, false, false, false, false, false, false, false, false, false] HT_.out rfl rfl ?_
            refine pu 1 (some 45) #[true, true, false, false, false, false, false, false, false, false, false, false, false] HT_.out rfl rfl ?_
            refine pu 2 (some 46) #[true, true, true, false, false, false, false, false, false, false, false, false, false] HT_.out rfl rfl ?_
            refine pu 3 (some 47) #[true, true, true, true, false, false, false, false, false, false, false, false, false] HT_.out rfl rfl ?_
            refine take_ (i := 4) (N := some 48) (v := ?_) (a' := ?_) #[true, true, true, true, true, false, false, false, false, false, false, false, false] rfl rfl (take_ofW HT_.out HW_.out (by kernel_rfl)) (fun _ _ _ h => h) (Or.inl ⟨by rfl, ?_⟩) hHeld ?_ ?_
            rotate_left
            ·rintro w' ⟨s0, s1, s2, s3, s4, s5, s6⟩
             go_simp
             with_reducible rfl
            rotate_left
            ·simp only [Act.put, sb_, sz_, su_, i64_w, i32_w]
             rfl
            refine one_ (i := 5) (N := some 49) #[true, true, true, true, true, true, false, false, false, false, false, false, false] rfl rfl (one_of HT_.out (by kernel_rfl)) (by decide) (fun K hK => ?_)
            refine goes_ Try.func53 (by kernel_rfl) rfl #[.slice A1 (l1.take (ji21 : Int).toNat).length c1, .int .i64 a0_4] (by rfl) rfl rfl (by (try simp only [List.map_toArray, List.map_cons, List.map_nil]); first | done | (rw [show (l1.take (ji21 : Int).toNat).length = ji21.toNat from (by rw [List.length_take]; have h_ : (ji21 : Int) ≤ (l1.length : Int) := od_ ‹_›; omega)] <;> rfl) | (simp only [hji21]; rfl) | rfl | (simp only [List.length_drop, List.length_take]; rfl)) ?_
            with_reducible refine (r06_All.calls kj25 _ _ (l1.take (ji21 : Int).toNat) a0_4 t368 t369 t370 _ ?side1 ?side2 A36.out).mono ?_
            (case side1 => exact (Kd.C_below HR367.out HB.out))
            (case side2 => exact HC367.out)
            rintro e w40 ⟨v371, rfl, ho0, hb⟩
            refine ⟨_, rfl, ?_⟩
            have HO372 := ak_ (Kd.R_lower ho0 (below_size HB.out))
            replace BK361 := ak_ (blk_below BK361.out hb)
            replace BK362 := ak_ (blk_below BK362.out hb)
            replace HB := ak_ (below_step HB.out hb)
            (try clear hb)
            (try clear ho0)
            refine hK.out _ _ (cells7 BK361.out) (fun hHeld => ?_)
            clear hK K
            refine norm_ (a' := ?_) ?_ ?_
            rotate_left
            ·show Act.put _ (some 49) _ = _
             simp only [Act.put, sb_, sz_, su_, i64_w, i32_w]
             rfl
            refine pu 6 (some 43) #[true, true, true, true, true, true, true, false, false, false, false, false, false] HT_.out rfl rfl ?_
            refine pu 7 (some 50) #[true, true, true, true, true, true, true, true, false, false, false, false, false] HT_.out rfl rfl ?_
            refine pu 8 (some 51) #[true, true, true, true, true, true, true, true, true, false, false, false, false] HT_.out rfl rfl ?_
            refine pu 9 (some 52) #[true, true, true, true, true, true, true, true, true, true, false, false, false] HT_.out rfl rfl ?_
            refine pu 10 (some 10) #[true, true, true, true, true, true, true, true, true, true, true, false, false] HT_.out rfl rfl ?_
            refine pu 11 (some 11) #[true, true, true, true, true, true, true, true, true, true, true, true, false] HT_.out rfl rfl ?_
            refine pu 12 (some 12) #[true, true, true, true, true, true, true, true, true, true, true, true, true] HT_.out rfl rfl ?_
            refine done_ (done_of HT_.out (by kernel_rfl)) ?_
            go_upto_if 54 with (fail)
            go_cut [] (fun wc => ∃ (kq : Nat) (x363000_36 : Int) (x363001_36 : Int) (x363002_36 : Int) (x363003_36 : Int), Aside0 (r08_Decode.j3 kq ((l1.take ((wrap64 ((ji21) + 30)) : Int).toNat).drop ((ji21) : Int).toNat) t368 t369 = some (r1, r2, r3, r4, r5, r6, r7)) ∧ Aside0 (kq ≤ kj25) ∧ Aside0 (Kd.R (Kd.int .u8) 5 wc w.heap.size (fun _ => True) v371 t368) ∧ Aside0 (wc.heap[gb361]? = some (.cells #[.int .i64 a0_0, .int .i64 a0_1, .int .i64 a0_2, .int .i64 a0_3, .int .i64 a0_4, .int .i64 a0_5, .int .i64 a0_6] 23 (0, 0))) ∧ Aside0 (wc.heap[gb362]? = some (.cells #[.int .i64 x363000_36, .int .i64 x363001_36, .int .i64 x363002_36, .int .i64 x363003_36] 26 (0, 0))) ∧ Aside0 (Below w.heap.size w wc))
            case first =>
             have H := HC37.out
             clear HC37
             by_cases c41 : t370 = 0
             ·rw [if_pos c41] at H
              have c41b0 := beq_iff_eq.mpr c41
              have c41b1 := bne_eq_false_iff_eq.mpr c41
              clear c41
              (first | rw [c41b0] | (simp only [i64_w, i32_w]; rw [c41b0]) | skip)
              have H' := ak_ H
              clear H
              go_wp2
              go_meet
              case rel => exact ⟨_, (x363000_25), (x363001_25), (x363002_25), (x363003_25), H', ⟨by have := HJ2.out; have := HJ16.out; have := HJ25.out; omega⟩, ⟨HO372.out⟩, ⟨BK361.out⟩, ⟨BK362.out⟩, ⟨HB.out⟩⟩
             ·rw [if_neg c41] at H
              have c41b0 := beq_eq_false_iff_ne.mpr c41
              have c41b1 := bne_iff_ne.mpr c41
              (first | rw [c41b0] | (simp only [i64_w, i32_w]; rw [c41b0]) | skip)
              simp only [Option.some.injEq, Prod.mk.injEq] at H
              obtain ⟨rfl, rfl, rfl, rfl, rfl, rfl, rfl⟩ := H
              have hnb42 := NB362_361.out
              have hnc42 := NB361_362.out
              obtain ⟨hcz43_0, hcz43_1, hcz43_2, hcz43_3⟩ := cells4 BK362.out
              obtain ⟨hfz43_0, hfz43_1, hfz43_2, hfz43_3⟩ := froz4 BK362.out
              go_wp2
              refine bodyPost_ret (results_list (rs := [.tmp 4, .cell 5 26, .tmp 6, .tmp 7]) rfl (by simp) (.tmp (.cell gb362 26 #[.int .i64 0, .int .i64 0, .int .i64 0, .int .i64 0] (0, 0) _ rfl (put4 BK362.out) Try.underlying26 rfl (by kernel_rfl) (.tmp (.tmp .nil))))) rfl ?_
              exact ⟨_, by rfl, (Kd.R_nil _ _ _ _ _), by repeat (first | (with_reducible first | exact HB.out | apply below_alloc | apply pw_below_drewN | apply below_drew1 | refine below_set ?_ GE361.out | refine below_set ?_ GE362.out) | exact HB.out)⟩
            case rest =>
             clear HC37 c34b0 c34b1 c35b0 c35b1
             obtain ⟨kq, x363000_36, x363001_36, x363002_36, x363003_36, HA, HJ36, HO_10, BK361, BK362, HB⟩ := hcut
             cases kq with
             | zero => exact absurd HA.out (by simp [r08_Decode.j3])
             | succ kj36 =>
              have H := HA.out
              clear HA
              simp only [r08_Decode.j3] at H
              obtain ⟨⟨t373, t376, t377⟩, A44, H⟩ := bs_ H
              try dsimp only at H
              have HC45 := ak_ H
              clear H
              go_upto_if 64 with ((with_reducible refine gate_callee (f := 54) rfl ?_); refine goesL_ (some 59) rfl rfl Try.func54 (by kernel_rfl) rfl #[.slice A29 ((l1.take ((wrap64 ((ji21) + 30)) : Int).toNat).drop ((ji21) : Int).toNat).length (c1 - (ji21).toNat)] rfl (by (try simp only [List.map_toArray, List.map_cons, List.map_nil]); first | done | (rw [HL29_.out] <;> rfl) | (simp only [hji21]; rfl) | rfl | (simp only [List.length_drop, List.length_take]; rfl)) ?_; (with_reducible refine (r06_Decode.calls kj36 (fun k_ => k_ < w.heap.size) _ _ ((l1.take ((wrap64 ((ji21) + 30)) : Int).toNat).drop ((ji21) : Int).toNat) t373 t376 t377 _ ?side1 A44.out).mono ?_); (case side1 => exact Kd.V_mk HC365.out (Kd.F_below (Kd.C_F (Kd.heap_int .u8) HR365.out) HB.out)); rintro e w46 ⟨v374, rfl, ho0, hb⟩; refine ⟨_, rfl, ?_⟩; have HO375 := ak_ (Kd.V_lower (Kd.V_mono (ok' := fun k_ => some k_ ≠ (v371 : Value).ownBlock ∧ k_ ≠ gb361 ∧ k_ ≠ gb362) ho0 (fun k_ hk_ => ⟨Or.elim hk_ (fun hs_ => fun e_ => Nat.not_le.2 hs_ (Kd.R_base HO_10.out k_ e_.symm)) (fun hn_ => (Kd.fresh' (Kd.R_lt HO_10.out) k_ hn_)), Or.elim hk_ (fun hs_ => fun e_ => Nat.not_le.2 hs_ (by rw [e_]; exact GW361.out)) (fun hn_ => (Kd.freshB BK361.out k_ hn_)), Or.elim hk_ (fun hs_ => fun e_ => Nat.not_le.2 hs_ (by rw [e_]; exact GW362.out)) (fun hn_ => (Kd.freshB BK362.out k_ hn_))⟩)) (below_size HB.out)); replace HO_10 := ak_ (Kd.R_below HO_10.out hb); replace BK361 := ak_ (blk_below BK361.out hb); replace BK362 := ak_ (blk_below BK362.out hb); replace HB := ak_ (below_step HB.out hb); (try clear hb); (try clear ho0))
              go_cut [] (fun wc => ∃ (kq : Nat) (x363000_44 : Int) (x363001_44 : Int) (x363002_44 : Int) (x363003_44 : Int), Aside0 (r08_Decode.j4 kq t368 t369 t373 t376 = some (r1, r2, r3, r4, r5, r6, r7)) ∧ Aside0 (kq ≤ kj36) ∧ Aside0 (Kd.R (Kd.int .u8) 5 wc w.heap.size (fun _ => True) v371 t368) ∧ Aside0 (Kd.V (Kd.int .u8) 5 wc w.heap.size (fun k_ => some k_ ≠ (v371 : Value).ownBlock ∧ k_ ≠ gb361 ∧ k_ ≠ gb362) v374 t373) ∧ Aside0 (wc.heap[gb361]? = some (.cells #[.int .i64 a0_0, .int .i64 a0_1, .int .i64 a0_2, .int .i64 a0_3, .int .i64 a0_4, .int .i64 a0_5, .int .i64 a0_6] 23 (0, 0))) ∧ Aside0 (wc.heap[gb362]? = some (.cells #[.int .i64 x363000_44, .int .i64 x363001_44, .int .i64 x363002_44, .int .i64 x363003_44] 26 (0, 0))) ∧ Aside0 (Below w.heap.size w wc))
              case first =>
               have H := HC45.out
               clear HC45
               by_cases c47 : t377 = 0
               ·rw [if_pos c47] at H
                have c47b0 := beq_iff_eq.mpr c47
                have c47b1 := bne_eq_false_iff_eq.mpr c47
                clear c47
                (first | rw [c47b0] | (simp only [i64_w, i32_w]; rw [c47b0]) | skip)
                have H' := ak_ H
                clear H
                go_wp2
                go_meet
                case rel => exact ⟨_, (x363000_36), (x363001_36), (x363002_36), (x363003_36), H', ⟨by have := HJ2.out; have := HJ16.out; have := HJ25.out; have := HJ36.out; omega⟩, ⟨HO_10.out⟩, ⟨HO375.out⟩, ⟨BK361.out⟩, ⟨BK362.out⟩, ⟨HB.out⟩⟩
               ·rw [if_neg c47] at H
                have c47b0 := beq_eq_false_iff_ne.mpr c47
                have c47b1 := bne_iff_ne.mpr c47
                (first | rw [c47b0] | (simp only [i64_w, i32_w]; rw [c47b0]) | skip)
                simp only [Option.some.injEq, Prod.mk.injEq] at H
                obtain ⟨rfl, rfl, rfl, rfl, rfl, rfl, rfl⟩ := H
                have hnb48 := NB362_361.out
                have hnc48 := NB361_362.out
                obtain ⟨hcz49_0, hcz49_1, hcz49_2, hcz49_3⟩ := cells4 BK362.out
                obtain ⟨hfz49_0, hfz49_1, hfz49_2, hfz49_3⟩ := froz4 BK362.out
                go_wp2
                refine bodyPost_ret (results_list (rs := [.tmp 4, .cell 5 26, .tmp 6, .tmp 7]) rfl (by simp) (.tmp (.cell gb362 26 #[.int .i64 0, .int .i64 0, .int .i64 0, .int .i64 0] (0, 0) _ rfl (put4 BK362.out) Try.underlying26 rfl (by kernel_rfl) (.tmp (.tmp .nil))))) rfl ?_
                exact ⟨_, by rfl, (Kd.R_nil _ _ _ _ _), by repeat (first | (with_reducible first | exact HB.out | apply below_alloc | apply pw_below_drewN | apply below_drew1 | refine below_set ?_ GE361.out | refine below_set ?_ GE362.out) | exact HB.out)⟩
              case rest =>
               clear HC45
               obtain ⟨kq, x363000_44, x363001_44, x363002_44, x363003_44, HA, HJ44, HO_10, HO_13, BK361, BK362, HB⟩ := hcut
               cases kq with
               | zero => exact absurd HA.out (by simp [r08_Decode.j4])
               | succ kj44 =>
                have H := HA.out
                clear HA
                simp only [r08_Decode.j4] at H
                by_cases c50 : ([] : List Int).length + t368.length < 140737488355328
                ·rw [if_pos c50] at H
                 have LMc50 := ak_ c50
                 clear c50
                 obtain ⟨y378, hy378⟩ : ∃ y_ : List Int, y_ = (([] : List Int) ++ t368) := ⟨_, rfl⟩
                 replace H : (if 24 ≤ (t373.length : Int) then ((some (t373.take 24 : List Int)).bind fun y381 => (if y378.length + y381.length < 140737488355328 then ((r02_Sum.f kj44 (y378 ++ y381)).bind fun t389 => ((r02_Bytes.f t389).bind fun t390 => ((r01_Same.f kj44 t390 (t373.drop 24)).bind fun t398 => (if t398 = true then (r08_Decode.j5 kj44 t368 t369 t373 t376) else (some (([] : List Int), 0, 0, 0, 0, 0, 12)))))) else (none))) else (none)) = some (r1, r2, r3, r4, r5, r6, r7) := by first | (rw [hy378]; with_reducible exact H) | (have H2_ := (Option.bind_some _ _).symm.trans H; rw [hy378]; with_reducible exact H2_) | (have H2_ := (Option.bind_some _ _).symm.trans H; with_reducible exact H2_) | with_reducible exact H | (rw [hy378]; exact H) | exact H
                 have Ny378 := ak_ hy378
                 clear hy378
                 by_cases c51 : 24 ≤ (t373.length : Int)
                 ·rw [if_pos c51] at H
                  have c51b0 := eq_true c51
                  have c51b1 := dt_ c51
                  clear c51
                  obtain ⟨y381, hy381⟩ : ∃ y_ : List Int, y_ = (t373.take 24) := ⟨_, rfl⟩
                  replace H : (if y378.length + y381.length < 140737488355328 then ((r02_Sum.f kj44 (y378 ++ y381)).bind fun t389 => ((r02_Bytes.f t389).bind fun t390 => ((r01_Same.f kj44 t390 (t373.drop 24)).bind fun t398 => (if t398 = true then (r08_Decode.j5 kj44 t368 t369 t373 t376) else (some (([] : List Int), 0, 0, 0, 0, 0, 12)))))) else (none)) = some (r1, r2, r3, r4, r5, r6, r7) := by first | (rw [hy381]; with_reducible exact H) | (have H2_ := (Option.bind_some _ _).symm.trans H; rw [hy381]; with_reducible exact H2_) | (have H2_ := (Option.bind_some _ _).symm.trans H; with_reducible exact H2_) | with_reducible exact H | (rw [hy381]; exact H) | exact H
                  have Ny381 := ak_ hy381
                  clear hy381
                  by_cases c52 : y378.length + y381.length < 140737488355328
                  ·rw [if_pos c52] at H
                   have LMc52 := ak_ c52
                   clear c52
                   obtain ⟨y386, hy386⟩ : ∃ y_ : List Int, y_ = (y378 ++ y381) := ⟨_, rfl⟩
                   replace H : ((r02_Sum.f kj44 y386).bind fun t389 => ((r02_Bytes.f t389).bind fun t390 => ((r01_Same.f kj44 t390 (t373.drop 24)).bind fun t398 => (if t398 = true then (r08_Decode.j5 kj44 t368 t369 t373 t376) else (some (([] : List Int), 0, 0, 0, 0, 0, 12)))))) = some (r1, r2, r3, r4, r5, r6, r7) := (by rw [hy386]; with_reducible exact H)
                   have Ny386 := ak_ hy386
                   clear hy386
                   obtain ⟨t389, A53, H⟩ := bs_ H
                   obtain ⟨t390, A54, H⟩ := bs_ H
                   have c55b0 := eq_true (od_ ‹_› : 24 ≤ (t373.length : Int))
                   obtain ⟨y393, hy393⟩ : ∃ y_ : List Int, y_ = (t373.drop 24) := ⟨_, rfl⟩
                   replace H : ((r01_Same.f kj44 t390 y393).bind fun t398 => (if t398 = true then (r08_Decode.j5 kj44 t368 t369 t373 t376) else (some (([] : List Int), 0, 0, 0, 0, 0, 12)))) = some (r1, r2, r3, r4, r5, r6, r7) := (by rw [hy393]; with_reducible exact H)
                   have Ny393 := ak_ hy393
                   clear hy393
                   obtain ⟨t398, A56, H⟩ := bs_ H
                   have HC57 := ak_ H
                   clear H
                   obtain ⟨Ao59, co59, eo59⟩ := Kd.R_slice HO_10.out
                   subst eo59
                   try go_wp2_with (first | ((with_reducible refine gate_builtin (b := .append) (xs := #[.tmp 67, .tmp 68]) rfl ?_); (try (refine gate_guard (by rfl) ?_; dsimp only)); at_builtin; refine Kd.R_append_rows (Kd.int .u8) (w0 := w) w.heap.size rfl (.tmp 67) (.tmp 68) 24 5 (.int .u8 0) 1 rfl Try.underlying24 info5 rfl (by decide) (by omega) (.slice none 0 0) ([] : List Int) t368 _ _ _ (fun k_ => some k_ ≠ (.slice Ao59 t368.length co59 : Value).ownBlock) (fun _ => False) rfl rfl ?aO ?aR (fun _ _ h => h) (fun _ h => h.elim) ?aF ?aB ?aS ?aL ?_; (case aR => repeat (first | exact (Kd.R_reads' HO_10.out).2.2 | (with_reducible refine Kd.C_alloc ?_ _) | (with_reducible refine Kd.C_drewN ?_ _) | (with_reducible refine Kd.C_drew ?_))); (case aB => exact HB.out); (case aF => exact (fun k_ hk => Kd.fresh' (Kd.R_lt HO_10.out) k_ hk)); (case aO => exact ((Kd.R_nil _ _ _ _ (fun k_ => some k_ ≠ (.slice Ao59 t368.length co59 : Value).ownBlock)))); (case aS => exact (below_size HB.out)); (case aL => have := LMc50.out; omega); intro v379 w58 ho hb hg hat; rw [← Ny378.out] at ho; replace HO_10 := ak_ (Kd.R_after (Kd.R_apart_nil HO_10.out) hg hat); replace HO_13 := ak_ (Kd.V_afterv (Kd.V_apart_nil HO_13.out) hg hat); replace BK361 := ak_ (blk_grown BK361.out hg (by simp [Value.ownBlock])); replace BK362 := ak_ (blk_grown BK362.out hg (by simp [Value.ownBlock])); replace HB := ak_ (hb); have HO380 := ak_ (ho); clear ho hb hg hat; obtain ⟨Ao61, co61, eo61⟩ := Kd.V_slice HO_13.out; subst eo61; have q60 : (24 : Int) ≤ ((t373.length : Int) : Int) := od_ ‹_›; obtain ⟨i060, hi060, _, hsz60, _⟩ := info_parts info5; have hroom60 : t373.length ≤ co61 := (Kd.V_reads' HO_13.out).2.1; have hC60 : Kd.F (Kd.int .u8) _ _ Ao61 t373.length t373 := (Kd.V_at (base := w.heap.size) HO_13.out).2.2; have hcut60 := cut_to (P := Try.prog) 24 5 .i64 Try.underlying24 hi060 Ao61 t373.length co61 24 (by omega) q60 hroom60; have hr60 := Kd.F_take (m := 24) hC60 (by omega); have hy60 : y381.length = (24 : Int).toNat := (by rw [Ny381.out, List.length_take]; omega); rw [← Ny381.out] at hr60; rw [← hy60] at hcut60; have HO385 := ak_ (show Kd.V (Kd.int .u8) 5 _ w.heap.size _ (.slice Ao61 y381.length co61) y381 from Kd.V_mk (by omega) hr60); have HC385 := ak_ (show y381.length ≤ co61 from by omega); clear hr60 hC60 hroom60 hi060 hsz60; have KY60 := ak_ hy60; clear hy60; replace q60 := eq_true q60) | ((with_reducible refine gate_builtin (b := .append) (xs := #[.tmp 70, .tmp 72]) rfl ?_); (try (refine gate_guard (by rfl) ?_; dsimp only)); at_builtin; refine Kd.R_append_rows (Kd.int .u8) (w0 := w) w.heap.size rfl (.tmp 70) (.tmp 72) 24 5 (.int .u8 0) 1 rfl Try.underlying24 info5 rfl (by decide) (by omega) v379 y378 y381 _ _ _ (fun k_ => some k_ ≠ (.slice Ao59 t368.length co59 : Value).ownBlock) (fun _ => False) rfl rfl ?aO ?aR (fun _ _ h => h) (fun _ h => h.elim) ?aF ?aB ?aS ?aL ?_; (case aR => repeat (first | exact (Kd.V_reads' HO385.out).2.2 | (with_reducible refine Kd.C_alloc ?_ _) | (with_reducible refine Kd.C_drewN ?_ _) | (with_reducible refine Kd.C_drew ?_))); (case aB => exact HB.out); (case aF => exact (fun k_ hk => Kd.fresh' (Kd.R_lt HO_10.out) k_ hk)); (case aO => exact HO380.out); (case aS => exact (below_size HB.out)); (case aL => have := LMc52.out; omega); intro v387 w62 ho hb hg hat; rw [← Ny386.out] at ho; have n0_ := ak_ (Kd.R_after (ok := (fun _ => True)) HO_10.out hg hat); have n1_ := ak_ (Kd.V_afterv (ok := (fun k_ => some k_ ≠ (.slice Ao59 t368.length co59 : Value).ownBlock ∧ k_ ≠ gb361 ∧ k_ ≠ gb362)) HO_13.out hg hat); have n2_ := ak_ (blk_grown BK361.out hg (Kd.R_ne HO380.out BK361.out (by decide))); have n3_ := ak_ (blk_grown BK362.out hg (Kd.R_ne HO380.out BK362.out (by decide))); have n4_ := ak_ (Kd.V_afterv (ok := (fun k_ => some k_ ≠ (.slice Ao59 t368.length co59 : Value).ownBlock ∧ k_ ≠ gb361 ∧ k_ ≠ gb362)) HO385.out hg hat); have n5_ := ak_ (hb); have n6_ := ak_ (ho); clear HO_10; clear HO_13; clear BK361; clear BK362; clear HO385; clear HB; clear HO380; have HO_10 := n0_; have HO_13 := n1_; have BK361 := n2_; have BK362 := n3_; have HO385 := n4_; have HB := n5_; have HO388 := n6_; clear n0_ n1_ n2_ n3_ n4_ n5_ n6_; clear ho hb hg hat))
                   replace HO_10 := ak_ (Kd.R_drew HO_10.out)
                   replace HO_13 := ak_ (Kd.V_drew HO_13.out)
                   replace HO385 := ak_ (Kd.V_drew HO385.out)
                   replace HO388 := ak_ (Kd.R_drew HO388.out)
                   replace BK361 := ak_ (blk_drew BK361.out)
                   replace BK362 := ak_ (blk_drew BK362.out)
                   replace HB := ak_ (below_drew1 HB.out)
                   have q64 : (24 : Int) ≤ ((t373.length : Int) : Int) := od_ ‹_›
                   obtain ⟨i064, hi064, _, hsz64, _⟩ := info_parts info5
                   have hroom64 : t373.length ≤ co61 := (Kd.V_reads' HO_13.out).2.1
                   have hC64 : Kd.F (Kd.int .u8) _ _ Ao61 t373.length t373 := (Kd.V_at (base := w.heap.size) HO_13.out).2.2
                   have hcut64 := cut_from (P := Try.prog) 24 5 .i64 Try.underlying24 hi064 1 hsz64 Ao61 t373.length co61 24 (by omega) q64
                   have hr64 := Kd.F_cut (m := (24 : Int).toNat) (c := co61) hC64 (by omega) hroom64
                   obtain ⟨A64, hA64⟩ : ∃ A1, A1 = (if co61 = (24 : Int).toNat then Ao61 else (Ao61 : Option Addr).map (·.add ((24 : Int).toNat * 1))) := ⟨_, rfl⟩
                   obtain ⟨c64, hc64⟩ : ∃ c1, c1 = co61 - (24 : Int).toNat := ⟨_, rfl⟩
                   have hy64 : y393.length = t373.length - (24 : Int).toNat := (by rw [Ny393.out, List.length_drop] <;> omega)
                   rw [show (t373).drop (24 : Int).toNat = y393 from Ny393.out.symm] at hr64
                   replace hr64 : Kd.F (Kd.int .u8) _ _ A64 y393.length y393 := (by rw [hA64]; exact hr64)
                   rw [← hy64, ← hA64, ← hc64] at hcut64
                   have HO397 := ak_ (show Kd.V (Kd.int .u8) 5 _ w.heap.size _ (.slice A64 y393.length c64) y393 from Kd.V_mk (by rw [hy64, hc64]; exact Nat.sub_le_sub_right hroom64 _) hr64)
                   have HC397 := ak_ (show y393.length ≤ c64 from by rw [hy64, hc64]; exact Nat.sub_le_sub_right hroom64 _)
                   clear hr64 hC64 hroom64 hi064 hsz64 hc64
                   have KY64 := ak_ hy64
                   have KA64 := ak_ hA64
                   clear hy64 hA64
                   replace q64 := eq_true q64
                   obtain ⟨Ao65, co65, eo65⟩ := Kd.R_slice HO388.out
                   (subst eo65)
                   refine start_ (n := 7) (S := fun w' => True) (ds := []) #[false, false, false, false, false, false, false] (by kernel_rfl) rfl rfl trivial (fun hHeld => ?_)
                   generalize w62.drew = w63 at HO_10 HO_13 HO385 HO388 BK361 BK362 HB HO397 hHeld ⊢
                   refine pv 0 (some 74) #[true, false, false, false, false, false, false] rfl rfl ?_
                   refine pv 3 (some 77) #[true, false, false, true, false, false, false] rfl rfl ?_
                   refine pv 4 (some 78) #[true, false, false, true, true, false, false] rfl rfl ?_
                   refine one_ (i := 1) (N := some 75) #[true, true, false, true, true, false, false] rfl rfl (by kernel_rfl) (by decide) (fun K hK => ?_)
                   refine goes_ Try.func48 (by kernel_rfl) rfl #[.slice Ao65 y386.length co65] (by rfl) rfl rfl (by (try simp only [List.map_toArray, List.map_cons, List.map_nil]); first | done | rfl | (simp only [List.length_drop, List.length_take]; rfl)) ?_
                   with_reducible refine (r02_Sum.calls kj44 _ _ y386 t389 _ ?side1 ?side2 A53.out).mono ?_
                   (case side1 => exact (Kd.R_reads' HO388.out).2.2)
                   (case side2 => exact (Kd.R_reads' HO388.out).2.1)
                   rintro e w66 ⟨rfl, hb⟩
                   refine ⟨_, rfl, ?_⟩
                   replace HO_10 := ak_ (Kd.R_below HO_10.out hb)
                   replace HO_13 := ak_ (Kd.V_below HO_13.out hb)
                   replace HO385 := ak_ (Kd.V_below HO385.out hb)
                   replace HO388 := ak_ (Kd.R_below HO388.out hb)
                   replace HO397 := ak_ (Kd.V_below HO397.out hb)
                   replace BK361 := ak_ (blk_below BK361.out hb)
                   replace BK362 := ak_ (blk_below BK362.out hb)
                   replace HB := ak_ (below_step HB.out hb)
                   (try clear hb)
                   refine hK.out _ _ trivial (fun hHeld => ?_)
                   clear hK K
                   refine norm_ (a' := ?_) ?_ ?_
                   rotate_left
                   ·show Act.put _ (some 75) _ = _
                    simp only [Act.put, sb_, sz_, su_, i64_w, i32_w]
                    rfl
                   refine one_ (i := 2) (N := some 76) #[true, true, true, true, true, false, false] rfl rfl (by kernel_rfl) (by decide) (fun K hK => ?_)
                   refine goes_ Try.func47 (by kernel_rfl) rfl #[.int .u32 t389] (by rfl) rfl rfl (by (try simp only [List.map_toArray, List.map_cons, List.map_nil]); first | done | rfl | (simp only [List.length_drop, List.length_take]; rfl)) ?_
                   with_reducible refine (r02_Bytes.calls t389 t390 _ A54.out).mono ?_
                   rintro e w67 ⟨v391, rfl, ho0, hb⟩
                   refine ⟨_, rfl, ?_⟩
                   replace HO_13 := ak_ (Kd.V_elder' HO_13.out (Kd.R_base ho0) hb)
                   replace HO385 := ak_ (Kd.V_elder' HO385.out (Kd.R_base ho0) hb)
                   replace HO397 := ak_ (Kd.V_elder' HO397.out (Kd.R_base ho0) hb)
                   have HO392 := ak_ (Kd.R_lower (Kd.R_new' (Kd.R_new' ho0 (Kd.R_lt HO_10.out)) (Kd.R_lt HO388.out)) (below_size HB.out))
                   replace HO_10 := ak_ (Kd.R_elder' HO_10.out (Kd.R_base ho0) hb)
                   replace HO388 := ak_ (Kd.R_elder' HO388.out (Kd.R_base ho0) hb)
                   replace BK361 := ak_ (blk_below BK361.out hb)
                   replace BK362 := ak_ (blk_below BK362.out hb)
                   replace HB := ak_ (below_step HB.out hb)
                   (try clear hb)
                   (try clear ho0)
                   obtain ⟨Ao68, co68, eo68⟩ := Kd.R_slice HO392.out
                   (subst eo68)
                   refine hK.out _ _ trivial (fun hHeld => ?_)
                   clear hK K
                   refine norm_ (a' := ?_) ?_ ?_
                   rotate_left
                   ·show Act.put _ (some 76) _ = _
                    simp only [Act.put, sb_, sz_, su_, i64_w, i32_w]
                    rfl
                   refine one_ (i := 5) (N := some 79) #[true, true, true, true, true, true, false] rfl rfl (by kernel_rfl) (by decide) (fun K hK => ?_)
                   refine goes_ Try.func20 (by kernel_rfl) rfl #[.slice Ao68 t390.length co68, .slice A64 y393.length c64] (by rfl) rfl rfl (by (try simp only [List.map_toArray, List.map_cons, List.map_nil]); first | done | rfl | (simp only [List.length_drop, List.length_take]; rfl)) ?_
                   with_reducible refine (r01_Same.calls kj44 _ _ t390 _ _ y393 t398 _ ?side1 ?side2 ?side3 ?side4 A56.out).mono ?_
                   (case side1 => exact (Kd.R_reads' HO392.out).2.2)
                   (case side2 => exact (Kd.R_reads' HO392.out).2.1)
                   (case side3 => exact (Kd.V_reads' HO397.out).2.2)
                   (case side4 => exact (Kd.V_reads' HO397.out).2.1)
                   rintro e w' ⟨rfl, ⟨nd, rfl⟩⟩
                   refine ⟨_, rfl, ?_⟩
                   refine hK.out _ _ trivial (fun hHeld => ?_)
                   clear hK K
                   refine norm_ (a' := ?_) ?_ ?_
                   rotate_left
                   ·show Act.put _ (some 79) _ = _
                    simp only [Act.put, sb_, sz_, su_, i64_w, i32_w]
                    rfl
                   refine pv 6 (some 80) #[true, true, true, true, true, true, true] rfl rfl ?_
                   refine done_ (by kernel_rfl) ?_
                   go_upto_if 80 with (fail)
                   go_cut [] (fun wc => ∃ (kq : Nat) (x363000_56 : Int) (x363001_56 : Int) (x363002_56 : Int) (x363003_56 : Int), Aside0 (r08_Decode.j5 kq t368 t369 t373 t376 = some (r1, r2, r3, r4, r5, r6, r7)) ∧ Aside0 (kq ≤ kj44) ∧ Aside0 (Kd.R (Kd.int .u8) 5 wc w.heap.size (fun _ => True) (.slice Ao59 t368.length co59) t368) ∧ Aside0 (Kd.V (Kd.int .u8) 5 wc w.heap.size (fun k_ => some k_ ≠ ((.slice Ao59 t368.length co59) : Value).ownBlock ∧ k_ ≠ gb361 ∧ k_ ≠ gb362) (.slice Ao61 t373.length co61) t373) ∧ Aside0 (wc.heap[gb361]? = some (.cells #[.int .i64 a0_0, .int .i64 a0_1, .int .i64 a0_2, .int .i64 a0_3, .int .i64 a0_4, .int .i64 a0_5, .int .i64 a0_6] 23 (0, 0))) ∧ Aside0 (wc.heap[gb362]? = some (.cells #[.int .i64 x363000_56, .int .i64 x363001_56, .int .i64 x363002_56, .int .i64 x363003_56] 26 (0, 0))) ∧ Aside0 (Below w.heap.size w wc))
                   case first =>
                    have H := HC57.out
                    clear HC57
                    by_cases c69 : t398 = true
                    ·subst c69
                     rw [if_pos rfl] at H
                     have H' := ak_ H
                     clear H
                     go_wp2
                     go_meet
                     case rel => exact ⟨_, (x363000_44), (x363001_44), (x363002_44), (x363003_44), H', ⟨by have := HJ2.out; have := HJ16.out; have := HJ25.out; have := HJ36.out; have := HJ44.out; omega⟩, ⟨by (with_reducible repeat (first | apply Kd.R_alloc | apply Kd.R_drewN | apply Kd.R_drew)); exact Kd.R_mono HO_10.out (fun _ hk => trivial)⟩, ⟨by (with_reducible repeat (first | apply Kd.V_alloc | apply Kd.V_drewN | apply Kd.V_drew)); exact Kd.V_mono HO_13.out (fun _ hk => ⟨hk.1.1.1, ⟨hk.1.1.2.1, hk.1.1.2.2⟩⟩)⟩, ⟨by (with_reducible repeat (first | apply blk_drewN | apply blk_drew | apply blk_alloc)); exact BK361.out⟩, ⟨by (with_reducible repeat (first | apply blk_drewN | apply blk_drew | apply blk_alloc)); exact BK362.out⟩, ⟨by repeat (first | (with_reducible first | exact HB.out | apply below_alloc | apply pw_below_drewN | apply below_drew1 | refine below_set ?_ GE361.out | refine below_set ?_ GE362.out) | exact HB.out)⟩⟩
                    ·replace c69 := Bool.eq_false_iff.mpr c69
                     subst c69
                     rw [if_neg (show ¬ (false = true) by decide)] at H
                     simp only [Option.some.injEq, Prod.mk.injEq] at H
                     obtain ⟨rfl, rfl, rfl, rfl, rfl, rfl, rfl⟩ := H
                     have hnb70 := NB362_361.out
                     have hnc70 := NB361_362.out
                     obtain ⟨hcz71_0, hcz71_1, hcz71_2, hcz71_3⟩ := cells4 BK362.out
                     obtain ⟨hfz71_0, hfz71_1, hfz71_2, hfz71_3⟩ := froz4 BK362.out
                     go_wp2
                     refine bodyPost_ret (results_list (rs := [.tmp 4, .cell 5 26, .tmp 6, .tmp 7]) rfl (by simp) (.tmp (.cell gb362 26 #[.int .i64 0, .int .i64 0, .int .i64 0, .int .i64 0] (0, 0) _ rfl (by (with_reducible repeat (first | apply blk_drewN | apply blk_drew | apply blk_alloc)); refine blk_put (cs := #[.int .i64 0, .int .i64 0, .int .i64 0, .int .i64 x363003_44]) ?_ 3 _ rfl; (with_reducible repeat (first | apply blk_drewN | apply blk_drew | apply blk_alloc)); refine blk_put (cs := #[.int .i64 0, .int .i64 0, .int .i64 x363002_44, .int .i64 x363003_44]) ?_ 2 _ rfl; (with_reducible repeat (first | apply blk_drewN | apply blk_drew | apply blk_alloc)); refine blk_put (cs := #[.int .i64 0, .int .i64 x363001_44, .int .i64 x363002_44, .int .i64 x363003_44]) ?_ 1 _ rfl; (with_reducible repeat (first | apply blk_drewN | apply blk_drew | apply blk_alloc)); refine blk_put (cs := #[.int .i64 x363000_44, .int .i64 x363001_44, .int .i64 x363002_44, .int .i64 x363003_44]) ?_ 0 _ rfl; (with_reducible repeat (first | apply blk_drewN | apply blk_drew | apply blk_alloc)); exact BK362.out) Try.underlying26 rfl (by kernel_rfl) (.tmp (.tmp .nil))))) rfl ?_
                     exact ⟨_, by rfl, (Kd.R_nil _ _ _ _ _), by repeat (first | (with_reducible first | exact HB.out | apply below_alloc | apply pw_below_drewN | apply below_drew1 | refine below_set ?_ GE361.out | refine below_set ?_ GE362.out) | exact HB.out)⟩
                   case rest =>
                    clear HC57 c51b0 c51b1 c55b0 q60 q64
                    obtain ⟨kq, x363000_56, x363001_56, x363002_56, x363003_56, HA, HJ56, HO_10, HO_13, BK361, BK362, HB⟩ := hcut
                    cases kq with
                    | zero => exact absurd HA.out (by simp [r08_Decode.j5])
                    | succ kj56 =>
                     have H := HA.out
                     clear HA
                     simp only [r08_Decode.j5] at H
                     by_cases c72 : 24 ≤ (t373.length : Int)
                     ·rw [if_pos c72] at H
                      have c72b0 := eq_true c72
                      have c72b1 := dt_ c72
                      clear c72
                      have hy399 : y381 = (t373.take 24) := Ny381.out
                      replace H : ((r07_Take.f kj56 y381).bind fun bt404 => (if bt404.2.2.2.2 = 0 then (if (wrap64 (t369 + t376)) > 0 then (some (t368, bt404.1, bt404.2.1, bt404.2.2.1, bt404.2.2.2.1, 1, 0)) else (some (t368, bt404.1, bt404.2.1, bt404.2.2.1, bt404.2.2.2.1, 0, 0))) else (some (([] : List Int), 0, 0, 0, 0, 0, bt404.2.2.2.2)))) = some (r1, r2, r3, r4, r5, r6, r7) := (by rw [hy399]; with_reducible exact H)
                      have Ny399 := ak_ hy399
                      clear hy399
                      obtain ⟨⟨t404, t405, t406, t407, t408⟩, A73, H⟩ := bs_ H
                      try dsimp only at H
                      by_cases c74 : t408 = 0
                      ·rw [if_pos c74] at H
                       have c74b0 := beq_iff_eq.mpr c74
                       have c74b1 := bne_eq_false_iff_eq.mpr c74
                       clear c74
                       by_cases c75 : (wrap64 (t369 + t376)) > 0
                       ·rw [if_pos c75] at H
                        have c75b0 : decide (0 < (wrap64 (t369 + t376))) = true := dt_ c75
                        clear c75
                        simp only [Option.some.injEq, Prod.mk.injEq] at H
                        obtain ⟨rfl, rfl, rfl, rfl, rfl, rfl, rfl⟩ := H
                        have q76 : (24 : Int) ≤ ((t373.length : Int) : Int) := od_ ‹_›
                        obtain ⟨i076, hi076, _, hsz76, _⟩ := info_parts info5
                        have hroom76 : t373.length ≤ co61 := (Kd.V_reads' HO_13.out).2.1
                        have hC76 : Kd.F (Kd.int .u8) _ _ Ao61 t373.length t373 := (Kd.V_at (base := w.heap.size) HO_13.out).2.2
                        have hcut76 := cut_to (P := Try.prog) 24 5 .i64 Try.underlying24 hi076 Ao61 t373.length co61 24 (by omega) q76 hroom76
                        have hr76 := Kd.F_take (m := 24) hC76 (by omega)
                        have hy76 : y381.length = (24 : Int).toNat := (by rw [Ny399.out, List.length_take]; omega)
                        rw [← Ny399.out] at hr76
                        rw [← hy76] at hcut76
                        have HO403 := ak_ (show Kd.V (Kd.int .u8) 5 _ w.heap.size _ (.slice Ao61 y381.length co61) y381 from Kd.V_mk (by omega) hr76)
                        have HC403 := ak_ (show y381.length ≤ co61 from by omega)
                        clear hr76 hC76 hroom76 hi076 hsz76
                        have KY76 := ak_ hy76
                        clear hy76
                        replace q76 := eq_true q76
                        try go_wp2_with (first | ((with_reducible refine gate_callee (f := 55) rfl ?_); refine goesL_ (some 85) rfl rfl Try.func55 (by kernel_rfl) rfl #[.slice Ao61 y381.length co61] rfl (by (try simp only [List.map_toArray, List.map_cons, List.map_nil]); first | done | rfl | (simp only [List.length_drop, List.length_take]; rfl)) ?_; (with_reducible refine (r07_Take.calls kj56 _ _ y381 t404 t405 t406 t407 t408 _ ?side1 ?side2 A73.out).mono ?_); (case side1 => exact (Kd.V_reads' HO403.out).2.2); (case side2 => exact (Kd.V_reads' HO403.out).2.1); rintro e w77 ⟨rfl, hb⟩; refine ⟨_, rfl, ?_⟩; replace HO_10 := ak_ (Kd.R_below HO_10.out hb); replace HO_13 := ak_ (Kd.V_below HO_13.out hb); replace HO403 := ak_ (Kd.V_below HO403.out hb); replace BK361 := ak_ (blk_below BK361.out hb); replace BK362 := ak_ (blk_below BK362.out hb); replace HB := ak_ (below_step HB.out hb); (try clear hb)) | ((with_reducible refine gate_dst (N := 16) rfl ?_); (try (refine gate_guard (by rfl) ?_; dsimp only)); refine box_event ?hg (N := 16) ?hd (cs := #[.int .i64 0, .int .i64 0, .int .i64 0, .int .i64 0]) (t := 26) ?hr ?_; (case hd => rfl); (case hg => rfl); (case hr => (go_simp; done)); intro gb409 hg w78 hbox hb; replace HO_10 := ak_ (Kd.R_below HO_10.out hb); replace HO_13 := ak_ (Kd.V_below (Kd.V_elderB HO_13.out gb409 (Nat.le_of_eq hg.symm)) hb); replace HO403 := ak_ (Kd.V_below (Kd.V_elderB HO403.out gb409 (Nat.le_of_eq hg.symm)) hb); have BK409 := ak_ (hbox); have GW409 := ak_ (gw_ hg (below_size HB.out)); have GE409 := ak_ (gw_ hg (below_size HB.out)); replace HB := ak_ (below_step HB.out hb); have NB361_409 := ak_ ((by rw [hg]; exact Nat.ne_of_lt (blk_lt BK361.out) : gb361 ≠ gb409)); have NB409_361 := ak_ ((by rw [hg]; exact Nat.ne_of_gt (blk_lt BK361.out) : gb409 ≠ gb361)); replace BK361 := ak_ (blk_below BK361.out hb); have NB362_409 := ak_ ((by rw [hg]; exact Nat.ne_of_lt (blk_lt BK362.out) : gb362 ≠ gb409)); have NB409_362 := ak_ ((by rw [hg]; exact Nat.ne_of_gt (blk_lt BK362.out) : gb409 ≠ gb362)); replace BK362 := ak_ (blk_below BK362.out hb); clear hb hbox hg; have hnb79 := NB409_361.out; have hnc79 := NB361_409.out; have hnb80 := NB409_362.out; have hnc80 := NB362_409.out; obtain ⟨hcz81_0, hcz81_1, hcz81_2, hcz81_3⟩ := cells4 BK409.out; obtain ⟨hfz81_0, hfz81_1, hfz81_2, hfz81_3⟩ := froz4 BK409.out))
                        have n0_ : Aside0 (Kd.R (Kd.int .u8) 5 ((((w78.setCell ⟨gb409, 0, none⟩ (.int .i64 t404)).setCell ⟨gb409, 1, none⟩ (.int .i64 t405)).setCell ⟨gb409, 2, none⟩ (.int .i64 t406)).setCell ⟨gb409, 3, none⟩ (.int .i64 t407)) w.heap.size (fun _ => True) (.slice Ao59 t368.length co59) t368) := ⟨(Kd.R_mono (Kd.R_far (p := ⟨gb409, 3, none⟩) (Kd.R_far (p := ⟨gb409, 2, none⟩) (Kd.R_far (p := ⟨gb409, 1, none⟩) (Kd.R_far (p := ⟨gb409, 0, none⟩) (Kd.R_types HO_10.out BK409.out (by decide)) (fun _ hk => hk.2) (.int .i64 t404)) (fun _ hk => hk.2) (.int .i64 t405)) (fun _ hk => hk.2) (.int .i64 t406)) (fun _ hk => hk.2) (.int .i64 t407)) (fun _ hk => trivial))⟩
                        have n1_ : Aside0 (Kd.V (Kd.int .u8) 5 ((((w78.setCell ⟨gb409, 0, none⟩ (.int .i64 t404)).setCell ⟨gb409, 1, none⟩ (.int .i64 t405)).setCell ⟨gb409, 2, none⟩ (.int .i64 t406)).setCell ⟨gb409, 3, none⟩ (.int .i64 t407)) w.heap.size (fun k_ => some k_ ≠ (.slice Ao59 t368.length co59 : Value).ownBlock ∧ k_ ≠ gb361 ∧ k_ ≠ gb362 ∧ k_ ≠ gb409) (.slice Ao61 t373.length co61) t373) := ⟨(Kd.V_mono (Kd.V_far (p := ⟨gb409, 3, none⟩) (Kd.V_far (p := ⟨gb409, 2, none⟩) (Kd.V_far (p := ⟨gb409, 1, none⟩) (Kd.V_far (p := ⟨gb409, 0, none⟩) (Kd.V_mono HO_13.out (fun k_ hk => (⟨hk, hk.2⟩ : _ ∧ k_ ≠ gb409))) (fun _ hk => hk.2) (.int .i64 t404)) (fun _ hk => hk.2) (.int .i64 t405)) (fun _ hk => hk.2) (.int .i64 t406)) (fun _ hk => hk.2) (.int .i64 t407)) (fun _ hk => ⟨hk.1.1.1, ⟨hk.1.1.2.1, ⟨hk.1.1.2.2, hk.1.2⟩⟩⟩))⟩
                        have n2_ : Aside0 (Kd.V (Kd.int .u8) 5 ((((w78.setCell ⟨gb409, 0, none⟩ (.int .i64 t404)).setCell ⟨gb409, 1, none⟩ (.int .i64 t405)).setCell ⟨gb409, 2, none⟩ (.int .i64 t406)).setCell ⟨gb409, 3, none⟩ (.int .i64 t407)) w.heap.size (fun k_ => some k_ ≠ (.slice Ao59 t368.length co59 : Value).ownBlock ∧ k_ ≠ gb361 ∧ k_ ≠ gb362 ∧ k_ ≠ gb409) (.slice Ao61 y381.length co61) y381) := ⟨(Kd.V_mono (Kd.V_far (p := ⟨gb409, 3, none⟩) (Kd.V_far (p := ⟨gb409, 2, none⟩) (Kd.V_far (p := ⟨gb409, 1, none⟩) (Kd.V_far (p := ⟨gb409, 0, none⟩) (Kd.V_mono HO403.out (fun k_ hk => (⟨hk, hk.2⟩ : _ ∧ k_ ≠ gb409))) (fun _ hk => hk.2) (.int .i64 t404)) (fun _ hk => hk.2) (.int .i64 t405)) (fun _ hk => hk.2) (.int .i64 t406)) (fun _ hk => hk.2) (.int .i64 t407)) (fun _ hk => ⟨hk.1.1.1, ⟨hk.1.1.2.1, ⟨hk.1.1.2.2, hk.1.2⟩⟩⟩))⟩
                        have n3_ : Aside0 (((((w78.setCell ⟨gb409, 0, none⟩ (.int .i64 t404)).setCell ⟨gb409, 1, none⟩ (.int .i64 t405)).setCell ⟨gb409, 2, none⟩ (.int .i64 t406)).setCell ⟨gb409, 3, none⟩ (.int .i64 t407)).heap[gb361]? = some (.cells #[.int .i64 a0_0, .int .i64 a0_1, .int .i64 a0_2, .int .i64 a0_3, .int .i64 a0_4, .int .i64 a0_5, .int .i64 a0_6] 23 (0, 0))) := ⟨(far4 BK361.out NB361_409.out)⟩
                        have n4_ : Aside0 (((((w78.setCell ⟨gb409, 0, none⟩ (.int .i64 t404)).setCell ⟨gb409, 1, none⟩ (.int .i64 t405)).setCell ⟨gb409, 2, none⟩ (.int .i64 t406)).setCell ⟨gb409, 3, none⟩ (.int .i64 t407)).heap[gb362]? = some (.cells #[.int .i64 x363000_56, .int .i64 x363001_56, .int .i64 x363002_56, .int .i64 x363003_56] 26 (0, 0))) := ⟨(far4 BK362.out NB362_409.out)⟩
                        have n5_ : Aside0 (((((w78.setCell ⟨gb409, 0, none⟩ (.int .i64 t404)).setCell ⟨gb409, 1, none⟩ (.int .i64 t405)).setCell ⟨gb409, 2, none⟩ (.int .i64 t406)).setCell ⟨gb409, 3, none⟩ (.int .i64 t407)).heap[gb409]? = some (.cells #[.int .i64 t404, .int .i64 t405, .int .i64 t406, .int .i64 t407] 26 (0, 0))) := ⟨(put4 BK409.out)⟩
                        have n6_ : Aside0 (Below w.heap.size w ((((w78.setCell ⟨gb409, 0, none⟩ (.int .i64 t404)).setCell ⟨gb409, 1, none⟩ (.int .i64 t405)).setCell ⟨gb409, 2, none⟩ (.int .i64 t406)).setCell ⟨gb409, 3, none⟩ (.int .i64 t407))) := ⟨by repeat (first | (with_reducible first | exact HB.out | apply below_alloc | apply pw_below_drewN | apply below_drew1 | refine below_set ?_ GE361.out | refine below_set ?_ GE362.out | refine below_set ?_ GE409.out) | exact HB.out)⟩
                        (try clear HO_10)
                        (try clear HO_13)
                        (try clear HO403)
                        (try clear BK361)
                        (try clear BK362)
                        (try clear BK409)
                        (try clear HB)
                        generalize ((((w78.setCell ⟨gb409, 0, none⟩ (.int .i64 t404)).setCell ⟨gb409, 1, none⟩ (.int .i64 t405)).setCell ⟨gb409, 2, none⟩ (.int .i64 t406)).setCell ⟨gb409, 3, none⟩ (.int .i64 t407)) = w82 at n0_ n1_ n2_ n3_ n4_ n5_ n6_ ⊢
                        have HO_10 := n0_
                        have HO_13 := n1_
                        have HO403 := n2_
                        have BK361 := n3_
                        have BK362 := n4_
                        have BK409 := n5_
                        have HB := n6_
                        clear n0_ n1_ n2_ n3_ n4_ n5_ n6_
                        replace HO_10 := ak_ (Kd.R_drew HO_10.out)
                        replace HO_13 := ak_ (Kd.V_drew HO_13.out)
                        replace HO403 := ak_ (Kd.V_drew HO403.out)
                        replace BK361 := ak_ (blk_drew BK361.out)
                        replace BK362 := ak_ (blk_drew BK362.out)
                        replace BK409 := ak_ (blk_drew BK409.out)
                        replace HB := ak_ (below_drew1 HB.out)
                        refine start_ (n := 6) (S := fun w' => w'.cell? ⟨gb409, 0, none⟩ = some (.int .i64 t404) ∧ w'.cell? ⟨gb409, 1, none⟩ = some (.int .i64 t405) ∧ w'.cell? ⟨gb409, 2, none⟩ = some (.int .i64 t406) ∧ w'.cell? ⟨gb409, 3, none⟩ = some (.int .i64 t407)) (ds := []) #[false, false, false, false, false, false] (by kernel_rfl) rfl rfl ⟨(bc_ BK409.out 0).trans rfl, (bc_ BK409.out 1).trans rfl, (bc_ BK409.out 2).trans rfl, (bc_ BK409.out 3).trans rfl⟩ (fun hHeld => ?_)
                        generalize w82.drew = w83 at HO_10 HO_13 HO403 BK361 BK362 BK409 HB hHeld ⊢
                        refine pv 0 (some 96) #[true, false, false, false, false, false] rfl rfl ?_
                        refine pv 2 (some 4) #[true, false, true, false, false, false] rfl rfl ?_
                        refine take_ (i := 1) (N := some 97) (v := ?_) (a' := ?_) #[true, true, true, false, false, false] rfl rfl (by kernel_rfl) (fun _ _ _ h => h) (Or.inl ⟨by rfl, ?_⟩) hHeld ?_ ?_
                        rotate_left
                        ·rintro w' ⟨s0, s1, s2, s3⟩
                         go_simp
                         with_reducible rfl
                        rotate_left
                        ·simp only [Act.put, sb_, sz_, su_, i64_w, i32_w]
                         rfl
                        refine one_ (i := 3) (N := none) #[true, true, true, true, false, false] rfl rfl (by kernel_rfl) (by decide) (fun K hK => ?_)
                        have hs84 : w83.cell? ⟨gb362, 0, none⟩ = some (.int .i64 x363000_56) := (bc_ BK362.out 0).trans rfl
                        have hfs84 := bf_ BK362.out 0
                        have hns84_0 := NB361_362.out
                        have hns84_2 := NB409_362.out
                        have hms84_0 := NB362_361.out
                        have hms84_2 := NB362_409.out
                        have hs85 : w83.cell? ⟨gb362, 1, none⟩ = some (.int .i64 x363001_56) := (bc_ BK362.out 1).trans rfl
                        have hfs85 := bf_ BK362.out 1
                        have hns85_0 := NB361_362.out
                        have hns85_2 := NB409_362.out
                        have hms85_0 := NB362_361.out
                        have hms85_2 := NB362_409.out
                        have hs86 : w83.cell? ⟨gb362, 2, none⟩ = some (.int .i64 x363002_56) := (bc_ BK362.out 2).trans rfl
                        have hfs86 := bf_ BK362.out 2
                        have hns86_0 := NB361_362.out
                        have hns86_2 := NB409_362.out
                        have hms86_0 := NB362_361.out
                        have hms86_2 := NB362_409.out
                        have hs87 : w83.cell? ⟨gb362, 3, none⟩ = some (.int .i64 x363003_56) := (bc_ BK362.out 3).trans rfl
                        have hfs87 := bf_ BK362.out 3
                        have hns87_0 := NB361_362.out
                        have hns87_2 := NB409_362.out
                        have hms87_0 := NB362_361.out
                        have hms87_2 := NB362_409.out
                        refine skip_ (w1 := ?_) (by rfl) rfl ?_ ?_
                        rotate_left
                        ·go_simp
                         rfl
                        refine hK.out _ _ ⟨((cell_far (p := ⟨gb362, _, none⟩) NB409_362.out _).trans (((cell_far (p := ⟨gb362, _, none⟩) NB409_362.out _).trans (((cell_far (p := ⟨gb362, _, none⟩) NB409_362.out _).trans (((cell_far (p := ⟨gb362, _, none⟩) NB409_362.out _).trans (hHeld.1)))))))), ((cell_far (p := ⟨gb362, _, none⟩) NB409_362.out _).trans (((cell_far (p := ⟨gb362, _, none⟩) NB409_362.out _).trans (((cell_far (p := ⟨gb362, _, none⟩) NB409_362.out _).trans (((cell_far (p := ⟨gb362, _, none⟩) NB409_362.out _).trans (hHeld.2.1)))))))), ((cell_far (p := ⟨gb362, _, none⟩) NB409_362.out _).trans (((cell_far (p := ⟨gb362, _, none⟩) NB409_362.out _).trans (((cell_far (p := ⟨gb362, _, none⟩) NB409_362.out _).trans (((cell_far (p := ⟨gb362, _, none⟩) NB409_362.out _).trans (hHeld.2.2.1)))))))), ((cell_far (p := ⟨gb362, _, none⟩) NB409_362.out _).trans (((cell_far (p := ⟨gb362, _, none⟩) NB409_362.out _).trans (((cell_far (p := ⟨gb362, _, none⟩) NB409_362.out _).trans (((cell_far (p := ⟨gb362, _, none⟩) NB409_362.out _).trans (hHeld.2.2.2))))))))⟩ (fun hHeld => ?_)
                        clear hK K
                        refine pv 4 (some 6) #[true, true, true, true, true, false] rfl rfl ?_
                        refine pv 5 (some 7) #[true, true, true, true, true, true] rfl rfl ?_
                        refine done_ (by kernel_rfl) ?_
                        try go_wp2
                        refine bodyPost_ret (results_list (rs := [.tmp 4, .cell 5 26, .tmp 6, .tmp 7]) rfl (by simp) (.tmp (.cell gb362 26 #[.int .i64 t404, .int .i64 t405, .int .i64 t406, .int .i64 t407] (0, 0) _ rfl (put4 BK362.out) Try.underlying26 rfl (by kernel_rfl) (.tmp (.tmp .nil))))) rfl ?_
                        exact ⟨_, by rfl, (Kd.R_mono (Kd.R_far (p := ⟨gb362, 3, none⟩) (Kd.R_far (p := ⟨gb362, 2, none⟩) (Kd.R_far (p := ⟨gb362, 1, none⟩) (Kd.R_far (p := ⟨gb362, 0, none⟩) (Kd.R_types HO_10.out BK362.out (by decide)) (fun _ hk => hk.2) (.int .i64 t404)) (fun _ hk => hk.2) (.int .i64 t405)) (fun _ hk => hk.2) (.int .i64 t406)) (fun _ hk => hk.2) (.int .i64 t407)) (fun _ hk => trivial)), by repeat (first | (with_reducible first | exact HB.out | apply below_alloc | apply pw_below_drewN | apply below_drew1 | refine below_set ?_ GE361.out | refine below_set ?_ GE362.out | refine below_set ?_ GE409.out) | exact HB.out)⟩
                       ·rw [if_neg c75] at H
                        have c75b0 : decide (0 < (wrap64 (t369 + t376))) = false := df_ c75
                        clear c75
                        simp only [Option.some.injEq, Prod.mk.injEq] at H
                        obtain ⟨rfl, rfl, rfl, rfl, rfl, rfl, rfl⟩ := H
                        have q88 : (24 : Int) ≤ ((t373.length : Int) : Int) := od_ ‹_›
                        obtain ⟨i088, hi088, _, hsz88, _⟩ := info_parts info5
                        have hroom88 : t373.length ≤ co61 := (Kd.V_reads' HO_13.out).2.1
                        have hC88 : Kd.F (Kd.int .u8) _ _ Ao61 t373.length t373 := (Kd.V_at (base := w.heap.size) HO_13.out).2.2
                        have hcut88 := cut_to (P := Try.prog) 24 5 .i64 Try.underlying24 hi088 Ao61 t373.length co61 24 (by omega) q88 hroom88
                        have hr88 := Kd.F_take (m := 24) hC88 (by omega)
                        have hy88 : y381.length = (24 : Int).toNat := (by rw [Ny399.out, List.length_take]; omega)
                        rw [← Ny399.out] at hr88
                        rw [← hy88] at hcut88
                        have HO403 := ak_ (show Kd.V (Kd.int .u8) 5 _ w.heap.size _ (.slice Ao61 y381.length co61) y381 from Kd.V_mk (by omega) hr88)
                        have HC403 := ak_ (show y381.length ≤ co61 from by omega)
                        clear hr88 hC88 hroom88 hi088 hsz88
                        have KY88 := ak_ hy88
                        clear hy88
                        replace q88 := eq_true q88
                        try go_wp2_with (first | ((with_reducible refine gate_callee (f := 55) rfl ?_); refine goesL_ (some 85) rfl rfl Try.func55 (by kernel_rfl) rfl #[.slice Ao61 y381.length co61] rfl (by (try simp only [List.map_toArray, List.map_cons, List.map_nil]); first | done | rfl | (simp only [List.length_drop, List.length_take]; rfl)) ?_; (with_reducible refine (r07_Take.calls kj56 _ _ y381 t404 t405 t406 t407 t408 _ ?side1 ?side2 A73.out).mono ?_); (case side1 => exact (Kd.V_reads' HO403.out).2.2); (case side2 => exact (Kd.V_reads' HO403.out).2.1); rintro e w89 ⟨rfl, hb⟩; refine ⟨_, rfl, ?_⟩; replace HO_10 := ak_ (Kd.R_below HO_10.out hb); replace HO_13 := ak_ (Kd.V_below HO_13.out hb); replace HO403 := ak_ (Kd.V_below HO403.out hb); replace BK361 := ak_ (blk_below BK361.out hb); replace BK362 := ak_ (blk_below BK362.out hb); replace HB := ak_ (below_step HB.out hb); (try clear hb)) | ((with_reducible refine gate_dst (N := 16) rfl ?_); (try (refine gate_guard (by rfl) ?_; dsimp only)); refine box_event ?hg (N := 16) ?hd (cs := #[.int .i64 0, .int .i64 0, .int .i64 0, .int .i64 0]) (t := 26) ?hr ?_; (case hd => rfl); (case hg => rfl); (case hr => (go_simp; done)); intro gb409 hg w90 hbox hb; replace HO_10 := ak_ (Kd.R_below HO_10.out hb); replace HO_13 := ak_ (Kd.V_below (Kd.V_elderB HO_13.out gb409 (Nat.le_of_eq hg.symm)) hb); replace HO403 := ak_ (Kd.V_below (Kd.V_elderB HO403.out gb409 (Nat.le_of_eq hg.symm)) hb); have BK409 := ak_ (hbox); have GW409 := ak_ (gw_ hg (below_size HB.out)); have GE409 := ak_ (gw_ hg (below_size HB.out)); replace HB := ak_ (below_step HB.out hb); have NB361_409 := ak_ ((by rw [hg]; exact Nat.ne_of_lt (blk_lt BK361.out) : gb361 ≠ gb409)); have NB409_361 := ak_ ((by rw [hg]; exact Nat.ne_of_gt (blk_lt BK361.out) : gb409 ≠ gb361)); replace BK361 := ak_ (blk_below BK361.out hb); have NB362_409 := ak_ ((by rw [hg]; exact Nat.ne_of_lt (blk_lt BK362.out) : gb362 ≠ gb409)); have NB409_362 := ak_ ((by rw [hg]; exact Nat.ne_of_gt (blk_lt BK362.out) : gb409 ≠ gb362)); replace BK362 := ak_ (blk_below BK362.out hb); clear hb hbox hg; have hnb91 := NB409_361.out; have hnc91 := NB361_409.out; have hnb92 := NB409_362.out; have hnc92 := NB362_409.out; obtain ⟨hcz93_0, hcz93_1, hcz93_2, hcz93_3⟩ := cells4 BK409.out; obtain ⟨hfz93_0, hfz93_1, hfz93_2, hfz93_3⟩ := froz4 BK409.out))
                        have n0_ : Aside0 (Kd.R (Kd.int .u8) 5 ((((w90.setCell ⟨gb409, 0, none⟩ (.int .i64 t404)).setCell ⟨gb409, 1, none⟩ (.int .i64 t405)).setCell ⟨gb409, 2, none⟩ (.int .i64 t406)).setCell ⟨gb409, 3, none⟩ (.int .i64 t407)) w.heap.size (fun _ => True) (.slice Ao59 t368.length co59) t368) := ⟨(Kd.R_mono (Kd.R_far (p := ⟨gb409, 3, none⟩) (Kd.R_far (p := ⟨gb409, 2, none⟩) (Kd.R_far (p := ⟨gb409, 1, none⟩) (Kd.R_far (p := ⟨gb409, 0, none⟩) (Kd.R_types HO_10.out BK409.out (by decide)) (fun _ hk => hk.2) (.int .i64 t404)) (fun _ hk => hk.2) (.int .i64 t405)) (fun _ hk => hk.2) (.int .i64 t406)) (fun _ hk => hk.2) (.int .i64 t407)) (fun _ hk => trivial))⟩
                        have n1_ : Aside0 (Kd.V (Kd.int .u8) 5 ((((w90.setCell ⟨gb409, 0, none⟩ (.int .i64 t404)).setCell ⟨gb409, 1, none⟩ (.int .i64 t405)).setCell ⟨gb409, 2, none⟩ (.int .i64 t406)).setCell ⟨gb409, 3, none⟩ (.int .i64 t407)) w.heap.size (fun k_ => some k_ ≠ (.slice Ao59 t368.length co59 : Value).ownBlock ∧ k_ ≠ gb361 ∧ k_ ≠ gb362 ∧ k_ ≠ gb409) (.slice Ao61 t373.length co61) t373) := ⟨(Kd.V_mono (Kd.V_far (p := ⟨gb409, 3, none⟩) (Kd.V_far (p := ⟨gb409, 2, none⟩) (Kd.V_far (p := ⟨gb409, 1, none⟩) (Kd.V_far (p := ⟨gb409, 0, none⟩) (Kd.V_mono HO_13.out (fun k_ hk => (⟨hk, hk.2⟩ : _ ∧ k_ ≠ gb409))) (fun _ hk => hk.2) (.int .i64 t404)) (fun _ hk => hk.2) (.int .i64 t405)) (fun _ hk => hk.2) (.int .i64 t406)) (fun _ hk => hk.2) (.int .i64 t407)) (fun _ hk => ⟨hk.1.1.1, ⟨hk.1.1.2.1, ⟨hk.1.1.2.2, hk.1.2⟩⟩⟩))⟩
                        have n2_ : Aside0 (Kd.V (Kd.int .u8) 5 ((((w90.setCell ⟨gb409, 0, none⟩ (.int .i64 t404)).setCell ⟨gb409, 1, none⟩ (.int .i64 t405)).setCell ⟨gb409, 2, none⟩ (.int .i64 t406)).setCell ⟨gb409, 3, none⟩ (.int .i64 t407)) w.heap.size (fun k_ => some k_ ≠ (.slice Ao59 t368.length co59 : Value).ownBlock ∧ k_ ≠ gb361 ∧ k_ ≠ gb362 ∧ k_ ≠ gb409) (.slice Ao61 y381.length co61) y381) := ⟨(Kd.V_mono (Kd.V_far (p := ⟨gb409, 3, none⟩) (Kd.V_far (p := ⟨gb409, 2, none⟩) (Kd.V_far (p := ⟨gb409, 1, none⟩) (Kd.V_far (p := ⟨gb409, 0, none⟩) (Kd.V_mono HO403.out (fun k_ hk => (⟨hk, hk.2⟩ : _ ∧ k_ ≠ gb409))) (fun _ hk => hk.2) (.int .i64 t404)) (fun _ hk => hk.2) (.int .i64 t405)) (fun _ hk => hk.2) (.int .i64 t406)) (fun _ hk => hk.2) (.int .i64 t407)) (fun _ hk => ⟨hk.1.1.1, ⟨hk.1.1.2.1, ⟨hk.1.1.2.2, hk.1.2⟩⟩⟩))⟩
                        have n3_ : Aside0 (((((w90.setCell ⟨gb409, 0, none⟩ (.int .i64 t404)).setCell ⟨gb409, 1, none⟩ (.int .i64 t405)).setCell ⟨gb409, 2, none⟩ (.int .i64 t406)).setCell ⟨gb409, 3, none⟩ (.int .i64 t407)).heap[gb361]? = some (.cells #[.int .i64 a0_0, .int .i64 a0_1, .int .i64 a0_2, .int .i64 a0_3, .int .i64 a0_4, .int .i64 a0_5, .int .i64 a0_6] 23 (0, 0))) := ⟨(far4 BK361.out NB361_409.out)⟩
                        have n4_ : Aside0 (((((w90.setCell ⟨gb409, 0, none⟩ (.int .i64 t404)).setCell ⟨gb409, 1, none⟩ (.int .i64 t405)).setCell ⟨gb409, 2, none⟩ (.int .i64 t406)).setCell ⟨gb409, 3, none⟩ (.int .i64 t407)).heap[gb362]? = some (.cells #[.int .i64 x363000_56, .int .i64 x363001_56, .int .i64 x363002_56, .int .i64 x363003_56] 26 (0, 0))) := ⟨(far4 BK362.out NB362_409.out)⟩
                        have n5_ : Aside0 (((((w90.setCell ⟨gb409, 0, none⟩ (.int .i64 t404)).setCell ⟨gb409, 1, none⟩ (.int .i64 t405)).setCell ⟨gb409, 2, none⟩ (.int .i64 t406)).setCell ⟨gb409, 3, none⟩ (.int .i64 t407)).heap[gb409]? = some (.cells #[.int .i64 t404, .int .i64 t405, .int .i64 t406, .int .i64 t407] 26 (0, 0))) := ⟨(put4 BK409.out)⟩
                        have n6_ : Aside0 (Below w.heap.size w ((((w90.setCell ⟨gb409, 0, none⟩ (.int .i64 t404)).setCell ⟨gb409, 1, none⟩ (.int .i64 t405)).setCell ⟨gb409, 2, none⟩ (.int .i64 t406)).setCell ⟨gb409, 3, none⟩ (.int .i64 t407))) := ⟨by repeat (first | (with_reducible first | exact HB.out | apply below_alloc | apply pw_below_drewN | apply below_drew1 | refine below_set ?_ GE361.out | refine below_set ?_ GE362.out | refine below_set ?_ GE409.out) | exact HB.out)⟩
                        (try clear HO_10)
                        (try clear HO_13)
                        (try clear HO403)
                        (try clear BK361)
                        (try clear BK362)
                        (try clear BK409)
                        (try clear HB)
                        generalize ((((w90.setCell ⟨gb409, 0, none⟩ (.int .i64 t404)).setCell ⟨gb409, 1, none⟩ (.int .i64 t405)).setCell ⟨gb409, 2, none⟩ (.int .i64 t406)).setCell ⟨gb409, 3, none⟩ (.int .i64 t407)) = w94 at n0_ n1_ n2_ n3_ n4_ n5_ n6_ ⊢
                        have HO_10 := n0_
                        have HO_13 := n1_
                        have HO403 := n2_
                        have BK361 := n3_
                        have BK362 := n4_
                        have BK409 := n5_
                        have HB := n6_
                        clear n0_ n1_ n2_ n3_ n4_ n5_ n6_
                        replace HO_10 := ak_ (Kd.R_drew HO_10.out)
                        replace HO_13 := ak_ (Kd.V_drew HO_13.out)
                        replace HO403 := ak_ (Kd.V_drew HO403.out)
                        replace BK361 := ak_ (blk_drew BK361.out)
                        replace BK362 := ak_ (blk_drew BK362.out)
                        replace BK409 := ak_ (blk_drew BK409.out)
                        replace HB := ak_ (below_drew1 HB.out)
                        refine start_ (n := 6) (S := fun w' => w'.cell? ⟨gb409, 0, none⟩ = some (.int .i64 t404) ∧ w'.cell? ⟨gb409, 1, none⟩ = some (.int .i64 t405) ∧ w'.cell? ⟨gb409, 2, none⟩ = some (.int .i64 t406) ∧ w'.cell? ⟨gb409, 3, none⟩ = some (.int .i64 t407)) (ds := []) #[false, false, false, false, false, false] (by kernel_rfl) rfl rfl ⟨(bc_ BK409.out 0).trans rfl, (bc_ BK409.out 1).trans rfl, (bc_ BK409.out 2).trans rfl, (bc_ BK409.out 3).trans rfl⟩ (fun hHeld => ?_)
                        generalize w94.drew = w95 at HO_10 HO_13 HO403 BK361 BK362 BK409 HB hHeld ⊢
                        refine pv 0 (some 98) #[true, false, false, false, false, false] rfl rfl ?_
                        refine pv 2 (some 4) #[true, false, true, false, false, false] rfl rfl ?_
                        refine take_ (i := 1) (N := some 99) (v := ?_) (a' := ?_) #[true, true, true, false, false, false] rfl rfl (by kernel_rfl) (fun _ _ _ h => h) (Or.inl ⟨by rfl, ?_⟩) hHeld ?_ ?_
                        rotate_left
                        ·rintro w' ⟨s0, s1, s2, s3⟩
                         go_simp
                         with_reducible rfl
                        rotate_left
                        ·simp only [Act.put, sb_, sz_, su_, i64_w, i32_w]
                         rfl
                        refine one_ (i := 3) (N := none) #[true, true, true, true, false, false] rfl rfl (by kernel_rfl) (by decide) (fun K hK => ?_)
                        have hs96 : w95.cell? ⟨gb362, 0, none⟩ = some (.int .i64 x363000_56) := (bc_ BK362.out 0).trans rfl
                        have hfs96 := bf_ BK362.out 0
                        have hns96_0 := NB361_362.out
                        have hns96_2 := NB409_362.out
                        have hms96_0 := NB362_361.out
                        have hms96_2 := NB362_409.out
                        have hs97 : w95.cell? ⟨gb362, 1, none⟩ = some (.int .i64 x363001_56) := (bc_ BK362.out 1).trans rfl
                        have hfs97 := bf_ BK362.out 1
                        have hns97_0 := NB361_362.out
                        have hns97_2 := NB409_362.out
                        have hms97_0 := NB362_361.out
                        have hms97_2 := NB362_409.out
                        have hs98 : w95.cell? ⟨gb362, 2, none⟩ = some (.int .i64 x363002_56) := (bc_ BK362.out 2).trans rfl
                        have hfs98 := bf_ BK362.out 2
                        have hns98_0 := NB361_362.out
                        have hns98_2 := NB409_362.out
                        have hms98_0 := NB362_361.out
                        have hms98_2 := NB362_409.out
                        have hs99 : w95.cell? ⟨gb362, 3, none⟩ = some (.int .i64 x363003_56) := (bc_ BK362.out 3).trans rfl
                        have hfs99 := bf_ BK362.out 3
                        have hns99_0 := NB361_362.out
                        have hns99_2 := NB409_362.out
                        have hms99_0 := NB362_361.out
                        have hms99_2 := NB362_409.out
                        refine skip_ (w1 := ?_) (by rfl) rfl ?_ ?_
                        rotate_left
                        ·go_simp
                         rfl
                        refine hK.out _ _ ⟨((cell_far (p := ⟨gb362, _, none⟩) NB409_362.out _).trans (((cell_far (p := ⟨gb362, _, none⟩) NB409_362.out _).trans (((cell_far (p := ⟨gb362, _, none⟩) NB409_362.out _).trans (((cell_far (p := ⟨gb362, _, none⟩) NB409_362.out _).trans (hHeld.1)))))))), ((cell_far (p := ⟨gb362, _, none⟩) NB409_362.out _).trans (((cell_far (p := ⟨gb362, _, none⟩) NB409_362.out _).trans (((cell_far (p := ⟨gb362, _, none⟩) NB409_362.out _).trans (((cell_far (p := ⟨gb362, _, none⟩) NB409_362.out _).trans (hHeld.2.1)))))))), ((cell_far (p := ⟨gb362, _, none⟩) NB409_362.out _).trans (((cell_far (p := ⟨gb362, _, none⟩) NB409_362.out _).trans (((cell_far (p := ⟨gb362, _, none⟩) NB409_362.out _).trans (((cell_far (p := ⟨gb362, _, none⟩) NB409_362.out _).trans (hHeld.2.2.1)))))))), ((cell_far (p := ⟨gb362, _, none⟩) NB409_362.out _).trans (((cell_far (p := ⟨gb362, _, none⟩) NB409_362.out _).trans (((cell_far (p := ⟨gb362, _, none⟩) NB409_362.out _).trans (((cell_far (p := ⟨gb362, _, none⟩) NB409_362.out _).trans (hHeld.2.2.2))))))))⟩ (fun hHeld => ?_)
                        clear hK K
                        refine pv 4 (some 6) #[true, true, true, true, true, false] rfl rfl ?_
                        refine pv 5 (some 7) #[true, true, true, true, true, true] rfl rfl ?_
                        refine done_ (by kernel_rfl) ?_
                        try go_wp2
                        refine bodyPost_ret (results_list (rs := [.tmp 4, .cell 5 26, .tmp 6, .tmp 7]) rfl (by simp) (.tmp (.cell gb362 26 #[.int .i64 t404, .int .i64 t405, .int .i64 t406, .int .i64 t407] (0, 0) _ rfl (put4 BK362.out) Try.underlying26 rfl (by kernel_rfl) (.tmp (.tmp .nil))))) rfl ?_
                        exact ⟨_, by rfl, (Kd.R_mono (Kd.R_far (p := ⟨gb362, 3, none⟩) (Kd.R_far (p := ⟨gb362, 2, none⟩) (Kd.R_far (p := ⟨gb362, 1, none⟩) (Kd.R_far (p := ⟨gb362, 0, none⟩) (Kd.R_types HO_10.out BK362.out (by decide)) (fun _ hk => hk.2) (.int .i64 t404)) (fun _ hk => hk.2) (.int .i64 t405)) (fun _ hk => hk.2) (.int .i64 t406)) (fun _ hk => hk.2) (.int .i64 t407)) (fun _ hk => trivial)), by repeat (first | (with_reducible first | exact HB.out | apply below_alloc | apply pw_below_drewN | apply below_drew1 | refine below_set ?_ GE361.out | refine below_set ?_ GE362.out | refine below_set ?_ GE409.out) | exact HB.out)⟩
                      ·rw [if_neg c74] at H
                       have c74b0 := beq_eq_false_iff_ne.mpr c74
                       have c74b1 := bne_iff_ne.mpr c74
                       simp only [Option.some.injEq, Prod.mk.injEq] at H
                       obtain ⟨rfl, rfl, rfl, rfl, rfl, rfl, rfl⟩ := H
                       have q100 : (24 : Int) ≤ ((t373.length : Int) : Int) := od_ ‹_›
                       obtain ⟨i0100, hi0100, _, hsz100, _⟩ := info_parts info5
                       have hroom100 : t373.length ≤ co61 := (Kd.V_reads' HO_13.out).2.1
                       have hC100 : Kd.F (Kd.int .u8) _ _ Ao61 t373.length t373 := (Kd.V_at (base := w.heap.size) HO_13.out).2.2
                       have hcut100 := cut_to (P := Try.prog) 24 5 .i64 Try.underlying24 hi0100 Ao61 t373.length co61 24 (by omega) q100 hroom100
                       have hr100 := Kd.F_take (m := 24) hC100 (by omega)
                       have hy100 : y381.length = (24 : Int).toNat := (by rw [Ny399.out, List.length_take]; omega)
                       rw [← Ny399.out] at hr100
                       rw [← hy100] at hcut100
                       have HO403 := ak_ (show Kd.V (Kd.int .u8) 5 _ w.heap.size _ (.slice Ao61 y381.length co61) y381 from Kd.V_mk (by omega) hr100)
                       have HC403 := ak_ (show y381.length ≤ co61 from by omega)
                       clear hr100 hC100 hroom100 hi0100 hsz100
                       have KY100 := ak_ hy100
                       clear hy100
                       replace q100 := eq_true q100
                       go_wp2_with (first | ((with_reducible refine gate_callee (f := 55) rfl ?_); refine goesL_ (some 85) rfl rfl Try.func55 (by kernel_rfl) rfl #[.slice Ao61 y381.length co61] rfl (by (try simp only [List.map_toArray, List.map_cons, List.map_nil]); first | done | rfl | (simp only [List.length_drop, List.length_take]; rfl)) ?_; (with_reducible refine (r07_Take.calls kj56 _ _ y381 t404 t405 t406 t407 t408 _ ?side1 ?side2 A73.out).mono ?_); (case side1 => exact (Kd.V_reads' HO403.out).2.2); (case side2 => exact (Kd.V_reads' HO403.out).2.1); rintro e w101 ⟨rfl, hb⟩; refine ⟨_, rfl, ?_⟩; replace HO_10 := ak_ (Kd.R_below HO_10.out hb); replace HO_13 := ak_ (Kd.V_below HO_13.out hb); replace HO403 := ak_ (Kd.V_below HO403.out hb); replace BK361 := ak_ (blk_below BK361.out hb); replace BK362 := ak_ (blk_below BK362.out hb); replace HB := ak_ (below_step HB.out hb); (try clear hb)) | ((with_reducible refine gate_dst (N := 16) rfl ?_); (try (refine gate_guard (by rfl) ?_; dsimp only)); refine box_event ?hg (N := 16) ?hd (cs := #[.int .i64 0, .int .i64 0, .int .i64 0, .int .i64 0]) (t := 26) ?hr ?_; (case hd => rfl); (case hg => rfl); (case hr => (go_simp; done)); intro gb409 hg w102 hbox hb; replace HO_10 := ak_ (Kd.R_below HO_10.out hb); replace HO_13 := ak_ (Kd.V_below (Kd.V_elderB HO_13.out gb409 (Nat.le_of_eq hg.symm)) hb); replace HO403 := ak_ (Kd.V_below (Kd.V_elderB HO403.out gb409 (Nat.le_of_eq hg.symm)) hb); have BK409 := ak_ (hbox); have GW409 := ak_ (gw_ hg (below_size HB.out)); have GE409 := ak_ (gw_ hg (below_size HB.out)); replace HB := ak_ (below_step HB.out hb); have NB361_409 := ak_ ((by rw [hg]; exact Nat.ne_of_lt (blk_lt BK361.out) : gb361 ≠ gb409)); have NB409_361 := ak_ ((by rw [hg]; exact Nat.ne_of_gt (blk_lt BK361.out) : gb409 ≠ gb361)); replace BK361 := ak_ (blk_below BK361.out hb); have NB362_409 := ak_ ((by rw [hg]; exact Nat.ne_of_lt (blk_lt BK362.out) : gb362 ≠ gb409)); have NB409_362 := ak_ ((by rw [hg]; exact Nat.ne_of_gt (blk_lt BK362.out) : gb409 ≠ gb362)); replace BK362 := ak_ (blk_below BK362.out hb); clear hb hbox hg; have hnb103 := NB409_361.out; have hnc103 := NB361_409.out; have hnb104 := NB409_362.out; have hnc104 := NB362_409.out; obtain ⟨hcz105_0, hcz105_1, hcz105_2, hcz105_3⟩ := cells4 BK409.out; obtain ⟨hfz105_0, hfz105_1, hfz105_2, hfz105_3⟩ := froz4 BK409.out; have hnb106 := NB362_361.out; have hnc106 := NB361_362.out; obtain ⟨hcz107_0, hcz107_1, hcz107_2, hcz107_3⟩ := cells4 BK362.out; obtain ⟨hfz107_0, hfz107_1, hfz107_2, hfz107_3⟩ := froz4 BK362.out))
                       refine bodyPost_ret (results_list (rs := [.tmp 4, .cell 5 26, .tmp 6, .tmp 7]) rfl (by simp) (.tmp (.cell gb362 26 #[.int .i64 0, .int .i64 0, .int .i64 0, .int .i64 0] (0, 0) _ rfl (put4 (far4 BK362.out NB362_409.out)) Try.underlying26 rfl (by kernel_rfl) (.tmp (.tmp .nil))))) rfl ?_
                       exact ⟨_, by rfl, (Kd.R_nil _ _ _ _ _), by repeat (first | (with_reducible first | exact HB.out | apply below_alloc | apply pw_below_drewN | apply below_drew1 | refine below_set ?_ GE361.out | refine below_set ?_ GE362.out | refine below_set ?_ GE409.out) | exact HB.out)⟩
                     ·rw [if_neg c72] at H
                      exact absurd H (by simp)
                  ·rw [if_neg c52] at H
                   exact absurd H (by simp)
                 ·rw [if_neg c51] at H
                  exact absurd H (by simp)
                ·rw [if_neg c50] at H
                 exact absurd H (by simp)
           ·rw [if_neg c35] at H
            exact absurd H (by simp)
          ·rw [if_neg c34] at H
           exact absurd H (by simp)
       ·rw [if_neg c24] at H
        exact absurd H (by simp)
      ·rw [if_neg c23] at H
       exact absurd H (by simp)
     ·rw [if_neg c22] at H
      exact absurd H (by simp)
end Go.Proofs.Ytmehbabchakkpaa.QLadderWalks
