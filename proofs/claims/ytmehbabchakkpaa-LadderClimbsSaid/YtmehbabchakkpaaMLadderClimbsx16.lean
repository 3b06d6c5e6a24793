import Derived.Test.YtmehbabchakkpaaMLadderClimbsx15
import Derived.Deep.Slices
import Derived.OpenShut
import Derived.SizedLaws
namespace Go.Proofs.Ytmehbabchakkpaa.QLadderClimbs
open Go.RowKit YtmehbabchakkpaaW.PrintWords YtmehbabchakkpaaW.PrintLast YtmehbabchakkpaaW.PrintMore Short
attribute [local go_sem] max2_int min2_int max_two min_two max_three min_three max_four min_four
set_option linter.unusedVariables false
set_option maxHeartbeats 8000000
set_option maxRecDepth 100000
set_option linter.unusedSimpArgs false
attribute [local go_sem high] eqA26
def l09_Same.f (k : Nat) (l0_0 : List Int) (a0_1 : Int) (a0_2 : Int) (a0_3 : Int) (a0_4 : Int) (a0_5 : Int) (l1_0 : List Int) (a1_1 : Int) (a1_2 : Int) (a1_3 : Int) (a1_4 : Int) (a1_5 : Int) : Option (Bool) := (r01_Same.f k l0_0 l1_0).bind fun t520 => (if t520 = true then (if (a0_1 == a1_1 && (a0_2 == a1_2 && (a0_3 == a1_3 && (a0_4 == a1_4)))) = true then (some (a0_5 == a1_5)) else (some false)) else (some false))
theorem l09_Same.mono : ∀ a0 a1 a2 a3 a4 a5 a6 a7 a8 a9 a10 a11 k, LeO (l09_Same.f k a0 a1 a2 a3 a4 a5 a6 a7 a8 a9 a10 a11) (l09_Same.f (k + 1) a0 a1 a2 a3 a4 a5 a6 a7 a8 a9 a10 a11) := by
 intro a0 a1 a2 a3 a4 a5 a6 a7 a8 a9 a10 a11 k
 unfold l09_Same.f
 repeat' with_reducible first
  | exact r01_Same.mono _ _ _
  | exact LeO.refl _
  | exact LeO.none _
  | refine LeO.ite ?_ ?_
  | refine LeO.bind ?_ (fun _ => ?_)
theorem l09_Same.calls (k : Nat) (A0_0 : Option Addr) (c0_0 : Nat) (l0_0 : List Int) (a0_1 : Int) (a0_2 : Int) (a0_3 : Int) (a0_4 : Int) (a0_5 : Int) (A1_0 : Option Addr) (c1_0 : Nat) (l1_0 : List Int) (a1_1 : Int) (a1_2 : Int) (a1_3 : Int) (a1_4 : Int) (a1_5 : Int) (r : Bool) (w : World) (hr0_0 : Kd.C (Kd.int .u8) w A0_0 l0_0.length l0_0) (hc0_0 : l0_0.length ≤ c0_0) (hr1_0 : Kd.C (Kd.int .u8) w A1_0 l1_0.length l1_0) (hc1_0 : l1_0.length ≤ c1_0) (h : l09_Same.f k l0_0 a0_1 a0_2 a0_3 a0_4 a0_5 l1_0 a1_1 a1_2 a1_3 a1_4 a1_5 = some r) :
  Calls Try.prog 26 #[.agg #[.slice A0_0 l0_0.length c0_0, .int .i64 a0_1, .int .i64 a0_2, .int .i64 a0_3, .int .i64 a0_4, .int .i64 a0_5], .agg #[.slice A1_0 l1_0.length c1_0, .int .i64 a1_1, .int .i64 a1_2, .int .i64 a1_3, .int .i64 a1_4, .int .i64 a1_5]] w fun e w' => e = .returned (.bool r) ∧ Below w.heap.size w w' := by
 have hu42 := Try.underlying42
 have hu26 := Try.underlying26
 have HR0_0 := ak_ hr0_0
 have HC0_0 := ak_ hc0_0
 clear hr0_0 hc0_0
 have HR1_0 := ak_ hr1_0
 have HC1_0 := ak_ hc1_0
 clear hr1_0 hc1_0
 have HB := br_ w
 unfold l09_Same.f at h
 have H := h
 clear h
 obtain ⟨t318, A3, H⟩ := bs_ H
 by_cases c4 : t318 = true
 ·subst c4
  rw [if_pos rfl] at H
  by_cases c5 : (a0_1 == a1_1 && (a0_2 == a1_2 && (a0_3 == a1_3 && (a0_4 == a1_4)))) = true
  ·rw [if_pos c5] at H
   have c5b0 : (a0_1 == a1_1 && (a0_2 == a1_2 && (a0_3 == a1_3 && (a0_4 == a1_4)))) = true := c5
   (try (have c5b1 : decide (a0_1 = a1_1 && (a0_2 == a1_2 && (a0_3 == a1_3 && (a0_4 == a1_4)))) = true := by simpa using c5))
   (try (have c5b2 : (a0_1 == a1_1 && (a0_2 == a1_2 && (a0_3 == a1_3 && (a0_4 == a1_4)))) = true := by simpa using c5))
   clear c5
   obtain rfl := si_ H
   go_enter Try.func26, Try.ntmps26
   go_wp2_with (first | ((with_reducible refine gate_dst (N := 2) rfl ?_); refine box_event ?hg (N := 2) ?hd (cs := #[.slice A0_0 l0_0.length c0_0, .int .i64 a0_1, .int .i64 a0_2, .int .i64 a0_3, .int .i64 a0_4, .int .i64 a0_5]) (t := 42) ?hr ?_; (case hd => rfl); (case hg => rfl); (case hr => (go_simp; done)); intro gb316 hg w6 hbox hb; have BK316 := ak_ (hbox); have GW316 := ak_ (gw_ hg (below_size HB.out)); have GE316 := ak_ (gw_ hg (below_size HB.out)); replace HB := ak_ (below_step HB.out hb); clear hb hbox hg) | ((with_reducible refine gate_dst (N := 3) rfl ?_); refine box_event ?hg (N := 3) ?hd (cs := #[.slice A1_0 l1_0.length c1_0, .int .i64 a1_1, .int .i64 a1_2, .int .i64 a1_3, .int .i64 a1_4, .int .i64 a1_5]) (t := 42) ?hr ?_; (case hd => rfl); (case hg => rfl); (case hr => (go_simp; done)); intro gb317 hg w7 hbox hb; have BK317 := ak_ (hbox); have GW317 := ak_ (gw_ hg (below_size HB.out)); have GE317 := ak_ (gw_ hg (below_size HB.out)); replace HB := ak_ (below_step HB.out hb); have NB316_317 := ak_ ((by rw [hg]; exact Nat.ne_of_lt (blk_lt BK316.out) : gb316 ≠ gb317)); have NB317_316 := ak_ ((by rw [hg]; exact Nat.ne_of_gt (blk_lt BK316.out) : gb317 ≠ gb316)); replace BK316 := ak_ (blk_below BK316.out hb); clear hb hbox hg; have hnb8 := NB316_317.out; have hnc8 := NB317_316.out; obtain ⟨hcz9_0, hcz9_1, hcz9_2, hcz9_3, hcz9_4, hcz9_5⟩ := cells6 BK316.out; obtain ⟨hfz9_0, hfz9_1, hfz9_2, hfz9_3, hfz9_4, hfz9_5⟩ := froz6 BK316.out; obtain ⟨hcz10_0, hcz10_1, hcz10_2, hcz10_3, hcz10_4, hcz10_5⟩ := cells6 BK317.out; obtain ⟨hfz10_0, hfz10_1, hfz10_2, hfz10_3, hfz10_4, hfz10_5⟩ := froz6 BK317.out) | ((with_reducible refine gate_callee (f := 20) rfl ?_); refine goesL_ (some 9) rfl rfl Try.func20 (by kernel_rfl) rfl #[.slice A0_0 l0_0.length c0_0, .slice A1_0 l1_0.length c1_0] rfl (by (try simp only [List.map_toArray, List.map_cons, List.map_nil]); first | done | rfl | (simp only [List.length_drop, List.length_take]; rfl)) ?_; (with_reducible refine (r01_Same.calls k _ _ l0_0 _ _ l1_0 true _ ?side1 ?side2 ?side3 ?side4 A3.out).mono ?_); (case side1 => exact (Kd.C_below HR0_0.out HB.out)); (case side2 => exact HC0_0.out); (case side3 => exact (Kd.C_below HR1_0.out HB.out)); (case side4 => exact HC1_0.out); rintro e w' ⟨rfl, ⟨nd, rfl⟩⟩; refine ⟨_, rfl, ?_⟩))
   go_ret
   exact ⟨by rfl, by repeat (first | (with_reducible first | exact HB.out | apply below_alloc | apply pw_below_drewN | apply below_drew1 | refine below_set ?_ GE316.out | refine below_set ?_ GE317.out) | exact HB.out)⟩
  ·rw [if_neg c5] at H
   have c5b0 : (a0_1 == a1_1 && (a0_2 == a1_2 && (a0_3 == a1_3 && (a0_4 == a1_4)))) = false := by simpa using c5
   (try (have c5b1 : decide (a0_1 = a1_1 && (a0_2 == a1_2 && (a0_3 == a1_3 && (a0_4 == a1_4)))) = false := by simpa using c5))
   (try (have c5b2 : (a0_1 == a1_1 && (a0_2 == a1_2 && (a0_3 == a1_3 && (a0_4 == a1_4)))) = false := by simpa using c5))
   (try (have c5b3 : ¬ (a0_1 = a1_1 && (a0_2 == a1_2 && (a0_3 == a1_3 && (a0_4 == a1_4)))) := by simpa using c5))
   clear c5
   obtain rfl := si_ H
   go_enter Try.func26, Try.ntmps26
   go_wp2_with (first | ((with_reducible refine gate_dst (N := 2) rfl ?_); refine box_event ?hg (N := 2) ?hd (cs := #[.slice A0_0 l0_0.length c0_0, .int .i64 a0_1, .int .i64 a0_2, .int .i64 a0_3, .int .i64 a0_4, .int .i64 a0_5]) (t := 42) ?hr ?_; (case hd => rfl); (case hg => rfl); (case hr => (go_simp; done)); intro gb316 hg w11 hbox hb; have BK316 := ak_ (hbox); have GW316 := ak_ (gw_ hg (below_size HB.out)); have GE316 := ak_ (gw_ hg (below_size HB.out)); replace HB := ak_ (below_step HB.out hb); clear hb hbox hg) | ((with_reducible refine gate_dst (N := 3) rfl ?_); refine box_event ?hg (N := 3) ?hd (cs := #[.slice A1_0 l1_0.length c1_0, .int .i64 a1_1, .int .i64 a1_2, .int .i64 a1_3, .int .i64 a1_4, .int .i64 a1_5]) (t := 42) ?hr ?_; (case hd => rfl); (case hg => rfl); (case hr => (go_simp; done)); intro gb317 hg w12 hbox hb; have BK317 := ak_ (hbox); have GW317 := ak_ (gw_ hg (below_size HB.out)); have GE317 := ak_ (gw_ hg (below_size HB.out)); replace HB := ak_ (below_step HB.out hb); have NB316_317 := ak_ ((by rw [hg]; exact Nat.ne_of_lt (blk_lt BK316.out) : gb316 ≠ gb317)); have NB317_316 := ak_ ((by rw [hg]; exact Nat.ne_of_gt (blk_lt BK316.out) : gb317 ≠ gb316)); replace BK316 := ak_ (blk_below BK316.out hb); clear hb hbox hg; have hnb13 := NB316_317.out; have hnc13 := NB317_316.out; obtain ⟨hcz14_0, hcz14_1, hcz14_2, hcz14_3, hcz14_4, hcz14_5⟩ := cells6 BK316.out; obtain ⟨hfz14_0, hfz14_1, hfz14_2, hfz14_3, hfz14_4, hfz14_5⟩ := froz6 BK316.out; obtain ⟨hcz15_0, hcz15_1, hcz15_2, hcz15_3, hcz15_4, hcz15_5⟩ := cells6 BK317.out; obtain ⟨hfz15_0, hfz15_1, hfz15_2, hfz15_3, hfz15_4, hfz15_5⟩ := froz6 BK317.out) | ((with_reducible refine gate_callee (f := 20) rfl ?_); refine goesL_ (some 9) rfl rfl Try.func20 (by kernel_rfl) rfl #[.slice A0_0 l0_0.length c0_0, .slice A1_0 l1_0.length c1_0] rfl (by (try simp only [List.map_toArray, List.map_cons, List.map_nil]); first | done | rfl | (simp only [List.length_drop, List.length_take]; rfl)) ?_; (with_reducible refine (r01_Same.calls k _ _ l0_0 _ _ l1_0 true _ ?side1 ?side2 ?side3 ?side4 A3.out).mono ?_); (case side1 => exact (Kd.C_below HR0_0.out HB.out)); (case side2 => exact HC0_0.out); (case side3 => exact (Kd.C_below HR1_0.out HB.out)); (case side4 => exact HC1_0.out); rintro e w' ⟨rfl, ⟨nd, rfl⟩⟩; refine ⟨_, rfl, ?_⟩))
   go_ret
   exact ⟨by rfl, by repeat (first | (with_reducible first | exact HB.out | apply below_alloc | apply pw_below_drewN | apply below_drew1 | refine below_set ?_ GE316.out | refine below_set ?_ GE317.out) | exact HB.out)⟩
 ·replace c4 := Bool.eq_false_iff.mpr c4
  subst c4
  rw [if_neg (show ¬ (false = true) by decide)] at H
  obtain rfl := si_ H
  go_enter Try.func26, Try.ntmps26
  go_wp2_with (first | ((with_reducible refine gate_dst (N := 2) rfl ?_); refine box_event ?hg (N := 2) ?hd (cs := #[.slice A0_0 l0_0.length c0_0, .int .i64 a0_1, .int .i64 a0_2, .int .i64 a0_3, .int .i64 a0_4, .int .i64 a0_5]) (t := 42) ?hr ?_; (case hd => rfl); (case hg => rfl); (case hr => (go_simp; done)); intro gb316 hg w16 hbox hb; have BK316 := ak_ (hbox); have GW316 := ak_ (gw_ hg (below_size HB.out)); have GE316 := ak_ (gw_ hg (below_size HB.out)); replace HB := ak_ (below_step HB.out hb); clear hb hbox hg) | ((with_reducible refine gate_dst (N := 3) rfl ?_); refine box_event ?hg (N := 3) ?hd (cs := #[.slice A1_0 l1_0.length c1_0, .int .i64 a1_1, .int .i64 a1_2, .int .i64 a1_3, .int .i64 a1_4, .int .i64 a1_5]) (t := 42) ?hr ?_; (case hd => rfl); (case hg => rfl); (case hr => (go_simp; done)); intro gb317 hg w17 hbox hb; have BK317 := ak_ (hbox); have GW317 := ak_ (gw_ hg (below_size HB.out)); have GE317 := ak_ (gw_ hg (below_size HB.out)); replace HB := ak_ (below_step HB.out hb); have NB316_317 := ak_ ((by rw [hg]; exact Nat.ne_of_lt (blk_lt BK316.out) : gb316 ≠ gb317)); have NB317_316 := ak_ ((by rw [hg]; exact Nat.ne_of_gt (blk_lt BK316.out) : gb317 ≠ gb316)); replace BK316 := ak_ (blk_below BK316.out hb); clear hb hbox hg; have hnb18 := NB316_317.out; have hnc18 := NB317_316.out; obtain ⟨hcz19_0, hcz19_1, hcz19_2, hcz19_3, hcz19_4, hcz19_5⟩ := cells6 BK316.out; obtain ⟨hfz19_0, hfz19_1, hfz19_2, hfz19_3, hfz19_4, hfz19_5⟩ := froz6 BK316.out; obtain ⟨hcz20_0, hcz20_1, hcz20_2, hcz20_3, hcz20_4, hcz20_5⟩ := cells6 BK317.out; obtain ⟨hfz20_0, hfz20_1, hfz20_2, hfz20_3, hfz20_4, hfz20_5⟩ := froz6 BK317.out) | ((with_reducible refine gate_callee (f := 20) rfl ?_); refine goesL_ (some 9) rfl rfl Try.func20 (by kernel_rfl) rfl #[.slice A0_0 l0_0.length c0_0, .slice A1_0 l1_0.length c1_0] rfl (by (try simp only [List.map_toArray, List.map_cons, List.map_nil]); first | done | rfl | (simp only [List.length_drop, List.length_take]; rfl)) ?_; (with_reducible refine (r01_Same.calls k _ _ l0_0 _ _ l1_0 false _ ?side1 ?side2 ?side3 ?side4 A3.out).mono ?_); (case side1 => exact (Kd.C_below HR0_0.out HB.out)); (case side2 => exact HC0_0.out); (case side3 => exact (Kd.C_below HR1_0.out HB.out)); (case side4 => exact HC1_0.out); rintro e w' ⟨rfl, ⟨nd, rfl⟩⟩; refine ⟨_, rfl, ?_⟩))
  go_ret
  exact ⟨by rfl, by repeat (first | (with_reducible first | exact HB.out | apply below_alloc | apply pw_below_drewN | apply below_drew1 | refine below_set ?_ GE316.out | refine below_set ?_ GE317.out) | exact HB.out)⟩
mutual
def l09_LadderClimbs.j0 : Nat → List (List Int) → Int → Int → Int → Int → Int → Int → Int → Option (Bool)
 | 0, _, _, _, _, _, _, _, _ => none
 | k + 1, x1, x522000, x522001, x522002, x522003, x522004, x522005, x522006 => (l09_few.f k x522000 x522001 x522002 x522003 x522004 x522005 x522006 x1).bind fun t523 => (if t523 = true then (l09_LadderClimbs.j1 k x1 x522000 x522001 x522002 x522003 x522004 x522005 x522006) else (some true))
def l09_LadderClimbs.j1 : Nat → List (List Int) → Int → Int → Int → Int → Int → Int → Int → Option (Bool)
 | 0, _, _, _, _, _, _, _, _ => none
 | k + 1, x1, x522000, x522001, x522002, x522003, x522004, x522005, x522006 => (ladder_Climb.f k x522000 x522001 x522002 x522003 x522004 x522005 x522006 x1).bind fun bt524 => ((r09_Climb.f k x522000 x522001 x522002 x522003 x522004 x522005 x522006 x1).bind fun bt535 => ((l09_Same.f k bt524.1 bt524.2.1 bt524.2.2.1 bt524.2.2.2.1 bt524.2.2.2.2.1 bt524.2.2.2.2.2.1 bt535.1 bt535.2.1 bt535.2.2.1 bt535.2.2.2.1 bt535.2.2.2.2.1 bt535.2.2.2.2.2.1).bind fun t546 => (if t546 = true then (if bt524.2.2.2.2.2.2.1 = bt535.2.2.2.2.2.2.1 then (some (bt524.2.2.2.2.2.2.2 == bt535.2.2.2.2.2.2.2)) else (none)) else (none))))
end
def l09_LadderClimbs.f (k : Nat) (a0_0 : Int) (a0_1 : Int) (a0_2 : Int) (a0_3 : Int) (a0_4 : Int) (a0_5 : Int) (a0_6 : Int) (l1 : List (List Int)) : Option (Bool) := (l09_awake.f k).bind fun t522 => (if t522 = true then (l09_LadderClimbs.j0 k l1 a0_0 a0_1 a0_2 a0_3 a0_4 a0_5 a0_6) else (none))
theorem l09_LadderClimbs.mono_l : ∀ k, (∀ y0 y1 y2 y3 y4 y5 y6 y7, LeO (l09_LadderClimbs.j0 k y0 y1 y2 y3 y4 y5 y6 y7) (l09_LadderClimbs.j0 (k + 1) y0 y1 y2 y3 y4 y5 y6 y7)) ∧ (∀ y0 y1 y2 y3 y4 y5 y6 y7, LeO (l09_LadderClimbs.j1 k y0 y1 y2 y3 y4 y5 y6 y7) (l09_LadderClimbs.j1 (k + 1) y0 y1 y2 y3 y4 y5 y6 y7))
 | 0 => ⟨fun _ _ _ _ _ _ _ _ r h => by simp [l09_LadderClimbs.j0] at h, fun _ _ _ _ _ _ _ _ r h => by simp [l09_LadderClimbs.j1] at h⟩
 | k + 1 => by
  obtain ⟨ih0, ih1⟩ := l09_LadderClimbs.mono_l k
  refine ⟨?_, ?_⟩
  ·intro y0 y1 y2 y3 y4 y5 y6 y7
   unfold l09_LadderClimbs.j0
   repeat' with_reducible first
   | exact ih0 _ _ _ _ _ _ _ _
   | exact ih1 _ _ _ _ _ _ _ _
   | exact l09_Same.mono _ _ _ _ _ _ _ _ _ _ _ _ _
   | exact l09_awake.mono _
   | exact l09_few.mono _ _ _ _ _ _ _ _ _
   | exact r09_Climb.mono _ _ _ _ _ _ _ _ _
   | exact ladder_Climb.mono _ _ _ _ _ _ _ _ _
   | exact LeO.refl _
   | exact LeO.none _
   | refine LeO.ite ?_ ?_
   | refine LeO.bind ?_ (fun _ => ?_)
  ·intro y0 y1 y2 y3 y4 y5 y6 y7
   unfold l09_LadderClimbs.j1
   repeat' with_reducible first
   | exact ih0 _ _ _ _ _ _ _ _
   | exact ih1 _ _ _ _ _ _ _ _
   | exact l09_Same.mono _ _ _ _ _ _ _ _ _ _ _ _ _
   | exact l09_awake.mono _
   | exact l09_few.mono _ _ _ _ _ _ _ _ _
   | exact r09_Climb.mono _ _ _ _ _ _ _ _ _
   | exact ladder_Climb.mono _ _ _ _ _ _ _ _ _
   | exact LeO.refl _
   | exact LeO.none _
   | refine LeO.ite ?_ ?_
   | refine LeO.bind ?_ (fun _ => ?_)
theorem l09_LadderClimbs.mono : ∀ a0 a1 a2 a3 a4 a5 a6 a7 k, LeO (l09_LadderClimbs.f k a0 a1 a2 a3 a4 a5 a6 a7) (l09_LadderClimbs.f (k + 1) a0 a1 a2 a3 a4 a5 a6 a7) := by
 intro a0 a1 a2 a3 a4 a5 a6 a7 k
 obtain ⟨ih0, ih1⟩ := l09_LadderClimbs.mono_l k
 unfold l09_LadderClimbs.f
 repeat' with_reducible first
  | exact ih0 _ _ _ _ _ _ _ _
  | exact ih1 _ _ _ _ _ _ _ _
  | exact l09_Same.mono _ _ _ _ _ _ _ _ _ _ _ _ _
  | exact l09_awake.mono _
  | exact l09_few.mono _ _ _ _ _ _ _ _ _
  | exact r09_Climb.mono _ _ _ _ _ _ _ _ _
  | exact ladder_Climb.mono _ _ _ _ _ _ _ _ _
  | exact LeO.refl _
  | exact LeO.none _
  | refine LeO.ite ?_ ?_
  | refine LeO.bind ?_ (fun _ => ?_)
theorem l09_LadderClimbs.calls (k : Nat) (a0_0 : Int) (a0_1 : Int) (a0_2 : Int) (a0_3 : Int) (a0_4 : Int) (a0_5 : Int) (a0_6 : Int) (A1 : Option Addr) (c1 : Nat) (l1 : List (List Int)) (r : Bool) (w : World) (hr1 : Kd.C (Kd.slice 5 (Kd.int .u8)) w A1 l1.length l1) (hc1 : l1.length ≤ c1) (h : l09_LadderClimbs.f k a0_0 a0_1 a0_2 a0_3 a0_4 a0_5 a0_6 l1 = some r) :
  Calls Try.prog 4 #[.agg #[.int .i64 a0_0, .int .i64 a0_1, .int .i64 a0_2, .int .i64 a0_3, .int .i64 a0_4, .int .i64 a0_5, .int .i64 a0_6], .slice A1 l1.length c1] w fun e w' => e = .returned (.bool r) ∧ Below w.heap.size w w' := by
 have hu23 := Try.underlying23
 have hu42 := Try.underlying42
 have HR1 := ak_ hr1
 have HC1 := ak_ hc1
 clear hr1 hc1
 have HB := br_ w
 unfold l09_LadderClimbs.f at h
 have H := h
 clear h
 obtain ⟨t522, A3, H⟩ := bs_ H
 have HC4 := ak_ H
 clear H
 go_enter Try.func4, Try.ntmps4
 go_upto_if 12 with (first | ((with_reducible refine gate_dst (N := 2) rfl ?_); refine box_event ?hg (N := 2) ?hd (cs := #[.int .i64 a0_0, .int .i64 a0_1, .int .i64 a0_2, .int .i64 a0_3, .int .i64 a0_4, .int .i64 a0_5, .int .i64 a0_6]) (t := 23) ?hr ?_; (case hd => rfl); (case hg => rfl); (case hr => (go_simp; done)); intro gb521 hg w5 hbox hb; have BK521 := ak_ (hbox); have GW521 := ak_ (gw_ hg (below_size HB.out)); have GE521 := ak_ (gw_ hg (below_size HB.out)); replace HB := ak_ (below_step HB.out hb); clear hb hbox hg) | ((with_reducible refine gate_callee (f := 22) rfl ?_); refine goesL_ (some 11) rfl rfl Try.func22 (by kernel_rfl) rfl #[] rfl (by (try simp only [List.map_toArray, List.map_cons, List.map_nil]); done) ?_; (with_reducible refine (l09_awake.calls k  t522 _ A3.out).mono ?_); rintro e w6 ⟨rfl, hb⟩; refine ⟨_, rfl, ?_⟩; replace BK521 := ak_ (blk_below BK521.out hb); replace HB := ak_ (below_step HB.out hb); (try clear hb)))
 go_cut [] (fun wc => ∃ (kq : Nat), Aside0 (l09_LadderClimbs.j0 kq l1 a0_0 a0_1 a0_2 a0_3 a0_4 a0_5 a0_6 = some r) ∧ Aside0 (kq ≤ k) ∧ Aside0 (wc.heap[gb521]? = some (.cells #[.int .i64 a0_0, .int .i64 a0_1, .int .i64 a0_2, .int .i64 a0_3, .int .i64 a0_4, .int .i64 a0_5, .int .i64 a0_6] 23 (0, 0))) ∧ Aside0 (Below w.heap.size w wc))
 case first =>
  have H := HC4.out
  clear HC4
  by_cases c7 : t522 = true
  ·subst c7
   rw [if_pos rfl] at H
   have H' := ak_ H
   clear H
   go_wp2
   go_meet
   case rel => exact ⟨_, H', ⟨by omega⟩, ⟨BK521.out⟩, ⟨HB.out⟩⟩
  ·replace c7 := Bool.eq_false_iff.mpr c7
   subst c7
   rw [if_neg (show ¬ (false = true) by decide)] at H
   exact absurd H (by simp)
 case rest =>
  clear HC4
  obtain ⟨kq, HA, HJ3, BK521, HB⟩ := hcut
  cases kq with
  | zero => exact absurd HA.out (by simp [l09_LadderClimbs.j0])
  | succ kj3 =>
   have H := HA.out
   clear HA
   simp only [l09_LadderClimbs.j0] at H
   obtain ⟨t523, A8, H⟩ := bs_ H
   have HC9 := ak_ H
   clear H
   obtain ⟨hcz10_0, hcz10_1, hcz10_2, hcz10_3, hcz10_4, hcz10_5, hcz10_6⟩ := cells7 BK521.out
   obtain ⟨hfz10_0, hfz10_1, hfz10_2, hfz10_3, hfz10_4, hfz10_5, hfz10_6⟩ := froz7 BK521.out
   go_upto_if 16 with ((with_reducible refine gate_callee (f := 23) rfl ?_); refine goesL_ (some 15) rfl rfl Try.func23 (by kernel_rfl) rfl #[.agg #[.int .i64 a0_0, .int .i64 a0_1, .int .i64 a0_2, .int .i64 a0_3, .int .i64 a0_4, .int .i64 a0_5, .int .i64 a0_6], .slice A1 l1.length c1] rfl (by (try simp only [List.map_toArray, List.map_cons, List.map_nil]); first | done | rfl | (simp only [List.length_drop, List.length_take]; rfl)) ?_; (with_reducible refine (l09_few.calls kj3 a0_0 a0_1 a0_2 a0_3 a0_4 a0_5 a0_6 _ _ l1 t523 _ ?side1 ?side2 A8.out).mono ?_); (case side1 => exact (Kd.C_below HR1.out HB.out)); (case side2 => exact HC1.out); rintro e w11 ⟨rfl, hb⟩; refine ⟨_, rfl, ?_⟩; replace BK521 := ak_ (blk_below BK521.out hb); replace HB := ak_ (below_step HB.out hb); (try clear hb))
   go_cut [] (fun wc => ∃ (kq : Nat), Aside0 (l09_LadderClimbs.j1 kq l1 a0_0 a0_1 a0_2 a0_3 a0_4 a0_5 a0_6 = some r) ∧ Aside0 (kq ≤ kj3) ∧ Aside0 (wc.heap[gb521]? = some (.cells #[.int .i64 a0_0, .int .i64 a0_1, .int .i64 a0_2, .int .i64 a0_3, .int .i64 a0_4, .int .i64 a0_5, .int .i64 a0_6] 23 (0, 0))) ∧ Aside0 (Below w.heap.size w wc))
   case first =>
    have H := HC9.out
    clear HC9
    by_cases c12 : t523 = true
    ·subst c12
     rw [if_pos rfl] at H
     have H' := ak_ H
     clear H
     go_wp2
     go_meet
     case rel => exact ⟨_, H', ⟨by have := HJ3.out; omega⟩, ⟨BK521.out⟩, ⟨HB.out⟩⟩
    ·replace c12 := Bool.eq_false_iff.mpr c12
     subst c12
     rw [if_neg (show ¬ (false = true) by decide)] at H
     obtain rfl := si_ H
     go_wp2
     go_ret
     exact ⟨by rfl, HB.out⟩
   case rest =>
    clear HC9 hcz10_0 hcz10_1 hcz10_2 hcz10_3 hcz10_4 hcz10_5 hcz10_6 hfz10_0 hfz10_1 hfz10_2 hfz10_3 hfz10_4 hfz10_5 hfz10_6
    obtain ⟨kq, HA, HJ8, BK521, HB⟩ := hcut
    cases kq with
    | zero => exact absurd HA.out (by simp [l09_LadderClimbs.j1])
    | succ kj8 =>
     have H := HA.out
     clear HA
     simp only [l09_LadderClimbs.j1] at H
     obtain ⟨⟨t524, t527, t528, t529, t530, t531, t532, t533⟩, A13, H⟩ := bs_ H
     try dsimp only at H
     obtain ⟨⟨t535, t538, t539, t540, t541, t542, t543, t544⟩, A14, H⟩ := bs_ H
     try dsimp only at H
     obtain ⟨t546, A15, H⟩ := bs_ H
     by_cases c16 : t546 = true
     ·subst c16
      rw [if_pos rfl] at H
      by_cases c17 : t532 = t543
      ·rw [if_pos c17] at H
       have c17b0 := beq_iff_eq.mpr c17
       have c17b1 := bne_eq_false_iff_eq.mpr c17
       clear c17
       obtain rfl := si_ H
       obtain ⟨hcz18_0, hcz18_1, hcz18_2, hcz18_3, hcz18_4, hcz18_5, hcz18_6⟩ := cells7 BK521.out
       obtain ⟨hfz18_0, hfz18_1, hfz18_2, hfz18_3, hfz18_4, hfz18_5, hfz18_6⟩ := froz7 BK521.out
       go_wp2_with (first | ((with_reducible refine gate_callee (f := 24) rfl ?_); refine goesL_ (some 20) rfl rfl Try.func24 (by kernel_rfl) rfl #[.agg #[.int .i64 a0_0, .int .i64 a0_1, .int .i64 a0_2, .int .i64 a0_3, .int .i64 a0_4, .int .i64 a0_5, .int .i64 a0_6], .slice A1 l1.length c1] rfl (by (try simp only [List.map_toArray, List.map_cons, List.map_nil]); first | done | rfl | (simp only [List.length_drop, List.length_take]; rfl)) ?_; (with_reducible refine (ladder_Climb.calls kj8 a0_0 a0_1 a0_2 a0_3 a0_4 a0_5 a0_6 _ _ l1 t524 t527 t528 t529 t530 t531 t532 t533 _ ?side1 ?side2 A13.out).mono ?_); (case side1 => exact (Kd.C_below HR1.out HB.out)); (case side2 => exact HC1.out); rintro e w19 ⟨v525, rfl, ho0, hb⟩; refine ⟨_, rfl, ?_⟩; have HO526 := ak_ (Kd.R_lower ho0 (below_size HB.out)); replace BK521 := ak_ (blk_below BK521.out hb); replace HB := ak_ (below_step HB.out hb); (try clear hb); (try clear ho0)) | ((with_reducible refine gate_dst (N := 5) rfl ?_); refine box_event ?hg (N := 5) ?hd (cs := #[.slice none 0 0, .int .i64 0, .int .i64 0, .int .i64 0, .int .i64 0, .int .i64 0]) (t := 42) ?hr ?_; (case hd => rfl); (case hg => rfl); (case hr => (go_simp; done)); intro gb534 hg w20 hbox hb; replace HO526 := ak_ (Kd.R_below HO526.out hb); have BK534 := ak_ (hbox); have GW534 := ak_ (gw_ hg (below_size HB.out)); have GE534 := ak_ (gw_ hg (below_size HB.out)); replace HB := ak_ (below_step HB.out hb); have NB521_534 := ak_ ((by rw [hg]; exact Nat.ne_of_lt (blk_lt BK521.out) : gb521 ≠ gb534)); have NB534_521 := ak_ ((by rw [hg]; exact Nat.ne_of_gt (blk_lt BK521.out) : gb534 ≠ gb521)); replace BK521 := ak_ (blk_below BK521.out hb); clear hb hbox hg; obtain ⟨Ao21, co21, eo21⟩ := Kd.R_slice HO526.out; subst eo21; have hnb22 := NB534_521.out; have hnc22 := NB521_534.out; obtain ⟨hcz23_0, hcz23_1, hcz23_2, hcz23_3, hcz23_4, hcz23_5⟩ := cells6 BK534.out; obtain ⟨hfz23_0, hfz23_1, hfz23_2, hfz23_3, hfz23_4, hfz23_5⟩ := froz6 BK534.out; obtain ⟨hcz24_0, hcz24_1, hcz24_2, hcz24_3, hcz24_4, hcz24_5, hcz24_6⟩ := cells7 BK521.out; obtain ⟨hfz24_0, hfz24_1, hfz24_2, hfz24_3, hfz24_4, hfz24_5, hfz24_6⟩ := froz7 BK521.out) | ((with_reducible refine gate_callee (f := 25) rfl ?_); refine goesL_ (some 27) rfl rfl Try.func25 (by kernel_rfl) rfl #[.agg #[.int .i64 a0_0, .int .i64 a0_1, .int .i64 a0_2, .int .i64 a0_3, .int .i64 a0_4, .int .i64 a0_5, .int .i64 a0_6], .slice A1 l1.length c1] rfl (by (try simp only [List.map_toArray, List.map_cons, List.map_nil]); first | done | rfl | (simp only [List.length_drop, List.length_take]; rfl)) ?_; (with_reducible refine (r09_Climb.calls kj8 a0_0 a0_1 a0_2 a0_3 a0_4 a0_5 a0_6 _ _ l1 t535 t538 t539 t540 t541 t542 t543 t544 _ ?side1 ?side2 A14.out).mono ?_); (case side1 => exact Kd.C_below HR1.out (by repeat (first | (with_reducible first | exact HB.out | apply below_alloc | apply pw_below_drewN | apply below_drew1 | refine below_set ?_ GE521.out | refine below_set ?_ GE534.out) | exact HB.out))); (case side2 => exact HC1.out); rintro e w25 ⟨v536, rfl, ho0, hb⟩; refine ⟨_, rfl, ?_⟩; have HO537 := ak_ (Kd.R_lower (Kd.R_new' ho0 (Kd.R_lt (Kd.R_mono (Kd.R_far (p := ⟨gb534, 5, none⟩) (Kd.R_far (p := ⟨gb534, 4, none⟩) (Kd.R_far (p := ⟨gb534, 3, none⟩) (Kd.R_far (p := ⟨gb534, 2, none⟩) (Kd.R_far (p := ⟨gb534, 1, none⟩) (Kd.R_far (p := ⟨gb534, 0, none⟩) (Kd.R_types HO526.out BK534.out (by decide)) (fun _ hk => hk.2) (.slice Ao21 t524.length co21)) (fun _ hk => hk.2) (.int .i64 t527)) (fun _ hk => hk.2) (.int .i64 t528)) (fun _ hk => hk.2) (.int .i64 t529)) (fun _ hk => hk.2) (.int .i64 t530)) (fun _ hk => hk.2) (.int .i64 t531)) (fun _ h_ => h_.1)))) (below_size (by repeat (first | (with_reducible first | exact HB.out | apply below_alloc | apply pw_below_drewN | apply below_drew1 | refine below_set ?_ GE521.out | refine below_set ?_ GE534.out) | exact HB.out)))); replace HO526 := ak_ (Kd.R_elder' (Kd.R_mono (Kd.R_far (p := ⟨gb534, 5, none⟩) (Kd.R_far (p := ⟨gb534, 4, none⟩) (Kd.R_far (p := ⟨gb534, 3, none⟩) (Kd.R_far (p := ⟨gb534, 2, none⟩) (Kd.R_far (p := ⟨gb534, 1, none⟩) (Kd.R_far (p := ⟨gb534, 0, none⟩) (Kd.R_types HO526.out BK534.out (by decide)) (fun _ hk => hk.2) (.slice Ao21 t524.length co21)) (fun _ hk => hk.2) (.int .i64 t527)) (fun _ hk => hk.2) (.int .i64 t528)) (fun _ hk => hk.2) (.int .i64 t529)) (fun _ hk => hk.2) (.int .i64 t530)) (fun _ hk => hk.2) (.int .i64 t531)) (fun _ h_ => h_.1)) (Kd.R_base ho0) hb); replace BK521 := ak_ (blk_below (far6 BK521.out NB521_534.out) hb); replace BK534 := ak_ (blk_below (put6 BK534.out) hb); replace HB := ak_ (below_step (by repeat (first | (with_reducible first | exact HB.out | apply below_alloc | apply pw_below_drewN | apply below_drew1 | refine below_set ?_ GE521.out | refine below_set ?_ GE534.out) | exact HB.out)) hb); (try clear hb); (try clear ho0)) | ((with_reducible refine gate_dst (N := 8) rfl ?_); refine box_event ?hg (N := 8) ?hd (cs := #[.slice none 0 0, .int .i64 0, .int .i64 0, .int .i64 0, .int .i64 0, .int .i64 0]) (t := 42) ?hr ?_; (case hd => rfl); (case hg => rfl); (case hr => (go_simp; done)); intro gb545 hg w26 hbox hb; replace HO526 := ak_ (Kd.R_below HO526.out hb); replace HO537 := ak_ (Kd.R_below HO537.out hb); have BK545 := ak_ (hbox); have GW545 := ak_ (gw_ hg (below_size HB.out)); have GE545 := ak_ (gw_ hg (below_size HB.out)); replace HB := ak_ (below_step HB.out hb); have NB521_545 := ak_ ((by rw [hg]; exact Nat.ne_of_lt (blk_lt BK521.out) : gb521 ≠ gb545)); have NB545_521 := ak_ ((by rw [hg]; exact Nat.ne_of_gt (blk_lt BK521.out) : gb545 ≠ gb521)); replace BK521 := ak_ (blk_below BK521.out hb); have NB534_545 := ak_ ((by rw [hg]; exact Nat.ne_of_lt (blk_lt BK534.out) : gb534 ≠ gb545)); have NB545_534 := ak_ ((by rw [hg]; exact Nat.ne_of_gt (blk_lt BK534.out) : gb545 ≠ gb534)); replace BK534 := ak_ (blk_below BK534.out hb); clear hb hbox hg; obtain ⟨Ao27, co27, eo27⟩ := Kd.R_slice HO537.out; subst eo27; have hnb28 := NB545_521.out; have hnc28 := NB521_545.out; have hnb29 := NB545_534.out; have hnc29 := NB534_545.out; obtain ⟨hcz30_0, hcz30_1, hcz30_2, hcz30_3, hcz30_4, hcz30_5⟩ := cells6 BK545.out; obtain ⟨hfz30_0, hfz30_1, hfz30_2, hfz30_3, hfz30_4, hfz30_5⟩ := froz6 BK545.out; obtain ⟨hcz31_0, hcz31_1, hcz31_2, hcz31_3, hcz31_4, hcz31_5⟩ := cells6 BK534.out; obtain ⟨hfz31_0, hfz31_1, hfz31_2, hfz31_3, hfz31_4, hfz31_5⟩ := froz6 BK534.out) | ((with_reducible refine gate_callee (f := 26) rfl ?_); refine goesL_ (some 33) rfl rfl Try.func26 (by kernel_rfl) rfl #[.agg #[.slice Ao21 t524.length co21, .int .i64 t527, .int .i64 t528, .int .i64 t529, .int .i64 t530, .int .i64 t531], .agg #[.slice Ao27 t535.length co27, .int .i64 t538, .int .i64 t539, .int .i64 t540, .int .i64 t541, .int .i64 t542]] rfl (by (try simp only [List.map_toArray, List.map_cons, List.map_nil]); first | done | rfl | (simp only [List.length_drop, List.length_take]; rfl)) ?_; (with_reducible refine (l09_Same.calls kj8 _ _ t524 t527 t528 t529 t530 t531 _ _ t535 t538 t539 t540 t541 t542 true _ ?side1 ?side2 ?side3 ?side4 A15.out).mono ?_); (case side1 => refine (Kd.R_reads' (e := 5) (base := w.heap.size) (ok := fun k_ => (True ∧ some k_ ≠ (.slice Ao27 t535.length co27 : Value).ownBlock)) (n := t524.length) (c := co21) ?_).2.2; exact (Kd.R_mono (Kd.R_far (p := ⟨gb545, 5, none⟩) (Kd.R_far (p := ⟨gb545, 4, none⟩) (Kd.R_far (p := ⟨gb545, 3, none⟩) (Kd.R_far (p := ⟨gb545, 2, none⟩) (Kd.R_far (p := ⟨gb545, 1, none⟩) (Kd.R_far (p := ⟨gb545, 0, none⟩) (Kd.R_types HO526.out BK545.out (by decide)) (fun _ hk => hk.2) (.slice Ao27 t535.length co27)) (fun _ hk => hk.2) (.int .i64 t538)) (fun _ hk => hk.2) (.int .i64 t539)) (fun _ hk => hk.2) (.int .i64 t540)) (fun _ hk => hk.2) (.int .i64 t541)) (fun _ hk => hk.2) (.int .i64 t542)) (fun _ h_ => h_.1))); (case side2 => exact (Kd.R_reads' HO526.out).2.1); (case side3 => refine (Kd.R_reads' (e := 5) (base := w.heap.size) (ok := fun k_ => (True ∧ some k_ ≠ (.slice Ao21 t524.length co21 : Value).ownBlock)) (n := t535.length) (c := co27) ?_).2.2; exact (Kd.R_mono (Kd.R_far (p := ⟨gb545, 5, none⟩) (Kd.R_far (p := ⟨gb545, 4, none⟩) (Kd.R_far (p := ⟨gb545, 3, none⟩) (Kd.R_far (p := ⟨gb545, 2, none⟩) (Kd.R_far (p := ⟨gb545, 1, none⟩) (Kd.R_far (p := ⟨gb545, 0, none⟩) (Kd.R_types HO537.out BK545.out (by decide)) (fun _ hk => hk.2) (.slice Ao27 t535.length co27)) (fun _ hk => hk.2) (.int .i64 t538)) (fun _ hk => hk.2) (.int .i64 t539)) (fun _ hk => hk.2) (.int .i64 t540)) (fun _ hk => hk.2) (.int .i64 t541)) (fun _ hk => hk.2) (.int .i64 t542)) (fun _ h_ => h_.1))); (case side4 => exact (Kd.R_reads' HO537.out).2.1); rintro e w32 ⟨rfl, hb⟩; refine ⟨_, rfl, ?_⟩; replace HO526 := ak_ (Kd.R_below (Kd.R_mono (Kd.R_far (p := ⟨gb545, 5, none⟩) (Kd.R_far (p := ⟨gb545, 4, none⟩) (Kd.R_far (p := ⟨gb545, 3, none⟩) (Kd.R_far (p := ⟨gb545, 2, none⟩) (Kd.R_far (p := ⟨gb545, 1, none⟩) (Kd.R_far (p := ⟨gb545, 0, none⟩) (Kd.R_types HO526.out BK545.out (by decide)) (fun _ hk => hk.2) (.slice Ao27 t535.length co27)) (fun _ hk => hk.2) (.int .i64 t538)) (fun _ hk => hk.2) (.int .i64 t539)) (fun _ hk => hk.2) (.int .i64 t540)) (fun _ hk => hk.2) (.int .i64 t541)) (fun _ hk => hk.2) (.int .i64 t542)) (fun _ h_ => h_.1)) hb); replace HO537 := ak_ (Kd.R_below (Kd.R_mono (Kd.R_far (p := ⟨gb545, 5, none⟩) (Kd.R_far (p := ⟨gb545, 4, none⟩) (Kd.R_far (p := ⟨gb545, 3, none⟩) (Kd.R_far (p := ⟨gb545, 2, none⟩) (Kd.R_far (p := ⟨gb545, 1, none⟩) (Kd.R_far (p := ⟨gb545, 0, none⟩) (Kd.R_types HO537.out BK545.out (by decide)) (fun _ hk => hk.2) (.slice Ao27 t535.length co27)) (fun _ hk => hk.2) (.int .i64 t538)) (fun _ hk => hk.2) (.int .i64 t539)) (fun _ hk => hk.2) (.int .i64 t540)) (fun _ hk => hk.2) (.int .i64 t541)) (fun _ hk => hk.2) (.int .i64 t542)) (fun _ h_ => h_.1)) hb); replace BK521 := ak_ (blk_below (far6 BK521.out NB521_545.out) hb); replace BK534 := ak_ (blk_below (far6 BK534.out NB534_545.out) hb); replace BK545 := ak_ (blk_below (put6 BK545.out) hb); replace HB := ak_ (below_step (by repeat (first | (with_reducible first | exact HB.out | apply below_alloc | apply pw_below_drewN | apply below_drew1 | refine below_set ?_ GE521.out | refine below_set ?_ GE534.out | refine below_set ?_ GE545.out) | exact HB.out)) hb); (try clear hb)))
       go_ret
       exact ⟨by rfl, HB.out⟩
      ·rw [if_neg c17] at H
       exact absurd H (by simp)
     ·replace c16 := Bool.eq_false_iff.mpr c16
      subst c16
      rw [if_neg (show ¬ (false = true) by decide)] at H
      exact absurd H (by simp)
end Go.Proofs.Ytmehbabchakkpaa.QLadderClimbs
namespace Go.Proofs.Ytmehbabchakkpaa.OpenKit
open Go.RowKit YtmehbabchakkpaaW.PrintWords Go.ChangeShapes Go.WideShapes
def Opens {α : Type} (P : Program) (t : TypeId) (d : Kd α) (wf : α → Prop) : Prop :=
 ∀ {H : Type} (enc : TypeId × Value → H) (W : World) (spare : Nat → Bool) (held : Bool) (fuel : Nat) (cs : List Value) (x : DataW H × List MemPlace),
  DataW.trod enc P W 0 spare held fuel t cs = some x → ∃ a, d.K W a cs ∧ wf a
section
variable {P : Program} {t e : TypeId}
theorem opens_int {k : IntKind} (ht : P.underlying t = some (.int k)) : Opens P t (Kd.int k) (fun a => (Lit.int k a).wf = true) := by
 intro H enc W spare held fuel cs x h
 obtain ⟨n, rfl, _, hw⟩ := DataW.trod_int ht h
 exact ⟨n, rfl, hw⟩
theorem cells_some {W : World} {a : Addr} {n : Nat} {cs : List Value} (h : W.cells? 0 a n = some cs) : cs.length = n ∧ ∀ i u, cs[i]? = some u → W.cell? (a.add i) = some u := by
 unfold World.cells? at h
 rw [if_pos (Nat.zero_le _)] at h
 have hl := mapM_some_length h
 rw [List.length_range] at hl
 refine ⟨hl, fun i u hu => ?_⟩
 have hi : i < n := by
  rw [← hl]
  exact (List.getElem?_eq_some_iff.1 hu).1
 have := mapM_some_get h i i (by simp [hi])
 rw [this, hu]
theorem opens_slice {α : Type} [Inhabited α] {d : Kd α} {wf : α → Prop} (ht : P.underlying t = some (.slice e)) (he : Opens P e d wf) (hsz : P.cellsOf e = d.sz) :
  Opens P t (Kd.slice e d) (fun xs => xs.length ≤ maxLen ∧ ∀ x ∈ xs, wf x) := by
 intro H enc W spare held fuel cs x h
 rcases Go.Deep.open_slice ht h with ⟨rfl, _⟩ | ⟨a, len, cap, m, n, D, Pl, rfl, _, hl, hm, hmm, _, hel⟩
 ·exact ⟨[], ⟨none, 0, rfl, Nat.le_refl _, ⟨rfl, Nat.zero_le _, fun h => absurd h (Nat.lt_irrefl 0)⟩⟩, Nat.zero_le _, by simp⟩
 have hlm : len ≤ m := by rw [hmm]; split <;> omega
 have hx : ∀ i, i < len → ∃ y : α, ∃ c : List Value, c.length = d.sz ∧ d.K W y c ∧ wf y ∧ ∀ j u, c[j]? = some u → W.cell? ((a.add (i * d.sz)).add j) = some u := by
  intro i hi
  obtain ⟨c, hc, hr⟩ := hel i (by omega)
  obtain ⟨y, hy, hw⟩ := he enc W spare held n c _ hr
  rw [hsz] at hc
  obtain ⟨h1, h2⟩ := cells_some hc
  exact ⟨y, c, h1, hy, hw, h2⟩
 obtain ⟨f, hf⟩ := Go.Deep.choose_lt hx
 have hlen : ((List.range len).map f).length = len := by simp
 have hmax : len ≤ maxLen := Nat.le_trans hl hm
 refine ⟨(List.range len).map f, ⟨some a, cap, by rw [hlen], by rw [hlen]; exact hl, ?_⟩, by rw [hlen]; exact hmax, ?_⟩
 ·refine ⟨rfl, by rw [hlen]; exact hmax, fun _ => ⟨a, rfl, fun j p hj => ?_⟩⟩
  have hj' : j < len := by
   have := (List.getElem?_eq_some_iff.1 hj).1
   rwa [hlen] at this
  have e1 : f j = p := by simpa [hj'] using hj
  subst e1
  obtain ⟨c, h1, h2, _, h3⟩ := hf j hj'
  exact ⟨c, h1, h2, fun i u hu => by rw [← Go.Deep.add_add]; exact h3 i u hu⟩
 ·intro y hy
  obtain ⟨i, hi, rfl⟩ := List.mem_map.1 hy
  obtain ⟨_, _, _, hw, _⟩ := hf i (List.mem_range.1 hi)
  exact hw
def OpensF {α : Type} (P : Program) (o : Nat) (fs : List Field) (d : Kd α) (wf : α → Prop) : Prop :=
 ∀ {H : Type} (enc : TypeId × Value → H) (W : World) (spare : Nat → Bool) (held : Bool) (n : Nat) (cs : List Value),
  (∀ f, f ∈ fs → ∃ x, DataW.trod enc P W 0 spare held n f.type ((cs.drop f.offset).take (P.cellsOf f.type)) = some x) → ∃ a, d.K W a ((cs.drop o).take d.sz) ∧ wf a
theorem opensF_one {α : Type} {d : Kd α} {wf : α → Prop} {f : Field} {o : Nat} (ho : f.offset = o) (he : Opens P f.type d wf) (hsz : P.cellsOf f.type = d.sz) : OpensF P o [f] d wf := by
 intro H enc W spare held n cs h
 obtain ⟨x, hx⟩ := h f (by simp)
 rw [ho, hsz] at hx
 exact he enc W spare held n _ _ hx
theorem opensF_cons {α β : Type} {d : Kd α} {d' : Kd β} {wf : α → Prop} {wf' : β → Prop} {f : Field} {fs : List Field} {o : Nat} (ho : f.offset = o) (he : Opens P f.type d wf) (hsz : P.cellsOf f.type = d.sz)
  (hr : OpensF P (o + d.sz) fs d' wf') : OpensF P o (f :: fs) (Kd.pair d d') (fun x => wf x.1 ∧ wf' x.2) := by
 intro H enc W spare held n cs h
 obtain ⟨x, hx⟩ := h f (by simp)
 rw [ho, hsz] at hx
 obtain ⟨a, ha, hwa⟩ := he enc W spare held n _ _ hx
 obtain ⟨b, hb, hwb⟩ := hr enc W spare held n cs fun g hg => h g (by simp [hg])
 refine ⟨(a, b), ⟨_, _, ?_, ha, hb⟩, hwa, hwb⟩
 show (cs.drop o).take (d.sz + d'.sz) = _
 rw [List.take_add, List.drop_drop]
theorem opens_struct {α β : Type} {d : Kd α} {wf : α → Prop} {fs : Array Field} (ht : P.underlying t = some (.struct fs)) (hf : OpensF P 0 fs.toList d wf) (hsz : P.cellsOf t = d.sz) (g : β → α) (mk : α → β) (hg : ∀ x, g (mk x) = x) :
  Opens P t (Kd.iso d g) (fun y => wf (g y)) := by
 intro H enc W spare held fuel cs x h
 obtain ⟨xs, n, _, _, hl, hn, hfs⟩ := DataW.trod_struct ht h
 obtain ⟨a, ha, hw⟩ := hf enc W spare held n cs (by
  intro f hf
  obtain ⟨i, hi, e⟩ := List.getElem_of_mem hf
  have e' : fs[i]? = some f := by
   rw [← Array.getElem?_toList]
   rw [List.getElem?_eq_getElem hi, e]
  have hlt : i < xs.length := by rw [hn]; simpa using hi
  exact ⟨xs[i], by rw [hfs i f e', List.getElem?_eq_getElem hlt]⟩)
 refine ⟨mk a, ?_, ?_⟩
 ·show d.K W (g (mk a)) cs
  rw [hg]
  rwa [List.drop_zero, List.take_of_length_le (by omega)] at ha
 ·show wf (g (mk a))
  rw [hg]
  exact hw
theorem sized_any {H : Type} {enc : TypeId × Value → H} {W : World} {base : Nat} {spare : Nat → Bool} {held : Bool} {a : Option Addr} {len cap : Nat} {d : DataW H} {ps : List MemPlace} {ts : List TypeId} {ds : List (DataW H)} {j : Nat}
  (hsz : (DataW.weightsEach P ts ds).all (· ≤ reachBytes) = true) (ht : ts[j]? = some t) (hd : ds[j]? = some d) (hu : P.underlying t = some (.slice e)) {B : Nat} (hB : P.bytesOf e = B)
  (h : DataW.Trod enc P W base spare held t (.slice a len cap) d ps) : len * B ≤ 140737488351232 := by
 obtain ⟨fuel, hf⟩ := h
 rcases Go.Deep.open_slice hu hf with ⟨hcs, _⟩ | ⟨x, l, c, m, n, D, Pl, hcs, _, hl, _, _, hx, _⟩
 ·simp [Value.cells] at hcs
  obtain ⟨rfl, rfl, rfl⟩ := hcs
  simp
 ·simp [Value.cells] at hcs
  obtain ⟨rfl, rfl, rfl⟩ := hcs
  obtain ⟨hx, _⟩ := Prod.mk.inj hx
  subst hx
  have z := sized_slice hsz ht hd hu
  rw [hB] at z
  refine Nat.le_trans (Nat.mul_le_mul_right _ ?_) z
  simp
end
end Go.Proofs.Ytmehbabchakkpaa.OpenKit
namespace Go.Proofs.Ytmehbabchakkpaa.Pure
open Go.RowKit QLadderClimbs YtmehbabchakkpaaW.PrintWords
def StmLadderClimbs : Prop := ∀ (x0 : S23) (l1 : List (List Int)), ((fun y : S23 => (fun a : Int => (Lit.int .i64 a).wf = true) y.f0 ∧ (fun a : Int => (Lit.int .i64 a).wf = true) y.f1 ∧ (fun a : Int => (Lit.int .i64 a).wf = true) y.f2 ∧ (fun a : Int => (Lit.int .i64 a).wf = true) y.f3 ∧ (fun a : Int => (Lit.int .i64 a).wf = true) y.f4 ∧ (fun a : Int => (Lit.int .i64 a).wf = true) y.f5 ∧ (fun a : Int => (Lit.int .i64 a).wf = true) y.f6) x0) → (l1.length * 24 ≤ 140737488351232) → ((fun xs : List (List Int) => xs.length ≤ maxLen ∧ ∀ x ∈ xs, (fun xs : List Int => xs.length ≤ maxLen ∧ ∀ x ∈ xs, (fun a : Int => (Lit.int .u8 a).wf = true) x) x) l1) → ∃ k, l09_LadderClimbs.f k x0.f0 x0.f1 x0.f2 x0.f3 x0.f4 x0.f5 x0.f6 l1 = some true
end Go.Proofs.Ytmehbabchakkpaa.Pure
namespace Go.Proofs.Ytmehbabchakkpaa.EvKit
open Go.RowKit YtmehbabchakkpaaW.PrintWords
theorem Ev.pos {α : Type} {c : Prop} [Decidable c] {f g : Nat → Option α} {r : α} (h : c) (k : Ev f r) : Ev (fun n => if c then f n else g n) r := by
 obtain ⟨K, k⟩ := k
 exact ⟨K, fun n hn => by simp only [if_pos h]; exact k n hn⟩
theorem Ev.neg {α : Type} {c : Prop} [Decidable c] {f g : Nat → Option α} {r : α} (h : ¬ c) (k : Ev g r) : Ev (fun n => if c then f n else g n) r := by
 obtain ⟨K, k⟩ := k
 exact ⟨K, fun n hn => by simp only [if_neg h]; exact k n hn⟩
theorem Ev.ite {α : Type} {c : Prop} [Decidable c] {f g : Nat → Option α} {r : α} (h : c → Ev f r) (k : ¬ c → Ev g r) : Ev (fun n => if c then f n else g n) r := by
 by_cases hc : c
 ·exact Ev.pos hc (h hc)
 ·exact Ev.neg hc (k hc)
theorem Ev.eq {α : Type} {f : Nat → Option α} {r r' : α} (k : Ev f r) (h : r = r') : Ev f r' := h ▸ k
theorem Ev.ret {α : Type} {r r' : α} (h : r = r') : Ev (fun _ => some r) r' := h ▸ Ev.now r
theorem Ev.bindv {α β : Type} {o : Option α} {f : Nat → α → Option β} {a : α} {r : β} (h : o = some a) (k : Ev (fun n => f n a) r) : Ev (fun n => o.bind (f n)) r := by
 subst h
 exact k
theorem rd_nat {l : List Int} {i : Nat} (h : i < l.length) : rd l (i : Int) = l[i] := by
 simp [rd, h]
theorem rd_mem {l : List Int} {i : Int} (h0 : 0 ≤ i) (h : i < (l.length : Int)) : rd l i ∈ l := by
 obtain ⟨n, rfl⟩ := Int.eq_ofNat_of_zero_le h0
 have h' : n < l.length := by exact_mod_cast h
 rw [rd_nat h']
 exact List.getElem_mem h'
theorem drop_rd {l : List Int} {i : Nat} (h : i < l.length) : l.drop i = rd l (i : Int) :: l.drop (i + 1) := by
 rw [rd_nat h]
 exact List.drop_eq_getElem_cons h
theorem w64_id {x : Int} (h0 : -9223372036854775808 ≤ x) (h : x ≤ 9223372036854775807) : wrap64 x = x := by
 unfold wrap64
 omega
theorem w64_succ {i : Nat} (h : i < 9000000000000000000) : wrap64 ((i : Int) + 1) = ((i + 1 : Nat) : Int) := by
 unfold wrap64
 omega
theorem w_u64 (n : Int) (h₀ : 0 ≤ n) (h₁ : n < 18446744073709551616) : IntKind.u64.wrap n = n := by
 simp [IntKind.wrap, IntKind.bits, IntKind.signed]
 omega
theorem w_u32 (n : Int) (h₀ : 0 ≤ n) (h₁ : n < 4294967296) : IntKind.u32.wrap n = n := by
 simp [IntKind.wrap, IntKind.bits, IntKind.signed]
 omega
theorem w_u16 (n : Int) (h₀ : 0 ≤ n) (h₁ : n < 65536) : IntKind.u16.wrap n = n := by
 simp [IntKind.wrap, IntKind.bits, IntKind.signed]
 omega
theorem w_u8 (n : Int) (h₀ : 0 ≤ n) (h₁ : n < 256) : IntKind.u8.wrap n = n := by
 simp [IntKind.wrap, IntKind.bits, IntKind.signed]
 omega
theorem wf_u8 {x : Int} (h : (Lit.int .u8 x).wf = true) : 0 ≤ x ∧ x < 256 := by
 have h1 : IntKind.u8.min = 0 := by decide
 have h2 : IntKind.u8.max = 255 := by decide
 simp only [Lit.wf, h1, h2, Bool.and_eq_true, decide_eq_true_eq] at h
 omega
end Go.Proofs.Ytmehbabchakkpaa.EvKit
namespace Go.Proofs.Ytmehbabchakkpaa.QLadderClimbs
open Go.RowKit YtmehbabchakkpaaW.PrintWords YtmehbabchakkpaaW.PrintLast YtmehbabchakkpaaW.PrintMore
attribute [local go_sem] max2_int min2_int max_two min_two max_three min_three max_four min_four
set_option linter.unusedVariables false
set_option linter.unusedSimpArgs false
end Go.Proofs.Ytmehbabchakkpaa.QLadderClimbs
namespace Go.Proofs.Ytmehbabchakkpaa.PureLadderClimbs
open Go.RowKit QLadderClimbs YtmehbabchakkpaaW.PrintWords YtmehbabchakkpaaW.PrintLast YtmehbabchakkpaaW.PrintMore EvKit
def okG (a0 a1 a2 a3 a4 a5 a6 : Int) : Prop := (geom_Check_rows a0 a1 a2 a3 a4 a5 a6).all geom_Check_in = true ∧ Int.tmod a1 a0 = 0 ∧ Int.tmod a2 2 = 0
instance (a0 a1 a2 a3 a4 a5 a6 : Int) : Decidable (okG a0 a1 a2 a3 a4 a5 a6) := inferInstanceAs (Decidable (_ ∧ _))
section
variable {a0 a1 a2 a3 a4 a5 a6 : Int}
theorem check_eq : geom_Check.f a0 a1 a2 a3 a4 a5 a6 = some (if okG a0 a1 a2 a3 a4 a5 a6 then 0 else 2) := rfl
theorem in_iff (x lo hi : Int) : geom_Check_in (x, lo, hi) = true ↔ lo ≤ x ∧ x ≤ hi := by
 show (decide (lo ≤ x) && decide (x ≤ hi)) = true ↔ _
 rw [Bool.and_eq_true, decide_eq_true_eq, decide_eq_true_eq]
theorem rows_iff : (geom_Check_rows a0 a1 a2 a3 a4 a5 a6).all geom_Check_in = true ↔ (1 ≤ a0 ∧ a0 ≤ 4) ∧ (2 ≤ a1 ∧ a1 ≤ 256) ∧ (4 ≤ a2 ∧ a2 ≤ 64) ∧ (1 ≤ a3 ∧ a3 ≤ 16) ∧ (4 ≤ a4 ∧ a4 ≤ 512) ∧ (1 ≤ a5 ∧ a5 ≤ 8) ∧ (1 ≤ a6 ∧ a6 ≤ 8) := by
 unfold geom_Check_rows
 simp only [List.all_cons, List.all_nil, Bool.and_true, Bool.and_eq_true, in_iff]
theorem okG_bounds (h : okG a0 a1 a2 a3 a4 a5 a6) : (1 ≤ a3 ∧ a3 ≤ 16) ∧ (4 ≤ a4 ∧ a4 ≤ 512) := by
 obtain ⟨_, _, _, h3, h4, _⟩ := rows_iff.1 h.1
 exact ⟨h3, h4⟩
theorem mul_bound {x y : Int} (hx : 1 ≤ x ∧ x ≤ 16) (hy : 4 ≤ y ∧ y ≤ 600) : 4 ≤ x * y ∧ x * y ≤ 9600 := by
 have h1 := Int.mul_le_mul hx.2 hy.2 (by omega) (by decide)
 have h2 := Int.mul_le_mul hx.1 hy.1 (by decide) (by omega)
 omega
theorem raw_eq : geom_Raw.f a0 a1 a2 a3 a4 a5 a6 = some (if okG a0 a1 a2 a3 a4 a5 a6 then a3 * (a4 + 2) + 31 else 0) := by
 unfold geom_Raw.f
 rw [check_eq]
 by_cases h : okG a0 a1 a2 a3 a4 a5 a6
 ·rw [if_pos h, if_pos h]
  obtain ⟨h3, h4⟩ := okG_bounds h
  have := mul_bound h3 (y := a4 + 2) ⟨by omega, by omega⟩
  show (if (0 : Int) = 0 then some (wrap64 (wrap64 (wrap64 (wrap64 (a3 * wrap64 (a4 + 2)) + 28) + 2) + 1)) else some 0) = _
  rw [if_pos rfl, w64_id (x := a4 + 2) (by omega) (by omega), w64_id (x := a3 * (a4 + 2)) (by omega) (by omega), w64_id (x := a3 * (a4 + 2) + 28) (by omega) (by omega), w64_id (x := a3 * (a4 + 2) + 28 + 2) (by omega) (by omega), w64_id (by omega) (by omega)]
  congr 1
  omega
 ·rw [if_neg h, if_neg h]
  rfl
theorem of_eq : page_of.f a0 a1 a2 a3 a4 a5 a6 = some (a0, a1, a2, a3, a4, a5, a6, wrap64 (a3 * wrap64 (a4 + 2)), decide (okG a0 a1 a2 a3 a4 a5 a6)) := by
 unfold page_of.f
 rw [check_eq]
 by_cases h : okG a0 a1 a2 a3 a4 a5 a6
 ·rw [if_pos h, decide_eq_true h]
  rfl
 ·rw [if_neg h, decide_eq_false h]
  rfl
theorem from4_eq (n low high : Int) : r04_from.f n low high = some (decide (low ≤ n ∧ n ≤ high)) := by
 unfold r04_from.f
 by_cases h : n ≥ low
 ·rw [if_pos h]
  by_cases h2 : n ≤ high
  ·rw [decide_eq_true h2, decide_eq_true ⟨h, h2⟩]
  ·rw [decide_eq_false h2, decide_eq_false fun e => h2 e.2]
 ·rw [if_neg h, decide_eq_false fun e => h e.1]
theorem right_eq : r04_Right.f a0 a1 a2 a3 a4 a5 a6 = some (decide (okG a0 a1 a2 a3 a4 a5 a6)) := by
 unfold r04_Right.f
 simp only [from4_eq, Option.bind_some, decide_eq_true_eq]
 have key := rows_iff (a0 := a0) (a1 := a1) (a2 := a2) (a3 := a3) (a4 := a4) (a5 := a5) (a6 := a6)
 have no : ¬ (geom_Check_rows a0 a1 a2 a3 a4 a5 a6).all geom_Check_in = true → some false = some (decide (okG a0 a1 a2 a3 a4 a5 a6)) := fun h => by
  rw [decide_eq_false fun e => h e.1]
 by_cases h0 : 1 ≤ a0 ∧ a0 ≤ 4
 ·rw [if_pos h0]
  by_cases h1 : 2 ≤ a1 ∧ a1 ≤ 256
  ·rw [if_pos h1]
   by_cases h2 : 4 ≤ a2 ∧ a2 ≤ 64
   ·rw [if_pos h2]
    by_cases h3 : 1 ≤ a3 ∧ a3 ≤ 16
    ·rw [if_pos h3]
     by_cases h4 : 4 ≤ a4 ∧ a4 ≤ 512
     ·rw [if_pos h4]
      by_cases h5 : 1 ≤ a5 ∧ a5 ≤ 8
      ·rw [if_pos h5]
       by_cases h6 : 1 ≤ a6 ∧ a6 ≤ 8
       ·rw [if_pos h6, if_neg (by omega)]
        have hr := key.2 ⟨h0, h1, h2, h3, h4, h5, h6⟩
        rw [Int.tdiv_eq_ediv_of_nonneg (by omega), Int.tdiv_eq_ediv_of_nonneg (by omega)]
        have d1 := Int.ediv_mul_le a1 (b := a0) (by omega)
        have d1' := Int.emod_add_mul_ediv a1 a0
        have d1n := Int.emod_nonneg a1 (b := a0) (by omega)
        have hq0 := Int.ediv_nonneg (a := a1) (b := a0) (by omega) (by omega)
        have hq1 := Int.ediv_le_self (a := a1) a0 (by omega)
        rw [Int.mul_comm a0 (a1 / a0)] at d1'
        rw [w64_id (x := a1 / a0) (by omega) (by omega), w64_id (x := a2 / 2) (by omega) (by omega), w64_id (x := a2 / 2 * 2) (by omega) (by omega)]
        have t1 : Int.tmod a1 a0 = a1 % a0 := Int.tmod_eq_emod_of_nonneg (by omega)
        have t2 : Int.tmod a2 2 = a2 % 2 := Int.tmod_eq_emod_of_nonneg (by omega)
        have hqp : 0 ≤ a1 / a0 * a0 := Int.mul_nonneg hq0 (by omega)
        rw [w64_id (x := a1 / a0 * a0) (by omega) (by omega)]
        generalize a1 / a0 * a0 = q at d1 d1' hqp
        by_cases g : q = a1
        ·rw [if_pos g]
         by_cases g2 : a2 / 2 * 2 = a2
         ·rw [decide_eq_true ⟨hr, by rw [t1]; omega, by rw [t2]; omega⟩]
          exact congrArg some (beq_iff_eq.2 g2)
         ·rw [decide_eq_false fun e => g2 (by have := e.2.2; rw [t2] at this; omega)]
          exact congrArg some (beq_eq_false_iff_ne.2 g2)
        ·rw [if_neg g, decide_eq_false fun e => g (by have := e.2.1; rw [t1] at this; omega)]
       ·rw [if_neg h6]
        exact no fun e => h6 (key.1 e).2.2.2.2.2.2
      ·rw [if_neg h5]
       exact no fun e => h5 (key.1 e).2.2.2.2.2.1
     ·rw [if_neg h4]
      exact no fun e => h4 (key.1 e).2.2.2.2.1
    ·rw [if_neg h3]
     exact no fun e => h3 (key.1 e).2.2.2.1
   ·rw [if_neg h2]
    exact no fun e => h2 (key.1 e).2.2.1
  ·rw [if_neg h1]
   exact no fun e => h1 (key.1 e).2.1
 ·rw [if_neg h0]
  exact no fun e => h0 (key.1 e).1
end
end Go.Proofs.Ytmehbabchakkpaa.PureLadderClimbs
namespace Go.Proofs.Ytmehbabchakkpaa.PackMath
def okSizes (l : List Int) : Bool := decide (l.length ≤ 64) && l.all (fun s => decide (1 ≤ s) && decide (s ≤ 8))
def pkSize (l : List Int) : Int × Bool := if okSizes l then (l.sum, true) else (0, false)
def unle : List Int → Int
 | [] => 0
 | b :: l => b + 256 * unle l
def takeGo : List Int → List Int → Option (List Int)
 | [], _ => some []
 | s :: ss, b => if unle (b.take s.toNat) ≤ 4611686018427387904 then (takeGo ss (b.drop s.toNat)).map (unle (b.take s.toNat) :: ·) else none
def endTake (out : List Int) : Option (List Int) → List Int × Int
 | some l => (out ++ l, 0)
 | none => ([], 11)
def pkTake (sizes b : List Int) : List Int × Int :=
 if okSizes sizes then (if (b.length : Int) < sizes.sum then ([], 10) else if (b.length : Int) > sizes.sum then ([], 13) else endTake [] (takeGo sizes b)) else ([], 2)
theorem okSizes_iff {l : List Int} : okSizes l = true ↔ l.length ≤ 64 ∧ ∀ s ∈ l, 1 ≤ s ∧ s ≤ 8 := by
 simp [okSizes]
theorem unle_nonneg : ∀ (l : List Int), (∀ x ∈ l, 0 ≤ x ∧ x < 256) → 0 ≤ unle l
 | [], _ => by simp [unle]
 | b :: l, h => by
  have h1 := h b (by simp)
  have h2 := unle_nonneg l fun x hx => h x (by simp [hx])
  simp only [unle]
  omega
theorem unle_lt : ∀ (l : List Int), (∀ x ∈ l, 0 ≤ x ∧ x < 256) → unle l < 256 ^ l.length
 | [], _ => by simp [unle]
 | b :: l, h => by
  have h1 := h b (by simp)
  have h2 := unle_lt l fun x hx => h x (by simp [hx])
  simp only [unle, List.length_cons, Int.pow_succ]
  omega
theorem unle_append : ∀ (a b : List Int), unle (a ++ b) = unle a + 256 ^ a.length * unle b
 | [], b => by simp [unle]
 | x :: a, b => by
  simp only [List.cons_append, unle, unle_append a b, List.length_cons, Int.pow_succ]
  rw [Int.mul_add, ← Int.mul_assoc, Int.mul_comm (256 ^ a.length) 256, Int.add_assoc]
theorem sum_nonneg : ∀ {l : List Int}, (∀ s ∈ l, 1 ≤ s ∧ s ≤ 8) → (l.length : Int) ≤ l.sum ∧ l.sum ≤ 8 * l.length
 | [], _ => by simp
 | s :: l, h => by
  have h1 := h s (by simp)
  have h2 := sum_nonneg (l := l) fun x hx => h x (by simp [hx])
  simp only [List.sum_cons, List.length_cons]
  omega
theorem takeGo_length : ∀ {ss b r : List Int}, takeGo ss b = some r → r.length = ss.length
 | [], b, r, h => by simp [takeGo] at h; subst h; rfl
 | s :: ss, b, r, h => by
  simp only [takeGo] at h
  split at h
  ·obtain ⟨r', hr', rfl⟩ := Option.map_eq_some_iff.1 h
   simp [takeGo_length hr']
  ·cases h
theorem pkTake_ok {ss b l : List Int} (h : pkTake ss b = (l, 0)) : okSizes ss = true ∧ (b.length : Int) = ss.sum ∧ takeGo ss b = some l := by
 unfold pkTake at h
 split at h
 ·rename_i hok
  split at h
  ·simp at h
  ·split at h
   ·simp at h
   ·cases e : takeGo ss b with
    | none => simp [e, endTake] at h
    | some b' => simp [e, endTake] at h; exact ⟨hok, by omega, by rw [h]⟩
 ·simp at h
end Go.Proofs.Ytmehbabchakkpaa.PackMath
namespace Go.Proofs.Ytmehbabchakkpaa.PureLadderClimbs
open Go.RowKit QLadderClimbs YtmehbabchakkpaaW.PrintWords YtmehbabchakkpaaW.PrintLast YtmehbabchakkpaaW.PrintMore EvKit PackMath
theorem size_l0 (l : List Int) (hl : l.length ≤ 64) (d : Nat) : ∀ (i : Nat) (n : Int), i + d = l.length → 0 ≤ n → n ≤ 8 * i →
  Ev (fun k => pack_Size.l0 k n l (l.length : Int) (i : Int)) (if (l.drop i).all (fun s => decide (1 ≤ s) && decide (s ≤ 8)) then (n + (l.drop i).sum, true) else (0, false)) := by
 induction d with
 | zero =>
  intro i n hi h0 h1
  refine Ev.step (fun k => pack_Size.l0.eq_2 ..) ?_
  refine Ev.neg (by omega) (Ev.ret ?_)
  rw [List.drop_of_length_le (by omega)]
  simp
 | succ d ih =>
  intro i n hi h0 h1
  refine Ev.step (fun k => pack_Size.l0.eq_2 ..) ?_
  refine Ev.pos (by omega) (Ev.pos (by omega) (Ev.pos (by omega) ?_))
  rw [drop_rd (l := l) (i := i) (by omega)]
  generalize rd l (i : Int) = s
  refine Ev.ite (fun h => Ev.ret ?_) (fun h => Ev.ite (fun h' => Ev.ret ?_) (fun h' => ?_))
  ·have : ¬ 1 ≤ s := by omega
   simp [this]
  ·have : ¬ s ≤ 8 := by omega
   simp [this]
  ·rw [w64_succ (by omega), w64_id (by omega) (by omega)]
   refine Ev.eq (ih (i + 1) (n + s) (by omega) (by omega) (by omega)) ?_
   have e1 : 1 ≤ s := by omega
   have e2 : s ≤ 8 := by omega
   simp only [List.all_cons, List.sum_cons, e1, e2, decide_true, Bool.true_and, Int.add_assoc]
theorem size_ev (l : List Int) : Ev (fun k => pack_Size.f k l) (pkSize l) := by
 refine Ev.congr (fun k => by rw [pack_Size.f]) ?_
 refine Ev.ite (fun h => Ev.ret ?_) (fun h => ?_)
 ·have : ¬ l.length ≤ 64 := by omega
  simp [pkSize, okSizes, this]
 ·have h' : l.length ≤ 64 := by omega
  refine Ev.eq (size_l0 l h' l.length 0 0 (by omega) (by omega) (by omega)) ?_
  simp [pkSize, okSizes, h']
end Go.Proofs.Ytmehbabchakkpaa.PureLadderClimbs
namespace Go.Proofs.Ytmehbabchakkpaa.TagMath
def between (n low high : Int) : Bool := decide (low ≤ n) && decide (n ≤ high)
def mayTag (a b c d : Int) : Bool := between a 1 4 && between b 0 2147483648 && between c 0 2305843009213693952 && between d 0 2147483648
def sizes : List Int := [2, 1, 4, 8, 4, 5]
end Go.Proofs.Ytmehbabchakkpaa.TagMath
namespace Go.Proofs.Ytmehbabchakkpaa.PureLadderClimbs
open Go.RowKit QLadderClimbs YtmehbabchakkpaaW.PrintWords YtmehbabchakkpaaW.PrintLast YtmehbabchakkpaaW.PrintMore EvKit PackMath TagMath
theorem within_eq (n low high : Int) : tag_within.f n low high = some (between n low high) := by
 unfold tag_within.f between
 by_cases h : n ≥ low
 ·rw [if_pos h]
  have h' : low ≤ n := h
  simp [h']
 ·rw [if_neg h]
  have h' : ¬ low ≤ n := h
  simp [h']
theorem may_eq (a b c d : Int) : tag_May.f a b c d = some (mayTag a b c d) := by
 unfold tag_May.f mayTag
 rw [within_eq, within_eq, within_eq, within_eq]
 simp only [Option.bind_some]
 cases between a 1 4 <;> cases between b 0 2147483648 <;> cases between c 0 2305843009213693952 <;> cases between d 0 2147483648 <;> rfl
end Go.Proofs.Ytmehbabchakkpaa.PureLadderClimbs
namespace Go.Proofs.Ytmehbabchakkpaa.BitsKit
open Go.RowKit EvKit
theorem xor_nat (k : IntKind) (j : Nat) (hj : j ≤ k.bits) (hk : ∀ n : Int, 0 ≤ n → n < 2 ^ j → k.wrap n = n) (a b : Nat) (ha : a < 2 ^ j) (hb : b < 2 ^ j) : Go.bits .xor k a b = ((a ^^^ b : Nat) : Int) := by
 have hp : 2 ^ j ≤ 2 ^ k.bits := Nat.pow_le_pow_right (by decide) hj
 have ha' : a % 2 ^ k.bits = a := Nat.mod_eq_of_lt (Nat.lt_of_lt_of_le ha hp)
 have hb' : b % 2 ^ k.bits = b := Nat.mod_eq_of_lt (Nat.lt_of_lt_of_le hb hp)
 simp only [Go.bits, BitVec.ofInt_natCast, BitVec.toNat_xor, BitVec.toNat_ofNat, ha', hb']
 refine hk _ (Int.natCast_nonneg _) ?_
 have := Nat.xor_lt_two_pow ha hb
 exact_mod_cast this
theorem wu8 (n : Int) (h₀ : 0 ≤ n) (h₁ : n < 2 ^ 8) : IntKind.u8.wrap n = n := w_u8 n h₀ (by simpa using h₁)
theorem wu16 (n : Int) (h₀ : 0 ≤ n) (h₁ : n < 2 ^ 16) : IntKind.u16.wrap n = n := w_u16 n h₀ (by simpa using h₁)
theorem wu32 (n : Int) (h₀ : 0 ≤ n) (h₁ : n < 2 ^ 32) : IntKind.u32.wrap n = n := w_u32 n h₀ (by simpa using h₁)
theorem xor_u8 {a b : Nat} (ha : a < 256) (hb : b < 256) : Go.bits .xor .u8 a b = ((a ^^^ b : Nat) : Int) := xor_nat .u8 8 (by decide) wu8 a b ha hb
theorem xor_u16 {a b : Nat} (ha : a < 65536) (hb : b < 65536) : Go.bits .xor .u16 a b = ((a ^^^ b : Nat) : Int) := xor_nat .u16 16 (by decide) wu16 a b ha hb
theorem xor_u32 {a b : Nat} (ha : a < 4294967296) (hb : b < 4294967296) : Go.bits .xor .u32 a b = ((a ^^^ b : Nat) : Int) := xor_nat .u32 32 (by decide) wu32 a b ha hb
theorem and_u8 {a b : Nat} (ha : a < 256) (hb : b < 256) : Go.bits .and .u8 a b = ((a &&& b : Nat) : Int) := (bits_nat .u8 8 (by decide) wu8 a b ha hb).1
theorem and_u16 {a b : Nat} (ha : a < 65536) (hb : b < 65536) : Go.bits .and .u16 a b = ((a &&& b : Nat) : Int) := (bits_nat .u16 16 (by decide) wu16 a b ha hb).1
theorem and_u32 {a b : Nat} (ha : a < 4294967296) (hb : b < 4294967296) : Go.bits .and .u32 a b = ((a &&& b : Nat) : Int) := (bits_nat .u32 32 (by decide) wu32 a b ha hb).1
theorem or_u16 {a b : Nat} (ha : a < 65536) (hb : b < 65536) : Go.bits .or .u16 a b = ((a ||| b : Nat) : Int) := (bits_nat .u16 16 (by decide) wu16 a b ha hb).2
end Go.Proofs.Ytmehbabchakkpaa.BitsKit
namespace Go.Proofs.Ytmehbabchakkpaa.CrcMath
def round (c : Nat) : Nat := c / 2 ^^^ (if c % 2 = 1 then 3988292384 else 0)
def rounds : Nat → Nat → Nat
 | 0, c => c
 | n + 1, c => rounds n (round c)
def crcStep (c b : Nat) : Nat := rounds 8 (c ^^^ b)
def bitStep (c x : Nat) : Nat := c / 2 ^^^ (if c % 2 = x then 0 else 3988292384)
def run (c : Nat) (l : List Nat) : Nat := l.foldl crcStep c
def sum (l : List Nat) : Nat := 4294967295 ^^^ run 4294967295 l
theorem xor_lt32 {a b : Nat} (ha : a < 4294967296) (hb : b < 4294967296) : a ^^^ b < 4294967296 := Nat.xor_lt_two_pow (n := 32) ha hb
theorem round_lt {c : Nat} (h : c < 4294967296) : round c < 4294967296 := by
 unfold round
 refine xor_lt32 (by omega) ?_
 split <;> decide
theorem rounds_lt : ∀ (n : Nat) {c : Nat}, c < 4294967296 → rounds n c < 4294967296
 | 0, _, h => h
 | n + 1, _, h => rounds_lt n (round_lt h)
theorem step_lt {c b : Nat} (hc : c < 4294967296) (hb : b < 256) : crcStep c b < 4294967296 := rounds_lt 8 (xor_lt32 hc (by omega))
theorem run_lt : ∀ {l : List Nat} {c : Nat}, c < 4294967296 → (∀ b ∈ l, b < 256) → run c l < 4294967296
 | [], _, h, _ => h
 | b :: l, c, h, hl => run_lt (l := l) (c := crcStep c b) (step_lt h (hl b (by simp))) fun x hx => hl x (by simp [hx])
theorem xor_mod2 (a b : Nat) : (a ^^^ b) % 2 = (a % 2 + b % 2) % 2 := by
 have h : ∀ n : Nat, n % 2 = (if n.testBit 0 then 1 else 0) := fun n => by
  rw [Nat.testBit_zero]
  rcases Nat.mod_two_eq_zero_or_one n with e | e <;> simp [e]
 rw [h (a ^^^ b), h a, h b, Nat.testBit_xor]
 cases a.testBit 0 <;> cases b.testBit 0 <;> rfl
theorem xor_div2 (a b : Nat) : (a ^^^ b) / 2 = a / 2 ^^^ b / 2 := by
 have := Nat.shiftRight_xor_distrib (a := a) (b := b) (i := 1)
 rw [Nat.shiftRight_eq_div_pow, Nat.shiftRight_eq_div_pow, Nat.shiftRight_eq_div_pow] at this
 exact this
theorem xor_swap (a b c d : Nat) : (a ^^^ b) ^^^ (c ^^^ d) = (a ^^^ c) ^^^ (b ^^^ d) := by
 rw [Nat.xor_assoc, ← Nat.xor_assoc b c d, Nat.xor_comm b c, Nat.xor_assoc c b d, ← Nat.xor_assoc]
theorem round_bit (c b : Nat) : round (c ^^^ b) = bitStep c (b % 2) ^^^ b / 2 := by
 unfold round bitStep
 rw [xor_div2, xor_mod2]
 rw [Nat.xor_assoc, Nat.xor_assoc, Nat.xor_comm (b / 2)]
 congr 2
 rcases Nat.mod_two_eq_zero_or_one c with hc | hc <;> rcases Nat.mod_two_eq_zero_or_one b with hb | hb <;> simp [hc, hb]
def bitsOf : Nat → Nat → List Nat
 | 0, _ => []
 | n + 1, b => b % 2 :: bitsOf n (b / 2)
theorem rounds_bits : ∀ (n c b : Nat), rounds n (c ^^^ b) = (bitsOf n b).foldl bitStep c ^^^ b / 2 ^ n
 | 0, c, b => by simp [rounds, bitsOf]
 | n + 1, c, b => by
  simp only [rounds, bitsOf, List.foldl_cons]
  rw [round_bit, rounds_bits n, Nat.div_div_eq_div_mul, Nat.pow_succ, Nat.mul_comm (2 ^ n)]
theorem step_bits {c b : Nat} (hb : b < 256) : crcStep c b = (bitsOf 8 b).foldl bitStep c := by
 unfold crcStep
 rw [rounds_bits, Nat.div_eq_of_lt (by simpa using hb)]
 simp
theorem run_bits : ∀ (l : List Nat) (c : Nat), (∀ b ∈ l, b < 256) → run c l = (l.flatMap (bitsOf 8)).foldl bitStep c
 | [], _, _ => rfl
 | b :: l, c, h => by
  simp only [run, List.foldl_cons, List.flatMap_cons, List.foldl_append]
  rw [step_bits (h b (by simp))]
  exact run_bits l _ fun x hx => h x (by simp [hx])
theorem bitStep_lt {c x : Nat} (h : c < 4294967296) : bitStep c x < 4294967296 := by
 unfold bitStep
 refine xor_lt32 (by omega) ?_
 split <;> decide
end Go.Proofs.Ytmehbabchakkpaa.CrcMath
namespace Go.Proofs.Ytmehbabchakkpaa.CrcMath
def bitAt (l : List Nat) (i : Nat) : Nat := l.getD (i / 8) 0 / 2 ^ (i % 8) % 2
def bitList (l : List Nat) : List Nat := (List.range (8 * l.length)).map (bitAt l)
theorem bits_eight (b : Nat) : (List.range 8).map (fun i => b / 2 ^ i % 2) = bitsOf 8 b := by
 simp [List.range, List.range.loop, bitsOf, Nat.div_div_eq_div_mul]
theorem bitList_eq : ∀ l : List Nat, bitList l = l.flatMap (bitsOf 8)
 | [] => rfl
 | b :: l => by
  rw [List.flatMap_cons, ← bitList_eq l, ← bits_eight b]
  unfold bitList
  rw [List.length_cons, Nat.mul_add, Nat.mul_one, Nat.add_comm, List.range_add, List.map_append, List.map_map]
  have e1 : (List.range 8).map (bitAt (b :: l)) = (List.range 8).map (fun i => b / 2 ^ i % 2) := by
   refine List.map_congr_left fun i hi => ?_
   have hi := List.mem_range.1 hi
   unfold bitAt
   rw [Nat.div_eq_of_lt hi, Nat.mod_eq_of_lt hi]
   rfl
  rw [e1]
  congr 1
  ·refine List.map_congr_left fun i hi => ?_
   show bitAt (b :: l) (8 + i) = bitAt l i
   unfold bitAt
   rw [show (8 + i) / 8 = i / 8 + 1 by omega, show (8 + i) % 8 = i % 8 by omega, List.getD_cons_succ]
theorem run_bitList {l : List Nat} (c : Nat) (h : ∀ b ∈ l, b < 256) : run c l = (bitList l).foldl bitStep c := by
 rw [bitList_eq, run_bits l c h]
theorem not_xor {r : Nat} (h : r < 4294967296) : 4294967295 - r = 4294967295 ^^^ r := by
 apply Nat.eq_of_testBit_eq
 intro i
 have e1 : 4294967295 - r = 2 ^ 32 - (r + 1) := by omega
 have e2 : (4294967295 : Nat) = 2 ^ 32 - 1 := by decide
 rw [Nat.testBit_xor, e1, Nat.testBit_two_pow_sub_succ (by simpa using h), e2, Nat.testBit_two_pow_sub_one]
 by_cases hi : i < 32
 ·simp [hi]
 ·have : r.testBit i = false := Nat.testBit_lt_two_pow (Nat.lt_of_lt_of_le (m := 2 ^ 32) (by simpa using h) (Nat.pow_le_pow_right (by decide) (by omega)))
  simp [hi, this]
theorem run_append (c : Nat) (a b : List Nat) : run c (a ++ b) = run (run c a) b := List.foldl_append
end Go.Proofs.Ytmehbabchakkpaa.CrcMath
namespace Go.Proofs.Ytmehbabchakkpaa.NatKit
open Go.RowKit YtmehbabchakkpaaW.PrintWords EvKit
def nats (l : List Int) : List Nat := l.map Int.toNat
def ints (l : List Nat) : List Int := l.map Int.ofNat
theorem nats_length (l : List Int) : (nats l).length = l.length := List.length_map _
theorem nats_lt {l : List Int} (h : ∀ x ∈ l, 0 ≤ x ∧ x < 256) : ∀ b ∈ nats l, b < 256 := by
 intro b hb
 obtain ⟨x, hx, rfl⟩ := List.mem_map.1 hb
 have := h x hx
 omega
theorem ints_nats {l : List Int} (h : ∀ x ∈ l, 0 ≤ x) : ints (nats l) = l := by
 unfold ints nats
 rw [List.map_map]
 conv => rhs; rw [← List.map_id l]
 refine List.map_congr_left fun x hx => ?_
 have := h x hx
 show ((x.toNat : Nat) : Int) = x
 omega
theorem nats_append (a b : List Int) : nats (a ++ b) = nats a ++ nats b := List.map_append
theorem nats_take (a : List Int) (n : Nat) : nats (a.take n) = (nats a).take n := List.map_take
theorem rd_ints {l : List Nat} {i : Nat} : rd (ints l) (i : Int) = ((l.getD i 0 : Nat) : Int) := by
 unfold rd ints
 rw [Int.toNat_natCast, List.getD_eq_getElem?_getD, List.getD_eq_getElem?_getD, List.getElem?_map]
 cases l[i]? <;> rfl
theorem rd_nats {l : List Int} (h : ∀ x ∈ l, 0 ≤ x) (i : Nat) : rd l (i : Int) = (((nats l).getD i 0 : Nat) : Int) := by
 conv => lhs; rw [← ints_nats h]
 exact rd_ints
theorem nats_inj {a b : List Int} (ha : ∀ x ∈ a, 0 ≤ x) (hb : ∀ x ∈ b, 0 ≤ x) (h : nats a = nats b) : a = b := by
 rw [← ints_nats ha, ← ints_nats hb, h]
theorem str_eq {a b : List Int} (ha : ∀ x ∈ a, 0 ≤ x ∧ x < 256) (hb : ∀ x ∈ b, 0 ≤ x ∧ x < 256) (h : strOfNums a = strOfNums b) : a = b := by
 have h1 : (a.map fun n => UInt8.ofNat n.toNat) = b.map fun n => UInt8.ofNat n.toNat := by
  have := congrArg (fun s : ByteArray => s.data.toList) h
  simpa [strOfNums] using this
 have h2 : a.map Int.toNat = b.map Int.toNat := by
  have := congrArg (List.map UInt8.toNat) h1
  rw [List.map_map, List.map_map] at this
  have key : ∀ l : List Int, (∀ x ∈ l, 0 ≤ x ∧ x < 256) → l.map (UInt8.toNat ∘ fun n => UInt8.ofNat n.toNat) = l.map Int.toNat := by
   intro l hl
   refine List.map_congr_left fun x hx => ?_
   have := hl x hx
   show (UInt8.ofNat x.toNat).toNat = x.toNat
   rw [UInt8.toNat_ofNat']
   omega
  rw [key a ha, key b hb] at this
  exact this
 exact nats_inj (fun x hx => (ha x hx).1) (fun x hx => (hb x hx).1) h2
theorem rd_ints_lt {l : List Nat} {i : Nat} (h : i < l.length) : rd (ints l) (i : Int) = ((l[i] : Nat) : Int) := by
 rw [rd_ints, List.getD_eq_getElem?_getD, List.getElem?_eq_getElem h]
 rfl
theorem ints_set (l : List Nat) (i v : Nat) : (ints l).set i (v : Int) = ints (l.set i v) := by
 unfold ints
 rw [List.map_set]
 rfl
theorem ints_length (l : List Nat) : (ints l).length = l.length := List.length_map _
theorem ints_byte {l : List Nat} (h : ∀ b ∈ l, b < 256) : ∀ x ∈ ints l, 0 ≤ x ∧ x < 256 := by
 intro x hx
 obtain ⟨b, hb, rfl⟩ := List.mem_map.1 hx
 have := h b hb
 exact ⟨Int.natCast_nonneg b, by show ((b : Nat) : Int) < 256; omega⟩
end Go.Proofs.Ytmehbabchakkpaa.NatKit
namespace Go.Proofs.Ytmehbabchakkpaa.PureLadderClimbs
open Go.RowKit QLadderClimbs YtmehbabchakkpaaW.PrintWords YtmehbabchakkpaaW.PrintLast YtmehbabchakkpaaW.PrintMore EvKit BitsKit CrcMath NatKit
theorem round_eq {c : Nat} (h : c < 4294967296) : Go.bits .xor .u32 ((c : Int) / 2) (Go.bits .and .u32 3988292384 ((-(Go.bits .and .u32 (c : Int) 1)) % 4294967296)) = ((round c : Nat) : Int) := by
 have e1 : Go.bits .and .u32 (c : Int) 1 = ((c % 2 : Nat) : Int) := by
  have := and_u32 (a := c) (b := 1) h (by decide)
  rw [Nat.and_one_is_mod] at this
  exact this
 rw [e1, show (c : Int) / 2 = ((c / 2 : Nat) : Int) from by omega]
 unfold round
 rcases Nat.mod_two_eq_zero_or_one c with hc | hc
 ·rw [hc, if_neg (by decide)]
  have e2 : Go.bits .and .u32 3988292384 ((-((0 : Nat) : Int)) % 4294967296) = ((0 : Nat) : Int) := by
   have := and_u32 (a := 3988292384) (b := 0) (by decide) (by decide)
   rw [Nat.and_zero] at this
   exact this
  rw [e2, xor_u32 (by omega) (by decide)]
 ·rw [hc, if_pos rfl]
  have e2 : Go.bits .and .u32 3988292384 ((-((1 : Nat) : Int)) % 4294967296) = ((3988292384 : Nat) : Int) := by
   have := and_u32 (a := 3988292384) (b := 4294967295) (by decide) (by decide)
   exact this
  rw [e2, xor_u32 (by omega) (by decide)]
theorem step_l0 (d : Nat) : ∀ (c i : Nat), c < 4294967296 → i + d = 8 → Ev (fun k => crc_step.l0 k (c : Int) (i : Int)) ((rounds d c : Nat) : Int) := by
 induction d with
 | zero =>
  intro c i hc hi
  refine Ev.step (fun k => crc_step.l0.eq_2 ..) ?_
  exact Ev.neg (by omega) (Ev.ret rfl)
 | succ d ih =>
  intro c i hc hi
  refine Ev.step (fun k => crc_step.l0.eq_2 ..) ?_
  refine Ev.pos (by omega) ?_
  rw [round_eq hc, w64_succ (by omega)]
  exact ih (round c) (i + 1) (round_lt hc) (by omega)
theorem step_ev {c b : Nat} (hc : c < 4294967296) (hb : b < 256) : Ev (fun k => crc_step.f k (c : Int) (b : Int)) ((crcStep c b : Nat) : Int) := by
 refine Ev.congr (fun k => by rw [crc_step.f]) ?_
 rw [show ((b : Int)) % 4294967296 = (b : Int) from by omega, xor_u32 hc (by omega)]
 exact step_l0 8 _ 0 (xor_lt32 hc (by omega)) (by omega)
def AllBytes (ls : List (List Int)) : Prop := ∀ l ∈ ls, ∀ x ∈ l, 0 ≤ x ∧ x < 256
theorem sum_l1 {ls : List (List Int)} {len i : Int} {row : List Int} {r : Int} (hrow : ∀ x ∈ row, 0 ≤ x ∧ x < 256) (hl : row.length < 1000000000) (d : Nat) : ∀ (c j : Nat), c < 4294967296 → j + d = row.length →
  Ev (fun k => crc_Sum.l0 k ((run c ((nats row).drop j) : Nat) : Int) ls len (wrap64 (i + 1))) r → Ev (fun k => crc_Sum.l1 k (c : Int) ls len i row (row.length : Int) (j : Int)) r := by
 induction d with
 | zero =>
  intro c j hc hj h
  refine Ev.step (fun k => crc_Sum.l1.eq_2 ..) ?_
  refine Ev.neg (by omega) ?_
  rw [List.drop_of_length_le (by rw [nats_length]; omega)] at h
  exact h
 | succ d ih =>
  intro c j hc hj h
  have hx := hrow _ (rd_mem (l := row) (i := (j : Int)) (by omega) (by omega))
  have hr := rd_nats (l := row) (fun x hx => (hrow x hx).1) j
  have hb : (nats row).getD j 0 < 256 := by omega
  refine Ev.step (fun k => crc_Sum.l1.eq_2 ..) ?_
  refine Ev.pos (by omega) ?_
  refine Ev.pos (by omega) ?_
  refine Ev.pos (by omega) ?_
  rw [hr]
  refine Ev.bind (step_ev hc hb) ?_
  rw [w64_succ (by omega)]
  refine ih _ (j + 1) (step_lt hc hb) (by omega) ?_
  have hj' : j < (nats row).length := by rw [nats_length]; omega
  rw [List.drop_eq_getElem_cons hj'] at h
  rw [List.getD_eq_getElem?_getD, List.getElem?_eq_getElem hj']
  exact h
theorem sum_l0 {ls : List (List Int)} (hls : AllBytes ls) (hn : ls.length < 1000000000) (hl : ∀ l ∈ ls, l.length < 1000000000) (d : Nat) : ∀ (c i : Nat), c < 4294967296 → i + d = ls.length →
  Ev (fun k => crc_Sum.l0 k (c : Int) ls (ls.length : Int) (i : Int)) ((4294967295 ^^^ run c (nats (ls.drop i).flatten) : Nat) : Int) := by
 induction d with
 | zero =>
  intro c i hc hi
  refine Ev.step (fun k => crc_Sum.l0.eq_2 ..) ?_
  refine Ev.neg (by omega) (Ev.ret ?_)
  rw [List.drop_of_length_le (by omega)]
  exact xor_u32 (by decide) hc
 | succ d ih =>
  intro c i hc hi
  have hil : i < ls.length := by omega
  have hrd : rd_L3 ls (i : Int) = ls[i] := by
   unfold rd_L3
   rw [Int.toNat_natCast, List.getD_eq_getElem?_getD, List.getElem?_eq_getElem hil]
   rfl
  have hm : ls[i] ∈ ls := List.getElem_mem hil
  refine Ev.step (fun k => crc_Sum.l0.eq_2 ..) ?_
  refine Ev.pos (by omega) ?_
  refine Ev.pos (by omega) ?_
  refine Ev.pos (by omega) ?_
  rw [hrd, List.drop_eq_getElem_cons hil, List.flatten_cons, nats_append, run_append]
  refine sum_l1 (row := ls[i]) (hls _ hm) (hl _ hm) ls[i].length c 0 hc (by omega) ?_
  rw [List.drop_zero, w64_succ (by omega)]
  exact ih _ (i + 1) (run_lt hc (nats_lt (hls _ hm))) (by omega)
theorem sum_ev {ls : List (List Int)} (hls : AllBytes ls) (hn : ls.length < 1000000000) (hl : ∀ l ∈ ls, l.length < 1000000000) : Ev (fun k => crc_Sum.f k ls) ((CrcMath.sum (nats ls.flatten) : Nat) : Int) := by
 refine Ev.congr (fun k => by rw [crc_Sum.f]) ?_
 have := sum_l0 hls hn hl ls.length 4294967295 0 (by decide) (by omega)
 unfold CrcMath.sum
 simpa using this
theorem sum_one {l : List Int} (hl : ∀ x ∈ l, 0 ≤ x ∧ x < 256) (hn : l.length < 1000000000) : Ev (fun k => crc_Sum.f k [l]) ((CrcMath.sum (nats l) : Nat) : Int) := by
 have := sum_ev (ls := [l]) (by intro r hr; rw [List.mem_singleton.1 hr]; exact hl) (by simp) (by intro r hr; rw [List.mem_singleton.1 hr]; exact hn)
 simpa using this
def four (n : Nat) : List Int := [((n % 256 : Nat) : Int), ((n / 256 % 256 : Nat) : Int), ((n / 65536 % 256 : Nat) : Int), ((n / 16777216 % 256 : Nat) : Int)]
theorem four_byte (n : Nat) : ∀ x ∈ four n, 0 ≤ x ∧ x < 256 := by
 intro x hx
 simp only [four, List.mem_cons, List.not_mem_nil, or_false] at hx
 omega
theorem shift_at (n i : Nat) (hi : i < 4) : shr .u32 (n : Int) (IntKind.u64.wrap (wrap64 (8 * (i : Int)))) % 256 = ((n / 256 ^ i % 256 : Nat) : Int) := by
 rw [w64_id (x := 8 * (i : Int)) (by omega) (by omega), w_u64 _ (by omega) (by omega)]
 have : i = 0 ∨ i = 1 ∨ i = 2 ∨ i = 3 := by omega
 rcases this with rfl | rfl | rfl | rfl
 ·rw [show shr .u32 (n : Int) (8 * ((0 : Nat) : Int)) = n / 1 from by simp [shr]]
  simp
 ·rw [show shr .u32 (n : Int) (8 * ((1 : Nat) : Int)) = n / 256 from by simp [shr, IntKind.bits]]
  omega
 ·rw [show shr .u32 (n : Int) (8 * ((2 : Nat) : Int)) = n / 65536 from by simp [shr, IntKind.bits], show 256 ^ 2 = 65536 from rfl]
  omega
 ·rw [show shr .u32 (n : Int) (8 * ((3 : Nat) : Int)) = n / 16777216 from by simp [shr, IntKind.bits], show 256 ^ 3 = 16777216 from rfl]
  omega
theorem bytes_l0 (n : Nat) (d : Nat) : ∀ (i : Nat) (l : List Int), i + d = 4 → l.length = 4 → Ev (fun k => crc_Bytes.l0 k (n : Int) l 4 (i : Int)) ((List.range 4).map fun j => if i ≤ j then ((n / 256 ^ j % 256 : Nat) : Int) else l.getD j 0) := by
 induction d with
 | zero =>
  intro i l hi hl
  refine Ev.step (fun k => crc_Bytes.l0.eq_2 ..) ?_
  refine Ev.neg (by omega) (Ev.ret ?_)
  obtain ⟨a, b, c, e, rfl⟩ : ∃ a b c e, l = [a, b, c, e] := by
   match l, hl with
   | [a, b, c, e], _ => exact ⟨a, b, c, e, rfl⟩
  have : i = 4 := by omega
  subst this
  rfl
 | succ d ih =>
  intro i l hi hl
  refine Ev.step (fun k => crc_Bytes.l0.eq_2 ..) ?_
  refine Ev.pos (by omega) ?_
  have hw : 0 ≤ IntKind.u64.wrap (wrap64 (8 * (i : Int))) := by rw [w64_id (by omega) (by omega), w_u64 _ (by omega) (by omega)]; omega
  refine Ev.pos hw ?_
  refine Ev.pos (by omega) ?_
  refine Ev.pos (by omega) ?_
  rw [shift_at n i (by omega), w64_succ (by omega)]
  refine Ev.eq (ih (i + 1) _ (by omega) (by rw [List.length_set]; exact hl)) ?_
  refine List.map_congr_left fun j hj => ?_
  have hj := List.mem_range.1 hj
  rw [Int.toNat_natCast, List.getD_eq_getElem?_getD, List.getElem?_set]
  by_cases h1 : i = j
  ·subst h1
   rw [if_neg (by omega), if_pos (Nat.le_refl _), if_pos rfl, if_pos (by omega)]
   rfl
  ·rw [if_neg h1]
   by_cases h2 : i + 1 ≤ j
   ·rw [if_pos h2, if_pos (by omega)]
   ·rw [if_neg h2, if_neg (by omega), List.getD_eq_getElem?_getD]
theorem bytes_ev (n : Nat) : Ev (fun k => crc_Bytes.f k (n : Int)) (four n) := by
 refine Ev.congr (fun k => by rw [crc_Bytes.f]) ?_
 refine Ev.pos (by decide) ?_
 simp only [Option.bind_some]
 refine Ev.eq (bytes_l0 n 4 0 [0, 0, 0, 0] (by omega) rfl) ?_
 simp [List.range, List.range.loop, four]
end Go.Proofs.Ytmehbabchakkpaa.PureLadderClimbs
namespace Go.Proofs.Ytmehbabchakkpaa.LenMath
def len (p : Nat) : Nat := if p = 0 then 0 else Nat.log2 p + 1
def isPow (p : Nat) : Bool := decide (p = 2 ^ Nat.log2 p)
theorem len_lt (p : Nat) : p < 2 ^ len p := by
 unfold len
 split
 ·omega
 ·exact Nat.lt_log2_self
theorem len_le {p : Nat} (h : 0 < p) : 2 ^ (len p - 1) ≤ p ∧ 1 ≤ len p := by
 unfold len
 rw [if_neg (by omega)]
 exact ⟨Nat.log2_self_le (by omega), by omega⟩
theorem len_unique {p n : Nat} (h1 : 2 ^ n ≤ p) (h2 : p < 2 ^ (n + 1)) : len p = n + 1 := by
 have h0 : 0 < p := Nat.lt_of_lt_of_le (Nat.two_pow_pos n) h1
 obtain ⟨h3, h4⟩ := len_le h0
 have h5 := len_lt p
 have a : n < len p := (Nat.pow_lt_pow_iff_right (by decide : 1 < 2)).1 (Nat.lt_of_le_of_lt h1 h5)
 have b : len p - 1 < n + 1 := (Nat.pow_lt_pow_iff_right (by decide : 1 < 2)).1 (Nat.lt_of_le_of_lt h3 h2)
 omega
theorem isPow_iff {p : Nat} : isPow p = true ↔ ∃ m, p = 2 ^ m := by
 unfold isPow
 rw [decide_eq_true_eq]
 refine ⟨fun h => ⟨_, h⟩, fun ⟨m, h⟩ => ?_⟩
 rw [h, Nat.log2_two_pow]
theorem len_shift {p : Nat} (s : Nat) (h : 2 ^ s ≤ p) : len p = s + len (p / 2 ^ s) := by
 have hq : 0 < p / 2 ^ s := Nat.div_pos h (Nat.two_pow_pos s)
 obtain ⟨h1, h2⟩ := len_le hq
 have h3 := len_lt (p / 2 ^ s)
 obtain ⟨n, hn⟩ : ∃ n, len (p / 2 ^ s) = n + 1 := ⟨len (p / 2 ^ s) - 1, by omega⟩
 rw [hn] at h1 h3 ⊢
 have := len_unique (p := p) (n := s + n) (by
  rw [Nat.pow_add, Nat.mul_comm]
  exact (Nat.le_div_iff_mul_le (Nat.two_pow_pos s)).1 h1) (by
  rw [Nat.add_assoc, Nat.pow_add, Nat.mul_comm]
  exact (Nat.div_lt_iff_lt_mul (Nat.two_pow_pos s)).1 h3)
 omega
theorem len_succ {p : Nat} (h : 0 < p) : len (p + 1) = if isPow (p + 1) then len p + 1 else len p := by
 obtain ⟨h1, h2⟩ := len_le h
 have h3 := len_lt p
 obtain ⟨n, hn⟩ : ∃ n, len p = n + 1 := ⟨len p - 1, by omega⟩
 rw [hn] at h1 h3 ⊢
 simp only [Nat.add_sub_cancel] at h1
 by_cases hp : isPow (p + 1) = true
 ·rw [if_pos hp]
  obtain ⟨m, hm⟩ := isPow_iff.1 hp
  have a : n < m := (Nat.pow_lt_pow_iff_right (by decide : 1 < 2)).1 (by omega)
  have b : m ≤ n + 1 := (Nat.pow_le_pow_iff_right (by decide : 1 < 2)).1 (by omega)
  have e : m = n + 1 := by omega
  rw [hm, e]
  refine len_unique (Nat.le_refl _) ?_
  rw [Nat.pow_succ 2 (n + 1)]
  have := Nat.two_pow_pos (n + 1)
  omega
 ·rw [if_neg hp]
  refine len_unique (by omega) ?_
  have : p + 1 ≠ 2 ^ (n + 1) := fun e => hp (isPow_iff.2 ⟨_, e⟩)
  omega
theorem len_add {p : Nat} (h0 : 0 < p) (d : Nat) : len p ≤ len (p + d) ∧ len (p + d) - len p ≤ d := by
 induction d with
 | zero =>
  rw [Nat.add_zero]
  omega
 | succ d ih =>
  rw [← Nat.add_assoc, len_succ (by omega)]
  split <;> omega
theorem len_mono {p q : Nat} (h0 : 0 < p) (h : p ≤ q) : len p ≤ len q ∧ len q - len p ≤ q - p := by
 have := len_add h0 (q - p)
 rwa [show p + (q - p) = q by omega] at this
theorem place_unique {p q : Nat} (hp : isPow p = false) (hq : isPow q = false) (h0 : 0 < p) (h1 : 0 < q) (h : p - len p = q - len q) (hl : len p ≤ p) (hl' : len q ≤ q) : p = q := by
 have key : ∀ {p q : Nat}, isPow q = false → 0 < p → p < q → len p ≤ p → p - len p < q - len q := by
  intro p q hq h0 hlt hl
  obtain ⟨m, rfl⟩ : ∃ m, q = m + 1 := ⟨q - 1, by omega⟩
  have h1 := len_mono h0 (show p ≤ m by omega)
  rw [len_succ (by omega), hq, if_neg (by decide)]
  omega
 rcases Nat.lt_trichotomy p q with hlt | e | hlt
 ·have := key hq h0 hlt hl
  omega
 ·exact e
 ·have := key hp h1 hlt hl'
  omega
theorem and_pow : ∀ n : Nat, 0 < n → ((n &&& (n - 1) = 0) ↔ isPow n = true) := by
 intro n
 induction n using Nat.strongRecOn with
 | _ n ih =>
  intro h
  rcases Nat.lt_or_ge n 2 with h2 | h2
  ·have : n = 1 := by omega
   subst this
   decide
  ·have bit : ∀ x y : Nat, (x &&& y) % 2 = x % 2 * (y % 2) := by
    intro x y
    have e : ∀ z : Nat, z % 2 = (z.testBit 0).toNat := fun z => by
     rw [Nat.toNat_testBit, Nat.pow_zero, Nat.div_one]
    rw [e x, e y, e (x &&& y), Nat.testBit_and]
    cases x.testBit 0 <;> cases y.testBit 0 <;> decide
   have hb := bit n (n - 1)
   have hd : (n &&& (n - 1)) / 2 = n / 2 &&& (n - 1) / 2 := Nat.and_div_two
   by_cases he : n % 2 = 0
   ·have e1 : (n - 1) / 2 = n / 2 - 1 := by omega
    have hi := ih (n / 2) (by omega) (by omega)
    rw [e1] at hd
    rw [he, Nat.zero_mul] at hb
    have hz : (n &&& (n - 1) = 0) ↔ (n / 2 &&& (n / 2 - 1) = 0) := by
     generalize n &&& (n - 1) = x at hd hb ⊢
     generalize n / 2 &&& (n / 2 - 1) = y at hd ⊢
     omega
    rw [hz, hi, isPow_iff, isPow_iff]
    refine ⟨fun ⟨m, hm⟩ => ⟨m + 1, by rw [Nat.pow_succ]; omega⟩, fun ⟨m, hm⟩ => ?_⟩
    cases m with
    | zero => rw [Nat.pow_zero] at hm; omega
    | succ m => exact ⟨m, by rw [Nat.pow_succ] at hm; omega⟩
   ·have e1 : (n - 1) / 2 = n / 2 := by omega
    rw [e1, Nat.and_self] at hd
    refine ⟨fun hz => ?_, fun hp => ?_⟩
    ·rw [hz] at hd
     omega
    ·obtain ⟨m, hm⟩ := isPow_iff.1 hp
     cases m with
     | zero => rw [Nat.pow_zero] at hm; omega
     | succ m => rw [Nat.pow_succ] at hm; omega
theorem isPow_half {n : Nat} (_ : 1 < n) (he : n % 2 = 0) : isPow (n / 2) = isPow n := by
 rw [Bool.eq_iff_iff, isPow_iff, isPow_iff]
 refine ⟨fun ⟨m, hm⟩ => ⟨m + 1, by rw [Nat.pow_succ]; omega⟩, fun ⟨m, hm⟩ => ?_⟩
 cases m with
 | zero => rw [Nat.pow_zero] at hm; omega
 | succ m => exact ⟨m, by rw [Nat.pow_succ] at hm; omega⟩
theorem isPow_odd {n : Nat} (h : 1 < n) (he : n % 2 ≠ 0) : isPow n = false := by
 rw [Bool.eq_false_iff]
 intro hp
 obtain ⟨m, hm⟩ := isPow_iff.1 hp
 cases m with
 | zero => rw [Nat.pow_zero] at hm; omega
 | succ m => rw [Nat.pow_succ] at hm; omega
theorem len_le22 {p : Nat} (h : p < 4194304) : len p ≤ 22 := by
 rcases Nat.eq_zero_or_pos p with e | h0
 ·subst e
  decide
 ·obtain ⟨h1, h2⟩ := len_le h0
  have : len p - 1 < 22 := (Nat.pow_lt_pow_iff_right (by decide : 1 < 2)).1 (Nat.lt_of_le_of_lt h1 (by simpa using h))
  omega
def IsPlace (n p : Nat) : Prop := isPow p = false ∧ p = n + 1 + len p ∧ 3 ≤ p
theorem place_same {n p q : Nat} (hp : IsPlace n p) (hq : IsPlace n q) : p = q := by
 obtain ⟨h1, h2, h3⟩ := hp
 obtain ⟨h4, h5, h6⟩ := hq
 exact place_unique h1 h4 (by omega) (by omega) (by omega) (by omega) (by omega)
theorem place_of {p : Nat} (h : isPow p = false) (h3 : 3 ≤ p) : ∃ n, IsPlace n p := by
 have h1 := len_add (p := 3) (by omega) (p - 3)
 have e : len 3 = 2 := by decide
 rw [show 3 + (p - 3) = p by omega, e] at h1
 exact ⟨p - 1 - len p, h, by omega, h3⟩
def placeFrom (n : Nat) : Nat → Nat → Nat
 | 0, p => p
 | d + 1, p => if p < n + 1 + len p then placeFrom n d (p + 1) else p
def place (n : Nat) : Nat := placeFrom n 21 (n + 3)
theorem placeFrom_is {n : Nat} (hn : n ≤ 1048576) (d : Nat) : ∀ p : Nat, 3 ≤ p → p + d = n + 24 → p ≤ n + 1 + len p → (isPow p = false ∨ p < n + 1 + len p) → IsPlace n (placeFrom n d p) := by
 induction d with
 | zero =>
  intro p h3 hd hle _
  have := len_le22 (p := p) (by omega)
  omega
 | succ d ih =>
  intro p h3 hd hle hor
  have hl := len_le22 (p := p) (by omega)
  unfold placeFrom
  by_cases he : p < n + 1 + len p
  ·rw [if_pos he]
   have hs := len_succ (p := p) (by omega)
   exact ih (p + 1) (by omega) (by omega) (by rw [hs]; split <;> omega) (by
    rw [hs]
    cases isPow (p + 1)
    ·exact Or.inl rfl
    ·exact Or.inr (by rw [if_pos rfl]; omega))
  ·rw [if_neg he]
   have hpw : isPow p = false := by
    rcases hor with h | h
    ·exact h
    ·omega
   exact ⟨hpw, by omega, h3⟩
theorem isPlace_place {n : Nat} (hn : n ≤ 1048576) : IsPlace n (place n) := by
 have h2 : 2 ≤ len (n + 3) := by
  have := (len_mono (p := 3) (q := n + 3) (by omega) (by omega)).1
  have h3 : len 3 = 2 := by decide
  omega
 refine placeFrom_is hn 21 (n + 3) (by omega) (by omega) (by omega) ?_
 rcases Nat.eq_zero_or_pos n with e | h0
 ·subst e
  exact Or.inl (by decide)
 ·have := (len_mono (p := 4) (q := n + 3) (by omega) (by omega)).1
  have h3 : len 4 = 3 := by decide
  exact Or.inr (by omega)
end Go.Proofs.Ytmehbabchakkpaa.LenMath
namespace Go.Proofs.Ytmehbabchakkpaa.PureLadderClimbs
open Go.RowKit QLadderClimbs YtmehbabchakkpaaW.PrintWords YtmehbabchakkpaaW.PrintLast YtmehbabchakkpaaW.PrintMore EvKit BitsKit LenMath
theorem tab_len : ∀ b : Nat, b < 256 → bt (⟨#[0, 1, 2, 2, 3, 3, 3, 3, 4, 4, 4, 4, 4, 4, 4, 4, 5, 5, 5, 5, 5, 5, 5, 5, 5, 5, 5, 5, 5, 5, 5, 5, 6, 6, 6, 6, 6, 6, 6, 6, 6, 6, 6, 6, 6, 6, 6, 6, 6, 6, 6, 6, 6, 6, 6, 6, 6, 6, 6, 6, 6, 6, 6, 6, 7, 7, 7, 7, 7, 7, 7, 7, 7, 7, 7, 7, 7, 7, 7, 7, 7, 7, 7, 7, 7, 7, 7, 7, 7, 7, 7, 7, 7, 7, 7, 7, 7, 7, 7, 7, 7, 7, 7, 7, 7, 7, 7, 7, 7, 7, 7, 7, 7, 7, 7, 7, 7, 7, 7, 7, 7, 7, 7, 7, 7, 7, 7, 7, 8, 8, 8, 8, 8, 8, 8, 8, 8, 8, 8, 8, 8, 8, 8, 8, 8, 8, 8, 8, 8, 8, 8, 8, 8, 8, 8, 8, 8, 8, 8, 8, 8, 8, 8, 8, 8, 8, 8, 8, 8, 8, 8, 8, 8, 8, 8, 8, 8, 8, 8, 8, 8, 8, 8, 8, 8, 8, 8, 8, 8, 8, 8, 8, 8, 8, 8, 8, 8, 8, 8, 8, 8, 8, 8, 8, 8, 8, 8, 8, 8, 8, 8, 8, 8, 8, 8, 8, 8, 8, 8, 8, 8, 8, 8, 8, 8, 8, 8, 8, 8, 8, 8, 8, 8, 8, 8, 8, 8, 8, 8, 8, 8, 8, 8, 8, 8, 8, 8, 8, 8, 8, 8, 8, 8, 8, 8, 8]⟩ : ByteArray) (b : Int) = ((len b : Nat) : Int) := by
 decide +kernel
theorem len_ev {p : Nat} (hp : p < 4194304) : Ev (fun k => bits_Len.f k (p : Int)) ((len p : Nat) : Int) := by
 refine Ev.congr (fun k => by rw [bits_Len.f]) ?_
 refine Ev.bind (a := ((len p : Nat) : Int)) ?_ (Ev.ret rfl)
 refine Ev.congr (fun k => by rw [bits_Len64.f]) ?_
 refine Ev.neg (by omega) ?_
 refine Ev.step (fun k => bits_Len64.j0.eq_2 ..) ?_
 refine Ev.ite (fun h1 => ?_) (fun h1 => ?_)
 ·refine Ev.neg (by omega) ?_
  refine Ev.pos (by omega) (Ev.pos (by omega) (Ev.ret ?_))
  have hs := len_shift (p := p) 16 (by omega)
  have e : ((p : Int) / 65536) % 256 = ((p / 65536 : Nat) : Int) := by omega
  have h2 := len_le22 hp
  rw [show 2 ^ 16 = 65536 from rfl] at hs
  rw [e, tab_len _ (by omega)]
  clear e
  generalize len (p / 65536) = x at hs ⊢
  rw [w64_id (x := (0 : Int) + 16) (by decide) (by decide), w64_id (x := (x : Int)) (by omega) (by omega), w64_id (by omega) (by omega)]
  omega
 ·refine Ev.ite (fun h2 => ?_) (fun h2 => ?_)
  ·refine Ev.pos (by omega) (Ev.pos (by omega) (Ev.ret ?_))
   have hs := len_shift (p := p) 8 (by omega)
   have e : ((p : Int) / 256) % 256 = ((p / 256 : Nat) : Int) := by omega
   have h2 := len_le22 hp
   rw [show 2 ^ 8 = 256 from rfl] at hs
   rw [e, tab_len _ (by omega)]
   clear e
   generalize len (p / 256) = x at hs ⊢
   rw [w64_id (x := (0 : Int) + 8) (by decide) (by decide), w64_id (x := (x : Int)) (by omega) (by omega), w64_id (by omega) (by omega)]
   omega
  ·refine Ev.pos (by omega) (Ev.pos (by omega) (Ev.ret ?_))
   have e : (p : Int) % 256 = ((p : Nat) : Int) := by omega
   have h2 := len_le22 hp
   rw [e, tab_len _ (by omega)]
   clear e
   generalize len p = x at h2 ⊢
   rw [w64_id (x := (x : Int)) (by omega) (by omega), w64_id (by omega) (by omega)]
   omega
theorem wi64 (n : Int) (h₀ : 0 ≤ n) (h₁ : n < 2 ^ 63) : IntKind.i64.wrap n = n := by
 have e : (2 : Int) ^ 63 = 9223372036854775808 := by decide
 rw [e] at h₁
 simp [IntKind.wrap, IntKind.bits, IntKind.signed]
 omega
theorem and_i64 {a b : Nat} (ha : a < 4611686018427387904) (hb : b < 4611686018427387904) : Go.bits .and .i64 a b = ((a &&& b : Nat) : Int) :=
 (bits_nat .i64 63 (by decide) wi64 a b (by omega) (by omega)).1
theorem pow_test {p : Nat} (h0 : 0 < p) (hp : p < 4194304) : (Go.bits .and .i64 (p : Int) (wrap64 ((p : Int) - 1)) = 0) ↔ isPow p = true := by
 have e : wrap64 ((p : Int) - 1) = ((p - 1 : Nat) : Int) := by rw [w64_id (by omega) (by omega)]; omega
 rw [e, and_i64 (by omega) (by omega), ← and_pow p h0]
 omega
theorem place_l1 {p : Nat} (h0 : 0 < p) (hp : p < 4194304) (h : isPow p = false) : Ev (fun k => hamming_Place.l1 k (p : Int)) (p : Int) := by
 refine Ev.step (fun k => hamming_Place.l1.eq_2 ..) ?_
 refine Ev.neg (fun e => ?_) (Ev.ret rfl)
 rw [(pow_test h0 hp).1 e] at h
 exact absurd h (by decide)
theorem place_l0 {n : Nat} (hn : n ≤ 1048576) (d : Nat) : ∀ p : Nat, 3 ≤ p → p + d = n + 24 → p ≤ n + 1 + len p → (isPow p = false ∨ p < n + 1 + len p) →
  ∃ r : Nat, Ev (fun k => hamming_Place.l0 k (n : Int) (p : Int)) (r : Int) ∧ IsPlace n r ∧ r < 4194304 := by
 induction d with
 | zero =>
  intro p h3 hd hle _
  have := len_le22 (p := p) (by omega)
  omega
 | succ d ih =>
  intro p h3 hd hle hor
  have hl := len_le22 (p := p) (by omega)
  have ev := len_ev (p := p) (by omega)
  by_cases he : p < n + 1 + len p
  ·have hs := len_succ (p := p) (by omega)
   obtain ⟨r, hr, h1, h2⟩ := ih (p + 1) (by omega) (by omega) (by rw [hs]; split <;> omega) (by
    rw [hs]
    cases isPow (p + 1)
    ·exact Or.inl rfl
    ·exact Or.inr (by rw [if_pos rfl]; omega))
   refine ⟨r, ?_, h1, h2⟩
   refine Ev.step (fun k => hamming_Place.l0.eq_2 ..) ?_
   rw [w_u64 _ (by omega) (by omega)]
   refine Ev.bind ev ?_
   clear ev hs
   generalize len p = x at he hle hl ⊢
   rw [w64_id (by omega) (by omega), w64_id (by omega) (by omega), w64_succ (by omega)]
   exact Ev.pos (by omega) hr
  ·have hpw : isPow p = false := by
    rcases hor with h | h
    ·exact h
    ·omega
   refine ⟨p, ?_, ⟨hpw, by omega, h3⟩, by omega⟩
   refine Ev.step (fun k => hamming_Place.l0.eq_2 ..) ?_
   rw [w_u64 _ (by omega) (by omega)]
   refine Ev.bind ev ?_
   clear ev
   have hl1 := place_l1 (p := p) (by omega) (by omega) hpw
   generalize len p = x at he hle hl ⊢
   rw [w64_id (by omega) (by omega), w64_id (x := (n : Int) + 1) (by omega) (by omega)]
   exact Ev.neg (by omega) hl1
theorem place_ev {n : Nat} (hn : n ≤ 1048576) : ∃ r : Nat, Ev (fun k => hamming_Place.f k (n : Int)) (r : Int) ∧ IsPlace n r ∧ r < 4194304 := by
 have h2 : 2 ≤ len (n + 3) := by
  have := (len_mono (p := 3) (q := n + 3) (by omega) (by omega)).1
  have h3 : len 3 = 2 := by decide
  omega
 obtain ⟨r, hr, h⟩ := place_l0 hn 21 (n + 3) (by omega) (by omega) (by omega) (by
  rcases Nat.eq_zero_or_pos n with e | h0
  ·subst e
   exact Or.inl (by decide)
  ·have := (len_mono (p := 4) (q := n + 3) (by omega) (by omega)).1
   have h3 : len 4 = 3 := by decide
   exact Or.inr (by omega))
 refine ⟨r, ?_, h⟩
 refine Ev.congr (fun k => by rw [hamming_Place.f]) ?_
 refine Ev.neg (by omega) ?_
 rw [decide_eq_false (by omega)]
 refine Ev.step (fun k => hamming_Place.j0.eq_2 ..) ?_
 refine Ev.neg (by decide) ?_
 rw [w64_id (by omega) (by omega)]
 exact hr
theorem place_is_ev {n : Nat} (hn : n ≤ 1048576) : Ev (fun k => hamming_Place.f k (n : Int)) ((place n : Nat) : Int) := by
 obtain ⟨r, hr, hp, _⟩ := place_ev hn
 rw [← place_same hp (isPlace_place hn)]
 exact hr
theorem bit_place {n p : Nat} (h : IsPlace n p) (h4 : p ≤ 2097152) : Ev (fun k => hamming_Bit.f k (p : Int)) ((n : Int), true) := by
 obtain ⟨h1, h2, h3⟩ := h
 have hl := len_le22 (p := p) (by omega)
 refine Ev.congr (fun k => by rw [hamming_Bit.f]) ?_
 refine Ev.neg (by omega) (Ev.neg (by omega) (Ev.neg (fun e => ?_) ?_))
 ·rw [(pow_test (by omega) (by omega)).1 e] at h1
  exact absurd h1 (by decide)
 ·rw [w_u64 _ (by omega) (by omega)]
  refine Ev.bind (len_ev (by omega)) (Ev.ret ?_)
  generalize len p = x at h2 hl ⊢
  rw [w64_id (x := (p : Int) - (x : Int)) (by omega) (by omega), w64_id (by omega) (by omega), show (p : Int) - (x : Int) - 1 = (n : Int) from by omega]
end Go.Proofs.Ytmehbabchakkpaa.PureLadderClimbs
