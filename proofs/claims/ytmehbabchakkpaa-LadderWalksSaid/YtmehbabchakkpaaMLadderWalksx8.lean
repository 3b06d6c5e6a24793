import Derived.Test.YtmehbabchakkpaaMLadderWalksx7
namespace Go.Proofs.Ytmehbabchakkpaa.QLadderWalks
open Go.RowKit YtmehbabchakkpaaW.PrintWords YtmehbabchakkpaaW.PrintLast YtmehbabchakkpaaW.PrintMore Short
attribute [local go_sem] max2_int min2_int max_two min_two max_three min_three max_four min_four
set_option linter.unusedVariables false
set_option maxHeartbeats 8000000
set_option maxRecDepth 100000
set_option linter.unusedSimpArgs false
mutual
def page_Decode.j0 : Nat → List Int → Int → Bool → Int → Int → Int → Int → Int → Int → Int → Int → Option (List Int × Int × Int × Int × Int × Int × Int)
 | 0, _, _, _, _, _, _, _, _, _, _, _ => none
 | k + 1, x1, x6, x26, x246000, x246001, x246002, x246003, x246004, x246005, x246006, x246007 => if x26 = true then (some (([] : List Int), 0, 0, 0, 0, 0, 2)) else (page_Decode.j1 k x1 x6 x246000 x246001 x246002 x246003 x246004 x246005 x246006 x246007)
def page_Decode.j1 : Nat → List Int → Int → Int → Int → Int → Int → Int → Int → Int → Int → Option (List Int × Int × Int × Int × Int × Int × Int)
 | 0, _, _, _, _, _, _, _, _, _, _ => none
 | k + 1, x1, x6, x246000, x246001, x246002, x246003, x246004, x246005, x246006, x246007 => (page_shape_label.f x246000 x246001 x246002 x246003 x246004 x246005 x246006 x246007 x1).bind fun t247 => ((bits_Zeros.f k t247).bind fun t250 => (if t250 ≤ 20 then (some (([] : List Int), 0, 0, 0, 0, 2, 0)) else (page_Decode.j2 k x1 x6 x246000 x246001 x246002 x246003 x246004 x246005 x246006 x246007)))
def page_Decode.j2 : Nat → List Int → Int → Int → Int → Int → Int → Int → Int → Int → Int → Option (List Int × Int × Int × Int × Int × Int × Int)
 | 0, _, _, _, _, _, _, _, _, _, _ => none
 | k + 1, x1, x6, x246000, x246001, x246002, x246003, x246004, x246005, x246006, x246007 => (page_shape_chunks.f x246000 x246001 x246002 x246003 x246004 x246005 x246006 x246007 x1).bind fun t251 => ((chunk_All.f k t251 x246004).bind fun bt254 => (if bt254.2.2 = 0 then (page_Decode.j3 k x1 bt254.1 x6 bt254.2.1 x246000 x246001 x246002 x246003 x246004 x246005 x246006 x246007) else (some (([] : List Int), 0, 0, 0, 0, 0, bt254.2.2))))
def page_Decode.j3 : Nat → List Int → List Int → Int → Int → Int → Int → Int → Int → Int → Int → Int → Int → Option (List Int × Int × Int × Int × Int × Int × Int)
 | 0, _, _, _, _, _, _, _, _, _, _, _, _ => none
 | k + 1, x1, x4, x6, x10, x246000, x246001, x246002, x246003, x246004, x246005, x246006, x246007 => (page_shape_label.f x246000 x246001 x246002 x246003 x246004 x246005 x246006 x246007 x1).bind fun t259 => ((chunk_Decode.f k t259).bind fun bt262 => (if bt262.2.2 = 0 then (page_Decode.j4 k x4 x6 x10 bt262.1 bt262.2.1) else (some (([] : List Int), 0, 0, 0, 0, 0, bt262.2.2))))
def page_Decode.j4 : Nat → List Int → Int → Int → List Int → Int → Option (List Int × Int × Int × Int × Int × Int × Int)
 | 0, _, _, _, _, _ => none
 | k + 1, x4, x6, x10, x11, x12 => (some (([] : List Int) : List Int)).bind fun y267 => (if y267.length + x4.length < 140737488355328 then ((some (y267 ++ x4 : List Int)).bind fun y270 => (if y270.length + x11.length < 140737488355328 then ((crc_Check.f k (y270 ++ x11)).bind fun t276 => (if t276 = true then (page_Decode.j5 k x4 x6 x10 x11 x12) else (some (([] : List Int), 0, 0, 0, 0, 0, 12)))) else (none))) else (none))
def page_Decode.j5 : Nat → List Int → Int → Int → List Int → Int → Option (List Int × Int × Int × Int × Int × Int × Int)
 | 0, _, _, _, _, _ => none
 | k + 1, x4, x6, x10, x11, x12 => if 24 ≤ (x11.length : Int) then ((tag_Take.f k (x11.take 24)).bind fun bt281 => (if bt281.2.2.2.2 = 0 then (if (wrap64 (x10 + x12)) > 0 then (some (x4, bt281.1, bt281.2.1, bt281.2.2.1, bt281.2.2.2.1, 1, 0)) else (some (x4, bt281.1, bt281.2.1, bt281.2.2.1, bt281.2.2.2.1, x6, 0))) else (some (([] : List Int), 0, 0, 0, 0, 0, bt281.2.2.2.2)))) else (none)
end
def page_Decode.f (k : Nat) (a0_0 : Int) (a0_1 : Int) (a0_2 : Int) (a0_3 : Int) (a0_4 : Int) (a0_5 : Int) (a0_6 : Int) (l1 : List Int) : Option (List Int × Int × Int × Int × Int × Int × Int) := (page_of.f a0_0 a0_1 a0_2 a0_3 a0_4 a0_5 a0_6).bind fun bt236 => (if bt236.2.2.2.2.2.2.2.2 = true then ((page_shape_size.f bt236.1 bt236.2.1 bt236.2.2.1 bt236.2.2.2.1 bt236.2.2.2.2.1 bt236.2.2.2.2.2.1 bt236.2.2.2.2.2.2.1 bt236.2.2.2.2.2.2.2.1).bind fun t246 => (page_Decode.j0 k l1 0 ((l1.length : Int) != t246) bt236.1 bt236.2.1 bt236.2.2.1 bt236.2.2.2.1 bt236.2.2.2.2.1 bt236.2.2.2.2.2.1 bt236.2.2.2.2.2.2.1 bt236.2.2.2.2.2.2.2.1)) else (page_Decode.j0 k l1 0 true bt236.1 bt236.2.1 bt236.2.2.1 bt236.2.2.2.1 bt236.2.2.2.2.1 bt236.2.2.2.2.2.1 bt236.2.2.2.2.2.2.1 bt236.2.2.2.2.2.2.2.1))
theorem page_Decode.mono_l : ∀ k, (∀ y0 y1 y2 y3 y4 y5 y6 y7 y8 y9 y10, LeO (page_Decode.j0 k y0 y1 y2 y3 y4 y5 y6 y7 y8 y9 y10) (page_Decode.j0 (k + 1) y0 y1 y2 y3 y4 y5 y6 y7 y8 y9 y10)) ∧ (∀ y0 y1 y2 y3 y4 y5 y6 y7 y8 y9, LeO (page_Decode.j1 k y0 y1 y2 y3 y4 y5 y6 y7 y8 y9) (page_Decode.j1 (k + 1) y0 y1 y2 y3 y4 y5 y6 y7 y8 y9)) ∧ (∀ y0 y1 y2 y3 y4 y5 y6 y7 y8 y9, LeO (page_Decode.j2 k y0 y1 y2 y3 y4 y5 y6 y7 y8 y9) (page_Decode.j2 (k + 1) y0 y1 y2 y3 y4 y5 y6 y7 y8 y9)) ∧ (∀ y0 y1 y2 y3 y4 y5 y6 y7 y8 y9 y10 y11, LeO (page_Decode.j3 k y0 y1 y2 y3 y4 y5 y6 y7 y8 y9 y10 y11) (page_Decode.j3 (k + 1) y0 y1 y2 y3 y4 y5 y6 y7 y8 y9 y10 y11)) ∧ (∀ y0 y1 y2 y3 y4, LeO (page_Decode.j4 k y0 y1 y2 y3 y4) (page_Decode.j4 (k + 1) y0 y1 y2 y3 y4)) ∧ (∀ y0 y1 y2 y3 y4, LeO (page_Decode.j5 k y0 y1 y2 y3 y4) (page_Decode.j5 (k + 1) y0 y1 y2 y3 y4))
 | 0 => ⟨fun _ _ _ _ _ _ _ _ _ _ _ r h => by simp [page_Decode.j0] at h, fun _ _ _ _ _ _ _ _ _ _ r h => by simp [page_Decode.j1] at h, fun _ _ _ _ _ _ _ _ _ _ r h => by simp [page_Decode.j2] at h, fun _ _ _ _ _ _ _ _ _ _ _ _ r h => by simp [page_Decode.j3] at h, fun _ _ _ _ _ r h => by simp [page_Decode.j4] at h, fun _ _ _ _ _ r h => by simp [page_Decode.j5] at h⟩
 | k + 1 => by
  obtain ⟨ih0, ih1, ih2, ih3, ih4, ih5⟩ := page_Decode.mono_l k
  refine ⟨?_, ?_, ?_, ?_, ?_, ?_⟩
  ·intro y0 y1 y2 y3 y4 y5 y6 y7 y8 y9 y10
   unfold page_Decode.j0
   repeat' first
   | (with_reducible exact ih0 _ _ _ _ _ _ _ _ _ _ _)
   | (with_reducible exact ih1 _ _ _ _ _ _ _ _ _ _)
   | (with_reducible exact ih2 _ _ _ _ _ _ _ _ _ _)
   | (with_reducible exact ih3 _ _ _ _ _ _ _ _ _ _ _ _)
   | (with_reducible exact ih4 _ _ _ _ _)
   | (with_reducible exact ih5 _ _ _ _ _)
   | (with_reducible exact bits_Zeros.mono _ _)
   | (with_reducible exact chunk_All.mono _ _ _)
   | (with_reducible exact chunk_Decode.mono _ _)
   | (with_reducible exact crc_Check.mono _ _)
   | (with_reducible exact tag_Take.mono _ _)
   | (with_reducible exact LeO.refl _)
   | (with_reducible exact LeO.none _)
   | (with_reducible refine LeO.ite ?_ ?_)
   | (with_reducible refine LeO.bind ?_ (fun _ => ?_))
  ·intro y0 y1 y2 y3 y4 y5 y6 y7 y8 y9
   unfold page_Decode.j1
   repeat' first
   | (with_reducible exact ih0 _ _ _ _ _ _ _ _ _ _ _)
   | (with_reducible exact ih1 _ _ _ _ _ _ _ _ _ _)
   | (with_reducible exact ih2 _ _ _ _ _ _ _ _ _ _)
   | (with_reducible exact ih3 _ _ _ _ _ _ _ _ _ _ _ _)
   | (with_reducible exact ih4 _ _ _ _ _)
   | (with_reducible exact ih5 _ _ _ _ _)
   | (with_reducible exact bits_Zeros.mono _ _)
   | (with_reducible exact chunk_All.mono _ _ _)
   | (with_reducible exact chunk_Decode.mono _ _)
   | (with_reducible exact crc_Check.mono _ _)
   | (with_reducible exact tag_Take.mono _ _)
   | (with_reducible exact LeO.refl _)
   | (with_reducible exact LeO.none _)
   | (with_reducible refine LeO.ite ?_ ?_)
   | (with_reducible refine LeO.bind ?_ (fun _ => ?_))
  ·intro y0 y1 y2 y3 y4 y5 y6 y7 y8 y9
   unfold page_Decode.j2
   repeat' first
   | (with_reducible exact ih0 _ _ _ _ _ _ _ _ _ _ _)
   | (with_reducible exact ih1 _ _ _ _ _ _ _ _ _ _)
   | (with_reducible exact ih2 _ _ _ _ _ _ _ _ _ _)
   | (with_reducible exact ih3 _ _ _ _ _ _ _ _ _ _ _ _)
   | (with_reducible exact ih4 _ _ _ _ _)
   | (with_reducible exact ih5 _ _ _ _ _)
   | (with_reducible exact bits_Zeros.mono _ _)
   | (with_reducible exact chunk_All.mono _ _ _)
   | (with_reducible exact chunk_Decode.mono _ _)
   | (with_reducible exact crc_Check.mono _ _)
   | (with_reducible exact tag_Take.mono _ _)
   | (with_reducible exact LeO.refl _)
   | (with_reducible exact LeO.none _)
   | (with_reducible refine LeO.ite ?_ ?_)
   | (with_reducible refine LeO.bind ?_ (fun _ => ?_))
  ·intro y0 y1 y2 y3 y4 y5 y6 y7 y8 y9 y10 y11
   unfold page_Decode.j3
   repeat' first
   | (with_reducible exact ih0 _ _ _ _ _ _ _ _ _ _ _)
   | (with_reducible exact ih1 _ _ _ _ _ _ _ _ _ _)
   | (with_reducible exact ih2 _ _ _ _ _ _ _ _ _ _)
   | (with_reducible exact ih3 _ _ _ _ _ _ _ _ _ _ _ _)
   | (with_reducible exact ih4 _ _ _ _ _)
   | (with_reducible exact ih5 _ _ _ _ _)
   | (with_reducible exact bits_Zeros.mono _ _)
   | (with_reducible exact chunk_All.mono _ _ _)
   | (with_reducible exact chunk_Decode.mono _ _)
   | (with_reducible exact crc_Check.mono _ _)
   | (with_reducible exact tag_Take.mono _ _)
   | (with_reducible exact LeO.refl _)
   | (with_reducible exact LeO.none _)
   | (with_reducible refine LeO.ite ?_ ?_)
   | (with_reducible refine LeO.bind ?_ (fun _ => ?_))
  ·intro y0 y1 y2 y3 y4
   unfold page_Decode.j4
   repeat' first
   | (with_reducible exact ih0 _ _ _ _ _ _ _ _ _ _ _)
   | (with_reducible exact ih1 _ _ _ _ _ _ _ _ _ _)
   | (with_reducible exact ih2 _ _ _ _ _ _ _ _ _ _)
   | (with_reducible exact ih3 _ _ _ _ _ _ _ _ _ _ _ _)
   | (with_reducible exact ih4 _ _ _ _ _)
   | (with_reducible exact ih5 _ _ _ _ _)
   | (with_reducible exact bits_Zeros.mono _ _)
   | (with_reducible exact chunk_All.mono _ _ _)
   | (with_reducible exact chunk_Decode.mono _ _)
   | (with_reducible exact crc_Check.mono _ _)
   | (with_reducible exact tag_Take.mono _ _)
   | (with_reducible exact LeO.refl _)
   | (with_reducible exact LeO.none _)
   | (with_reducible refine LeO.ite ?_ ?_)
   | (with_reducible refine LeO.bind ?_ (fun _ => ?_))
  ·intro y0 y1 y2 y3 y4
   unfold page_Decode.j5
   repeat' first
   | (with_reducible exact ih0 _ _ _ _ _ _ _ _ _ _ _)
   | (with_reducible exact ih1 _ _ _ _ _ _ _ _ _ _)
   | (with_reducible exact ih2 _ _ _ _ _ _ _ _ _ _)
   | (with_reducible exact ih3 _ _ _ _ _ _ _ _ _ _ _ _)
   | (with_reducible exact ih4 _ _ _ _ _)
   | (with_reducible exact ih5 _ _ _ _ _)
   | (with_reducible exact bits_Zeros.mono _ _)
   | (with_reducible exact chunk_All.mono _ _ _)
   | (with_reducible exact chunk_Decode.mono _ _)
   | (with_reducible exact crc_Check.mono _ _)
   | (with_reducible exact tag_Take.mono _ _)
   | (with_reducible exact LeO.refl _)
   | (with_reducible exact LeO.none _)
   | (with_reducible refine LeO.ite ?_ ?_)
   | (with_reducible refine LeO.bind ?_ (fun _ => ?_))
theorem page_Decode.mono : ∀ a0 a1 a2 a3 a4 a5 a6 a7 k, LeO (page_Decode.f k a0 a1 a2 a3 a4 a5 a6 a7) (page_Decode.f (k + 1) a0 a1 a2 a3 a4 a5 a6 a7) := by
 intro a0 a1 a2 a3 a4 a5 a6 a7 k
 obtain ⟨ih0, ih1, ih2, ih3, ih4, ih5⟩ := page_Decode.mono_l k
 unfold page_Decode.f
 repeat' with_reducible first
  | exact ih0 _ _ _ _ _ _ _ _ _ _ _
  | exact ih1 _ _ _ _ _ _ _ _ _ _
  | exact ih2 _ _ _ _ _ _ _ _ _ _
  | exact ih3 _ _ _ _ _ _ _ _ _ _ _ _
  | exact ih4 _ _ _ _ _
  | exact ih5 _ _ _ _ _
  | exact bits_Zeros.mono _ _
  | exact chunk_All.mono _ _ _
  | exact chunk_Decode.mono _ _
  | exact crc_Check.mono _ _
  | exact tag_Take.mono _ _
  | exact LeO.refl _
  | exact LeO.none _
  | refine LeO.ite ?_ ?_
  | refine LeO.bind ?_ (fun _ => ?_)
def page_Decode.T6 : Bool × List (List Nat × List Nat) := (true, [([], []), ([], []), ([0, 1], [0, 1]), ([], []), ([3], [3]), ([4], [4]), ([2, 5, 2], [2, 5]), ([6], [6]), ([7], [7]), ([7], [7]), ([7], [7]), ([8, 6, 0, 1, 2, 3, 4, 5, 6, 7, 8], [8]), ([9, 11, 0, 1, 2, 3, 4, 5, 6, 7, 8, 9, 11], [9]), ([10, 12, 0, 1, 2, 3, 4, 5, 6, 7, 8, 9, 10, 11, 12], [10])])
def page_Decode.B6 : List Nat := [0, 0, 3, 0, 8, 24, 63, 127, 255, 255, 255, 511, 3071, 8191]
theorem page_Decode.tab6 : rtab .any (opsOf Try.f30 6) = page_Decode.T6 := by kernel_rfl
theorem page_Decode.bits6 : waitsOk page_Decode.T6.2 page_Decode.B6 = true := by kernel_rfl
theorem page_Decode.calls (k : Nat) (a0_0 : Int) (a0_1 : Int) (a0_2 : Int) (a0_3 : Int) (a0_4 : Int) (a0_5 : Int) (a0_6 : Int) (A1 : Option Addr) (c1 : Nat) (l1 : List Int) (r1 : List Int) (r2 : Int) (r3 : Int) (r4 : Int) (r5 : Int) (r6 : Int) (r7 : Int) (w : World) (hr1 : Kd.C (Kd.int .u8) w A1 l1.length l1) (hc1 : l1.length ≤ c1) (h : page_Decode.f k a0_0 a0_1 a0_2 a0_3 a0_4 a0_5 a0_6 l1 = some (r1, r2, r3, r4, r5, r6, r7)) :
  Calls Try.prog 30 #[.agg #[.int .i64 a0_0, .int .i64 a0_1, .int .i64 a0_2, .int .i64 a0_3, .int .i64 a0_4, .int .i64 a0_5, .int .i64 a0_6], .slice A1 l1.length c1] w fun e w' => ∃ v0_ : Value, e = .returned (.tuple #[v0_, .agg #[.int .i64 r2, .int .i64 r3, .int .i64 r4, .int .i64 r5], .int .i64 r6, .int .i64 r7]) ∧ Kd.R (Kd.int .u8) 5 w' w.heap.size (fun _ => True) v0_ r1 ∧ Below w.heap.size w w' := by
 have hu23 := Try.underlying23
 have hu26 := Try.underlying26
 have hu70 := Try.underlying70
 have HR1 := ak_ hr1
 have HC1 := ak_ hc1
 clear hr1 hc1
 have HB := br_ w
 unfold page_Decode.f at h
 have H := h
 clear h
 obtain ⟨⟨t509, t510, t511, t512, t513, t514, t515, t516, t517⟩, A3, H⟩ := bs_ H
 try dsimp only at H
 have HC4 := ak_ H
 clear H
 go_enter Try.func30, Try.ntmps30
 go_upto_region 2 with (first | ((with_reducible refine gate_dst (N := 2) rfl ?_); (try (refine gate_guard (by rfl) ?_; dsimp only)); refine box_event ?hg (N := 2) ?hd (cs := #[.int .i64 a0_0, .int .i64 a0_1, .int .i64 a0_2, .int .i64 a0_3, .int .i64 a0_4, .int .i64 a0_5, .int .i64 a0_6]) (t := 23) ?hr ?_; (case hd => rfl); (case hg => rfl); (case hr => (go_simp; done)); intro gb507 hg w5 hbox hb; have BK507 := ak_ (hbox); have GW507 := ak_ (gw_ hg (below_size HB.out)); have GE507 := ak_ (gw_ hg (below_size HB.out)); replace HB := ak_ (below_step HB.out hb); clear hb hbox hg) | ((with_reducible refine gate_dst (N := 5) rfl ?_); (try (refine gate_guard (by rfl) ?_; dsimp only)); refine box_event ?hg (N := 5) ?hd (cs := #[.int .i64 0, .int .i64 0, .int .i64 0, .int .i64 0]) (t := 26) ?hr ?_; (case hd => rfl); (case hg => rfl); (case hr => (go_simp; done)); intro gb508 hg w6 hbox hb; have BK508 := ak_ (hbox); have GW508 := ak_ (gw_ hg (below_size HB.out)); have GE508 := ak_ (gw_ hg (below_size HB.out)); replace HB := ak_ (below_step HB.out hb); have NB507_508 := ak_ ((by rw [hg]; exact Nat.ne_of_lt (blk_lt BK507.out) : gb507 ≠ gb508)); have NB508_507 := ak_ ((by rw [hg]; exact Nat.ne_of_gt (blk_lt BK507.out) : gb508 ≠ gb507)); replace BK507 := ak_ (blk_below BK507.out hb); clear hb hbox hg; have hnb7 := NB507_508.out; have hnc7 := NB508_507.out; obtain ⟨hcz8_0, hcz8_1, hcz8_2, hcz8_3, hcz8_4, hcz8_5, hcz8_6⟩ := cells7 BK507.out; obtain ⟨hfz8_0, hfz8_1, hfz8_2, hfz8_3, hfz8_4, hfz8_5, hfz8_6⟩ := froz7 BK507.out) | ((with_reducible refine gate_callee (f := 37) rfl ?_); refine goesL_ (some 15) rfl rfl Try.func37 (by kernel_rfl) rfl #[.agg #[.int .i64 a0_0, .int .i64 a0_1, .int .i64 a0_2, .int .i64 a0_3, .int .i64 a0_4, .int .i64 a0_5, .int .i64 a0_6]] rfl (by (try simp only [List.map_toArray, List.map_cons, List.map_nil]); first | done | rfl | (simp only [List.length_drop, List.length_take]; rfl)) ?_; (with_reducible refine (page_of.calls a0_0 a0_1 a0_2 a0_3 a0_4 a0_5 a0_6 t509 t510 t511 t512 t513 t514 t515 t516 t517 _ A3.out).mono ?_); rintro e w9 ⟨rfl, hb⟩; refine ⟨_, rfl, ?_⟩; replace BK507 := ak_ (blk_below BK507.out hb); replace BK508 := ak_ (blk_below BK508.out hb); replace HB := ak_ (below_step HB.out hb); (try clear hb)) | ((with_reducible refine gate_dst (N := 8) rfl ?_); (try (refine gate_guard (by rfl) ?_; dsimp only)); refine box_event ?hg (N := 8) ?hd (cs := #[.int .i64 0, .int .i64 0, .int .i64 0, .int .i64 0, .int .i64 0, .int .i64 0, .int .i64 0, .int .i64 0]) (t := 70) ?hr ?_; (case hd => rfl); (case hg => rfl); (case hr => (go_simp; done)); intro gb518 hg w10 hbox hb; have BK518 := ak_ (hbox); have GW518 := ak_ (gw_ hg (below_size HB.out)); have GE518 := ak_ (gw_ hg (below_size HB.out)); replace HB := ak_ (below_step HB.out hb); have NB507_518 := ak_ ((by rw [hg]; exact Nat.ne_of_lt (blk_lt BK507.out) : gb507 ≠ gb518)); have NB518_507 := ak_ ((by rw [hg]; exact Nat.ne_of_gt (blk_lt BK507.out) : gb518 ≠ gb507)); replace BK507 := ak_ (blk_below BK507.out hb); have NB508_518 := ak_ ((by rw [hg]; exact Nat.ne_of_lt (blk_lt BK508.out) : gb508 ≠ gb518)); have NB518_508 := ak_ ((by rw [hg]; exact Nat.ne_of_gt (blk_lt BK508.out) : gb518 ≠ gb508)); replace BK508 := ak_ (blk_below BK508.out hb); clear hb hbox hg; have hnb11 := NB518_507.out; have hnc11 := NB507_518.out; have hnb12 := NB518_508.out; have hnc12 := NB508_518.out; obtain ⟨hcz13_0, hcz13_1, hcz13_2, hcz13_3, hcz13_4, hcz13_5, hcz13_6, hcz13_7⟩ := cells8 BK518.out; obtain ⟨hfz13_0, hfz13_1, hfz13_2, hfz13_3, hfz13_4, hfz13_5, hfz13_6, hfz13_7⟩ := froz8 BK518.out))
 go_cut [26] (fun v26 wc => ∃ (kq : Nat) (x26_3 : Bool), v26 = .bool x26_3 ∧ Aside0 (page_Decode.j0 kq l1 0 x26_3 t509 t510 t511 t512 t513 t514 t515 t516 = some (r1, r2, r3, r4, r5, r6, r7)) ∧ Aside0 (kq ≤ k) ∧ Aside0 (wc.heap[gb507]? = some (.cells #[.int .i64 a0_0, .int .i64 a0_1, .int .i64 a0_2, .int .i64 a0_3, .int .i64 a0_4, .int .i64 a0_5, .int .i64 a0_6] 23 (0, 0))) ∧ Aside0 (wc.heap[gb508]? = some (.cells #[.int .i64 0, .int .i64 0, .int .i64 0, .int .i64 0] 26 (0, 0))) ∧ Aside0 (wc.heap[gb518]? = some (.cells #[.int .i64 t509, .int .i64 t510, .int .i64 t511, .int .i64 t512, .int .i64 t513, .int .i64 t514, .int .i64 t515, .int .i64 t516] 70 (0, 0))) ∧ Aside0 (Below w.heap.size w wc))
 case first =>
  have H := HC4.out
  clear HC4
  by_cases c14 : t517 = true
  ·subst c14
   rw [if_pos rfl] at H
   obtain ⟨t519, A15, H⟩ := bs_ H
   have H' := ak_ H
   clear H
   have hnb16 := NB518_507.out
   have hnc16 := NB507_518.out
   have hnb17 := NB518_508.out
   have hnc17 := NB508_518.out
   obtain ⟨hcz18_0, hcz18_1, hcz18_2, hcz18_3, hcz18_4, hcz18_5, hcz18_6, hcz18_7⟩ := cells8 BK518.out
   obtain ⟨hfz18_0, hfz18_1, hfz18_2, hfz18_3, hfz18_4, hfz18_5, hfz18_6, hfz18_7⟩ := froz8 BK518.out
   go_wp2_with (go_at_call 56; (with_reducible refine (page_shape_size.calls t509 t510 t511 t512 t513 t514 t515 t516 t519 _ A15.out).mono ?_); rintro e w19 ⟨rfl, hb⟩; replace BK507 := ak_ (blk_below (far8 BK507.out NB507_518.out) hb); replace BK508 := ak_ (blk_below (far8 BK508.out NB508_518.out) hb); replace BK518 := ak_ (blk_below (put8 BK518.out) hb); replace HB := ak_ (below_step (by repeat (first | (with_reducible first | exact HB.out | apply below_alloc | apply pw_below_drewN | apply below_drew1 | refine below_set ?_ GE507.out | refine below_set ?_ GE508.out | refine below_set ?_ GE518.out) | exact HB.out)) hb); (try clear hb))
   go_meet
   case rel => exact ⟨_, (((l1.length : Int) != t519)), (by rfl), H', ⟨by omega⟩, ⟨BK507.out⟩, ⟨BK508.out⟩, ⟨BK518.out⟩, ⟨HB.out⟩⟩
  ·replace c14 := Bool.eq_false_iff.mpr c14
   subst c14
   rw [if_neg (show ¬ (false = true) by decide)] at H
   have H' := ak_ H
   clear H
   go_wp2
   go_meet
   case rel => exact ⟨_, (true), (by rfl), H', ⟨by omega⟩, ⟨(far8 BK507.out NB507_518.out)⟩, ⟨(far8 BK508.out NB508_518.out)⟩, ⟨(put8 BK518.out)⟩, ⟨by repeat (first | (with_reducible first | exact HB.out | apply below_alloc | apply pw_below_drewN | apply below_drew1 | refine below_set ?_ GE507.out | refine below_set ?_ GE508.out | refine below_set ?_ GE518.out) | exact HB.out)⟩⟩
 case rest =>
  clear HC4 hcz13_0 hcz13_1 hcz13_2 hcz13_3 hcz13_4 hcz13_5 hcz13_6 hcz13_7 hcz8_0 hcz8_1 hcz8_2 hcz8_3 hcz8_4 hcz8_5 hcz8_6 hfz13_0 hfz13_1 hfz13_2 hfz13_3 hfz13_4 hfz13_5 hfz13_6 hfz13_7 hfz8_0 hfz8_1 hfz8_2 hfz8_3 hfz8_4 hfz8_5 hfz8_6
  obtain ⟨kq, x26_3, rfl, HA, HJ3, BK507, BK508, BK518, HB⟩ := hcut
  cases kq with
  | zero => exact absurd HA.out (by simp [page_Decode.j0])
  | succ kj3 =>
   have H := HA.out
   clear HA
   simp only [page_Decode.j0] at H
   have HC20 := ak_ H
   clear H
   go_upto_if 26 with (fail)
   go_cut [6] (fun v6 wc => ∃ (kq : Nat) (x6_19 : Int) (x509000_19 : Int) (x509001_19 : Int) (x509002_19 : Int) (x509003_19 : Int), v6 = .int .i64 x6_19 ∧ Aside0 (page_Decode.j1 kq l1 x6_19 t509 t510 t511 t512 t513 t514 t515 t516 = some (r1, r2, r3, r4, r5, r6, r7)) ∧ Aside0 (kq ≤ kj3) ∧ Aside0 (wc.heap[gb507]? = some (.cells #[.int .i64 a0_0, .int .i64 a0_1, .int .i64 a0_2, .int .i64 a0_3, .int .i64 a0_4, .int .i64 a0_5, .int .i64 a0_6] 23 (0, 0))) ∧ Aside0 (wc.heap[gb508]? = some (.cells #[.int .i64 x509000_19, .int .i64 x509001_19, .int .i64 x509002_19, .int .i64 x509003_19] 26 (0, 0))) ∧ Aside0 (wc.heap[gb518]? = some (.cells #[.int .i64 t509, .int .i64 t510, .int .i64 t511, .int .i64 t512, .int .i64 t513, .int .i64 t514, .int .i64 t515, .int .i64 t516] 70 (0, 0))) ∧ Aside0 (Below w.heap.size w wc))
   case first =>
    have H := HC20.out
    clear HC20
    by_cases c21 : x26_3 = true
    ·subst c21
     rw [if_pos rfl] at H
     simp only [Option.some.injEq, Prod.mk.injEq] at H
     obtain ⟨rfl, rfl, rfl, rfl, rfl, rfl, rfl⟩ := H
     have hnb22 := NB508_507.out
     have hnc22 := NB507_508.out
     have hnb23 := NB508_518.out
     have hnc23 := NB518_508.out
     obtain ⟨hcz24_0, hcz24_1, hcz24_2, hcz24_3⟩ := cells4 BK508.out
     obtain ⟨hfz24_0, hfz24_1, hfz24_2, hfz24_3⟩ := froz4 BK508.out
     go_wp2
     refine bodyPost_ret (results_list (rs := [.tmp 4, .cell 5 26, .tmp 6, .tmp 7]) rfl (by simp) (.tmp (.cell gb508 26 #[.int .i64 0, .int .i64 0, .int .i64 0, .int .i64 0] (0, 0) _ rfl (put4 BK508.out) Try.underlying26 rfl (by kernel_rfl) (.tmp (.tmp .nil))))) rfl ?_
     exact ⟨_, by rfl, (Kd.R_nil _ _ _ _ _), by repeat (first | (with_reducible first | exact HB.out | apply below_alloc | apply pw_below_drewN | apply below_drew1 | refine below_set ?_ GE507.out | refine below_set ?_ GE508.out | refine below_set ?_ GE518.out) | exact HB.out)⟩
    ·replace c21 := Bool.eq_false_iff.mpr c21
     subst c21
     rw [if_neg (show ¬ (false = true) by decide)] at H
     have H' := ak_ H
     clear H
     go_wp2
     go_meet
     case rel => exact ⟨_, (0), (0), (0), (0), (0), (by rfl), H', ⟨by have := HJ3.out; omega⟩, ⟨BK507.out⟩, ⟨BK508.out⟩, ⟨BK518.out⟩, ⟨HB.out⟩⟩
   case rest =>
    clear HC20
    obtain ⟨kq, x6_19, x509000_19, x509001_19, x509002_19, x509003_19, rfl, HA, HJ19, BK507, BK508, BK518, HB⟩ := hcut
    cases kq with
    | zero => exact absurd HA.out (by simp [page_Decode.j1])
    | succ kj19 =>
     have H := HA.out
     clear HA
     simp only [page_Decode.j1] at H
     obtain ⟨t520, A25, H⟩ := bs_ H
     obtain ⟨t523, A26, H⟩ := bs_ H
     have HC27 := ak_ H
     clear H
     have hnb28 := NB518_507.out
     have hnc28 := NB507_518.out
     have hnb29 := NB518_508.out
     have hnc29 := NB508_518.out
     obtain ⟨hcz30_0, hcz30_1, hcz30_2, hcz30_3, hcz30_4, hcz30_5, hcz30_6, hcz30_7⟩ := cells8 BK518.out
     obtain ⟨hfz30_0, hfz30_1, hfz30_2, hfz30_3, hfz30_4, hfz30_5, hfz30_6, hfz30_7⟩ := froz8 BK518.out
     go_upto_if 32 with (first | ((with_reducible refine gate_callee (f := 57) rfl ?_); refine goesL_ (some 30) rfl rfl Try.func57 (by kernel_rfl) rfl #[.agg #[.int .i64 t509, .int .i64 t510, .int .i64 t511, .int .i64 t512, .int .i64 t513, .int .i64 t514, .int .i64 t515, .int .i64 t516], .slice A1 l1.length c1] rfl (by (try simp only [List.map_toArray, List.map_cons, List.map_nil]); first | done | rfl | (simp only [List.length_drop, List.length_take]; rfl)) ?_; (with_reducible refine (page_shape_label.calls t509 t510 t511 t512 t513 t514 t515 t516 (fun k_ => k_ < w.heap.size) _ _ l1 t520 _ ?side1 A25.out).mono ?_); (case side1 => exact Kd.V_mk HC1.out (Kd.F_below (Kd.C_F (Kd.heap_int .u8) HR1.out) HB.out)); rintro e w31 ⟨v521, rfl, ho0, hb⟩; refine ⟨_, rfl, ?_⟩; have HO522 := ak_ (Kd.V_lower (Kd.V_mono (ok' := fun k_ => k_ ≠ gb507 ∧ k_ ≠ gb508 ∧ k_ ≠ gb518) ho0 (fun k_ hk_ => ⟨Or.elim hk_ (fun hs_ => fun e_ => Nat.not_le.2 hs_ (by rw [e_]; exact GW507.out)) (fun hn_ => (Kd.freshB BK507.out k_ hn_)), Or.elim hk_ (fun hs_ => fun e_ => Nat.not_le.2 hs_ (by rw [e_]; exact GW508.out)) (fun hn_ => (Kd.freshB BK508.out k_ hn_)), Or.elim hk_ (fun hs_ => fun e_ => Nat.not_le.2 hs_ (by rw [e_]; exact GW518.out)) (fun hn_ => (Kd.freshB BK518.out k_ hn_))⟩)) (below_size HB.out)); replace BK507 := ak_ (blk_below BK507.out hb); replace BK508 := ak_ (blk_below BK508.out hb); replace BK518 := ak_ (blk_below BK518.out hb); replace HB := ak_ (below_step HB.out hb); (try clear hb); (try clear ho0); obtain ⟨Ao32, co32, eo32⟩ := Kd.V_slice HO522.out; subst eo32) | ((with_reducible refine gate_callee (f := 17) rfl ?_); refine goesL_ (some 31) rfl rfl Try.func17 (by kernel_rfl) rfl #[.slice Ao32 t520.length co32] rfl (by (try simp only [List.map_toArray, List.map_cons, List.map_nil]); first | done | rfl | (simp only [List.length_drop, List.length_take]; rfl)) ?_; (with_reducible refine (bits_Zeros.calls kj19 _ _ t520 t523 _ ?side1 ?side2 A26.out).mono ?_); (case side1 => exact (Kd.V_reads' HO522.out).2.2); (case side2 => exact (Kd.V_reads' HO522.out).2.1); rintro e w' ⟨rfl, ⟨nd, rfl⟩⟩; refine ⟨_, rfl, ?_⟩))
     go_cut [6] (fun v6 wc => ∃ (kq : Nat) (x6_26 : Int) (x509000_26 : Int) (x509001_26 : Int) (x509002_26 : Int) (x509003_26 : Int), v6 = .int .i64 x6_26 ∧ Aside0 (page_Decode.j2 kq l1 x6_26 t509 t510 t511 t512 t513 t514 t515 t516 = some (r1, r2, r3, r4, r5, r6, r7)) ∧ Aside0 (kq ≤ kj19) ∧ Aside0 (wc.heap[gb507]? = some (.cells #[.int .i64 a0_0, .int .i64 a0_1, .int .i64 a0_2, .int .i64 a0_3, .int .i64 a0_4, .int .i64 a0_5, .int .i64 a0_6] 23 (0, 0))) ∧ Aside0 (wc.heap[gb508]? = some (.cells #[.int .i64 x509000_26, .int .i64 x509001_26, .int .i64 x509002_26, .int .i64 x509003_26] 26 (0, 0))) ∧ Aside0 (wc.heap[gb518]? = some (.cells #[.int .i64 t509, .int .i64 t510, .int .i64 t511, .int .i64 t512, .int .i64 t513, .int .i64 t514, .int .i64 t515, .int .i64 t516] 70 (0, 0))) ∧ Aside0 (Below w.heap.size w wc))
     case first =>
      have H := HC27.out
      clear HC27
      by_cases c33 : t523 ≤ 20
      ·rw [if_pos c33] at H
       have c33b0 := dt_ c33
       clear c33
       (rw [c33b0])
       simp only [Option.some.injEq, Prod.mk.injEq] at H
       obtain ⟨rfl, rfl, rfl, rfl, rfl, rfl, rfl⟩ := H
       have hnb34 := NB508_507.out
       have hnc34 := NB507_508.out
       have hnb35 := NB508_518.out
       have hnc35 := NB518_508.out
       obtain ⟨hcz36_0, hcz36_1, hcz36_2, hcz36_3⟩ := cells4 BK508.out
       obtain ⟨hfz36_0, hfz36_1, hfz36_2, hfz36_3⟩ := froz4 BK508.out
       go_wp2
       refine bodyPost_ret (results_list (rs := [.tmp 4, .cell 5 26, .tmp 6, .tmp 7]) rfl (by simp) (.tmp (.cell gb508 26 #[.int .i64 0, .int .i64 0, .int .i64 0, .int .i64 0] (0, 0) _ rfl (by (with_reducible repeat (first | apply blk_drewN | apply blk_drew | apply blk_alloc)); refine blk_put (cs := #[.int .i64 0, .int .i64 0, .int .i64 0, .int .i64 x509003_19]) ?_ 3 _ rfl; (with_reducible repeat (first | apply blk_drewN | apply blk_drew | apply blk_alloc)); refine blk_put (cs := #[.int .i64 0, .int .i64 0, .int .i64 x509002_19, .int .i64 x509003_19]) ?_ 2 _ rfl; (with_reducible repeat (first | apply blk_drewN | apply blk_drew | apply blk_alloc)); refine blk_put (cs := #[.int .i64 0, .int .i64 x509001_19, .int .i64 x509002_19, .int .i64 x509003_19]) ?_ 1 _ rfl; (with_reducible repeat (first | apply blk_drewN | apply blk_drew | apply blk_alloc)); refine blk_put (cs := #[.int .i64 x509000_19, .int .i64 x509001_19, .int .i64 x509002_19, .int .i64 x509003_19]) ?_ 0 _ rfl; (with_reducible repeat (first | apply blk_drewN | apply blk_drew | apply blk_alloc)); exact BK508.out) Try.underlying26 rfl (by kernel_rfl) (.tmp (.tmp .nil))))) rfl ?_
       exact ⟨_, by rfl, (Kd.R_nil _ _ _ _ _), by repeat (first | (with_reducible first | exact HB.out | apply below_alloc | apply pw_below_drewN | apply below_drew1 | refine below_set ?_ GE507.out | refine below_set ?_ GE508.out | refine below_set ?_ GE518.out) | exact HB.out)⟩
      ·rw [if_neg c33] at H
       have c33b0 := df_ c33
       clear c33
       (rw [c33b0])
       have H' := ak_ H
       clear H
       go_wp2
       go_meet
       case rel => exact ⟨_, (x6_19), (x509000_19), (x509001_19), (x509002_19), (x509003_19), (by rfl), H', ⟨by have := HJ3.out; have := HJ19.out; omega⟩, ⟨by (with_reducible repeat (first | apply blk_drewN | apply blk_drew | apply blk_alloc)); exact BK507.out⟩, ⟨by (with_reducible repeat (first | apply blk_drewN | apply blk_drew | apply blk_alloc)); exact BK508.out⟩, ⟨by (with_reducible repeat (first | apply blk_drewN | apply blk_drew | apply blk_alloc)); exact BK518.out⟩, ⟨by repeat (first | (with_reducible first | exact HB.out | apply below_alloc | apply pw_below_drewN | apply below_drew1 | refine below_set ?_ GE507.out | refine below_set ?_ GE508.out | refine below_set ?_ GE518.out) | exact HB.out)⟩⟩
     case rest =>
      clear HC27 hcz30_0 hcz30_1 hcz30_2 hcz30_3 hcz30_4 hcz30_5 hcz30_6 hcz30_7 hfz30_0 hfz30_1 hfz30_2 hfz30_3 hfz30_4 hfz30_5 hfz30_6 hfz30_7
      obtain ⟨kq, x6_26, x509000_26, x509001_26, x509002_26, x509003_26, rfl, HA, HJ26, BK507, BK508, BK518, HB⟩ := hcut
      cases kq with
      | zero => exact absurd HA.out (by simp [page_Decode.j2])
      | succ kj26 =>
       have H := HA.out
       clear HA
       simp only [page_Decode.j2] at H
       obtain ⟨t524, A37, H⟩ := bs_ H
       obtain ⟨⟨t527, t528, t529⟩, A38, H⟩ := bs_ H
       try dsimp only at H
       have HC39 := ak_ H
       clear H
       try go_wp2
       replace BK507 := ak_ (blk_drew BK507.out)
       replace BK508 := ak_ (blk_drew BK508.out)
       replace BK518 := ak_ (blk_drew BK518.out)
       replace HB := ak_ (below_drew1 HB.out)
       refine start_ (n := 14) (S := fun w' => w'.cell? ⟨gb518, 0, none⟩ = some (.int .i64 t509) ∧ w'.cell? ⟨gb518, 1, none⟩ = some (.int .i64 t510) ∧ w'.cell? ⟨gb518, 2, none⟩ = some (.int .i64 t511) ∧ w'.cell? ⟨gb518, 3, none⟩ = some (.int .i64 t512) ∧ w'.cell? ⟨gb518, 4, none⟩ = some (.int .i64 t513) ∧ w'.cell? ⟨gb518, 5, none⟩ = some (.int .i64 t514) ∧ w'.cell? ⟨gb518, 6, none⟩ = some (.int .i64 t515) ∧ w'.cell? ⟨gb518, 7, none⟩ = some (.int .i64 t516)) (ds := []) #[false, false, false, false, false, false, false, false, false, false, false, false, false, false] (by kernel_rfl) rfl rfl ⟨(bc_ BK518.out 0).trans rfl, (bc_ BK518.out 1).trans rfl, (bc_ BK518.out 2).trans rfl, (bc_ BK518.out 3).trans rfl, (bc_ BK518.out 4).trans rfl, (bc_ BK518.out 5).trans rfl, (bc_ BK518.out 6).trans rfl, (bc_ BK518.out 7).trans rfl⟩ (fun hHeld => ?_); refine with_tabW page_Decode.tab6 page_Decode.bits6 (fun HT_ HW_ => ?_)
       generalize wc.drew = w40 at BK507 BK508 BK518 HB hHeld ⊢
       refine pu 1 (some 36) #[false, true, false, false, false, false, false, false, false, false, false, false, false, false] HT_.out rfl rfl ?_
       refine pu 3 (some 38) #[false, true, false, true, false, false, false, false, false, false, false, false, false, false] HT_.out rfl rfl ?_
       refine pu 4 (some 39) #[false, true, false, true, true, false, false, false, false, false, false, false, false, false] HT_.out rfl rfl ?_
       refine take_ (i := 0) (N := some 35) (v := ?_) (a' := ?_) #[true, true, false, true, true, false, false, false, false, false, false, false, false, false] rfl rfl (take_ofW HT_.out HW_.out (by kernel_rfl)) (fun _ _ _ h => h) (Or.inl ⟨by rfl, ?_⟩) hHeld ?_ ?_
       rotate_left
       ·rintro w' ⟨s0, s1, s2, s3, s4, s5, s6, s7⟩
        go_simp
        with_reducible rfl
       rotate_left
       ·simp only [Act.put, sb_, sz_, su_, i64_w, i32_w]
        rfl
       refine take_ (i := 5) (N := some 40) (v := ?_) (a' := ?_) #[true, true, false, true, true, true, false, false, false, false, false, false, false, false] rfl rfl (take_ofW HT_.out HW_.out (by kernel_rfl)) (fun _ _ _ h => h) (Or.inl ⟨by rfl, ?_⟩) hHeld ?_ ?_
       rotate_left
       ·rintro w' ⟨s0, s1, s2, s3, s4, s5, s6, s7⟩
        go_simp
        with_reducible rfl
       rotate_left
       ·simp only [Act.put, sb_, sz_, su_, i64_w, i32_w]
        rfl
       refine one_ (i := 2) (N := some 37) #[true, true, true, true, true, true, false, false, false, false, false, false, false, false] rfl rfl (one_of HT_.out (by kernel_rfl)) (by decide) (fun K hK => ?_)
       refine goes_ Try.func59 (by kernel_rfl) rfl #[.agg #[.int .i64 t509, .int .i64 t510, .int .i64 t511, .int .i64 t512, .int .i64 t513, .int .i64 t514, .int .i64 t515, .int .i64 t516], .slice A1 l1.length c1] (by rfl) rfl rfl (by (try simp only [List.map_toArray, List.map_cons, List.map_nil]); first | done | rfl | (simp only [List.length_drop, List.length_take]; rfl)) ?_
       with_reducible refine (page_shape_chunks.calls t509 t510 t511 t512 t513 t514 t515 t516 (fun k_ => k_ < w.heap.size) _ _ l1 t524 _ ?side1 A37.out).mono ?_
       (case side1 => exact Kd.V_mk HC1.out (Kd.F_below (Kd.C_F (Kd.heap_int .u8) HR1.out) HB.out))
       rintro e w41 ⟨v525, rfl, ho0, hb⟩
       refine ⟨_, rfl, ?_⟩
       have HO526 := ak_ (Kd.V_lower (Kd.V_mono (ok' := fun k_ => k_ ≠ gb507 ∧ k_ ≠ gb508 ∧ k_ ≠ gb518) ho0 (fun k_ hk_ => ⟨Or.elim hk_ (fun hs_ => fun e_ => Nat.not_le.2 hs_ (by rw [e_]; exact GW507.out)) (fun hn_ => (Kd.freshB BK507.out k_ hn_)), Or.elim hk_ (fun hs_ => fun e_ => Nat.not_le.2 hs_ (by rw [e_]; exact GW508.out)) (fun hn_ => (Kd.freshB BK508.out k_ hn_)), Or.elim hk_ (fun hs_ => fun e_ => Nat.not_le.2 hs_ (by rw [e_]; exact GW518.out)) (fun hn_ => (Kd.freshB BK518.out k_ hn_))⟩)) (below_size HB.out))
       replace BK507 := ak_ (blk_below BK507.out hb)
       replace BK508 := ak_ (blk_below BK508.out hb)
       replace BK518 := ak_ (blk_below BK518.out hb)
       replace HB := ak_ (below_step HB.out hb)
       (try clear hb)
       (try clear ho0)
       obtain ⟨Ao42, co42, eo42⟩ := Kd.V_slice HO526.out
       (subst eo42)
       refine hK.out _ _ (cells8 BK518.out) (fun hHeld => ?_)
       clear hK K
       refine norm_ (a' := ?_) ?_ ?_
       rotate_left
       ·show Act.put _ (some 37) _ = _
        simp only [Act.put, sb_, sz_, su_, i64_w, i32_w]
        rfl
       refine one_ (i := 6) (N := some 41) #[true, true, true, true, true, true, true, false, false, false, false, false, false, false] rfl rfl (one_of HT_.out (by kernel_rfl)) (by decide) (fun K hK => ?_)
       refine goes_ Try.func58 (by kernel_rfl) rfl #[.slice Ao42 t524.length co42, .int .i64 t513] (by rfl) rfl rfl (by (try simp only [List.map_toArray, List.map_cons, List.map_nil]); first | done | rfl | (simp only [List.length_drop, List.length_take]; rfl)) ?_
       with_reducible refine (chunk_All.calls kj26 _ _ t524 t513 t527 t528 t529 _ ?side1 ?side2 A38.out).mono ?_
       (case side1 => exact (Kd.V_reads' HO526.out).2.2)
       (case side2 => exact (Kd.V_reads' HO526.out).2.1)
       rintro e w43 ⟨v530, rfl, ho0, hb⟩
       refine ⟨_, rfl, ?_⟩
       replace HO526 := ak_ (Kd.V_elder' HO526.out (Kd.R_base ho0) hb)
       have HO531 := ak_ (Kd.R_lower ho0 (below_size HB.out))
       replace BK507 := ak_ (blk_below BK507.out hb)
       replace BK508 := ak_ (blk_below BK508.out hb)
       replace BK518 := ak_ (blk_below BK518.out hb)
       replace HB := ak_ (below_step HB.out hb)
       (try clear hb)
       (try clear ho0)
       refine hK.out _ _ (cells8 BK518.out) (fun hHeld => ?_)
       clear hK K
       refine norm_ (a' := ?_) ?_ ?_
       rotate_left
       ·show Act.put _ (some 41) _ = _
        simp only [Act.put, sb_, sz_, su_, i64_w, i32_w]
        rfl
       refine pu 7 (some 34) #[true, true, true, true, true, true, true, true, false, false, false, false, false, false] HT_.out rfl rfl ?_
       refine pu 8 (some 42) #[true, true, true, true, true, true, true, true, true, false, false, false, false, false] HT_.out rfl rfl ?_
       refine pu 9 (some 43) #[true, true, true, true, true, true, true, true, true, true, false, false, false, false] HT_.out rfl rfl ?_
       refine pu 10 (some 44) #[true, true, true, true, true, true, true, true, true, true, true, false, false, false] HT_.out rfl rfl ?_
       refine pu 11 (some 4) #[true, true, true, true, true, true, true, true, true, true, true, true, false, false] HT_.out rfl rfl ?_
       refine pu 12 (some 10) #[true, true, true, true, true, true, true, true, true, true, true, true, true, false] HT_.out rfl rfl ?_
       refine pu 13 (some 7) #[true, true, true, true, true, true, true, true, true, true, true, true, true, true] HT_.out rfl rfl ?_
       refine done_ (done_of HT_.out (by kernel_rfl)) ?_
       go_upto_if 46 with (fail)
       go_cut [4, 6] (fun v4 v6 wc => ∃ (kq : Nat) (x4_38 : List Int) (x6_38 : Int) (x509000_38 : Int) (x509001_38 : Int) (x509002_38 : Int) (x509003_38 : Int), v6 = .int .i64 x6_38 ∧ Aside0 (page_Decode.j3 kq l1 x4_38 x6_38 t528 t509 t510 t511 t512 t513 t514 t515 t516 = some (r1, r2, r3, r4, r5, r6, r7)) ∧ Aside0 (kq ≤ kj26) ∧ Aside0 (Kd.R (Kd.int .u8) 5 wc w.heap.size (fun _ => True) v4 x4_38) ∧ Aside0 (wc.heap[gb507]? = some (.cells #[.int .i64 a0_0, .int .i64 a0_1, .int .i64 a0_2, .int .i64 a0_3, .int .i64 a0_4, .int .i64 a0_5, .int .i64 a0_6] 23 (0, 0))) ∧ Aside0 (wc.heap[gb508]? = some (.cells #[.int .i64 x509000_38, .int .i64 x509001_38, .int .i64 x509002_38, .int .i64 x509003_38] 26 (0, 0))) ∧ Aside0 (wc.heap[gb518]? = some (.cells #[.int .i64 t509, .int .i64 t510, .int .i64 t511, .int .i64 t512, .int .i64 t513, .int .i64 t514, .int .i64 t515, .int .i64 t516] 70 (0, 0))) ∧ Aside0 (Below w.heap.size w wc))
       case first =>
        have H := HC39.out
        clear HC39
        by_cases c44 : t529 = 0
        ·rw [if_pos c44] at H
         have c44b0 := beq_iff_eq.mpr c44
         have c44b1 := bne_eq_false_iff_eq.mpr c44
         clear c44
         (first | rw [c44b0] | (simp only [i64_w, i32_w]; rw [c44b0]) | skip)
         have H' := ak_ H
         clear H
         go_wp2
         go_meet
         case rel => exact ⟨_, (t527), (x6_26), (x509000_26), (x509001_26), (x509002_26), (x509003_26), (by rfl), H', ⟨by have := HJ3.out; have := HJ19.out; have := HJ26.out; omega⟩, ⟨HO531.out⟩, ⟨BK507.out⟩, ⟨BK508.out⟩, ⟨BK518.out⟩, ⟨HB.out⟩⟩
        ·rw [if_neg c44] at H
         have c44b0 := beq_eq_false_iff_ne.mpr c44
         have c44b1 := bne_iff_ne.mpr c44
         (first | rw [c44b0] | (simp only [i64_w, i32_w]; rw [c44b0]) | skip)
         simp only [Option.some.injEq, Prod.mk.injEq] at H
         obtain ⟨rfl, rfl, rfl, rfl, rfl, rfl, rfl⟩ := H
         have hnb45 := NB508_507.out
         have hnc45 := NB507_508.out
         have hnb46 := NB508_518.out
         have hnc46 := NB518_508.out
         obtain ⟨hcz47_0, hcz47_1, hcz47_2, hcz47_3⟩ := cells4 BK508.out
         obtain ⟨hfz47_0, hfz47_1, hfz47_2, hfz47_3⟩ := froz4 BK508.out
         go_wp2
         refine bodyPost_ret (results_list (rs := [.tmp 4, .cell 5 26, .tmp 6, .tmp 7]) rfl (by simp) (.tmp (.cell gb508 26 #[.int .i64 0, .int .i64 0, .int .i64 0, .int .i64 0] (0, 0) _ rfl (put4 BK508.out) Try.underlying26 rfl (by kernel_rfl) (.tmp (.tmp .nil))))) rfl ?_
         exact ⟨_, by rfl, (Kd.R_nil _ _ _ _ _), by repeat (first | (with_reducible first | exact HB.out | apply below_alloc | apply pw_below_drewN | apply below_drew1 | refine below_set ?_ GE507.out | refine below_set ?_ GE508.out | refine below_set ?_ GE518.out) | exact HB.out)⟩
       case rest =>
        clear HC39
        obtain ⟨kq, x4_38, x6_38, x509000_38, x509001_38, x509002_38, x509003_38, rfl, HA, HJ38, HO_4, BK507, BK508, BK518, HB⟩ := hcut
        cases kq with
        | zero => exact absurd HA.out (by simp [page_Decode.j3])
        | succ kj38 =>
         have H := HA.out
         clear HA
         simp only [page_Decode.j3] at H
         obtain ⟨t532, A48, H⟩ := bs_ H
         obtain ⟨⟨t535, t536, t537⟩, A49, H⟩ := bs_ H
         try dsimp only at H
         have HC50 := ak_ H
         clear H
         have hnb51 := NB518_507.out
         have hnc51 := NB507_518.out
         have hnb52 := NB518_508.out
         have hnc52 := NB508_518.out
         obtain ⟨hcz53_0, hcz53_1, hcz53_2, hcz53_3, hcz53_4, hcz53_5, hcz53_6, hcz53_7⟩ := cells8 BK518.out
         obtain ⟨hfz53_0, hfz53_1, hfz53_2, hfz53_3, hfz53_4, hfz53_5, hfz53_6, hfz53_7⟩ := froz8 BK518.out
         go_upto_if 58 with (first | ((with_reducible refine gate_callee (f := 57) rfl ?_); refine goesL_ (some 52) rfl rfl Try.func57 (by kernel_rfl) rfl #[.agg #[.int .i64 t509, .int .i64 t510, .int .i64 t511, .int .i64 t512, .int .i64 t513, .int .i64 t514, .int .i64 t515, .int .i64 t516], .slice A1 l1.length c1] rfl (by (try simp only [List.map_toArray, List.map_cons, List.map_nil]); first | done | rfl | (simp only [List.length_drop, List.length_take]; rfl)) ?_; (with_reducible refine (page_shape_label.calls t509 t510 t511 t512 t513 t514 t515 t516 (fun k_ => k_ < w.heap.size) _ _ l1 t532 _ ?side1 A48.out).mono ?_); (case side1 => exact Kd.V_mk HC1.out (Kd.F_below (Kd.C_F (Kd.heap_int .u8) HR1.out) HB.out)); rintro e w54 ⟨v533, rfl, ho0, hb⟩; refine ⟨_, rfl, ?_⟩; have HO534 := ak_ (Kd.V_lower (Kd.V_mono (ok' := fun k_ => some k_ ≠ (u4 : Value).ownBlock ∧ k_ ≠ gb507 ∧ k_ ≠ gb508 ∧ k_ ≠ gb518) ho0 (fun k_ hk_ => ⟨Or.elim hk_ (fun hs_ => fun e_ => Nat.not_le.2 hs_ (Kd.R_base HO_4.out k_ e_.symm)) (fun hn_ => (Kd.fresh' (Kd.R_lt HO_4.out) k_ hn_)), Or.elim hk_ (fun hs_ => fun e_ => Nat.not_le.2 hs_ (by rw [e_]; exact GW507.out)) (fun hn_ => (Kd.freshB BK507.out k_ hn_)), Or.elim hk_ (fun hs_ => fun e_ => Nat.not_le.2 hs_ (by rw [e_]; exact GW508.out)) (fun hn_ => (Kd.freshB BK508.out k_ hn_)), Or.elim hk_ (fun hs_ => fun e_ => Nat.not_le.2 hs_ (by rw [e_]; exact GW518.out)) (fun hn_ => (Kd.freshB BK518.out k_ hn_))⟩)) (below_size HB.out)); replace HO_4 := ak_ (Kd.R_below HO_4.out hb); replace BK507 := ak_ (blk_below BK507.out hb); replace BK508 := ak_ (blk_below BK508.out hb); replace BK518 := ak_ (blk_below BK518.out hb); replace HB := ak_ (below_step HB.out hb); (try clear hb); (try clear ho0); obtain ⟨Ao55, co55, eo55⟩ := Kd.V_slice HO534.out; subst eo55) | ((with_reducible refine gate_callee (f := 60) rfl ?_); refine goesL_ (some 53) rfl rfl Try.func60 (by kernel_rfl) rfl #[.slice Ao55 t532.length co55] rfl (by (try simp only [List.map_toArray, List.map_cons, List.map_nil]); first | done | rfl | (simp only [List.length_drop, List.length_take]; rfl)) ?_; (with_reducible refine (chunk_Decode.calls kj38 _ _ t532 t535 t536 t537 _ ?side1 ?side2 A49.out).mono ?_); (case side1 => exact (Kd.V_reads' HO534.out).2.2); (case side2 => exact (Kd.V_reads' HO534.out).2.1); rintro e w56 ⟨v538, rfl, ho0, hb⟩; refine ⟨_, rfl, ?_⟩; replace HO534 := ak_ (Kd.V_elder' HO534.out (Kd.R_base ho0) hb); have HO539 := ak_ (Kd.R_lower (Kd.R_new' ho0 (Kd.R_lt HO_4.out)) (below_size HB.out)); replace HO_4 := ak_ (Kd.R_elder' HO_4.out (Kd.R_base ho0) hb); replace BK507 := ak_ (blk_below BK507.out hb); replace BK508 := ak_ (blk_below BK508.out hb); replace BK518 := ak_ (blk_below BK518.out hb); replace HB := ak_ (below_step HB.out hb); (try clear hb); (try clear ho0)))
         go_cut [4, 6] (fun v4 v6 wc => ∃ (kq : Nat) (x4_49 : List Int) (x6_49 : Int) (x509000_49 : Int) (x509001_49 : Int) (x509002_49 : Int) (x509003_49 : Int), v6 = .int .i64 x6_49 ∧ Aside0 (page_Decode.j4 kq x4_49 x6_49 t528 t535 t536 = some (r1, r2, r3, r4, r5, r6, r7)) ∧ Aside0 (kq ≤ kj38) ∧ Aside0 (Kd.R (Kd.int .u8) 5 wc w.heap.size (fun k_ => some k_ ≠ (v538 : Value).ownBlock) v4 x4_49) ∧ Aside0 (Kd.R (Kd.int .u8) 5 wc w.heap.size (fun k_ => some k_ ≠ (v4 : Value).ownBlock) v538 t535) ∧ Aside0 (wc.heap[gb507]? = some (.cells #[.int .i64 a0_0, .int .i64 a0_1, .int .i64 a0_2, .int .i64 a0_3, .int .i64 a0_4, .int .i64 a0_5, .int .i64 a0_6] 23 (0, 0))) ∧ Aside0 (wc.heap[gb508]? = some (.cells #[.int .i64 x509000_49, .int .i64 x509001_49, .int .i64 x509002_49, .int .i64 x509003_49] 26 (0, 0))) ∧ Aside0 (wc.heap[gb518]? = some (.cells #[.int .i64 t509, .int .i64 t510, .int .i64 t511, .int .i64 t512, .int .i64 t513, .int .i64 t514, .int .i64 t515, .int .i64 t516] 70 (0, 0))) ∧ Aside0 (Below w.heap.size w wc))
         case first =>
          have H := HC50.out
          clear HC50
          by_cases c57 : t537 = 0
          ·rw [if_pos c57] at H
           have c57b0 := beq_iff_eq.mpr c57
           have c57b1 := bne_eq_false_iff_eq.mpr c57
           clear c57
           (first | rw [c57b0] | (simp only [i64_w, i32_w]; rw [c57b0]) | skip)
           have H' := ak_ H
           clear H
           go_wp2
           go_meet
           case rel => exact ⟨_, (x4_38), (x6_38), (x509000_38), (x509001_38), (x509002_38), (x509003_38), (by rfl), H', ⟨by have := HJ3.out; have := HJ19.out; have := HJ26.out; have := HJ38.out; omega⟩, ⟨(Kd.R_mono HO_4.out (fun _ hk => hk.2))⟩, ⟨(Kd.R_mono HO539.out (fun _ hk => hk.2))⟩, ⟨BK507.out⟩, ⟨BK508.out⟩, ⟨BK518.out⟩, ⟨HB.out⟩⟩
          ·rw [if_neg c57] at H
           have c57b0 := beq_eq_false_iff_ne.mpr c57
           have c57b1 := bne_iff_ne.mpr c57
           (first | rw [c57b0] | (simp only [i64_w, i32_w]; rw [c57b0]) | skip)
           simp only [Option.some.injEq, Prod.mk.injEq] at H
           obtain ⟨rfl, rfl, rfl, rfl, rfl, rfl, rfl⟩ := H
           have hnb58 := NB508_507.out
           have hnc58 := NB507_508.out
           have hnb59 := NB508_518.out
           have hnc59 := NB518_508.out
           obtain ⟨hcz60_0, hcz60_1, hcz60_2, hcz60_3⟩ := cells4 BK508.out
           obtain ⟨hfz60_0, hfz60_1, hfz60_2, hfz60_3⟩ := froz4 BK508.out
           go_wp2
           refine bodyPost_ret (results_list (rs := [.tmp 4, .cell 5 26, .tmp 6, .tmp 7]) rfl (by simp) (.tmp (.cell gb508 26 #[.int .i64 0, .int .i64 0, .int .i64 0, .int .i64 0] (0, 0) _ rfl (put4 BK508.out) Try.underlying26 rfl (by kernel_rfl) (.tmp (.tmp .nil))))) rfl ?_
           exact ⟨_, by rfl, (Kd.R_nil _ _ _ _ _), by repeat (first | (with_reducible first | exact HB.out | apply below_alloc | apply pw_below_drewN | apply below_drew1 | refine below_set ?_ GE507.out | refine below_set ?_ GE508.out | refine below_set ?_ GE518.out) | exact HB.out)⟩
         case rest =>
          clear HC50 hcz53_0 hcz53_1 hcz53_2 hcz53_3 hcz53_4 hcz53_5 hcz53_6 hcz53_7 hfz53_0 hfz53_1 hfz53_2 hfz53_3 hfz53_4 hfz53_5 hfz53_6 hfz53_7
          obtain ⟨kq, x4_49, x6_49, x509000_49, x509001_49, x509002_49, x509003_49, rfl, HA, HJ49, HO_4, HO_11, BK507, BK508, BK518, HB⟩ := hcut
          cases kq with
          | zero => exact absurd HA.out (by simp [page_Decode.j4])
          | succ kj49 =>
           have H := HA.out
           clear HA
           simp only [page_Decode.j4] at H
           obtain ⟨y540, hy540⟩ : ∃ y_ : List Int, y_ = (([] : List Int)) := ⟨_, rfl⟩
           replace H : (if y540.length + x4_49.length < 140737488355328 then ((some (y540 ++ x4_49 : List Int)).bind fun y543 => (if y543.length + t535.length < 140737488355328 then ((crc_Check.f kj49 (y543 ++ t535)).bind fun t549 => (if t549 = true then (page_Decode.j5 kj49 x4_49 x6_49 t528 t535 t536) else (some (([] : List Int), 0, 0, 0, 0, 0, 12)))) else (none))) else (none)) = some (r1, r2, r3, r4, r5, r6, r7) := by first | (rw [hy540]; with_reducible exact H) | (have H2_ := (Option.bind_some _ _).symm.trans H; rw [hy540]; with_reducible exact H2_) | (have H2_ := (Option.bind_some _ _).symm.trans H; with_reducible exact H2_) | with_reducible exact H | (rw [hy540]; exact H) | exact H
           have Ny540 := ak_ hy540
           clear hy540
           by_cases c61 : y540.length + x4_49.length < 140737488355328
           ·rw [if_pos c61] at H
            have LMc61 := ak_ c61
            clear c61
            obtain ⟨y543, hy543⟩ : ∃ y_ : List Int, y_ = (y540 ++ x4_49) := ⟨_, rfl⟩
            replace H : (if y543.length + t535.length < 140737488355328 then ((crc_Check.f kj49 (y543 ++ t535)).bind fun t549 => (if t549 = true then (page_Decode.j5 kj49 x4_49 x6_49 t528 t535 t536) else (some (([] : List Int), 0, 0, 0, 0, 0, 12)))) else (none)) = some (r1, r2, r3, r4, r5, r6, r7) := by first | (rw [hy543]; with_reducible exact H) | (have H2_ := (Option.bind_some _ _).symm.trans H; rw [hy543]; with_reducible exact H2_) | (have H2_ := (Option.bind_some _ _).symm.trans H; with_reducible exact H2_) | with_reducible exact H | (rw [hy543]; exact H) | exact H
            have Ny543 := ak_ hy543
            clear hy543
            by_cases c62 : y543.length + t535.length < 140737488355328
            ·rw [if_pos c62] at H
             have LMc62 := ak_ c62
             clear c62
             obtain ⟨y546, hy546⟩ : ∃ y_ : List Int, y_ = (y543 ++ t535) := ⟨_, rfl⟩
             replace H : ((crc_Check.f kj49 y546).bind fun t549 => (if t549 = true then (page_Decode.j5 kj49 x4_49 x6_49 t528 t535 t536) else (some (([] : List Int), 0, 0, 0, 0, 0, 12)))) = some (r1, r2, r3, r4, r5, r6, r7) := (by rw [hy546]; with_reducible exact H)
             have Ny546 := ak_ hy546
             clear hy546
             obtain ⟨t549, A63, H⟩ := bs_ H
             have HC64 := ak_ H
             clear H
             go_upto_if 67 with (first | ((with_reducible refine gate_dst (N := 61) rfl ?_); (try (refine gate_guard (by rfl) ?_; dsimp only)); refine Kd.R_lit (Kd.int .u8) _ 5 ?hg (N := 61) ?hd (xs := ([] : List Int)) (inner := []) (ok := fun _ => True) (okp := fun _ => True) ?hr ?hp (fun _ hk => hk) trivial (Below.refl _ _) (Nat.le_refl _) (by simp) ?_; (case hd => rfl); (case hg => rfl); (case hr => (go_simp; done)); (case hp => exact (Reps.none _ _)); intro v541 w65 ho66 hb hg_ hnew_; clear hg_ hnew_; (rw [← Ny540.out] at ho66); have HO542 := ak_ (Kd.R_lower (Kd.R_new' (Kd.R_new' ho66 (Kd.R_lt HO_4.out)) (Kd.R_lt HO_11.out)) (below_size HB.out)); replace HO_4 := ak_ (Kd.R_elder' HO_4.out (Kd.R_base ho66) hb); replace HO_11 := ak_ (Kd.R_elder' HO_11.out (Kd.R_base ho66) hb); replace BK507 := ak_ (blk_below BK507.out hb); replace BK508 := ak_ (blk_below BK508.out hb); replace BK518 := ak_ (blk_below BK518.out hb); replace HB := ak_ (below_step HB.out hb); clear hb ho66; obtain ⟨Ao68, co68, eo68⟩ := Kd.R_slice HO_4.out; subst eo68) | ((with_reducible refine gate_builtin (b := .append) (xs := #[.tmp 61, .tmp 62]) rfl ?_); (try (refine gate_guard (by rfl) ?_; dsimp only)); at_builtin; refine Kd.R_append_rows (Kd.int .u8) (w0 := w) w.heap.size rfl (.tmp 61) (.tmp 62) 24 5 (.int .u8 0) 1 rfl Try.underlying24 info5 rfl (by decide) (by omega) v541 y540 x4_49 _ _ _ (fun k_ => some k_ ≠ (.slice Ao68 x4_49.length co68 : Value).ownBlock ∧ some k_ ≠ (v538 : Value).ownBlock) (fun _ => False) rfl rfl ?aO ?aR (fun _ _ h => h) (fun _ h => h.elim) ?aF ?aB ?aS ?aL ?_; (case aR => repeat (first | exact (Kd.R_reads' HO_4.out).2.2 | (with_reducible refine Kd.C_alloc ?_ _) | (with_reducible refine Kd.C_drewN ?_ _) | (with_reducible refine Kd.C_drew ?_))); (case aB => exact HB.out); (case aF => exact (fun k_ hk => ⟨Kd.fresh' (Kd.R_lt HO_4.out) k_ hk, Kd.fresh' (Kd.R_lt HO_11.out) k_ hk⟩)); (case aO => exact (Kd.R_mono HO542.out (fun _ hk => ⟨hk.1.2, hk.2⟩))); (case aS => exact (below_size HB.out)); (case aL => have := LMc61.out; omega); intro v544 w67 ho hb hg hat; rw [← Ny543.out] at ho; have n0_ := ak_ (Kd.R_after (ok := (fun k_ => some k_ ≠ (v538 : Value).ownBlock)) HO_4.out hg hat); have n1_ := ak_ (Kd.R_after (ok := (fun k_ => some k_ ≠ (.slice Ao68 x4_49.length co68 : Value).ownBlock)) HO_11.out hg hat); have n2_ := ak_ (blk_grown BK507.out hg (Kd.R_ne HO542.out BK507.out (by decide))); have n3_ := ak_ (blk_grown BK508.out hg (Kd.R_ne HO542.out BK508.out (by decide))); have n4_ := ak_ (blk_grown BK518.out hg (Kd.R_ne HO542.out BK518.out (by decide))); have n5_ := ak_ (hb); have n6_ := ak_ (ho); clear HO_4; clear HO_11; clear BK507; clear BK508; clear BK518; clear HB; clear HO542; have HO_4 := n0_; have HO_11 := n1_; have BK507 := n2_; have BK508 := n3_; have BK518 := n4_; have HB := n5_; have HO545 := n6_; clear n0_ n1_ n2_ n3_ n4_ n5_ n6_; clear ho hb hg hat; obtain ⟨Ao70, co70, eo70⟩ := Kd.R_slice HO_11.out; subst eo70) | ((with_reducible refine gate_builtin (b := .append) (xs := #[.tmp 63, .tmp 64]) rfl ?_); (try (refine gate_guard (by rfl) ?_; dsimp only)); at_builtin; refine Kd.R_append_rows (Kd.int .u8) (w0 := w) w.heap.size rfl (.tmp 63) (.tmp 64) 24 5 (.int .u8 0) 1 rfl Try.underlying24 info5 rfl (by decide) (by omega) v544 y543 t535 _ _ _ (fun k_ => some k_ ≠ (.slice Ao68 x4_49.length co68 : Value).ownBlock ∧ some k_ ≠ (.slice Ao70 t535.length co70 : Value).ownBlock) (fun _ => False) rfl rfl ?aO ?aR (fun _ _ h => h) (fun _ h => h.elim) ?aF ?aB ?aS ?aL ?_; (case aR => repeat (first | exact (Kd.R_reads' HO_11.out).2.2 | (with_reducible refine Kd.C_alloc ?_ _) | (with_reducible refine Kd.C_drewN ?_ _) | (with_reducible refine Kd.C_drew ?_))); (case aB => exact HB.out); (case aF => exact (fun k_ hk => ⟨Kd.fresh' (Kd.R_lt HO_4.out) k_ hk, Kd.fresh' (Kd.R_lt HO_11.out) k_ hk⟩)); (case aO => exact HO545.out); (case aS => exact (below_size HB.out)); (case aL => have := LMc62.out; omega); intro v547 w69 ho hb hg hat; rw [← Ny546.out] at ho; have n0_ := ak_ (Kd.R_after (ok := (fun k_ => some k_ ≠ (.slice Ao70 t535.length co70 : Value).ownBlock)) HO_4.out hg hat); have n1_ := ak_ (Kd.R_after (ok := (fun k_ => some k_ ≠ (.slice Ao68 x4_49.length co68 : Value).ownBlock)) HO_11.out hg hat); have n2_ := ak_ (blk_grown BK507.out hg (Kd.R_ne HO545.out BK507.out (by decide))); have n3_ := ak_ (blk_grown BK508.out hg (Kd.R_ne HO545.out BK508.out (by decide))); have n4_ := ak_ (blk_grown BK518.out hg (Kd.R_ne HO545.out BK518.out (by decide))); have n5_ := ak_ (hb); have n6_ := ak_ (ho); clear HO_4; clear HO_11; clear BK507; clear BK508; clear BK518; clear HB; clear HO545; have HO_4 := n0_; have HO_11 := n1_; have BK507 := n2_; have BK508 := n3_; have BK518 := n4_; have HB := n5_; have HO548 := n6_; clear n0_ n1_ n2_ n3_ n4_ n5_ n6_; clear ho hb hg hat; obtain ⟨Ao71, co71, eo71⟩ := Kd.R_slice HO548.out; subst eo71) | ((with_reducible refine gate_callee (f := 61) rfl ?_); refine goesL_ (some 66) rfl rfl Try.func61 (by kernel_rfl) rfl #[.slice Ao71 y546.length co71] rfl (by (try simp only [List.map_toArray, List.map_cons, List.map_nil]); first | done | rfl | (simp only [List.length_drop, List.length_take]; rfl)) ?_; (with_reducible refine (crc_Check.calls kj49 (fun k_ => some k_ = (.slice Ao71 y546.length co71 : Value).ownBlock) _ _ y546 t549 _ ?side1 A63.out).mono ?_); (case side1 => exact Kd.R_V (Kd.R_tight rfl (Kd.R_types (Kd.R_types (Kd.R_types (HO548.out) BK507.out (by decide)) BK508.out (by decide)) BK518.out (by decide)))); rintro e w72 ⟨rfl, hb⟩; refine ⟨_, rfl, ?_⟩; replace HO_4 := ak_ (Kd.R_below HO_4.out hb); replace HO_11 := ak_ (Kd.R_below HO_11.out hb); replace HO548 := ak_ (Kd.R_below HO548.out hb); replace BK507 := ak_ (blk_below BK507.out hb); replace BK508 := ak_ (blk_below BK508.out hb); replace BK518 := ak_ (blk_below BK518.out hb); replace HB := ak_ (below_step HB.out hb); (try clear hb)))
             go_cut [4, 6] (fun v4 v6 wc => ∃ (kq : Nat) (x4_63 : List Int) (x6_63 : Int) (x509000_63 : Int) (x509001_63 : Int) (x509002_63 : Int) (x509003_63 : Int), v6 = .int .i64 x6_63 ∧ Aside0 (page_Decode.j5 kq x4_63 x6_63 t528 t535 t536 = some (r1, r2, r3, r4, r5, r6, r7)) ∧ Aside0 (kq ≤ kj49) ∧ Aside0 (Kd.R (Kd.int .u8) 5 wc w.heap.size (fun k_ => some k_ ≠ ((.slice Ao70 t535.length co70) : Value).ownBlock) v4 x4_63) ∧ Aside0 (Kd.R (Kd.int .u8) 5 wc w.heap.size (fun k_ => some k_ ≠ (v4 : Value).ownBlock) (.slice Ao70 t535.length co70) t535) ∧ Aside0 (wc.heap[gb507]? = some (.cells #[.int .i64 a0_0, .int .i64 a0_1, .int .i64 a0_2, .int .i64 a0_3, .int .i64 a0_4, .int .i64 a0_5, .int .i64 a0_6] 23 (0, 0))) ∧ Aside0 (wc.heap[gb508]? = some (.cells #[.int .i64 x509000_63, .int .i64 x509001_63, .int .i64 x509002_63, .int .i64 x509003_63] 26 (0, 0))) ∧ Aside0 (wc.heap[gb518]? = some (.cells #[.int .i64 t509, .int .i64 t510, .int .i64 t511, .int .i64 t512, .int .i64 t513, .int .i64 t514, .int .i64 t515, .int .i64 t516] 70 (0, 0))) ∧ Aside0 (Below w.heap.size w wc))
             case first =>
              have H := HC64.out
              clear HC64
              by_cases c73 : t549 = true
              ·subst c73
               rw [if_pos rfl] at H
               have H' := ak_ H
               clear H
               go_wp2
               go_meet
               case rel => exact ⟨_, (x4_49), (x6_49), (x509000_49), (x509001_49), (x509002_49), (x509003_49), (by rfl), H', ⟨by have := HJ3.out; have := HJ19.out; have := HJ26.out; have := HJ38.out; have := HJ49.out; omega⟩, ⟨(Kd.R_mono HO_4.out (fun _ hk => hk.1))⟩, ⟨(Kd.R_mono HO_11.out (fun _ hk => hk.1))⟩, ⟨BK507.out⟩, ⟨BK508.out⟩, ⟨BK518.out⟩, ⟨HB.out⟩⟩
              ·replace c73 := Bool.eq_false_iff.mpr c73
               subst c73
               rw [if_neg (show ¬ (false = true) by decide)] at H
               simp only [Option.some.injEq, Prod.mk.injEq] at H
               obtain ⟨rfl, rfl, rfl, rfl, rfl, rfl, rfl⟩ := H
               have hnb74 := NB508_507.out
               have hnc74 := NB507_508.out
               have hnb75 := NB508_518.out
               have hnc75 := NB518_508.out
               obtain ⟨hcz76_0, hcz76_1, hcz76_2, hcz76_3⟩ := cells4 BK508.out
               obtain ⟨hfz76_0, hfz76_1, hfz76_2, hfz76_3⟩ := froz4 BK508.out
               go_wp2
               refine bodyPost_ret (results_list (rs := [.tmp 4, .cell 5 26, .tmp 6, .tmp 7]) rfl (by simp) (.tmp (.cell gb508 26 #[.int .i64 0, .int .i64 0, .int .i64 0, .int .i64 0] (0, 0) _ rfl (put4 BK508.out) Try.underlying26 rfl (by kernel_rfl) (.tmp (.tmp .nil))))) rfl ?_
               exact ⟨_, by rfl, (Kd.R_nil _ _ _ _ _), by repeat (first | (with_reducible first | exact HB.out | apply below_alloc | apply pw_below_drewN | apply below_drew1 | refine below_set ?_ GE507.out | refine below_set ?_ GE508.out | refine below_set ?_ GE518.out) | exact HB.out)⟩
             case rest =>
              clear HC64
              obtain ⟨kq, x4_63, x6_63, x509000_63, x509001_63, x509002_63, x509003_63, rfl, HA, HJ63, HO_4, HO_11, BK507, BK508, BK518, HB⟩ := hcut
              cases kq with
              | zero => exact absurd HA.out (by simp [page_Decode.j5])
              | succ kj63 =>
               have H := HA.out
               clear HA
               simp only [page_Decode.j5] at H
               by_cases c77 : 24 ≤ (t535.length : Int)
               ·rw [if_pos c77] at H
                have c77b0 := eq_true c77
                have c77b1 := dt_ c77
                clear c77
                obtain ⟨y550, hy550⟩ : ∃ y_ : List Int, y_ = (t535.take 24) := ⟨_, rfl⟩
                replace H : ((tag_Take.f kj63 y550).bind fun bt554 => (if bt554.2.2.2.2 = 0 then (if (wrap64 (t528 + t536)) > 0 then (some (x4_63, bt554.1, bt554.2.1, bt554.2.2.1, bt554.2.2.2.1, 1, 0)) else (some (x4_63, bt554.1, bt554.2.1, bt554.2.2.1, bt554.2.2.2.1, x6_63, 0))) else (some (([] : List Int), 0, 0, 0, 0, 0, bt554.2.2.2.2)))) = some (r1, r2, r3, r4, r5, r6, r7) := (by rw [hy550]; with_reducible exact H)
                have Ny550 := ak_ hy550
                clear hy550
                obtain ⟨⟨t554, t555, t556, t557, t558⟩, A78, H⟩ := bs_ H
                try dsimp only at H
                by_cases c79 : t558 = 0
                ·rw [if_pos c79] at H
                 have c79b0 := beq_iff_eq.mpr c79
                 have c79b1 := bne_eq_false_iff_eq.mpr c79
                 clear c79
                 by_cases c80 : (wrap64 (t528 + t536)) > 0
                 ·rw [if_pos c80] at H
                  have c80b0 : decide (0 < (wrap64 (t528 + t536))) = true := dt_ c80
                  clear c80
                  simp only [Option.some.injEq, Prod.mk.injEq] at H
                  obtain ⟨rfl, rfl, rfl, rfl, rfl, rfl, rfl⟩ := H
                  have q81 : (24 : Int) ≤ ((t535.length : Int) : Int) := od_ ‹_›
                  obtain ⟨i081, hi081, _, hsz81, _⟩ := info_parts info5
                  have hroom81 : t535.length ≤ co70 := (Kd.R_reads' HO_11.out).2.1
                  have hC81 : Kd.C (Kd.int .u8) _ Ao70 t535.length t535 := (Kd.R_reads' HO_11.out).2.2
                  have hcut81 := cut_to (P := Try.prog) 24 5 .i64 Try.underlying24 hi081 Ao70 t535.length co70 24 (by omega) q81 hroom81
                  have hr81 := Kd.C_take (m := 24) hC81 (by omega)
                  have hy81 : y550.length = (24 : Int).toNat := (by rw [Ny550.out, List.length_take]; omega)
                  rw [← Ny550.out] at hr81
                  rw [← hy81] at hcut81
                  have HR553 := ak_ hr81
                  have HC553 := ak_ (show y550.length ≤ co70 from by omega)
                  clear hr81 hC81 hroom81 hi081 hsz81
                  have KY81 := ak_ hy81
                  clear hy81
                  have KL81 := ak_ (show 24 ≤ t535.length from by omega)
                  replace q81 := eq_true q81
                  try go_wp2_with ((with_reducible refine gate_callee (f := 62) rfl ?_); refine goesL_ (some 72) rfl rfl Try.func62 (by kernel_rfl) rfl #[.slice Ao70 y550.length co70] rfl (by (try simp only [List.map_toArray, List.map_cons, List.map_nil]); first | done | rfl | (simp only [List.length_drop, List.length_take]; rfl)) ?_; (with_reducible refine (tag_Take.calls kj63 _ _ y550 t554 t555 t556 t557 t558 _ ?side1 ?side2 A78.out).mono ?_); (case side1 => exact (by repeat (first | (with_reducible exact HR553.out) | (with_reducible refine Kd.C_alloc ?_ _) | (with_reducible refine Kd.C_drewN ?_ _) | (with_reducible refine Kd.C_drew ?_) | exact HR553.out))); (case side2 => exact HC553.out); rintro e w82 ⟨rfl, hb⟩; refine ⟨_, rfl, ?_⟩; replace HO_4 := ak_ (Kd.R_below HO_4.out hb); replace HO_11 := ak_ (Kd.R_below HO_11.out hb); replace BK507 := ak_ (blk_below BK507.out hb); replace BK508 := ak_ (blk_below BK508.out hb); replace BK518 := ak_ (blk_below BK518.out hb); replace HR553 := ak_ (Kd.C_below (by repeat (first | (with_reducible exact HR553.out) | (with_reducible refine Kd.C_alloc ?_ _) | (with_reducible refine Kd.C_drewN ?_ _) | (with_reducible refine Kd.C_drew ?_) | exact HR553.out)) hb); replace HB := ak_ (below_step HB.out hb); (try clear hb); have hnb83 := NB508_507.out; have hnc83 := NB507_508.out; have hnb84 := NB508_518.out; have hnc84 := NB518_508.out; obtain ⟨hcz85_0, hcz85_1, hcz85_2, hcz85_3⟩ := cells4 BK508.out; obtain ⟨hfz85_0, hfz85_1, hfz85_2, hfz85_3⟩ := froz4 BK508.out)
                  have n0_ : Aside0 (Kd.R (Kd.int .u8) 5 ((((w82.setCell ⟨gb508, 0, none⟩ (.int .i64 t554)).setCell ⟨gb508, 1, none⟩ (.int .i64 t555)).setCell ⟨gb508, 2, none⟩ (.int .i64 t556)).setCell ⟨gb508, 3, none⟩ (.int .i64 t557)) w.heap.size (fun k_ => some k_ ≠ (.slice Ao70 t535.length co70 : Value).ownBlock) u4 x4_63) := ⟨(Kd.R_mono (Kd.R_far (p := ⟨gb508, 3, none⟩) (Kd.R_far (p := ⟨gb508, 2, none⟩) (Kd.R_far (p := ⟨gb508, 1, none⟩) (Kd.R_far (p := ⟨gb508, 0, none⟩) (Kd.R_types HO_4.out BK508.out (by decide)) (fun _ hk => hk.2) (.int .i64 t554)) (fun _ hk => hk.2) (.int .i64 t555)) (fun _ hk => hk.2) (.int .i64 t556)) (fun _ hk => hk.2) (.int .i64 t557)) (fun _ hk => hk.1))⟩
                  have n1_ : Aside0 (Kd.R (Kd.int .u8) 5 ((((w82.setCell ⟨gb508, 0, none⟩ (.int .i64 t554)).setCell ⟨gb508, 1, none⟩ (.int .i64 t555)).setCell ⟨gb508, 2, none⟩ (.int .i64 t556)).setCell ⟨gb508, 3, none⟩ (.int .i64 t557)) w.heap.size (fun k_ => some k_ ≠ (u4 : Value).ownBlock) (.slice Ao70 t535.length co70) t535) := ⟨(Kd.R_mono (Kd.R_far (p := ⟨gb508, 3, none⟩) (Kd.R_far (p := ⟨gb508, 2, none⟩) (Kd.R_far (p := ⟨gb508, 1, none⟩) (Kd.R_far (p := ⟨gb508, 0, none⟩) (Kd.R_types HO_11.out BK508.out (by decide)) (fun _ hk => hk.2) (.int .i64 t554)) (fun _ hk => hk.2) (.int .i64 t555)) (fun _ hk => hk.2) (.int .i64 t556)) (fun _ hk => hk.2) (.int .i64 t557)) (fun _ hk => hk.1))⟩
                  have n2_ : Aside0 (((((w82.setCell ⟨gb508, 0, none⟩ (.int .i64 t554)).setCell ⟨gb508, 1, none⟩ (.int .i64 t555)).setCell ⟨gb508, 2, none⟩ (.int .i64 t556)).setCell ⟨gb508, 3, none⟩ (.int .i64 t557)).heap[gb507]? = some (.cells #[.int .i64 a0_0, .int .i64 a0_1, .int .i64 a0_2, .int .i64 a0_3, .int .i64 a0_4, .int .i64 a0_5, .int .i64 a0_6] 23 (0, 0))) := ⟨(far4 BK507.out NB507_508.out)⟩
                  have n3_ : Aside0 (((((w82.setCell ⟨gb508, 0, none⟩ (.int .i64 t554)).setCell ⟨gb508, 1, none⟩ (.int .i64 t555)).setCell ⟨gb508, 2, none⟩ (.int .i64 t556)).setCell ⟨gb508, 3, none⟩ (.int .i64 t557)).heap[gb508]? = some (.cells #[.int .i64 t554, .int .i64 t555, .int .i64 t556, .int .i64 t557] 26 (0, 0))) := ⟨(put4 BK508.out)⟩
                  have n4_ : Aside0 (((((w82.setCell ⟨gb508, 0, none⟩ (.int .i64 t554)).setCell ⟨gb508, 1, none⟩ (.int .i64 t555)).setCell ⟨gb508, 2, none⟩ (.int .i64 t556)).setCell ⟨gb508, 3, none⟩ (.int .i64 t557)).heap[gb518]? = some (.cells #[.int .i64 t509, .int .i64 t510, .int .i64 t511, .int .i64 t512, .int .i64 t513, .int .i64 t514, .int .i64 t515, .int .i64 t516] 70 (0, 0))) := ⟨(far4 BK518.out NB518_508.out)⟩
                  have n5_ : Aside0 (Below w.heap.size w ((((w82.setCell ⟨gb508, 0, none⟩ (.int .i64 t554)).setCell ⟨gb508, 1, none⟩ (.int .i64 t555)).setCell ⟨gb508, 2, none⟩ (.int .i64 t556)).setCell ⟨gb508, 3, none⟩ (.int .i64 t557))) := ⟨by repeat (first | (with_reducible first | exact HB.out | apply below_alloc | apply pw_below_drewN | apply below_drew1 | refine below_set ?_ GE507.out | refine below_set ?_ GE508.out | refine below_set ?_ GE518.out) | exact HB.out)⟩
                  (try clear HO_4)
                  (try clear HO_11)
                  (try clear BK507)
                  (try clear BK508)
                  (try clear BK518)
                  (try clear HB)
                  generalize ((((w82.setCell ⟨gb508, 0, none⟩ (.int .i64 t554)).setCell ⟨gb508, 1, none⟩ (.int .i64 t555)).setCell ⟨gb508, 2, none⟩ (.int .i64 t556)).setCell ⟨gb508, 3, none⟩ (.int .i64 t557)) = w86 at n0_ n1_ n2_ n3_ n4_ n5_ ⊢
                  have HO_4 := n0_
                  have HO_11 := n1_
                  have BK507 := n2_
                  have BK508 := n3_
                  have BK518 := n4_
                  have HB := n5_
                  clear n0_ n1_ n2_ n3_ n4_ n5_
                  replace HO_4 := ak_ (Kd.R_drew HO_4.out)
                  replace HO_11 := ak_ (Kd.R_drew HO_11.out)
                  replace BK507 := ak_ (blk_drew BK507.out)
                  replace BK508 := ak_ (blk_drew BK508.out)
                  replace BK518 := ak_ (blk_drew BK518.out)
                  replace HB := ak_ (below_drew1 HB.out)
                  refine start_ (n := 7) (S := fun w' => w'.cell? ⟨gb508, 0, none⟩ = some (.int .i64 t554) ∧ w'.cell? ⟨gb508, 1, none⟩ = some (.int .i64 t555) ∧ w'.cell? ⟨gb508, 2, none⟩ = some (.int .i64 t556) ∧ w'.cell? ⟨gb508, 3, none⟩ = some (.int .i64 t557)) (ds := [4]) #[false, false, false, false, false, false, false] (by kernel_rfl) rfl rfl ⟨(bc_ BK508.out 0).trans rfl, (bc_ BK508.out 1).trans rfl, (bc_ BK508.out 2).trans rfl, (bc_ BK508.out 3).trans rfl⟩ (fun hHeld => ?_)
                  generalize w86.drew = w87 at HO_4 HO_11 BK507 BK508 BK518 HB hHeld ⊢
                  refine pv 0 (some 83) #[true, false, false, false, false, false, false] rfl rfl ?_
                  refine pv 2 (some 85) #[true, false, true, false, false, false, false] rfl rfl ?_
                  refine pv 3 (some 4) #[true, false, true, true, false, false, false] rfl rfl ?_
                  refine take_ (i := 1) (N := some 84) (v := ?_) (a' := ?_) #[true, true, true, true, false, false, false] rfl rfl (by kernel_rfl) (fun _ _ _ h => h) (Or.inl ⟨by rfl, ?_⟩) hHeld ?_ ?_
                  rotate_left
                  ·rintro w' ⟨s0, s1, s2, s3⟩
                   go_simp
                   with_reducible rfl
                  rotate_left
                  ·simp only [Act.put, sb_, sz_, su_, i64_w, i32_w]
                   rfl
                  refine last_ (i := 4) (N := none) #[true, true, true, true, true, false, false] rfl rfl (by kernel_rfl) (by decide) (fun K hK => ?_)
                  have hs88 : w87.cell? ⟨gb508, 0, none⟩ = some (.int .i64 t554) := (bc_ BK508.out 0).trans rfl
                  have hfs88 := bf_ BK508.out 0
                  have hns88_0 := NB507_508.out
                  have hns88_2 := NB518_508.out
                  have hms88_0 := NB508_507.out
                  have hms88_2 := NB508_518.out
                  have hs89 : w87.cell? ⟨gb508, 1, none⟩ = some (.int .i64 t555) := (bc_ BK508.out 1).trans rfl
                  have hfs89 := bf_ BK508.out 1
                  have hns89_0 := NB507_508.out
                  have hns89_2 := NB518_508.out
                  have hms89_0 := NB508_507.out
                  have hms89_2 := NB508_518.out
                  have hs90 : w87.cell? ⟨gb508, 2, none⟩ = some (.int .i64 t556) := (bc_ BK508.out 2).trans rfl
                  have hfs90 := bf_ BK508.out 2
                  have hns90_0 := NB507_508.out
                  have hns90_2 := NB518_508.out
                  have hms90_0 := NB508_507.out
                  have hms90_2 := NB508_518.out
                  have hs91 : w87.cell? ⟨gb508, 3, none⟩ = some (.int .i64 t557) := (bc_ BK508.out 3).trans rfl
                  have hfs91 := bf_ BK508.out 3
                  have hns91_0 := NB507_508.out
                  have hns91_2 := NB518_508.out
                  have hms91_0 := NB508_507.out
                  have hms91_2 := NB508_518.out
                  refine skip_ (w1 := ?_) (by rfl) rfl ?_ ?_
                  rotate_left
                  ·go_simp
                   rfl
                  refine hK.out _ _ ?_
                  clear hK K
                  refine pv 5 (some 6) #[true, true, true, true, true, true, false] rfl rfl ?_
                  refine pv 6 (some 7) #[true, true, true, true, true, true, true] rfl rfl ?_
                  refine done_ (by kernel_rfl) ?_
                  try go_wp2
                  refine bodyPost_ret (results_list (rs := [.tmp 4, .cell 5 26, .tmp 6, .tmp 7]) rfl (by simp) (.tmp (.cell gb508 26 #[.int .i64 t554, .int .i64 t555, .int .i64 t556, .int .i64 t557] (0, 0) _ rfl (put4 BK508.out) Try.underlying26 rfl (by kernel_rfl) (.tmp (.tmp .nil))))) rfl ?_
                  exact ⟨_, by rfl, (Kd.R_mono (Kd.R_far (p := ⟨gb508, 3, none⟩) (Kd.R_far (p := ⟨gb508, 2, none⟩) (Kd.R_far (p := ⟨gb508, 1, none⟩) (Kd.R_far (p := ⟨gb508, 0, none⟩) (Kd.R_types HO_4.out BK508.out (by decide)) (fun _ hk => hk.2) (.int .i64 t554)) (fun _ hk => hk.2) (.int .i64 t555)) (fun _ hk => hk.2) (.int .i64 t556)) (fun _ hk => hk.2) (.int .i64 t557)) (fun _ hk => trivial)), by repeat (first | (with_reducible first | exact HB.out | apply below_alloc | apply pw_below_drewN | apply below_drew1 | refine below_set ?_ GE507.out | refine below_set ?_ GE508.out | refine below_set ?_ GE518.out) | exact HB.out)⟩
                 ·rw [if_neg c80] at H
                  have c80b0 : decide (0 < (wrap64 (t528 + t536))) = false := df_ c80
                  clear c80
                  simp only [Option.some.injEq, Prod.mk.injEq] at H
                  obtain ⟨rfl, rfl, rfl, rfl, rfl, rfl, rfl⟩ := H
                  have q92 : (24 : Int) ≤ ((t535.length : Int) : Int) := od_ ‹_›
                  obtain ⟨i092, hi092, _, hsz92, _⟩ := info_parts info5
                  have hroom92 : t535.length ≤ co70 := (Kd.R_reads' HO_11.out).2.1
                  have hC92 : Kd.C (Kd.int .u8) _ Ao70 t535.length t535 := (Kd.R_reads' HO_11.out).2.2
                  have hcut92 := cut_to (P := Try.prog) 24 5 .i64 Try.underlying24 hi092 Ao70 t535.length co70 24 (by omega) q92 hroom92
                  have hr92 := Kd.C_take (m := 24) hC92 (by omega)
                  have hy92 : y550.length = (24 : Int).toNat := (by rw [Ny550.out, List.length_take]; omega)
                  rw [← Ny550.out] at hr92
                  rw [← hy92] at hcut92
                  have HR553 := ak_ hr92
                  have HC553 := ak_ (show y550.length ≤ co70 from by omega)
                  clear hr92 hC92 hroom92 hi092 hsz92
                  have KY92 := ak_ hy92
                  clear hy92
                  have KL92 := ak_ (show 24 ≤ t535.length from by omega)
                  replace q92 := eq_true q92
                  try go_wp2_with ((with_reducible refine gate_callee (f := 62) rfl ?_); refine goesL_ (some 72) rfl rfl Try.func62 (by kernel_rfl) rfl #[.slice Ao70 y550.length co70] rfl (by (try simp only [List.map_toArray, List.map_cons, List.map_nil]); first | done | rfl | (simp only [List.length_drop, List.length_take]; rfl)) ?_; (with_reducible refine (tag_Take.calls kj63 _ _ y550 t554 t555 t556 t557 t558 _ ?side1 ?side2 A78.out).mono ?_); (case side1 => exact (by repeat (first | (with_reducible exact HR553.out) | (with_reducible refine Kd.C_alloc ?_ _) | (with_reducible refine Kd.C_drewN ?_ _) | (with_reducible refine Kd.C_drew ?_) | exact HR553.out))); (case side2 => exact HC553.out); rintro e w93 ⟨rfl, hb⟩; refine ⟨_, rfl, ?_⟩; replace HO_4 := ak_ (Kd.R_below HO_4.out hb); replace HO_11 := ak_ (Kd.R_below HO_11.out hb); replace BK507 := ak_ (blk_below BK507.out hb); replace BK508 := ak_ (blk_below BK508.out hb); replace BK518 := ak_ (blk_below BK518.out hb); replace HR553 := ak_ (Kd.C_below (by repeat (first | (with_reducible exact HR553.out) | (with_reducible refine Kd.C_alloc ?_ _) | (with_reducible refine Kd.C_drewN ?_ _) | (with_reducible refine Kd.C_drew ?_) | exact HR553.out)) hb); replace HB := ak_ (below_step HB.out hb); (try clear hb); have hnb94 := NB508_507.out; have hnc94 := NB507_508.out; have hnb95 := NB508_518.out; have hnc95 := NB518_508.out; obtain ⟨hcz96_0, hcz96_1, hcz96_2, hcz96_3⟩ := cells4 BK508.out; obtain ⟨hfz96_0, hfz96_1, hfz96_2, hfz96_3⟩ := froz4 BK508.out)
                  have n0_ : Aside0 (Kd.R (Kd.int .u8) 5 ((((w93.setCell ⟨gb508, 0, none⟩ (.int .i64 t554)).setCell ⟨gb508, 1, none⟩ (.int .i64 t555)).setCell ⟨gb508, 2, none⟩ (.int .i64 t556)).setCell ⟨gb508, 3, none⟩ (.int .i64 t557)) w.heap.size (fun k_ => some k_ ≠ (.slice Ao70 t535.length co70 : Value).ownBlock) u4 x4_63) := ⟨(Kd.R_mono (Kd.R_far (p := ⟨gb508, 3, none⟩) (Kd.R_far (p := ⟨gb508, 2, none⟩) (Kd.R_far (p := ⟨gb508, 1, none⟩) (Kd.R_far (p := ⟨gb508, 0, none⟩) (Kd.R_types HO_4.out BK508.out (by decide)) (fun _ hk => hk.2) (.int .i64 t554)) (fun _ hk => hk.2) (.int .i64 t555)) (fun _ hk => hk.2) (.int .i64 t556)) (fun _ hk => hk.2) (.int .i64 t557)) (fun _ hk => hk.1))⟩
                  have n1_ : Aside0 (Kd.R (Kd.int .u8) 5 ((((w93.setCell ⟨gb508, 0, none⟩ (.int .i64 t554)).setCell ⟨gb508, 1, none⟩ (.int .i64 t555)).setCell ⟨gb508, 2, none⟩ (.int .i64 t556)).setCell ⟨gb508, 3, none⟩ (.int .i64 t557)) w.heap.size (fun k_ => some k_ ≠ (u4 : Value).ownBlock) (.slice Ao70 t535.length co70) t535) := ⟨(Kd.R_mono (Kd.R_far (p := ⟨gb508, 3, none⟩) (Kd.R_far (p := ⟨gb508, 2, none⟩) (Kd.R_far (p := ⟨gb508, 1, none⟩) (Kd.R_far (p := ⟨gb508, 0, none⟩) (Kd.R_types HO_11.out BK508.out (by decide)) (fun _ hk => hk.2) (.int .i64 t554)) (fun _ hk => hk.2) (.int .i64 t555)) (fun _ hk => hk.2) (.int .i64 t556)) (fun _ hk => hk.2) (.int .i64 t557)) (fun _ hk => hk.1))⟩
                  have n2_ : Aside0 (((((w93.setCell ⟨gb508, 0, none⟩ (.int .i64 t554)).setCell ⟨gb508, 1, none⟩ (.int .i64 t555)).setCell ⟨gb508, 2, none⟩ (.int .i64 t556)).setCell ⟨gb508, 3, none⟩ (.int .i64 t557)).heap[gb507]? = some (.cells #[.int .i64 a0_0, .int .i64 a0_1, .int .i64 a0_2, .int .i64 a0_3, .int .i64 a0_4, .int .i64 a0_5, .int .i64 a0_6] 23 (0, 0))) := ⟨(far4 BK507.out NB507_508.out)⟩
                  have n3_ : Aside0 (((((w93.setCell ⟨gb508, 0, none⟩ (.int .i64 t554)).setCell ⟨gb508, 1, none⟩ (.int .i64 t555)).setCell ⟨gb508, 2, none⟩ (.int .i64 t556)).setCell ⟨gb508, 3, none⟩ (.int .i64 t557)).heap[gb508]? = some (.cells #[.int .i64 t554, .int .i64 t555, .int .i64 t556, .int .i64 t557] 26 (0, 0))) := ⟨(put4 BK508.out)⟩
                  have n4_ : Aside0 (((((w93.setCell ⟨gb508, 0, none⟩ (.int .i64 t554)).setCell ⟨gb508, 1, none⟩ (.int .i64 t555)).setCell ⟨gb508, 2, none⟩ (.int .i64 t556)).setCell ⟨gb508, 3, none⟩ (.int .i64 t557)).heap[gb518]? = some (.cells #[.int .i64 t509, .int .i64 t510, .int .i64 t511, .int .i64 t512, .int .i64 t513, .int .i64 t514, .int .i64 t515, .int .i64 t516] 70 (0, 0))) := ⟨(far4 BK518.out NB518_508.out)⟩
                  have n5_ : Aside0 (Below w.heap.size w ((((w93.setCell ⟨gb508, 0, none⟩ (.int .i64 t554)).setCell ⟨gb508, 1, none⟩ (.int .i64 t555)).setCell ⟨gb508, 2, none⟩ (.int .i64 t556)).setCell ⟨gb508, 3, none⟩ (.int .i64 t557))) := ⟨by repeat (first | (with_reducible first | exact HB.out | apply below_alloc | apply pw_below_drewN | apply below_drew1 | refine below_set ?_ GE507.out | refine below_set ?_ GE508.out | refine below_set ?_ GE518.out) | exact HB.out)⟩
                  (try clear HO_4)
                  (try clear HO_11)
                  (try clear BK507)
                  (try clear BK508)
                  (try clear BK518)
                  (try clear HB)
                  generalize ((((w93.setCell ⟨gb508, 0, none⟩ (.int .i64 t554)).setCell ⟨gb508, 1, none⟩ (.int .i64 t555)).setCell ⟨gb508, 2, none⟩ (.int .i64 t556)).setCell ⟨gb508, 3, none⟩ (.int .i64 t557)) = w97 at n0_ n1_ n2_ n3_ n4_ n5_ ⊢
                  have HO_4 := n0_
                  have HO_11 := n1_
                  have BK507 := n2_
                  have BK508 := n3_
                  have BK518 := n4_
                  have HB := n5_
                  clear n0_ n1_ n2_ n3_ n4_ n5_
                  replace HO_4 := ak_ (Kd.R_drew HO_4.out)
                  replace HO_11 := ak_ (Kd.R_drew HO_11.out)
                  replace BK507 := ak_ (blk_drew BK507.out)
                  replace BK508 := ak_ (blk_drew BK508.out)
                  replace BK518 := ak_ (blk_drew BK518.out)
                  replace HB := ak_ (below_drew1 HB.out)
                  refine start_ (n := 7) (S := fun w' => w'.cell? ⟨gb508, 0, none⟩ = some (.int .i64 t554) ∧ w'.cell? ⟨gb508, 1, none⟩ = some (.int .i64 t555) ∧ w'.cell? ⟨gb508, 2, none⟩ = some (.int .i64 t556) ∧ w'.cell? ⟨gb508, 3, none⟩ = some (.int .i64 t557)) (ds := [4]) #[false, false, false, false, false, false, false] (by kernel_rfl) rfl rfl ⟨(bc_ BK508.out 0).trans rfl, (bc_ BK508.out 1).trans rfl, (bc_ BK508.out 2).trans rfl, (bc_ BK508.out 3).trans rfl⟩ (fun hHeld => ?_)
                  generalize w97.drew = w98 at HO_4 HO_11 BK507 BK508 BK518 HB hHeld ⊢
                  refine pv 0 (some 83) #[true, false, false, false, false, false, false] rfl rfl ?_
                  refine pv 2 (some 85) #[true, false, true, false, false, false, false] rfl rfl ?_
                  refine pv 3 (some 4) #[true, false, true, true, false, false, false] rfl rfl ?_
                  refine take_ (i := 1) (N := some 84) (v := ?_) (a' := ?_) #[true, true, true, true, false, false, false] rfl rfl (by kernel_rfl) (fun _ _ _ h => h) (Or.inl ⟨by rfl, ?_⟩) hHeld ?_ ?_
                  rotate_left
                  ·rintro w' ⟨s0, s1, s2, s3⟩
                   go_simp
                   with_reducible rfl
                  rotate_left
                  ·simp only [Act.put, sb_, sz_, su_, i64_w, i32_w]
                   rfl
                  refine last_ (i := 4) (N := none) #[true, true, true, true, true, false, false] rfl rfl (by kernel_rfl) (by decide) (fun K hK => ?_)
                  have hs99 : w98.cell? ⟨gb508, 0, none⟩ = some (.int .i64 t554) := (bc_ BK508.out 0).trans rfl
                  have hfs99 := bf_ BK508.out 0
                  have hns99_0 := NB507_508.out
                  have hns99_2 := NB518_508.out
                  have hms99_0 := NB508_507.out
                  have hms99_2 := NB508_518.out
                  have hs100 : w98.cell? ⟨gb508, 1, none⟩ = some (.int .i64 t555) := (bc_ BK508.out 1).trans rfl
                  have hfs100 := bf_ BK508.out 1
                  have hns100_0 := NB507_508.out
                  have hns100_2 := NB518_508.out
                  have hms100_0 := NB508_507.out
                  have hms100_2 := NB508_518.out
                  have hs101 : w98.cell? ⟨gb508, 2, none⟩ = some (.int .i64 t556) := (bc_ BK508.out 2).trans rfl
                  have hfs101 := bf_ BK508.out 2
                  have hns101_0 := NB507_508.out
                  have hns101_2 := NB518_508.out
                  have hms101_0 := NB508_507.out
                  have hms101_2 := NB508_518.out
                  have hs102 : w98.cell? ⟨gb508, 3, none⟩ = some (.int .i64 t557) := (bc_ BK508.out 3).trans rfl
                  have hfs102 := bf_ BK508.out 3
                  have hns102_0 := NB507_508.out
                  have hns102_2 := NB518_508.out
                  have hms102_0 := NB508_507.out
                  have hms102_2 := NB508_518.out
                  refine skip_ (w1 := ?_) (by rfl) rfl ?_ ?_
                  rotate_left
                  ·go_simp
                   rfl
                  refine hK.out _ _ ?_
                  clear hK K
                  refine pv 5 (some 6) #[true, true, true, true, true, true, false] rfl rfl ?_
                  refine pv 6 (some 7) #[true, true, true, true, true, true, true] rfl rfl ?_
                  refine done_ (by kernel_rfl) ?_
                  try go_wp2
                  refine bodyPost_ret (results_list (rs := [.tmp 4, .cell 5 26, .tmp 6, .tmp 7]) rfl (by simp) (.tmp (.cell gb508 26 #[.int .i64 t554, .int .i64 t555, .int .i64 t556, .int .i64 t557] (0, 0) _ rfl (put4 BK508.out) Try.underlying26 rfl (by kernel_rfl) (.tmp (.tmp .nil))))) rfl ?_
                  exact ⟨_, by rfl, (Kd.R_mono (Kd.R_far (p := ⟨gb508, 3, none⟩) (Kd.R_far (p := ⟨gb508, 2, none⟩) (Kd.R_far (p := ⟨gb508, 1, none⟩) (Kd.R_far (p := ⟨gb508, 0, none⟩) (Kd.R_types HO_4.out BK508.out (by decide)) (fun _ hk => hk.2) (.int .i64 t554)) (fun _ hk => hk.2) (.int .i64 t555)) (fun _ hk => hk.2) (.int .i64 t556)) (fun _ hk => hk.2) (.int .i64 t557)) (fun _ hk => trivial)), by repeat (first | (with_reducible first | exact HB.out | apply below_alloc | apply pw_below_drewN | apply below_drew1 | refine below_set ?_ GE507.out | refine below_set ?_ GE508.out | refine below_set ?_ GE518.out) | exact HB.out)⟩
                ·rw [if_neg c79] at H
                 have c79b0 := beq_eq_false_iff_ne.mpr c79
                 have c79b1 := bne_iff_ne.mpr c79
                 simp only [Option.some.injEq, Prod.mk.injEq] at H
                 obtain ⟨rfl, rfl, rfl, rfl, rfl, rfl, rfl⟩ := H
                 have q103 : (24 : Int) ≤ ((t535.length : Int) : Int) := od_ ‹_›
                 obtain ⟨i0103, hi0103, _, hsz103, _⟩ := info_parts info5
                 have hroom103 : t535.length ≤ co70 := (Kd.R_reads' HO_11.out).2.1
                 have hC103 : Kd.C (Kd.int .u8) _ Ao70 t535.length t535 := (Kd.R_reads' HO_11.out).2.2
                 have hcut103 := cut_to (P := Try.prog) 24 5 .i64 Try.underlying24 hi0103 Ao70 t535.length co70 24 (by omega) q103 hroom103
                 have hr103 := Kd.C_take (m := 24) hC103 (by omega)
                 have hy103 : y550.length = (24 : Int).toNat := (by rw [Ny550.out, List.length_take]; omega)
                 rw [← Ny550.out] at hr103
                 rw [← hy103] at hcut103
                 have HR553 := ak_ hr103
                 have HC553 := ak_ (show y550.length ≤ co70 from by omega)
                 clear hr103 hC103 hroom103 hi0103 hsz103
                 have KY103 := ak_ hy103
                 clear hy103
                 have KL103 := ak_ (show 24 ≤ t535.length from by omega)
                 replace q103 := eq_true q103
                 go_wp2_with ((with_reducible refine gate_callee (f := 62) rfl ?_); refine goesL_ (some 72) rfl rfl Try.func62 (by kernel_rfl) rfl #[.slice Ao70 y550.length co70] rfl (by (try simp only [List.map_toArray, List.map_cons, List.map_nil]); first | done | rfl | (simp only [List.length_drop, List.length_take]; rfl)) ?_; (with_reducible refine (tag_Take.calls kj63 _ _ y550 t554 t555 t556 t557 t558 _ ?side1 ?side2 A78.out).mono ?_); (case side1 => exact (by repeat (first | (with_reducible exact HR553.out) | (with_reducible refine Kd.C_alloc ?_ _) | (with_reducible refine Kd.C_drewN ?_ _) | (with_reducible refine Kd.C_drew ?_) | exact HR553.out))); (case side2 => exact HC553.out); rintro e w104 ⟨rfl, hb⟩; refine ⟨_, rfl, ?_⟩; replace HO_4 := ak_ (Kd.R_below HO_4.out hb); replace HO_11 := ak_ (Kd.R_below HO_11.out hb); replace BK507 := ak_ (blk_below BK507.out hb); replace BK508 := ak_ (blk_below BK508.out hb); replace BK518 := ak_ (blk_below BK518.out hb); replace HR553 := ak_ (Kd.C_below (by repeat (first | (with_reducible exact HR553.out) | (with_reducible refine Kd.C_alloc ?_ _) | (with_reducible refine Kd.C_drewN ?_ _) | (with_reducible refine Kd.C_drew ?_) | exact HR553.out)) hb); replace HB := ak_ (below_step HB.out hb); (try clear hb); have hnb105 := NB508_507.out; have hnc105 := NB507_508.out; have hnb106 := NB508_518.out; have hnc106 := NB518_508.out; obtain ⟨hcz107_0, hcz107_1, hcz107_2, hcz107_3⟩ := cells4 BK508.out; obtain ⟨hfz107_0, hfz107_1, hfz107_2, hfz107_3⟩ := froz4 BK508.out)
                 refine bodyPost_ret (results_list (rs := [.tmp 4, .cell 5 26, .tmp 6, .tmp 7]) rfl (by simp) (.tmp (.cell gb508 26 #[.int .i64 0, .int .i64 0, .int .i64 0, .int .i64 0] (0, 0) _ rfl (put4 (put4 BK508.out)) Try.underlying26 rfl (by kernel_rfl) (.tmp (.tmp .nil))))) rfl ?_
                 exact ⟨_, by rfl, (Kd.R_nil _ _ _ _ _), by repeat (first | (with_reducible first | exact HB.out | apply below_alloc | apply pw_below_drewN | apply below_drew1 | refine below_set ?_ GE507.out | refine below_set ?_ GE508.out | refine below_set ?_ GE518.out) | exact HB.out)⟩
               ·rw [if_neg c77] at H
                exact absurd H (by simp)
            ·rw [if_neg c62] at H
             exact absurd H (by simp)
           ·rw [if_neg c61] at H
            exact absurd H (by simp)
end Go.Proofs.Ytmehbabchakkpaa.QLadderWalks
