/-
  Texts for the law LadderFits, laid together by my program merge2.py; what nothing here names is left out.
-/
import Derived.Test.YtmehbabchakkpaaMLadderFitsx2
namespace Go.Proofs.Ytmehbabchakkpaa.QLadderFits
open Go.RowKit Go.Proofs.YtmehbabchakkpaaW.PrintWords Go.Proofs.YtmehbabchakkpaaW.PrintLast Go.Proofs.YtmehbabchakkpaaW.PrintMore Go.Proofs.Ytmehbabchakkpaa.Short
attribute [local go_sem] max2_int min2_int max_two min_two max_three min_three max_four min_four   -- for this text's walks alone
set_option linter.unusedVariables false
set_option linter.unusedSimpArgs false
mutual
def page_Decode.j0 : Nat → List Int → Int → Bool → Int → Int → Int → Int → Int → Int → Int → Int → Option (List Int × Int × Int × Int × Int × Int × Int)
 | 0, _, _, _, _, _, _, _, _, _, _, _ => none
 | k + 1, x1, x6, x26, x238000, x238001, x238002, x238003, x238004, x238005, x238006, x238007 => if x26 = true then (some (([] : List Int), 0, 0, 0, 0, 0, 2)) else (page_Decode.j1 k x1 x6 x238000 x238001 x238002 x238003 x238004 x238005 x238006 x238007)
def page_Decode.j1 : Nat → List Int → Int → Int → Int → Int → Int → Int → Int → Int → Int → Option (List Int × Int × Int × Int × Int × Int × Int)
 | 0, _, _, _, _, _, _, _, _, _, _ => none
 | k + 1, x1, x6, x238000, x238001, x238002, x238003, x238004, x238005, x238006, x238007 => (page_shape_label.f x238000 x238001 x238002 x238003 x238004 x238005 x238006 x238007 x1).bind fun t239 => ((bits_Zeros.f k t239).bind fun t242 => (if t242 ≤ 20 then (some (([] : List Int), 0, 0, 0, 0, 2, 0)) else (page_Decode.j2 k x1 x6 x238000 x238001 x238002 x238003 x238004 x238005 x238006 x238007)))
def page_Decode.j2 : Nat → List Int → Int → Int → Int → Int → Int → Int → Int → Int → Int → Option (List Int × Int × Int × Int × Int × Int × Int)
 | 0, _, _, _, _, _, _, _, _, _, _ => none
 | k + 1, x1, x6, x238000, x238001, x238002, x238003, x238004, x238005, x238006, x238007 => (page_shape_chunks.f x238000 x238001 x238002 x238003 x238004 x238005 x238006 x238007 x1).bind fun t243 => ((chunk_All.f k t243 x238004).bind fun bt246 => (if bt246.2.2 = 0 then (page_Decode.j3 k x1 bt246.1 x6 bt246.2.1 x238000 x238001 x238002 x238003 x238004 x238005 x238006 x238007) else (some (([] : List Int), 0, 0, 0, 0, 0, bt246.2.2))))
def page_Decode.j3 : Nat → List Int → List Int → Int → Int → Int → Int → Int → Int → Int → Int → Int → Int → Option (List Int × Int × Int × Int × Int × Int × Int)
 | 0, _, _, _, _, _, _, _, _, _, _, _, _ => none
 | k + 1, x1, x4, x6, x10, x238000, x238001, x238002, x238003, x238004, x238005, x238006, x238007 => (page_shape_label.f x238000 x238001 x238002 x238003 x238004 x238005 x238006 x238007 x1).bind fun t251 => ((chunk_Decode.f k t251).bind fun bt254 => (if bt254.2.2 = 0 then (page_Decode.j4 k x4 x6 x10 bt254.1 bt254.2.1) else (some (([] : List Int), 0, 0, 0, 0, 0, bt254.2.2))))
def page_Decode.j4 : Nat → List Int → Int → Int → List Int → Int → Option (List Int × Int × Int × Int × Int × Int × Int)
 | 0, _, _, _, _, _ => none
 | k + 1, x4, x6, x10, x11, x12 => (some (([] : List Int) : List Int)).bind fun y259 => (if y259.length + x4.length < 140737488355328 then ((some (y259 ++ x4 : List Int)).bind fun y262 => (if y262.length + x11.length < 140737488355328 then ((crc_Check.f k (y262 ++ x11)).bind fun t268 => (if t268 = true then (page_Decode.j5 k x4 x6 x10 x11 x12) else (some (([] : List Int), 0, 0, 0, 0, 0, 12)))) else (none))) else (none))
def page_Decode.j5 : Nat → List Int → Int → Int → List Int → Int → Option (List Int × Int × Int × Int × Int × Int × Int)
 | 0, _, _, _, _, _ => none
 | k + 1, x4, x6, x10, x11, x12 => if 24 ≤ (x11.length : Int) then ((tag_Take.f k (x11.take 24)).bind fun bt273 => (if bt273.2.2.2.2 = 0 then (if (wrap64 (x10 + x12)) > 0 then (some (x4, bt273.1, bt273.2.1, bt273.2.2.1, bt273.2.2.2.1, 1, 0)) else (some (x4, bt273.1, bt273.2.1, bt273.2.2.1, bt273.2.2.2.1, x6, 0))) else (some (([] : List Int), 0, 0, 0, 0, 0, bt273.2.2.2.2)))) else (none)
end
def page_Decode.f (k : Nat) (a0_0 : Int) (a0_1 : Int) (a0_2 : Int) (a0_3 : Int) (a0_4 : Int) (a0_5 : Int) (a0_6 : Int) (l1 : List Int) : Option (List Int × Int × Int × Int × Int × Int × Int) := (page_of.f a0_0 a0_1 a0_2 a0_3 a0_4 a0_5 a0_6).bind fun bt228 => (if bt228.2.2.2.2.2.2.2.2 = true then ((page_shape_size.f bt228.1 bt228.2.1 bt228.2.2.1 bt228.2.2.2.1 bt228.2.2.2.2.1 bt228.2.2.2.2.2.1 bt228.2.2.2.2.2.2.1 bt228.2.2.2.2.2.2.2.1).bind fun t238 => (page_Decode.j0 k l1 0 ((l1.length : Int) != t238) bt228.1 bt228.2.1 bt228.2.2.1 bt228.2.2.2.1 bt228.2.2.2.2.1 bt228.2.2.2.2.2.1 bt228.2.2.2.2.2.2.1 bt228.2.2.2.2.2.2.2.1)) else (page_Decode.j0 k l1 0 true bt228.1 bt228.2.1 bt228.2.2.1 bt228.2.2.2.1 bt228.2.2.2.2.1 bt228.2.2.2.2.2.1 bt228.2.2.2.2.2.2.1 bt228.2.2.2.2.2.2.2.1))
theorem page_Decode.mono_l : ∀ k, (∀ y0 y1 y2 y3 y4 y5 y6 y7 y8 y9 y10, LeO (page_Decode.j0 k y0 y1 y2 y3 y4 y5 y6 y7 y8 y9 y10) (page_Decode.j0 (k + 1) y0 y1 y2 y3 y4 y5 y6 y7 y8 y9 y10)) ∧ (∀ y0 y1 y2 y3 y4 y5 y6 y7 y8 y9, LeO (page_Decode.j1 k y0 y1 y2 y3 y4 y5 y6 y7 y8 y9) (page_Decode.j1 (k + 1) y0 y1 y2 y3 y4 y5 y6 y7 y8 y9)) ∧ (∀ y0 y1 y2 y3 y4 y5 y6 y7 y8 y9, LeO (page_Decode.j2 k y0 y1 y2 y3 y4 y5 y6 y7 y8 y9) (page_Decode.j2 (k + 1) y0 y1 y2 y3 y4 y5 y6 y7 y8 y9)) ∧ (∀ y0 y1 y2 y3 y4 y5 y6 y7 y8 y9 y10 y11, LeO (page_Decode.j3 k y0 y1 y2 y3 y4 y5 y6 y7 y8 y9 y10 y11) (page_Decode.j3 (k + 1) y0 y1 y2 y3 y4 y5 y6 y7 y8 y9 y10 y11)) ∧ (∀ y0 y1 y2 y3 y4, LeO (page_Decode.j4 k y0 y1 y2 y3 y4) (page_Decode.j4 (k + 1) y0 y1 y2 y3 y4)) ∧ (∀ y0 y1 y2 y3 y4, LeO (page_Decode.j5 k y0 y1 y2 y3 y4) (page_Decode.j5 (k + 1) y0 y1 y2 y3 y4))
 | 0 => ⟨fun _ _ _ _ _ _ _ _ _ _ _ r h => by simp [page_Decode.j0] at h, fun _ _ _ _ _ _ _ _ _ _ r h => by simp [page_Decode.j1] at h, fun _ _ _ _ _ _ _ _ _ _ r h => by simp [page_Decode.j2] at h, fun _ _ _ _ _ _ _ _ _ _ _ _ r h => by simp [page_Decode.j3] at h, fun _ _ _ _ _ r h => by simp [page_Decode.j4] at h, fun _ _ _ _ _ r h => by simp [page_Decode.j5] at h⟩
 | k + 1 => by
  obtain ⟨ih0, ih1, ih2, ih3, ih4, ih5⟩ := page_Decode.mono_l k
  refine ⟨?_, ?_, ?_, ?_, ?_, ?_⟩
  ·intro y0 y1 y2 y3 y4 y5 y6 y7 y8 y9 y10
   unfold page_Decode.j0
   repeat' first
   | (with_reducible exact ih0 _ _ _ _ _ _ _ _ _ _ _)
   | (with_reducible exact ih1 _ _ _ _ _ _ _ _ _ _)
   | (with_reducible exact ih2 _ _ _ _ _ _ _ _ _ _)
   | (with_reducible exact ih3 _ _ _ _ _ _ _ _ _ _ _ _)
   | (with_reducible exact ih4 _ _ _ _ _)
   | (with_reducible exact ih5 _ _ _ _ _)
   | (with_reducible exact bits_Zeros.mono _ _)
   | (with_reducible exact chunk_All.mono _ _ _)
   | (with_reducible exact chunk_Decode.mono _ _)
   | (with_reducible exact crc_Check.mono _ _)
   | (with_reducible exact tag_Take.mono _ _)
   | (with_reducible exact LeO.refl _)
   | (with_reducible exact LeO.none _)
   | (with_reducible refine LeO.ite ?_ ?_)
   | (with_reducible refine LeO.bind ?_ (fun _ => ?_))
  ·intro y0 y1 y2 y3 y4 y5 y6 y7 y8 y9
   unfold page_Decode.j1
   repeat' first
   | (with_reducible exact ih0 _ _ _ _ _ _ _ _ _ _ _)
   | (with_reducible exact ih1 _ _ _ _ _ _ _ _ _ _)
   | (with_reducible exact ih2 _ _ _ _ _ _ _ _ _ _)
   | (with_reducible exact ih3 _ _ _ _ _ _ _ _ _ _ _ _)
   | (with_reducible exact ih4 _ _ _ _ _)
   | (with_reducible exact ih5 _ _ _ _ _)
   | (with_reducible exact bits_Zeros.mono _ _)
   | (with_reducible exact chunk_All.mono _ _ _)
   | (with_reducible exact chunk_Decode.mono _ _)
   | (with_reducible exact crc_Check.mono _ _)
   | (with_reducible exact tag_Take.mono _ _)
   | (with_reducible exact LeO.refl _)
   | (with_reducible exact LeO.none _)
   | (with_reducible refine LeO.ite ?_ ?_)
   | (with_reducible refine LeO.bind ?_ (fun _ => ?_))
  ·intro y0 y1 y2 y3 y4 y5 y6 y7 y8 y9
   unfold page_Decode.j2
   repeat' first
   | (with_reducible exact ih0 _ _ _ _ _ _ _ _ _ _ _)
   | (with_reducible exact ih1 _ _ _ _ _ _ _ _ _ _)
   | (with_reducible exact ih2 _ _ _ _ _ _ _ _ _ _)
   | (with_reducible exact ih3 _ _ _ _ _ _ _ _ _ _ _ _)
   | (with_reducible exact ih4 _ _ _ _ _)
   | (with_reducible exact ih5 _ _ _ _ _)
   | (with_reducible exact bits_Zeros.mono _ _)
   | (with_reducible exact chunk_All.mono _ _ _)
   | (with_reducible exact chunk_Decode.mono _ _)
   | (with_reducible exact crc_Check.mono _ _)
   | (with_reducible exact tag_Take.mono _ _)
   | (with_reducible exact LeO.refl _)
   | (with_reducible exact LeO.none _)
   | (with_reducible refine LeO.ite ?_ ?_)
   | (with_reducible refine LeO.bind ?_ (fun _ => ?_))
  ·intro y0 y1 y2 y3 y4 y5 y6 y7 y8 y9 y10 y11
   unfold page_Decode.j3
   repeat' first
   | (with_reducible exact ih0 _ _ _ _ _ _ _ _ _ _ _)
   | (with_reducible exact ih1 _ _ _ _ _ _ _ _ _ _)
   | (with_reducible exact ih2 _ _ _ _ _ _ _ _ _ _)
   | (with_reducible exact ih3 _ _ _ _ _ _ _ _ _ _ _ _)
   | (with_reducible exact ih4 _ _ _ _ _)
   | (with_reducible exact ih5 _ _ _ _ _)
   | (with_reducible exact bits_Zeros.mono _ _)
   | (with_reducible exact chunk_All.mono _ _ _)
   | (with_reducible exact chunk_Decode.mono _ _)
   | (with_reducible exact crc_Check.mono _ _)
   | (with_reducible exact tag_Take.mono _ _)
   | (with_reducible exact LeO.refl _)
   | (with_reducible exact LeO.none _)
   | (with_reducible refine LeO.ite ?_ ?_)
   | (with_reducible refine LeO.bind ?_ (fun _ => ?_))
  ·intro y0 y1 y2 y3 y4
   unfold page_Decode.j4
   repeat' first
   | (with_reducible exact ih0 _ _ _ _ _ _ _ _ _ _ _)
   | (with_reducible exact ih1 _ _ _ _ _ _ _ _ _ _)
   | (with_reducible exact ih2 _ _ _ _ _ _ _ _ _ _)
   | (with_reducible exact ih3 _ _ _ _ _ _ _ _ _ _ _ _)
   | (with_reducible exact ih4 _ _ _ _ _)
   | (with_reducible exact ih5 _ _ _ _ _)
   | (with_reducible exact bits_Zeros.mono _ _)
   | (with_reducible exact chunk_All.mono _ _ _)
   | (with_reducible exact chunk_Decode.mono _ _)
   | (with_reducible exact crc_Check.mono _ _)
   | (with_reducible exact tag_Take.mono _ _)
   | (with_reducible exact LeO.refl _)
   | (with_reducible exact LeO.none _)
   | (with_reducible refine LeO.ite ?_ ?_)
   | (with_reducible refine LeO.bind ?_ (fun _ => ?_))
  ·intro y0 y1 y2 y3 y4
   unfold page_Decode.j5
   repeat' first
   | (with_reducible exact ih0 _ _ _ _ _ _ _ _ _ _ _)
   | (with_reducible exact ih1 _ _ _ _ _ _ _ _ _ _)
   | (with_reducible exact ih2 _ _ _ _ _ _ _ _ _ _)
   | (with_reducible exact ih3 _ _ _ _ _ _ _ _ _ _ _ _)
   | (with_reducible exact ih4 _ _ _ _ _)
   | (with_reducible exact ih5 _ _ _ _ _)
   | (with_reducible exact bits_Zeros.mono _ _)
   | (with_reducible exact chunk_All.mono _ _ _)
   | (with_reducible exact chunk_Decode.mono _ _)
   | (with_reducible exact crc_Check.mono _ _)
   | (with_reducible exact tag_Take.mono _ _)
   | (with_reducible exact LeO.refl _)
   | (with_reducible exact LeO.none _)
   | (with_reducible refine LeO.ite ?_ ?_)
   | (with_reducible refine LeO.bind ?_ (fun _ => ?_))
theorem page_Decode.mono : ∀ a0 a1 a2 a3 a4 a5 a6 a7 k, LeO (page_Decode.f k a0 a1 a2 a3 a4 a5 a6 a7) (page_Decode.f (k + 1) a0 a1 a2 a3 a4 a5 a6 a7) := by
 intro a0 a1 a2 a3 a4 a5 a6 a7 k
 obtain ⟨ih0, ih1, ih2, ih3, ih4, ih5⟩ := page_Decode.mono_l k
 unfold page_Decode.f
 repeat' first
  | (with_reducible exact ih0 _ _ _ _ _ _ _ _ _ _ _)
  | (with_reducible exact ih1 _ _ _ _ _ _ _ _ _ _)
  | (with_reducible exact ih2 _ _ _ _ _ _ _ _ _ _)
  | (with_reducible exact ih3 _ _ _ _ _ _ _ _ _ _ _ _)
  | (with_reducible exact ih4 _ _ _ _ _)
  | (with_reducible exact ih5 _ _ _ _ _)
  | (with_reducible exact bits_Zeros.mono _ _)
  | (with_reducible exact chunk_All.mono _ _ _)
  | (with_reducible exact chunk_Decode.mono _ _)
  | (with_reducible exact crc_Check.mono _ _)
  | (with_reducible exact tag_Take.mono _ _)
  | (with_reducible exact LeO.refl _)
  | (with_reducible exact LeO.none _)
  | (with_reducible refine LeO.ite ?_ ?_)
  | (with_reducible refine LeO.bind ?_ (fun _ => ?_))
def page_Decode.T6 : Bool × List (List Nat × List Nat) := (true, [([], []), ([], []), ([0, 1], [0, 1]), ([], []), ([3], [3]), ([4], [4]), ([2, 5, 2], [2, 5]), ([6], [6]), ([7], [7]), ([7], [7]), ([7], [7]), ([8, 6, 0, 1, 2, 3, 4, 5, 6, 7, 8], [8]), ([9, 11, 0, 1, 2, 3, 4, 5, 6, 7, 8, 9, 11], [9]), ([10, 12, 0, 1, 2, 3, 4, 5, 6, 7, 8, 9, 10, 11, 12], [10])])
def page_Decode.B6 : List Nat := [0, 0, 3, 0, 8, 24, 63, 127, 255, 255, 255, 511, 3071, 8191]
theorem page_Decode.tab6 : rtab .any (opsOf Try.f30 6) = page_Decode.T6 := by kernel_rfl
theorem page_Decode.bits6 : waitsOk page_Decode.T6.2 page_Decode.B6 = true := by kernel_rfl
set_option maxHeartbeats 8000000 in
set_option maxRecDepth 100000 in
theorem page_Decode.calls (k : Nat) (a0_0 : Int) (a0_1 : Int) (a0_2 : Int) (a0_3 : Int) (a0_4 : Int) (a0_5 : Int) (a0_6 : Int) (A1 : Option Addr) (c1 : Nat) (l1 : List Int) (r1 : List Int) (r2 : Int) (r3 : Int) (r4 : Int) (r5 : Int) (r6 : Int) (r7 : Int) (w : World) (hr1 : Kd.C (Kd.int .u8) w A1 l1.length l1) (hc1 : l1.length ≤ c1) (h : page_Decode.f k a0_0 a0_1 a0_2 a0_3 a0_4 a0_5 a0_6 l1 = some (r1, r2, r3, r4, r5, r6, r7)) :
  Calls Try.prog 30 #[.agg #[.int .i64 a0_0, .int .i64 a0_1, .int .i64 a0_2, .int .i64 a0_3, .int .i64 a0_4, .int .i64 a0_5, .int .i64 a0_6], .slice A1 l1.length c1] w fun e w' => ∃ v0_ : Value, e = .returned (.tuple #[v0_, .agg #[.int .i64 r2, .int .i64 r3, .int .i64 r4, .int .i64 r5], .int .i64 r6, .int .i64 r7]) ∧ Kd.R (Kd.int .u8) 5 w' w.heap.size (fun _ => True) v0_ r1 ∧ Below w.heap.size w w' := by
 have hu23 := Try.underlying23
 have hu26 := Try.underlying26
 have hu70 := Try.underlying70
 have HR1 := ak_ hr1
 have HC1 := ak_ hc1
 clear hr1 hc1
 have HB := ak_ (Below.refl w.heap.size w)
 have H : ((page_of.f a0_0 a0_1 a0_2 a0_3 a0_4 a0_5 a0_6).bind fun bt228 => (if bt228.2.2.2.2.2.2.2.2 = true then ((page_shape_size.f bt228.1 bt228.2.1 bt228.2.2.1 bt228.2.2.2.1 bt228.2.2.2.2.1 bt228.2.2.2.2.2.1 bt228.2.2.2.2.2.2.1 bt228.2.2.2.2.2.2.2.1).bind fun t238 => (page_Decode.j0 k l1 0 ((l1.length : Int) != t238) bt228.1 bt228.2.1 bt228.2.2.1 bt228.2.2.2.1 bt228.2.2.2.2.1 bt228.2.2.2.2.2.1 bt228.2.2.2.2.2.2.1 bt228.2.2.2.2.2.2.2.1)) else (page_Decode.j0 k l1 0 true bt228.1 bt228.2.1 bt228.2.2.1 bt228.2.2.2.1 bt228.2.2.2.2.1 bt228.2.2.2.2.2.1 bt228.2.2.2.2.2.2.1 bt228.2.2.2.2.2.2.2.1))) = some (r1, r2, r3, r4, r5, r6, r7) := h
 clear h
 replace H := Option.bind_eq_some_iff.mp H
 obtain ⟨⟨t228, t229, t230, t231, t232, t233, t234, t235, t236⟩, A30, H⟩ := H
 replace H : (if t236 = true then ((page_shape_size.f t228 t229 t230 t231 t232 t233 t234 t235).bind fun t238 => (page_Decode.j0 k l1 0 ((l1.length : Int) != t238) t228 t229 t230 t231 t232 t233 t234 t235)) else (page_Decode.j0 k l1 0 true t228 t229 t230 t231 t232 t233 t234 t235)) = some (r1, r2, r3, r4, r5, r6, r7) := H
 have A3 := ak_ A30
 clear A30
 have HC4 := ak_ H
 clear H
 go_enter Try.func30, Try.ntmps30
 go_upto_region 2 with (first | ((with_reducible refine gate_dst (N := 2) rfl ?_); (try (refine gate_guard (by rfl) ?_; dsimp only)); refine box_event ?hg (N := 2) ?hd (cs := #[.int .i64 a0_0, .int .i64 a0_1, .int .i64 a0_2, .int .i64 a0_3, .int .i64 a0_4, .int .i64 a0_5, .int .i64 a0_6]) (t := 23) ?hr ?_; (case hd => rfl); (case hg => rfl); (case hr => (go_simp; done)); intro gb226 hg w5 hbox hb; have BK226 := ak_ (hbox); have GW226 := ak_ ((by rw [hg]; exact (below_size HB.out) : w.heap.size ≤ gb226)); have GE226 := ak_ ((by rw [hg]; exact (below_size HB.out) : w.heap.size ≤ gb226)); replace HB := ak_ (below_step HB.out hb); clear hb hbox hg) | ((with_reducible refine gate_dst (N := 5) rfl ?_); (try (refine gate_guard (by rfl) ?_; dsimp only)); refine box_event ?hg (N := 5) ?hd (cs := #[.int .i64 0, .int .i64 0, .int .i64 0, .int .i64 0]) (t := 26) ?hr ?_; (case hd => rfl); (case hg => rfl); (case hr => (go_simp; done)); intro gb227 hg w6 hbox hb; have BK227 := ak_ (hbox); have GW227 := ak_ ((by rw [hg]; exact (below_size HB.out) : w.heap.size ≤ gb227)); have GE227 := ak_ ((by rw [hg]; exact (below_size HB.out) : w.heap.size ≤ gb227)); replace HB := ak_ (below_step HB.out hb); have NB226_227 := ak_ ((by rw [hg]; exact Nat.ne_of_lt (blk_lt BK226.out) : gb226 ≠ gb227)); have NB227_226 := ak_ ((by rw [hg]; exact Nat.ne_of_gt (blk_lt BK226.out) : gb227 ≠ gb226)); replace BK226 := ak_ (blk_below BK226.out hb); clear hb hbox hg; have hnb7 := NB226_227.out; have hnc7 := NB227_226.out; have hcz8_0 : w6.cell? ⟨gb226, 0, none⟩ = some (.int .i64 a0_0) := (blk_cell BK226.out 0).trans rfl; have hcz8_1 : w6.cell? ⟨gb226, 1, none⟩ = some (.int .i64 a0_1) := (blk_cell BK226.out 1).trans rfl; have hcz8_2 : w6.cell? ⟨gb226, 2, none⟩ = some (.int .i64 a0_2) := (blk_cell BK226.out 2).trans rfl; have hcz8_3 : w6.cell? ⟨gb226, 3, none⟩ = some (.int .i64 a0_3) := (blk_cell BK226.out 3).trans rfl; have hcz8_4 : w6.cell? ⟨gb226, 4, none⟩ = some (.int .i64 a0_4) := (blk_cell BK226.out 4).trans rfl; have hcz8_5 : w6.cell? ⟨gb226, 5, none⟩ = some (.int .i64 a0_5) := (blk_cell BK226.out 5).trans rfl; have hcz8_6 : w6.cell? ⟨gb226, 6, none⟩ = some (.int .i64 a0_6) := (blk_cell BK226.out 6).trans rfl; have hfz8_0 := blk_frozen BK226.out 0; have hfz8_1 := blk_frozen BK226.out 1; have hfz8_2 := blk_frozen BK226.out 2; have hfz8_3 := blk_frozen BK226.out 3; have hfz8_4 := blk_frozen BK226.out 4; have hfz8_5 := blk_frozen BK226.out 5; have hfz8_6 := blk_frozen BK226.out 6) | ((with_reducible refine gate_callee (f := 37) rfl ?_); refine goesL_ (some 15) rfl rfl Try.func37 (by kernel_rfl) rfl #[.agg #[.int .i64 a0_0, .int .i64 a0_1, .int .i64 a0_2, .int .i64 a0_3, .int .i64 a0_4, .int .i64 a0_5, .int .i64 a0_6]] rfl (by (try simp only [List.map_toArray, List.map_cons, List.map_nil]); first | done | rfl | (simp only [List.length_drop, List.length_take]; rfl)) ?_; (with_reducible refine (page_of.calls a0_0 a0_1 a0_2 a0_3 a0_4 a0_5 a0_6 t228 t229 t230 t231 t232 t233 t234 t235 t236 _ A3.out).mono ?_); rintro e w9 ⟨rfl, hb⟩; refine ⟨_, rfl, ?_⟩; replace BK226 := ak_ (blk_below BK226.out hb); replace BK227 := ak_ (blk_below BK227.out hb); replace HB := ak_ (below_step HB.out hb); (try clear hb); (try clear hb2); (try clear hk); (try clear hi)) | ((with_reducible refine gate_dst (N := 8) rfl ?_); (try (refine gate_guard (by rfl) ?_; dsimp only)); refine box_event ?hg (N := 8) ?hd (cs := #[.int .i64 0, .int .i64 0, .int .i64 0, .int .i64 0, .int .i64 0, .int .i64 0, .int .i64 0, .int .i64 0]) (t := 70) ?hr ?_; (case hd => rfl); (case hg => rfl); (case hr => (go_simp; done)); intro gb237 hg w10 hbox hb; have BK237 := ak_ (hbox); have GW237 := ak_ ((by rw [hg]; exact (below_size HB.out) : w.heap.size ≤ gb237)); have GE237 := ak_ ((by rw [hg]; exact (below_size HB.out) : w.heap.size ≤ gb237)); replace HB := ak_ (below_step HB.out hb); have NB226_237 := ak_ ((by rw [hg]; exact Nat.ne_of_lt (blk_lt BK226.out) : gb226 ≠ gb237)); have NB237_226 := ak_ ((by rw [hg]; exact Nat.ne_of_gt (blk_lt BK226.out) : gb237 ≠ gb226)); replace BK226 := ak_ (blk_below BK226.out hb); have NB227_237 := ak_ ((by rw [hg]; exact Nat.ne_of_lt (blk_lt BK227.out) : gb227 ≠ gb237)); have NB237_227 := ak_ ((by rw [hg]; exact Nat.ne_of_gt (blk_lt BK227.out) : gb237 ≠ gb227)); replace BK227 := ak_ (blk_below BK227.out hb); clear hb hbox hg; have hnb11 := NB237_226.out; have hnc11 := NB226_237.out; have hnb12 := NB237_227.out; have hnc12 := NB227_237.out; have hcz13_0 : w10.cell? ⟨gb237, 0, none⟩ = some (.int .i64 0) := (blk_cell BK237.out 0).trans rfl; have hcz13_1 : w10.cell? ⟨gb237, 1, none⟩ = some (.int .i64 0) := (blk_cell BK237.out 1).trans rfl; have hcz13_2 : w10.cell? ⟨gb237, 2, none⟩ = some (.int .i64 0) := (blk_cell BK237.out 2).trans rfl; have hcz13_3 : w10.cell? ⟨gb237, 3, none⟩ = some (.int .i64 0) := (blk_cell BK237.out 3).trans rfl; have hcz13_4 : w10.cell? ⟨gb237, 4, none⟩ = some (.int .i64 0) := (blk_cell BK237.out 4).trans rfl; have hcz13_5 : w10.cell? ⟨gb237, 5, none⟩ = some (.int .i64 0) := (blk_cell BK237.out 5).trans rfl; have hcz13_6 : w10.cell? ⟨gb237, 6, none⟩ = some (.int .i64 0) := (blk_cell BK237.out 6).trans rfl; have hcz13_7 : w10.cell? ⟨gb237, 7, none⟩ = some (.int .i64 0) := (blk_cell BK237.out 7).trans rfl; have hfz13_0 := blk_frozen BK237.out 0; have hfz13_1 := blk_frozen BK237.out 1; have hfz13_2 := blk_frozen BK237.out 2; have hfz13_3 := blk_frozen BK237.out 3; have hfz13_4 := blk_frozen BK237.out 4; have hfz13_5 := blk_frozen BK237.out 5; have hfz13_6 := blk_frozen BK237.out 6; have hfz13_7 := blk_frozen BK237.out 7))
 (try simp only [Act.put, List.setIfInBounds_toArray, List.set_cons_zero, List.set_cons_succ])
 go_cut [26] (fun v26 wc => ∃ (kq : Nat) (x26_3 : Bool), v26 = .bool x26_3 ∧ Aside0 (page_Decode.j0 kq l1 0 x26_3 t228 t229 t230 t231 t232 t233 t234 t235 = some (r1, r2, r3, r4, r5, r6, r7)) ∧ Aside0 (kq ≤ k) ∧ Aside0 (wc.heap[gb226]? = some (.cells #[.int .i64 a0_0, .int .i64 a0_1, .int .i64 a0_2, .int .i64 a0_3, .int .i64 a0_4, .int .i64 a0_5, .int .i64 a0_6] 23 (0, 0))) ∧ Aside0 (wc.heap[gb227]? = some (.cells #[.int .i64 0, .int .i64 0, .int .i64 0, .int .i64 0] 26 (0, 0))) ∧ Aside0 (wc.heap[gb237]? = some (.cells #[.int .i64 t228, .int .i64 t229, .int .i64 t230, .int .i64 t231, .int .i64 t232, .int .i64 t233, .int .i64 t234, .int .i64 t235] 70 (0, 0))) ∧ Aside0 (Below w.heap.size w wc))
 case first =>
  have H := HC4.out
  clear HC4
  by_cases c14 : t236 = true
  ·subst c14
   have H1 : ((page_shape_size.f t228 t229 t230 t231 t232 t233 t234 t235).bind fun t238 => (page_Decode.j0 k l1 0 ((l1.length : Int) != t238) t228 t229 t230 t231 t232 t233 t234 t235)) = some (r1, r2, r3, r4, r5, r6, r7) := by rw [if_pos rfl] at H; exact H
   clear H
   have H := H1
   clear H1
   replace H := Option.bind_eq_some_iff.mp H
   obtain ⟨t238, A150, H⟩ := H
   replace H : (page_Decode.j0 k l1 0 ((l1.length : Int) != t238) t228 t229 t230 t231 t232 t233 t234 t235) = some (r1, r2, r3, r4, r5, r6, r7) := H
   have A15 := ak_ A150
   clear A150
   have H' := ak_ H
   clear H
   have hnb16 := NB237_226.out
   have hnc16 := NB226_237.out
   have hnb17 := NB237_227.out
   have hnc17 := NB227_237.out
   obtain ⟨hcz18_0, hcz18_1, hcz18_2, hcz18_3, hcz18_4, hcz18_5, hcz18_6, hcz18_7⟩ := cells8 BK237.out
   obtain ⟨hfz18_0, hfz18_1, hfz18_2, hfz18_3, hfz18_4, hfz18_5, hfz18_6, hfz18_7⟩ := froz8 BK237.out
   go_wp2_with (first | (go_at_call 56; (with_reducible refine (page_shape_size.calls t228 t229 t230 t231 t232 t233 t234 t235 t238 _ A15.out).mono ?_); rintro e w19 ⟨rfl, hb⟩; replace BK226 := ak_ (blk_below (far8 BK226.out NB226_237.out) hb); replace BK227 := ak_ (blk_below (far8 BK227.out NB227_237.out) hb); replace BK237 := ak_ (blk_below (put8 BK237.out) hb); replace HB := ak_ (below_step (by repeat (first | (with_reducible first | exact HB.out | apply below_alloc | apply pw_below_drewN | apply below_drew1 | refine below_set ?_ GE226.out | refine below_set ?_ GE227.out | refine below_set ?_ GE237.out) | exact HB.out)) hb); (try clear hb); (try clear hb2); (try clear hk); (try clear hi)))
   go_meet
   case rel => exact ⟨_, (((l1.length : Int) != t238)), (by rfl), H', ⟨by omega⟩, ⟨BK226.out⟩, ⟨BK227.out⟩, ⟨BK237.out⟩, ⟨by repeat (first | (with_reducible first | exact HB.out | apply below_alloc | apply pw_below_drewN | apply below_drew1 | refine below_set ?_ GE226.out | refine below_set ?_ GE227.out | refine below_set ?_ GE237.out) | exact HB.out)⟩⟩
  ·replace c14 := Bool.eq_false_iff.mpr c14
   subst c14
   have H1 : (page_Decode.j0 k l1 0 true t228 t229 t230 t231 t232 t233 t234 t235) = some (r1, r2, r3, r4, r5, r6, r7) := by rw [if_neg (show ¬ (false = true) by decide)] at H; exact H
   clear H
   have H := H1
   clear H1
   have H' := ak_ H
   clear H
   go_wp2
   go_meet
   case rel => exact ⟨_, (true), (by rfl), H', ⟨by omega⟩, ⟨(far8 BK226.out NB226_237.out)⟩, ⟨(far8 BK227.out NB227_237.out)⟩, ⟨(put8 BK237.out)⟩, ⟨by repeat (first | (with_reducible first | exact HB.out | apply below_alloc | apply pw_below_drewN | apply below_drew1 | refine below_set ?_ GE226.out | refine below_set ?_ GE227.out | refine below_set ?_ GE237.out) | exact HB.out)⟩⟩
 case rest =>
  clear HC4 hcz13_0 hcz13_1 hcz13_2 hcz13_3 hcz13_4 hcz13_5 hcz13_6 hcz13_7 hcz8_0 hcz8_1 hcz8_2 hcz8_3 hcz8_4 hcz8_5 hcz8_6 hfz13_0 hfz13_1 hfz13_2 hfz13_3 hfz13_4 hfz13_5 hfz13_6 hfz13_7 hfz8_0 hfz8_1 hfz8_2 hfz8_3 hfz8_4 hfz8_5 hfz8_6
  obtain ⟨kq, x26_3, rfl, HA, HJ3, BK226, BK227, BK237, HB⟩ := hcut
  cases kq with
  | zero => exact absurd HA.out (by simp [page_Decode.j0])
  | succ kj3 =>
   have H := HA.out
   clear HA
   simp only [page_Decode.j0] at H
   have HC20 := ak_ H
   clear H
   go_upto_if 26 with (fail)
   go_cut [6] (fun v6 wc => ∃ (kq : Nat) (x6_19 : Int) (x228000_19 : Int) (x228001_19 : Int) (x228002_19 : Int) (x228003_19 : Int), v6 = .int .i64 x6_19 ∧ Aside0 (page_Decode.j1 kq l1 x6_19 t228 t229 t230 t231 t232 t233 t234 t235 = some (r1, r2, r3, r4, r5, r6, r7)) ∧ Aside0 (kq ≤ kj3) ∧ Aside0 (wc.heap[gb226]? = some (.cells #[.int .i64 a0_0, .int .i64 a0_1, .int .i64 a0_2, .int .i64 a0_3, .int .i64 a0_4, .int .i64 a0_5, .int .i64 a0_6] 23 (0, 0))) ∧ Aside0 (wc.heap[gb227]? = some (.cells #[.int .i64 x228000_19, .int .i64 x228001_19, .int .i64 x228002_19, .int .i64 x228003_19] 26 (0, 0))) ∧ Aside0 (wc.heap[gb237]? = some (.cells #[.int .i64 t228, .int .i64 t229, .int .i64 t230, .int .i64 t231, .int .i64 t232, .int .i64 t233, .int .i64 t234, .int .i64 t235] 70 (0, 0))) ∧ Aside0 (Below w.heap.size w wc))
   case first =>
    have H := HC20.out
    clear HC20
    by_cases c21 : x26_3 = true
    ·subst c21
     have H1 : (some (([] : List Int), 0, 0, 0, 0, 0, 2)) = some (r1, r2, r3, r4, r5, r6, r7) := by rw [if_pos rfl] at H; exact H
     clear H
     have H := H1
     clear H1
     simp only [Option.some.injEq, Prod.mk.injEq] at H
     obtain ⟨rfl, rfl, rfl, rfl, rfl, rfl, rfl⟩ := H
     have hnb22 := NB227_226.out
     have hnc22 := NB226_227.out
     have hnb23 := NB227_237.out
     have hnc23 := NB237_227.out
     obtain ⟨hcz24_0, hcz24_1, hcz24_2, hcz24_3⟩ := cells4 BK227.out
     obtain ⟨hfz24_0, hfz24_1, hfz24_2, hfz24_3⟩ := froz4 BK227.out
     go_wp2
     refine bodyPost_ret (results_list (rs := [.tmp 4, .cell 5 26, .tmp 6, .tmp 7]) rfl (by simp) (.tmp (.cell gb227 26 #[.int .i64 0, .int .i64 0, .int .i64 0, .int .i64 0] (0, 0) _ rfl (put4 BK227.out) Try.underlying26 rfl (by kernel_rfl) (.tmp (.tmp .nil))))) rfl ?_
     exact ⟨_, by rfl, (Kd.R_nil _ _ _ _ _), by repeat (first | (with_reducible first | exact HB.out | apply below_alloc | apply pw_below_drewN | apply below_drew1 | refine below_set ?_ GE226.out | refine below_set ?_ GE227.out | refine below_set ?_ GE237.out) | exact HB.out)⟩
    ·replace c21 := Bool.eq_false_iff.mpr c21
     subst c21
     have H1 : (page_Decode.j1 kj3 l1 0 t228 t229 t230 t231 t232 t233 t234 t235) = some (r1, r2, r3, r4, r5, r6, r7) := by rw [if_neg (show ¬ (false = true) by decide)] at H; exact H
     clear H
     have H := H1
     clear H1
     have H' := ak_ H
     clear H
     go_wp2
     go_meet
     case rel => exact ⟨_, (0), (0), (0), (0), (0), (by rfl), H', ⟨by have := HJ3.out; omega⟩, ⟨BK226.out⟩, ⟨BK227.out⟩, ⟨BK237.out⟩, ⟨by repeat (first | (with_reducible first | exact HB.out | apply below_alloc | apply pw_below_drewN | apply below_drew1 | refine below_set ?_ GE226.out | refine below_set ?_ GE227.out | refine below_set ?_ GE237.out) | exact HB.out)⟩⟩
   case rest =>
    clear HC20
    obtain ⟨kq, x6_19, x228000_19, x228001_19, x228002_19, x228003_19, rfl, HA, HJ19, BK226, BK227, BK237, HB⟩ := hcut
    cases kq with
    | zero => exact absurd HA.out (by simp [page_Decode.j1])
    | succ kj19 =>
     have H := HA.out
     clear HA
     simp only [page_Decode.j1] at H
     replace H := Option.bind_eq_some_iff.mp H
     obtain ⟨t239, A250, H⟩ := H
     replace H : ((bits_Zeros.f kj19 t239).bind fun t242 => (if t242 ≤ 20 then (some (([] : List Int), 0, 0, 0, 0, 2, 0)) else (page_Decode.j2 kj19 l1 x6_19 t228 t229 t230 t231 t232 t233 t234 t235))) = some (r1, r2, r3, r4, r5, r6, r7) := H
     have A25 := ak_ A250
     clear A250
     replace H := Option.bind_eq_some_iff.mp H
     obtain ⟨t242, A260, H⟩ := H
     replace H : (if t242 ≤ 20 then (some (([] : List Int), 0, 0, 0, 0, 2, 0)) else (page_Decode.j2 kj19 l1 x6_19 t228 t229 t230 t231 t232 t233 t234 t235)) = some (r1, r2, r3, r4, r5, r6, r7) := H
     have A26 := ak_ A260
     clear A260
     have HC27 := ak_ H
     clear H
     have hnb28 := NB237_226.out
     have hnc28 := NB226_237.out
     have hnb29 := NB237_227.out
     have hnc29 := NB227_237.out
     obtain ⟨hcz30_0, hcz30_1, hcz30_2, hcz30_3, hcz30_4, hcz30_5, hcz30_6, hcz30_7⟩ := cells8 BK237.out
     obtain ⟨hfz30_0, hfz30_1, hfz30_2, hfz30_3, hfz30_4, hfz30_5, hfz30_6, hfz30_7⟩ := froz8 BK237.out
     go_upto_if 32 with (first | ((with_reducible refine gate_callee (f := 57) rfl ?_); refine goesL_ (some 30) rfl rfl Try.func57 (by kernel_rfl) rfl #[.agg #[.int .i64 t228, .int .i64 t229, .int .i64 t230, .int .i64 t231, .int .i64 t232, .int .i64 t233, .int .i64 t234, .int .i64 t235], .slice A1 l1.length c1] rfl (by (try simp only [List.map_toArray, List.map_cons, List.map_nil]); first | done | rfl | (simp only [List.length_drop, List.length_take]; rfl)) ?_; (with_reducible refine (page_shape_label.calls t228 t229 t230 t231 t232 t233 t234 t235 (fun k_ => k_ < w.heap.size) _ _ l1 t239 _ ?side1 A25.out).mono ?_); (case side1 => exact Kd.V_mk HC1.out (Kd.F_below (Kd.C_F (Kd.heap_int .u8) HR1.out) HB.out)); rintro e w31 ⟨v240, rfl, ho0, hb⟩; refine ⟨_, rfl, ?_⟩; have HO241 := ak_ (Kd.V_lower (Kd.V_mono (ok' := fun k_ => k_ ≠ gb226 ∧ k_ ≠ gb227 ∧ k_ ≠ gb237) ho0 (fun k_ hk_ => ⟨Or.elim hk_ (fun hs_ => fun e_ => Nat.not_le.2 hs_ (by rw [e_]; exact GW226.out)) (fun hn_ => (Kd.freshB BK226.out k_ hn_)), Or.elim hk_ (fun hs_ => fun e_ => Nat.not_le.2 hs_ (by rw [e_]; exact GW227.out)) (fun hn_ => (Kd.freshB BK227.out k_ hn_)), Or.elim hk_ (fun hs_ => fun e_ => Nat.not_le.2 hs_ (by rw [e_]; exact GW237.out)) (fun hn_ => (Kd.freshB BK237.out k_ hn_))⟩)) (below_size HB.out)); replace BK226 := ak_ (blk_below BK226.out hb); replace BK227 := ak_ (blk_below BK227.out hb); replace BK237 := ak_ (blk_below BK237.out hb); replace HB := ak_ (below_step HB.out hb); (try clear hb); (try clear hb2); (try clear hk); (try clear hi); (try clear ho0); obtain ⟨Ao32, co32, eo32⟩ := Kd.V_slice HO241.out; subst eo32) | ((with_reducible refine gate_callee (f := 17) rfl ?_); refine goesL_ (some 31) rfl rfl Try.func17 (by kernel_rfl) rfl #[.slice Ao32 t239.length co32] rfl (by (try simp only [List.map_toArray, List.map_cons, List.map_nil]); first | done | rfl | (simp only [List.length_drop, List.length_take]; rfl)) ?_; (with_reducible refine (bits_Zeros.calls kj19 _ _ t239 t242 _ ?side1 ?side2 A26.out).mono ?_); (case side1 => exact (Kd.V_reads' HO241.out).2.2); (case side2 => exact (Kd.V_reads' HO241.out).2.1); rintro e w' ⟨rfl, ⟨nd, rfl⟩⟩; refine ⟨_, rfl, ?_⟩))
     (try simp only [Act.put, List.setIfInBounds_toArray, List.set_cons_zero, List.set_cons_succ])
     go_cut [6] (fun v6 wc => ∃ (kq : Nat) (x6_26 : Int) (x228000_26 : Int) (x228001_26 : Int) (x228002_26 : Int) (x228003_26 : Int), v6 = .int .i64 x6_26 ∧ Aside0 (page_Decode.j2 kq l1 x6_26 t228 t229 t230 t231 t232 t233 t234 t235 = some (r1, r2, r3, r4, r5, r6, r7)) ∧ Aside0 (kq ≤ kj19) ∧ Aside0 (wc.heap[gb226]? = some (.cells #[.int .i64 a0_0, .int .i64 a0_1, .int .i64 a0_2, .int .i64 a0_3, .int .i64 a0_4, .int .i64 a0_5, .int .i64 a0_6] 23 (0, 0))) ∧ Aside0 (wc.heap[gb227]? = some (.cells #[.int .i64 x228000_26, .int .i64 x228001_26, .int .i64 x228002_26, .int .i64 x228003_26] 26 (0, 0))) ∧ Aside0 (wc.heap[gb237]? = some (.cells #[.int .i64 t228, .int .i64 t229, .int .i64 t230, .int .i64 t231, .int .i64 t232, .int .i64 t233, .int .i64 t234, .int .i64 t235] 70 (0, 0))) ∧ Aside0 (Below w.heap.size w wc))
     case first =>
      have H := HC27.out
      clear HC27
      by_cases c33 : t242 ≤ 20
      ·rw [if_pos c33] at H
       have c33b0 : decide (t242 ≤ 20) = true := decide_eq_true c33
       clear c33
       (rw [c33b0])
       simp only [Option.some.injEq, Prod.mk.injEq] at H
       obtain ⟨rfl, rfl, rfl, rfl, rfl, rfl, rfl⟩ := H
       have hnb34 := NB227_226.out
       have hnc34 := NB226_227.out
       have hnb35 := NB227_237.out
       have hnc35 := NB237_227.out
       obtain ⟨hcz36_0, hcz36_1, hcz36_2, hcz36_3⟩ := cells4 BK227.out
       obtain ⟨hfz36_0, hfz36_1, hfz36_2, hfz36_3⟩ := froz4 BK227.out
       go_wp2
       refine bodyPost_ret (results_list (rs := [.tmp 4, .cell 5 26, .tmp 6, .tmp 7]) rfl (by simp) (.tmp (.cell gb227 26 #[.int .i64 0, .int .i64 0, .int .i64 0, .int .i64 0] (0, 0) _ rfl (by (with_reducible repeat (first | apply blk_drewN | apply blk_drew | apply blk_alloc)); refine blk_put (cs := #[.int .i64 0, .int .i64 0, .int .i64 0, .int .i64 x228003_19]) ?_ 3 _ rfl; (with_reducible repeat (first | apply blk_drewN | apply blk_drew | apply blk_alloc)); refine blk_put (cs := #[.int .i64 0, .int .i64 0, .int .i64 x228002_19, .int .i64 x228003_19]) ?_ 2 _ rfl; (with_reducible repeat (first | apply blk_drewN | apply blk_drew | apply blk_alloc)); refine blk_put (cs := #[.int .i64 0, .int .i64 x228001_19, .int .i64 x228002_19, .int .i64 x228003_19]) ?_ 1 _ rfl; (with_reducible repeat (first | apply blk_drewN | apply blk_drew | apply blk_alloc)); refine blk_put (cs := #[.int .i64 x228000_19, .int .i64 x228001_19, .int .i64 x228002_19, .int .i64 x228003_19]) ?_ 0 _ rfl; (with_reducible repeat (first | apply blk_drewN | apply blk_drew | apply blk_alloc)); exact BK227.out) Try.underlying26 rfl (by kernel_rfl) (.tmp (.tmp .nil))))) rfl ?_
       exact ⟨_, by rfl, (Kd.R_nil _ _ _ _ _), by repeat (first | (with_reducible first | exact HB.out | apply below_alloc | apply pw_below_drewN | apply below_drew1 | refine below_set ?_ GE226.out | refine below_set ?_ GE227.out | refine below_set ?_ GE237.out) | exact HB.out)⟩
      ·rw [if_neg c33] at H
       have c33b0 : decide (t242 ≤ 20) = false := decide_eq_false c33
       clear c33
       (rw [c33b0])
       have H' := ak_ H
       clear H
       go_wp2
       go_meet
       case rel => exact ⟨_, (x6_19), (x228000_19), (x228001_19), (x228002_19), (x228003_19), (by rfl), H', ⟨by have := HJ3.out; have := HJ19.out; omega⟩, ⟨by (with_reducible repeat (first | apply blk_drewN | apply blk_drew | apply blk_alloc)); exact BK226.out⟩, ⟨by (with_reducible repeat (first | apply blk_drewN | apply blk_drew | apply blk_alloc)); exact BK227.out⟩, ⟨by (with_reducible repeat (first | apply blk_drewN | apply blk_drew | apply blk_alloc)); exact BK237.out⟩, ⟨by repeat (first | (with_reducible first | exact HB.out | apply below_alloc | apply pw_below_drewN | apply below_drew1 | refine below_set ?_ GE226.out | refine below_set ?_ GE227.out | refine below_set ?_ GE237.out) | exact HB.out)⟩⟩
     case rest =>
      clear HC27 hcz30_0 hcz30_1 hcz30_2 hcz30_3 hcz30_4 hcz30_5 hcz30_6 hcz30_7 hfz30_0 hfz30_1 hfz30_2 hfz30_3 hfz30_4 hfz30_5 hfz30_6 hfz30_7
      obtain ⟨kq, x6_26, x228000_26, x228001_26, x228002_26, x228003_26, rfl, HA, HJ26, BK226, BK227, BK237, HB⟩ := hcut
      cases kq with
      | zero => exact absurd HA.out (by simp [page_Decode.j2])
      | succ kj26 =>
       have H := HA.out
       clear HA
       simp only [page_Decode.j2] at H
       replace H := Option.bind_eq_some_iff.mp H
       obtain ⟨t243, A370, H⟩ := H
       replace H : ((chunk_All.f kj26 t243 t232).bind fun bt246 => (if bt246.2.2 = 0 then (page_Decode.j3 kj26 l1 bt246.1 x6_26 bt246.2.1 t228 t229 t230 t231 t232 t233 t234 t235) else (some (([] : List Int), 0, 0, 0, 0, 0, bt246.2.2)))) = some (r1, r2, r3, r4, r5, r6, r7) := H
       have A37 := ak_ A370
       clear A370
       replace H := Option.bind_eq_some_iff.mp H
       obtain ⟨⟨t246, t247, t248⟩, A380, H⟩ := H
       replace H : (if t248 = 0 then (page_Decode.j3 kj26 l1 t246 x6_26 t247 t228 t229 t230 t231 t232 t233 t234 t235) else (some (([] : List Int), 0, 0, 0, 0, 0, t248))) = some (r1, r2, r3, r4, r5, r6, r7) := H
       have A38 := ak_ A380
       clear A380
       have HC39 := ak_ H
       clear H
       try go_wp2
       replace BK226 := ak_ (blk_drew BK226.out)
       replace BK227 := ak_ (blk_drew BK227.out)
       replace BK237 := ak_ (blk_drew BK237.out)
       replace HB := ak_ (below_drew1 HB.out)
       refine start_ (n := 14) (S := fun w' => w'.cell? ⟨gb237, 0, none⟩ = some (.int .i64 t228) ∧ w'.cell? ⟨gb237, 1, none⟩ = some (.int .i64 t229) ∧ w'.cell? ⟨gb237, 2, none⟩ = some (.int .i64 t230) ∧ w'.cell? ⟨gb237, 3, none⟩ = some (.int .i64 t231) ∧ w'.cell? ⟨gb237, 4, none⟩ = some (.int .i64 t232) ∧ w'.cell? ⟨gb237, 5, none⟩ = some (.int .i64 t233) ∧ w'.cell? ⟨gb237, 6, none⟩ = some (.int .i64 t234) ∧ w'.cell? ⟨gb237, 7, none⟩ = some (.int .i64 t235)) (ds := []) #[false, false, false, false, false, false, false, false, false, false, false, false, false, false] (by kernel_rfl) rfl rfl ⟨(blk_cell BK237.out 0).trans rfl, (blk_cell BK237.out 1).trans rfl, (blk_cell BK237.out 2).trans rfl, (blk_cell BK237.out 3).trans rfl, (blk_cell BK237.out 4).trans rfl, (blk_cell BK237.out 5).trans rfl, (blk_cell BK237.out 6).trans rfl, (blk_cell BK237.out 7).trans rfl⟩ (fun hHeld => ?_); refine with_tabW page_Decode.tab6 page_Decode.bits6 (fun HT_ HW_ => ?_)
       generalize wc.drew = w40 at BK226 BK227 BK237 HB hHeld ⊢
       refine pure_ (i := 1) (N := some 36) (v := ?_) (a' := ?_) #[false, true, false, false, false, false, false, false, false, false, false, false, false, false] rfl rfl (any_of HT_.out (by kernel_rfl)) (fun _ _ _ h => h) (Or.inl ⟨by rfl, ?_⟩) ?_ ?_
       rotate_left
       ·intro w'
        go_simp
        with_reducible rfl
       rotate_left
       ·simp only [Act.put, List.setIfInBounds_toArray, List.set_cons_zero, List.set_cons_succ, i64_w, i32_w]
        rfl
       refine pure_ (i := 3) (N := some 38) (v := ?_) (a' := ?_) #[false, true, false, true, false, false, false, false, false, false, false, false, false, false] rfl rfl (any_of HT_.out (by kernel_rfl)) (fun _ _ _ h => h) (Or.inl ⟨by rfl, ?_⟩) ?_ ?_
       rotate_left
       ·intro w'
        go_simp
        with_reducible rfl
       rotate_left
       ·simp only [Act.put, List.setIfInBounds_toArray, List.set_cons_zero, List.set_cons_succ, i64_w, i32_w]
        rfl
       refine pure_ (i := 4) (N := some 39) (v := ?_) (a' := ?_) #[false, true, false, true, true, false, false, false, false, false, false, false, false, false] rfl rfl (any_of HT_.out (by kernel_rfl)) (fun _ _ _ h => h) (Or.inl ⟨by rfl, ?_⟩) ?_ ?_
       rotate_left
       ·intro w'
        go_simp
        with_reducible rfl
       rotate_left
       ·simp only [Act.put, List.setIfInBounds_toArray, List.set_cons_zero, List.set_cons_succ, i64_w, i32_w]
        rfl
       refine take_ (i := 0) (N := some 35) (v := ?_) (a' := ?_) #[true, true, false, true, true, false, false, false, false, false, false, false, false, false] rfl rfl (take_ofW HT_.out HW_.out (by kernel_rfl)) (fun _ _ _ h => h) (Or.inl ⟨by rfl, ?_⟩) hHeld ?_ ?_
       rotate_left
       ·rintro w' ⟨s0, s1, s2, s3, s4, s5, s6, s7⟩
        go_simp
        with_reducible rfl
       rotate_left
       ·simp only [Act.put, List.setIfInBounds_toArray, List.set_cons_zero, List.set_cons_succ, i64_w, i32_w]
        rfl
       refine take_ (i := 5) (N := some 40) (v := ?_) (a' := ?_) #[true, true, false, true, true, true, false, false, false, false, false, false, false, false] rfl rfl (take_ofW HT_.out HW_.out (by kernel_rfl)) (fun _ _ _ h => h) (Or.inl ⟨by rfl, ?_⟩) hHeld ?_ ?_
       rotate_left
       ·rintro w' ⟨s0, s1, s2, s3, s4, s5, s6, s7⟩
        go_simp
        with_reducible rfl
       rotate_left
       ·simp only [Act.put, List.setIfInBounds_toArray, List.set_cons_zero, List.set_cons_succ, i64_w, i32_w]
        rfl
       refine one_ (i := 2) (N := some 37) #[true, true, true, true, true, true, false, false, false, false, false, false, false, false] rfl rfl (one_of HT_.out (by kernel_rfl)) (by decide) (fun K hK => ?_)
       refine goes_ Try.func59 (by kernel_rfl) rfl #[.agg #[.int .i64 t228, .int .i64 t229, .int .i64 t230, .int .i64 t231, .int .i64 t232, .int .i64 t233, .int .i64 t234, .int .i64 t235], .slice A1 l1.length c1] (by rfl) rfl rfl (by (try simp only [List.map_toArray, List.map_cons, List.map_nil]); first | done | rfl | (simp only [List.length_drop, List.length_take]; rfl)) ?_
       with_reducible refine (page_shape_chunks.calls t228 t229 t230 t231 t232 t233 t234 t235 (fun k_ => k_ < w.heap.size) _ _ l1 t243 _ ?side1 A37.out).mono ?_
       (case side1 => exact Kd.V_mk HC1.out (Kd.F_below (Kd.C_F (Kd.heap_int .u8) HR1.out) HB.out))
       rintro e w41 ⟨v244, rfl, ho0, hb⟩
       refine ⟨_, rfl, ?_⟩
       have HO245 := ak_ (Kd.V_lower (Kd.V_mono (ok' := fun k_ => k_ ≠ gb226 ∧ k_ ≠ gb227 ∧ k_ ≠ gb237) ho0 (fun k_ hk_ => ⟨Or.elim hk_ (fun hs_ => fun e_ => Nat.not_le.2 hs_ (by rw [e_]; exact GW226.out)) (fun hn_ => (Kd.freshB BK226.out k_ hn_)), Or.elim hk_ (fun hs_ => fun e_ => Nat.not_le.2 hs_ (by rw [e_]; exact GW227.out)) (fun hn_ => (Kd.freshB BK227.out k_ hn_)), Or.elim hk_ (fun hs_ => fun e_ => Nat.not_le.2 hs_ (by rw [e_]; exact GW237.out)) (fun hn_ => (Kd.freshB BK237.out k_ hn_))⟩)) (below_size HB.out))
       replace BK226 := ak_ (blk_below BK226.out hb)
       replace BK227 := ak_ (blk_below BK227.out hb)
       replace BK237 := ak_ (blk_below BK237.out hb)
       replace HB := ak_ (below_step HB.out hb)
       (try clear hb)
       (try clear hb2)
       (try clear hk)
       (try clear hi)
       (try clear ho0)
       obtain ⟨Ao42, co42, eo42⟩ := Kd.V_slice HO245.out
       (subst eo42)
       refine hK.out _ _ ⟨(blk_cell BK237.out 0).trans rfl, (blk_cell BK237.out 1).trans rfl, (blk_cell BK237.out 2).trans rfl, (blk_cell BK237.out 3).trans rfl, (blk_cell BK237.out 4).trans rfl, (blk_cell BK237.out 5).trans rfl, (blk_cell BK237.out 6).trans rfl, (blk_cell BK237.out 7).trans rfl⟩ (fun hHeld => ?_)
       clear hK K
       refine norm_ (a' := ?_) ?_ ?_
       rotate_left
       ·show Act.put _ (some 37) _ = _
        simp only [Act.put, List.setIfInBounds_toArray, List.set_cons_zero, List.set_cons_succ, i64_w, i32_w]
        rfl
       refine one_ (i := 6) (N := some 41) #[true, true, true, true, true, true, true, false, false, false, false, false, false, false] rfl rfl (one_of HT_.out (by kernel_rfl)) (by decide) (fun K hK => ?_)
       refine goes_ Try.func58 (by kernel_rfl) rfl #[.slice Ao42 t243.length co42, .int .i64 t232] (by rfl) rfl rfl (by (try simp only [List.map_toArray, List.map_cons, List.map_nil]); first | done | rfl | (simp only [List.length_drop, List.length_take]; rfl)) ?_
       with_reducible refine (chunk_All.calls kj26 _ _ t243 t232 t246 t247 t248 _ ?side1 ?side2 A38.out).mono ?_
       (case side1 => exact (Kd.V_reads' HO245.out).2.2)
       (case side2 => exact (Kd.V_reads' HO245.out).2.1)
       rintro e w43 ⟨v249, rfl, ho0, hb⟩
       refine ⟨_, rfl, ?_⟩
       replace HO245 := ak_ (Kd.V_elder' HO245.out (Kd.R_base ho0) hb)
       have HO250 := ak_ (Kd.R_lower ho0 (below_size HB.out))
       replace BK226 := ak_ (blk_below BK226.out hb)
       replace BK227 := ak_ (blk_below BK227.out hb)
       replace BK237 := ak_ (blk_below BK237.out hb)
       replace HB := ak_ (below_step HB.out hb)
       (try clear hb)
       (try clear hb2)
       (try clear hk)
       (try clear hi)
       (try clear ho0)
       refine hK.out _ _ ⟨(blk_cell BK237.out 0).trans rfl, (blk_cell BK237.out 1).trans rfl, (blk_cell BK237.out 2).trans rfl, (blk_cell BK237.out 3).trans rfl, (blk_cell BK237.out 4).trans rfl, (blk_cell BK237.out 5).trans rfl, (blk_cell BK237.out 6).trans rfl, (blk_cell BK237.out 7).trans rfl⟩ (fun hHeld => ?_)
       clear hK K
       refine norm_ (a' := ?_) ?_ ?_
       rotate_left
       ·show Act.put _ (some 41) _ = _
        simp only [Act.put, List.setIfInBounds_toArray, List.set_cons_zero, List.set_cons_succ, i64_w, i32_w]
        rfl
       refine pure_ (i := 7) (N := some 34) (v := ?_) (a' := ?_) #[true, true, true, true, true, true, true, true, false, false, false, false, false, false] rfl rfl (any_of HT_.out (by kernel_rfl)) (fun _ _ _ h => h) (Or.inl ⟨by rfl, ?_⟩) ?_ ?_
       rotate_left
       ·intro w'
        go_simp
        with_reducible rfl
       rotate_left
       ·simp only [Act.put, List.setIfInBounds_toArray, List.set_cons_zero, List.set_cons_succ, i64_w, i32_w]
        rfl
       refine pure_ (i := 8) (N := some 42) (v := ?_) (a' := ?_) #[true, true, true, true, true, true, true, true, true, false, false, false, false, false] rfl rfl (any_of HT_.out (by kernel_rfl)) (fun _ _ _ h => h) (Or.inl ⟨by rfl, ?_⟩) ?_ ?_
       rotate_left
       ·intro w'
        go_simp
        with_reducible rfl
       rotate_left
       ·simp only [Act.put, List.setIfInBounds_toArray, List.set_cons_zero, List.set_cons_succ, i64_w, i32_w]
        rfl
       refine pure_ (i := 9) (N := some 43) (v := ?_) (a' := ?_) #[true, true, true, true, true, true, true, true, true, true, false, false, false, false] rfl rfl (any_of HT_.out (by kernel_rfl)) (fun _ _ _ h => h) (Or.inl ⟨by rfl, ?_⟩) ?_ ?_
       rotate_left
       ·intro w'
        go_simp
        with_reducible rfl
       rotate_left
       ·simp only [Act.put, List.setIfInBounds_toArray, List.set_cons_zero, List.set_cons_succ, i64_w, i32_w]
        rfl
       refine pure_ (i := 10) (N := some 44) (v := ?_) (a' := ?_) #[true, true, true, true, true, true, true, true, true, true, true, false, false, false] rfl rfl (any_of HT_.out (by kernel_rfl)) (fun _ _ _ h => h) (Or.inl ⟨by rfl, ?_⟩) ?_ ?_
       rotate_left
       ·intro w'
        go_simp
        with_reducible rfl
       rotate_left
       ·simp only [Act.put, List.setIfInBounds_toArray, List.set_cons_zero, List.set_cons_succ, i64_w, i32_w]
        rfl
       refine pure_ (i := 11) (N := some 4) (v := ?_) (a' := ?_) #[true, true, true, true, true, true, true, true, true, true, true, true, false, false] rfl rfl (any_of HT_.out (by kernel_rfl)) (fun _ _ _ h => h) (Or.inl ⟨by rfl, ?_⟩) ?_ ?_
       rotate_left
       ·intro w'
        go_simp
        with_reducible rfl
       rotate_left
       ·simp only [Act.put, List.setIfInBounds_toArray, List.set_cons_zero, List.set_cons_succ, i64_w, i32_w]
        rfl
       refine pure_ (i := 12) (N := some 10) (v := ?_) (a' := ?_) #[true, true, true, true, true, true, true, true, true, true, true, true, true, false] rfl rfl (any_of HT_.out (by kernel_rfl)) (fun _ _ _ h => h) (Or.inl ⟨by rfl, ?_⟩) ?_ ?_
       rotate_left
       ·intro w'
        go_simp
        with_reducible rfl
       rotate_left
       ·simp only [Act.put, List.setIfInBounds_toArray, List.set_cons_zero, List.set_cons_succ, i64_w, i32_w]
        rfl
       refine pure_ (i := 13) (N := some 7) (v := ?_) (a' := ?_) #[true, true, true, true, true, true, true, true, true, true, true, true, true, true] rfl rfl (any_of HT_.out (by kernel_rfl)) (fun _ _ _ h => h) (Or.inl ⟨by rfl, ?_⟩) ?_ ?_
       rotate_left
       ·intro w'
        go_simp
        with_reducible rfl
       rotate_left
       ·simp only [Act.put, List.setIfInBounds_toArray, List.set_cons_zero, List.set_cons_succ, i64_w, i32_w]
        rfl
       refine done_ (done_of HT_.out (by kernel_rfl)) ?_
       go_upto_if 46 with (fail)
       go_cut [4, 6] (fun v4 v6 wc => ∃ (kq : Nat) (x4_38 : List Int) (x6_38 : Int) (x228000_38 : Int) (x228001_38 : Int) (x228002_38 : Int) (x228003_38 : Int), v6 = .int .i64 x6_38 ∧ Aside0 (page_Decode.j3 kq l1 x4_38 x6_38 t247 t228 t229 t230 t231 t232 t233 t234 t235 = some (r1, r2, r3, r4, r5, r6, r7)) ∧ Aside0 (kq ≤ kj26) ∧ Aside0 (Kd.R (Kd.int .u8) 5 wc w.heap.size (fun _ => True) v4 x4_38) ∧ Aside0 (wc.heap[gb226]? = some (.cells #[.int .i64 a0_0, .int .i64 a0_1, .int .i64 a0_2, .int .i64 a0_3, .int .i64 a0_4, .int .i64 a0_5, .int .i64 a0_6] 23 (0, 0))) ∧ Aside0 (wc.heap[gb227]? = some (.cells #[.int .i64 x228000_38, .int .i64 x228001_38, .int .i64 x228002_38, .int .i64 x228003_38] 26 (0, 0))) ∧ Aside0 (wc.heap[gb237]? = some (.cells #[.int .i64 t228, .int .i64 t229, .int .i64 t230, .int .i64 t231, .int .i64 t232, .int .i64 t233, .int .i64 t234, .int .i64 t235] 70 (0, 0))) ∧ Aside0 (Below w.heap.size w wc))
       case first =>
        have H := HC39.out
        clear HC39
        by_cases c44 : t248 = 0
        ·rw [if_pos c44] at H
         have c44b0 : (t248 == 0) = true := beq_iff_eq.mpr c44
         have c44b1 : (t248 != 0) = false := bne_eq_false_iff_eq.mpr c44
         clear c44
         (first | rw [c44b0] | (simp only [i64_w, i32_w]; rw [c44b0]) | skip)
         have H' := ak_ H
         clear H
         go_wp2
         go_meet
         case rel => exact ⟨_, (t246), (x6_26), (x228000_26), (x228001_26), (x228002_26), (x228003_26), (by rfl), H', ⟨by have := HJ3.out; have := HJ19.out; have := HJ26.out; omega⟩, ⟨HO250.out⟩, ⟨BK226.out⟩, ⟨BK227.out⟩, ⟨BK237.out⟩, ⟨by repeat (first | (with_reducible first | exact HB.out | apply below_alloc | apply pw_below_drewN | apply below_drew1 | refine below_set ?_ GE226.out | refine below_set ?_ GE227.out | refine below_set ?_ GE237.out) | exact HB.out)⟩⟩
        ·rw [if_neg c44] at H
         have c44b0 : (t248 == 0) = false := beq_eq_false_iff_ne.mpr c44
         have c44b1 : (t248 != 0) = true := bne_iff_ne.mpr c44
         (first | rw [c44b0] | (simp only [i64_w, i32_w]; rw [c44b0]) | skip)
         simp only [Option.some.injEq, Prod.mk.injEq] at H
         obtain ⟨rfl, rfl, rfl, rfl, rfl, rfl, rfl⟩ := H
         have hnb45 := NB227_226.out
         have hnc45 := NB226_227.out
         have hnb46 := NB227_237.out
         have hnc46 := NB237_227.out
         obtain ⟨hcz47_0, hcz47_1, hcz47_2, hcz47_3⟩ := cells4 BK227.out
         obtain ⟨hfz47_0, hfz47_1, hfz47_2, hfz47_3⟩ := froz4 BK227.out
         go_wp2
         refine bodyPost_ret (results_list (rs := [.tmp 4, .cell 5 26, .tmp 6, .tmp 7]) rfl (by simp) (.tmp (.cell gb227 26 #[.int .i64 0, .int .i64 0, .int .i64 0, .int .i64 0] (0, 0) _ rfl (put4 BK227.out) Try.underlying26 rfl (by kernel_rfl) (.tmp (.tmp .nil))))) rfl ?_
         exact ⟨_, by rfl, (Kd.R_nil _ _ _ _ _), by repeat (first | (with_reducible first | exact HB.out | apply below_alloc | apply pw_below_drewN | apply below_drew1 | refine below_set ?_ GE226.out | refine below_set ?_ GE227.out | refine below_set ?_ GE237.out) | exact HB.out)⟩
       case rest =>
        clear HC39
        obtain ⟨kq, x4_38, x6_38, x228000_38, x228001_38, x228002_38, x228003_38, rfl, HA, HJ38, HO_4, BK226, BK227, BK237, HB⟩ := hcut
        cases kq with
        | zero => exact absurd HA.out (by simp [page_Decode.j3])
        | succ kj38 =>
         have H := HA.out
         clear HA
         simp only [page_Decode.j3] at H
         replace H := Option.bind_eq_some_iff.mp H
         obtain ⟨t251, A480, H⟩ := H
         replace H : ((chunk_Decode.f kj38 t251).bind fun bt254 => (if bt254.2.2 = 0 then (page_Decode.j4 kj38 x4_38 x6_38 t247 bt254.1 bt254.2.1) else (some (([] : List Int), 0, 0, 0, 0, 0, bt254.2.2)))) = some (r1, r2, r3, r4, r5, r6, r7) := H
         have A48 := ak_ A480
         clear A480
         replace H := Option.bind_eq_some_iff.mp H
         obtain ⟨⟨t254, t255, t256⟩, A490, H⟩ := H
         replace H : (if t256 = 0 then (page_Decode.j4 kj38 x4_38 x6_38 t247 t254 t255) else (some (([] : List Int), 0, 0, 0, 0, 0, t256))) = some (r1, r2, r3, r4, r5, r6, r7) := H
         have A49 := ak_ A490
         clear A490
         have HC50 := ak_ H
         clear H
         have hnb51 := NB237_226.out
         have hnc51 := NB226_237.out
         have hnb52 := NB237_227.out
         have hnc52 := NB227_237.out
         obtain ⟨hcz53_0, hcz53_1, hcz53_2, hcz53_3, hcz53_4, hcz53_5, hcz53_6, hcz53_7⟩ := cells8 BK237.out
         obtain ⟨hfz53_0, hfz53_1, hfz53_2, hfz53_3, hfz53_4, hfz53_5, hfz53_6, hfz53_7⟩ := froz8 BK237.out
         go_upto_if 58 with (first | ((with_reducible refine gate_callee (f := 57) rfl ?_); refine goesL_ (some 52) rfl rfl Try.func57 (by kernel_rfl) rfl #[.agg #[.int .i64 t228, .int .i64 t229, .int .i64 t230, .int .i64 t231, .int .i64 t232, .int .i64 t233, .int .i64 t234, .int .i64 t235], .slice A1 l1.length c1] rfl (by (try simp only [List.map_toArray, List.map_cons, List.map_nil]); first | done | rfl | (simp only [List.length_drop, List.length_take]; rfl)) ?_; (with_reducible refine (page_shape_label.calls t228 t229 t230 t231 t232 t233 t234 t235 (fun k_ => k_ < w.heap.size) _ _ l1 t251 _ ?side1 A48.out).mono ?_); (case side1 => exact Kd.V_mk HC1.out (Kd.F_below (Kd.C_F (Kd.heap_int .u8) HR1.out) HB.out)); rintro e w54 ⟨v252, rfl, ho0, hb⟩; refine ⟨_, rfl, ?_⟩; have HO253 := ak_ (Kd.V_lower (Kd.V_mono (ok' := fun k_ => some k_ ≠ (u4 : Value).ownBlock ∧ k_ ≠ gb226 ∧ k_ ≠ gb227 ∧ k_ ≠ gb237) ho0 (fun k_ hk_ => ⟨Or.elim hk_ (fun hs_ => fun e_ => Nat.not_le.2 hs_ (Kd.R_base HO_4.out k_ e_.symm)) (fun hn_ => (Kd.fresh' (Kd.R_lt HO_4.out) k_ hn_)), Or.elim hk_ (fun hs_ => fun e_ => Nat.not_le.2 hs_ (by rw [e_]; exact GW226.out)) (fun hn_ => (Kd.freshB BK226.out k_ hn_)), Or.elim hk_ (fun hs_ => fun e_ => Nat.not_le.2 hs_ (by rw [e_]; exact GW227.out)) (fun hn_ => (Kd.freshB BK227.out k_ hn_)), Or.elim hk_ (fun hs_ => fun e_ => Nat.not_le.2 hs_ (by rw [e_]; exact GW237.out)) (fun hn_ => (Kd.freshB BK237.out k_ hn_))⟩)) (below_size HB.out)); replace HO_4 := ak_ (Kd.R_below HO_4.out hb); replace BK226 := ak_ (blk_below BK226.out hb); replace BK227 := ak_ (blk_below BK227.out hb); replace BK237 := ak_ (blk_below BK237.out hb); replace HB := ak_ (below_step HB.out hb); (try clear hb); (try clear hb2); (try clear hk); (try clear hi); (try clear ho0); obtain ⟨Ao55, co55, eo55⟩ := Kd.V_slice HO253.out; subst eo55) | ((with_reducible refine gate_callee (f := 60) rfl ?_); refine goesL_ (some 53) rfl rfl Try.func60 (by kernel_rfl) rfl #[.slice Ao55 t251.length co55] rfl (by (try simp only [List.map_toArray, List.map_cons, List.map_nil]); first | done | rfl | (simp only [List.length_drop, List.length_take]; rfl)) ?_; (with_reducible refine (chunk_Decode.calls kj38 _ _ t251 t254 t255 t256 _ ?side1 ?side2 A49.out).mono ?_); (case side1 => exact (Kd.V_reads' HO253.out).2.2); (case side2 => exact (Kd.V_reads' HO253.out).2.1); rintro e w56 ⟨v257, rfl, ho0, hb⟩; refine ⟨_, rfl, ?_⟩; replace HO253 := ak_ (Kd.V_elder' HO253.out (Kd.R_base ho0) hb); have HO258 := ak_ (Kd.R_lower (Kd.R_new' ho0 (Kd.R_lt HO_4.out)) (below_size HB.out)); replace HO_4 := ak_ (Kd.R_elder' HO_4.out (Kd.R_base ho0) hb); replace BK226 := ak_ (blk_below BK226.out hb); replace BK227 := ak_ (blk_below BK227.out hb); replace BK237 := ak_ (blk_below BK237.out hb); replace HB := ak_ (below_step HB.out hb); (try clear hb); (try clear hb2); (try clear hk); (try clear hi); (try clear ho0)))
         (try simp only [Act.put, List.setIfInBounds_toArray, List.set_cons_zero, List.set_cons_succ])
         go_cut [4, 6] (fun v4 v6 wc => ∃ (kq : Nat) (x4_49 : List Int) (x6_49 : Int) (x228000_49 : Int) (x228001_49 : Int) (x228002_49 : Int) (x228003_49 : Int), v6 = .int .i64 x6_49 ∧ Aside0 (page_Decode.j4 kq x4_49 x6_49 t247 t254 t255 = some (r1, r2, r3, r4, r5, r6, r7)) ∧ Aside0 (kq ≤ kj38) ∧ Aside0 (Kd.R (Kd.int .u8) 5 wc w.heap.size (fun k_ => some k_ ≠ (v257 : Value).ownBlock) v4 x4_49) ∧ Aside0 (Kd.R (Kd.int .u8) 5 wc w.heap.size (fun k_ => some k_ ≠ (v4 : Value).ownBlock) v257 t254) ∧ Aside0 (wc.heap[gb226]? = some (.cells #[.int .i64 a0_0, .int .i64 a0_1, .int .i64 a0_2, .int .i64 a0_3, .int .i64 a0_4, .int .i64 a0_5, .int .i64 a0_6] 23 (0, 0))) ∧ Aside0 (wc.heap[gb227]? = some (.cells #[.int .i64 x228000_49, .int .i64 x228001_49, .int .i64 x228002_49, .int .i64 x228003_49] 26 (0, 0))) ∧ Aside0 (wc.heap[gb237]? = some (.cells #[.int .i64 t228, .int .i64 t229, .int .i64 t230, .int .i64 t231, .int .i64 t232, .int .i64 t233, .int .i64 t234, .int .i64 t235] 70 (0, 0))) ∧ Aside0 (Below w.heap.size w wc))
         case first =>
          have H := HC50.out
          clear HC50
          by_cases c57 : t256 = 0
          ·rw [if_pos c57] at H
           have c57b0 : (t256 == 0) = true := beq_iff_eq.mpr c57
           have c57b1 : (t256 != 0) = false := bne_eq_false_iff_eq.mpr c57
           clear c57
           (first | rw [c57b0] | (simp only [i64_w, i32_w]; rw [c57b0]) | skip)
           have H' := ak_ H
           clear H
           go_wp2
           go_meet
           case rel => exact ⟨_, (x4_38), (x6_38), (x228000_38), (x228001_38), (x228002_38), (x228003_38), (by rfl), H', ⟨by have := HJ3.out; have := HJ19.out; have := HJ26.out; have := HJ38.out; omega⟩, ⟨(Kd.R_mono HO_4.out (fun _ hk => hk.2))⟩, ⟨(Kd.R_mono HO258.out (fun _ hk => hk.2))⟩, ⟨BK226.out⟩, ⟨BK227.out⟩, ⟨BK237.out⟩, ⟨by repeat (first | (with_reducible first | exact HB.out | apply below_alloc | apply pw_below_drewN | apply below_drew1 | refine below_set ?_ GE226.out | refine below_set ?_ GE227.out | refine below_set ?_ GE237.out) | exact HB.out)⟩⟩
          ·rw [if_neg c57] at H
           have c57b0 : (t256 == 0) = false := beq_eq_false_iff_ne.mpr c57
           have c57b1 : (t256 != 0) = true := bne_iff_ne.mpr c57
           (first | rw [c57b0] | (simp only [i64_w, i32_w]; rw [c57b0]) | skip)
           simp only [Option.some.injEq, Prod.mk.injEq] at H
           obtain ⟨rfl, rfl, rfl, rfl, rfl, rfl, rfl⟩ := H
           have hnb58 := NB227_226.out
           have hnc58 := NB226_227.out
           have hnb59 := NB227_237.out
           have hnc59 := NB237_227.out
           obtain ⟨hcz60_0, hcz60_1, hcz60_2, hcz60_3⟩ := cells4 BK227.out
           obtain ⟨hfz60_0, hfz60_1, hfz60_2, hfz60_3⟩ := froz4 BK227.out
           go_wp2
           refine bodyPost_ret (results_list (rs := [.tmp 4, .cell 5 26, .tmp 6, .tmp 7]) rfl (by simp) (.tmp (.cell gb227 26 #[.int .i64 0, .int .i64 0, .int .i64 0, .int .i64 0] (0, 0) _ rfl (put4 BK227.out) Try.underlying26 rfl (by kernel_rfl) (.tmp (.tmp .nil))))) rfl ?_
           exact ⟨_, by rfl, (Kd.R_nil _ _ _ _ _), by repeat (first | (with_reducible first | exact HB.out | apply below_alloc | apply pw_below_drewN | apply below_drew1 | refine below_set ?_ GE226.out | refine below_set ?_ GE227.out | refine below_set ?_ GE237.out) | exact HB.out)⟩
         case rest =>
          clear HC50 hcz53_0 hcz53_1 hcz53_2 hcz53_3 hcz53_4 hcz53_5 hcz53_6 hcz53_7 hfz53_0 hfz53_1 hfz53_2 hfz53_3 hfz53_4 hfz53_5 hfz53_6 hfz53_7
          obtain ⟨kq, x4_49, x6_49, x228000_49, x228001_49, x228002_49, x228003_49, rfl, HA, HJ49, HO_4, HO_11, BK226, BK227, BK237, HB⟩ := hcut
          cases kq with
          | zero => exact absurd HA.out (by simp [page_Decode.j4])
          | succ kj49 =>
           have H := HA.out
           clear HA
           simp only [page_Decode.j4] at H
           obtain ⟨y259, hy259⟩ : ∃ y_ : List Int, y_ = (([] : List Int)) := ⟨_, rfl⟩
           replace H : (if y259.length + x4_49.length < 140737488355328 then ((some (y259 ++ x4_49 : List Int)).bind fun y262 => (if y262.length + t254.length < 140737488355328 then ((crc_Check.f kj49 (y262 ++ t254)).bind fun t268 => (if t268 = true then (page_Decode.j5 kj49 x4_49 x6_49 t247 t254 t255) else (some (([] : List Int), 0, 0, 0, 0, 0, 12)))) else (none))) else (none)) = some (r1, r2, r3, r4, r5, r6, r7) := by first | (rw [hy259]; with_reducible exact H) | (have H2_ := (Option.bind_some _ _).symm.trans H; rw [hy259]; with_reducible exact H2_) | (have H2_ := (Option.bind_some _ _).symm.trans H; with_reducible exact H2_) | with_reducible exact H | (rw [hy259]; exact H) | exact H
           have Ny259 := ak_ hy259
           clear hy259
           by_cases c61 : y259.length + x4_49.length < 140737488355328
           ·rw [if_pos c61] at H
            have LMc61 := ak_ c61
            clear c61
            obtain ⟨y262, hy262⟩ : ∃ y_ : List Int, y_ = (y259 ++ x4_49) := ⟨_, rfl⟩
            replace H : (if y262.length + t254.length < 140737488355328 then ((crc_Check.f kj49 (y262 ++ t254)).bind fun t268 => (if t268 = true then (page_Decode.j5 kj49 x4_49 x6_49 t247 t254 t255) else (some (([] : List Int), 0, 0, 0, 0, 0, 12)))) else (none)) = some (r1, r2, r3, r4, r5, r6, r7) := by first | (rw [hy262]; with_reducible exact H) | (have H2_ := (Option.bind_some _ _).symm.trans H; rw [hy262]; with_reducible exact H2_) | (have H2_ := (Option.bind_some _ _).symm.trans H; with_reducible exact H2_) | with_reducible exact H | (rw [hy262]; exact H) | exact H
            have Ny262 := ak_ hy262
            clear hy262
            by_cases c62 : y262.length + t254.length < 140737488355328
            ·rw [if_pos c62] at H
             have LMc62 := ak_ c62
             clear c62
             obtain ⟨y265, hy265⟩ : ∃ y_ : List Int, y_ = (y262 ++ t254) := ⟨_, rfl⟩
             replace H : ((crc_Check.f kj49 y265).bind fun t268 => (if t268 = true then (page_Decode.j5 kj49 x4_49 x6_49 t247 t254 t255) else (some (([] : List Int), 0, 0, 0, 0, 0, 12)))) = some (r1, r2, r3, r4, r5, r6, r7) := (by rw [hy265]; with_reducible exact H)
             have Ny265 := ak_ hy265
             clear hy265
             replace H := Option.bind_eq_some_iff.mp H
             obtain ⟨t268, A630, H⟩ := H
             replace H : (if t268 = true then (page_Decode.j5 kj49 x4_49 x6_49 t247 t254 t255) else (some (([] : List Int), 0, 0, 0, 0, 0, 12))) = some (r1, r2, r3, r4, r5, r6, r7) := H
             have A63 := ak_ A630
             clear A630
             have HC64 := ak_ H
             clear H
             go_upto_if 67 with (first | ((with_reducible refine gate_dst (N := 61) rfl ?_); (try (refine gate_guard (by rfl) ?_; dsimp only)); refine Kd.R_lit (Kd.int .u8) _ 5 ?hg (N := 61) ?hd (xs := ([] : List Int)) (inner := []) (ok := fun _ => True) (okp := fun _ => True) ?hr ?hp (fun _ hk => hk) trivial (Below.refl _ _) (Nat.le_refl _) (by simp) ?_; (case hd => rfl); (case hg => rfl); (case hr => (go_simp; done)); (case hp => exact (Reps.none _ _)); intro v260 w65 ho66 hb hg_ hnew_; clear hg_ hnew_; (rw [← Ny259.out] at ho66); have HO261 := ak_ (Kd.R_lower (Kd.R_new' (Kd.R_new' ho66 (Kd.R_lt HO_4.out)) (Kd.R_lt HO_11.out)) (below_size HB.out)); replace HO_4 := ak_ (Kd.R_elder' HO_4.out (Kd.R_base ho66) hb); replace HO_11 := ak_ (Kd.R_elder' HO_11.out (Kd.R_base ho66) hb); replace BK226 := ak_ (blk_below BK226.out hb); replace BK227 := ak_ (blk_below BK227.out hb); replace BK237 := ak_ (blk_below BK237.out hb); replace HB := ak_ (below_step HB.out hb); clear hb ho66; obtain ⟨Ao68, co68, eo68⟩ := Kd.R_slice HO_4.out; subst eo68) | ((with_reducible refine gate_builtin (b := .append) (xs := #[.tmp 61, .tmp 62]) rfl ?_); (try (refine gate_guard (by rfl) ?_; dsimp only)); at_builtin; refine Kd.R_append_rows (Kd.int .u8) (w0 := w) w.heap.size rfl (.tmp 61) (.tmp 62) 24 5 (.int .u8 0) 1 rfl Try.underlying24 info5 rfl (by decide) (by omega) v260 y259 x4_49 _ _ _ (fun k_ => some k_ ≠ (.slice Ao68 x4_49.length co68 : Value).ownBlock ∧ some k_ ≠ (v257 : Value).ownBlock) (fun _ => False) rfl rfl ?aO ?aR (fun _ _ h => h) (fun _ h => h.elim) ?aF ?aB ?aS ?aL ?_; (case aR => repeat (first | exact (Kd.R_reads' HO_4.out).2.2 | (with_reducible refine Kd.C_alloc ?_ _) | (with_reducible refine Kd.C_drewN ?_ _) | (with_reducible refine Kd.C_drew ?_))); (case aB => exact HB.out); (case aF => exact (fun k_ hk => ⟨Kd.fresh' (Kd.R_lt HO_4.out) k_ hk, Kd.fresh' (Kd.R_lt HO_11.out) k_ hk⟩)); (case aO => exact (Kd.R_mono HO261.out (fun _ hk => ⟨hk.1.2, hk.2⟩))); (case aS => exact (below_size HB.out)); (case aL => have := LMc61.out; omega); intro v263 w67 ho hb hg hat; rw [← Ny262.out] at ho; have n0_ := ak_ (Kd.R_after (ok := (fun k_ => some k_ ≠ (v257 : Value).ownBlock)) HO_4.out hg hat); have n1_ := ak_ (Kd.R_after (ok := (fun k_ => some k_ ≠ (.slice Ao68 x4_49.length co68 : Value).ownBlock)) HO_11.out hg hat); have n2_ := ak_ (blk_grown BK226.out hg (Kd.R_ne HO261.out BK226.out (by decide))); have n3_ := ak_ (blk_grown BK227.out hg (Kd.R_ne HO261.out BK227.out (by decide))); have n4_ := ak_ (blk_grown BK237.out hg (Kd.R_ne HO261.out BK237.out (by decide))); have n5_ := ak_ (hb); have n6_ := ak_ (ho); clear HO_4; clear HO_11; clear BK226; clear BK227; clear BK237; clear HB; clear HO261; have HO_4 := n0_; have HO_11 := n1_; have BK226 := n2_; have BK227 := n3_; have BK237 := n4_; have HB := n5_; have HO264 := n6_; clear n0_ n1_ n2_ n3_ n4_ n5_ n6_; clear ho hb hg hat; obtain ⟨Ao70, co70, eo70⟩ := Kd.R_slice HO_11.out; subst eo70) | ((with_reducible refine gate_builtin (b := .append) (xs := #[.tmp 63, .tmp 64]) rfl ?_); (try (refine gate_guard (by rfl) ?_; dsimp only)); at_builtin; refine Kd.R_append_rows (Kd.int .u8) (w0 := w) w.heap.size rfl (.tmp 63) (.tmp 64) 24 5 (.int .u8 0) 1 rfl Try.underlying24 info5 rfl (by decide) (by omega) v263 y262 t254 _ _ _ (fun k_ => some k_ ≠ (.slice Ao68 x4_49.length co68 : Value).ownBlock ∧ some k_ ≠ (.slice Ao70 t254.length co70 : Value).ownBlock) (fun _ => False) rfl rfl ?aO ?aR (fun _ _ h => h) (fun _ h => h.elim) ?aF ?aB ?aS ?aL ?_; (case aR => repeat (first | exact (Kd.R_reads' HO_11.out).2.2 | (with_reducible refine Kd.C_alloc ?_ _) | (with_reducible refine Kd.C_drewN ?_ _) | (with_reducible refine Kd.C_drew ?_))); (case aB => exact HB.out); (case aF => exact (fun k_ hk => ⟨Kd.fresh' (Kd.R_lt HO_4.out) k_ hk, Kd.fresh' (Kd.R_lt HO_11.out) k_ hk⟩)); (case aO => exact HO264.out); (case aS => exact (below_size HB.out)); (case aL => have := LMc62.out; omega); intro v266 w69 ho hb hg hat; rw [← Ny265.out] at ho; have n0_ := ak_ (Kd.R_after (ok := (fun k_ => some k_ ≠ (.slice Ao70 t254.length co70 : Value).ownBlock)) HO_4.out hg hat); have n1_ := ak_ (Kd.R_after (ok := (fun k_ => some k_ ≠ (.slice Ao68 x4_49.length co68 : Value).ownBlock)) HO_11.out hg hat); have n2_ := ak_ (blk_grown BK226.out hg (Kd.R_ne HO264.out BK226.out (by decide))); have n3_ := ak_ (blk_grown BK227.out hg (Kd.R_ne HO264.out BK227.out (by decide))); have n4_ := ak_ (blk_grown BK237.out hg (Kd.R_ne HO264.out BK237.out (by decide))); have n5_ := ak_ (hb); have n6_ := ak_ (ho); clear HO_4; clear HO_11; clear BK226; clear BK227; clear BK237; clear HB; clear HO264; have HO_4 := n0_; have HO_11 := n1_; have BK226 := n2_; have BK227 := n3_; have BK237 := n4_; have HB := n5_; have HO267 := n6_; clear n0_ n1_ n2_ n3_ n4_ n5_ n6_; clear ho hb hg hat; obtain ⟨Ao71, co71, eo71⟩ := Kd.R_slice HO267.out; subst eo71) | ((with_reducible refine gate_callee (f := 61) rfl ?_); refine goesL_ (some 66) rfl rfl Try.func61 (by kernel_rfl) rfl #[.slice Ao71 y265.length co71] rfl (by (try simp only [List.map_toArray, List.map_cons, List.map_nil]); first | done | rfl | (simp only [List.length_drop, List.length_take]; rfl)) ?_; (with_reducible refine (crc_Check.calls kj49 (fun k_ => some k_ = (.slice Ao71 y265.length co71 : Value).ownBlock) _ _ y265 t268 _ ?side1 A63.out).mono ?_); (case side1 => exact Kd.R_V (Kd.R_tight rfl (Kd.R_types (Kd.R_types (Kd.R_types (HO267.out) BK226.out (by decide)) BK227.out (by decide)) BK237.out (by decide)))); rintro e w72 ⟨rfl, hb⟩; refine ⟨_, rfl, ?_⟩; replace HO_4 := ak_ (Kd.R_below HO_4.out hb); replace HO_11 := ak_ (Kd.R_below HO_11.out hb); replace HO267 := ak_ (Kd.R_below HO267.out hb); replace BK226 := ak_ (blk_below BK226.out hb); replace BK227 := ak_ (blk_below BK227.out hb); replace BK237 := ak_ (blk_below BK237.out hb); replace HB := ak_ (below_step HB.out hb); (try clear hb); (try clear hb2); (try clear hk); (try clear hi)))
             (try simp only [Act.put, List.setIfInBounds_toArray, List.set_cons_zero, List.set_cons_succ])
             go_cut [4, 6] (fun v4 v6 wc => ∃ (kq : Nat) (x4_63 : List Int) (x6_63 : Int) (x228000_63 : Int) (x228001_63 : Int) (x228002_63 : Int) (x228003_63 : Int), v6 = .int .i64 x6_63 ∧ Aside0 (page_Decode.j5 kq x4_63 x6_63 t247 t254 t255 = some (r1, r2, r3, r4, r5, r6, r7)) ∧ Aside0 (kq ≤ kj49) ∧ Aside0 (Kd.R (Kd.int .u8) 5 wc w.heap.size (fun k_ => some k_ ≠ ((.slice Ao70 t254.length co70) : Value).ownBlock) v4 x4_63) ∧ Aside0 (Kd.R (Kd.int .u8) 5 wc w.heap.size (fun k_ => some k_ ≠ (v4 : Value).ownBlock) (.slice Ao70 t254.length co70) t254) ∧ Aside0 (wc.heap[gb226]? = some (.cells #[.int .i64 a0_0, .int .i64 a0_1, .int .i64 a0_2, .int .i64 a0_3, .int .i64 a0_4, .int .i64 a0_5, .int .i64 a0_6] 23 (0, 0))) ∧ Aside0 (wc.heap[gb227]? = some (.cells #[.int .i64 x228000_63, .int .i64 x228001_63, .int .i64 x228002_63, .int .i64 x228003_63] 26 (0, 0))) ∧ Aside0 (wc.heap[gb237]? = some (.cells #[.int .i64 t228, .int .i64 t229, .int .i64 t230, .int .i64 t231, .int .i64 t232, .int .i64 t233, .int .i64 t234, .int .i64 t235] 70 (0, 0))) ∧ Aside0 (Below w.heap.size w wc))
             case first =>
              have H := HC64.out
              clear HC64
              by_cases c73 : t268 = true
              ·subst c73
               have H1 : (page_Decode.j5 kj49 x4_49 x6_49 t247 t254 t255) = some (r1, r2, r3, r4, r5, r6, r7) := by rw [if_pos rfl] at H; exact H
               clear H
               have H := H1
               clear H1
               have H' := ak_ H
               clear H
               go_wp2
               go_meet
               case rel => exact ⟨_, (x4_49), (x6_49), (x228000_49), (x228001_49), (x228002_49), (x228003_49), (by rfl), H', ⟨by have := HJ3.out; have := HJ19.out; have := HJ26.out; have := HJ38.out; have := HJ49.out; omega⟩, ⟨(Kd.R_mono HO_4.out (fun _ hk => hk.1))⟩, ⟨(Kd.R_mono HO_11.out (fun _ hk => hk.1))⟩, ⟨BK226.out⟩, ⟨BK227.out⟩, ⟨BK237.out⟩, ⟨by repeat (first | (with_reducible first | exact HB.out | apply below_alloc | apply pw_below_drewN | apply below_drew1 | refine below_set ?_ GE226.out | refine below_set ?_ GE227.out | refine below_set ?_ GE237.out) | exact HB.out)⟩⟩
              ·replace c73 := Bool.eq_false_iff.mpr c73
               subst c73
               have H1 : (some (([] : List Int), 0, 0, 0, 0, 0, 12)) = some (r1, r2, r3, r4, r5, r6, r7) := by rw [if_neg (show ¬ (false = true) by decide)] at H; exact H
               clear H
               have H := H1
               clear H1
               simp only [Option.some.injEq, Prod.mk.injEq] at H
               obtain ⟨rfl, rfl, rfl, rfl, rfl, rfl, rfl⟩ := H
               have hnb74 := NB227_226.out
               have hnc74 := NB226_227.out
               have hnb75 := NB227_237.out
               have hnc75 := NB237_227.out
               obtain ⟨hcz76_0, hcz76_1, hcz76_2, hcz76_3⟩ := cells4 BK227.out
               obtain ⟨hfz76_0, hfz76_1, hfz76_2, hfz76_3⟩ := froz4 BK227.out
               go_wp2
               refine bodyPost_ret (results_list (rs := [.tmp 4, .cell 5 26, .tmp 6, .tmp 7]) rfl (by simp) (.tmp (.cell gb227 26 #[.int .i64 0, .int .i64 0, .int .i64 0, .int .i64 0] (0, 0) _ rfl (put4 BK227.out) Try.underlying26 rfl (by kernel_rfl) (.tmp (.tmp .nil))))) rfl ?_
               exact ⟨_, by rfl, (Kd.R_nil _ _ _ _ _), by repeat (first | (with_reducible first | exact HB.out | apply below_alloc | apply pw_below_drewN | apply below_drew1 | refine below_set ?_ GE226.out | refine below_set ?_ GE227.out | refine below_set ?_ GE237.out) | exact HB.out)⟩
             case rest =>
              clear HC64
              obtain ⟨kq, x4_63, x6_63, x228000_63, x228001_63, x228002_63, x228003_63, rfl, HA, HJ63, HO_4, HO_11, BK226, BK227, BK237, HB⟩ := hcut
              cases kq with
              | zero => exact absurd HA.out (by simp [page_Decode.j5])
              | succ kj63 =>
               have H := HA.out
               clear HA
               simp only [page_Decode.j5] at H
               by_cases c77 : 24 ≤ (t254.length : Int)
               ·rw [if_pos c77] at H
                have c77b0 := eq_true c77
                have c77b1 : decide (24 ≤ (t254.length : Int)) = true := decide_eq_true c77
                clear c77
                obtain ⟨y269, hy269⟩ : ∃ y_ : List Int, y_ = (t254.take 24) := ⟨_, rfl⟩
                replace H : ((tag_Take.f kj63 y269).bind fun bt273 => (if bt273.2.2.2.2 = 0 then (if (wrap64 (t247 + t255)) > 0 then (some (x4_63, bt273.1, bt273.2.1, bt273.2.2.1, bt273.2.2.2.1, 1, 0)) else (some (x4_63, bt273.1, bt273.2.1, bt273.2.2.1, bt273.2.2.2.1, x6_63, 0))) else (some (([] : List Int), 0, 0, 0, 0, 0, bt273.2.2.2.2)))) = some (r1, r2, r3, r4, r5, r6, r7) := (by rw [hy269]; with_reducible exact H)
                have Ny269 := ak_ hy269
                clear hy269
                replace H := Option.bind_eq_some_iff.mp H
                obtain ⟨⟨t273, t274, t275, t276, t277⟩, A780, H⟩ := H
                replace H : (if t277 = 0 then (if (wrap64 (t247 + t255)) > 0 then (some (x4_63, t273, t274, t275, t276, 1, 0)) else (some (x4_63, t273, t274, t275, t276, x6_63, 0))) else (some (([] : List Int), 0, 0, 0, 0, 0, t277))) = some (r1, r2, r3, r4, r5, r6, r7) := H
                have A78 := ak_ A780
                clear A780
                by_cases c79 : t277 = 0
                ·rw [if_pos c79] at H
                 have c79b0 : (t277 == 0) = true := beq_iff_eq.mpr c79
                 have c79b1 : (t277 != 0) = false := bne_eq_false_iff_eq.mpr c79
                 clear c79
                 by_cases c80 : (wrap64 (t247 + t255)) > 0
                 ·rw [if_pos c80] at H
                  have c80b0 : decide (0 < (wrap64 (t247 + t255))) = true := decide_eq_true c80
                  clear c80
                  simp only [Option.some.injEq, Prod.mk.injEq] at H
                  obtain ⟨rfl, rfl, rfl, rfl, rfl, rfl, rfl⟩ := H
                  have q81 : (24 : Int) ≤ ((t254.length : Int) : Int) := of_decide_eq_true (by with_reducible assumption)
                  obtain ⟨i081, hi081, _, hsz81, _⟩ := info_parts info5
                  have hroom81 : t254.length ≤ co70 := (Kd.R_reads' HO_11.out).2.1
                  have hC81 : Kd.C (Kd.int .u8) _ Ao70 t254.length t254 := (Kd.R_reads' HO_11.out).2.2
                  have hcut81 := cut_to (P := Try.prog) 24 5 .i64 Try.underlying24 hi081 Ao70 t254.length co70 24 (by omega) q81 hroom81
                  have hr81 := Kd.C_take (m := 24) hC81 (by omega)
                  have hy81 : y269.length = (24 : Int).toNat := (by rw [Ny269.out, List.length_take]; omega)
                  rw [← Ny269.out] at hr81
                  rw [← hy81] at hcut81
                  have HR272 := ak_ hr81
                  have HC272 := ak_ (show y269.length ≤ co70 from by omega)
                  clear hr81 hC81 hroom81 hi081 hsz81
                  have KY81 := ak_ hy81
                  clear hy81
                  have KL81 := ak_ (show 24 ≤ t254.length from by omega)
                  replace q81 := eq_true q81
                  try go_wp2_with (first | ((with_reducible refine gate_callee (f := 62) rfl ?_); refine goesL_ (some 72) rfl rfl Try.func62 (by kernel_rfl) rfl #[.slice Ao70 y269.length co70] rfl (by (try simp only [List.map_toArray, List.map_cons, List.map_nil]); first | done | rfl | (simp only [List.length_drop, List.length_take]; rfl)) ?_; (with_reducible refine (tag_Take.calls kj63 _ _ y269 t273 t274 t275 t276 t277 _ ?side1 ?side2 A78.out).mono ?_); (case side1 => exact (by repeat (first | (with_reducible exact HR272.out) | (with_reducible refine Kd.C_alloc ?_ _) | (with_reducible refine Kd.C_drewN ?_ _) | (with_reducible refine Kd.C_drew ?_) | exact HR272.out))); (case side2 => exact HC272.out); rintro e w82 ⟨rfl, hb⟩; refine ⟨_, rfl, ?_⟩; replace HO_4 := ak_ (Kd.R_below HO_4.out hb); replace HO_11 := ak_ (Kd.R_below HO_11.out hb); replace BK226 := ak_ (blk_below BK226.out hb); replace BK227 := ak_ (blk_below BK227.out hb); replace BK237 := ak_ (blk_below BK237.out hb); replace HR272 := ak_ (Kd.C_below (by repeat (first | (with_reducible exact HR272.out) | (with_reducible refine Kd.C_alloc ?_ _) | (with_reducible refine Kd.C_drewN ?_ _) | (with_reducible refine Kd.C_drew ?_) | exact HR272.out)) hb); replace HB := ak_ (below_step HB.out hb); (try clear hb); (try clear hb2); (try clear hk); (try clear hi); have hnb83 := NB227_226.out; have hnc83 := NB226_227.out; have hnb84 := NB227_237.out; have hnc84 := NB237_227.out; have hcz85_0 : w82.cell? ⟨gb227, 0, none⟩ = some (.int .i64 x228000_63) := (blk_cell BK227.out 0).trans rfl; have hcz85_1 : w82.cell? ⟨gb227, 1, none⟩ = some (.int .i64 x228001_63) := (blk_cell BK227.out 1).trans rfl; have hcz85_2 : w82.cell? ⟨gb227, 2, none⟩ = some (.int .i64 x228002_63) := (blk_cell BK227.out 2).trans rfl; have hcz85_3 : w82.cell? ⟨gb227, 3, none⟩ = some (.int .i64 x228003_63) := (blk_cell BK227.out 3).trans rfl; have hfz85_0 := blk_frozen BK227.out 0; have hfz85_1 := blk_frozen BK227.out 1; have hfz85_2 := blk_frozen BK227.out 2; have hfz85_3 := blk_frozen BK227.out 3))
                  have n0_ : Aside0 (Kd.R (Kd.int .u8) 5 ((((w82.setCell ⟨gb227, 0, none⟩ (.int .i64 t273)).setCell ⟨gb227, 1, none⟩ (.int .i64 t274)).setCell ⟨gb227, 2, none⟩ (.int .i64 t275)).setCell ⟨gb227, 3, none⟩ (.int .i64 t276)) w.heap.size (fun k_ => some k_ ≠ (.slice Ao70 t254.length co70 : Value).ownBlock) u4 x4_63) := ⟨(Kd.R_mono (Kd.R_far (p := ⟨gb227, 3, none⟩) (Kd.R_far (p := ⟨gb227, 2, none⟩) (Kd.R_far (p := ⟨gb227, 1, none⟩) (Kd.R_far (p := ⟨gb227, 0, none⟩) (Kd.R_types HO_4.out BK227.out (by decide)) (fun _ hk => hk.2) (.int .i64 t273)) (fun _ hk => hk.2) (.int .i64 t274)) (fun _ hk => hk.2) (.int .i64 t275)) (fun _ hk => hk.2) (.int .i64 t276)) (fun _ hk => hk.1))⟩
                  have n1_ : Aside0 (Kd.R (Kd.int .u8) 5 ((((w82.setCell ⟨gb227, 0, none⟩ (.int .i64 t273)).setCell ⟨gb227, 1, none⟩ (.int .i64 t274)).setCell ⟨gb227, 2, none⟩ (.int .i64 t275)).setCell ⟨gb227, 3, none⟩ (.int .i64 t276)) w.heap.size (fun k_ => some k_ ≠ (u4 : Value).ownBlock) (.slice Ao70 t254.length co70) t254) := ⟨(Kd.R_mono (Kd.R_far (p := ⟨gb227, 3, none⟩) (Kd.R_far (p := ⟨gb227, 2, none⟩) (Kd.R_far (p := ⟨gb227, 1, none⟩) (Kd.R_far (p := ⟨gb227, 0, none⟩) (Kd.R_types HO_11.out BK227.out (by decide)) (fun _ hk => hk.2) (.int .i64 t273)) (fun _ hk => hk.2) (.int .i64 t274)) (fun _ hk => hk.2) (.int .i64 t275)) (fun _ hk => hk.2) (.int .i64 t276)) (fun _ hk => hk.1))⟩
                  have n2_ : Aside0 (((((w82.setCell ⟨gb227, 0, none⟩ (.int .i64 t273)).setCell ⟨gb227, 1, none⟩ (.int .i64 t274)).setCell ⟨gb227, 2, none⟩ (.int .i64 t275)).setCell ⟨gb227, 3, none⟩ (.int .i64 t276)).heap[gb226]? = some (.cells #[.int .i64 a0_0, .int .i64 a0_1, .int .i64 a0_2, .int .i64 a0_3, .int .i64 a0_4, .int .i64 a0_5, .int .i64 a0_6] 23 (0, 0))) := ⟨(far4 BK226.out NB226_227.out)⟩
                  have n3_ : Aside0 (((((w82.setCell ⟨gb227, 0, none⟩ (.int .i64 t273)).setCell ⟨gb227, 1, none⟩ (.int .i64 t274)).setCell ⟨gb227, 2, none⟩ (.int .i64 t275)).setCell ⟨gb227, 3, none⟩ (.int .i64 t276)).heap[gb227]? = some (.cells #[.int .i64 t273, .int .i64 t274, .int .i64 t275, .int .i64 t276] 26 (0, 0))) := ⟨(put4 BK227.out)⟩
                  have n4_ : Aside0 (((((w82.setCell ⟨gb227, 0, none⟩ (.int .i64 t273)).setCell ⟨gb227, 1, none⟩ (.int .i64 t274)).setCell ⟨gb227, 2, none⟩ (.int .i64 t275)).setCell ⟨gb227, 3, none⟩ (.int .i64 t276)).heap[gb237]? = some (.cells #[.int .i64 t228, .int .i64 t229, .int .i64 t230, .int .i64 t231, .int .i64 t232, .int .i64 t233, .int .i64 t234, .int .i64 t235] 70 (0, 0))) := ⟨(far4 BK237.out NB237_227.out)⟩
                  have n5_ : Aside0 (Below w.heap.size w ((((w82.setCell ⟨gb227, 0, none⟩ (.int .i64 t273)).setCell ⟨gb227, 1, none⟩ (.int .i64 t274)).setCell ⟨gb227, 2, none⟩ (.int .i64 t275)).setCell ⟨gb227, 3, none⟩ (.int .i64 t276))) := ⟨by repeat (first | (with_reducible first | exact HB.out | apply below_alloc | apply pw_below_drewN | apply below_drew1 | refine below_set ?_ GE226.out | refine below_set ?_ GE227.out | refine below_set ?_ GE237.out) | exact HB.out)⟩
                  (try clear HO_4)
                  (try clear HO_11)
                  (try clear BK226)
                  (try clear BK227)
                  (try clear BK237)
                  (try clear HB)
                  generalize ((((w82.setCell ⟨gb227, 0, none⟩ (.int .i64 t273)).setCell ⟨gb227, 1, none⟩ (.int .i64 t274)).setCell ⟨gb227, 2, none⟩ (.int .i64 t275)).setCell ⟨gb227, 3, none⟩ (.int .i64 t276)) = w86 at n0_ n1_ n2_ n3_ n4_ n5_ ⊢
                  have HO_4 := n0_
                  have HO_11 := n1_
                  have BK226 := n2_
                  have BK227 := n3_
                  have BK237 := n4_
                  have HB := n5_
                  clear n0_ n1_ n2_ n3_ n4_ n5_
                  replace HO_4 := ak_ (Kd.R_drew HO_4.out)
                  replace HO_11 := ak_ (Kd.R_drew HO_11.out)
                  replace BK226 := ak_ (blk_drew BK226.out)
                  replace BK227 := ak_ (blk_drew BK227.out)
                  replace BK237 := ak_ (blk_drew BK237.out)
                  replace HB := ak_ (below_drew1 HB.out)
                  refine start_ (n := 7) (S := fun w' => w'.cell? ⟨gb227, 0, none⟩ = some (.int .i64 t273) ∧ w'.cell? ⟨gb227, 1, none⟩ = some (.int .i64 t274) ∧ w'.cell? ⟨gb227, 2, none⟩ = some (.int .i64 t275) ∧ w'.cell? ⟨gb227, 3, none⟩ = some (.int .i64 t276)) (ds := [4]) #[false, false, false, false, false, false, false] (by kernel_rfl) rfl rfl ⟨(blk_cell BK227.out 0).trans rfl, (blk_cell BK227.out 1).trans rfl, (blk_cell BK227.out 2).trans rfl, (blk_cell BK227.out 3).trans rfl⟩ (fun hHeld => ?_)
                  generalize w86.drew = w87 at HO_4 HO_11 BK226 BK227 BK237 HB hHeld ⊢
                  refine pure_ (i := 0) (N := some 83) (v := ?_) (a' := ?_) #[true, false, false, false, false, false, false] rfl rfl (by kernel_rfl) (fun _ _ _ h => h) (Or.inl ⟨by rfl, ?_⟩) ?_ ?_
                  rotate_left
                  ·intro w'
                   go_simp
                   with_reducible rfl
                  rotate_left
                  ·simp only [Act.put, List.setIfInBounds_toArray, List.set_cons_zero, List.set_cons_succ, i64_w, i32_w]
                   rfl
                  refine pure_ (i := 2) (N := some 85) (v := ?_) (a' := ?_) #[true, false, true, false, false, false, false] rfl rfl (by kernel_rfl) (fun _ _ _ h => h) (Or.inl ⟨by rfl, ?_⟩) ?_ ?_
                  rotate_left
                  ·intro w'
                   go_simp
                   with_reducible rfl
                  rotate_left
                  ·simp only [Act.put, List.setIfInBounds_toArray, List.set_cons_zero, List.set_cons_succ, i64_w, i32_w]
                   rfl
                  refine pure_ (i := 3) (N := some 4) (v := ?_) (a' := ?_) #[true, false, true, true, false, false, false] rfl rfl (by kernel_rfl) (fun _ _ _ h => h) (Or.inl ⟨by rfl, ?_⟩) ?_ ?_
                  rotate_left
                  ·intro w'
                   go_simp
                   with_reducible rfl
                  rotate_left
                  ·simp only [Act.put, List.setIfInBounds_toArray, List.set_cons_zero, List.set_cons_succ, i64_w, i32_w]
                   rfl
                  refine take_ (i := 1) (N := some 84) (v := ?_) (a' := ?_) #[true, true, true, true, false, false, false] rfl rfl (by kernel_rfl) (fun _ _ _ h => h) (Or.inl ⟨by rfl, ?_⟩) hHeld ?_ ?_
                  rotate_left
                  ·rintro w' ⟨s0, s1, s2, s3⟩
                   go_simp
                   with_reducible rfl
                  rotate_left
                  ·simp only [Act.put, List.setIfInBounds_toArray, List.set_cons_zero, List.set_cons_succ, i64_w, i32_w]
                   rfl
                  refine last_ (i := 4) (N := none) #[true, true, true, true, true, false, false] rfl rfl (by kernel_rfl) (by decide) (fun K hK => ?_)
                  have hs88 : w87.cell? ⟨gb227, 0, none⟩ = some (.int .i64 t273) := (blk_cell BK227.out 0).trans rfl
                  have hfs88 := blk_frozen BK227.out 0
                  have hns88_0 := NB226_227.out
                  have hns88_2 := NB237_227.out
                  have hms88_0 := NB227_226.out
                  have hms88_2 := NB227_237.out
                  have hs89 : w87.cell? ⟨gb227, 1, none⟩ = some (.int .i64 t274) := (blk_cell BK227.out 1).trans rfl
                  have hfs89 := blk_frozen BK227.out 1
                  have hns89_0 := NB226_227.out
                  have hns89_2 := NB237_227.out
                  have hms89_0 := NB227_226.out
                  have hms89_2 := NB227_237.out
                  have hs90 : w87.cell? ⟨gb227, 2, none⟩ = some (.int .i64 t275) := (blk_cell BK227.out 2).trans rfl
                  have hfs90 := blk_frozen BK227.out 2
                  have hns90_0 := NB226_227.out
                  have hns90_2 := NB237_227.out
                  have hms90_0 := NB227_226.out
                  have hms90_2 := NB227_237.out
                  have hs91 : w87.cell? ⟨gb227, 3, none⟩ = some (.int .i64 t276) := (blk_cell BK227.out 3).trans rfl
                  have hfs91 := blk_frozen BK227.out 3
                  have hns91_0 := NB226_227.out
                  have hns91_2 := NB237_227.out
                  have hms91_0 := NB227_226.out
                  have hms91_2 := NB227_237.out
                  refine skip_ (w1 := ?_) (by rfl) rfl ?_ ?_
                  rotate_left
                  ·go_simp
                   rfl
                  refine hK.out _ _ ?_
                  clear hK K
                  refine pure_ (i := 5) (N := some 6) (v := ?_) (a' := ?_) #[true, true, true, true, true, true, false] rfl rfl (by kernel_rfl) (fun _ _ _ h => h) (Or.inl ⟨by rfl, ?_⟩) ?_ ?_
                  rotate_left
                  ·intro w'
                   go_simp
                   with_reducible rfl
                  rotate_left
                  ·simp only [Act.put, List.setIfInBounds_toArray, List.set_cons_zero, List.set_cons_succ, i64_w, i32_w]
                   rfl
                  refine pure_ (i := 6) (N := some 7) (v := ?_) (a' := ?_) #[true, true, true, true, true, true, true] rfl rfl (by kernel_rfl) (fun _ _ _ h => h) (Or.inl ⟨by rfl, ?_⟩) ?_ ?_
                  rotate_left
                  ·intro w'
                   go_simp
                   with_reducible rfl
                  rotate_left
                  ·simp only [Act.put, List.setIfInBounds_toArray, List.set_cons_zero, List.set_cons_succ, i64_w, i32_w]
                   rfl
                  refine done_ (by kernel_rfl) ?_
                  try go_wp2
                  refine bodyPost_ret (results_list (rs := [.tmp 4, .cell 5 26, .tmp 6, .tmp 7]) rfl (by simp) (.tmp (.cell gb227 26 #[.int .i64 t273, .int .i64 t274, .int .i64 t275, .int .i64 t276] (0, 0) _ rfl (put4 BK227.out) Try.underlying26 rfl (by kernel_rfl) (.tmp (.tmp .nil))))) rfl ?_
                  exact ⟨_, by rfl, (Kd.R_mono (Kd.R_far (p := ⟨gb227, 3, none⟩) (Kd.R_far (p := ⟨gb227, 2, none⟩) (Kd.R_far (p := ⟨gb227, 1, none⟩) (Kd.R_far (p := ⟨gb227, 0, none⟩) (Kd.R_types HO_4.out BK227.out (by decide)) (fun _ hk => hk.2) (.int .i64 t273)) (fun _ hk => hk.2) (.int .i64 t274)) (fun _ hk => hk.2) (.int .i64 t275)) (fun _ hk => hk.2) (.int .i64 t276)) (fun _ hk => trivial)), by repeat (first | (with_reducible first | exact HB.out | apply below_alloc | apply pw_below_drewN | apply below_drew1 | refine below_set ?_ GE226.out | refine below_set ?_ GE227.out | refine below_set ?_ GE237.out) | exact HB.out)⟩
                 ·rw [if_neg c80] at H
                  have c80b0 : decide (0 < (wrap64 (t247 + t255))) = false := decide_eq_false c80
                  clear c80
                  simp only [Option.some.injEq, Prod.mk.injEq] at H
                  obtain ⟨rfl, rfl, rfl, rfl, rfl, rfl, rfl⟩ := H
                  have q92 : (24 : Int) ≤ ((t254.length : Int) : Int) := of_decide_eq_true (by with_reducible assumption)
                  obtain ⟨i092, hi092, _, hsz92, _⟩ := info_parts info5
                  have hroom92 : t254.length ≤ co70 := (Kd.R_reads' HO_11.out).2.1
                  have hC92 : Kd.C (Kd.int .u8) _ Ao70 t254.length t254 := (Kd.R_reads' HO_11.out).2.2
                  have hcut92 := cut_to (P := Try.prog) 24 5 .i64 Try.underlying24 hi092 Ao70 t254.length co70 24 (by omega) q92 hroom92
                  have hr92 := Kd.C_take (m := 24) hC92 (by omega)
                  have hy92 : y269.length = (24 : Int).toNat := (by rw [Ny269.out, List.length_take]; omega)
                  rw [← Ny269.out] at hr92
                  rw [← hy92] at hcut92
                  have HR272 := ak_ hr92
                  have HC272 := ak_ (show y269.length ≤ co70 from by omega)
                  clear hr92 hC92 hroom92 hi092 hsz92
                  have KY92 := ak_ hy92
                  clear hy92
                  have KL92 := ak_ (show 24 ≤ t254.length from by omega)
                  replace q92 := eq_true q92
                  try go_wp2_with (first | ((with_reducible refine gate_callee (f := 62) rfl ?_); refine goesL_ (some 72) rfl rfl Try.func62 (by kernel_rfl) rfl #[.slice Ao70 y269.length co70] rfl (by (try simp only [List.map_toArray, List.map_cons, List.map_nil]); first | done | rfl | (simp only [List.length_drop, List.length_take]; rfl)) ?_; (with_reducible refine (tag_Take.calls kj63 _ _ y269 t273 t274 t275 t276 t277 _ ?side1 ?side2 A78.out).mono ?_); (case side1 => exact (by repeat (first | (with_reducible exact HR272.out) | (with_reducible refine Kd.C_alloc ?_ _) | (with_reducible refine Kd.C_drewN ?_ _) | (with_reducible refine Kd.C_drew ?_) | exact HR272.out))); (case side2 => exact HC272.out); rintro e w93 ⟨rfl, hb⟩; refine ⟨_, rfl, ?_⟩; replace HO_4 := ak_ (Kd.R_below HO_4.out hb); replace HO_11 := ak_ (Kd.R_below HO_11.out hb); replace BK226 := ak_ (blk_below BK226.out hb); replace BK227 := ak_ (blk_below BK227.out hb); replace BK237 := ak_ (blk_below BK237.out hb); replace HR272 := ak_ (Kd.C_below (by repeat (first | (with_reducible exact HR272.out) | (with_reducible refine Kd.C_alloc ?_ _) | (with_reducible refine Kd.C_drewN ?_ _) | (with_reducible refine Kd.C_drew ?_) | exact HR272.out)) hb); replace HB := ak_ (below_step HB.out hb); (try clear hb); (try clear hb2); (try clear hk); (try clear hi); have hnb94 := NB227_226.out; have hnc94 := NB226_227.out; have hnb95 := NB227_237.out; have hnc95 := NB237_227.out; have hcz96_0 : w93.cell? ⟨gb227, 0, none⟩ = some (.int .i64 x228000_63) := (blk_cell BK227.out 0).trans rfl; have hcz96_1 : w93.cell? ⟨gb227, 1, none⟩ = some (.int .i64 x228001_63) := (blk_cell BK227.out 1).trans rfl; have hcz96_2 : w93.cell? ⟨gb227, 2, none⟩ = some (.int .i64 x228002_63) := (blk_cell BK227.out 2).trans rfl; have hcz96_3 : w93.cell? ⟨gb227, 3, none⟩ = some (.int .i64 x228003_63) := (blk_cell BK227.out 3).trans rfl; have hfz96_0 := blk_frozen BK227.out 0; have hfz96_1 := blk_frozen BK227.out 1; have hfz96_2 := blk_frozen BK227.out 2; have hfz96_3 := blk_frozen BK227.out 3))
                  have n0_ : Aside0 (Kd.R (Kd.int .u8) 5 ((((w93.setCell ⟨gb227, 0, none⟩ (.int .i64 t273)).setCell ⟨gb227, 1, none⟩ (.int .i64 t274)).setCell ⟨gb227, 2, none⟩ (.int .i64 t275)).setCell ⟨gb227, 3, none⟩ (.int .i64 t276)) w.heap.size (fun k_ => some k_ ≠ (.slice Ao70 t254.length co70 : Value).ownBlock) u4 x4_63) := ⟨(Kd.R_mono (Kd.R_far (p := ⟨gb227, 3, none⟩) (Kd.R_far (p := ⟨gb227, 2, none⟩) (Kd.R_far (p := ⟨gb227, 1, none⟩) (Kd.R_far (p := ⟨gb227, 0, none⟩) (Kd.R_types HO_4.out BK227.out (by decide)) (fun _ hk => hk.2) (.int .i64 t273)) (fun _ hk => hk.2) (.int .i64 t274)) (fun _ hk => hk.2) (.int .i64 t275)) (fun _ hk => hk.2) (.int .i64 t276)) (fun _ hk => hk.1))⟩
                  have n1_ : Aside0 (Kd.R (Kd.int .u8) 5 ((((w93.setCell ⟨gb227, 0, none⟩ (.int .i64 t273)).setCell ⟨gb227, 1, none⟩ (.int .i64 t274)).setCell ⟨gb227, 2, none⟩ (.int .i64 t275)).setCell ⟨gb227, 3, none⟩ (.int .i64 t276)) w.heap.size (fun k_ => some k_ ≠ (u4 : Value).ownBlock) (.slice Ao70 t254.length co70) t254) := ⟨(Kd.R_mono (Kd.R_far (p := ⟨gb227, 3, none⟩) (Kd.R_far (p := ⟨gb227, 2, none⟩) (Kd.R_far (p := ⟨gb227, 1, none⟩) (Kd.R_far (p := ⟨gb227, 0, none⟩) (Kd.R_types HO_11.out BK227.out (by decide)) (fun _ hk => hk.2) (.int .i64 t273)) (fun _ hk => hk.2) (.int .i64 t274)) (fun _ hk => hk.2) (.int .i64 t275)) (fun _ hk => hk.2) (.int .i64 t276)) (fun _ hk => hk.1))⟩
                  have n2_ : Aside0 (((((w93.setCell ⟨gb227, 0, none⟩ (.int .i64 t273)).setCell ⟨gb227, 1, none⟩ (.int .i64 t274)).setCell ⟨gb227, 2, none⟩ (.int .i64 t275)).setCell ⟨gb227, 3, none⟩ (.int .i64 t276)).heap[gb226]? = some (.cells #[.int .i64 a0_0, .int .i64 a0_1, .int .i64 a0_2, .int .i64 a0_3, .int .i64 a0_4, .int .i64 a0_5, .int .i64 a0_6] 23 (0, 0))) := ⟨(far4 BK226.out NB226_227.out)⟩
                  have n3_ : Aside0 (((((w93.setCell ⟨gb227, 0, none⟩ (.int .i64 t273)).setCell ⟨gb227, 1, none⟩ (.int .i64 t274)).setCell ⟨gb227, 2, none⟩ (.int .i64 t275)).setCell ⟨gb227, 3, none⟩ (.int .i64 t276)).heap[gb227]? = some (.cells #[.int .i64 t273, .int .i64 t274, .int .i64 t275, .int .i64 t276] 26 (0, 0))) := ⟨(put4 BK227.out)⟩
                  have n4_ : Aside0 (((((w93.setCell ⟨gb227, 0, none⟩ (.int .i64 t273)).setCell ⟨gb227, 1, none⟩ (.int .i64 t274)).setCell ⟨gb227, 2, none⟩ (.int .i64 t275)).setCell ⟨gb227, 3, none⟩ (.int .i64 t276)).heap[gb237]? = some (.cells #[.int .i64 t228, .int .i64 t229, .int .i64 t230, .int .i64 t231, .int .i64 t232, .int .i64 t233, .int .i64 t234, .int .i64 t235] 70 (0, 0))) := ⟨(far4 BK237.out NB237_227.out)⟩
                  have n5_ : Aside0 (Below w.heap.size w ((((w93.setCell ⟨gb227, 0, none⟩ (.int .i64 t273)).setCell ⟨gb227, 1, none⟩ (.int .i64 t274)).setCell ⟨gb227, 2, none⟩ (.int .i64 t275)).setCell ⟨gb227, 3, none⟩ (.int .i64 t276))) := ⟨by repeat (first | (with_reducible first | exact HB.out | apply below_alloc | apply pw_below_drewN | apply below_drew1 | refine below_set ?_ GE226.out | refine below_set ?_ GE227.out | refine below_set ?_ GE237.out) | exact HB.out)⟩
                  (try clear HO_4)
                  (try clear HO_11)
                  (try clear BK226)
                  (try clear BK227)
                  (try clear BK237)
                  (try clear HB)
                  generalize ((((w93.setCell ⟨gb227, 0, none⟩ (.int .i64 t273)).setCell ⟨gb227, 1, none⟩ (.int .i64 t274)).setCell ⟨gb227, 2, none⟩ (.int .i64 t275)).setCell ⟨gb227, 3, none⟩ (.int .i64 t276)) = w97 at n0_ n1_ n2_ n3_ n4_ n5_ ⊢
                  have HO_4 := n0_
                  have HO_11 := n1_
                  have BK226 := n2_
                  have BK227 := n3_
                  have BK237 := n4_
                  have HB := n5_
                  clear n0_ n1_ n2_ n3_ n4_ n5_
                  replace HO_4 := ak_ (Kd.R_drew HO_4.out)
                  replace HO_11 := ak_ (Kd.R_drew HO_11.out)
                  replace BK226 := ak_ (blk_drew BK226.out)
                  replace BK227 := ak_ (blk_drew BK227.out)
                  replace BK237 := ak_ (blk_drew BK237.out)
                  replace HB := ak_ (below_drew1 HB.out)
                  refine start_ (n := 7) (S := fun w' => w'.cell? ⟨gb227, 0, none⟩ = some (.int .i64 t273) ∧ w'.cell? ⟨gb227, 1, none⟩ = some (.int .i64 t274) ∧ w'.cell? ⟨gb227, 2, none⟩ = some (.int .i64 t275) ∧ w'.cell? ⟨gb227, 3, none⟩ = some (.int .i64 t276)) (ds := [4]) #[false, false, false, false, false, false, false] (by kernel_rfl) rfl rfl ⟨(blk_cell BK227.out 0).trans rfl, (blk_cell BK227.out 1).trans rfl, (blk_cell BK227.out 2).trans rfl, (blk_cell BK227.out 3).trans rfl⟩ (fun hHeld => ?_)
                  generalize w97.drew = w98 at HO_4 HO_11 BK226 BK227 BK237 HB hHeld ⊢
                  refine pure_ (i := 0) (N := some 83) (v := ?_) (a' := ?_) #[true, false, false, false, false, false, false] rfl rfl (by kernel_rfl) (fun _ _ _ h => h) (Or.inl ⟨by rfl, ?_⟩) ?_ ?_
                  rotate_left
                  ·intro w'
                   go_simp
                   with_reducible rfl
                  rotate_left
                  ·simp only [Act.put, List.setIfInBounds_toArray, List.set_cons_zero, List.set_cons_succ, i64_w, i32_w]
                   rfl
                  refine pure_ (i := 2) (N := some 85) (v := ?_) (a' := ?_) #[true, false, true, false, false, false, false] rfl rfl (by kernel_rfl) (fun _ _ _ h => h) (Or.inl ⟨by rfl, ?_⟩) ?_ ?_
                  rotate_left
                  ·intro w'
                   go_simp
                   with_reducible rfl
                  rotate_left
                  ·simp only [Act.put, List.setIfInBounds_toArray, List.set_cons_zero, List.set_cons_succ, i64_w, i32_w]
                   rfl
                  refine pure_ (i := 3) (N := some 4) (v := ?_) (a' := ?_) #[true, false, true, true, false, false, false] rfl rfl (by kernel_rfl) (fun _ _ _ h => h) (Or.inl ⟨by rfl, ?_⟩) ?_ ?_
                  rotate_left
                  ·intro w'
                   go_simp
                   with_reducible rfl
                  rotate_left
                  ·simp only [Act.put, List.setIfInBounds_toArray, List.set_cons_zero, List.set_cons_succ, i64_w, i32_w]
                   rfl
                  refine take_ (i := 1) (N := some 84) (v := ?_) (a' := ?_) #[true, true, true, true, false, false, false] rfl rfl (by kernel_rfl) (fun _ _ _ h => h) (Or.inl ⟨by rfl, ?_⟩) hHeld ?_ ?_
                  rotate_left
                  ·rintro w' ⟨s0, s1, s2, s3⟩
                   go_simp
                   with_reducible rfl
                  rotate_left
                  ·simp only [Act.put, List.setIfInBounds_toArray, List.set_cons_zero, List.set_cons_succ, i64_w, i32_w]
                   rfl
                  refine last_ (i := 4) (N := none) #[true, true, true, true, true, false, false] rfl rfl (by kernel_rfl) (by decide) (fun K hK => ?_)
                  have hs99 : w98.cell? ⟨gb227, 0, none⟩ = some (.int .i64 t273) := (blk_cell BK227.out 0).trans rfl
                  have hfs99 := blk_frozen BK227.out 0
                  have hns99_0 := NB226_227.out
                  have hns99_2 := NB237_227.out
                  have hms99_0 := NB227_226.out
                  have hms99_2 := NB227_237.out
                  have hs100 : w98.cell? ⟨gb227, 1, none⟩ = some (.int .i64 t274) := (blk_cell BK227.out 1).trans rfl
                  have hfs100 := blk_frozen BK227.out 1
                  have hns100_0 := NB226_227.out
                  have hns100_2 := NB237_227.out
                  have hms100_0 := NB227_226.out
                  have hms100_2 := NB227_237.out
                  have hs101 : w98.cell? ⟨gb227, 2, none⟩ = some (.int .i64 t275) := (blk_cell BK227.out 2).trans rfl
                  have hfs101 := blk_frozen BK227.out 2
                  have hns101_0 := NB226_227.out
                  have hns101_2 := NB237_227.out
                  have hms101_0 := NB227_226.out
                  have hms101_2 := NB227_237.out
                  have hs102 : w98.cell? ⟨gb227, 3, none⟩ = some (.int .i64 t276) := (blk_cell BK227.out 3).trans rfl
                  have hfs102 := blk_frozen BK227.out 3
                  have hns102_0 := NB226_227.out
                  have hns102_2 := NB237_227.out
                  have hms102_0 := NB227_226.out
                  have hms102_2 := NB227_237.out
                  refine skip_ (w1 := ?_) (by rfl) rfl ?_ ?_
                  rotate_left
                  ·go_simp
                   rfl
                  refine hK.out _ _ ?_
                  clear hK K
                  refine pure_ (i := 5) (N := some 6) (v := ?_) (a' := ?_) #[true, true, true, true, true, true, false] rfl rfl (by kernel_rfl) (fun _ _ _ h => h) (Or.inl ⟨by rfl, ?_⟩) ?_ ?_
                  rotate_left
                  ·intro w'
                   go_simp
                   with_reducible rfl
                  rotate_left
                  ·simp only [Act.put, List.setIfInBounds_toArray, List.set_cons_zero, List.set_cons_succ, i64_w, i32_w]
                   rfl
                  refine pure_ (i := 6) (N := some 7) (v := ?_) (a' := ?_) #[true, true, true, true, true, true, true] rfl rfl (by kernel_rfl) (fun _ _ _ h => h) (Or.inl ⟨by rfl, ?_⟩) ?_ ?_
                  rotate_left
                  ·intro w'
                   go_simp
                   with_reducible rfl
                  rotate_left
                  ·simp only [Act.put, List.setIfInBounds_toArray, List.set_cons_zero, List.set_cons_succ, i64_w, i32_w]
                   rfl
                  refine done_ (by kernel_rfl) ?_
                  try go_wp2
                  refine bodyPost_ret (results_list (rs := [.tmp 4, .cell 5 26, .tmp 6, .tmp 7]) rfl (by simp) (.tmp (.cell gb227 26 #[.int .i64 t273, .int .i64 t274, .int .i64 t275, .int .i64 t276] (0, 0) _ rfl (put4 BK227.out) Try.underlying26 rfl (by kernel_rfl) (.tmp (.tmp .nil))))) rfl ?_
                  exact ⟨_, by rfl, (Kd.R_mono (Kd.R_far (p := ⟨gb227, 3, none⟩) (Kd.R_far (p := ⟨gb227, 2, none⟩) (Kd.R_far (p := ⟨gb227, 1, none⟩) (Kd.R_far (p := ⟨gb227, 0, none⟩) (Kd.R_types HO_4.out BK227.out (by decide)) (fun _ hk => hk.2) (.int .i64 t273)) (fun _ hk => hk.2) (.int .i64 t274)) (fun _ hk => hk.2) (.int .i64 t275)) (fun _ hk => hk.2) (.int .i64 t276)) (fun _ hk => trivial)), by repeat (first | (with_reducible first | exact HB.out | apply below_alloc | apply pw_below_drewN | apply below_drew1 | refine below_set ?_ GE226.out | refine below_set ?_ GE227.out | refine below_set ?_ GE237.out) | exact HB.out)⟩
                ·rw [if_neg c79] at H
                 have c79b0 : (t277 == 0) = false := beq_eq_false_iff_ne.mpr c79
                 have c79b1 : (t277 != 0) = true := bne_iff_ne.mpr c79
                 simp only [Option.some.injEq, Prod.mk.injEq] at H
                 obtain ⟨rfl, rfl, rfl, rfl, rfl, rfl, rfl⟩ := H
                 have q103 : (24 : Int) ≤ ((t254.length : Int) : Int) := of_decide_eq_true (by with_reducible assumption)
                 obtain ⟨i0103, hi0103, _, hsz103, _⟩ := info_parts info5
                 have hroom103 : t254.length ≤ co70 := (Kd.R_reads' HO_11.out).2.1
                 have hC103 : Kd.C (Kd.int .u8) _ Ao70 t254.length t254 := (Kd.R_reads' HO_11.out).2.2
                 have hcut103 := cut_to (P := Try.prog) 24 5 .i64 Try.underlying24 hi0103 Ao70 t254.length co70 24 (by omega) q103 hroom103
                 have hr103 := Kd.C_take (m := 24) hC103 (by omega)
                 have hy103 : y269.length = (24 : Int).toNat := (by rw [Ny269.out, List.length_take]; omega)
                 rw [← Ny269.out] at hr103
                 rw [← hy103] at hcut103
                 have HR272 := ak_ hr103
                 have HC272 := ak_ (show y269.length ≤ co70 from by omega)
                 clear hr103 hC103 hroom103 hi0103 hsz103
                 have KY103 := ak_ hy103
                 clear hy103
                 have KL103 := ak_ (show 24 ≤ t254.length from by omega)
                 replace q103 := eq_true q103
                 go_wp2_with (first | ((with_reducible refine gate_callee (f := 62) rfl ?_); refine goesL_ (some 72) rfl rfl Try.func62 (by kernel_rfl) rfl #[.slice Ao70 y269.length co70] rfl (by (try simp only [List.map_toArray, List.map_cons, List.map_nil]); first | done | rfl | (simp only [List.length_drop, List.length_take]; rfl)) ?_; (with_reducible refine (tag_Take.calls kj63 _ _ y269 t273 t274 t275 t276 t277 _ ?side1 ?side2 A78.out).mono ?_); (case side1 => exact (by repeat (first | (with_reducible exact HR272.out) | (with_reducible refine Kd.C_alloc ?_ _) | (with_reducible refine Kd.C_drewN ?_ _) | (with_reducible refine Kd.C_drew ?_) | exact HR272.out))); (case side2 => exact HC272.out); rintro e w104 ⟨rfl, hb⟩; refine ⟨_, rfl, ?_⟩; replace HO_4 := ak_ (Kd.R_below HO_4.out hb); replace HO_11 := ak_ (Kd.R_below HO_11.out hb); replace BK226 := ak_ (blk_below BK226.out hb); replace BK227 := ak_ (blk_below BK227.out hb); replace BK237 := ak_ (blk_below BK237.out hb); replace HR272 := ak_ (Kd.C_below (by repeat (first | (with_reducible exact HR272.out) | (with_reducible refine Kd.C_alloc ?_ _) | (with_reducible refine Kd.C_drewN ?_ _) | (with_reducible refine Kd.C_drew ?_) | exact HR272.out)) hb); replace HB := ak_ (below_step HB.out hb); (try clear hb); (try clear hb2); (try clear hk); (try clear hi); have hnb105 := NB227_226.out; have hnc105 := NB226_227.out; have hnb106 := NB227_237.out; have hnc106 := NB237_227.out; have hcz107_0 : w104.cell? ⟨gb227, 0, none⟩ = some (.int .i64 x228000_63) := (blk_cell BK227.out 0).trans rfl; have hcz107_1 : w104.cell? ⟨gb227, 1, none⟩ = some (.int .i64 x228001_63) := (blk_cell BK227.out 1).trans rfl; have hcz107_2 : w104.cell? ⟨gb227, 2, none⟩ = some (.int .i64 x228002_63) := (blk_cell BK227.out 2).trans rfl; have hcz107_3 : w104.cell? ⟨gb227, 3, none⟩ = some (.int .i64 x228003_63) := (blk_cell BK227.out 3).trans rfl; have hfz107_0 := blk_frozen BK227.out 0; have hfz107_1 := blk_frozen BK227.out 1; have hfz107_2 := blk_frozen BK227.out 2; have hfz107_3 := blk_frozen BK227.out 3))
                 refine bodyPost_ret (results_list (rs := [.tmp 4, .cell 5 26, .tmp 6, .tmp 7]) rfl (by simp) (.tmp (.cell gb227 26 #[.int .i64 0, .int .i64 0, .int .i64 0, .int .i64 0] (0, 0) _ rfl (put4 (put4 BK227.out)) Try.underlying26 rfl (by kernel_rfl) (.tmp (.tmp .nil))))) rfl ?_
                 exact ⟨_, by rfl, (Kd.R_nil _ _ _ _ _), by repeat (first | (with_reducible first | exact HB.out | apply below_alloc | apply pw_below_drewN | apply below_drew1 | refine below_set ?_ GE226.out | refine below_set ?_ GE227.out | refine below_set ?_ GE237.out) | exact HB.out)⟩
               ·rw [if_neg c77] at H
                exact absurd H (by simp)
            ·rw [if_neg c62] at H
             exact absurd H (by simp)
           ·rw [if_neg c61] at H
            exact absurd H (by simp)
end Go.Proofs.Ytmehbabchakkpaa.QLadderFits
namespace Go.Proofs.Ytmehbabchakkpaa.QLadderFits
open Go.RowKit Go.Proofs.YtmehbabchakkpaaW.PrintWords Go.Proofs.YtmehbabchakkpaaW.PrintLast Go.Proofs.YtmehbabchakkpaaW.PrintMore Go.Proofs.Ytmehbabchakkpaa.Short
attribute [local go_sem] max2_int min2_int max_two min_two max_three min_three max_four min_four   -- for this text's walks alone
set_option linter.unusedVariables false
set_option linter.unusedSimpArgs false
attribute [local go_sem high] eqA26
def ladder_Climb.w0 : Nat → Int → Int → Int → Int → Int → Int → Int → List (List Int) → Int → Option (List Int × Int × Int × Int × Int × Int × Int × Int)
 | 0, _, _, _, _, _, _, _, _, _ => none
 | k + 1, a0, a1, a2, a3, a4, a5, a6, ls, i => if i < a5 then (if i < (ls.length : Int) then (page_Decode.f k a0 a1 a2 a3 a4 a5 a6 (ls.getD i.toNat [])).bind fun t => if t.2.2.2.2.2.2 = 0 then some (t.1, t.2.1, t.2.2.1, t.2.2.2.1, t.2.2.2.2.1, t.2.2.2.2.2.1, i, 0) else if t.2.2.2.2.2.2 = 2 then some ([], 0, 0, 0, 0, 0, 0, 2) else ladder_Climb.w0 k a0 a1 a2 a3 a4 a5 a6 ls (wrap64 (i + 1)) else some ([], 0, 0, 0, 0, 0, 0, 30)) else some ([], 0, 0, 0, 0, 0, 0, 30)
def ladder_Climb.f (k : Nat) (a0_0 a0_1 a0_2 a0_3 a0_4 a0_5 a0_6 : Int) (l1 : List (List Int)) : Option (List Int × Int × Int × Int × Int × Int × Int × Int) := (geom_Check.f a0_0 a0_1 a0_2 a0_3 a0_4 a0_5 a0_6).bind fun e => if e = 0 then (if l1.length = 0 then some ([], 0, 0, 0, 0, 0, 0, 2) else if (l1.length : Int) > a0_5 then some ([], 0, 0, 0, 0, 0, 0, 2) else (geom_Raw.f a0_0 a0_1 a0_2 a0_3 a0_4 a0_5 a0_6).bind fun q => if l1.all (fun l => decide ((l.length : Int) = q)) = true then ladder_Climb.w0 k a0_0 a0_1 a0_2 a0_3 a0_4 a0_5 a0_6 l1 0 else some ([], 0, 0, 0, 0, 0, 0, 2)) else some ([], 0, 0, 0, 0, 0, 0, 2)
theorem ladder_Climb.mono_l : ∀ k, ∀ y0 y1 y2 y3 y4 y5 y6 y7 y8, LeO (ladder_Climb.w0 k y0 y1 y2 y3 y4 y5 y6 y7 y8) (ladder_Climb.w0 (k + 1) y0 y1 y2 y3 y4 y5 y6 y7 y8)
 | 0 => fun _ _ _ _ _ _ _ _ _ r h => by simp [ladder_Climb.w0] at h
 | k + 1 => by
  have ih := ladder_Climb.mono_l k
  intro y0 y1 y2 y3 y4 y5 y6 y7 y8
  unfold ladder_Climb.w0
  repeat' first
  | (with_reducible exact ih _ _ _ _ _ _ _ _ _)
  | (with_reducible exact page_Decode.mono _ _ _ _ _ _ _ _ _)
  | (with_reducible exact LeO.refl _)
  | (with_reducible refine LeO.ite ?_ ?_)
  | (with_reducible refine LeO.bind ?_ (fun _ => ?_))
theorem ladder_Climb.mono : ∀ a0 a1 a2 a3 a4 a5 a6 a7 k, LeO (ladder_Climb.f k a0 a1 a2 a3 a4 a5 a6 a7) (ladder_Climb.f (k + 1) a0 a1 a2 a3 a4 a5 a6 a7) := by
 intro a0 a1 a2 a3 a4 a5 a6 a7 k
 unfold ladder_Climb.f
 repeat' first
 | (with_reducible exact ladder_Climb.mono_l _ _ _ _ _ _ _ _ _ _)
 | (with_reducible exact LeO.refl _)
 | (with_reducible refine LeO.ite ?_ ?_)
 | (with_reducible refine LeO.bind ?_ (fun _ => ?_))
theorem ladder_Climb_at {w : World} {A : Option Addr} {n : Nat} {ls : List (List Int)} (h : Kd.C (Kd.slice 5 (Kd.int .u8)) w A n ls) (i : Int) (h0 : 0 ≤ i) (h1 : i < n) :
  ∃ ad A' c', A = some ad ∧ w.cell? (ad.add i.toNat) = some (.slice A' (ls.getD i.toNat []).length c') ∧ (ls.getD i.toNat []).length ≤ c' ∧ Kd.C (Kd.int .u8) w A' (ls.getD i.toNat []).length (ls.getD i.toNat []) := by
 obtain ⟨ad, c, h2, _, ⟨A', c', rfl, h3, h4⟩, h5⟩ := Kd.C_get h [] i h0 h1
 refine ⟨ad, A', c', h2, ?_, h3, h4⟩
 have := h5 0 _ rfl
 rw [show (Kd.slice 5 (Kd.int .u8)).sz = 1 from rfl, Nat.mul_one, Nat.add_zero] at this
 exact this
set_option maxHeartbeats 1000000 in
set_option maxRecDepth 100000 in
theorem ladder_Climb_lit (B : Nat) (A0 : Option Addr) (c0 : Nat) (ls : List (List Int)) (i : Int) (w : World) (h0 : 0 ≤ i) (hB : w.heap[B]? = some (.cells #[.slice A0 ls.length c0] 39 (0, 0))) (hC : Kd.C (Kd.slice 5 (Kd.int .u8)) w A0 ls.length ls) (hi : i < (ls.length : Int)) (p : List Int) (hp : ls.getD i.toNat [] = p) :
  Calls Try.prog 50 #[.int .i64 i, .pointer (some ⟨B, 0, none⟩)] w fun e w' => ∃ A c, e = .returned (.tuple #[.slice A p.length c, .int .i64 0]) ∧ p.length ≤ c ∧ Kd.C (Kd.int .u8) w' A p.length p ∧ Below w.heap.size w w' := by
 have c1_ := blk_cell hB 0
 obtain ⟨ad, A', c', rfl, hx, hl, hc⟩ := ladder_Climb_at hC i h0 hi
 rw [hp] at hx hl hc
 have HC := ak_ hc
 have HL := ak_ hl
 have cx_ := hx
 have d1_ : decide (i ≥ (ls.length : Int)) = false := decide_eq_false (by omega)
 have d2_ : decide ((ls.length : Int) ≤ i) = false := decide_eq_false (by omega)
 have d3_ : (0 ≤ i) = True := eq_true h0
 have d4_ : (i < (ls.length : Int)) = True := eq_true hi
 have d5_ : decide (0 ≤ i) = true := decide_eq_true h0
 have d6_ : decide (i < (ls.length : Int)) = true := decide_eq_true hi
 clear hC hB hx hl hc hp
 go_enter Try.func50, Try.ntmps50
 go_wp2
 refine bodyPost_ret (results_list (rs := [.tmp 3, .tmp 4]) rfl (by simp) (.tmp (.tmp .nil))) rfl ?_
 exact ⟨A', c', rfl, HL.out, HC.out, Below.refl _ _⟩
set_option maxHeartbeats 1000000 in
set_option maxRecDepth 100000 in
theorem ladder_Climb_lit_off (B : Nat) (A0 : Option Addr) (c0 : Nat) (ls : List (List Int)) (i : Int) (w : World) (h0 : 0 ≤ i) (hB : w.heap[B]? = some (.cells #[.slice A0 ls.length c0] 39 (0, 0))) (hC : Kd.C (Kd.slice 5 (Kd.int .u8)) w A0 ls.length ls) (hi : ¬ i < (ls.length : Int)) :
  Calls Try.prog 50 #[.int .i64 i, .pointer (some ⟨B, 0, none⟩)] w fun e w' => e = .returned (.tuple #[.slice none 0 0, .int .i64 30]) ∧ Below w.heap.size w w' := by
 have c1_ := blk_cell hB 0
 have d1_ : decide (i ≥ (ls.length : Int)) = true := decide_eq_true (by omega)
 have d2_ : decide ((ls.length : Int) ≤ i) = true := decide_eq_true (by omega)
 clear hC hB
 go_enter Try.func50, Try.ntmps50
 go_wp2
 refine bodyPost_ret (results_list (rs := [.tmp 3, .tmp 4]) rfl (by simp) (.tmp (.tmp .nil))) rfl ?_
 exact ⟨rfl, Below.refl _ _⟩
theorem ladder_Climb_put6 {W : World} {g t : Nat} {o0 o1 o2 o3 o4 o5 : Value} (h : W.heap[g]? = some (.cells #[o0, o1, o2, o3, o4, o5] t (0, 0))) (v0 v1 v2 v3 v4 v5 : Value) :
  ((((((W.setCell ⟨g, 0, none⟩ v0).setCell ⟨g, 1, none⟩ v1).setCell ⟨g, 2, none⟩ v2).setCell ⟨g, 3, none⟩ v3).setCell ⟨g, 4, none⟩ v4).setCell ⟨g, 5, none⟩ v5).heap[g]? = some (.cells #[v0, v1, v2, v3, v4, v5] t (0, 0)) :=
 blk_put (cs := #[v0, v1, v2, v3, v4, o5]) (blk_put (cs := #[v0, v1, v2, v3, o4, o5]) (blk_put (cs := #[v0, v1, v2, o3, o4, o5]) (blk_put (cs := #[v0, v1, o2, o3, o4, o5]) (blk_put (cs := #[v0, o1, o2, o3, o4, o5]) (blk_put (cs := #[o0, o1, o2, o3, o4, o5]) h 0 v0 rfl) 1 v1 rfl) 2 v2 rfl) 3 v3 rfl) 4 v4 rfl) 5 v5 rfl
theorem ladder_Climb_R10 {W W' : World} {base g11 g4 : Nat} {v : Value} {xs : List Int} {c11 c4 : Array Value} (h : Kd.R (Kd.int .u8) 5 W base (fun _ => True) v xs) (h11 : W.heap[g11]? = some (.cells c11 26 (0, 0))) (h4 : W.heap[g4]? = some (.cells c4 42 (0, 0))) (_ : True) (hW : ∀ k, k ≠ g11 → k ≠ g4 → W'.heap[k]? = W.heap[k]?) : Kd.R (Kd.int .u8) 5 W' base (fun _ => True) v xs :=
 Kd.R_mono (Kd.R_move (Kd.R_bound h) (fun k hk => by
  obtain ⟨_, _, _, q, hq, cells, hc⟩ := hk
  obtain rfl : q = 5 := by simpa [Kd.int, Kd.scalar] using hq
  refine hW k ?_ ?_
  ·rintro rfl
   rw [h11] at hc
   cases hc
  ·rintro rfl
   rw [h4] at hc
   cases hc)) (fun _ _ => trivial)
theorem ladder_Climb_far10 {W : World} {g11 g4 k : Nat} (t0 t1 t2 t3 v0 v1 v2 v3 v4 v5 : Value) (h1 : k ≠ g11) (h2 : k ≠ g4) : ((((((((((W.setCell ⟨g11, 0, none⟩ t0).setCell ⟨g11, 1, none⟩ t1).setCell ⟨g11, 2, none⟩ t2).setCell ⟨g11, 3, none⟩ t3).setCell ⟨g4, 0, none⟩ v0).setCell ⟨g4, 1, none⟩ v1).setCell ⟨g4, 2, none⟩ v2).setCell ⟨g4, 3, none⟩ v3).setCell ⟨g4, 4, none⟩ v4).setCell ⟨g4, 5, none⟩ v5).heap[k]? = W.heap[k]? :=
 ((Below.heap_setCell _ _ _ k h2).trans ((Below.heap_setCell _ _ _ k h2).trans ((Below.heap_setCell _ _ _ k h2).trans ((Below.heap_setCell _ _ _ k h2).trans ((Below.heap_setCell _ _ _ k h2).trans ((Below.heap_setCell _ _ _ k h2).trans ((Below.heap_setCell _ _ _ k h1).trans ((Below.heap_setCell _ _ _ k h1).trans ((Below.heap_setCell _ _ _ k h1).trans (Below.heap_setCell W _ _ k h1))))))))))
theorem ladder_Climb_below6 {w W : World} {g : Nat} (h : Below w.heap.size w W) (hg : w.heap.size ≤ g) (v0 v1 v2 v3 v4 v5 : Value) :
  Below w.heap.size w ((((((W.setCell ⟨g, 0, none⟩ v0).setCell ⟨g, 1, none⟩ v1).setCell ⟨g, 2, none⟩ v2).setCell ⟨g, 3, none⟩ v3).setCell ⟨g, 4, none⟩ v4).setCell ⟨g, 5, none⟩ v5) :=
 below_set (below_set (below_set (below_set (below_set (below_set h hg) hg) hg) hg) hg) hg
set_option maxHeartbeats 4000000 in
set_option maxRecDepth 100000 in
theorem ladder_Climb_walk (k : Nat) (a0 a1 a2 a3 a4 a5 a6 : Int) (B : Nat) (A0 : Option Addr) (c0 : Nat) (ls : List (List Int)) (r1 : List Int) (r2 r3 r4 r5 r6 r7 r8 : Int) (w : World) (hB : w.heap[B]? = some (.cells #[.slice A0 ls.length c0] 39 (0, 0))) (hC : Kd.C (Kd.slice 5 (Kd.int .u8)) w A0 ls.length ls) (hchk : geom_Check.f a0 a1 a2 a3 a4 a5 a6 = some 0) (h : ladder_Climb.w0 k a0 a1 a2 a3 a4 a5 a6 ls 0 = some (r1, r2, r3, r4, r5, r6, r7, r8)) :
  Calls Try.prog 27 #[.agg #[.int .i64 a0, .int .i64 a1, .int .i64 a2, .int .i64 a3, .int .i64 a4, .int .i64 a5, .int .i64 a6], .func (.func 50) #[] #[.pointer (some ⟨B, 0, none⟩)]] w fun e w' => ∃ v0_ : Value, e = .returned (.tuple #[.agg #[v0_, .int .i64 r2, .int .i64 r3, .int .i64 r4, .int .i64 r5, .int .i64 r6], .int .i64 r7, .int .i64 r8]) ∧ Kd.R (Kd.int .u8) 5 w' w.heap.size (fun _ => True) v0_ r1 ∧ Below w.heap.size w w' := by
 have HB := ak_ (Below.refl w.heap.size w)
 have HCC := ak_ hC
 have HCB := ak_ hB
 have HCHK := ak_ hchk
 have H' := ak_ h
 clear hC hB hchk h
 go_enter Try.func27, Try.ntmps27
 go_wp2_with (first | ((with_reducible refine gate_dst (N := 2) rfl ?_); (try (refine gate_guard (by rfl) ?_; dsimp only)); refine box_event ?hg (N := 2) ?hd (cs := #[.int .i64 a0, .int .i64 a1, .int .i64 a2, .int .i64 a3, .int .i64 a4, .int .i64 a5, .int .i64 a6]) (t := 23) ?hr ?_; (case hd => rfl); (case hg => rfl); (case hr => (go_simp; done)); intro g2 hg w1 hbox hb; have n0_ := ak_ (below_step HB.out hb); have GE2 := ak_ ((by rw [hg]; exact (below_size HB.out)) : w.heap.size ≤ g2); clear HB; have HB := n0_; have BK2 := ak_ hbox; clear n0_ hb hbox hg) | ((with_reducible refine gate_dst (N := 4) rfl ?_); (try (refine gate_guard (by rfl) ?_; dsimp only)); refine box_event ?hg (N := 4) ?hd (cs := #[.slice none 0 0, .int .i64 0, .int .i64 0, .int .i64 0, .int .i64 0, .int .i64 0]) (t := 42) ?hr ?_; (case hd => rfl); (case hg => rfl); (case hr => (go_simp; done)); intro g4 hg w2 hbox hb; have n0_ := ak_ (below_step HB.out hb); have n1_ := ak_ (blk_below BK2.out hb); have GE4 := ak_ ((by rw [hg]; exact (below_size HB.out)) : w.heap.size ≤ g4); have NE24 := ak_ ((by rw [hg]; exact Nat.ne_of_lt (blk_lt BK2.out)) : g2 ≠ g4); clear HB BK2; have HB := n0_; have BK2 := n1_; have BK4 := ak_ hbox; clear n0_ n1_ hb hbox hg; have z0_ : w2.cell? ⟨g2, 0, none⟩ = some (.int .i64 a0) := (blk_cell BK2.out 0).trans rfl; have z1_ : w2.cell? ⟨g2, 1, none⟩ = some (.int .i64 a1) := (blk_cell BK2.out 1).trans rfl; have z2_ : w2.cell? ⟨g2, 2, none⟩ = some (.int .i64 a2) := (blk_cell BK2.out 2).trans rfl; have z3_ : w2.cell? ⟨g2, 3, none⟩ = some (.int .i64 a3) := (blk_cell BK2.out 3).trans rfl; have z4_ : w2.cell? ⟨g2, 4, none⟩ = some (.int .i64 a4) := (blk_cell BK2.out 4).trans rfl; have z5_ : w2.cell? ⟨g2, 5, none⟩ = some (.int .i64 a5) := (blk_cell BK2.out 5).trans rfl; have z6_ : w2.cell? ⟨g2, 6, none⟩ = some (.int .i64 a6) := (blk_cell BK2.out 6).trans rfl) | ((with_reducible refine gate_callee (f := 35) rfl ?_); refine goesL_ (some 14) rfl rfl Try.func35 (by kernel_rfl) rfl #[.agg #[.int .i64 a0, .int .i64 a1, .int .i64 a2, .int .i64 a3, .int .i64 a4, .int .i64 a5, .int .i64 a6]] rfl (by (try simp only [List.map_toArray, List.map_cons, List.map_nil]); first | done | rfl) ?_; (with_reducible refine (geom_Check.calls a0 a1 a2 a3 a4 a5 a6 0 _ HCHK.out).mono ?_); rintro e w3 ⟨rfl, hb⟩; refine ⟨_, rfl, ?_⟩; have n0_ := ak_ (below_step HB.out hb); have n1_ := ak_ (blk_below BK2.out hb); have n2_ := ak_ (blk_below BK4.out hb); clear HB BK2 BK4 z0_ z1_ z2_ z3_ z4_ z5_ z6_; have HB := n0_; have BK2 := n1_; have BK4 := n2_; clear n0_ n1_ n2_ hb; have z5_ : w3.cell? ⟨g2, 5, none⟩ = some (.int .i64 a5) := (blk_cell BK2.out 5).trans rfl))
 clear z5_
 go_loopg [19] k (fun kq v19 wr => ∃ i : Int, v19 = .int .i64 i ∧ Aside0 (0 ≤ i) ∧ Aside0 (ladder_Climb.w0 kq a0 a1 a2 a3 a4 a5 a6 ls i = some (r1, r2, r3, r4, r5, r6, r7, r8)) ∧ Aside0 (kq ≤ k) ∧ Aside0 (wr.heap[g2]? = some (.cells #[.int .i64 a0, .int .i64 a1, .int .i64 a2, .int .i64 a3, .int .i64 a4, .int .i64 a5, .int .i64 a6] 23 (0, 0))) ∧ Aside0 (wr.heap[g4]? = some (.cells #[.slice none 0 0, .int .i64 0, .int .i64 0, .int .i64 0, .int .i64 0, .int .i64 0] 42 (0, 0))) ∧ Aside0 (Below w.heap.size w wr))
 case atStart => exact ⟨0, rfl, ⟨Int.le_refl _⟩, H', ⟨Nat.le_refl _⟩, ⟨BK2.out⟩, ⟨BK4.out⟩, ⟨HB.out⟩⟩
 case round =>
  clear H'
  obtain ⟨i, rfl, HI0, HA, HK1, BK2, BK4, HB⟩ := hrel
  cases gk with
  | zero => exact absurd HA.out (by simp [ladder_Climb.w0])
  | succ k1 =>
   have H := HA.out
   clear HA
   simp only [ladder_Climb.w0] at H
   by_cases c1 : i < a5
   ·rw [if_pos c1] at H
    have c1_ : decide (i < a5) = true := decide_eq_true c1
    by_cases c2 : i < (ls.length : Int)
    ·rw [if_pos c2] at H
     obtain ⟨⟨q1, q2, q3, q4, q5, q6, q7⟩, hdec, H2⟩ := Option.bind_eq_some_iff.1 H
     clear H
     dsimp only at H2
     obtain ⟨pc, hpc⟩ : ∃ pc, ls.getD i.toNat [] = pc := ⟨_, rfl⟩
     rw [hpc] at hdec
     have HDEC := ak_ hdec
     clear hdec
     by_cases e0 : q7 = 0
     ·rw [if_pos e0] at H2
      subst e0
      have HE := ak_ (Option.some.inj H2)
      clear H2
      go_wp2_with (first | (go_at_call 50; (with_reducible refine (ladder_Climb_lit B A0 c0 ls i _ HI0.out (blk_below HCB.out HB.out) (Kd.C_below HCC.out HB.out) c2 pc hpc).mono ?_); rintro e w4 ⟨Ar, cr, rfl, hlr, hCr, hb⟩; have n0_ := ak_ (below_step HB.out hb); have n1_ := ak_ (blk_below BK2.out hb); have n2_ := ak_ (blk_below BK4.out hb); clear HB BK2 BK4; have HB := n0_; have BK2 := n1_; have BK4 := n2_; clear n0_ n1_ n2_ hb; have HLR := ak_ hlr; have HCR := ak_ hCr; clear hlr hCr; have z0_ : w4.cell? ⟨g2, 0, none⟩ = some (.int .i64 a0) := (blk_cell BK2.out 0).trans rfl; have z1_ : w4.cell? ⟨g2, 1, none⟩ = some (.int .i64 a1) := (blk_cell BK2.out 1).trans rfl; have z2_ : w4.cell? ⟨g2, 2, none⟩ = some (.int .i64 a2) := (blk_cell BK2.out 2).trans rfl; have z3_ : w4.cell? ⟨g2, 3, none⟩ = some (.int .i64 a3) := (blk_cell BK2.out 3).trans rfl; have z4_ : w4.cell? ⟨g2, 4, none⟩ = some (.int .i64 a4) := (blk_cell BK2.out 4).trans rfl; have z5_ : w4.cell? ⟨g2, 5, none⟩ = some (.int .i64 a5) := (blk_cell BK2.out 5).trans rfl; have z6_ : w4.cell? ⟨g2, 6, none⟩ = some (.int .i64 a6) := (blk_cell BK2.out 6).trans rfl) | (go_at_call 30; (with_reducible refine (page_Decode.calls k1 a0 a1 a2 a3 a4 a5 a6 Ar cr pc q1 q2 q3 q4 q5 q6 0 _ ?s1 HLR.out HDEC.out).mono ?_); (case s1 => (with_reducible repeat (first | apply Kd.C_alloc | apply Kd.C_drewN | apply Kd.C_drew)); exact HCR.out); rintro e w5 ⟨vd, rfl, hR, hb⟩; have n0_ := ak_ (below_step HB.out hb); have n1_ := ak_ (blk_below BK2.out hb); have n2_ := ak_ (blk_below BK4.out hb); have hsz_ := below_size HB.out; clear HB BK2 BK4; have HB := n0_; have BK2 := n1_; have BK4 := n2_; clear n0_ n1_ n2_ hb; obtain ⟨Ad, nd, cd, rfl⟩ : ∃ A n c, vd = .slice A n c := (by obtain ⟨A, c, h⟩ := Kd.R_slice hR; exact ⟨A, _, c, h⟩); have HRD := ak_ (Kd.R_lower hR hsz_); clear hR) | ((with_reducible refine gate_dst (N := 11) rfl ?_); (try (refine gate_guard (by rfl) ?_; dsimp only)); refine box_event ?hg (N := 11) ?hd (cs := #[.int .i64 0, .int .i64 0, .int .i64 0, .int .i64 0]) (t := 26) ?hr ?_; (case hd => rfl); (case hg => rfl); (case hr => (go_simp; done)); intro g11 hg w6 hbox hb; have GE11 := ak_ ((by rw [hg]; exact (below_size HB.out)) : w.heap.size ≤ g11); have NE2 := ak_ ((by rw [hg]; exact Nat.ne_of_lt (blk_lt BK2.out)) : g2 ≠ g11); have NE4 := ak_ ((by rw [hg]; exact Nat.ne_of_lt (blk_lt BK4.out)) : g4 ≠ g11); have HRT := ak_ (Kd.R_below (show Kd.R _ _ _ _ _ _ _ from HRD.out) hb); clear HRD; have n0_ := ak_ (below_step HB.out hb); have n1_ := ak_ (blk_below BK2.out hb); have n2_ := ak_ (blk_below BK4.out hb); clear HB BK2 BK4; have HB := n0_; have BK2 := n1_; have BK4 := n2_; clear n0_ n1_ n2_ hb; have BK11 := ak_ hbox; clear hbox hg; have y0_ := blk_cell BK4.out 0; have yf0_ := blk_frozen BK4.out 0; have y1_ := blk_cell BK4.out 1; have yf1_ := blk_frozen BK4.out 1; have y2_ := blk_cell BK4.out 2; have yf2_ := blk_frozen BK4.out 2; have y3_ := blk_cell BK4.out 3; have yf3_ := blk_frozen BK4.out 3; have y4_ := blk_cell BK4.out 4; have yf4_ := blk_frozen BK4.out 4; have y5_ := blk_cell BK4.out 5; have yf5_ := blk_frozen BK4.out 5; have x0_ := blk_cell BK11.out 0; have xf0_ := blk_frozen BK11.out 0; have x1_ := blk_cell BK11.out 1; have xf1_ := blk_frozen BK11.out 1; have x2_ := blk_cell BK11.out 2; have xf2_ := blk_frozen BK11.out 2; have x3_ := blk_cell BK11.out 3; have xf3_ := blk_frozen BK11.out 3; have ne2_ := NE2.out; have ne4_ := NE4.out; have ne2'_ := NE2.out.symm; have ne4'_ := NE4.out.symm; have HRD := HRT))
      obtain ⟨rfl, rfl, rfl, rfl, rfl, rfl, rfl, rfl⟩ : q1 = r1 ∧ q2 = r2 ∧ q3 = r3 ∧ q4 = r4 ∧ q5 = r5 ∧ q6 = r6 ∧ i = r7 ∧ 0 = r8 := by simpa using HE.out
      refine bodyPost_ret (results_list (rs := [.cell 4 42, .tmp 5, .tmp 6]) rfl (by simp) (.cell g4 42 #[.slice Ad nd cd, .int .i64 q2, .int .i64 q3, .int .i64 q4, .int .i64 q5, .int .i64 q6] (0, 0) _ rfl (ladder_Climb_put6 (blk_far (blk_far (blk_far (blk_far BK4.out NE4.out _) NE4.out _) NE4.out _) NE4.out _) _ _ _ _ _ _) Try.underlying42 rfl (by kernel_rfl) (.tmp (.tmp .nil)))) rfl ?_
      exact ⟨_, rfl, ladder_Climb_R10 HRD.out BK11.out BK4.out trivial (fun k h1 h2 => ladder_Climb_far10 _ _ _ _ _ _ _ _ _ _ h1 h2), ladder_Climb_below6 (below_set (below_set (below_set (below_set HB.out GE11.out) GE11.out) GE11.out) GE11.out) GE4.out _ _ _ _ _ _⟩
     ·rw [if_neg e0] at H2
      by_cases e2 : q7 = 2
      ·rw [if_pos e2] at H2
       subst e2
       have HE := ak_ (Option.some.inj H2)
       clear H2
       go_wp2_with (first | (go_at_call 50; (with_reducible refine (ladder_Climb_lit B A0 c0 ls i _ HI0.out (blk_below HCB.out HB.out) (Kd.C_below HCC.out HB.out) c2 pc hpc).mono ?_); rintro e w4 ⟨Ar, cr, rfl, hlr, hCr, hb⟩; have n0_ := ak_ (below_step HB.out hb); have n1_ := ak_ (blk_below BK2.out hb); have n2_ := ak_ (blk_below BK4.out hb); clear HB BK2 BK4; have HB := n0_; have BK2 := n1_; have BK4 := n2_; clear n0_ n1_ n2_ hb; have HLR := ak_ hlr; have HCR := ak_ hCr; clear hlr hCr; have z0_ : w4.cell? ⟨g2, 0, none⟩ = some (.int .i64 a0) := (blk_cell BK2.out 0).trans rfl; have z1_ : w4.cell? ⟨g2, 1, none⟩ = some (.int .i64 a1) := (blk_cell BK2.out 1).trans rfl; have z2_ : w4.cell? ⟨g2, 2, none⟩ = some (.int .i64 a2) := (blk_cell BK2.out 2).trans rfl; have z3_ : w4.cell? ⟨g2, 3, none⟩ = some (.int .i64 a3) := (blk_cell BK2.out 3).trans rfl; have z4_ : w4.cell? ⟨g2, 4, none⟩ = some (.int .i64 a4) := (blk_cell BK2.out 4).trans rfl; have z5_ : w4.cell? ⟨g2, 5, none⟩ = some (.int .i64 a5) := (blk_cell BK2.out 5).trans rfl; have z6_ : w4.cell? ⟨g2, 6, none⟩ = some (.int .i64 a6) := (blk_cell BK2.out 6).trans rfl) | (go_at_call 30; (with_reducible refine (page_Decode.calls k1 a0 a1 a2 a3 a4 a5 a6 Ar cr pc q1 q2 q3 q4 q5 q6 2 _ ?s1 HLR.out HDEC.out).mono ?_); (case s1 => (with_reducible repeat (first | apply Kd.C_alloc | apply Kd.C_drewN | apply Kd.C_drew)); exact HCR.out); rintro e w5 ⟨vd, rfl, hR, hb⟩; have n0_ := ak_ (below_step HB.out hb); have n1_ := ak_ (blk_below BK2.out hb); have n2_ := ak_ (blk_below BK4.out hb); have hsz_ := below_size HB.out; clear HB BK2 BK4; have HB := n0_; have BK2 := n1_; have BK4 := n2_; clear n0_ n1_ n2_ hb; obtain ⟨Ad, nd, cd, rfl⟩ : ∃ A n c, vd = .slice A n c := (by obtain ⟨A, c, h⟩ := Kd.R_slice hR; exact ⟨A, _, c, h⟩); have HRD := ak_ (Kd.R_lower hR hsz_); clear hR) | ((with_reducible refine gate_dst (N := 11) rfl ?_); (try (refine gate_guard (by rfl) ?_; dsimp only)); refine box_event ?hg (N := 11) ?hd (cs := #[.int .i64 0, .int .i64 0, .int .i64 0, .int .i64 0]) (t := 26) ?hr ?_; (case hd => rfl); (case hg => rfl); (case hr => (go_simp; done)); intro g11 hg w6 hbox hb; have GE11 := ak_ ((by rw [hg]; exact (below_size HB.out)) : w.heap.size ≤ g11); have NE2 := ak_ ((by rw [hg]; exact Nat.ne_of_lt (blk_lt BK2.out)) : g2 ≠ g11); have NE4 := ak_ ((by rw [hg]; exact Nat.ne_of_lt (blk_lt BK4.out)) : g4 ≠ g11); have HRT := ak_ (Kd.R_below (show Kd.R _ _ _ _ _ _ _ from HRD.out) hb); clear HRD; have n0_ := ak_ (below_step HB.out hb); have n1_ := ak_ (blk_below BK2.out hb); have n2_ := ak_ (blk_below BK4.out hb); clear HB BK2 BK4; have HB := n0_; have BK2 := n1_; have BK4 := n2_; clear n0_ n1_ n2_ hb; have BK11 := ak_ hbox; clear hbox hg; have y0_ := blk_cell BK4.out 0; have yf0_ := blk_frozen BK4.out 0; have y1_ := blk_cell BK4.out 1; have yf1_ := blk_frozen BK4.out 1; have y2_ := blk_cell BK4.out 2; have yf2_ := blk_frozen BK4.out 2; have y3_ := blk_cell BK4.out 3; have yf3_ := blk_frozen BK4.out 3; have y4_ := blk_cell BK4.out 4; have yf4_ := blk_frozen BK4.out 4; have y5_ := blk_cell BK4.out 5; have yf5_ := blk_frozen BK4.out 5; have x0_ := blk_cell BK11.out 0; have xf0_ := blk_frozen BK11.out 0; have x1_ := blk_cell BK11.out 1; have xf1_ := blk_frozen BK11.out 1; have x2_ := blk_cell BK11.out 2; have xf2_ := blk_frozen BK11.out 2; have x3_ := blk_cell BK11.out 3; have xf3_ := blk_frozen BK11.out 3; have ne2_ := NE2.out; have ne4_ := NE4.out; have ne2'_ := NE2.out.symm; have ne4'_ := NE4.out.symm; have HRD := HRT))
       obtain ⟨rfl, rfl, rfl, rfl, rfl, rfl, rfl, rfl⟩ : [] = r1 ∧ 0 = r2 ∧ 0 = r3 ∧ 0 = r4 ∧ 0 = r5 ∧ 0 = r6 ∧ 0 = r7 ∧ 2 = r8 := by simpa using HE.out
       refine bodyPost_ret (results_list (rs := [.cell 4 42, .tmp 5, .tmp 6]) rfl (by simp) (.cell g4 42 #[.slice none 0 0, .int .i64 0, .int .i64 0, .int .i64 0, .int .i64 0, .int .i64 0] (0, 0) _ rfl (ladder_Climb_put6 (blk_far (blk_far (blk_far (blk_far BK4.out NE4.out _) NE4.out _) NE4.out _) NE4.out _) _ _ _ _ _ _) Try.underlying42 rfl (by kernel_rfl) (.tmp (.tmp .nil)))) rfl ?_
       exact ⟨_, rfl, Kd.R_nil _ _ _ _ _, ladder_Climb_below6 (below_set (below_set (below_set (below_set HB.out GE11.out) GE11.out) GE11.out) GE11.out) GE4.out _ _ _ _ _ _⟩
      ·rw [if_neg e2] at H2
       have HN := ak_ H2
       clear H2
       have f0_ : (q7 == 0) = false := beq_eq_false_iff_ne.2 e0
       have f2_ : (q7 == 2) = false := beq_eq_false_iff_ne.2 e2
       have hmax := HCC.out.2.1
       unfold maxLen at hmax
       have hw0 : 0 ≤ wrap64 (i + 1) := by
        have := HI0.out
        unfold wrap64
        omega
       have HW0 := ak_ hw0
       clear hmax hw0 e0 e2
       go_wp2_with (first | (go_at_call 50; (with_reducible refine (ladder_Climb_lit B A0 c0 ls i _ HI0.out (blk_below HCB.out HB.out) (Kd.C_below HCC.out HB.out) c2 pc hpc).mono ?_); rintro e w4 ⟨Ar, cr, rfl, hlr, hCr, hb⟩; have n0_ := ak_ (below_step HB.out hb); have n1_ := ak_ (blk_below BK2.out hb); have n2_ := ak_ (blk_below BK4.out hb); clear HB BK2 BK4; have HB := n0_; have BK2 := n1_; have BK4 := n2_; clear n0_ n1_ n2_ hb; have HLR := ak_ hlr; have HCR := ak_ hCr; clear hlr hCr; have z0_ : w4.cell? ⟨g2, 0, none⟩ = some (.int .i64 a0) := (blk_cell BK2.out 0).trans rfl; have z1_ : w4.cell? ⟨g2, 1, none⟩ = some (.int .i64 a1) := (blk_cell BK2.out 1).trans rfl; have z2_ : w4.cell? ⟨g2, 2, none⟩ = some (.int .i64 a2) := (blk_cell BK2.out 2).trans rfl; have z3_ : w4.cell? ⟨g2, 3, none⟩ = some (.int .i64 a3) := (blk_cell BK2.out 3).trans rfl; have z4_ : w4.cell? ⟨g2, 4, none⟩ = some (.int .i64 a4) := (blk_cell BK2.out 4).trans rfl; have z5_ : w4.cell? ⟨g2, 5, none⟩ = some (.int .i64 a5) := (blk_cell BK2.out 5).trans rfl; have z6_ : w4.cell? ⟨g2, 6, none⟩ = some (.int .i64 a6) := (blk_cell BK2.out 6).trans rfl) | (go_at_call 30; (with_reducible refine (page_Decode.calls k1 a0 a1 a2 a3 a4 a5 a6 Ar cr pc q1 q2 q3 q4 q5 q6 q7 _ ?s1 HLR.out HDEC.out).mono ?_); (case s1 => (with_reducible repeat (first | apply Kd.C_alloc | apply Kd.C_drewN | apply Kd.C_drew)); exact HCR.out); rintro e w5 ⟨vd, rfl, hR, hb⟩; have n0_ := ak_ (below_step HB.out hb); have n1_ := ak_ (blk_below BK2.out hb); have n2_ := ak_ (blk_below BK4.out hb); have hsz_ := below_size HB.out; clear HB BK2 BK4; have HB := n0_; have BK2 := n1_; have BK4 := n2_; clear n0_ n1_ n2_ hb; obtain ⟨Ad, nd, cd, rfl⟩ : ∃ A n c, vd = .slice A n c := (by obtain ⟨A, c, h⟩ := Kd.R_slice hR; exact ⟨A, _, c, h⟩); have HRD := ak_ (Kd.R_lower hR hsz_); clear hR) | ((with_reducible refine gate_dst (N := 11) rfl ?_); (try (refine gate_guard (by rfl) ?_; dsimp only)); refine box_event ?hg (N := 11) ?hd (cs := #[.int .i64 0, .int .i64 0, .int .i64 0, .int .i64 0]) (t := 26) ?hr ?_; (case hd => rfl); (case hg => rfl); (case hr => (go_simp; done)); intro g11 hg w6 hbox hb; have GE11 := ak_ ((by rw [hg]; exact (below_size HB.out)) : w.heap.size ≤ g11); have NE2 := ak_ ((by rw [hg]; exact Nat.ne_of_lt (blk_lt BK2.out)) : g2 ≠ g11); have NE4 := ak_ ((by rw [hg]; exact Nat.ne_of_lt (blk_lt BK4.out)) : g4 ≠ g11); have HRT := ak_ (Kd.R_below (show Kd.R _ _ _ _ _ _ _ from HRD.out) hb); clear HRD; have n0_ := ak_ (below_step HB.out hb); have n1_ := ak_ (blk_below BK2.out hb); have n2_ := ak_ (blk_below BK4.out hb); clear HB BK2 BK4; have HB := n0_; have BK2 := n1_; have BK4 := n2_; clear n0_ n1_ n2_ hb; have BK11 := ak_ hbox; clear hbox hg; have y0_ := blk_cell BK4.out 0; have yf0_ := blk_frozen BK4.out 0; have y1_ := blk_cell BK4.out 1; have yf1_ := blk_frozen BK4.out 1; have y2_ := blk_cell BK4.out 2; have yf2_ := blk_frozen BK4.out 2; have y3_ := blk_cell BK4.out 3; have yf3_ := blk_frozen BK4.out 3; have y4_ := blk_cell BK4.out 4; have yf4_ := blk_frozen BK4.out 4; have y5_ := blk_cell BK4.out 5; have yf5_ := blk_frozen BK4.out 5; have x0_ := blk_cell BK11.out 0; have xf0_ := blk_frozen BK11.out 0; have x1_ := blk_cell BK11.out 1; have xf1_ := blk_frozen BK11.out 1; have x2_ := blk_cell BK11.out 2; have xf2_ := blk_frozen BK11.out 2; have x3_ := blk_cell BK11.out 3; have xf3_ := blk_frozen BK11.out 3; have ne2_ := NE2.out; have ne4_ := NE4.out; have ne2'_ := NE2.out.symm; have ne4'_ := NE4.out.symm; have HRD := HRT))
       go_roundg k1
       case measure => have := HK1.out; omega
       case rel => exact ⟨wrap64 (i + 1), rfl, HW0, HN, ⟨by have := HK1.out; omega⟩, ⟨(blk_far (blk_far (blk_far (blk_far BK2.out NE2.out _) NE2.out _) NE2.out _) NE2.out _)⟩, ⟨(blk_far (blk_far (blk_far (blk_far BK4.out NE4.out _) NE4.out _) NE4.out _) NE4.out _)⟩, ⟨(below_set (below_set (below_set (below_set HB.out GE11.out) GE11.out) GE11.out) GE11.out)⟩⟩
    ·rw [if_neg c2] at H
     have HE := ak_ (Option.some.inj H)
     clear H
     go_wp2_with (go_at_call 50; (with_reducible refine (ladder_Climb_lit_off B A0 c0 ls i _ HI0.out (blk_below HCB.out HB.out) (Kd.C_below HCC.out HB.out) c2).mono ?_); rintro e w4 ⟨rfl, hb⟩; have n0_ := ak_ (below_step HB.out hb); have n1_ := ak_ (blk_below BK2.out hb); have n2_ := ak_ (blk_below BK4.out hb); clear HB BK2 BK4; have HB := n0_; have BK2 := n1_; have BK4 := n2_; clear n0_ n1_ n2_ hb; have y0_ := blk_cell BK4.out 0; have yf0_ := blk_frozen BK4.out 0; have y1_ := blk_cell BK4.out 1; have yf1_ := blk_frozen BK4.out 1; have y2_ := blk_cell BK4.out 2; have yf2_ := blk_frozen BK4.out 2; have y3_ := blk_cell BK4.out 3; have yf3_ := blk_frozen BK4.out 3; have y4_ := blk_cell BK4.out 4; have yf4_ := blk_frozen BK4.out 4; have y5_ := blk_cell BK4.out 5; have yf5_ := blk_frozen BK4.out 5)
     obtain ⟨rfl, rfl, rfl, rfl, rfl, rfl, rfl, rfl⟩ : [] = r1 ∧ 0 = r2 ∧ 0 = r3 ∧ 0 = r4 ∧ 0 = r5 ∧ 0 = r6 ∧ 0 = r7 ∧ 30 = r8 := by simpa using HE.out
     refine bodyPost_ret (results_list (rs := [.cell 4 42, .tmp 5, .tmp 6]) rfl (by simp) (.cell g4 42 #[.slice none 0 0, .int .i64 0, .int .i64 0, .int .i64 0, .int .i64 0, .int .i64 0] (0, 0) _ rfl (ladder_Climb_put6 BK4.out _ _ _ _ _ _) Try.underlying42 rfl (by kernel_rfl) (.tmp (.tmp .nil)))) rfl ?_
     exact ⟨_, rfl, Kd.R_nil _ _ _ _ _, ladder_Climb_below6 HB.out GE4.out _ _ _ _ _ _⟩
   ·rw [if_neg c1] at H
    have c1_ : decide (i < a5) = false := decide_eq_false c1
    have HE := ak_ (Option.some.inj H)
    clear H
    have y0_ := blk_cell BK4.out 0; have yf0_ := blk_frozen BK4.out 0; have y1_ := blk_cell BK4.out 1; have yf1_ := blk_frozen BK4.out 1; have y2_ := blk_cell BK4.out 2; have yf2_ := blk_frozen BK4.out 2; have y3_ := blk_cell BK4.out 3; have yf3_ := blk_frozen BK4.out 3; have y4_ := blk_cell BK4.out 4; have yf4_ := blk_frozen BK4.out 4; have y5_ := blk_cell BK4.out 5; have yf5_ := blk_frozen BK4.out 5
    go_wp2
    obtain ⟨rfl, rfl, rfl, rfl, rfl, rfl, rfl, rfl⟩ : [] = r1 ∧ 0 = r2 ∧ 0 = r3 ∧ 0 = r4 ∧ 0 = r5 ∧ 0 = r6 ∧ 0 = r7 ∧ 30 = r8 := by simpa using HE.out
    refine bodyPost_ret (results_list (rs := [.cell 4 42, .tmp 5, .tmp 6]) rfl (by simp) (.cell g4 42 #[.slice none 0 0, .int .i64 0, .int .i64 0, .int .i64 0, .int .i64 0, .int .i64 0] (0, 0) _ rfl (ladder_Climb_put6 BK4.out _ _ _ _ _ _) Try.underlying42 rfl (by kernel_rfl) (.tmp (.tmp .nil)))) rfl ?_
    exact ⟨_, rfl, Kd.R_nil _ _ _ _ _, ladder_Climb_below6 HB.out GE4.out _ _ _ _ _ _⟩
theorem ladder_Climb_R6 {W : World} {base g4 : Nat} {v : Value} {xs : List Int} {c4 : Array Value} (h : Kd.R (Kd.int .u8) 5 W base (fun _ => True) v xs) (h4 : W.heap[g4]? = some (.cells c4 42 (0, 0))) (v0 v1 v2 v3 v4 v5 : Value) : Kd.R (Kd.int .u8) 5 ((((((W.setCell ⟨g4, 0, none⟩ v0).setCell ⟨g4, 1, none⟩ v1).setCell ⟨g4, 2, none⟩ v2).setCell ⟨g4, 3, none⟩ v3).setCell ⟨g4, 4, none⟩ v4).setCell ⟨g4, 5, none⟩ v5) base (fun _ => True) v xs :=
 Kd.R_mono (Kd.R_move (Kd.R_bound h) (fun k hk => by
  obtain ⟨_, _, _, q, hq, cells, hc⟩ := hk
  obtain rfl : q = 5 := by simpa [Kd.int, Kd.scalar] using hq
  have h2 : k ≠ g4 := by
   rintro rfl
   rw [h4] at hc
   cases hc
  exact ((Below.heap_setCell _ _ _ k h2).trans ((Below.heap_setCell _ _ _ k h2).trans ((Below.heap_setCell _ _ _ k h2).trans ((Below.heap_setCell _ _ _ k h2).trans ((Below.heap_setCell _ _ _ k h2).trans (Below.heap_setCell W _ _ k h2)))))))) (fun _ _ => trivial)
set_option maxHeartbeats 4000000 in
set_option maxRecDepth 100000 in
theorem ladder_Climb.calls (k : Nat) (a0_0 a0_1 a0_2 a0_3 a0_4 a0_5 a0_6 : Int) (A1 : Option Addr) (c1 : Nat) (l1 : List (List Int)) (r1 : List Int) (r2 r3 r4 r5 r6 r7 r8 : Int) (w : World) (hr1 : Kd.C (Kd.slice 5 (Kd.int .u8)) w A1 l1.length l1) (hc1 : l1.length ≤ c1) (h : ladder_Climb.f k a0_0 a0_1 a0_2 a0_3 a0_4 a0_5 a0_6 l1 = some (r1, r2, r3, r4, r5, r6, r7, r8)) :
  Calls Try.prog 24 #[.agg #[.int .i64 a0_0, .int .i64 a0_1, .int .i64 a0_2, .int .i64 a0_3, .int .i64 a0_4, .int .i64 a0_5, .int .i64 a0_6], .slice A1 l1.length c1] w fun e w' => ∃ v0_ : Value, e = .returned (.tuple #[.agg #[v0_, .int .i64 r2, .int .i64 r3, .int .i64 r4, .int .i64 r5, .int .i64 r6], .int .i64 r7, .int .i64 r8]) ∧ Kd.R (Kd.int .u8) 5 w' w.heap.size (fun _ => True) v0_ r1 ∧ Below w.heap.size w w' := by
 have HB := ak_ (Below.refl w.heap.size w)
 have HCC := ak_ hr1
 clear hr1 hc1
 unfold ladder_Climb.f at h
 obtain ⟨ec, hchk, h2⟩ := Option.bind_eq_some_iff.1 h
 clear h
 have HCHK := ak_ hchk
 clear hchk
 by_cases e0 : ec = 0
 ·rw [if_pos e0] at h2
  subst e0
  by_cases hn : l1.length = 0
  ·rw [if_pos hn] at h2
   have HE := ak_ (Option.some.inj h2)
   clear h2
   have n0_ : ((l1.length : Int) == 0) = true := beq_iff_eq.2 (by omega)
   have n1_ : (l1.length == 0) = true := beq_iff_eq.2 hn
   go_enter Try.func24, Try.ntmps24
   go_wp2_with (first | ((with_reducible refine gate_dst (N := 2) rfl ?_); (try (refine gate_guard (by rfl) ?_; dsimp only)); refine box_event ?hg (N := 2) ?hd (cs := #[.int .i64 a0_0, .int .i64 a0_1, .int .i64 a0_2, .int .i64 a0_3, .int .i64 a0_4, .int .i64 a0_5, .int .i64 a0_6]) (t := 23) ?hr ?_; (case hd => rfl); (case hg => rfl); (case hr => (go_simp; done)); intro g2 hg w1 hbox hb; have GE2 := ak_ ((by rw [hg]; exact (below_size HB.out)) : w.heap.size ≤ g2); have n0_ := ak_ (below_step HB.out hb); clear HB hb; have HB := n0_; clear n0_; have BK2 := ak_ hbox; clear hbox hg) | ((with_reducible refine gate_dst (N := 3) rfl ?_); (try (refine gate_guard (by rfl) ?_; dsimp only)); refine box_event ?hg (N := 3) ?hd (cs := #[.slice A1 l1.length c1]) (t := 39) ?hr ?_; (case hd => rfl); (case hg => rfl); (case hr => (go_simp; done)); intro g3 hg w2 hbox hb; have GE3 := ak_ ((by rw [hg]; exact (below_size HB.out)) : w.heap.size ≤ g3); have n0_ := ak_ (below_step HB.out hb); have n2_ := ak_ (blk_below BK2.out hb); clear HB BK2; have HB := n0_; have BK2 := n2_; clear n0_ n2_ hb; have BK3 := ak_ hbox; clear hbox hg) | ((with_reducible refine gate_dst (N := 4) rfl ?_); (try (refine gate_guard (by rfl) ?_; dsimp only)); refine box_event ?hg (N := 4) ?hd (cs := #[.slice none 0 0, .int .i64 0, .int .i64 0, .int .i64 0, .int .i64 0, .int .i64 0]) (t := 42) ?hr ?_; (case hd => rfl); (case hg => rfl); (case hr => (go_simp; done)); intro g4 hg w3 hbox hb; have GE4 := ak_ ((by rw [hg]; exact (below_size HB.out)) : w.heap.size ≤ g4); have n0_ := ak_ (below_step HB.out hb); have n2_ := ak_ (blk_below BK2.out hb); have n3_ := ak_ (blk_below BK3.out hb); clear HB BK2 BK3; have HB := n0_; have BK2 := n2_; have BK3 := n3_; clear n0_ n2_ n3_ hb; have BK4 := ak_ hbox; clear hbox hg; have z0_ : w3.cell? ⟨g2, 0, none⟩ = some (.int .i64 a0_0) := (blk_cell BK2.out 0).trans rfl; have z1_ : w3.cell? ⟨g2, 1, none⟩ = some (.int .i64 a0_1) := (blk_cell BK2.out 1).trans rfl; have z2_ : w3.cell? ⟨g2, 2, none⟩ = some (.int .i64 a0_2) := (blk_cell BK2.out 2).trans rfl; have z3_ : w3.cell? ⟨g2, 3, none⟩ = some (.int .i64 a0_3) := (blk_cell BK2.out 3).trans rfl; have z4_ : w3.cell? ⟨g2, 4, none⟩ = some (.int .i64 a0_4) := (blk_cell BK2.out 4).trans rfl; have z5_ : w3.cell? ⟨g2, 5, none⟩ = some (.int .i64 a0_5) := (blk_cell BK2.out 5).trans rfl; have z6_ : w3.cell? ⟨g2, 6, none⟩ = some (.int .i64 a0_6) := (blk_cell BK2.out 6).trans rfl; have u0_ : w3.cell? ⟨g3, 0, none⟩ = some (.slice A1 l1.length c1) := (blk_cell BK3.out 0).trans rfl) | ((with_reducible refine gate_callee (f := 35) rfl ?_); refine goesL_ (some 10) rfl rfl Try.func35 (by kernel_rfl) rfl #[.agg #[.int .i64 a0_0, .int .i64 a0_1, .int .i64 a0_2, .int .i64 a0_3, .int .i64 a0_4, .int .i64 a0_5, .int .i64 a0_6]] rfl (by (try simp only [List.map_toArray, List.map_cons, List.map_nil]); first | done | rfl) ?_; (with_reducible refine (geom_Check.calls a0_0 a0_1 a0_2 a0_3 a0_4 a0_5 a0_6 0 _ HCHK.out).mono ?_); rintro e w5 ⟨rfl, hb⟩; refine ⟨_, rfl, ?_⟩; clear z0_ z1_ z2_ z3_ z4_ z5_ z6_ u0_; have n0_ := ak_ (below_step HB.out hb); have n2_ := ak_ (blk_below BK2.out hb); have n3_ := ak_ (blk_below BK3.out hb); have n4_ := ak_ (blk_below BK4.out hb); clear HB BK2 BK3 BK4; have HB := n0_; have BK2 := n2_; have BK3 := n3_; have BK4 := n4_; clear n0_ n2_ n3_ n4_ hb; have z0_ : w5.cell? ⟨g2, 0, none⟩ = some (.int .i64 a0_0) := (blk_cell BK2.out 0).trans rfl; have z1_ : w5.cell? ⟨g2, 1, none⟩ = some (.int .i64 a0_1) := (blk_cell BK2.out 1).trans rfl; have z2_ : w5.cell? ⟨g2, 2, none⟩ = some (.int .i64 a0_2) := (blk_cell BK2.out 2).trans rfl; have z3_ : w5.cell? ⟨g2, 3, none⟩ = some (.int .i64 a0_3) := (blk_cell BK2.out 3).trans rfl; have z4_ : w5.cell? ⟨g2, 4, none⟩ = some (.int .i64 a0_4) := (blk_cell BK2.out 4).trans rfl; have z5_ : w5.cell? ⟨g2, 5, none⟩ = some (.int .i64 a0_5) := (blk_cell BK2.out 5).trans rfl; have z6_ : w5.cell? ⟨g2, 6, none⟩ = some (.int .i64 a0_6) := (blk_cell BK2.out 6).trans rfl; have u0_ : w5.cell? ⟨g3, 0, none⟩ = some (.slice A1 l1.length c1) := (blk_cell BK3.out 0).trans rfl; have y0_ := blk_cell BK4.out 0; have yf0_ := blk_frozen BK4.out 0; have y1_ := blk_cell BK4.out 1; have yf1_ := blk_frozen BK4.out 1; have y2_ := blk_cell BK4.out 2; have yf2_ := blk_frozen BK4.out 2; have y3_ := blk_cell BK4.out 3; have yf3_ := blk_frozen BK4.out 3; have y4_ := blk_cell BK4.out 4; have yf4_ := blk_frozen BK4.out 4; have y5_ := blk_cell BK4.out 5; have yf5_ := blk_frozen BK4.out 5) | (go_at_call 35; (with_reducible refine (geom_Check.calls a0_0 a0_1 a0_2 a0_3 a0_4 a0_5 a0_6 0 _ HCHK.out).mono ?_); rintro e w5 ⟨rfl, hb⟩; clear z0_ z1_ z2_ z3_ z4_ z5_ z6_ u0_; have n0_ := ak_ (below_step (by repeat (first | (with_reducible first | exact HB.out | apply below_alloc | apply pw_below_drewN | apply below_drew1) | exact HB.out)) hb); have n2_ := ak_ (blk_below (g := g2) (o := .cells #[.int .i64 a0_0, .int .i64 a0_1, .int .i64 a0_2, .int .i64 a0_3, .int .i64 a0_4, .int .i64 a0_5, .int .i64 a0_6] 23 (0, 0)) (by (with_reducible repeat (first | apply blk_drewN | apply blk_drew | apply blk_alloc)); exact BK2.out) hb); have n3_ := ak_ (blk_below (g := g3) (o := .cells #[.slice A1 l1.length c1] 39 (0, 0)) (by (with_reducible repeat (first | apply blk_drewN | apply blk_drew | apply blk_alloc)); exact BK3.out) hb); have n4_ := ak_ (blk_below (g := g4) (o := .cells #[.slice none 0 0, .int .i64 0, .int .i64 0, .int .i64 0, .int .i64 0, .int .i64 0] 42 (0, 0)) (by (with_reducible repeat (first | apply blk_drewN | apply blk_drew | apply blk_alloc)); exact BK4.out) hb); clear HB BK2 BK3 BK4; have HB := n0_; have BK2 := n2_; have BK3 := n3_; have BK4 := n4_; clear n0_ n2_ n3_ n4_ hb; have z0_ : w5.cell? ⟨g2, 0, none⟩ = some (.int .i64 a0_0) := (blk_cell BK2.out 0).trans rfl; have z1_ : w5.cell? ⟨g2, 1, none⟩ = some (.int .i64 a0_1) := (blk_cell BK2.out 1).trans rfl; have z2_ : w5.cell? ⟨g2, 2, none⟩ = some (.int .i64 a0_2) := (blk_cell BK2.out 2).trans rfl; have z3_ : w5.cell? ⟨g2, 3, none⟩ = some (.int .i64 a0_3) := (blk_cell BK2.out 3).trans rfl; have z4_ : w5.cell? ⟨g2, 4, none⟩ = some (.int .i64 a0_4) := (blk_cell BK2.out 4).trans rfl; have z5_ : w5.cell? ⟨g2, 5, none⟩ = some (.int .i64 a0_5) := (blk_cell BK2.out 5).trans rfl; have z6_ : w5.cell? ⟨g2, 6, none⟩ = some (.int .i64 a0_6) := (blk_cell BK2.out 6).trans rfl; have u0_ : w5.cell? ⟨g3, 0, none⟩ = some (.slice A1 l1.length c1) := (blk_cell BK3.out 0).trans rfl; have y0_ := blk_cell BK4.out 0; have yf0_ := blk_frozen BK4.out 0; have y1_ := blk_cell BK4.out 1; have yf1_ := blk_frozen BK4.out 1; have y2_ := blk_cell BK4.out 2; have yf2_ := blk_frozen BK4.out 2; have y3_ := blk_cell BK4.out 3; have yf3_ := blk_frozen BK4.out 3; have y4_ := blk_cell BK4.out 4; have yf4_ := blk_frozen BK4.out 4; have y5_ := blk_cell BK4.out 5; have yf5_ := blk_frozen BK4.out 5))
   obtain ⟨rfl, rfl, rfl, rfl, rfl, rfl, rfl, rfl⟩ : [] = r1 ∧ 0 = r2 ∧ 0 = r3 ∧ 0 = r4 ∧ 0 = r5 ∧ 0 = r6 ∧ 0 = r7 ∧ 2 = r8 := by simpa using HE.out
   refine bodyPost_ret (results_list (rs := [.cell 4 42, .tmp 5, .tmp 6]) rfl (by simp) (.cell g4 42 #[.slice none 0 0, .int .i64 0, .int .i64 0, .int .i64 0, .int .i64 0, .int .i64 0] (0, 0) _ rfl (ladder_Climb_put6 BK4.out _ _ _ _ _ _) Try.underlying42 rfl (by kernel_rfl) (.tmp (.tmp .nil)))) rfl ?_
   exact ⟨_, rfl, Kd.R_nil _ _ _ _ _, ladder_Climb_below6 HB.out GE4.out _ _ _ _ _ _⟩
  ·rw [if_neg hn] at h2
   obtain ⟨ad, rfl, _⟩ := HCC.out.2.2 (by omega)
   have n0_ : ((l1.length : Int) == 0) = false := beq_eq_false_iff_ne.2 (by omega)
   have n1_ : (l1.length == 0) = false := beq_eq_false_iff_ne.2 hn
   by_cases hg : (l1.length : Int) > a0_5
   ·rw [if_pos hg] at h2
    have HE := ak_ (Option.some.inj h2)
    clear h2
    have m0_ : decide ((l1.length : Int) > a0_5) = true := decide_eq_true hg
    have m1_ : decide (a0_5 < (l1.length : Int)) = true := decide_eq_true hg
    go_enter Try.func24, Try.ntmps24
    go_wp2_with (first | ((with_reducible refine gate_dst (N := 2) rfl ?_); (try (refine gate_guard (by rfl) ?_; dsimp only)); refine box_event ?hg (N := 2) ?hd (cs := #[.int .i64 a0_0, .int .i64 a0_1, .int .i64 a0_2, .int .i64 a0_3, .int .i64 a0_4, .int .i64 a0_5, .int .i64 a0_6]) (t := 23) ?hr ?_; (case hd => rfl); (case hg => rfl); (case hr => (go_simp; done)); intro g2 hg w1 hbox hb; have GE2 := ak_ ((by rw [hg]; exact (below_size HB.out)) : w.heap.size ≤ g2); have n0_ := ak_ (below_step HB.out hb); clear HB hb; have HB := n0_; clear n0_; have BK2 := ak_ hbox; clear hbox hg) | ((with_reducible refine gate_dst (N := 3) rfl ?_); (try (refine gate_guard (by rfl) ?_; dsimp only)); refine box_event ?hg (N := 3) ?hd (cs := #[.slice (some ad) l1.length c1]) (t := 39) ?hr ?_; (case hd => rfl); (case hg => rfl); (case hr => (go_simp; done)); intro g3 hg w2 hbox hb; have GE3 := ak_ ((by rw [hg]; exact (below_size HB.out)) : w.heap.size ≤ g3); have n0_ := ak_ (below_step HB.out hb); have n2_ := ak_ (blk_below BK2.out hb); clear HB BK2; have HB := n0_; have BK2 := n2_; clear n0_ n2_ hb; have BK3 := ak_ hbox; clear hbox hg) | ((with_reducible refine gate_dst (N := 4) rfl ?_); (try (refine gate_guard (by rfl) ?_; dsimp only)); refine box_event ?hg (N := 4) ?hd (cs := #[.slice none 0 0, .int .i64 0, .int .i64 0, .int .i64 0, .int .i64 0, .int .i64 0]) (t := 42) ?hr ?_; (case hd => rfl); (case hg => rfl); (case hr => (go_simp; done)); intro g4 hg w3 hbox hb; have GE4 := ak_ ((by rw [hg]; exact (below_size HB.out)) : w.heap.size ≤ g4); have n0_ := ak_ (below_step HB.out hb); have n2_ := ak_ (blk_below BK2.out hb); have n3_ := ak_ (blk_below BK3.out hb); clear HB BK2 BK3; have HB := n0_; have BK2 := n2_; have BK3 := n3_; clear n0_ n2_ n3_ hb; have BK4 := ak_ hbox; clear hbox hg; have z0_ : w3.cell? ⟨g2, 0, none⟩ = some (.int .i64 a0_0) := (blk_cell BK2.out 0).trans rfl; have z1_ : w3.cell? ⟨g2, 1, none⟩ = some (.int .i64 a0_1) := (blk_cell BK2.out 1).trans rfl; have z2_ : w3.cell? ⟨g2, 2, none⟩ = some (.int .i64 a0_2) := (blk_cell BK2.out 2).trans rfl; have z3_ : w3.cell? ⟨g2, 3, none⟩ = some (.int .i64 a0_3) := (blk_cell BK2.out 3).trans rfl; have z4_ : w3.cell? ⟨g2, 4, none⟩ = some (.int .i64 a0_4) := (blk_cell BK2.out 4).trans rfl; have z5_ : w3.cell? ⟨g2, 5, none⟩ = some (.int .i64 a0_5) := (blk_cell BK2.out 5).trans rfl; have z6_ : w3.cell? ⟨g2, 6, none⟩ = some (.int .i64 a0_6) := (blk_cell BK2.out 6).trans rfl; have u0_ : w3.cell? ⟨g3, 0, none⟩ = some (.slice (some ad) l1.length c1) := (blk_cell BK3.out 0).trans rfl) | ((with_reducible refine gate_callee (f := 35) rfl ?_); refine goesL_ (some 10) rfl rfl Try.func35 (by kernel_rfl) rfl #[.agg #[.int .i64 a0_0, .int .i64 a0_1, .int .i64 a0_2, .int .i64 a0_3, .int .i64 a0_4, .int .i64 a0_5, .int .i64 a0_6]] rfl (by (try simp only [List.map_toArray, List.map_cons, List.map_nil]); first | done | rfl) ?_; (with_reducible refine (geom_Check.calls a0_0 a0_1 a0_2 a0_3 a0_4 a0_5 a0_6 0 _ HCHK.out).mono ?_); rintro e w5 ⟨rfl, hb⟩; refine ⟨_, rfl, ?_⟩; clear z0_ z1_ z2_ z3_ z4_ z5_ z6_ u0_; have n0_ := ak_ (below_step HB.out hb); have n2_ := ak_ (blk_below BK2.out hb); have n3_ := ak_ (blk_below BK3.out hb); have n4_ := ak_ (blk_below BK4.out hb); clear HB BK2 BK3 BK4; have HB := n0_; have BK2 := n2_; have BK3 := n3_; have BK4 := n4_; clear n0_ n2_ n3_ n4_ hb; have z0_ : w5.cell? ⟨g2, 0, none⟩ = some (.int .i64 a0_0) := (blk_cell BK2.out 0).trans rfl; have z1_ : w5.cell? ⟨g2, 1, none⟩ = some (.int .i64 a0_1) := (blk_cell BK2.out 1).trans rfl; have z2_ : w5.cell? ⟨g2, 2, none⟩ = some (.int .i64 a0_2) := (blk_cell BK2.out 2).trans rfl; have z3_ : w5.cell? ⟨g2, 3, none⟩ = some (.int .i64 a0_3) := (blk_cell BK2.out 3).trans rfl; have z4_ : w5.cell? ⟨g2, 4, none⟩ = some (.int .i64 a0_4) := (blk_cell BK2.out 4).trans rfl; have z5_ : w5.cell? ⟨g2, 5, none⟩ = some (.int .i64 a0_5) := (blk_cell BK2.out 5).trans rfl; have z6_ : w5.cell? ⟨g2, 6, none⟩ = some (.int .i64 a0_6) := (blk_cell BK2.out 6).trans rfl; have u0_ : w5.cell? ⟨g3, 0, none⟩ = some (.slice (some ad) l1.length c1) := (blk_cell BK3.out 0).trans rfl; have y0_ := blk_cell BK4.out 0; have yf0_ := blk_frozen BK4.out 0; have y1_ := blk_cell BK4.out 1; have yf1_ := blk_frozen BK4.out 1; have y2_ := blk_cell BK4.out 2; have yf2_ := blk_frozen BK4.out 2; have y3_ := blk_cell BK4.out 3; have yf3_ := blk_frozen BK4.out 3; have y4_ := blk_cell BK4.out 4; have yf4_ := blk_frozen BK4.out 4; have y5_ := blk_cell BK4.out 5; have yf5_ := blk_frozen BK4.out 5) | (go_at_call 35; (with_reducible refine (geom_Check.calls a0_0 a0_1 a0_2 a0_3 a0_4 a0_5 a0_6 0 _ HCHK.out).mono ?_); rintro e w5 ⟨rfl, hb⟩; clear z0_ z1_ z2_ z3_ z4_ z5_ z6_ u0_; have n0_ := ak_ (below_step (by repeat (first | (with_reducible first | exact HB.out | apply below_alloc | apply pw_below_drewN | apply below_drew1) | exact HB.out)) hb); have n2_ := ak_ (blk_below (g := g2) (o := .cells #[.int .i64 a0_0, .int .i64 a0_1, .int .i64 a0_2, .int .i64 a0_3, .int .i64 a0_4, .int .i64 a0_5, .int .i64 a0_6] 23 (0, 0)) (by (with_reducible repeat (first | apply blk_drewN | apply blk_drew | apply blk_alloc)); exact BK2.out) hb); have n3_ := ak_ (blk_below (g := g3) (o := .cells #[.slice (some ad) l1.length c1] 39 (0, 0)) (by (with_reducible repeat (first | apply blk_drewN | apply blk_drew | apply blk_alloc)); exact BK3.out) hb); have n4_ := ak_ (blk_below (g := g4) (o := .cells #[.slice none 0 0, .int .i64 0, .int .i64 0, .int .i64 0, .int .i64 0, .int .i64 0] 42 (0, 0)) (by (with_reducible repeat (first | apply blk_drewN | apply blk_drew | apply blk_alloc)); exact BK4.out) hb); clear HB BK2 BK3 BK4; have HB := n0_; have BK2 := n2_; have BK3 := n3_; have BK4 := n4_; clear n0_ n2_ n3_ n4_ hb; have z0_ : w5.cell? ⟨g2, 0, none⟩ = some (.int .i64 a0_0) := (blk_cell BK2.out 0).trans rfl; have z1_ : w5.cell? ⟨g2, 1, none⟩ = some (.int .i64 a0_1) := (blk_cell BK2.out 1).trans rfl; have z2_ : w5.cell? ⟨g2, 2, none⟩ = some (.int .i64 a0_2) := (blk_cell BK2.out 2).trans rfl; have z3_ : w5.cell? ⟨g2, 3, none⟩ = some (.int .i64 a0_3) := (blk_cell BK2.out 3).trans rfl; have z4_ : w5.cell? ⟨g2, 4, none⟩ = some (.int .i64 a0_4) := (blk_cell BK2.out 4).trans rfl; have z5_ : w5.cell? ⟨g2, 5, none⟩ = some (.int .i64 a0_5) := (blk_cell BK2.out 5).trans rfl; have z6_ : w5.cell? ⟨g2, 6, none⟩ = some (.int .i64 a0_6) := (blk_cell BK2.out 6).trans rfl; have u0_ : w5.cell? ⟨g3, 0, none⟩ = some (.slice (some ad) l1.length c1) := (blk_cell BK3.out 0).trans rfl; have y0_ := blk_cell BK4.out 0; have yf0_ := blk_frozen BK4.out 0; have y1_ := blk_cell BK4.out 1; have yf1_ := blk_frozen BK4.out 1; have y2_ := blk_cell BK4.out 2; have yf2_ := blk_frozen BK4.out 2; have y3_ := blk_cell BK4.out 3; have yf3_ := blk_frozen BK4.out 3; have y4_ := blk_cell BK4.out 4; have yf4_ := blk_frozen BK4.out 4; have y5_ := blk_cell BK4.out 5; have yf5_ := blk_frozen BK4.out 5))
    obtain ⟨rfl, rfl, rfl, rfl, rfl, rfl, rfl, rfl⟩ : [] = r1 ∧ 0 = r2 ∧ 0 = r3 ∧ 0 = r4 ∧ 0 = r5 ∧ 0 = r6 ∧ 0 = r7 ∧ 2 = r8 := by simpa using HE.out
    refine bodyPost_ret (results_list (rs := [.cell 4 42, .tmp 5, .tmp 6]) rfl (by simp) (.cell g4 42 #[.slice none 0 0, .int .i64 0, .int .i64 0, .int .i64 0, .int .i64 0, .int .i64 0] (0, 0) _ rfl (ladder_Climb_put6 BK4.out _ _ _ _ _ _) Try.underlying42 rfl (by kernel_rfl) (.tmp (.tmp .nil)))) rfl ?_
    exact ⟨_, rfl, Kd.R_nil _ _ _ _ _, ladder_Climb_below6 HB.out GE4.out _ _ _ _ _ _⟩
   ·rw [if_neg hg] at h2
    have m0_ : decide ((l1.length : Int) > a0_5) = false := decide_eq_false hg
    have m1_ : decide (a0_5 < (l1.length : Int)) = false := decide_eq_false hg
    obtain ⟨q, hraw, h3⟩ := Option.bind_eq_some_iff.1 h2
    clear h2
    have HRAW := ak_ hraw
    have HE := ak_ h3
    clear hraw h3
    go_enter Try.func24, Try.ntmps24
    go_wp2_with (first | ((with_reducible refine gate_dst (N := 2) rfl ?_); (try (refine gate_guard (by rfl) ?_; dsimp only)); refine box_event ?hg (N := 2) ?hd (cs := #[.int .i64 a0_0, .int .i64 a0_1, .int .i64 a0_2, .int .i64 a0_3, .int .i64 a0_4, .int .i64 a0_5, .int .i64 a0_6]) (t := 23) ?hr ?_; (case hd => rfl); (case hg => rfl); (case hr => (go_simp; done)); intro g2 hg w1 hbox hb; have GE2 := ak_ ((by rw [hg]; exact (below_size HB.out)) : w.heap.size ≤ g2); have n0_ := ak_ (below_step HB.out hb); clear HB hb; have HB := n0_; clear n0_; have BK2 := ak_ hbox; clear hbox hg) | ((with_reducible refine gate_dst (N := 3) rfl ?_); (try (refine gate_guard (by rfl) ?_; dsimp only)); refine box_event ?hg (N := 3) ?hd (cs := #[.slice (some ad) l1.length c1]) (t := 39) ?hr ?_; (case hd => rfl); (case hg => rfl); (case hr => (go_simp; done)); intro g3 hg w2 hbox hb; have GE3 := ak_ ((by rw [hg]; exact (below_size HB.out)) : w.heap.size ≤ g3); have n0_ := ak_ (below_step HB.out hb); have n2_ := ak_ (blk_below BK2.out hb); clear HB BK2; have HB := n0_; have BK2 := n2_; clear n0_ n2_ hb; have BK3 := ak_ hbox; clear hbox hg) | ((with_reducible refine gate_dst (N := 4) rfl ?_); (try (refine gate_guard (by rfl) ?_; dsimp only)); refine box_event ?hg (N := 4) ?hd (cs := #[.slice none 0 0, .int .i64 0, .int .i64 0, .int .i64 0, .int .i64 0, .int .i64 0]) (t := 42) ?hr ?_; (case hd => rfl); (case hg => rfl); (case hr => (go_simp; done)); intro g4 hg w3 hbox hb; have GE4 := ak_ ((by rw [hg]; exact (below_size HB.out)) : w.heap.size ≤ g4); have n0_ := ak_ (below_step HB.out hb); have n2_ := ak_ (blk_below BK2.out hb); have n3_ := ak_ (blk_below BK3.out hb); clear HB BK2 BK3; have HB := n0_; have BK2 := n2_; have BK3 := n3_; clear n0_ n2_ n3_ hb; have BK4 := ak_ hbox; clear hbox hg; have z0_ : w3.cell? ⟨g2, 0, none⟩ = some (.int .i64 a0_0) := (blk_cell BK2.out 0).trans rfl; have z1_ : w3.cell? ⟨g2, 1, none⟩ = some (.int .i64 a0_1) := (blk_cell BK2.out 1).trans rfl; have z2_ : w3.cell? ⟨g2, 2, none⟩ = some (.int .i64 a0_2) := (blk_cell BK2.out 2).trans rfl; have z3_ : w3.cell? ⟨g2, 3, none⟩ = some (.int .i64 a0_3) := (blk_cell BK2.out 3).trans rfl; have z4_ : w3.cell? ⟨g2, 4, none⟩ = some (.int .i64 a0_4) := (blk_cell BK2.out 4).trans rfl; have z5_ : w3.cell? ⟨g2, 5, none⟩ = some (.int .i64 a0_5) := (blk_cell BK2.out 5).trans rfl; have z6_ : w3.cell? ⟨g2, 6, none⟩ = some (.int .i64 a0_6) := (blk_cell BK2.out 6).trans rfl; have u0_ : w3.cell? ⟨g3, 0, none⟩ = some (.slice (some ad) l1.length c1) := (blk_cell BK3.out 0).trans rfl) | ((with_reducible refine gate_callee (f := 35) rfl ?_); refine goesL_ (some 10) rfl rfl Try.func35 (by kernel_rfl) rfl #[.agg #[.int .i64 a0_0, .int .i64 a0_1, .int .i64 a0_2, .int .i64 a0_3, .int .i64 a0_4, .int .i64 a0_5, .int .i64 a0_6]] rfl (by (try simp only [List.map_toArray, List.map_cons, List.map_nil]); first | done | rfl) ?_; (with_reducible refine (geom_Check.calls a0_0 a0_1 a0_2 a0_3 a0_4 a0_5 a0_6 0 _ HCHK.out).mono ?_); rintro e w5 ⟨rfl, hb⟩; refine ⟨_, rfl, ?_⟩; clear z0_ z1_ z2_ z3_ z4_ z5_ z6_ u0_; have n0_ := ak_ (below_step HB.out hb); have n2_ := ak_ (blk_below BK2.out hb); have n3_ := ak_ (blk_below BK3.out hb); have n4_ := ak_ (blk_below BK4.out hb); clear HB BK2 BK3 BK4; have HB := n0_; have BK2 := n2_; have BK3 := n3_; have BK4 := n4_; clear n0_ n2_ n3_ n4_ hb; have z0_ : w5.cell? ⟨g2, 0, none⟩ = some (.int .i64 a0_0) := (blk_cell BK2.out 0).trans rfl; have z1_ : w5.cell? ⟨g2, 1, none⟩ = some (.int .i64 a0_1) := (blk_cell BK2.out 1).trans rfl; have z2_ : w5.cell? ⟨g2, 2, none⟩ = some (.int .i64 a0_2) := (blk_cell BK2.out 2).trans rfl; have z3_ : w5.cell? ⟨g2, 3, none⟩ = some (.int .i64 a0_3) := (blk_cell BK2.out 3).trans rfl; have z4_ : w5.cell? ⟨g2, 4, none⟩ = some (.int .i64 a0_4) := (blk_cell BK2.out 4).trans rfl; have z5_ : w5.cell? ⟨g2, 5, none⟩ = some (.int .i64 a0_5) := (blk_cell BK2.out 5).trans rfl; have z6_ : w5.cell? ⟨g2, 6, none⟩ = some (.int .i64 a0_6) := (blk_cell BK2.out 6).trans rfl; have u0_ : w5.cell? ⟨g3, 0, none⟩ = some (.slice (some ad) l1.length c1) := (blk_cell BK3.out 0).trans rfl; have y0_ := blk_cell BK4.out 0; have yf0_ := blk_frozen BK4.out 0; have y1_ := blk_cell BK4.out 1; have yf1_ := blk_frozen BK4.out 1; have y2_ := blk_cell BK4.out 2; have yf2_ := blk_frozen BK4.out 2; have y3_ := blk_cell BK4.out 3; have yf3_ := blk_frozen BK4.out 3; have y4_ := blk_cell BK4.out 4; have yf4_ := blk_frozen BK4.out 4; have y5_ := blk_cell BK4.out 5; have yf5_ := blk_frozen BK4.out 5) | (go_at_call 35; (with_reducible refine (geom_Check.calls a0_0 a0_1 a0_2 a0_3 a0_4 a0_5 a0_6 0 _ HCHK.out).mono ?_); rintro e w5 ⟨rfl, hb⟩; clear z0_ z1_ z2_ z3_ z4_ z5_ z6_ u0_; have n0_ := ak_ (below_step (by repeat (first | (with_reducible first | exact HB.out | apply below_alloc | apply pw_below_drewN | apply below_drew1) | exact HB.out)) hb); have n2_ := ak_ (blk_below (g := g2) (o := .cells #[.int .i64 a0_0, .int .i64 a0_1, .int .i64 a0_2, .int .i64 a0_3, .int .i64 a0_4, .int .i64 a0_5, .int .i64 a0_6] 23 (0, 0)) (by (with_reducible repeat (first | apply blk_drewN | apply blk_drew | apply blk_alloc)); exact BK2.out) hb); have n3_ := ak_ (blk_below (g := g3) (o := .cells #[.slice (some ad) l1.length c1] 39 (0, 0)) (by (with_reducible repeat (first | apply blk_drewN | apply blk_drew | apply blk_alloc)); exact BK3.out) hb); have n4_ := ak_ (blk_below (g := g4) (o := .cells #[.slice none 0 0, .int .i64 0, .int .i64 0, .int .i64 0, .int .i64 0, .int .i64 0] 42 (0, 0)) (by (with_reducible repeat (first | apply blk_drewN | apply blk_drew | apply blk_alloc)); exact BK4.out) hb); clear HB BK2 BK3 BK4; have HB := n0_; have BK2 := n2_; have BK3 := n3_; have BK4 := n4_; clear n0_ n2_ n3_ n4_ hb; have z0_ : w5.cell? ⟨g2, 0, none⟩ = some (.int .i64 a0_0) := (blk_cell BK2.out 0).trans rfl; have z1_ : w5.cell? ⟨g2, 1, none⟩ = some (.int .i64 a0_1) := (blk_cell BK2.out 1).trans rfl; have z2_ : w5.cell? ⟨g2, 2, none⟩ = some (.int .i64 a0_2) := (blk_cell BK2.out 2).trans rfl; have z3_ : w5.cell? ⟨g2, 3, none⟩ = some (.int .i64 a0_3) := (blk_cell BK2.out 3).trans rfl; have z4_ : w5.cell? ⟨g2, 4, none⟩ = some (.int .i64 a0_4) := (blk_cell BK2.out 4).trans rfl; have z5_ : w5.cell? ⟨g2, 5, none⟩ = some (.int .i64 a0_5) := (blk_cell BK2.out 5).trans rfl; have z6_ : w5.cell? ⟨g2, 6, none⟩ = some (.int .i64 a0_6) := (blk_cell BK2.out 6).trans rfl; have u0_ : w5.cell? ⟨g3, 0, none⟩ = some (.slice (some ad) l1.length c1) := (blk_cell BK3.out 0).trans rfl; have y0_ := blk_cell BK4.out 0; have yf0_ := blk_frozen BK4.out 0; have y1_ := blk_cell BK4.out 1; have yf1_ := blk_frozen BK4.out 1; have y2_ := blk_cell BK4.out 2; have yf2_ := blk_frozen BK4.out 2; have y3_ := blk_cell BK4.out 3; have yf3_ := blk_frozen BK4.out 3; have y4_ := blk_cell BK4.out 4; have yf4_ := blk_frozen BK4.out 4; have y5_ := blk_cell BK4.out 5; have yf5_ := blk_frozen BK4.out 5))
    clear n0_ n1_ m0_ m1_ hg y0_ y1_ y2_ y3_ y4_ y5_ yf0_ yf1_ yf2_ yf3_ yf4_ yf5_ z0_ z1_ z2_ z3_ z4_ z5_ z6_ u0_
    go_loopw [27] (fun v27 wr => ∃ n : Nat, v27 = .int .i64 (n : Int) ∧ n ≤ l1.length ∧ Aside0 (l1.all (fun l => decide ((l.length : Int) = q)) = (l1.drop n).all (fun l => decide ((l.length : Int) = q))) ∧ Aside0 (wr.heap[g2]? = some (.cells #[.int .i64 a0_0, .int .i64 a0_1, .int .i64 a0_2, .int .i64 a0_3, .int .i64 a0_4, .int .i64 a0_5, .int .i64 a0_6] 23 (0, 0))) ∧ Aside0 (wr.heap[g3]? = some (.cells #[.slice (some ad) l1.length c1] 39 (0, 0))) ∧ Aside0 (wr.heap[g4]? = some (.cells #[.slice none 0 0, .int .i64 0, .int .i64 0, .int .i64 0, .int .i64 0, .int .i64 0] 42 (0, 0))) ∧ Aside0 (Below w.heap.size w wr)) (fun v27 _ => match v27 with | .int _ n => l1.length - n.toNat | _ => 0)
    case atStart => exact ⟨0, rfl, Nat.zero_le _, ⟨rfl⟩, ⟨BK2.out⟩, ⟨BK3.out⟩, ⟨BK4.out⟩, ⟨HB.out⟩⟩
    case round =>
     clear BK2 BK3 BK4 HB
     obtain ⟨n, rfl, hnl, HALL, BK2, BK3, BK4, HB⟩ := hrel
     have hmax := HCC.out.2.1
     unfold maxLen at hmax
     have HMX := ak_ hmax
     clear hmax
     by_cases hlt : n < l1.length
     ·obtain ⟨ad', A', c', hA, hx, hl, hC⟩ := ladder_Climb_at HCC.out (n : Int) (by omega) (by omega)
      obtain rfl : ad = ad' := Option.some.inj hA
      have hgn : l1.getD n [] = l1[n] := by simp [hlt]
      rw [Int.toNat_natCast, hgn] at hx
      have hw : wrap64 ((n : Int) + 1) = ((n + 1 : Nat) : Int) := by
       have := HMX.out
       unfold wrap64
       omega
      have hdrop : ∀ P : List Int → Bool, (l1.drop n).all P = (P l1[n] && (l1.drop (n + 1)).all P) := fun P => by rw [List.drop_eq_getElem_cons hlt, List.all_cons]
      have HDROP := ak_ hdrop
      clear hA hl hC hdrop hgn
      obtain ⟨pc, hpc⟩ : ∃ pc, l1[n] = pc := ⟨_, rfl⟩
      rw [hpc] at hx HDROP
      have cx_ : wr.cell? (ad.add n) = some (.slice A' pc.length c') := (HB.out.cell (World.block_lt_of_cell? w _ hx)).trans hx
      clear hx hpc
      have d1_ : decide ((n : Int) < (l1.length : Int)) = true := decide_eq_true (by omega)
      have d2_ : decide (n < l1.length) = true := decide_eq_true hlt
      have d3_ : ((n : Int) < (l1.length : Int)) = True := eq_true (by omega)
      have d4_ : (n < l1.length) = True := eq_true hlt
      have z0_ : wr.cell? ⟨g2, 0, none⟩ = some (.int .i64 a0_0) := (blk_cell BK2.out 0).trans rfl; have z1_ : wr.cell? ⟨g2, 1, none⟩ = some (.int .i64 a0_1) := (blk_cell BK2.out 1).trans rfl; have z2_ : wr.cell? ⟨g2, 2, none⟩ = some (.int .i64 a0_2) := (blk_cell BK2.out 2).trans rfl; have z3_ : wr.cell? ⟨g2, 3, none⟩ = some (.int .i64 a0_3) := (blk_cell BK2.out 3).trans rfl; have z4_ : wr.cell? ⟨g2, 4, none⟩ = some (.int .i64 a0_4) := (blk_cell BK2.out 4).trans rfl; have z5_ : wr.cell? ⟨g2, 5, none⟩ = some (.int .i64 a0_5) := (blk_cell BK2.out 5).trans rfl; have z6_ : wr.cell? ⟨g2, 6, none⟩ = some (.int .i64 a0_6) := (blk_cell BK2.out 6).trans rfl; have u0_ : wr.cell? ⟨g3, 0, none⟩ = some (.slice (some ad) l1.length c1) := (blk_cell BK3.out 0).trans rfl; have y0_ := blk_cell BK4.out 0; have yf0_ := blk_frozen BK4.out 0; have y1_ := blk_cell BK4.out 1; have yf1_ := blk_frozen BK4.out 1; have y2_ := blk_cell BK4.out 2; have yf2_ := blk_frozen BK4.out 2; have y3_ := blk_cell BK4.out 3; have yf3_ := blk_frozen BK4.out 3; have y4_ := blk_cell BK4.out 4; have yf4_ := blk_frozen BK4.out 4; have y5_ := blk_cell BK4.out 5; have yf5_ := blk_frozen BK4.out 5
      by_cases hq : (pc.length : Int) = q
      ·have f0_ : ((pc.length : Int) != q) = false := bne_eq_false_iff_eq.2 hq
       have f1_ : ((pc.length : Int) == q) = true := beq_iff_eq.2 hq
       have HQ := ak_ hq
       clear hq
       go_wp2_with (first | ((with_reducible refine gate_callee (f := 16) rfl ?_); refine goesL_ (some 34) rfl rfl Try.func16 (by kernel_rfl) rfl #[.agg #[.int .i64 a0_0, .int .i64 a0_1, .int .i64 a0_2, .int .i64 a0_3, .int .i64 a0_4, .int .i64 a0_5, .int .i64 a0_6]] rfl (by (try simp only [List.map_toArray, List.map_cons, List.map_nil]); first | done | rfl) ?_; (with_reducible refine (geom_Raw.calls a0_0 a0_1 a0_2 a0_3 a0_4 a0_5 a0_6 q _ HRAW.out).mono ?_); rintro e w5 ⟨rfl, hb⟩; refine ⟨_, rfl, ?_⟩; clear z0_ z1_ z2_ z3_ z4_ z5_ z6_ u0_; have n0_ := ak_ (below_step HB.out hb); have n2_ := ak_ (blk_below BK2.out hb); have n3_ := ak_ (blk_below BK3.out hb); have n4_ := ak_ (blk_below BK4.out hb); clear HB BK2 BK3 BK4; have HB := n0_; have BK2 := n2_; have BK3 := n3_; have BK4 := n4_; clear n0_ n2_ n3_ n4_ hb; have y0_ := blk_cell BK4.out 0; have yf0_ := blk_frozen BK4.out 0; have y1_ := blk_cell BK4.out 1; have yf1_ := blk_frozen BK4.out 1; have y2_ := blk_cell BK4.out 2; have yf2_ := blk_frozen BK4.out 2; have y3_ := blk_cell BK4.out 3; have yf3_ := blk_frozen BK4.out 3; have y4_ := blk_cell BK4.out 4; have yf4_ := blk_frozen BK4.out 4; have y5_ := blk_cell BK4.out 5; have yf5_ := blk_frozen BK4.out 5) | (go_at_call 16; (with_reducible refine (geom_Raw.calls a0_0 a0_1 a0_2 a0_3 a0_4 a0_5 a0_6 q _ HRAW.out).mono ?_); rintro e w5 ⟨rfl, hb⟩; clear z0_ z1_ z2_ z3_ z4_ z5_ z6_ u0_; have n0_ := ak_ (below_step (by repeat (first | (with_reducible first | exact HB.out | apply below_alloc | apply pw_below_drewN | apply below_drew1) | exact HB.out)) hb); have n2_ := ak_ (blk_below (g := g2) (o := .cells #[.int .i64 a0_0, .int .i64 a0_1, .int .i64 a0_2, .int .i64 a0_3, .int .i64 a0_4, .int .i64 a0_5, .int .i64 a0_6] 23 (0, 0)) (by (with_reducible repeat (first | apply blk_drewN | apply blk_drew | apply blk_alloc)); exact BK2.out) hb); have n3_ := ak_ (blk_below (g := g3) (o := .cells #[.slice (some ad) l1.length c1] 39 (0, 0)) (by (with_reducible repeat (first | apply blk_drewN | apply blk_drew | apply blk_alloc)); exact BK3.out) hb); have n4_ := ak_ (blk_below (g := g4) (o := .cells #[.slice none 0 0, .int .i64 0, .int .i64 0, .int .i64 0, .int .i64 0, .int .i64 0] 42 (0, 0)) (by (with_reducible repeat (first | apply blk_drewN | apply blk_drew | apply blk_alloc)); exact BK4.out) hb); clear HB BK2 BK3 BK4; have HB := n0_; have BK2 := n2_; have BK3 := n3_; have BK4 := n4_; clear n0_ n2_ n3_ n4_ hb; have y0_ := blk_cell BK4.out 0; have yf0_ := blk_frozen BK4.out 0; have y1_ := blk_cell BK4.out 1; have yf1_ := blk_frozen BK4.out 1; have y2_ := blk_cell BK4.out 2; have yf2_ := blk_frozen BK4.out 2; have y3_ := blk_cell BK4.out 3; have yf3_ := blk_frozen BK4.out 3; have y4_ := blk_cell BK4.out 4; have yf4_ := blk_frozen BK4.out 4; have y5_ := blk_cell BK4.out 5; have yf5_ := blk_frozen BK4.out 5))
       go_roundw
       case rel => exact ⟨n + 1, (by first | rfl | rw [hw] | simp [hw]), hlt, ⟨HALL.out.trans ((HDROP.out _).trans (by rw [decide_eq_true HQ.out, Bool.true_and]))⟩, ⟨BK2.out⟩, ⟨BK3.out⟩, ⟨BK4.out⟩, ⟨HB.out⟩⟩
       case measure => (show l1.length - (wrap64 ((n : Int) + 1)).toNat < l1.length - ((n : Int)).toNat; rw [hw]; omega)
      ·have f0_ : ((pc.length : Int) != q) = true := bne_iff_ne.2 hq
       have f1_ : ((pc.length : Int) == q) = false := beq_eq_false_iff_ne.2 hq
       have hall : (l1.all fun l => decide ((l.length : Int) = q)) = false := HALL.out.trans ((HDROP.out _).trans (by rw [decide_eq_false hq, Bool.false_and]))
       have HE2 := HE.out
       rw [hall, if_neg (by decide)] at HE2
       clear HE hq
       have HE := ak_ (Option.some.inj HE2)
       clear HE2 hall
       go_wp2_with (first | ((with_reducible refine gate_callee (f := 16) rfl ?_); refine goesL_ (some 34) rfl rfl Try.func16 (by kernel_rfl) rfl #[.agg #[.int .i64 a0_0, .int .i64 a0_1, .int .i64 a0_2, .int .i64 a0_3, .int .i64 a0_4, .int .i64 a0_5, .int .i64 a0_6]] rfl (by (try simp only [List.map_toArray, List.map_cons, List.map_nil]); first | done | rfl) ?_; (with_reducible refine (geom_Raw.calls a0_0 a0_1 a0_2 a0_3 a0_4 a0_5 a0_6 q _ HRAW.out).mono ?_); rintro e w5 ⟨rfl, hb⟩; refine ⟨_, rfl, ?_⟩; clear z0_ z1_ z2_ z3_ z4_ z5_ z6_ u0_; have n0_ := ak_ (below_step HB.out hb); have n2_ := ak_ (blk_below BK2.out hb); have n3_ := ak_ (blk_below BK3.out hb); have n4_ := ak_ (blk_below BK4.out hb); clear HB BK2 BK3 BK4; have HB := n0_; have BK2 := n2_; have BK3 := n3_; have BK4 := n4_; clear n0_ n2_ n3_ n4_ hb; have y0_ := blk_cell BK4.out 0; have yf0_ := blk_frozen BK4.out 0; have y1_ := blk_cell BK4.out 1; have yf1_ := blk_frozen BK4.out 1; have y2_ := blk_cell BK4.out 2; have yf2_ := blk_frozen BK4.out 2; have y3_ := blk_cell BK4.out 3; have yf3_ := blk_frozen BK4.out 3; have y4_ := blk_cell BK4.out 4; have yf4_ := blk_frozen BK4.out 4; have y5_ := blk_cell BK4.out 5; have yf5_ := blk_frozen BK4.out 5) | (go_at_call 16; (with_reducible refine (geom_Raw.calls a0_0 a0_1 a0_2 a0_3 a0_4 a0_5 a0_6 q _ HRAW.out).mono ?_); rintro e w5 ⟨rfl, hb⟩; clear z0_ z1_ z2_ z3_ z4_ z5_ z6_ u0_; have n0_ := ak_ (below_step (by repeat (first | (with_reducible first | exact HB.out | apply below_alloc | apply pw_below_drewN | apply below_drew1) | exact HB.out)) hb); have n2_ := ak_ (blk_below (g := g2) (o := .cells #[.int .i64 a0_0, .int .i64 a0_1, .int .i64 a0_2, .int .i64 a0_3, .int .i64 a0_4, .int .i64 a0_5, .int .i64 a0_6] 23 (0, 0)) (by (with_reducible repeat (first | apply blk_drewN | apply blk_drew | apply blk_alloc)); exact BK2.out) hb); have n3_ := ak_ (blk_below (g := g3) (o := .cells #[.slice (some ad) l1.length c1] 39 (0, 0)) (by (with_reducible repeat (first | apply blk_drewN | apply blk_drew | apply blk_alloc)); exact BK3.out) hb); have n4_ := ak_ (blk_below (g := g4) (o := .cells #[.slice none 0 0, .int .i64 0, .int .i64 0, .int .i64 0, .int .i64 0, .int .i64 0] 42 (0, 0)) (by (with_reducible repeat (first | apply blk_drewN | apply blk_drew | apply blk_alloc)); exact BK4.out) hb); clear HB BK2 BK3 BK4; have HB := n0_; have BK2 := n2_; have BK3 := n3_; have BK4 := n4_; clear n0_ n2_ n3_ n4_ hb; have y0_ := blk_cell BK4.out 0; have yf0_ := blk_frozen BK4.out 0; have y1_ := blk_cell BK4.out 1; have yf1_ := blk_frozen BK4.out 1; have y2_ := blk_cell BK4.out 2; have yf2_ := blk_frozen BK4.out 2; have y3_ := blk_cell BK4.out 3; have yf3_ := blk_frozen BK4.out 3; have y4_ := blk_cell BK4.out 4; have yf4_ := blk_frozen BK4.out 4; have y5_ := blk_cell BK4.out 5; have yf5_ := blk_frozen BK4.out 5))
       obtain ⟨rfl, rfl, rfl, rfl, rfl, rfl, rfl, rfl⟩ : [] = r1 ∧ 0 = r2 ∧ 0 = r3 ∧ 0 = r4 ∧ 0 = r5 ∧ 0 = r6 ∧ 0 = r7 ∧ 2 = r8 := by simpa using HE.out
       refine bodyPost_ret (results_list (rs := [.cell 4 42, .tmp 5, .tmp 6]) rfl (by simp) (.cell g4 42 #[.slice none 0 0, .int .i64 0, .int .i64 0, .int .i64 0, .int .i64 0, .int .i64 0] (0, 0) _ rfl (ladder_Climb_put6 BK4.out _ _ _ _ _ _) Try.underlying42 rfl (by kernel_rfl) (.tmp (.tmp .nil)))) rfl ?_
       exact ⟨_, rfl, Kd.R_nil _ _ _ _ _, ladder_Climb_below6 HB.out GE4.out _ _ _ _ _ _⟩
     ·obtain rfl : n = l1.length := by omega
      have hall : (l1.all fun l => decide ((l.length : Int) = q)) = true := HALL.out.trans (by rw [List.drop_length]; rfl)
      have HE2 := HE.out
      rw [hall, if_pos rfl] at HE2
      have HW := ak_ HE2
      clear HE HE2 hall
      have d1_ : decide ((l1.length : Int) < (l1.length : Int)) = false := decide_eq_false (by omega)
      have z0_ : wr.cell? ⟨g2, 0, none⟩ = some (.int .i64 a0_0) := (blk_cell BK2.out 0).trans rfl; have z1_ : wr.cell? ⟨g2, 1, none⟩ = some (.int .i64 a0_1) := (blk_cell BK2.out 1).trans rfl; have z2_ : wr.cell? ⟨g2, 2, none⟩ = some (.int .i64 a0_2) := (blk_cell BK2.out 2).trans rfl; have z3_ : wr.cell? ⟨g2, 3, none⟩ = some (.int .i64 a0_3) := (blk_cell BK2.out 3).trans rfl; have z4_ : wr.cell? ⟨g2, 4, none⟩ = some (.int .i64 a0_4) := (blk_cell BK2.out 4).trans rfl; have z5_ : wr.cell? ⟨g2, 5, none⟩ = some (.int .i64 a0_5) := (blk_cell BK2.out 5).trans rfl; have z6_ : wr.cell? ⟨g2, 6, none⟩ = some (.int .i64 a0_6) := (blk_cell BK2.out 6).trans rfl; have u0_ : wr.cell? ⟨g3, 0, none⟩ = some (.slice (some ad) l1.length c1) := (blk_cell BK3.out 0).trans rfl; have y0_ := blk_cell BK4.out 0; have yf0_ := blk_frozen BK4.out 0; have y1_ := blk_cell BK4.out 1; have yf1_ := blk_frozen BK4.out 1; have y2_ := blk_cell BK4.out 2; have yf2_ := blk_frozen BK4.out 2; have y3_ := blk_cell BK4.out 3; have yf3_ := blk_frozen BK4.out 3; have y4_ := blk_cell BK4.out 4; have yf4_ := blk_frozen BK4.out 4; have y5_ := blk_cell BK4.out 5; have yf5_ := blk_frozen BK4.out 5
      go_wp2_with (first | (go_at_call 27; (with_reducible refine (ladder_Climb_walk k a0_0 a0_1 a0_2 a0_3 a0_4 a0_5 a0_6 g3 (some ad) c1 l1 r1 r2 r3 r4 r5 r6 r7 r8 _ BK3.out (Kd.C_below HCC.out HB.out) HCHK.out HW.out).mono ?_); rintro e w6 ⟨vd, rfl, hR, hb⟩; clear z0_ z1_ z2_ z3_ z4_ z5_ z6_ u0_; have n0_ := ak_ (below_step HB.out hb); have n2_ := ak_ (blk_below BK2.out hb); have n3_ := ak_ (blk_below BK3.out hb); have n4_ := ak_ (blk_below BK4.out hb); have hsz_ := below_size HB.out; clear HB BK2 BK3 BK4; have HB := n0_; have BK2 := n2_; have BK3 := n3_; have BK4 := n4_; clear n0_ n2_ n3_ n4_ hb; obtain ⟨Ad, nd, cd, rfl⟩ : ∃ A n c, vd = .slice A n c := (by obtain ⟨A, c, h⟩ := Kd.R_slice hR; exact ⟨A, _, c, h⟩); have HRD := ak_ (Kd.R_lower hR hsz_); clear hR; have y0_ := blk_cell BK4.out 0; have yf0_ := blk_frozen BK4.out 0; have y1_ := blk_cell BK4.out 1; have yf1_ := blk_frozen BK4.out 1; have y2_ := blk_cell BK4.out 2; have yf2_ := blk_frozen BK4.out 2; have y3_ := blk_cell BK4.out 3; have yf3_ := blk_frozen BK4.out 3; have y4_ := blk_cell BK4.out 4; have yf4_ := blk_frozen BK4.out 4; have y5_ := blk_cell BK4.out 5; have yf5_ := blk_frozen BK4.out 5))
      refine bodyPost_ret (results_list (rs := [.cell 4 42, .tmp 5, .tmp 6]) rfl (by simp) (.cell g4 42 #[.slice Ad nd cd, .int .i64 r2, .int .i64 r3, .int .i64 r4, .int .i64 r5, .int .i64 r6] (0, 0) _ rfl (ladder_Climb_put6 (ladder_Climb_put6 BK4.out _ _ _ _ _ _) _ _ _ _ _ _) Try.underlying42 rfl (by kernel_rfl) (.tmp (.tmp .nil)))) rfl ?_
      exact ⟨_, rfl, ladder_Climb_R6 (ladder_Climb_R6 HRD.out BK4.out _ _ _ _ _ _) (ladder_Climb_put6 BK4.out _ _ _ _ _ _) _ _ _ _ _ _, ladder_Climb_below6 (ladder_Climb_below6 HB.out GE4.out _ _ _ _ _ _) GE4.out _ _ _ _ _ _⟩
 ·rw [if_neg e0] at h2
  have HE := ak_ (Option.some.inj h2)
  clear h2
  have f0_ : (ec == 0) = false := beq_eq_false_iff_ne.2 e0
  have f1_ : (ec != 0) = true := by rw [bne, f0_]; rfl
  go_enter Try.func24, Try.ntmps24
  go_wp2_with (first | ((with_reducible refine gate_dst (N := 2) rfl ?_); (try (refine gate_guard (by rfl) ?_; dsimp only)); refine box_event ?hg (N := 2) ?hd (cs := #[.int .i64 a0_0, .int .i64 a0_1, .int .i64 a0_2, .int .i64 a0_3, .int .i64 a0_4, .int .i64 a0_5, .int .i64 a0_6]) (t := 23) ?hr ?_; (case hd => rfl); (case hg => rfl); (case hr => (go_simp; done)); intro g2 hg w1 hbox hb; have GE2 := ak_ ((by rw [hg]; exact (below_size HB.out)) : w.heap.size ≤ g2); have n0_ := ak_ (below_step HB.out hb); clear HB hb; have HB := n0_; clear n0_; have BK2 := ak_ hbox; clear hbox hg) | ((with_reducible refine gate_dst (N := 3) rfl ?_); (try (refine gate_guard (by rfl) ?_; dsimp only)); refine box_event ?hg (N := 3) ?hd (cs := #[.slice A1 l1.length c1]) (t := 39) ?hr ?_; (case hd => rfl); (case hg => rfl); (case hr => (go_simp; done)); intro g3 hg w2 hbox hb; have GE3 := ak_ ((by rw [hg]; exact (below_size HB.out)) : w.heap.size ≤ g3); have n0_ := ak_ (below_step HB.out hb); have n2_ := ak_ (blk_below BK2.out hb); clear HB BK2; have HB := n0_; have BK2 := n2_; clear n0_ n2_ hb; have BK3 := ak_ hbox; clear hbox hg) | ((with_reducible refine gate_dst (N := 4) rfl ?_); (try (refine gate_guard (by rfl) ?_; dsimp only)); refine box_event ?hg (N := 4) ?hd (cs := #[.slice none 0 0, .int .i64 0, .int .i64 0, .int .i64 0, .int .i64 0, .int .i64 0]) (t := 42) ?hr ?_; (case hd => rfl); (case hg => rfl); (case hr => (go_simp; done)); intro g4 hg w3 hbox hb; have GE4 := ak_ ((by rw [hg]; exact (below_size HB.out)) : w.heap.size ≤ g4); have n0_ := ak_ (below_step HB.out hb); have n2_ := ak_ (blk_below BK2.out hb); have n3_ := ak_ (blk_below BK3.out hb); clear HB BK2 BK3; have HB := n0_; have BK2 := n2_; have BK3 := n3_; clear n0_ n2_ n3_ hb; have BK4 := ak_ hbox; clear hbox hg; have z0_ : w3.cell? ⟨g2, 0, none⟩ = some (.int .i64 a0_0) := (blk_cell BK2.out 0).trans rfl; have z1_ : w3.cell? ⟨g2, 1, none⟩ = some (.int .i64 a0_1) := (blk_cell BK2.out 1).trans rfl; have z2_ : w3.cell? ⟨g2, 2, none⟩ = some (.int .i64 a0_2) := (blk_cell BK2.out 2).trans rfl; have z3_ : w3.cell? ⟨g2, 3, none⟩ = some (.int .i64 a0_3) := (blk_cell BK2.out 3).trans rfl; have z4_ : w3.cell? ⟨g2, 4, none⟩ = some (.int .i64 a0_4) := (blk_cell BK2.out 4).trans rfl; have z5_ : w3.cell? ⟨g2, 5, none⟩ = some (.int .i64 a0_5) := (blk_cell BK2.out 5).trans rfl; have z6_ : w3.cell? ⟨g2, 6, none⟩ = some (.int .i64 a0_6) := (blk_cell BK2.out 6).trans rfl; have u0_ : w3.cell? ⟨g3, 0, none⟩ = some (.slice A1 l1.length c1) := (blk_cell BK3.out 0).trans rfl) | ((with_reducible refine gate_callee (f := 35) rfl ?_); refine goesL_ (some 10) rfl rfl Try.func35 (by kernel_rfl) rfl #[.agg #[.int .i64 a0_0, .int .i64 a0_1, .int .i64 a0_2, .int .i64 a0_3, .int .i64 a0_4, .int .i64 a0_5, .int .i64 a0_6]] rfl (by (try simp only [List.map_toArray, List.map_cons, List.map_nil]); first | done | rfl) ?_; (with_reducible refine (geom_Check.calls a0_0 a0_1 a0_2 a0_3 a0_4 a0_5 a0_6 ec _ HCHK.out).mono ?_); rintro e w5 ⟨rfl, hb⟩; refine ⟨_, rfl, ?_⟩; clear z0_ z1_ z2_ z3_ z4_ z5_ z6_ u0_; have n0_ := ak_ (below_step HB.out hb); have n2_ := ak_ (blk_below BK2.out hb); have n3_ := ak_ (blk_below BK3.out hb); have n4_ := ak_ (blk_below BK4.out hb); clear HB BK2 BK3 BK4; have HB := n0_; have BK2 := n2_; have BK3 := n3_; have BK4 := n4_; clear n0_ n2_ n3_ n4_ hb; have z0_ : w5.cell? ⟨g2, 0, none⟩ = some (.int .i64 a0_0) := (blk_cell BK2.out 0).trans rfl; have z1_ : w5.cell? ⟨g2, 1, none⟩ = some (.int .i64 a0_1) := (blk_cell BK2.out 1).trans rfl; have z2_ : w5.cell? ⟨g2, 2, none⟩ = some (.int .i64 a0_2) := (blk_cell BK2.out 2).trans rfl; have z3_ : w5.cell? ⟨g2, 3, none⟩ = some (.int .i64 a0_3) := (blk_cell BK2.out 3).trans rfl; have z4_ : w5.cell? ⟨g2, 4, none⟩ = some (.int .i64 a0_4) := (blk_cell BK2.out 4).trans rfl; have z5_ : w5.cell? ⟨g2, 5, none⟩ = some (.int .i64 a0_5) := (blk_cell BK2.out 5).trans rfl; have z6_ : w5.cell? ⟨g2, 6, none⟩ = some (.int .i64 a0_6) := (blk_cell BK2.out 6).trans rfl; have u0_ : w5.cell? ⟨g3, 0, none⟩ = some (.slice A1 l1.length c1) := (blk_cell BK3.out 0).trans rfl; have y0_ := blk_cell BK4.out 0; have yf0_ := blk_frozen BK4.out 0; have y1_ := blk_cell BK4.out 1; have yf1_ := blk_frozen BK4.out 1; have y2_ := blk_cell BK4.out 2; have yf2_ := blk_frozen BK4.out 2; have y3_ := blk_cell BK4.out 3; have yf3_ := blk_frozen BK4.out 3; have y4_ := blk_cell BK4.out 4; have yf4_ := blk_frozen BK4.out 4; have y5_ := blk_cell BK4.out 5; have yf5_ := blk_frozen BK4.out 5) | (go_at_call 35; (with_reducible refine (geom_Check.calls a0_0 a0_1 a0_2 a0_3 a0_4 a0_5 a0_6 ec _ HCHK.out).mono ?_); rintro e w5 ⟨rfl, hb⟩; clear z0_ z1_ z2_ z3_ z4_ z5_ z6_ u0_; have n0_ := ak_ (below_step (by repeat (first | (with_reducible first | exact HB.out | apply below_alloc | apply pw_below_drewN | apply below_drew1) | exact HB.out)) hb); have n2_ := ak_ (blk_below (g := g2) (o := .cells #[.int .i64 a0_0, .int .i64 a0_1, .int .i64 a0_2, .int .i64 a0_3, .int .i64 a0_4, .int .i64 a0_5, .int .i64 a0_6] 23 (0, 0)) (by (with_reducible repeat (first | apply blk_drewN | apply blk_drew | apply blk_alloc)); exact BK2.out) hb); have n3_ := ak_ (blk_below (g := g3) (o := .cells #[.slice A1 l1.length c1] 39 (0, 0)) (by (with_reducible repeat (first | apply blk_drewN | apply blk_drew | apply blk_alloc)); exact BK3.out) hb); have n4_ := ak_ (blk_below (g := g4) (o := .cells #[.slice none 0 0, .int .i64 0, .int .i64 0, .int .i64 0, .int .i64 0, .int .i64 0] 42 (0, 0)) (by (with_reducible repeat (first | apply blk_drewN | apply blk_drew | apply blk_alloc)); exact BK4.out) hb); clear HB BK2 BK3 BK4; have HB := n0_; have BK2 := n2_; have BK3 := n3_; have BK4 := n4_; clear n0_ n2_ n3_ n4_ hb; have z0_ : w5.cell? ⟨g2, 0, none⟩ = some (.int .i64 a0_0) := (blk_cell BK2.out 0).trans rfl; have z1_ : w5.cell? ⟨g2, 1, none⟩ = some (.int .i64 a0_1) := (blk_cell BK2.out 1).trans rfl; have z2_ : w5.cell? ⟨g2, 2, none⟩ = some (.int .i64 a0_2) := (blk_cell BK2.out 2).trans rfl; have z3_ : w5.cell? ⟨g2, 3, none⟩ = some (.int .i64 a0_3) := (blk_cell BK2.out 3).trans rfl; have z4_ : w5.cell? ⟨g2, 4, none⟩ = some (.int .i64 a0_4) := (blk_cell BK2.out 4).trans rfl; have z5_ : w5.cell? ⟨g2, 5, none⟩ = some (.int .i64 a0_5) := (blk_cell BK2.out 5).trans rfl; have z6_ : w5.cell? ⟨g2, 6, none⟩ = some (.int .i64 a0_6) := (blk_cell BK2.out 6).trans rfl; have u0_ : w5.cell? ⟨g3, 0, none⟩ = some (.slice A1 l1.length c1) := (blk_cell BK3.out 0).trans rfl; have y0_ := blk_cell BK4.out 0; have yf0_ := blk_frozen BK4.out 0; have y1_ := blk_cell BK4.out 1; have yf1_ := blk_frozen BK4.out 1; have y2_ := blk_cell BK4.out 2; have yf2_ := blk_frozen BK4.out 2; have y3_ := blk_cell BK4.out 3; have yf3_ := blk_frozen BK4.out 3; have y4_ := blk_cell BK4.out 4; have yf4_ := blk_frozen BK4.out 4; have y5_ := blk_cell BK4.out 5; have yf5_ := blk_frozen BK4.out 5))
  obtain ⟨rfl, rfl, rfl, rfl, rfl, rfl, rfl, rfl⟩ : [] = r1 ∧ 0 = r2 ∧ 0 = r3 ∧ 0 = r4 ∧ 0 = r5 ∧ 0 = r6 ∧ 0 = r7 ∧ 2 = r8 := by simpa using HE.out
  refine bodyPost_ret (results_list (rs := [.cell 4 42, .tmp 5, .tmp 6]) rfl (by simp) (.cell g4 42 #[.slice none 0 0, .int .i64 0, .int .i64 0, .int .i64 0, .int .i64 0, .int .i64 0] (0, 0) _ rfl (ladder_Climb_put6 BK4.out _ _ _ _ _ _) Try.underlying42 rfl (by kernel_rfl) (.tmp (.tmp .nil)))) rfl ?_
  exact ⟨_, rfl, Kd.R_nil _ _ _ _ _, ladder_Climb_below6 HB.out GE4.out _ _ _ _ _ _⟩
def incunablelaw09_plain.f  : Option (Int × Int × Int × Int × Int × Int × Int) := some (1, 2, 4, 1, 4, 2, 1)
set_option maxHeartbeats 8000000 in
set_option maxRecDepth 100000 in
theorem incunablelaw09_plain.calls  (r1 : Int) (r2 : Int) (r3 : Int) (r4 : Int) (r5 : Int) (r6 : Int) (r7 : Int) (w : World) (h : incunablelaw09_plain.f  = some (r1, r2, r3, r4, r5, r6, r7)) :
  Calls Try.prog 49 #[] w fun e w' => e = .returned (.agg #[.int .i64 r1, .int .i64 r2, .int .i64 r3, .int .i64 r4, .int .i64 r5, .int .i64 r6, .int .i64 r7]) ∧ Below w.heap.size w w' := by
 have hu23 := Try.underlying23
 have HB := ak_ (Below.refl w.heap.size w)
 have H : (some (1, 2, 4, 1, 4, 2, 1)) = some (r1, r2, r3, r4, r5, r6, r7) := h
 clear h
 simp only [Option.some.injEq, Prod.mk.injEq] at H
 obtain ⟨rfl, rfl, rfl, rfl, rfl, rfl, rfl⟩ := H
 go_enter Try.func49, Try.ntmps49
 go_wp2_with (first | ((with_reducible refine gate_dst (N := 0) rfl ?_); refine box_event ?hg (N := 0) ?hd (cs := #[.int .i64 0, .int .i64 0, .int .i64 0, .int .i64 0, .int .i64 0, .int .i64 0, .int .i64 0]) (t := 23) ?hr ?_; (case hd => rfl); (case hg => rfl); (case hr => (go_simp; done)); intro gb278 hg w1 hbox hb; have BK278 := ak_ (hbox); have GW278 := ak_ ((by rw [hg]; exact (below_size HB.out) : w.heap.size ≤ gb278)); have GE278 := ak_ ((by rw [hg]; exact (below_size HB.out) : w.heap.size ≤ gb278)); replace HB := ak_ (below_step HB.out hb); clear hb hbox hg; have hcz2_0 : w1.cell? ⟨gb278, 0, none⟩ = some (.int .i64 0) := (blk_cell BK278.out 0).trans rfl; have hcz2_1 : w1.cell? ⟨gb278, 1, none⟩ = some (.int .i64 0) := (blk_cell BK278.out 1).trans rfl; have hcz2_2 : w1.cell? ⟨gb278, 2, none⟩ = some (.int .i64 0) := (blk_cell BK278.out 2).trans rfl; have hcz2_3 : w1.cell? ⟨gb278, 3, none⟩ = some (.int .i64 0) := (blk_cell BK278.out 3).trans rfl; have hcz2_4 : w1.cell? ⟨gb278, 4, none⟩ = some (.int .i64 0) := (blk_cell BK278.out 4).trans rfl; have hcz2_5 : w1.cell? ⟨gb278, 5, none⟩ = some (.int .i64 0) := (blk_cell BK278.out 5).trans rfl; have hcz2_6 : w1.cell? ⟨gb278, 6, none⟩ = some (.int .i64 0) := (blk_cell BK278.out 6).trans rfl; have hfz2_0 := blk_frozen BK278.out 0; have hfz2_1 := blk_frozen BK278.out 1; have hfz2_2 := blk_frozen BK278.out 2; have hfz2_3 := blk_frozen BK278.out 3; have hfz2_4 := blk_frozen BK278.out 4; have hfz2_5 := blk_frozen BK278.out 5; have hfz2_6 := blk_frozen BK278.out 6))
 refine bodyPost_ret (results_cell_row rfl _ _ gb278 23 #[.int .i64 1, .int .i64 2, .int .i64 4, .int .i64 1, .int .i64 4, .int .i64 2, .int .i64 1] (0, 0) _ rfl (put7 BK278.out) Try.underlying23 rfl (by kernel_rfl)) rfl ?_
 exact ⟨by first | rfl | (simp [errW_none, errW_some] <;> rfl) | (simp [*, errW_none, errW_some] <;> rfl) | (have hz_ : ∀ z : Int, -9223372036854775808 ≤ z → z ≤ 9223372036854775807 → wrap64 z = z := (fun z h1_ h2_ => by unfold wrap64; omega); rw [hz_] <;> first | rfl | omega), by repeat (first | (with_reducible first | exact HB.out | apply below_alloc | apply pw_below_drewN | apply below_drew1 | refine below_set ?_ GE278.out) | exact HB.out)⟩
def incunablelaw09_awake.f (k : Nat)  : Option (Bool) := (incunablelaw09_plain.f).bind fun bt279 => ((incunablelaw09_plain.f).bind fun bt286 => ((page_Erased.f k bt286.1 bt286.2.1 bt286.2.2.1 bt286.2.2.2.1 bt286.2.2.2.2.1 bt286.2.2.2.2.2.1 bt286.2.2.2.2.2.2).bind fun t293 => ((ladder_Climb.f k bt279.1 bt279.2.1 bt279.2.2.1 bt279.2.2.2.1 bt279.2.2.2.2.1 bt279.2.2.2.2.2.1 bt279.2.2.2.2.2.2 (([t293] : List (List Int)))).bind fun bt299 => (if bt299.2.2.2.2.2.2.2 = 0 then (if bt299.2.2.2.2.2.1 = 2 then (some (bt299.2.2.2.2.2.2.1 == 0)) else (some false)) else (some false)))))
theorem incunablelaw09_awake.mono : ∀ k, LeO (incunablelaw09_awake.f k ) (incunablelaw09_awake.f (k + 1) ) := by
 intro  k
 unfold incunablelaw09_awake.f
 repeat' first
  | (with_reducible exact ladder_Climb.mono _ _ _ _ _ _ _ _ _)
  | (with_reducible exact page_Erased.mono _ _ _ _ _ _ _ _)
  | (with_reducible exact LeO.refl _)
  | (with_reducible exact LeO.none _)
  | (with_reducible refine LeO.ite ?_ ?_)
  | (with_reducible refine LeO.bind ?_ (fun _ => ?_))
set_option maxHeartbeats 8000000 in
set_option maxRecDepth 100000 in
theorem incunablelaw09_awake.calls (k : Nat)  (r : Bool) (w : World) (h : incunablelaw09_awake.f k  = some r) :
  Calls Try.prog 22 #[] w fun e w' => e = .returned (.bool r) ∧ Below w.heap.size w w' := by
 have hu42 := Try.underlying42
 have HB := ak_ (Below.refl w.heap.size w)
 have H : ((incunablelaw09_plain.f).bind fun bt279 => ((incunablelaw09_plain.f).bind fun bt286 => ((page_Erased.f k bt286.1 bt286.2.1 bt286.2.2.1 bt286.2.2.2.1 bt286.2.2.2.2.1 bt286.2.2.2.2.2.1 bt286.2.2.2.2.2.2).bind fun t293 => ((ladder_Climb.f k bt279.1 bt279.2.1 bt279.2.2.1 bt279.2.2.2.1 bt279.2.2.2.2.1 bt279.2.2.2.2.2.1 bt279.2.2.2.2.2.2 (([t293] : List (List Int)))).bind fun bt299 => (if bt299.2.2.2.2.2.2.2 = 0 then (if bt299.2.2.2.2.2.1 = 2 then (some (bt299.2.2.2.2.2.2.1 == 0)) else (some false)) else (some false)))))) = some r := h
 clear h
 replace H := Option.bind_eq_some_iff.mp H
 obtain ⟨⟨t279, t280, t281, t282, t283, t284, t285⟩, A10, H⟩ := H
 replace H : ((incunablelaw09_plain.f).bind fun bt286 => ((page_Erased.f k bt286.1 bt286.2.1 bt286.2.2.1 bt286.2.2.2.1 bt286.2.2.2.2.1 bt286.2.2.2.2.2.1 bt286.2.2.2.2.2.2).bind fun t293 => ((ladder_Climb.f k t279 t280 t281 t282 t283 t284 t285 (([t293] : List (List Int)))).bind fun bt299 => (if bt299.2.2.2.2.2.2.2 = 0 then (if bt299.2.2.2.2.2.1 = 2 then (some (bt299.2.2.2.2.2.2.1 == 0)) else (some false)) else (some false))))) = some r := H
 have A1 := ak_ A10
 clear A10
 replace H := Option.bind_eq_some_iff.mp H
 obtain ⟨⟨t286, t287, t288, t289, t290, t291, t292⟩, A20, H⟩ := H
 replace H : ((page_Erased.f k t286 t287 t288 t289 t290 t291 t292).bind fun t293 => ((ladder_Climb.f k t279 t280 t281 t282 t283 t284 t285 (([t293] : List (List Int)))).bind fun bt299 => (if bt299.2.2.2.2.2.2.2 = 0 then (if bt299.2.2.2.2.2.1 = 2 then (some (bt299.2.2.2.2.2.2.1 == 0)) else (some false)) else (some false)))) = some r := H
 have A2 := ak_ A20
 clear A20
 replace H := Option.bind_eq_some_iff.mp H
 obtain ⟨t293, A30, H⟩ := H
 replace H : ((ladder_Climb.f k t279 t280 t281 t282 t283 t284 t285 (([t293] : List (List Int)))).bind fun bt299 => (if bt299.2.2.2.2.2.2.2 = 0 then (if bt299.2.2.2.2.2.1 = 2 then (some (bt299.2.2.2.2.2.2.1 == 0)) else (some false)) else (some false))) = some r := H
 have A3 := ak_ A30
 clear A30
 obtain ⟨y296, hy296⟩ : ∃ y_ : List (List Int), y_ = (([t293] : List (List Int))) := ⟨_, rfl⟩
 replace H : ((ladder_Climb.f k t279 t280 t281 t282 t283 t284 t285 y296).bind fun bt299 => (if bt299.2.2.2.2.2.2.2 = 0 then (if bt299.2.2.2.2.2.1 = 2 then (some (bt299.2.2.2.2.2.2.1 == 0)) else (some false)) else (some false))) = some r := (by rw [hy296]; with_reducible exact H)
 have Ny296 := ak_ hy296
 clear hy296
 replace H := Option.bind_eq_some_iff.mp H
 obtain ⟨⟨t299, t302, t303, t304, t305, t306, t307, t308⟩, A40, H⟩ := H
 replace H : (if t308 = 0 then (if t306 = 2 then (some (t307 == 0)) else (some false)) else (some false)) = some r := H
 have A4 := ak_ A40
 clear A40
 by_cases c5 : t308 = 0
 ·rw [if_pos c5] at H
  have c5b0 : (t308 == 0) = true := beq_iff_eq.mpr c5
  have c5b1 : (t308 != 0) = false := bne_eq_false_iff_eq.mpr c5
  clear c5
  by_cases c6 : t306 = 2
  ·rw [if_pos c6] at H
   have c6b0 : (t306 == 2) = true := beq_iff_eq.mpr c6
   have c6b1 : (t306 != 2) = false := bne_eq_false_iff_eq.mpr c6
   clear c6
   obtain rfl := Option.some.inj H
   go_enter Try.func22, Try.ntmps22
   go_wp2_with (first | ((with_reducible refine gate_callee (f := 49) rfl ?_); refine goesL_ (some 5) rfl rfl Try.func49 (by kernel_rfl) rfl #[] rfl (by (try simp only [List.map_toArray, List.map_cons, List.map_nil]); done) ?_; (with_reducible refine (incunablelaw09_plain.calls  t279 t280 t281 t282 t283 t284 t285 _ A1.out).mono ?_); rintro e w7 ⟨rfl, hb⟩; refine ⟨_, rfl, ?_⟩; replace HB := ak_ (below_step HB.out hb); (try clear hb); (try clear hb2); (try clear hk); (try clear hi)) | ((with_reducible refine gate_callee (f := 49) rfl ?_); refine goesL_ (some 6) rfl rfl Try.func49 (by kernel_rfl) rfl #[] rfl (by (try simp only [List.map_toArray, List.map_cons, List.map_nil]); done) ?_; (with_reducible refine (incunablelaw09_plain.calls  t286 t287 t288 t289 t290 t291 t292 _ A2.out).mono ?_); rintro e w8 ⟨rfl, hb⟩; refine ⟨_, rfl, ?_⟩; replace HB := ak_ (below_step HB.out hb); (try clear hb); (try clear hb2); (try clear hk); (try clear hi)) | ((with_reducible refine gate_callee (f := 15) rfl ?_); refine goesL_ (some 7) rfl rfl Try.func15 (by kernel_rfl) rfl #[.agg #[.int .i64 t286, .int .i64 t287, .int .i64 t288, .int .i64 t289, .int .i64 t290, .int .i64 t291, .int .i64 t292]] rfl (by (try simp only [List.map_toArray, List.map_cons, List.map_nil]); first | done | rfl | (simp only [List.length_drop, List.length_take]; rfl)) ?_; (with_reducible refine (page_Erased.calls k t286 t287 t288 t289 t290 t291 t292 t293 _ A3.out).mono ?_); rintro e w9 ⟨v294, rfl, ho0, hb⟩; refine ⟨_, rfl, ?_⟩; have HO295 := ak_ (Kd.R_lower ho0 (below_size HB.out)); replace HB := ak_ (below_step HB.out hb); (try clear hb); (try clear hb2); (try clear hk); (try clear hi); (try clear ho0); obtain ⟨Ao10, co10, eo10⟩ := Kd.R_slice HO295.out; subst eo10) | ((with_reducible refine gate_dst (N := 8) rfl ?_); refine Kd.N_lit (Kd.slice 5 (Kd.int .u8)) _ 24 ?hg (N' := 8) ?hd (xs := ([t293] : List (List Int))) (inner := [.slice Ao10 t293.length co10]) (ok := (fun _ => True)) (okp := (fun _ => True)) ?hr ?hp (fun _ hk => hk) ((show ∀ k_, w9.heap.size ≤ k_ → (fun _ => True) k_ from fun k_ hk => trivial) _ (Nat.le_refl _)) (Below.refl _ _) (Nat.le_refl _) (by simp) ?_; (case hd => rfl); (case hg => rfl); (case hr => (go_simp; done)); (case hp => exact (Reps.one (show Kd.FK (Kd.slice 5 (Kd.int .u8)) _ _ t293 [.slice Ao10 t293.length co10] from (Kd.FK_slice_mk (Kd.R_reads' (Kd.R_mono (ok' := (fun _ => True)) (HO295.out) (fun k_ hk => trivial))).2.1 (Kd.R_F (Kd.R_mono (ok' := (fun _ => True)) (HO295.out) (fun k_ hk => trivial))))) (Reps.none _ _))); intro v297 w11 ho12 hb hg_ hnew_; clear hg_ hnew_; (rw [← Ny296.out] at ho12); have n0_ := ak_ (Kd.N_lower ho12 (below_size HB.out)); have n1_ := ak_ (below_step HB.out hb); clear HB; clear HO295; have HO298 := n0_; have HB := n1_; clear n0_ n1_; clear hb ho12; obtain ⟨Ao13, co13, eo13⟩ := Kd.N_slice HO298.out; subst eo13) | ((with_reducible refine gate_callee (f := 24) rfl ?_); refine goesL_ (some 9) rfl rfl Try.func24 (by kernel_rfl) rfl #[.agg #[.int .i64 t279, .int .i64 t280, .int .i64 t281, .int .i64 t282, .int .i64 t283, .int .i64 t284, .int .i64 t285], .slice Ao13 y296.length co13] rfl (by (try simp only [List.map_toArray, List.map_cons, List.map_nil]); first | done | rfl | (simp only [List.length_drop, List.length_take]; rfl)) ?_; (with_reducible refine (ladder_Climb.calls k t279 t280 t281 t282 t283 t284 t285 _ _ y296 t299 t302 t303 t304 t305 t306 t307 t308 _ ?side1 ?side2 A4.out).mono ?_); (case side1 => exact (Kd.N_reads' HO298.out).2.2); (case side2 => exact (Kd.N_reads' HO298.out).2.1); rintro e w14 ⟨v300, rfl, ho0, hb⟩; refine ⟨_, rfl, ?_⟩; replace HO298 := ak_ (Kd.N_elder' HO298.out (Kd.R_base ho0) hb); have HO301 := ak_ (Kd.R_lower ho0 (below_size HB.out)); replace HB := ak_ (below_step HB.out hb); (try clear hb); (try clear hb2); (try clear hk); (try clear hi); (try clear ho0)) | ((with_reducible refine gate_dst (N := 1) rfl ?_); refine box_event ?hg (N := 1) ?hd (cs := #[.slice none 0 0, .int .i64 0, .int .i64 0, .int .i64 0, .int .i64 0, .int .i64 0]) (t := 42) ?hr ?_; (case hd => rfl); (case hg => rfl); (case hr => (go_simp; done)); intro gb309 hg w15 hbox hb; replace HO298 := ak_ (Kd.N_below (Kd.N_elderB HO298.out gb309 (Nat.le_of_eq hg.symm)) hb); replace HO301 := ak_ (Kd.R_below HO301.out hb); have BK309 := ak_ (hbox); have GW309 := ak_ ((by rw [hg]; exact (below_size HB.out) : w.heap.size ≤ gb309)); have GE309 := ak_ ((by rw [hg]; exact (below_size HB.out) : w.heap.size ≤ gb309)); replace HB := ak_ (below_step HB.out hb); clear hb hbox hg; obtain ⟨Ao16, co16, eo16⟩ := Kd.R_slice HO301.out; subst eo16; have hcz17_0 : w15.cell? ⟨gb309, 0, none⟩ = some (.slice none 0 0) := (blk_cell BK309.out 0).trans rfl; have hcz17_1 : w15.cell? ⟨gb309, 1, none⟩ = some (.int .i64 0) := (blk_cell BK309.out 1).trans rfl; have hcz17_2 : w15.cell? ⟨gb309, 2, none⟩ = some (.int .i64 0) := (blk_cell BK309.out 2).trans rfl; have hcz17_3 : w15.cell? ⟨gb309, 3, none⟩ = some (.int .i64 0) := (blk_cell BK309.out 3).trans rfl; have hcz17_4 : w15.cell? ⟨gb309, 4, none⟩ = some (.int .i64 0) := (blk_cell BK309.out 4).trans rfl; have hcz17_5 : w15.cell? ⟨gb309, 5, none⟩ = some (.int .i64 0) := (blk_cell BK309.out 5).trans rfl; have hfz17_0 := blk_frozen BK309.out 0; have hfz17_1 := blk_frozen BK309.out 1; have hfz17_2 := blk_frozen BK309.out 2; have hfz17_3 := blk_frozen BK309.out 3; have hfz17_4 := blk_frozen BK309.out 4; have hfz17_5 := blk_frozen BK309.out 5))
   go_ret
   exact ⟨by first | rfl | (simp [errW_none, errW_some] <;> rfl) | (simp [*, errW_none, errW_some] <;> rfl) | (have hz_ : ∀ z : Int, -9223372036854775808 ≤ z → z ≤ 9223372036854775807 → wrap64 z = z := (fun z h1_ h2_ => by unfold wrap64; omega); rw [hz_] <;> first | rfl | omega), by repeat (first | (with_reducible first | exact HB.out | apply below_alloc | apply pw_below_drewN | apply below_drew1 | refine below_set ?_ GE309.out) | exact HB.out)⟩
  ·rw [if_neg c6] at H
   have c6b0 : (t306 == 2) = false := beq_eq_false_iff_ne.mpr c6
   have c6b1 : (t306 != 2) = true := bne_iff_ne.mpr c6
   obtain rfl := Option.some.inj H
   go_enter Try.func22, Try.ntmps22
   go_wp2_with (first | ((with_reducible refine gate_callee (f := 49) rfl ?_); refine goesL_ (some 5) rfl rfl Try.func49 (by kernel_rfl) rfl #[] rfl (by (try simp only [List.map_toArray, List.map_cons, List.map_nil]); done) ?_; (with_reducible refine (incunablelaw09_plain.calls  t279 t280 t281 t282 t283 t284 t285 _ A1.out).mono ?_); rintro e w18 ⟨rfl, hb⟩; refine ⟨_, rfl, ?_⟩; replace HB := ak_ (below_step HB.out hb); (try clear hb); (try clear hb2); (try clear hk); (try clear hi)) | ((with_reducible refine gate_callee (f := 49) rfl ?_); refine goesL_ (some 6) rfl rfl Try.func49 (by kernel_rfl) rfl #[] rfl (by (try simp only [List.map_toArray, List.map_cons, List.map_nil]); done) ?_; (with_reducible refine (incunablelaw09_plain.calls  t286 t287 t288 t289 t290 t291 t292 _ A2.out).mono ?_); rintro e w19 ⟨rfl, hb⟩; refine ⟨_, rfl, ?_⟩; replace HB := ak_ (below_step HB.out hb); (try clear hb); (try clear hb2); (try clear hk); (try clear hi)) | ((with_reducible refine gate_callee (f := 15) rfl ?_); refine goesL_ (some 7) rfl rfl Try.func15 (by kernel_rfl) rfl #[.agg #[.int .i64 t286, .int .i64 t287, .int .i64 t288, .int .i64 t289, .int .i64 t290, .int .i64 t291, .int .i64 t292]] rfl (by (try simp only [List.map_toArray, List.map_cons, List.map_nil]); first | done | rfl | (simp only [List.length_drop, List.length_take]; rfl)) ?_; (with_reducible refine (page_Erased.calls k t286 t287 t288 t289 t290 t291 t292 t293 _ A3.out).mono ?_); rintro e w20 ⟨v294, rfl, ho0, hb⟩; refine ⟨_, rfl, ?_⟩; have HO295 := ak_ (Kd.R_lower ho0 (below_size HB.out)); replace HB := ak_ (below_step HB.out hb); (try clear hb); (try clear hb2); (try clear hk); (try clear hi); (try clear ho0); obtain ⟨Ao21, co21, eo21⟩ := Kd.R_slice HO295.out; subst eo21) | ((with_reducible refine gate_dst (N := 8) rfl ?_); refine Kd.N_lit (Kd.slice 5 (Kd.int .u8)) _ 24 ?hg (N' := 8) ?hd (xs := ([t293] : List (List Int))) (inner := [.slice Ao21 t293.length co21]) (ok := (fun _ => True)) (okp := (fun _ => True)) ?hr ?hp (fun _ hk => hk) ((show ∀ k_, w20.heap.size ≤ k_ → (fun _ => True) k_ from fun k_ hk => trivial) _ (Nat.le_refl _)) (Below.refl _ _) (Nat.le_refl _) (by simp) ?_; (case hd => rfl); (case hg => rfl); (case hr => (go_simp; done)); (case hp => exact (Reps.one (show Kd.FK (Kd.slice 5 (Kd.int .u8)) _ _ t293 [.slice Ao21 t293.length co21] from (Kd.FK_slice_mk (Kd.R_reads' (Kd.R_mono (ok' := (fun _ => True)) (HO295.out) (fun k_ hk => trivial))).2.1 (Kd.R_F (Kd.R_mono (ok' := (fun _ => True)) (HO295.out) (fun k_ hk => trivial))))) (Reps.none _ _))); intro v297 w22 ho23 hb hg_ hnew_; clear hg_ hnew_; (rw [← Ny296.out] at ho23); have n0_ := ak_ (Kd.N_lower ho23 (below_size HB.out)); have n1_ := ak_ (below_step HB.out hb); clear HB; clear HO295; have HO298 := n0_; have HB := n1_; clear n0_ n1_; clear hb ho23; obtain ⟨Ao24, co24, eo24⟩ := Kd.N_slice HO298.out; subst eo24) | ((with_reducible refine gate_callee (f := 24) rfl ?_); refine goesL_ (some 9) rfl rfl Try.func24 (by kernel_rfl) rfl #[.agg #[.int .i64 t279, .int .i64 t280, .int .i64 t281, .int .i64 t282, .int .i64 t283, .int .i64 t284, .int .i64 t285], .slice Ao24 y296.length co24] rfl (by (try simp only [List.map_toArray, List.map_cons, List.map_nil]); first | done | rfl | (simp only [List.length_drop, List.length_take]; rfl)) ?_; (with_reducible refine (ladder_Climb.calls k t279 t280 t281 t282 t283 t284 t285 _ _ y296 t299 t302 t303 t304 t305 t306 t307 t308 _ ?side1 ?side2 A4.out).mono ?_); (case side1 => exact (Kd.N_reads' HO298.out).2.2); (case side2 => exact (Kd.N_reads' HO298.out).2.1); rintro e w25 ⟨v300, rfl, ho0, hb⟩; refine ⟨_, rfl, ?_⟩; replace HO298 := ak_ (Kd.N_elder' HO298.out (Kd.R_base ho0) hb); have HO301 := ak_ (Kd.R_lower ho0 (below_size HB.out)); replace HB := ak_ (below_step HB.out hb); (try clear hb); (try clear hb2); (try clear hk); (try clear hi); (try clear ho0)) | ((with_reducible refine gate_dst (N := 1) rfl ?_); refine box_event ?hg (N := 1) ?hd (cs := #[.slice none 0 0, .int .i64 0, .int .i64 0, .int .i64 0, .int .i64 0, .int .i64 0]) (t := 42) ?hr ?_; (case hd => rfl); (case hg => rfl); (case hr => (go_simp; done)); intro gb309 hg w26 hbox hb; replace HO298 := ak_ (Kd.N_below (Kd.N_elderB HO298.out gb309 (Nat.le_of_eq hg.symm)) hb); replace HO301 := ak_ (Kd.R_below HO301.out hb); have BK309 := ak_ (hbox); have GW309 := ak_ ((by rw [hg]; exact (below_size HB.out) : w.heap.size ≤ gb309)); have GE309 := ak_ ((by rw [hg]; exact (below_size HB.out) : w.heap.size ≤ gb309)); replace HB := ak_ (below_step HB.out hb); clear hb hbox hg; obtain ⟨Ao27, co27, eo27⟩ := Kd.R_slice HO301.out; subst eo27; have hcz28_0 : w26.cell? ⟨gb309, 0, none⟩ = some (.slice none 0 0) := (blk_cell BK309.out 0).trans rfl; have hcz28_1 : w26.cell? ⟨gb309, 1, none⟩ = some (.int .i64 0) := (blk_cell BK309.out 1).trans rfl; have hcz28_2 : w26.cell? ⟨gb309, 2, none⟩ = some (.int .i64 0) := (blk_cell BK309.out 2).trans rfl; have hcz28_3 : w26.cell? ⟨gb309, 3, none⟩ = some (.int .i64 0) := (blk_cell BK309.out 3).trans rfl; have hcz28_4 : w26.cell? ⟨gb309, 4, none⟩ = some (.int .i64 0) := (blk_cell BK309.out 4).trans rfl; have hcz28_5 : w26.cell? ⟨gb309, 5, none⟩ = some (.int .i64 0) := (blk_cell BK309.out 5).trans rfl; have hfz28_0 := blk_frozen BK309.out 0; have hfz28_1 := blk_frozen BK309.out 1; have hfz28_2 := blk_frozen BK309.out 2; have hfz28_3 := blk_frozen BK309.out 3; have hfz28_4 := blk_frozen BK309.out 4; have hfz28_5 := blk_frozen BK309.out 5))
   go_ret
   exact ⟨by first | rfl | (simp [errW_none, errW_some] <;> rfl) | (simp [*, errW_none, errW_some] <;> rfl) | (have hz_ : ∀ z : Int, -9223372036854775808 ≤ z → z ≤ 9223372036854775807 → wrap64 z = z := (fun z h1_ h2_ => by unfold wrap64; omega); rw [hz_] <;> first | rfl | omega), by repeat (first | (with_reducible first | exact HB.out | apply below_alloc | apply pw_below_drewN | apply below_drew1 | refine below_set ?_ GE309.out) | exact HB.out)⟩
 ·rw [if_neg c5] at H
  have c5b0 : (t308 == 0) = false := beq_eq_false_iff_ne.mpr c5
  have c5b1 : (t308 != 0) = true := bne_iff_ne.mpr c5
  obtain rfl := Option.some.inj H
  go_enter Try.func22, Try.ntmps22
  go_wp2_with (first | ((with_reducible refine gate_callee (f := 49) rfl ?_); refine goesL_ (some 5) rfl rfl Try.func49 (by kernel_rfl) rfl #[] rfl (by (try simp only [List.map_toArray, List.map_cons, List.map_nil]); done) ?_; (with_reducible refine (incunablelaw09_plain.calls  t279 t280 t281 t282 t283 t284 t285 _ A1.out).mono ?_); rintro e w29 ⟨rfl, hb⟩; refine ⟨_, rfl, ?_⟩; replace HB := ak_ (below_step HB.out hb); (try clear hb); (try clear hb2); (try clear hk); (try clear hi)) | ((with_reducible refine gate_callee (f := 49) rfl ?_); refine goesL_ (some 6) rfl rfl Try.func49 (by kernel_rfl) rfl #[] rfl (by (try simp only [List.map_toArray, List.map_cons, List.map_nil]); done) ?_; (with_reducible refine (incunablelaw09_plain.calls  t286 t287 t288 t289 t290 t291 t292 _ A2.out).mono ?_); rintro e w30 ⟨rfl, hb⟩; refine ⟨_, rfl, ?_⟩; replace HB := ak_ (below_step HB.out hb); (try clear hb); (try clear hb2); (try clear hk); (try clear hi)) | ((with_reducible refine gate_callee (f := 15) rfl ?_); refine goesL_ (some 7) rfl rfl Try.func15 (by kernel_rfl) rfl #[.agg #[.int .i64 t286, .int .i64 t287, .int .i64 t288, .int .i64 t289, .int .i64 t290, .int .i64 t291, .int .i64 t292]] rfl (by (try simp only [List.map_toArray, List.map_cons, List.map_nil]); first | done | rfl | (simp only [List.length_drop, List.length_take]; rfl)) ?_; (with_reducible refine (page_Erased.calls k t286 t287 t288 t289 t290 t291 t292 t293 _ A3.out).mono ?_); rintro e w31 ⟨v294, rfl, ho0, hb⟩; refine ⟨_, rfl, ?_⟩; have HO295 := ak_ (Kd.R_lower ho0 (below_size HB.out)); replace HB := ak_ (below_step HB.out hb); (try clear hb); (try clear hb2); (try clear hk); (try clear hi); (try clear ho0); obtain ⟨Ao32, co32, eo32⟩ := Kd.R_slice HO295.out; subst eo32) | ((with_reducible refine gate_dst (N := 8) rfl ?_); refine Kd.N_lit (Kd.slice 5 (Kd.int .u8)) _ 24 ?hg (N' := 8) ?hd (xs := ([t293] : List (List Int))) (inner := [.slice Ao32 t293.length co32]) (ok := (fun _ => True)) (okp := (fun _ => True)) ?hr ?hp (fun _ hk => hk) ((show ∀ k_, w31.heap.size ≤ k_ → (fun _ => True) k_ from fun k_ hk => trivial) _ (Nat.le_refl _)) (Below.refl _ _) (Nat.le_refl _) (by simp) ?_; (case hd => rfl); (case hg => rfl); (case hr => (go_simp; done)); (case hp => exact (Reps.one (show Kd.FK (Kd.slice 5 (Kd.int .u8)) _ _ t293 [.slice Ao32 t293.length co32] from (Kd.FK_slice_mk (Kd.R_reads' (Kd.R_mono (ok' := (fun _ => True)) (HO295.out) (fun k_ hk => trivial))).2.1 (Kd.R_F (Kd.R_mono (ok' := (fun _ => True)) (HO295.out) (fun k_ hk => trivial))))) (Reps.none _ _))); intro v297 w33 ho34 hb hg_ hnew_; clear hg_ hnew_; (rw [← Ny296.out] at ho34); have n0_ := ak_ (Kd.N_lower ho34 (below_size HB.out)); have n1_ := ak_ (below_step HB.out hb); clear HB; clear HO295; have HO298 := n0_; have HB := n1_; clear n0_ n1_; clear hb ho34; obtain ⟨Ao35, co35, eo35⟩ := Kd.N_slice HO298.out; subst eo35) | ((with_reducible refine gate_callee (f := 24) rfl ?_); refine goesL_ (some 9) rfl rfl Try.func24 (by kernel_rfl) rfl #[.agg #[.int .i64 t279, .int .i64 t280, .int .i64 t281, .int .i64 t282, .int .i64 t283, .int .i64 t284, .int .i64 t285], .slice Ao35 y296.length co35] rfl (by (try simp only [List.map_toArray, List.map_cons, List.map_nil]); first | done | rfl | (simp only [List.length_drop, List.length_take]; rfl)) ?_; (with_reducible refine (ladder_Climb.calls k t279 t280 t281 t282 t283 t284 t285 _ _ y296 t299 t302 t303 t304 t305 t306 t307 t308 _ ?side1 ?side2 A4.out).mono ?_); (case side1 => exact (Kd.N_reads' HO298.out).2.2); (case side2 => exact (Kd.N_reads' HO298.out).2.1); rintro e w36 ⟨v300, rfl, ho0, hb⟩; refine ⟨_, rfl, ?_⟩; replace HO298 := ak_ (Kd.N_elder' HO298.out (Kd.R_base ho0) hb); have HO301 := ak_ (Kd.R_lower ho0 (below_size HB.out)); replace HB := ak_ (below_step HB.out hb); (try clear hb); (try clear hb2); (try clear hk); (try clear hi); (try clear ho0)) | ((with_reducible refine gate_dst (N := 1) rfl ?_); refine box_event ?hg (N := 1) ?hd (cs := #[.slice none 0 0, .int .i64 0, .int .i64 0, .int .i64 0, .int .i64 0, .int .i64 0]) (t := 42) ?hr ?_; (case hd => rfl); (case hg => rfl); (case hr => (go_simp; done)); intro gb309 hg w37 hbox hb; replace HO298 := ak_ (Kd.N_below (Kd.N_elderB HO298.out gb309 (Nat.le_of_eq hg.symm)) hb); replace HO301 := ak_ (Kd.R_below HO301.out hb); have BK309 := ak_ (hbox); have GW309 := ak_ ((by rw [hg]; exact (below_size HB.out) : w.heap.size ≤ gb309)); have GE309 := ak_ ((by rw [hg]; exact (below_size HB.out) : w.heap.size ≤ gb309)); replace HB := ak_ (below_step HB.out hb); clear hb hbox hg; obtain ⟨Ao38, co38, eo38⟩ := Kd.R_slice HO301.out; subst eo38; have hcz39_0 : w37.cell? ⟨gb309, 0, none⟩ = some (.slice none 0 0) := (blk_cell BK309.out 0).trans rfl; have hcz39_1 : w37.cell? ⟨gb309, 1, none⟩ = some (.int .i64 0) := (blk_cell BK309.out 1).trans rfl; have hcz39_2 : w37.cell? ⟨gb309, 2, none⟩ = some (.int .i64 0) := (blk_cell BK309.out 2).trans rfl; have hcz39_3 : w37.cell? ⟨gb309, 3, none⟩ = some (.int .i64 0) := (blk_cell BK309.out 3).trans rfl; have hcz39_4 : w37.cell? ⟨gb309, 4, none⟩ = some (.int .i64 0) := (blk_cell BK309.out 4).trans rfl; have hcz39_5 : w37.cell? ⟨gb309, 5, none⟩ = some (.int .i64 0) := (blk_cell BK309.out 5).trans rfl; have hfz39_0 := blk_frozen BK309.out 0; have hfz39_1 := blk_frozen BK309.out 1; have hfz39_2 := blk_frozen BK309.out 2; have hfz39_3 := blk_frozen BK309.out 3; have hfz39_4 := blk_frozen BK309.out 4; have hfz39_5 := blk_frozen BK309.out 5))
  go_ret
  exact ⟨by first | rfl | (simp [errW_none, errW_some] <;> rfl) | (simp [*, errW_none, errW_some] <;> rfl) | (have hz_ : ∀ z : Int, -9223372036854775808 ≤ z → z ≤ 9223372036854775807 → wrap64 z = z := (fun z h1_ h2_ => by unfold wrap64; omega); rw [hz_] <;> first | rfl | omega), by repeat (first | (with_reducible first | exact HB.out | apply below_alloc | apply pw_below_drewN | apply below_drew1 | refine below_set ?_ GE309.out) | exact HB.out)⟩
def incunablelaw08_Small.f (a0_0 : Int) (a0_1 : Int) (a0_2 : Int) (a0_3 : Int) (a0_4 : Int) (a0_5 : Int) (a0_6 : Int) : Option (Bool) := if a0_3 ≤ 4 then (if a0_4 ≤ 40 then (if a0_3 ≥ 0 then (some (decide (a0_4 ≥ 0))) else (some false)) else (some false)) else (some false)
set_option maxHeartbeats 8000000 in
set_option maxRecDepth 100000 in
theorem incunablelaw08_Small.calls (a0_0 : Int) (a0_1 : Int) (a0_2 : Int) (a0_3 : Int) (a0_4 : Int) (a0_5 : Int) (a0_6 : Int) (r : Bool) (w : World) (h : incunablelaw08_Small.f a0_0 a0_1 a0_2 a0_3 a0_4 a0_5 a0_6 = some r) :
  Calls Try.prog 13 #[.agg #[.int .i64 a0_0, .int .i64 a0_1, .int .i64 a0_2, .int .i64 a0_3, .int .i64 a0_4, .int .i64 a0_5, .int .i64 a0_6]] w fun e w' => e = .returned (.bool r) ∧ Below w.heap.size w w' := by
 have hu23 := Try.underlying23
 have HB := ak_ (Below.refl w.heap.size w)
 have H : (if a0_3 ≤ 4 then (if a0_4 ≤ 40 then (if a0_3 ≥ 0 then (some (decide (a0_4 ≥ 0))) else (some false)) else (some false)) else (some false)) = some r := h
 clear h
 by_cases c2 : a0_3 ≤ 4
 ·rw [if_pos c2] at H
  have c2b0 : decide (a0_3 ≤ 4) = true := decide_eq_true c2
  clear c2
  by_cases c3 : a0_4 ≤ 40
  ·rw [if_pos c3] at H
   have c3b0 : decide (a0_4 ≤ 40) = true := decide_eq_true c3
   clear c3
   by_cases c4 : a0_3 ≥ 0
   ·rw [if_pos c4] at H
    have c4b0 : decide (0 ≤ a0_3) = true := decide_eq_true c4
    clear c4
    obtain rfl := Option.some.inj H
    go_enter Try.func13, Try.ntmps13
    go_wp2_with (first | ((with_reducible refine gate_dst (N := 1) rfl ?_); refine box_event ?hg (N := 1) ?hd (cs := #[.int .i64 a0_0, .int .i64 a0_1, .int .i64 a0_2, .int .i64 a0_3, .int .i64 a0_4, .int .i64 a0_5, .int .i64 a0_6]) (t := 23) ?hr ?_; (case hd => rfl); (case hg => rfl); (case hr => (go_simp; done)); intro gb310 hg w5 hbox hb; have BK310 := ak_ (hbox); have GW310 := ak_ ((by rw [hg]; exact (below_size HB.out) : w.heap.size ≤ gb310)); have GE310 := ak_ ((by rw [hg]; exact (below_size HB.out) : w.heap.size ≤ gb310)); replace HB := ak_ (below_step HB.out hb); clear hb hbox hg; have hcz6_0 : w5.cell? ⟨gb310, 0, none⟩ = some (.int .i64 a0_0) := (blk_cell BK310.out 0).trans rfl; have hcz6_1 : w5.cell? ⟨gb310, 1, none⟩ = some (.int .i64 a0_1) := (blk_cell BK310.out 1).trans rfl; have hcz6_2 : w5.cell? ⟨gb310, 2, none⟩ = some (.int .i64 a0_2) := (blk_cell BK310.out 2).trans rfl; have hcz6_3 : w5.cell? ⟨gb310, 3, none⟩ = some (.int .i64 a0_3) := (blk_cell BK310.out 3).trans rfl; have hcz6_4 : w5.cell? ⟨gb310, 4, none⟩ = some (.int .i64 a0_4) := (blk_cell BK310.out 4).trans rfl; have hcz6_5 : w5.cell? ⟨gb310, 5, none⟩ = some (.int .i64 a0_5) := (blk_cell BK310.out 5).trans rfl; have hcz6_6 : w5.cell? ⟨gb310, 6, none⟩ = some (.int .i64 a0_6) := (blk_cell BK310.out 6).trans rfl; have hfz6_0 := blk_frozen BK310.out 0; have hfz6_1 := blk_frozen BK310.out 1; have hfz6_2 := blk_frozen BK310.out 2; have hfz6_3 := blk_frozen BK310.out 3; have hfz6_4 := blk_frozen BK310.out 4; have hfz6_5 := blk_frozen BK310.out 5; have hfz6_6 := blk_frozen BK310.out 6))
    go_ret
    exact ⟨by first | rfl | (simp [errW_none, errW_some] <;> rfl) | (simp [*, errW_none, errW_some] <;> rfl) | (have hz_ : ∀ z : Int, -9223372036854775808 ≤ z → z ≤ 9223372036854775807 → wrap64 z = z := (fun z h1_ h2_ => by unfold wrap64; omega); rw [hz_] <;> first | rfl | omega), by repeat (first | (with_reducible first | exact HB.out | apply below_alloc | apply pw_below_drewN | apply below_drew1 | refine below_set ?_ GE310.out) | exact HB.out)⟩
   ·rw [if_neg c4] at H
    have c4b0 : decide (0 ≤ a0_3) = false := decide_eq_false c4
    clear c4
    obtain rfl := Option.some.inj H
    go_enter Try.func13, Try.ntmps13
    go_wp2_with (first | ((with_reducible refine gate_dst (N := 1) rfl ?_); refine box_event ?hg (N := 1) ?hd (cs := #[.int .i64 a0_0, .int .i64 a0_1, .int .i64 a0_2, .int .i64 a0_3, .int .i64 a0_4, .int .i64 a0_5, .int .i64 a0_6]) (t := 23) ?hr ?_; (case hd => rfl); (case hg => rfl); (case hr => (go_simp; done)); intro gb310 hg w7 hbox hb; have BK310 := ak_ (hbox); have GW310 := ak_ ((by rw [hg]; exact (below_size HB.out) : w.heap.size ≤ gb310)); have GE310 := ak_ ((by rw [hg]; exact (below_size HB.out) : w.heap.size ≤ gb310)); replace HB := ak_ (below_step HB.out hb); clear hb hbox hg; have hcz8_0 : w7.cell? ⟨gb310, 0, none⟩ = some (.int .i64 a0_0) := (blk_cell BK310.out 0).trans rfl; have hcz8_1 : w7.cell? ⟨gb310, 1, none⟩ = some (.int .i64 a0_1) := (blk_cell BK310.out 1).trans rfl; have hcz8_2 : w7.cell? ⟨gb310, 2, none⟩ = some (.int .i64 a0_2) := (blk_cell BK310.out 2).trans rfl; have hcz8_3 : w7.cell? ⟨gb310, 3, none⟩ = some (.int .i64 a0_3) := (blk_cell BK310.out 3).trans rfl; have hcz8_4 : w7.cell? ⟨gb310, 4, none⟩ = some (.int .i64 a0_4) := (blk_cell BK310.out 4).trans rfl; have hcz8_5 : w7.cell? ⟨gb310, 5, none⟩ = some (.int .i64 a0_5) := (blk_cell BK310.out 5).trans rfl; have hcz8_6 : w7.cell? ⟨gb310, 6, none⟩ = some (.int .i64 a0_6) := (blk_cell BK310.out 6).trans rfl; have hfz8_0 := blk_frozen BK310.out 0; have hfz8_1 := blk_frozen BK310.out 1; have hfz8_2 := blk_frozen BK310.out 2; have hfz8_3 := blk_frozen BK310.out 3; have hfz8_4 := blk_frozen BK310.out 4; have hfz8_5 := blk_frozen BK310.out 5; have hfz8_6 := blk_frozen BK310.out 6))
    go_ret
    exact ⟨by first | rfl | (simp [errW_none, errW_some] <;> rfl) | (simp [*, errW_none, errW_some] <;> rfl) | (have hz_ : ∀ z : Int, -9223372036854775808 ≤ z → z ≤ 9223372036854775807 → wrap64 z = z := (fun z h1_ h2_ => by unfold wrap64; omega); rw [hz_] <;> first | rfl | omega), by repeat (first | (with_reducible first | exact HB.out | apply below_alloc | apply pw_below_drewN | apply below_drew1 | refine below_set ?_ GE310.out) | exact HB.out)⟩
  ·rw [if_neg c3] at H
   have c3b0 : decide (a0_4 ≤ 40) = false := decide_eq_false c3
   clear c3
   obtain rfl := Option.some.inj H
   go_enter Try.func13, Try.ntmps13
   go_wp2_with (first | ((with_reducible refine gate_dst (N := 1) rfl ?_); refine box_event ?hg (N := 1) ?hd (cs := #[.int .i64 a0_0, .int .i64 a0_1, .int .i64 a0_2, .int .i64 a0_3, .int .i64 a0_4, .int .i64 a0_5, .int .i64 a0_6]) (t := 23) ?hr ?_; (case hd => rfl); (case hg => rfl); (case hr => (go_simp; done)); intro gb310 hg w9 hbox hb; have BK310 := ak_ (hbox); have GW310 := ak_ ((by rw [hg]; exact (below_size HB.out) : w.heap.size ≤ gb310)); have GE310 := ak_ ((by rw [hg]; exact (below_size HB.out) : w.heap.size ≤ gb310)); replace HB := ak_ (below_step HB.out hb); clear hb hbox hg; have hcz10_0 : w9.cell? ⟨gb310, 0, none⟩ = some (.int .i64 a0_0) := (blk_cell BK310.out 0).trans rfl; have hcz10_1 : w9.cell? ⟨gb310, 1, none⟩ = some (.int .i64 a0_1) := (blk_cell BK310.out 1).trans rfl; have hcz10_2 : w9.cell? ⟨gb310, 2, none⟩ = some (.int .i64 a0_2) := (blk_cell BK310.out 2).trans rfl; have hcz10_3 : w9.cell? ⟨gb310, 3, none⟩ = some (.int .i64 a0_3) := (blk_cell BK310.out 3).trans rfl; have hcz10_4 : w9.cell? ⟨gb310, 4, none⟩ = some (.int .i64 a0_4) := (blk_cell BK310.out 4).trans rfl; have hcz10_5 : w9.cell? ⟨gb310, 5, none⟩ = some (.int .i64 a0_5) := (blk_cell BK310.out 5).trans rfl; have hcz10_6 : w9.cell? ⟨gb310, 6, none⟩ = some (.int .i64 a0_6) := (blk_cell BK310.out 6).trans rfl; have hfz10_0 := blk_frozen BK310.out 0; have hfz10_1 := blk_frozen BK310.out 1; have hfz10_2 := blk_frozen BK310.out 2; have hfz10_3 := blk_frozen BK310.out 3; have hfz10_4 := blk_frozen BK310.out 4; have hfz10_5 := blk_frozen BK310.out 5; have hfz10_6 := blk_frozen BK310.out 6))
   go_ret
   exact ⟨by first | rfl | (simp [errW_none, errW_some] <;> rfl) | (simp [*, errW_none, errW_some] <;> rfl) | (have hz_ : ∀ z : Int, -9223372036854775808 ≤ z → z ≤ 9223372036854775807 → wrap64 z = z := (fun z h1_ h2_ => by unfold wrap64; omega); rw [hz_] <;> first | rfl | omega), by repeat (first | (with_reducible first | exact HB.out | apply below_alloc | apply pw_below_drewN | apply below_drew1 | refine below_set ?_ GE310.out) | exact HB.out)⟩
 ·rw [if_neg c2] at H
  have c2b0 : decide (a0_3 ≤ 4) = false := decide_eq_false c2
  clear c2
  obtain rfl := Option.some.inj H
  go_enter Try.func13, Try.ntmps13
  go_wp2_with (first | ((with_reducible refine gate_dst (N := 1) rfl ?_); refine box_event ?hg (N := 1) ?hd (cs := #[.int .i64 a0_0, .int .i64 a0_1, .int .i64 a0_2, .int .i64 a0_3, .int .i64 a0_4, .int .i64 a0_5, .int .i64 a0_6]) (t := 23) ?hr ?_; (case hd => rfl); (case hg => rfl); (case hr => (go_simp; done)); intro gb310 hg w11 hbox hb; have BK310 := ak_ (hbox); have GW310 := ak_ ((by rw [hg]; exact (below_size HB.out) : w.heap.size ≤ gb310)); have GE310 := ak_ ((by rw [hg]; exact (below_size HB.out) : w.heap.size ≤ gb310)); replace HB := ak_ (below_step HB.out hb); clear hb hbox hg; have hcz12_0 : w11.cell? ⟨gb310, 0, none⟩ = some (.int .i64 a0_0) := (blk_cell BK310.out 0).trans rfl; have hcz12_1 : w11.cell? ⟨gb310, 1, none⟩ = some (.int .i64 a0_1) := (blk_cell BK310.out 1).trans rfl; have hcz12_2 : w11.cell? ⟨gb310, 2, none⟩ = some (.int .i64 a0_2) := (blk_cell BK310.out 2).trans rfl; have hcz12_3 : w11.cell? ⟨gb310, 3, none⟩ = some (.int .i64 a0_3) := (blk_cell BK310.out 3).trans rfl; have hcz12_4 : w11.cell? ⟨gb310, 4, none⟩ = some (.int .i64 a0_4) := (blk_cell BK310.out 4).trans rfl; have hcz12_5 : w11.cell? ⟨gb310, 5, none⟩ = some (.int .i64 a0_5) := (blk_cell BK310.out 5).trans rfl; have hcz12_6 : w11.cell? ⟨gb310, 6, none⟩ = some (.int .i64 a0_6) := (blk_cell BK310.out 6).trans rfl; have hfz12_0 := blk_frozen BK310.out 0; have hfz12_1 := blk_frozen BK310.out 1; have hfz12_2 := blk_frozen BK310.out 2; have hfz12_3 := blk_frozen BK310.out 3; have hfz12_4 := blk_frozen BK310.out 4; have hfz12_5 := blk_frozen BK310.out 5; have hfz12_6 := blk_frozen BK310.out 6))
  go_ret
  exact ⟨by first | rfl | (simp [errW_none, errW_some] <;> rfl) | (simp [*, errW_none, errW_some] <;> rfl) | (have hz_ : ∀ z : Int, -9223372036854775808 ≤ z → z ≤ 9223372036854775807 → wrap64 z = z := (fun z h1_ h2_ => by unfold wrap64; omega); rw [hz_] <;> first | rfl | omega), by repeat (first | (with_reducible first | exact HB.out | apply below_alloc | apply pw_below_drewN | apply below_drew1 | refine below_set ?_ GE310.out) | exact HB.out)⟩
def incunablelaw09_few.l0 : Nat → List (List Int) → List (List Int) → Int → Int → Int → Int → Int → Int → Int → Int → Int → Option (Bool)
 | 0, _, _, _, _, _, _, _, _, _, _, _ => none
 | k + 1, x1, x7, x8, x9, x312000, x312001, x312002, x312003, x312004, x312005, x312006 => if x9 < x8 then (if 0 ≤ x9 then (if x9 < (x7.length : Int) then (if ((rd_L3 x7 x9).length : Int) > 400 then (some false) else (incunablelaw09_few.l0 k x1 x7 x8 (wrap64 (x9 + 1)) x312000 x312001 x312002 x312003 x312004 x312005 x312006)) else (none)) else (none)) else ((incunablelaw08_Small.f x312000 x312001 x312002 x312003 x312004 x312005 x312006).bind fun t313 => (if t313 = true then (some (decide ((x1.length : Int) ≤ 12))) else (some false)))
def incunablelaw09_few.f (k : Nat) (a0_0 : Int) (a0_1 : Int) (a0_2 : Int) (a0_3 : Int) (a0_4 : Int) (a0_5 : Int) (a0_6 : Int) (l1 : List (List Int)) : Option (Bool) := incunablelaw09_few.l0 k l1 l1 (l1.length : Int) 0 a0_0 a0_1 a0_2 a0_3 a0_4 a0_5 a0_6
theorem incunablelaw09_few.mono_l : ∀ k, (∀ y0 y1 y2 y3 y4 y5 y6 y7 y8 y9 y10, LeO (incunablelaw09_few.l0 k y0 y1 y2 y3 y4 y5 y6 y7 y8 y9 y10) (incunablelaw09_few.l0 (k + 1) y0 y1 y2 y3 y4 y5 y6 y7 y8 y9 y10))
 | 0 => fun _ _ _ _ _ _ _ _ _ _ _ r h => by simp [incunablelaw09_few.l0] at h
 | k + 1 => by
  have ih0 := incunablelaw09_few.mono_l k
  ·intro y0 y1 y2 y3 y4 y5 y6 y7 y8 y9 y10
   unfold incunablelaw09_few.l0
   repeat' first
   | (with_reducible exact ih0 _ _ _ _ _ _ _ _ _ _ _)
   | (with_reducible exact LeO.refl _)
   | (with_reducible exact LeO.none _)
   | (with_reducible refine LeO.ite ?_ ?_)
   | (with_reducible refine LeO.bind ?_ (fun _ => ?_))
theorem incunablelaw09_few.mono : ∀ a0 a1 a2 a3 a4 a5 a6 a7 k, LeO (incunablelaw09_few.f k a0 a1 a2 a3 a4 a5 a6 a7) (incunablelaw09_few.f (k + 1) a0 a1 a2 a3 a4 a5 a6 a7) := by
 intro a0 a1 a2 a3 a4 a5 a6 a7 k
 have ih0 := incunablelaw09_few.mono_l k
 unfold incunablelaw09_few.f
 repeat' first
  | (with_reducible exact ih0 _ _ _ _ _ _ _ _ _ _ _)
  | (with_reducible exact LeO.refl _)
  | (with_reducible exact LeO.none _)
  | (with_reducible refine LeO.ite ?_ ?_)
  | (with_reducible refine LeO.bind ?_ (fun _ => ?_))
set_option maxHeartbeats 8000000 in
set_option maxRecDepth 100000 in
theorem incunablelaw09_few.calls (k : Nat) (a0_0 : Int) (a0_1 : Int) (a0_2 : Int) (a0_3 : Int) (a0_4 : Int) (a0_5 : Int) (a0_6 : Int) (A1 : Option Addr) (c1 : Nat) (l1 : List (List Int)) (r : Bool) (w : World) (hr1 : Kd.C (Kd.slice 5 (Kd.int .u8)) w A1 l1.length l1) (hc1 : l1.length ≤ c1) (h : incunablelaw09_few.f k a0_0 a0_1 a0_2 a0_3 a0_4 a0_5 a0_6 l1 = some r) :
  Calls Try.prog 23 #[.agg #[.int .i64 a0_0, .int .i64 a0_1, .int .i64 a0_2, .int .i64 a0_3, .int .i64 a0_4, .int .i64 a0_5, .int .i64 a0_6], .slice A1 l1.length c1] w fun e w' => e = .returned (.bool r) ∧ Below w.heap.size w w' := by
 have hu23 := Try.underlying23
 have HR1 := ak_ hr1
 have HC1 := ak_ hc1
 clear hr1 hc1
 have HB := ak_ (Below.refl w.heap.size w)
 have H : (incunablelaw09_few.l0 k l1 l1 (l1.length : Int) 0 a0_0 a0_1 a0_2 a0_3 a0_4 a0_5 a0_6) = some r := h
 clear h
 have H' := ak_ H
 clear H
 go_enter Try.func23, Try.ntmps23
 go_wp2_with (first | ((with_reducible refine gate_dst (N := 2) rfl ?_); (try (refine gate_guard (by rfl) ?_; dsimp only)); refine box_event ?hg (N := 2) ?hd (cs := #[.int .i64 a0_0, .int .i64 a0_1, .int .i64 a0_2, .int .i64 a0_3, .int .i64 a0_4, .int .i64 a0_5, .int .i64 a0_6]) (t := 23) ?hr ?_; (case hd => rfl); (case hg => rfl); (case hr => (go_simp; done)); intro gb311 hg w3 hbox hb; have BK311 := ak_ (hbox); have GW311 := ak_ ((by rw [hg]; exact (below_size HB.out) : w.heap.size ≤ gb311)); have GE311 := ak_ ((by rw [hg]; exact (below_size HB.out) : w.heap.size ≤ gb311)); replace HB := ak_ (below_step HB.out hb); clear hb hbox hg))
 go_loopg [9] k (fun kq v9 w' => ∃ (x9_1 : Int), v9 = .int .i64 x9_1 ∧ Aside0 (incunablelaw09_few.l0 kq l1 l1 (l1.length : Int) x9_1 a0_0 a0_1 a0_2 a0_3 a0_4 a0_5 a0_6 = some r) ∧ Aside0 (kq ≤ k) ∧ Aside0 (w'.heap[gb311]? = some (.cells #[.int .i64 a0_0, .int .i64 a0_1, .int .i64 a0_2, .int .i64 a0_3, .int .i64 a0_4, .int .i64 a0_5, .int .i64 a0_6] 23 (0, 0))) ∧ Aside0 (Below w.heap.size w w'))
 case atStart => exact ⟨(0), (by rfl), H', ⟨Nat.le_refl _⟩, ⟨BK311.out⟩, ⟨by repeat (first | (with_reducible first | exact HB.out | apply below_alloc | apply pw_below_drewN | apply below_drew1 | refine below_set ?_ GE311.out) | exact HB.out)⟩⟩
 case round =>
  clear H'
  obtain ⟨x9_1, rfl, HA, HK1, BK311, HB⟩ := hrel
  cases gk with
  | zero => exact absurd HA.out (by simp [incunablelaw09_few.l0])
  | succ k1 =>
   have H := HA.out
   clear HA
   simp only [incunablelaw09_few.l0] at H
   by_cases c4 : x9_1 < (l1.length : Int)
   ·rw [if_pos c4] at H
    have c4b0 : decide (x9_1 < (l1.length : Int)) = true := decide_eq_true c4
    clear c4
    by_cases c5 : 0 ≤ x9_1
    ·rw [if_pos c5] at H
     have c5b0 : decide (0 ≤ x9_1) = true := decide_eq_true c5
     clear c5
     by_cases c6 : x9_1 < (l1.length : Int)
     ·rw [if_pos c6] at H
      have c6b0 : decide (x9_1 < (l1.length : Int)) = true := decide_eq_true c6
      clear c6
      by_cases c7 : ((rd_L3 l1 x9_1).length : Int) > 400
      ·rw [if_pos c7] at H
       have c7b0 : decide (400 < ((rd_L3 l1 x9_1).length : Int)) = true := decide_eq_true c7
       have c7b1 : decide (400 < (rd_L3 l1 x9_1).length) = true := decide_eq_true (by omega)
       clear c7
       obtain rfl := Option.some.inj H
       have p312 : 0 ≤ (x9_1 : Int) := of_decide_eq_true (by with_reducible assumption)
       have q312 : x9_1 < (l1.length : Int) := of_decide_eq_true (by with_reducible assumption)
       obtain ⟨ad312, A312_0, c312_0, e312, hx312_0, hl312_0, hi312_0⟩ := at_L3 HR1.out x9_1 p312 q312
       cases e312
       replace hx312_0 := (HB.out.cell (World.block_lt_of_cell? w _ hx312_0)).trans hx312_0
       have HR312_0 := ak_ hi312_0
       have HC312_0 := ak_ hl312_0
       clear hi312_0 hl312_0
       replace p312 := eq_true p312
       replace q312 := eq_true q312
       go_wp2
       go_ret
       exact ⟨by first | rfl | (simp [errW_none, errW_some] <;> rfl) | (simp [*, errW_none, errW_some] <;> rfl) | (have hz_ : ∀ z : Int, -9223372036854775808 ≤ z → z ≤ 9223372036854775807 → wrap64 z = z := (fun z h1_ h2_ => by unfold wrap64; omega); rw [hz_] <;> first | rfl | omega), by repeat (first | (with_reducible first | exact HB.out | apply below_alloc | apply pw_below_drewN | apply below_drew1 | refine below_set ?_ GE311.out) | exact HB.out)⟩
      ·rw [if_neg c7] at H
       have c7b0 : decide (400 < ((rd_L3 l1 x9_1).length : Int)) = false := decide_eq_false c7
       have c7b1 : decide (400 < (rd_L3 l1 x9_1).length) = false := decide_eq_false (by omega)
       clear c7
       have H' := ak_ H
       clear H
       have p312 : 0 ≤ (x9_1 : Int) := of_decide_eq_true (by with_reducible assumption)
       have q312 : x9_1 < (l1.length : Int) := of_decide_eq_true (by with_reducible assumption)
       obtain ⟨ad312, A312_0, c312_0, e312, hx312_0, hl312_0, hi312_0⟩ := at_L3 HR1.out x9_1 p312 q312
       cases e312
       replace hx312_0 := (HB.out.cell (World.block_lt_of_cell? w _ hx312_0)).trans hx312_0
       have HR312_0 := ak_ hi312_0
       have HC312_0 := ak_ hl312_0
       clear hi312_0 hl312_0
       replace p312 := eq_true p312
       replace q312 := eq_true q312
       go_wp2
       go_roundg k1
       case measure => have := HK1.out; omega
       case rel => exact ⟨(wrap64 (x9_1 + 1)), (by rfl), H', ⟨by have := HK1.out; omega⟩, ⟨BK311.out⟩, ⟨by repeat (first | (with_reducible first | exact HB.out | apply below_alloc | apply pw_below_drewN | apply below_drew1 | refine below_set ?_ GE311.out) | exact HB.out)⟩⟩
     ·rw [if_neg c6] at H
      exact absurd H (by simp)
    ·rw [if_neg c5] at H
     exact absurd H (by simp)
   ·rw [if_neg c4] at H
    have c4b0 : decide (x9_1 < (l1.length : Int)) = false := decide_eq_false c4
    clear c4
    replace H := Option.bind_eq_some_iff.mp H
    obtain ⟨t313, A80, H⟩ := H
    replace H : (if t313 = true then (some (decide ((l1.length : Int) ≤ 12))) else (some false)) = some r := H
    have A8 := ak_ A80
    clear A80
    by_cases c9 : t313 = true
    ·subst c9
     have H1 : (some (decide ((l1.length : Int) ≤ 12))) = some r := by rw [if_pos rfl] at H; exact H
     clear H
     have H := H1
     clear H1
     obtain rfl := Option.some.inj H
     obtain ⟨hcz10_0, hcz10_1, hcz10_2, hcz10_3, hcz10_4, hcz10_5, hcz10_6⟩ := cells7 BK311.out
     obtain ⟨hfz10_0, hfz10_1, hfz10_2, hfz10_3, hfz10_4, hfz10_5, hfz10_6⟩ := froz7 BK311.out
     go_wp2_with (first | ((with_reducible refine gate_callee (f := 13) rfl ?_); refine goesL_ (some 18) rfl rfl Try.func13 (by kernel_rfl) rfl #[.agg #[.int .i64 a0_0, .int .i64 a0_1, .int .i64 a0_2, .int .i64 a0_3, .int .i64 a0_4, .int .i64 a0_5, .int .i64 a0_6]] rfl (by (try simp only [List.map_toArray, List.map_cons, List.map_nil]); first | done | rfl | (simp only [List.length_drop, List.length_take]; rfl)) ?_; (with_reducible refine (incunablelaw08_Small.calls a0_0 a0_1 a0_2 a0_3 a0_4 a0_5 a0_6 true _ A8.out).mono ?_); rintro e w11 ⟨rfl, hb⟩; refine ⟨_, rfl, ?_⟩; replace BK311 := ak_ (blk_below BK311.out hb); replace HB := ak_ (below_step HB.out hb); (try clear hb); (try clear hb2); (try clear hk); (try clear hi)))
     go_ret
     exact ⟨by first | rfl | (simp [errW_none, errW_some] <;> rfl) | (simp [*, errW_none, errW_some] <;> rfl) | (have hz_ : ∀ z : Int, -9223372036854775808 ≤ z → z ≤ 9223372036854775807 → wrap64 z = z := (fun z h1_ h2_ => by unfold wrap64; omega); rw [hz_] <;> first | rfl | omega), by repeat (first | (with_reducible first | exact HB.out | apply below_alloc | apply pw_below_drewN | apply below_drew1 | refine below_set ?_ GE311.out) | exact HB.out)⟩
    ·replace c9 := Bool.eq_false_iff.mpr c9
     subst c9
     have H1 : (some false) = some r := by rw [if_neg (show ¬ (false = true) by decide)] at H; exact H
     clear H
     have H := H1
     clear H1
     obtain rfl := Option.some.inj H
     obtain ⟨hcz12_0, hcz12_1, hcz12_2, hcz12_3, hcz12_4, hcz12_5, hcz12_6⟩ := cells7 BK311.out
     obtain ⟨hfz12_0, hfz12_1, hfz12_2, hfz12_3, hfz12_4, hfz12_5, hfz12_6⟩ := froz7 BK311.out
     go_wp2_with (first | ((with_reducible refine gate_callee (f := 13) rfl ?_); refine goesL_ (some 18) rfl rfl Try.func13 (by kernel_rfl) rfl #[.agg #[.int .i64 a0_0, .int .i64 a0_1, .int .i64 a0_2, .int .i64 a0_3, .int .i64 a0_4, .int .i64 a0_5, .int .i64 a0_6]] rfl (by (try simp only [List.map_toArray, List.map_cons, List.map_nil]); first | done | rfl | (simp only [List.length_drop, List.length_take]; rfl)) ?_; (with_reducible refine (incunablelaw08_Small.calls a0_0 a0_1 a0_2 a0_3 a0_4 a0_5 a0_6 false _ A8.out).mono ?_); rintro e w13 ⟨rfl, hb⟩; refine ⟨_, rfl, ?_⟩; replace BK311 := ak_ (blk_below BK311.out hb); replace HB := ak_ (below_step HB.out hb); (try clear hb); (try clear hb2); (try clear hk); (try clear hi)))
     go_ret
     exact ⟨by first | rfl | (simp [errW_none, errW_some] <;> rfl) | (simp [*, errW_none, errW_some] <;> rfl) | (have hz_ : ∀ z : Int, -9223372036854775808 ≤ z → z ≤ 9223372036854775807 → wrap64 z = z := (fun z h1_ h2_ => by unfold wrap64; omega); rw [hz_] <;> first | rfl | omega), by repeat (first | (with_reducible first | exact HB.out | apply below_alloc | apply pw_below_drewN | apply below_drew1 | refine below_set ?_ GE311.out) | exact HB.out)⟩
def incunableref01_Same.l0 : Nat → List Int → List Int → Int → Option (Bool)
 | 0, _, _, _ => none
 | k + 1, x0, x1, x5 => if x5 < (x0.length : Int) then (if 0 ≤ x5 then (if x5 < (x1.length : Int) then (if (rd x0 x5) = (rd x1 x5) then (incunableref01_Same.l0 k x0 x1 (wrap64 (x5 + 1))) else (some false)) else (none)) else (none)) else (some true)
def incunableref01_Same.f (k : Nat) (l0 : List Int) (l1 : List Int) : Option (Bool) := if (l0.length : Int) = (l1.length : Int) then (incunableref01_Same.l0 k l0 l1 0) else (some false)
theorem incunableref01_Same.mono_l : ∀ k, (∀ y0 y1 y2, LeO (incunableref01_Same.l0 k y0 y1 y2) (incunableref01_Same.l0 (k + 1) y0 y1 y2))
 | 0 => fun _ _ _ r h => by simp [incunableref01_Same.l0] at h
 | k + 1 => by
  have ih0 := incunableref01_Same.mono_l k
  ·intro y0 y1 y2
   unfold incunableref01_Same.l0
   repeat' first
   | (with_reducible exact ih0 _ _ _)
   | (with_reducible exact LeO.refl _)
   | (with_reducible exact LeO.none _)
   | (with_reducible refine LeO.ite ?_ ?_)
   | (with_reducible refine LeO.bind ?_ (fun _ => ?_))
theorem incunableref01_Same.mono : ∀ a0 a1 k, LeO (incunableref01_Same.f k a0 a1) (incunableref01_Same.f (k + 1) a0 a1) := by
 intro a0 a1 k
 have ih0 := incunableref01_Same.mono_l k
 unfold incunableref01_Same.f
 repeat' first
  | (with_reducible exact ih0 _ _ _)
  | (with_reducible exact LeO.refl _)
  | (with_reducible exact LeO.none _)
  | (with_reducible refine LeO.ite ?_ ?_)
  | (with_reducible refine LeO.bind ?_ (fun _ => ?_))
set_option maxHeartbeats 8000000 in
set_option maxRecDepth 100000 in
theorem incunableref01_Same.calls (k : Nat) (A0 : Option Addr) (c0 : Nat) (l0 : List Int) (A1 : Option Addr) (c1 : Nat) (l1 : List Int) (r : Bool) (w : World) (hr0 : Kd.C (Kd.int .u8) w A0 l0.length l0) (hc0 : l0.length ≤ c0) (hr1 : Kd.C (Kd.int .u8) w A1 l1.length l1) (hc1 : l1.length ≤ c1) (h : incunableref01_Same.f k l0 l1 = some r) :
  Calls Try.prog 20 #[.slice A0 l0.length c0, .slice A1 l1.length c1] w fun e w' => e = .returned (.bool r) ∧ Drawn0 w w' := by
 have HR0 := ak_ hr0
 have HC0 := ak_ hc0
 clear hr0 hc0
 have HR1 := ak_ hr1
 have HC1 := ak_ hc1
 clear hr1 hc1
 have H : (if (l0.length : Int) = (l1.length : Int) then (incunableref01_Same.l0 k l0 l1 0) else (some false)) = some r := h
 clear h
 by_cases c3 : (l0.length : Int) = (l1.length : Int)
 ·rw [if_pos c3] at H
  have c3b0 : ((l0.length : Int) == (l1.length : Int)) = true := beq_iff_eq.mpr c3
  have c3b1 : ((l0.length : Int) != (l1.length : Int)) = false := bne_eq_false_iff_eq.mpr c3
  have c3b2 : (l0.length == l1.length) = true := by first | simpa using c3 | (simp at c3 ⊢; omega)
  clear c3
  have H' := ak_ H
  clear H
  go_enter Try.func20, Try.ntmps20
  go_wp2
  repeat (go_quiet (fail); try go_wp2)
  go_loopg [5] k (fun kq v5 w' => ∃ (x5_1 : Int), v5 = .int .i64 x5_1 ∧ Aside0 (incunableref01_Same.l0 kq l0 l1 x5_1 = some r) ∧ Aside0 (kq ≤ k) ∧ Drawn0 w w')
  case atStart => exact ⟨(0), (by rfl), H', ⟨Nat.le_refl _⟩, by repeat (first | exact Drawn0.refl _ | apply Drawn0.step)⟩
  case round =>
   clear H'
   clear c3b0 c3b1 c3b2
   obtain ⟨x5_1, rfl, HA, HK1, ⟨m1, rfl⟩⟩ := hrel
   cases gk with
   | zero => exact absurd HA.out (by simp [incunableref01_Same.l0])
   | succ k1 =>
    have H := HA.out
    clear HA
    simp only [incunableref01_Same.l0] at H
    by_cases c4 : x5_1 < (l0.length : Int)
    ·rw [if_pos c4] at H
     have c4b0 : decide (x5_1 < (l0.length : Int)) = true := decide_eq_true c4
     clear c4
     by_cases c5 : 0 ≤ x5_1
     ·rw [if_pos c5] at H
      have c5b0 : decide (0 ≤ x5_1) = true := decide_eq_true c5
      clear c5
      by_cases c6 : x5_1 < (l1.length : Int)
      ·rw [if_pos c6] at H
       have c6b0 : decide (x5_1 < (l1.length : Int)) = true := decide_eq_true c6
       clear c6
       by_cases c7 : (rd l0 x5_1) = (rd l1 x5_1)
       ·rw [if_pos c7] at H
        have c7b0 : ((rd l0 x5_1) == (rd l1 x5_1)) = true := beq_iff_eq.mpr c7
        have c7b1 : ((rd l0 x5_1) != (rd l1 x5_1)) = false := bne_eq_false_iff_eq.mpr c7
        clear c7
        have H' := ak_ H
        clear H
        have p314 : 0 ≤ (x5_1 : Int) := of_decide_eq_true (by with_reducible assumption)
        have q314 : x5_1 < (l0.length : Int) := of_decide_eq_true (by with_reducible assumption)
        obtain ⟨ad314, e314, hx314_0⟩ := Kd.at_int HR0.out x5_1 p314 q314
        cases e314
        replace p314 := eq_true p314
        replace q314 := eq_true q314
        have p315 : 0 ≤ (x5_1 : Int) := of_decide_eq_true (by with_reducible assumption)
        have q315 : x5_1 < (l1.length : Int) := of_decide_eq_true (by with_reducible assumption)
        obtain ⟨ad315, e315, hx315_0⟩ := Kd.at_int HR1.out x5_1 p315 q315
        cases e315
        replace p315 := eq_true p315
        replace q315 := eq_true q315
        go_wp2
        repeat (go_quiet (fail); try go_wp2)
        go_roundg k1
        case measure => have := HK1.out; omega
        case rel => exact ⟨(wrap64 (x5_1 + 1)), (by rfl), H', ⟨by have := HK1.out; omega⟩, by repeat (first | exact Drawn0.refl _ | apply Drawn0.step)⟩
       ·rw [if_neg c7] at H
        have c7b0 : ((rd l0 x5_1) == (rd l1 x5_1)) = false := beq_eq_false_iff_ne.mpr c7
        have c7b1 : ((rd l0 x5_1) != (rd l1 x5_1)) = true := bne_iff_ne.mpr c7
        obtain rfl := Option.some.inj H
        have p314 : 0 ≤ (x5_1 : Int) := of_decide_eq_true (by with_reducible assumption)
        have q314 : x5_1 < (l0.length : Int) := of_decide_eq_true (by with_reducible assumption)
        obtain ⟨ad314, e314, hx314_0⟩ := Kd.at_int HR0.out x5_1 p314 q314
        cases e314
        replace p314 := eq_true p314
        replace q314 := eq_true q314
        have p315 : 0 ≤ (x5_1 : Int) := of_decide_eq_true (by with_reducible assumption)
        have q315 : x5_1 < (l1.length : Int) := of_decide_eq_true (by with_reducible assumption)
        obtain ⟨ad315, e315, hx315_0⟩ := Kd.at_int HR1.out x5_1 p315 q315
        cases e315
        replace p315 := eq_true p315
        replace q315 := eq_true q315
        go_wp2
        repeat (go_quiet (fail); try go_wp2)
        go_ret
        exact ⟨by rfl, by repeat (first | exact Drawn0.refl _ | apply Drawn0.step)⟩
      ·rw [if_neg c6] at H
       exact absurd H (by simp)
     ·rw [if_neg c5] at H
      exact absurd H (by simp)
    ·rw [if_neg c4] at H
     have c4b0 : decide (x5_1 < (l0.length : Int)) = false := decide_eq_false c4
     clear c4
     obtain rfl := Option.some.inj H
     go_wp2
     repeat (go_quiet (fail); try go_wp2)
     go_ret
     exact ⟨by rfl, by repeat (first | exact Drawn0.refl _ | apply Drawn0.step)⟩
 ·rw [if_neg c3] at H
  have c3b0 : ((l0.length : Int) == (l1.length : Int)) = false := beq_eq_false_iff_ne.mpr c3
  have c3b1 : ((l0.length : Int) != (l1.length : Int)) = true := bne_iff_ne.mpr c3
  have c3b2 : (l0.length == l1.length) = false := by first | simpa using c3 | (simp at c3 ⊢; omega)
  obtain rfl := Option.some.inj H
  go_enter Try.func20, Try.ntmps20
  go_wp2
  repeat (go_quiet (fail); try go_wp2)
  go_ret
  exact ⟨by rfl, by repeat (first | exact Drawn0.refl _ | apply Drawn0.step)⟩
def incunablelaw09_Same.f (k : Nat) (l0_0 : List Int) (a0_1 : Int) (a0_2 : Int) (a0_3 : Int) (a0_4 : Int) (a0_5 : Int) (l1_0 : List Int) (a1_1 : Int) (a1_2 : Int) (a1_3 : Int) (a1_4 : Int) (a1_5 : Int) : Option (Bool) := (incunableref01_Same.f k l0_0 l1_0).bind fun t318 => (if t318 = true then (if (a0_1 == a1_1 && (a0_2 == a1_2 && (a0_3 == a1_3 && (a0_4 == a1_4)))) = true then (some (a0_5 == a1_5)) else (some false)) else (some false))
theorem incunablelaw09_Same.mono : ∀ a0 a1 a2 a3 a4 a5 a6 a7 a8 a9 a10 a11 k, LeO (incunablelaw09_Same.f k a0 a1 a2 a3 a4 a5 a6 a7 a8 a9 a10 a11) (incunablelaw09_Same.f (k + 1) a0 a1 a2 a3 a4 a5 a6 a7 a8 a9 a10 a11) := by
 intro a0 a1 a2 a3 a4 a5 a6 a7 a8 a9 a10 a11 k
 unfold incunablelaw09_Same.f
 repeat' first
  | (with_reducible exact incunableref01_Same.mono _ _ _)
  | (with_reducible exact LeO.refl _)
  | (with_reducible exact LeO.none _)
  | (with_reducible refine LeO.ite ?_ ?_)
  | (with_reducible refine LeO.bind ?_ (fun _ => ?_))
set_option maxHeartbeats 8000000 in
set_option maxRecDepth 100000 in
theorem incunablelaw09_Same.calls (k : Nat) (A0_0 : Option Addr) (c0_0 : Nat) (l0_0 : List Int) (a0_1 : Int) (a0_2 : Int) (a0_3 : Int) (a0_4 : Int) (a0_5 : Int) (A1_0 : Option Addr) (c1_0 : Nat) (l1_0 : List Int) (a1_1 : Int) (a1_2 : Int) (a1_3 : Int) (a1_4 : Int) (a1_5 : Int) (r : Bool) (w : World) (hr0_0 : Kd.C (Kd.int .u8) w A0_0 l0_0.length l0_0) (hc0_0 : l0_0.length ≤ c0_0) (hr1_0 : Kd.C (Kd.int .u8) w A1_0 l1_0.length l1_0) (hc1_0 : l1_0.length ≤ c1_0) (h : incunablelaw09_Same.f k l0_0 a0_1 a0_2 a0_3 a0_4 a0_5 l1_0 a1_1 a1_2 a1_3 a1_4 a1_5 = some r) :
  Calls Try.prog 26 #[.agg #[.slice A0_0 l0_0.length c0_0, .int .i64 a0_1, .int .i64 a0_2, .int .i64 a0_3, .int .i64 a0_4, .int .i64 a0_5], .agg #[.slice A1_0 l1_0.length c1_0, .int .i64 a1_1, .int .i64 a1_2, .int .i64 a1_3, .int .i64 a1_4, .int .i64 a1_5]] w fun e w' => e = .returned (.bool r) ∧ Below w.heap.size w w' := by
 have hu42 := Try.underlying42
 have hu26 := Try.underlying26
 have HR0_0 := ak_ hr0_0
 have HC0_0 := ak_ hc0_0
 clear hr0_0 hc0_0
 have HR1_0 := ak_ hr1_0
 have HC1_0 := ak_ hc1_0
 clear hr1_0 hc1_0
 have HB := ak_ (Below.refl w.heap.size w)
 have H : ((incunableref01_Same.f k l0_0 l1_0).bind fun t318 => (if t318 = true then (if (a0_1 == a1_1 && (a0_2 == a1_2 && (a0_3 == a1_3 && (a0_4 == a1_4)))) = true then (some (a0_5 == a1_5)) else (some false)) else (some false))) = some r := h
 clear h
 replace H := Option.bind_eq_some_iff.mp H
 obtain ⟨t318, A30, H⟩ := H
 replace H : (if t318 = true then (if (a0_1 == a1_1 && (a0_2 == a1_2 && (a0_3 == a1_3 && (a0_4 == a1_4)))) = true then (some (a0_5 == a1_5)) else (some false)) else (some false)) = some r := H
 have A3 := ak_ A30
 clear A30
 by_cases c4 : t318 = true
 ·subst c4
  have H1 : (if (a0_1 == a1_1 && (a0_2 == a1_2 && (a0_3 == a1_3 && (a0_4 == a1_4)))) = true then (some (a0_5 == a1_5)) else (some false)) = some r := by rw [if_pos rfl] at H; exact H
  clear H
  have H := H1
  clear H1
  by_cases c5 : (a0_1 == a1_1 && (a0_2 == a1_2 && (a0_3 == a1_3 && (a0_4 == a1_4)))) = true
  ·rw [if_pos c5] at H
   have c5b0 : (a0_1 == a1_1 && (a0_2 == a1_2 && (a0_3 == a1_3 && (a0_4 == a1_4)))) = true := c5
   (try (have c5b1 : decide (a0_1 = a1_1 && (a0_2 == a1_2 && (a0_3 == a1_3 && (a0_4 == a1_4)))) = true := by simpa using c5))
   (try (have c5b2 : (a0_1 == a1_1 && (a0_2 == a1_2 && (a0_3 == a1_3 && (a0_4 == a1_4)))) = true := by simpa using c5))
   clear c5
   obtain rfl := Option.some.inj H
   go_enter Try.func26, Try.ntmps26
   go_wp2_with (first | ((with_reducible refine gate_dst (N := 2) rfl ?_); refine box_event ?hg (N := 2) ?hd (cs := #[.slice A0_0 l0_0.length c0_0, .int .i64 a0_1, .int .i64 a0_2, .int .i64 a0_3, .int .i64 a0_4, .int .i64 a0_5]) (t := 42) ?hr ?_; (case hd => rfl); (case hg => rfl); (case hr => (go_simp; done)); intro gb316 hg w6 hbox hb; have BK316 := ak_ (hbox); have GW316 := ak_ ((by rw [hg]; exact (below_size HB.out) : w.heap.size ≤ gb316)); have GE316 := ak_ ((by rw [hg]; exact (below_size HB.out) : w.heap.size ≤ gb316)); replace HB := ak_ (below_step HB.out hb); clear hb hbox hg) | ((with_reducible refine gate_dst (N := 3) rfl ?_); refine box_event ?hg (N := 3) ?hd (cs := #[.slice A1_0 l1_0.length c1_0, .int .i64 a1_1, .int .i64 a1_2, .int .i64 a1_3, .int .i64 a1_4, .int .i64 a1_5]) (t := 42) ?hr ?_; (case hd => rfl); (case hg => rfl); (case hr => (go_simp; done)); intro gb317 hg w7 hbox hb; have BK317 := ak_ (hbox); have GW317 := ak_ ((by rw [hg]; exact (below_size HB.out) : w.heap.size ≤ gb317)); have GE317 := ak_ ((by rw [hg]; exact (below_size HB.out) : w.heap.size ≤ gb317)); replace HB := ak_ (below_step HB.out hb); have NB316_317 := ak_ ((by rw [hg]; exact Nat.ne_of_lt (blk_lt BK316.out) : gb316 ≠ gb317)); have NB317_316 := ak_ ((by rw [hg]; exact Nat.ne_of_gt (blk_lt BK316.out) : gb317 ≠ gb316)); replace BK316 := ak_ (blk_below BK316.out hb); clear hb hbox hg; have hnb8 := NB316_317.out; have hnc8 := NB317_316.out; have hcz9_0 : w7.cell? ⟨gb316, 0, none⟩ = some (.slice A0_0 l0_0.length c0_0) := (blk_cell BK316.out 0).trans rfl; have hcz9_1 : w7.cell? ⟨gb316, 1, none⟩ = some (.int .i64 a0_1) := (blk_cell BK316.out 1).trans rfl; have hcz9_2 : w7.cell? ⟨gb316, 2, none⟩ = some (.int .i64 a0_2) := (blk_cell BK316.out 2).trans rfl; have hcz9_3 : w7.cell? ⟨gb316, 3, none⟩ = some (.int .i64 a0_3) := (blk_cell BK316.out 3).trans rfl; have hcz9_4 : w7.cell? ⟨gb316, 4, none⟩ = some (.int .i64 a0_4) := (blk_cell BK316.out 4).trans rfl; have hcz9_5 : w7.cell? ⟨gb316, 5, none⟩ = some (.int .i64 a0_5) := (blk_cell BK316.out 5).trans rfl; have hfz9_0 := blk_frozen BK316.out 0; have hfz9_1 := blk_frozen BK316.out 1; have hfz9_2 := blk_frozen BK316.out 2; have hfz9_3 := blk_frozen BK316.out 3; have hfz9_4 := blk_frozen BK316.out 4; have hfz9_5 := blk_frozen BK316.out 5; have hcz10_0 : w7.cell? ⟨gb317, 0, none⟩ = some (.slice A1_0 l1_0.length c1_0) := (blk_cell BK317.out 0).trans rfl; have hcz10_1 : w7.cell? ⟨gb317, 1, none⟩ = some (.int .i64 a1_1) := (blk_cell BK317.out 1).trans rfl; have hcz10_2 : w7.cell? ⟨gb317, 2, none⟩ = some (.int .i64 a1_2) := (blk_cell BK317.out 2).trans rfl; have hcz10_3 : w7.cell? ⟨gb317, 3, none⟩ = some (.int .i64 a1_3) := (blk_cell BK317.out 3).trans rfl; have hcz10_4 : w7.cell? ⟨gb317, 4, none⟩ = some (.int .i64 a1_4) := (blk_cell BK317.out 4).trans rfl; have hcz10_5 : w7.cell? ⟨gb317, 5, none⟩ = some (.int .i64 a1_5) := (blk_cell BK317.out 5).trans rfl; have hfz10_0 := blk_frozen BK317.out 0; have hfz10_1 := blk_frozen BK317.out 1; have hfz10_2 := blk_frozen BK317.out 2; have hfz10_3 := blk_frozen BK317.out 3; have hfz10_4 := blk_frozen BK317.out 4; have hfz10_5 := blk_frozen BK317.out 5) | ((with_reducible refine gate_callee (f := 20) rfl ?_); refine goesL_ (some 9) rfl rfl Try.func20 (by kernel_rfl) rfl #[.slice A0_0 l0_0.length c0_0, .slice A1_0 l1_0.length c1_0] rfl (by (try simp only [List.map_toArray, List.map_cons, List.map_nil]); first | done | rfl | (simp only [List.length_drop, List.length_take]; rfl)) ?_; (with_reducible refine (incunableref01_Same.calls k _ _ l0_0 _ _ l1_0 true _ ?side1 ?side2 ?side3 ?side4 A3.out).mono ?_); (case side1 => exact (Kd.C_below HR0_0.out HB.out)); (case side2 => exact HC0_0.out); (case side3 => exact (Kd.C_below HR1_0.out HB.out)); (case side4 => exact HC1_0.out); rintro e w' ⟨rfl, ⟨nd, rfl⟩⟩; refine ⟨_, rfl, ?_⟩))
   go_ret
   exact ⟨by first | rfl | (simp [errW_none, errW_some] <;> rfl) | (simp [*, errW_none, errW_some] <;> rfl) | (have hz_ : ∀ z : Int, -9223372036854775808 ≤ z → z ≤ 9223372036854775807 → wrap64 z = z := (fun z h1_ h2_ => by unfold wrap64; omega); rw [hz_] <;> first | rfl | omega), by repeat (first | (with_reducible first | exact HB.out | apply below_alloc | apply pw_below_drewN | apply below_drew1 | refine below_set ?_ GE316.out | refine below_set ?_ GE317.out) | exact HB.out)⟩
  ·rw [if_neg c5] at H
   have c5b0 : (a0_1 == a1_1 && (a0_2 == a1_2 && (a0_3 == a1_3 && (a0_4 == a1_4)))) = false := by simpa using c5
   (try (have c5b1 : decide (a0_1 = a1_1 && (a0_2 == a1_2 && (a0_3 == a1_3 && (a0_4 == a1_4)))) = false := by simpa using c5))
   (try (have c5b2 : (a0_1 == a1_1 && (a0_2 == a1_2 && (a0_3 == a1_3 && (a0_4 == a1_4)))) = false := by simpa using c5))
   (try (have c5b3 : ¬ (a0_1 = a1_1 && (a0_2 == a1_2 && (a0_3 == a1_3 && (a0_4 == a1_4)))) := by simpa using c5))
   clear c5
   obtain rfl := Option.some.inj H
   go_enter Try.func26, Try.ntmps26
   go_wp2_with (first | ((with_reducible refine gate_dst (N := 2) rfl ?_); refine box_event ?hg (N := 2) ?hd (cs := #[.slice A0_0 l0_0.length c0_0, .int .i64 a0_1, .int .i64 a0_2, .int .i64 a0_3, .int .i64 a0_4, .int .i64 a0_5]) (t := 42) ?hr ?_; (case hd => rfl); (case hg => rfl); (case hr => (go_simp; done)); intro gb316 hg w11 hbox hb; have BK316 := ak_ (hbox); have GW316 := ak_ ((by rw [hg]; exact (below_size HB.out) : w.heap.size ≤ gb316)); have GE316 := ak_ ((by rw [hg]; exact (below_size HB.out) : w.heap.size ≤ gb316)); replace HB := ak_ (below_step HB.out hb); clear hb hbox hg) | ((with_reducible refine gate_dst (N := 3) rfl ?_); refine box_event ?hg (N := 3) ?hd (cs := #[.slice A1_0 l1_0.length c1_0, .int .i64 a1_1, .int .i64 a1_2, .int .i64 a1_3, .int .i64 a1_4, .int .i64 a1_5]) (t := 42) ?hr ?_; (case hd => rfl); (case hg => rfl); (case hr => (go_simp; done)); intro gb317 hg w12 hbox hb; have BK317 := ak_ (hbox); have GW317 := ak_ ((by rw [hg]; exact (below_size HB.out) : w.heap.size ≤ gb317)); have GE317 := ak_ ((by rw [hg]; exact (below_size HB.out) : w.heap.size ≤ gb317)); replace HB := ak_ (below_step HB.out hb); have NB316_317 := ak_ ((by rw [hg]; exact Nat.ne_of_lt (blk_lt BK316.out) : gb316 ≠ gb317)); have NB317_316 := ak_ ((by rw [hg]; exact Nat.ne_of_gt (blk_lt BK316.out) : gb317 ≠ gb316)); replace BK316 := ak_ (blk_below BK316.out hb); clear hb hbox hg; have hnb13 := NB316_317.out; have hnc13 := NB317_316.out; have hcz14_0 : w12.cell? ⟨gb316, 0, none⟩ = some (.slice A0_0 l0_0.length c0_0) := (blk_cell BK316.out 0).trans rfl; have hcz14_1 : w12.cell? ⟨gb316, 1, none⟩ = some (.int .i64 a0_1) := (blk_cell BK316.out 1).trans rfl; have hcz14_2 : w12.cell? ⟨gb316, 2, none⟩ = some (.int .i64 a0_2) := (blk_cell BK316.out 2).trans rfl; have hcz14_3 : w12.cell? ⟨gb316, 3, none⟩ = some (.int .i64 a0_3) := (blk_cell BK316.out 3).trans rfl; have hcz14_4 : w12.cell? ⟨gb316, 4, none⟩ = some (.int .i64 a0_4) := (blk_cell BK316.out 4).trans rfl; have hcz14_5 : w12.cell? ⟨gb316, 5, none⟩ = some (.int .i64 a0_5) := (blk_cell BK316.out 5).trans rfl; have hfz14_0 := blk_frozen BK316.out 0; have hfz14_1 := blk_frozen BK316.out 1; have hfz14_2 := blk_frozen BK316.out 2; have hfz14_3 := blk_frozen BK316.out 3; have hfz14_4 := blk_frozen BK316.out 4; have hfz14_5 := blk_frozen BK316.out 5; have hcz15_0 : w12.cell? ⟨gb317, 0, none⟩ = some (.slice A1_0 l1_0.length c1_0) := (blk_cell BK317.out 0).trans rfl; have hcz15_1 : w12.cell? ⟨gb317, 1, none⟩ = some (.int .i64 a1_1) := (blk_cell BK317.out 1).trans rfl; have hcz15_2 : w12.cell? ⟨gb317, 2, none⟩ = some (.int .i64 a1_2) := (blk_cell BK317.out 2).trans rfl; have hcz15_3 : w12.cell? ⟨gb317, 3, none⟩ = some (.int .i64 a1_3) := (blk_cell BK317.out 3).trans rfl; have hcz15_4 : w12.cell? ⟨gb317, 4, none⟩ = some (.int .i64 a1_4) := (blk_cell BK317.out 4).trans rfl; have hcz15_5 : w12.cell? ⟨gb317, 5, none⟩ = some (.int .i64 a1_5) := (blk_cell BK317.out 5).trans rfl; have hfz15_0 := blk_frozen BK317.out 0; have hfz15_1 := blk_frozen BK317.out 1; have hfz15_2 := blk_frozen BK317.out 2; have hfz15_3 := blk_frozen BK317.out 3; have hfz15_4 := blk_frozen BK317.out 4; have hfz15_5 := blk_frozen BK317.out 5) | ((with_reducible refine gate_callee (f := 20) rfl ?_); refine goesL_ (some 9) rfl rfl Try.func20 (by kernel_rfl) rfl #[.slice A0_0 l0_0.length c0_0, .slice A1_0 l1_0.length c1_0] rfl (by (try simp only [List.map_toArray, List.map_cons, List.map_nil]); first | done | rfl | (simp only [List.length_drop, List.length_take]; rfl)) ?_; (with_reducible refine (incunableref01_Same.calls k _ _ l0_0 _ _ l1_0 true _ ?side1 ?side2 ?side3 ?side4 A3.out).mono ?_); (case side1 => exact (Kd.C_below HR0_0.out HB.out)); (case side2 => exact HC0_0.out); (case side3 => exact (Kd.C_below HR1_0.out HB.out)); (case side4 => exact HC1_0.out); rintro e w' ⟨rfl, ⟨nd, rfl⟩⟩; refine ⟨_, rfl, ?_⟩))
   go_ret
   exact ⟨by first | rfl | (simp [errW_none, errW_some] <;> rfl) | (simp [*, errW_none, errW_some] <;> rfl) | (have hz_ : ∀ z : Int, -9223372036854775808 ≤ z → z ≤ 9223372036854775807 → wrap64 z = z := (fun z h1_ h2_ => by unfold wrap64; omega); rw [hz_] <;> first | rfl | omega), by repeat (first | (with_reducible first | exact HB.out | apply below_alloc | apply pw_below_drewN | apply below_drew1 | refine below_set ?_ GE316.out | refine below_set ?_ GE317.out) | exact HB.out)⟩
 ·replace c4 := Bool.eq_false_iff.mpr c4
  subst c4
  have H1 : (some false) = some r := by rw [if_neg (show ¬ (false = true) by decide)] at H; exact H
  clear H
  have H := H1
  clear H1
  obtain rfl := Option.some.inj H
  go_enter Try.func26, Try.ntmps26
  go_wp2_with (first | ((with_reducible refine gate_dst (N := 2) rfl ?_); refine box_event ?hg (N := 2) ?hd (cs := #[.slice A0_0 l0_0.length c0_0, .int .i64 a0_1, .int .i64 a0_2, .int .i64 a0_3, .int .i64 a0_4, .int .i64 a0_5]) (t := 42) ?hr ?_; (case hd => rfl); (case hg => rfl); (case hr => (go_simp; done)); intro gb316 hg w16 hbox hb; have BK316 := ak_ (hbox); have GW316 := ak_ ((by rw [hg]; exact (below_size HB.out) : w.heap.size ≤ gb316)); have GE316 := ak_ ((by rw [hg]; exact (below_size HB.out) : w.heap.size ≤ gb316)); replace HB := ak_ (below_step HB.out hb); clear hb hbox hg) | ((with_reducible refine gate_dst (N := 3) rfl ?_); refine box_event ?hg (N := 3) ?hd (cs := #[.slice A1_0 l1_0.length c1_0, .int .i64 a1_1, .int .i64 a1_2, .int .i64 a1_3, .int .i64 a1_4, .int .i64 a1_5]) (t := 42) ?hr ?_; (case hd => rfl); (case hg => rfl); (case hr => (go_simp; done)); intro gb317 hg w17 hbox hb; have BK317 := ak_ (hbox); have GW317 := ak_ ((by rw [hg]; exact (below_size HB.out) : w.heap.size ≤ gb317)); have GE317 := ak_ ((by rw [hg]; exact (below_size HB.out) : w.heap.size ≤ gb317)); replace HB := ak_ (below_step HB.out hb); have NB316_317 := ak_ ((by rw [hg]; exact Nat.ne_of_lt (blk_lt BK316.out) : gb316 ≠ gb317)); have NB317_316 := ak_ ((by rw [hg]; exact Nat.ne_of_gt (blk_lt BK316.out) : gb317 ≠ gb316)); replace BK316 := ak_ (blk_below BK316.out hb); clear hb hbox hg; have hnb18 := NB316_317.out; have hnc18 := NB317_316.out; have hcz19_0 : w17.cell? ⟨gb316, 0, none⟩ = some (.slice A0_0 l0_0.length c0_0) := (blk_cell BK316.out 0).trans rfl; have hcz19_1 : w17.cell? ⟨gb316, 1, none⟩ = some (.int .i64 a0_1) := (blk_cell BK316.out 1).trans rfl; have hcz19_2 : w17.cell? ⟨gb316, 2, none⟩ = some (.int .i64 a0_2) := (blk_cell BK316.out 2).trans rfl; have hcz19_3 : w17.cell? ⟨gb316, 3, none⟩ = some (.int .i64 a0_3) := (blk_cell BK316.out 3).trans rfl; have hcz19_4 : w17.cell? ⟨gb316, 4, none⟩ = some (.int .i64 a0_4) := (blk_cell BK316.out 4).trans rfl; have hcz19_5 : w17.cell? ⟨gb316, 5, none⟩ = some (.int .i64 a0_5) := (blk_cell BK316.out 5).trans rfl; have hfz19_0 := blk_frozen BK316.out 0; have hfz19_1 := blk_frozen BK316.out 1; have hfz19_2 := blk_frozen BK316.out 2; have hfz19_3 := blk_frozen BK316.out 3; have hfz19_4 := blk_frozen BK316.out 4; have hfz19_5 := blk_frozen BK316.out 5; have hcz20_0 : w17.cell? ⟨gb317, 0, none⟩ = some (.slice A1_0 l1_0.length c1_0) := (blk_cell BK317.out 0).trans rfl; have hcz20_1 : w17.cell? ⟨gb317, 1, none⟩ = some (.int .i64 a1_1) := (blk_cell BK317.out 1).trans rfl; have hcz20_2 : w17.cell? ⟨gb317, 2, none⟩ = some (.int .i64 a1_2) := (blk_cell BK317.out 2).trans rfl; have hcz20_3 : w17.cell? ⟨gb317, 3, none⟩ = some (.int .i64 a1_3) := (blk_cell BK317.out 3).trans rfl; have hcz20_4 : w17.cell? ⟨gb317, 4, none⟩ = some (.int .i64 a1_4) := (blk_cell BK317.out 4).trans rfl; have hcz20_5 : w17.cell? ⟨gb317, 5, none⟩ = some (.int .i64 a1_5) := (blk_cell BK317.out 5).trans rfl; have hfz20_0 := blk_frozen BK317.out 0; have hfz20_1 := blk_frozen BK317.out 1; have hfz20_2 := blk_frozen BK317.out 2; have hfz20_3 := blk_frozen BK317.out 3; have hfz20_4 := blk_frozen BK317.out 4; have hfz20_5 := blk_frozen BK317.out 5) | ((with_reducible refine gate_callee (f := 20) rfl ?_); refine goesL_ (some 9) rfl rfl Try.func20 (by kernel_rfl) rfl #[.slice A0_0 l0_0.length c0_0, .slice A1_0 l1_0.length c1_0] rfl (by (try simp only [List.map_toArray, List.map_cons, List.map_nil]); first | done | rfl | (simp only [List.length_drop, List.length_take]; rfl)) ?_; (with_reducible refine (incunableref01_Same.calls k _ _ l0_0 _ _ l1_0 false _ ?side1 ?side2 ?side3 ?side4 A3.out).mono ?_); (case side1 => exact (Kd.C_below HR0_0.out HB.out)); (case side2 => exact HC0_0.out); (case side3 => exact (Kd.C_below HR1_0.out HB.out)); (case side4 => exact HC1_0.out); rintro e w' ⟨rfl, ⟨nd, rfl⟩⟩; refine ⟨_, rfl, ?_⟩))
  go_ret
  exact ⟨by first | rfl | (simp [errW_none, errW_some] <;> rfl) | (simp [*, errW_none, errW_some] <;> rfl) | (have hz_ : ∀ z : Int, -9223372036854775808 ≤ z → z ≤ 9223372036854775807 → wrap64 z = z := (fun z h1_ h2_ => by unfold wrap64; omega); rw [hz_] <;> first | rfl | omega), by repeat (first | (with_reducible first | exact HB.out | apply below_alloc | apply pw_below_drewN | apply below_drew1 | refine below_set ?_ GE316.out | refine below_set ?_ GE317.out) | exact HB.out)⟩
end Go.Proofs.Ytmehbabchakkpaa.QLadderFits
namespace Go.Proofs.Ytmehbabchakkpaa.QLadderFits
open Go.RowKit Go.Proofs.YtmehbabchakkpaaW.PrintWords Go.Proofs.YtmehbabchakkpaaW.PrintLast Go.Proofs.YtmehbabchakkpaaW.PrintMore
attribute [local go_sem] max2_int min2_int max_two min_two max_three min_three max_four min_four   -- for this text's walks alone
set_option linter.unusedVariables false
set_option linter.unusedSimpArgs false
end Go.Proofs.Ytmehbabchakkpaa.QLadderFits
namespace Go.Proofs.Ytmehbabchakkpaa.Mono
open Go.RowKit Go.Proofs.YtmehbabchakkpaaW.PrintWords Go.Proofs.YtmehbabchakkpaaW.PrintLast
set_option linter.unusedVariables false
def Ext (w w' : World) : Prop := Below w.heap.size w w'
theorem Ext.below {w w' : World} (h : Ext w w') : Below w.heap.size w w' := h
theorem Ext.refl (w : World) : Ext w w := Below.refl _ _
theorem Ext.trans {a b c : World} (h : Ext a b) (k : Ext b c) : Ext a c := below_step h k
theorem Ext.of {w w' : World} (h : Below w.heap.size w w') : Ext w w' := h
theorem c_ext {α : Type} {d : Kd α} {w w' : World} {A : Option Addr} {n : Nat} {xs : List α} (h : Kd.C d w A n xs) (e : Ext w w') : Kd.C d w' A n xs := Kd.C_below h e
theorem Ext.drew (w : World) : Ext w w.drew := below_drew1 (Below.refl _ _)
def Stable (f : Value → World → Prop) : Prop := ∀ v w w', f v w → Ext w w' → f v w'
def Is (x : Value) : Value → World → Prop := fun v _ => v = x
def RowF {α : Type} (d : Kd α) (xs : List α) (f : Value → Value) : Value → World → Prop := fun v w => ∃ A c, v = f (.slice A xs.length c) ∧ xs.length ≤ c ∧ Kd.C d w A xs.length xs
theorem stable_rowF {α : Type} (d : Kd α) (xs : List α) (f : Value → Value) : Stable (RowF d xs f) := fun _ _ _ ⟨A, c, h, hc, hC⟩ e => ⟨A, c, h, hc, Kd.C_below hC (Ext.below e)⟩
theorem stable_is (x : Value) : Stable (Is x) := fun _ _ _ h _ => h
theorem cell_ext {w w' : World} {a : Addr} {v : Value} (h : w.cell? a = some v) (e : Ext w w') : w'.cell? a = some v := pw_cell_below e h
def dstAt (ops : Array Oper) (i : Nat) : Option Tmp := (ops[i]?).bind (·.dst)
def edges (ops : Array Oper) (i : Nat) : List Nat := match ops[i]? with
 | some o => (o.after.toList.filter (fun e => Region.binds .any e)).map (·.on)
 | none => []
def reach (ops : Array Oper) : Nat → Nat → Nat → Bool
 | 0, _, _ => false
 | n + 1, i, j => (edges ops i).any fun e => e == j || reach ops n e j
def okOps (ops : Array Oper) : Bool :=
 (List.range ops.size).all fun i => ((edges ops i).all fun e => decide (e < i)) && (List.range ops.size).all fun j => i == j || dstAt ops i == none || dstAt ops i != dstAt ops j
section
variable {P : Program} {ops : Array Oper} {Q : Exit → Act → World → Prop}
structure Fr (ops : Array Oper) (ts : List Tmp) (a0 a : Act) : Prop where
 size : a.tmps.size = a0.tmps.size
 defers : a.defers = a0.defers
 off : ∀ t, ts.contains t = false → a.tmps[t]? = a0.tmps[t]?
def Known (ops : Array Oper) (F : Nat → Value → World → Prop) (i : Nat) (a : Act) (w : World) : Prop :=
 ∀ j t, reach ops ops.size i j = true → dstAt ops j = some t → ∃ v, a.tmps[t]? = some v ∧ F j v w
def MStep (P : Program) (ops : Array Oper) (Q : Exit → Act → World → Prop) (ts : List Tmp) (a0 : Act) (w0 : World) (F : Nat → Value → World → Prop) (i : Nat) : Prop :=
 ∀ (a : Act) (w : World), Ext w0 w → Fr ops ts a0 a → Known ops F i a w →
  ∃ oi, ops[i]? = some oi ∧ ∀ K : Act → World → Prop, (∀ v w', F i v w' → Ext w w' → K (a.put oi.dst v) w') → if Region.wanted oi (yielded ops a.tmps) = true then Oper.wp P oi a w K Q else K (a.put oi.dst undef) w
theorem msteps_nil {ts : List Tmp} {a0 : Act} {w0 : World} {F : Nat → Value → World → Prop} : ∀ i ∈ ([] : List Nat), MStep P ops Q ts a0 w0 F i := fun _ h => by cases h
theorem msteps_cons {ts : List Tmp} {a0 : Act} {w0 : World} {F : Nat → Value → World → Prop} {i : Nat} {rs : List Nat} (h : MStep P ops Q ts a0 w0 F i) (hs : ∀ j ∈ rs, MStep P ops Q ts a0 w0 F j) : ∀ j ∈ i :: rs, MStep P ops Q ts a0 w0 F j := fun j hj => by
 rcases List.mem_cons.1 hj with rfl | hj
 ·exact h
 ·exact hs j hj
theorem edges_lt (h : okOps ops = true) {i j : Nat} (hj : j ∈ edges ops i) : j < i := by
 by_cases hi : i < ops.size
 ·have h1 := List.all_eq_true.1 h i (List.mem_range.2 hi)
  rw [Bool.and_eq_true] at h1
  simpa using List.all_eq_true.1 h1.1 j hj
 ·unfold edges at hj
  rw [Array.getElem?_eq_none (by omega)] at hj
  cases hj
theorem dst_ne (h : okOps ops = true) {i j : Nat} {t : Tmp} (hi : dstAt ops i = some t) (hj : dstAt ops j = some t) : i = j := by
 have lt : ∀ {i : Nat}, dstAt ops i = some t → i < ops.size := fun {i} hi => by
  by_cases hlt : i < ops.size
  ·exact hlt
  ·unfold dstAt at hi
   rw [Array.getElem?_eq_none (by omega)] at hi
   cases hi
 have h1 := List.all_eq_true.1 h i (List.mem_range.2 (lt hi))
 rw [Bool.and_eq_true] at h1
 have h2 := List.all_eq_true.1 h1.2 j (List.mem_range.2 (lt hj))
 rw [hi, hj] at h2
 simpa using h2
theorem ready_edges {listed : Array Bool} (hsz : listed.size = ops.size) {i : Nat} (hok : okOps ops = true) : i ∈ Region.ready .any ops listed ↔ i < ops.size ∧ listed.getD i true = false ∧ ∀ e ∈ edges ops i, listed.getD e true = true := by
 rw [mem_ready]
 constructor
 ·rintro ⟨h1, o, ho, h2⟩
  have hi := (Array.getElem?_eq_some_iff.1 ho).1
  refine ⟨hi, h1, fun e he => ?_⟩
  have hlt := edges_lt hok he
  unfold edges at he
  rw [ho] at he
  obtain ⟨x, hx, rfl⟩ := List.mem_map.1 he
  obtain ⟨hx1, hx2⟩ := List.mem_filter.1 hx
  have := h2 x (by simpa using hx1) hx2
  rw [Array.getD_eq_getD_getElem?] at this ⊢
  rw [Array.getElem?_eq_getElem (by omega)] at this ⊢
  exact this
 ·rintro ⟨hi, h1, h2⟩
  refine ⟨h1, ops[i], Array.getElem?_eq_getElem hi, fun e he hb => ?_⟩
  have hm : e.on ∈ edges ops i := by
   unfold edges
   rw [Array.getElem?_eq_getElem hi]
   exact List.mem_map.2 ⟨e, List.mem_filter.2 ⟨by simpa using he, hb⟩, rfl⟩
  have hlt := edges_lt hok hm
  have := h2 _ hm
  rw [Array.getD_eq_getD_getElem?] at this ⊢
  rw [Array.getElem?_eq_getElem (by omega)] at this ⊢
  exact this
def putT (a : Act) (ts : List Tmp) (val : Tmp → Value) : Act := ts.foldl (fun a t => a.put (some t) (val t)) a
theorem putT_spec (val : Tmp → Value) : ∀ (ts : List Tmp) (a : Act), (putT a ts val).tmps.size = a.tmps.size ∧ (putT a ts val).defers = a.defers ∧ (∀ t, t ∉ ts → (putT a ts val).tmps[t]? = a.tmps[t]?) ∧ (∀ t, t ∈ ts → t < a.tmps.size → (putT a ts val).tmps[t]? = some (val t))
 | [], a => ⟨rfl, rfl, fun _ _ => rfl, fun _ h => by cases h⟩
 | s :: r, a => by
  obtain ⟨h1, h2, h3, h4⟩ := putT_spec val r (a.put (some s) (val s))
  have hsz : (a.put (some s) (val s)).tmps.size = a.tmps.size := by simp [Act.put]
  refine ⟨h1.trans hsz, h2.trans rfl, fun t ht => ?_, fun t ht hlt => ?_⟩
  ·rw [List.mem_cons, not_or] at ht
   refine (h3 t ht.2).trans ?_
   simp [Act.put, Array.getElem?_setIfInBounds_ne (Ne.symm ht.1)]
  ·by_cases htr : t ∈ r
   ·exact h4 t htr (by rw [hsz]; exact hlt)
   ·rcases List.mem_cons.1 ht with rfl | h
    ·refine (h3 t htr).trans ?_
     simp [Act.put, hlt]
    ·exact absurd h htr
theorem reach_listed {listed : Array Bool} (hok : okOps ops = true) (shut : ∀ i j, i < ops.size → listed.getD i true = true → j ∈ edges ops i → listed.getD j true = true) : ∀ (n i j : Nat), i < ops.size → (∀ e ∈ edges ops i, listed.getD e true = true) → reach ops n i j = true → j < ops.size ∧ listed.getD j true = true := by
 intro n
 induction n with
 | zero => intro i j _ _ h; cases h
 | succ n ih =>
  intro i j hi he h
  unfold reach at h
  obtain ⟨e, hem, h⟩ := List.any_eq_true.1 h
  have hlt := edges_lt hok hem
  have hl := he e hem
  rw [Bool.or_eq_true] at h
  rcases h with h | h
  ·obtain rfl := beq_iff_eq.1 h
   exact ⟨by omega, hl⟩
  ·exact ih e j (by omega) (fun x hx => shut e x (by omega) hl hx) h
end
end Go.Proofs.Ytmehbabchakkpaa.Mono
