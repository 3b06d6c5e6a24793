import Derived.Test.YtmehbabchakkpaaMPageEmptyx7
import Derived.Test.YtmehbabchakkpaaMPageEmptyx12
import Derived.Test.YtmehbabchakkpaaMPageEmptyx13
namespace Go.Proofs.Ytmehbabchakkpaa.QPageEmpty
open Go.RowKit YtmehbabchakkpaaW.PrintWords YtmehbabchakkpaaW.PrintLast YtmehbabchakkpaaW.PrintMore
attribute [local go_sem] max2_int min2_int max_two min_two max_three min_three max_four min_four
set_option linter.unusedVariables false
set_option maxHeartbeats 8000000
set_option maxRecDepth 100000
set_option linter.unusedSimpArgs false
mutual
def l08_PageEmpty.j0 : Nat → List Int → Int → Int → Int → Int → Int → Int → Int → List Int → Int → Int → Int → Int → Option (Bool)
 | 0, _, _, _, _, _, _, _, _, _, _, _, _, _ => none
 | k + 1, x2, x392000, x392001, x392002, x392003, x392004, x392005, x392006, x393000, x393001, x393002, x393003, x393004 => (l08_Small.f x392000 x392001 x392002 x392003 x392004 x392005 x392006).bind fun t394 => (if t394 = true then ((geom_Check.f x392000 x392001 x392002 x392003 x392004 x392005 x392006).bind fun t395 => (if t395 = 0 then (if (x393000.length : Int) > 200 then (l08_PageEmpty.j1 k x2 true x392000 x392001 x392002 x392003 x392004 x392005 x392006 x393000 x393001 x393002 x393003 x393004) else (l08_PageEmpty.j1 k x2 (decide ((x2.length : Int) > 10)) x392000 x392001 x392002 x392003 x392004 x392005 x392006 x393000 x393001 x393002 x393003 x393004)) else (l08_PageEmpty.j1 k x2 true x392000 x392001 x392002 x392003 x392004 x392005 x392006 x393000 x393001 x393002 x393003 x393004))) else (l08_PageEmpty.j1 k x2 true x392000 x392001 x392002 x392003 x392004 x392005 x392006 x393000 x393001 x393002 x393003 x393004))
def l08_PageEmpty.j1 : Nat → List Int → Bool → Int → Int → Int → Int → Int → Int → Int → List Int → Int → Int → Int → Int → Option (Bool)
 | 0, _, _, _, _, _, _, _, _, _, _, _, _, _, _ => none
 | k + 1, x2, x36, x392000, x392001, x392002, x392003, x392004, x392005, x392006, x393000, x393001, x393002, x393003, x393004 => if x36 = true then (some true) else (l08_PageEmpty.j2 k x2 x392000 x392001 x392002 x392003 x392004 x392005 x392006 x393000 x393001 x393002 x393003 x393004)
def l08_PageEmpty.j2 : Nat → List Int → Int → Int → Int → Int → Int → Int → Int → List Int → Int → Int → Int → Int → Option (Bool)
 | 0, _, _, _, _, _, _, _, _, _, _, _, _, _ => none
 | k + 1, x2, x392000, x392001, x392002, x392003, x392004, x392005, x392006, x393000, x393001, x393002, x393003, x393004 => l08_PageEmpty.l0 k ([] : List Int) x2 (x2.length : Int) 0 x392000 x392001 x392002 x392003 x392004 x392005 x392006 x393000 x393001 x393002 x393003 x393004
def l08_PageEmpty.l0 : Nat → List Int → List Int → Int → Int → Int → Int → Int → Int → Int → Int → Int → List Int → Int → Int → Int → Int → Option (Bool)
 | 0, _, _, _, _, _, _, _, _, _, _, _, _, _, _, _, _ => none
 | k + 1, x7, x37, x38, x39, x392000, x392001, x392002, x392003, x392004, x392005, x392006, x393000, x393001, x393002, x393003, x393004 => if x39 < x38 then (l08_PageEmpty.j4 k x7 x37 x38 x39 x392000 x392001 x392002 x392003 x392004 x392005 x392006 x393000 x393001 x393002 x393003 x393004) else ((page_Erased.f k x392000 x392001 x392002 x392003 x392004 x392005 x392006).bind fun t401 => ((bits_Flip.f k t401 x7).bind fun t404 => ((page_Decode.f k x392000 x392001 x392002 x392003 x392004 x392005 x392006 t404).bind fun bt407 => (if bt407.2.2.2.2.2.2 = 0 then (if bt407.2.2.2.2.2.1 = 2 then ((page_Erased.f k x392000 x392001 x392002 x392003 x392004 x392005 x392006).bind fun t417 => ((page_Marked.f k x392000 x392001 x392002 x392003 x392004 x392005 x392006 t417).bind fun t420 => (if t420 = true then (none) else (l08_PageEmpty.j5 k x7 x392000 x392001 x392002 x392003 x392004 x392005 x392006 x393000 x393001 x393002 x393003 x393004)))) else (none)) else (none)))))
def l08_PageEmpty.j4 : Nat → List Int → List Int → Int → Int → Int → Int → Int → Int → Int → Int → Int → List Int → Int → Int → Int → Int → Option (Bool)
 | 0, _, _, _, _, _, _, _, _, _, _, _, _, _, _, _, _ => none
 | k + 1, x7, x37, x38, x39, x392000, x392001, x392002, x392003, x392004, x392005, x392006, x393000, x393001, x393002, x393003, x393004 => if 0 ≤ x39 then (if x39 < (x37.length : Int) then ((geom_Raw.f x392000 x392001 x392002 x392003 x392004 x392005 x392006).bind fun t397 => (if (wrap64 (8 * t397)) = 0 then (none) else (if x7.length < 17592186044416 then (l08_PageEmpty.l0 k (x7 ++ [Int.tmod (wrap64 (rd x37 x39)) (wrap64 (8 * t397))]) x37 x38 (wrap64 (x39 + 1)) x392000 x392001 x392002 x392003 x392004 x392005 x392006 x393000 x393001 x393002 x393003 x393004) else (none)))) else (none)) else (none)
def l08_PageEmpty.j5 : Nat → List Int → Int → Int → Int → Int → Int → Int → Int → List Int → Int → Int → Int → Int → Option (Bool)
 | 0, _, _, _, _, _, _, _, _, _, _, _, _, _ => none
 | k + 1, x7, x392000, x392001, x392002, x392003, x392004, x392005, x392006, x393000, x393001, x393002, x393003, x393004 => (page_Encode.f k x392000 x392001 x392002 x392003 x392004 x392005 x392006 x393000 x393001 x393002 x393003 x393004).bind fun bt421 => (if bt421.2 = 0 then (l08_PageEmpty.j6 k x7 bt421.1 x392000 x392001 x392002 x392003 x392004 x392005 x392006) else (some ((bt421.1.length : Int) == 0)))
def l08_PageEmpty.j6 : Nat → List Int → List Int → Int → Int → Int → Int → Int → Int → Int → Option (Bool)
 | 0, _, _, _, _, _, _, _, _, _ => none
 | k + 1, x7, x14, x392000, x392001, x392002, x392003, x392004, x392005, x392006 => (bits_Flip.f k x14 x7).bind fun t425 => ((page_Decode.f k x392000 x392001 x392002 x392003 x392004 x392005 x392006 t425).bind fun bt428 => (some (bt428.2.2.2.2.2.1 != 2)))
end
def l08_PageEmpty.f (k : Nat) (a0_0 : Int) (a0_1 : Int) (a0_2 : Int) (a0_3 : Int) (a0_4 : Int) (a0_5 : Int) (a0_6 : Int) (l1_0 : List Int) (a1_1 : Int) (a1_2 : Int) (a1_3 : Int) (a1_4 : Int) (l2 : List Int) : Option (Bool) := (l08_awake.f k).bind fun t393 => (if t393 = true then (l08_PageEmpty.j0 k l2 a0_0 a0_1 a0_2 a0_3 a0_4 a0_5 a0_6 l1_0 a1_1 a1_2 a1_3 a1_4) else (none))
theorem l08_PageEmpty.mono_l : ∀ k, (∀ y0 y1 y2 y3 y4 y5 y6 y7 y8 y9 y10 y11 y12, LeO (l08_PageEmpty.j0 k y0 y1 y2 y3 y4 y5 y6 y7 y8 y9 y10 y11 y12) (l08_PageEmpty.j0 (k + 1) y0 y1 y2 y3 y4 y5 y6 y7 y8 y9 y10 y11 y12)) ∧ (∀ y0 y1 y2 y3 y4 y5 y6 y7 y8 y9 y10 y11 y12 y13, LeO (l08_PageEmpty.j1 k y0 y1 y2 y3 y4 y5 y6 y7 y8 y9 y10 y11 y12 y13) (l08_PageEmpty.j1 (k + 1) y0 y1 y2 y3 y4 y5 y6 y7 y8 y9 y10 y11 y12 y13)) ∧ (∀ y0 y1 y2 y3 y4 y5 y6 y7 y8 y9 y10 y11 y12, LeO (l08_PageEmpty.j2 k y0 y1 y2 y3 y4 y5 y6 y7 y8 y9 y10 y11 y12) (l08_PageEmpty.j2 (k + 1) y0 y1 y2 y3 y4 y5 y6 y7 y8 y9 y10 y11 y12)) ∧ (∀ y0 y1 y2 y3 y4 y5 y6 y7 y8 y9 y10 y11 y12 y13 y14 y15, LeO (l08_PageEmpty.l0 k y0 y1 y2 y3 y4 y5 y6 y7 y8 y9 y10 y11 y12 y13 y14 y15) (l08_PageEmpty.l0 (k + 1) y0 y1 y2 y3 y4 y5 y6 y7 y8 y9 y10 y11 y12 y13 y14 y15)) ∧ (∀ y0 y1 y2 y3 y4 y5 y6 y7 y8 y9 y10 y11 y12 y13 y14 y15, LeO (l08_PageEmpty.j4 k y0 y1 y2 y3 y4 y5 y6 y7 y8 y9 y10 y11 y12 y13 y14 y15) (l08_PageEmpty.j4 (k + 1) y0 y1 y2 y3 y4 y5 y6 y7 y8 y9 y10 y11 y12 y13 y14 y15)) ∧ (∀ y0 y1 y2 y3 y4 y5 y6 y7 y8 y9 y10 y11 y12, LeO (l08_PageEmpty.j5 k y0 y1 y2 y3 y4 y5 y6 y7 y8 y9 y10 y11 y12) (l08_PageEmpty.j5 (k + 1) y0 y1 y2 y3 y4 y5 y6 y7 y8 y9 y10 y11 y12)) ∧ (∀ y0 y1 y2 y3 y4 y5 y6 y7 y8, LeO (l08_PageEmpty.j6 k y0 y1 y2 y3 y4 y5 y6 y7 y8) (l08_PageEmpty.j6 (k + 1) y0 y1 y2 y3 y4 y5 y6 y7 y8))
 | 0 => ⟨fun _ _ _ _ _ _ _ _ _ _ _ _ _ r h => by simp [l08_PageEmpty.j0] at h, fun _ _ _ _ _ _ _ _ _ _ _ _ _ _ r h => by simp [l08_PageEmpty.j1] at h, fun _ _ _ _ _ _ _ _ _ _ _ _ _ r h => by simp [l08_PageEmpty.j2] at h, fun _ _ _ _ _ _ _ _ _ _ _ _ _ _ _ _ r h => by simp [l08_PageEmpty.l0] at h, fun _ _ _ _ _ _ _ _ _ _ _ _ _ _ _ _ r h => by simp [l08_PageEmpty.j4] at h, fun _ _ _ _ _ _ _ _ _ _ _ _ _ r h => by simp [l08_PageEmpty.j5] at h, fun _ _ _ _ _ _ _ _ _ r h => by simp [l08_PageEmpty.j6] at h⟩
 | k + 1 => by
  obtain ⟨ih0, ih1, ih2, ih3, ih4, ih5, ih6⟩ := l08_PageEmpty.mono_l k
  refine ⟨?_, ?_, ?_, ?_, ?_, ?_, ?_⟩
  ·intro y0 y1 y2 y3 y4 y5 y6 y7 y8 y9 y10 y11 y12
   unfold l08_PageEmpty.j0
   repeat' first
   | (with_reducible exact ih0 _ _ _ _ _ _ _ _ _ _ _ _ _)
   | (with_reducible exact ih1 _ _ _ _ _ _ _ _ _ _ _ _ _ _)
   | (with_reducible exact ih2 _ _ _ _ _ _ _ _ _ _ _ _ _)
   | (with_reducible exact ih3 _ _ _ _ _ _ _ _ _ _ _ _ _ _ _ _)
   | (with_reducible exact ih4 _ _ _ _ _ _ _ _ _ _ _ _ _ _ _ _)
   | (with_reducible exact ih5 _ _ _ _ _ _ _ _ _ _ _ _ _)
   | (with_reducible exact ih6 _ _ _ _ _ _ _ _ _)
   | (with_reducible exact bits_Flip.mono _ _ _)
   | (with_reducible exact l08_awake.mono _)
   | (with_reducible exact page_Decode.mono _ _ _ _ _ _ _ _ _)
   | (with_reducible exact page_Encode.mono _ _ _ _ _ _ _ _ _ _ _ _ _)
   | (with_reducible exact page_Erased.mono _ _ _ _ _ _ _ _)
   | (with_reducible exact page_Marked.mono _ _ _ _ _ _ _ _ _)
   | (with_reducible exact LeO.refl _)
   | (with_reducible exact LeO.none _)
   | (with_reducible refine LeO.ite ?_ ?_)
   | (with_reducible refine LeO.bind ?_ (fun _ => ?_))
  ·intro y0 y1 y2 y3 y4 y5 y6 y7 y8 y9 y10 y11 y12 y13
   unfold l08_PageEmpty.j1
   repeat' first
   | (with_reducible exact ih0 _ _ _ _ _ _ _ _ _ _ _ _ _)
   | (with_reducible exact ih1 _ _ _ _ _ _ _ _ _ _ _ _ _ _)
   | (with_reducible exact ih2 _ _ _ _ _ _ _ _ _ _ _ _ _)
   | (with_reducible exact ih3 _ _ _ _ _ _ _ _ _ _ _ _ _ _ _ _)
   | (with_reducible exact ih4 _ _ _ _ _ _ _ _ _ _ _ _ _ _ _ _)
   | (with_reducible exact ih5 _ _ _ _ _ _ _ _ _ _ _ _ _)
   | (with_reducible exact ih6 _ _ _ _ _ _ _ _ _)
   | (with_reducible exact bits_Flip.mono _ _ _)
   | (with_reducible exact l08_awake.mono _)
   | (with_reducible exact page_Decode.mono _ _ _ _ _ _ _ _ _)
   | (with_reducible exact page_Encode.mono _ _ _ _ _ _ _ _ _ _ _ _ _)
   | (with_reducible exact page_Erased.mono _ _ _ _ _ _ _ _)
   | (with_reducible exact page_Marked.mono _ _ _ _ _ _ _ _ _)
   | (with_reducible exact LeO.refl _)
   | (with_reducible exact LeO.none _)
   | (with_reducible refine LeO.ite ?_ ?_)
   | (with_reducible refine LeO.bind ?_ (fun _ => ?_))
  ·intro y0 y1 y2 y3 y4 y5 y6 y7 y8 y9 y10 y11 y12
   unfold l08_PageEmpty.j2
   repeat' first
   | (with_reducible exact ih0 _ _ _ _ _ _ _ _ _ _ _ _ _)
   | (with_reducible exact ih1 _ _ _ _ _ _ _ _ _ _ _ _ _ _)
   | (with_reducible exact ih2 _ _ _ _ _ _ _ _ _ _ _ _ _)
   | (with_reducible exact ih3 _ _ _ _ _ _ _ _ _ _ _ _ _ _ _ _)
   | (with_reducible exact ih4 _ _ _ _ _ _ _ _ _ _ _ _ _ _ _ _)
   | (with_reducible exact ih5 _ _ _ _ _ _ _ _ _ _ _ _ _)
   | (with_reducible exact ih6 _ _ _ _ _ _ _ _ _)
   | (with_reducible exact bits_Flip.mono _ _ _)
   | (with_reducible exact l08_awake.mono _)
   | (with_reducible exact page_Decode.mono _ _ _ _ _ _ _ _ _)
   | (with_reducible exact page_Encode.mono _ _ _ _ _ _ _ _ _ _ _ _ _)
   | (with_reducible exact page_Erased.mono _ _ _ _ _ _ _ _)
   | (with_reducible exact page_Marked.mono _ _ _ _ _ _ _ _ _)
   | (with_reducible exact LeO.refl _)
   | (with_reducible exact LeO.none _)
   | (with_reducible refine LeO.ite ?_ ?_)
   | (with_reducible refine LeO.bind ?_ (fun _ => ?_))
  ·intro y0 y1 y2 y3 y4 y5 y6 y7 y8 y9 y10 y11 y12 y13 y14 y15
   unfold l08_PageEmpty.l0
   repeat' first
   | (with_reducible exact ih0 _ _ _ _ _ _ _ _ _ _ _ _ _)
   | (with_reducible exact ih1 _ _ _ _ _ _ _ _ _ _ _ _ _ _)
   | (with_reducible exact ih2 _ _ _ _ _ _ _ _ _ _ _ _ _)
   | (with_reducible exact ih3 _ _ _ _ _ _ _ _ _ _ _ _ _ _ _ _)
   | (with_reducible exact ih4 _ _ _ _ _ _ _ _ _ _ _ _ _ _ _ _)
   | (with_reducible exact ih5 _ _ _ _ _ _ _ _ _ _ _ _ _)
   | (with_reducible exact ih6 _ _ _ _ _ _ _ _ _)
   | (with_reducible exact bits_Flip.mono _ _ _)
   | (with_reducible exact l08_awake.mono _)
   | (with_reducible exact page_Decode.mono _ _ _ _ _ _ _ _ _)
   | (with_reducible exact page_Encode.mono _ _ _ _ _ _ _ _ _ _ _ _ _)
   | (with_reducible exact page_Erased.mono _ _ _ _ _ _ _ _)
   | (with_reducible exact page_Marked.mono _ _ _ _ _ _ _ _ _)
   | (with_reducible exact LeO.refl _)
   | (with_reducible exact LeO.none _)
   | (with_reducible refine LeO.ite ?_ ?_)
   | (with_reducible refine LeO.bind ?_ (fun _ => ?_))
  ·intro y0 y1 y2 y3 y4 y5 y6 y7 y8 y9 y10 y11 y12 y13 y14 y15
   unfold l08_PageEmpty.j4
   repeat' first
   | (with_reducible exact ih0 _ _ _ _ _ _ _ _ _ _ _ _ _)
   | (with_reducible exact ih1 _ _ _ _ _ _ _ _ _ _ _ _ _ _)
   | (with_reducible exact ih2 _ _ _ _ _ _ _ _ _ _ _ _ _)
   | (with_reducible exact ih3 _ _ _ _ _ _ _ _ _ _ _ _ _ _ _ _)
   | (with_reducible exact ih4 _ _ _ _ _ _ _ _ _ _ _ _ _ _ _ _)
   | (with_reducible exact ih5 _ _ _ _ _ _ _ _ _ _ _ _ _)
   | (with_reducible exact ih6 _ _ _ _ _ _ _ _ _)
   | (with_reducible exact bits_Flip.mono _ _ _)
   | (with_reducible exact l08_awake.mono _)
   | (with_reducible exact page_Decode.mono _ _ _ _ _ _ _ _ _)
   | (with_reducible exact page_Encode.mono _ _ _ _ _ _ _ _ _ _ _ _ _)
   | (with_reducible exact page_Erased.mono _ _ _ _ _ _ _ _)
   | (with_reducible exact page_Marked.mono _ _ _ _ _ _ _ _ _)
   | (with_reducible exact LeO.refl _)
   | (with_reducible exact LeO.none _)
   | (with_reducible refine LeO.ite ?_ ?_)
   | (with_reducible refine LeO.bind ?_ (fun _ => ?_))
  ·intro y0 y1 y2 y3 y4 y5 y6 y7 y8 y9 y10 y11 y12
   unfold l08_PageEmpty.j5
   repeat' first
   | (with_reducible exact ih0 _ _ _ _ _ _ _ _ _ _ _ _ _)
   | (with_reducible exact ih1 _ _ _ _ _ _ _ _ _ _ _ _ _ _)
   | (with_reducible exact ih2 _ _ _ _ _ _ _ _ _ _ _ _ _)
   | (with_reducible exact ih3 _ _ _ _ _ _ _ _ _ _ _ _ _ _ _ _)
   | (with_reducible exact ih4 _ _ _ _ _ _ _ _ _ _ _ _ _ _ _ _)
   | (with_reducible exact ih5 _ _ _ _ _ _ _ _ _ _ _ _ _)
   | (with_reducible exact ih6 _ _ _ _ _ _ _ _ _)
   | (with_reducible exact bits_Flip.mono _ _ _)
   | (with_reducible exact l08_awake.mono _)
   | (with_reducible exact page_Decode.mono _ _ _ _ _ _ _ _ _)
   | (with_reducible exact page_Encode.mono _ _ _ _ _ _ _ _ _ _ _ _ _)
   | (with_reducible exact page_Erased.mono _ _ _ _ _ _ _ _)
   | (with_reducible exact page_Marked.mono _ _ _ _ _ _ _ _ _)
   | (with_reducible exact LeO.refl _)
   | (with_reducible exact LeO.none _)
   | (with_reducible refine LeO.ite ?_ ?_)
   | (with_reducible refine LeO.bind ?_ (fun _ => ?_))
  ·intro y0 y1 y2 y3 y4 y5 y6 y7 y8
   unfold l08_PageEmpty.j6
   repeat' first
   | (with_reducible exact ih0 _ _ _ _ _ _ _ _ _ _ _ _ _)
   | (with_reducible exact ih1 _ _ _ _ _ _ _ _ _ _ _ _ _ _)
   | (with_reducible exact ih2 _ _ _ _ _ _ _ _ _ _ _ _ _)
   | (with_reducible exact ih3 _ _ _ _ _ _ _ _ _ _ _ _ _ _ _ _)
   | (with_reducible exact ih4 _ _ _ _ _ _ _ _ _ _ _ _ _ _ _ _)
   | (with_reducible exact ih5 _ _ _ _ _ _ _ _ _ _ _ _ _)
   | (with_reducible exact ih6 _ _ _ _ _ _ _ _ _)
   | (with_reducible exact bits_Flip.mono _ _ _)
   | (with_reducible exact l08_awake.mono _)
   | (with_reducible exact page_Decode.mono _ _ _ _ _ _ _ _ _)
   | (with_reducible exact page_Encode.mono _ _ _ _ _ _ _ _ _ _ _ _ _)
   | (with_reducible exact page_Erased.mono _ _ _ _ _ _ _ _)
   | (with_reducible exact page_Marked.mono _ _ _ _ _ _ _ _ _)
   | (with_reducible exact LeO.refl _)
   | (with_reducible exact LeO.none _)
   | (with_reducible refine LeO.ite ?_ ?_)
   | (with_reducible refine LeO.bind ?_ (fun _ => ?_))
theorem l08_PageEmpty.mono : ∀ a0 a1 a2 a3 a4 a5 a6 a7 a8 a9 a10 a11 a12 k, LeO (l08_PageEmpty.f k a0 a1 a2 a3 a4 a5 a6 a7 a8 a9 a10 a11 a12) (l08_PageEmpty.f (k + 1) a0 a1 a2 a3 a4 a5 a6 a7 a8 a9 a10 a11 a12) := by
 intro a0 a1 a2 a3 a4 a5 a6 a7 a8 a9 a10 a11 a12 k
 obtain ⟨ih0, ih1, ih2, ih3, ih4, ih5, ih6⟩ := l08_PageEmpty.mono_l k
 unfold l08_PageEmpty.f
 repeat' first
  | (with_reducible exact ih0 _ _ _ _ _ _ _ _ _ _ _ _ _)
  | (with_reducible exact ih1 _ _ _ _ _ _ _ _ _ _ _ _ _ _)
  | (with_reducible exact ih2 _ _ _ _ _ _ _ _ _ _ _ _ _)
  | (with_reducible exact ih3 _ _ _ _ _ _ _ _ _ _ _ _ _ _ _ _)
  | (with_reducible exact ih4 _ _ _ _ _ _ _ _ _ _ _ _ _ _ _ _)
  | (with_reducible exact ih5 _ _ _ _ _ _ _ _ _ _ _ _ _)
  | (with_reducible exact ih6 _ _ _ _ _ _ _ _ _)
  | (with_reducible exact bits_Flip.mono _ _ _)
  | (with_reducible exact l08_awake.mono _)
  | (with_reducible exact page_Decode.mono _ _ _ _ _ _ _ _ _)
  | (with_reducible exact page_Encode.mono _ _ _ _ _ _ _ _ _ _ _ _ _)
  | (with_reducible exact page_Erased.mono _ _ _ _ _ _ _ _)
  | (with_reducible exact page_Marked.mono _ _ _ _ _ _ _ _ _)
  | (with_reducible exact LeO.refl _)
  | (with_reducible exact LeO.none _)
  | (with_reducible refine LeO.ite ?_ ?_)
  | (with_reducible refine LeO.bind ?_ (fun _ => ?_))
def l08_PageEmpty.T11 : Bool × List (List Nat × List Nat) := (true, [([], []), ([], []), ([1], [1]), ([], []), ([2, 3, 2], [2, 3]), ([0, 4, 4], [0, 4]), ([5], [5]), ([6], [6]), ([6], [6]), ([6], [6]), ([6], [6]), ([], []), ([7, 5, 0, 1, 2, 3, 4, 5, 6, 7, 11], [7]), ([11, 8, 12, 0, 1, 2, 3, 4, 5, 6, 7, 8, 11, 12], [8, 11]), ([9, 13, 0, 1, 2, 3, 4, 5, 6, 7, 8, 9, 11, 12, 13], [9]), ([10, 14, 0, 1, 2, 3, 4, 5, 6, 7, 8, 9, 10, 11, 12, 13, 14], [10])])
def l08_PageEmpty.B11 : List Nat := [0, 0, 2, 0, 14, 31, 63, 127, 127, 127, 127, 0, 2303, 6655, 15359, 32767]
theorem l08_PageEmpty.tab11 : rtab .any (opsOf Try.f11 11) = l08_PageEmpty.T11 := by kernel_rfl
theorem l08_PageEmpty.bits11 : waitsOk l08_PageEmpty.T11.2 l08_PageEmpty.B11 = true := by kernel_rfl
def l08_PageEmpty.T12 : Bool × List (List Nat × List Nat) := (true, [([], []), ([0], [0]), ([1], [1]), ([2], [2]), ([3, 2], [2, 3]), ([2, 4], [2, 4]), ([5, 2], [5]), ([6], [6]), ([6], [6]), ([8, 6, 6], [6, 8]), ([7, 9, 9, 6], [6, 7, 9]), ([6, 10], [6, 10])])
def l08_PageEmpty.B12 : List Nat := [0, 1, 3, 7, 15, 31, 63, 127, 127, 383, 1023, 2047]
theorem l08_PageEmpty.tab12 : rtab .any (opsOf Try.f11 12) = l08_PageEmpty.T12 := by kernel_rfl
theorem l08_PageEmpty.bits12 : waitsOk l08_PageEmpty.T12.2 l08_PageEmpty.B12 = true := by kernel_rfl
def l08_PageEmpty.T17 : Bool × List (List Nat × List Nat) := (true, [([], []), ([], []), ([], []), ([1, 2], [1, 2]), ([0, 3, 3], [0, 3]), ([4], [4]), ([5], [5]), ([5], [5]), ([5], [5]), ([5], [5]), ([8, 4, 0, 1, 2, 3, 4, 5, 6, 7, 8], [8])])
def l08_PageEmpty.B17 : List Nat := [0, 0, 0, 6, 15, 31, 63, 63, 63, 63, 511]
theorem l08_PageEmpty.tab17 : rtab .any (opsOf Try.f11 17) = l08_PageEmpty.T17 := by kernel_rfl
theorem l08_PageEmpty.bits17 : waitsOk l08_PageEmpty.T17.2 l08_PageEmpty.B17 = true := by kernel_rfl
theorem l08_PageEmpty.calls (k : Nat) (a0_0 : Int) (a0_1 : Int) (a0_2 : Int) (a0_3 : Int) (a0_4 : Int) (a0_5 : Int) (a0_6 : Int) (A1_0 : Option Addr) (c1_0 : Nat) (l1_0 : List Int) (a1_1 : Int) (a1_2 : Int) (a1_3 : Int) (a1_4 : Int) (A2 : Option Addr) (c2 : Nat) (l2 : List Int) (r : Bool) (w : World) (hr1_0 : Kd.C (Kd.int .u8) w A1_0 l1_0.length l1_0) (hc1_0 : l1_0.length ≤ c1_0) (hr2 : Kd.C (Kd.int .u16) w A2 l2.length l2) (hc2 : l2.length ≤ c2) (h : l08_PageEmpty.f k a0_0 a0_1 a0_2 a0_3 a0_4 a0_5 a0_6 l1_0 a1_1 a1_2 a1_3 a1_4 l2 = some r) :
  Calls Try.prog 11 #[.agg #[.int .i64 a0_0, .int .i64 a0_1, .int .i64 a0_2, .int .i64 a0_3, .int .i64 a0_4, .int .i64 a0_5, .int .i64 a0_6], .agg #[.slice A1_0 l1_0.length c1_0, .int .i64 a1_1, .int .i64 a1_2, .int .i64 a1_3, .int .i64 a1_4], .slice A2 l2.length c2] w fun e w' => e = .returned (.bool r) ∧ Below w.heap.size w w' := by
 have hu23 := Try.underlying23
 have hu57 := Try.underlying57
 have hu26 := Try.underlying26
 have HR1_0 := ak_ hr1_0
 have HC1_0 := ak_ hc1_0
 clear hr1_0 hc1_0
 have HR2 := ak_ hr2
 have HC2 := ak_ hc2
 clear hr2 hc2
 have HB := br_ w
 have H : ((l08_awake.f k).bind fun t393 => (if t393 = true then (l08_PageEmpty.j0 k l2 a0_0 a0_1 a0_2 a0_3 a0_4 a0_5 a0_6 l1_0 a1_1 a1_2 a1_3 a1_4) else (none))) = some r := h
 clear h
 replace H := Option.bind_eq_some_iff.mp H
 obtain ⟨t393, A40, H⟩ := H
 replace H : (if t393 = true then (l08_PageEmpty.j0 k l2 a0_0 a0_1 a0_2 a0_3 a0_4 a0_5 a0_6 l1_0 a1_1 a1_2 a1_3 a1_4) else (none)) = some r := H
 have A4 := ak_ A40
 clear A40
 have HC5 := ak_ H
 clear H
 go_enter Try.func11, Try.ntmps11
 go_upto_if 17 with (first | ((with_reducible refine gate_dst (N := 3) rfl ?_); (try (refine gate_guard (by rfl) ?_; dsimp only)); refine box_event ?hg (N := 3) ?hd (cs := #[.int .i64 a0_0, .int .i64 a0_1, .int .i64 a0_2, .int .i64 a0_3, .int .i64 a0_4, .int .i64 a0_5, .int .i64 a0_6]) (t := 23) ?hr ?_; (case hd => rfl); (case hg => rfl); (case hr => first | (go_simp; done) | (go_simp; rfl)); intro gb391 hg w6 hbox hb; have n0_ := ak_ (below_step (by repeat (first | (with_reducible first | exact HB.out | apply below_alloc | apply pw_below_drewN | apply below_drew1) | exact HB.out)) hb); have n1_ := ak_ (hbox); have n2_ := ak_ ((by rw [hg]; exact (below_size (by repeat (first | (with_reducible first | exact HB.out | apply below_alloc | apply pw_below_drewN | apply below_drew1) | exact HB.out))) : w.heap.size ≤ gb391)); have n3_ := ak_ ((by rw [hg]; exact (below_size (by repeat (first | (with_reducible first | exact HB.out | apply below_alloc | apply pw_below_drewN | apply below_drew1) | exact HB.out))) : w.heap.size ≤ gb391)); clear HB; have HB := n0_; have BK391 := n1_; have GW391 := n2_; have GE391 := n3_; clear n0_ n1_ n2_ n3_; clear hb hbox hg) | ((with_reducible refine gate_dst (N := 4) rfl ?_); (try (refine gate_guard (by rfl) ?_; dsimp only)); refine box_event ?hg (N := 4) ?hd (cs := #[.slice A1_0 l1_0.length c1_0, .int .i64 a1_1, .int .i64 a1_2, .int .i64 a1_3, .int .i64 a1_4]) (t := 57) ?hr ?_; (case hd => rfl); (case hg => rfl); (case hr => first | (go_simp; done) | (go_simp; rfl)); intro gb392 hg w7 hbox hb; have n0_ := ak_ (blk_below (g := gb391) (o := .cells #[.int .i64 a0_0, .int .i64 a0_1, .int .i64 a0_2, .int .i64 a0_3, .int .i64 a0_4, .int .i64 a0_5, .int .i64 a0_6] 23 (0, 0)) (by (with_reducible repeat (first | apply blk_drewN | apply blk_drew | apply blk_alloc)); exact BK391.out) hb); have n1_ := ak_ (below_step (by repeat (first | (with_reducible first | exact HB.out | apply below_alloc | apply pw_below_drewN | apply below_drew1 | refine below_set ?_ GE391.out) | exact HB.out)) hb); have n2_ := ak_ (hbox); have n3_ := ak_ ((by rw [hg]; exact (below_size (by repeat (first | (with_reducible first | exact HB.out | apply below_alloc | apply pw_below_drewN | apply below_drew1 | refine below_set ?_ GE391.out) | exact HB.out))) : w.heap.size ≤ gb392)); have n4_ := ak_ ((by rw [hg]; exact (below_size (by repeat (first | (with_reducible first | exact HB.out | apply below_alloc | apply pw_below_drewN | apply below_drew1 | refine below_set ?_ GE391.out) | exact HB.out))) : w.heap.size ≤ gb392)); have n5_ := ak_ ((by rw [hg]; exact Nat.ne_of_lt (blk_lt (g := gb391) (o := .cells #[.int .i64 a0_0, .int .i64 a0_1, .int .i64 a0_2, .int .i64 a0_3, .int .i64 a0_4, .int .i64 a0_5, .int .i64 a0_6] 23 (0, 0)) (by (with_reducible repeat (first | apply blk_drewN | apply blk_drew | apply blk_alloc)); exact BK391.out)) : gb391 ≠ gb392)); have n6_ := ak_ ((by rw [hg]; exact Nat.ne_of_gt (blk_lt (g := gb391) (o := .cells #[.int .i64 a0_0, .int .i64 a0_1, .int .i64 a0_2, .int .i64 a0_3, .int .i64 a0_4, .int .i64 a0_5, .int .i64 a0_6] 23 (0, 0)) (by (with_reducible repeat (first | apply blk_drewN | apply blk_drew | apply blk_alloc)); exact BK391.out)) : gb392 ≠ gb391)); clear BK391; clear HB; have BK391 := n0_; have HB := n1_; have BK392 := n2_; have GW392 := n3_; have GE392 := n4_; have NB391_392 := n5_; have NB392_391 := n6_; clear n0_ n1_ n2_ n3_ n4_ n5_ n6_; clear hb hbox hg) | ((with_reducible refine gate_callee (f := 12) rfl ?_); refine goesL_ (some 16) rfl rfl Try.func12 (by kernel_rfl) rfl #[] rfl (by (try simp only [List.map_toArray, List.map_cons, List.map_nil]); first | done | rfl | (simp only [List.length_drop, List.length_take]; rfl)) ?_; (with_reducible refine (l08_awake.calls k  t393 _ A4.out).mono ?_); rintro e w8 ⟨rfl, hb⟩; refine ⟨_, rfl, ?_⟩; have n0_ := ak_ (blk_below (g := gb391) (o := .cells #[.int .i64 a0_0, .int .i64 a0_1, .int .i64 a0_2, .int .i64 a0_3, .int .i64 a0_4, .int .i64 a0_5, .int .i64 a0_6] 23 (0, 0)) (by (with_reducible repeat (first | apply blk_drewN | apply blk_drew | apply blk_alloc)); exact BK391.out) hb); have n1_ := ak_ (blk_below (g := gb392) (o := .cells #[.slice A1_0 l1_0.length c1_0, .int .i64 a1_1, .int .i64 a1_2, .int .i64 a1_3, .int .i64 a1_4] 57 (0, 0)) (by (with_reducible repeat (first | apply blk_drewN | apply blk_drew | apply blk_alloc)); exact BK392.out) hb); have n2_ := ak_ (below_step (by repeat (first | (with_reducible first | exact HB.out | apply below_alloc | apply pw_below_drewN | apply below_drew1 | refine below_set ?_ GE391.out | refine below_set ?_ GE392.out) | exact HB.out)) hb); clear BK391; clear BK392; clear HB; have BK391 := n0_; have BK392 := n1_; have HB := n2_; clear n0_ n1_ n2_; (try clear hb); (try clear hb2); (try clear hk); (try clear hi)))
 (try simp only [Act.put, sb_, sz_, su_])
 go_cut [] (fun wc => ∃ (kq : Nat), Aside0 (l08_PageEmpty.j0 kq l2 a0_0 a0_1 a0_2 a0_3 a0_4 a0_5 a0_6 l1_0 a1_1 a1_2 a1_3 a1_4 = some r) ∧ Aside0 (kq ≤ k) ∧ Aside0 (wc.heap[gb391]? = some (.cells #[.int .i64 a0_0, .int .i64 a0_1, .int .i64 a0_2, .int .i64 a0_3, .int .i64 a0_4, .int .i64 a0_5, .int .i64 a0_6] 23 (0, 0))) ∧ Aside0 (wc.heap[gb392]? = some (.cells #[(.slice A1_0 l1_0.length c1_0), .int .i64 a1_1, .int .i64 a1_2, .int .i64 a1_3, .int .i64 a1_4] 57 (0, 0))) ∧ Aside0 (Below w.heap.size w wc))
 case first =>
  have H := HC5.out
  clear HC5
  by_cases c9 : t393 = true
  ·subst c9
   have H1 : (l08_PageEmpty.j0 k l2 a0_0 a0_1 a0_2 a0_3 a0_4 a0_5 a0_6 l1_0 a1_1 a1_2 a1_3 a1_4) = some r := by rw [if_pos rfl] at H; exact H
   clear H
   have H := H1
   clear H1
   have H' := ak_ H
   clear H
   go_wp2
   go_meet
   case rel => exact ⟨_, H', ⟨by first | omega | exact Nat.le_refl _⟩, ⟨by (with_reducible repeat (first | apply blk_drewN | apply blk_drew | apply blk_alloc)); exact BK391.out⟩, ⟨by (with_reducible repeat (first | apply blk_drewN | apply blk_drew | apply blk_alloc)); exact BK392.out⟩, ⟨by repeat (first | (with_reducible first | exact HB.out | apply below_alloc | apply pw_below_drewN | apply below_drew1 | refine below_set ?_ GE391.out | refine below_set ?_ GE392.out) | exact HB.out)⟩⟩
  ·replace c9 := Bool.eq_false_iff.mpr c9
   subst c9
   have H1 : (none) = some r := by rw [if_neg (show ¬ (false = true) by decide)] at H; exact H
   clear H
   have H := H1
   clear H1
   exact absurd H (by simp)
 case rest =>
  clear HC5
  try clear c1
  try clear c2
  try clear p2
  try clear c9
  obtain ⟨kq, HA, HJ4, BK391, BK392, HB⟩ := hcut
  cases kq with
  | zero => exact absurd HA.out (by simp [l08_PageEmpty.j0])
  | succ kj4 =>
   have H := HA.out
   clear HA
   simp only [l08_PageEmpty.j0] at H
   have HC10 := ak_ H
   clear H
   go_upto_region 3 with (fail)
   go_cut [36] (fun v36 wc => ∃ (kq : Nat) (x36_9 : Bool), v36 = .bool x36_9 ∧ Aside0 (l08_PageEmpty.j1 kq l2 x36_9 a0_0 a0_1 a0_2 a0_3 a0_4 a0_5 a0_6 l1_0 a1_1 a1_2 a1_3 a1_4 = some r) ∧ Aside0 (kq ≤ kj4) ∧ Aside0 (wc.heap[gb391]? = some (.cells #[.int .i64 a0_0, .int .i64 a0_1, .int .i64 a0_2, .int .i64 a0_3, .int .i64 a0_4, .int .i64 a0_5, .int .i64 a0_6] 23 (0, 0))) ∧ Aside0 (wc.heap[gb392]? = some (.cells #[(.slice A1_0 l1_0.length c1_0), .int .i64 a1_1, .int .i64 a1_2, .int .i64 a1_3, .int .i64 a1_4] 57 (0, 0))) ∧ Aside0 (Below w.heap.size w wc))
   case first =>
    have H := HC10.out
    clear HC10
    replace H := Option.bind_eq_some_iff.mp H
    obtain ⟨t394, A110, H⟩ := H
    replace H : (if t394 = true then ((geom_Check.f a0_0 a0_1 a0_2 a0_3 a0_4 a0_5 a0_6).bind fun t395 => (if t395 = 0 then (if (l1_0.length : Int) > 200 then (l08_PageEmpty.j1 kj4 l2 true a0_0 a0_1 a0_2 a0_3 a0_4 a0_5 a0_6 l1_0 a1_1 a1_2 a1_3 a1_4) else (l08_PageEmpty.j1 kj4 l2 (decide ((l2.length : Int) > 10)) a0_0 a0_1 a0_2 a0_3 a0_4 a0_5 a0_6 l1_0 a1_1 a1_2 a1_3 a1_4)) else (l08_PageEmpty.j1 kj4 l2 true a0_0 a0_1 a0_2 a0_3 a0_4 a0_5 a0_6 l1_0 a1_1 a1_2 a1_3 a1_4))) else (l08_PageEmpty.j1 kj4 l2 true a0_0 a0_1 a0_2 a0_3 a0_4 a0_5 a0_6 l1_0 a1_1 a1_2 a1_3 a1_4)) = some r := H
    have A11 := ak_ A110
    clear A110
    by_cases c12 : t394 = true
    ·subst c12
     have H1 : ((geom_Check.f a0_0 a0_1 a0_2 a0_3 a0_4 a0_5 a0_6).bind fun t395 => (if t395 = 0 then (if (l1_0.length : Int) > 200 then (l08_PageEmpty.j1 kj4 l2 true a0_0 a0_1 a0_2 a0_3 a0_4 a0_5 a0_6 l1_0 a1_1 a1_2 a1_3 a1_4) else (l08_PageEmpty.j1 kj4 l2 (decide ((l2.length : Int) > 10)) a0_0 a0_1 a0_2 a0_3 a0_4 a0_5 a0_6 l1_0 a1_1 a1_2 a1_3 a1_4)) else (l08_PageEmpty.j1 kj4 l2 true a0_0 a0_1 a0_2 a0_3 a0_4 a0_5 a0_6 l1_0 a1_1 a1_2 a1_3 a1_4))) = some r := by rw [if_pos rfl] at H; exact H
     clear H
     have H := H1
     clear H1
     replace H := Option.bind_eq_some_iff.mp H
     obtain ⟨t395, A130, H⟩ := H
     replace H : (if t395 = 0 then (if (l1_0.length : Int) > 200 then (l08_PageEmpty.j1 kj4 l2 true a0_0 a0_1 a0_2 a0_3 a0_4 a0_5 a0_6 l1_0 a1_1 a1_2 a1_3 a1_4) else (l08_PageEmpty.j1 kj4 l2 (decide ((l2.length : Int) > 10)) a0_0 a0_1 a0_2 a0_3 a0_4 a0_5 a0_6 l1_0 a1_1 a1_2 a1_3 a1_4)) else (l08_PageEmpty.j1 kj4 l2 true a0_0 a0_1 a0_2 a0_3 a0_4 a0_5 a0_6 l1_0 a1_1 a1_2 a1_3 a1_4)) = some r := H
     have A13 := ak_ A130
     clear A130
     by_cases c14 : t395 = 0
     ·rw [if_pos c14] at H
      have c14b0 : (t395 == 0) = true := beq_iff_eq.mpr c14
      have c14b1 : (t395 != 0) = false := bne_eq_false_iff_eq.mpr c14
      clear c14
      (first | rw [c14b0] | (simp only [i64_w, i32_w]; rw [c14b0]) | skip)
      by_cases c15 : (l1_0.length : Int) > 200
      ·rw [if_pos c15] at H
       have c15b0 : decide (200 < (l1_0.length : Int)) = true := dt_ c15
       have c15b1 : decide (200 < l1_0.length) = true := dt_ (by omega)
       clear c15
       have H' := ak_ H
       clear H
       have hnb16 := NB391_392.out
       have hnc16 := NB392_391.out
       have hcz17_0 : wc.cell? ⟨gb391, 0, none⟩ = some (.int .i64 a0_0) := (bc_ BK391.out 0).trans rfl
       have hcz17_1 : wc.cell? ⟨gb391, 1, none⟩ = some (.int .i64 a0_1) := (bc_ BK391.out 1).trans rfl
       have hcz17_2 : wc.cell? ⟨gb391, 2, none⟩ = some (.int .i64 a0_2) := (bc_ BK391.out 2).trans rfl
       have hcz17_3 : wc.cell? ⟨gb391, 3, none⟩ = some (.int .i64 a0_3) := (bc_ BK391.out 3).trans rfl
       have hcz17_4 : wc.cell? ⟨gb391, 4, none⟩ = some (.int .i64 a0_4) := (bc_ BK391.out 4).trans rfl
       have hcz17_5 : wc.cell? ⟨gb391, 5, none⟩ = some (.int .i64 a0_5) := (bc_ BK391.out 5).trans rfl
       have hcz17_6 : wc.cell? ⟨gb391, 6, none⟩ = some (.int .i64 a0_6) := (bc_ BK391.out 6).trans rfl
       have hfz17_0 := bf_ BK391.out 0
       have hfz17_1 := bf_ BK391.out 1
       have hfz17_2 := bf_ BK391.out 2
       have hfz17_3 := bf_ BK391.out 3
       have hfz17_4 := bf_ BK391.out 4
       have hfz17_5 := bf_ BK391.out 5
       have hfz17_6 := bf_ BK391.out 6
       go_wp2_with (first | ((with_reducible refine gate_callee (f := 13) rfl ?_); refine goesL_ (some 19) rfl rfl Try.func13 (by kernel_rfl) rfl #[.agg #[.int .i64 a0_0, .int .i64 a0_1, .int .i64 a0_2, .int .i64 a0_3, .int .i64 a0_4, .int .i64 a0_5, .int .i64 a0_6]] rfl (by (try simp only [List.map_toArray, List.map_cons, List.map_nil]); first | done | rfl | (simp only [List.length_drop, List.length_take]; rfl)) ?_; (with_reducible refine (l08_Small.calls a0_0 a0_1 a0_2 a0_3 a0_4 a0_5 a0_6 true _ A11.out).mono ?_); rintro e w18 ⟨rfl, hb⟩; refine ⟨_, rfl, ?_⟩; have n0_ := ak_ (blk_below (g := gb391) (o := .cells #[.int .i64 a0_0, .int .i64 a0_1, .int .i64 a0_2, .int .i64 a0_3, .int .i64 a0_4, .int .i64 a0_5, .int .i64 a0_6] 23 (0, 0)) (by (with_reducible repeat (first | apply blk_drewN | apply blk_drew | apply blk_alloc)); exact BK391.out) hb); have n1_ := ak_ (blk_below (g := gb392) (o := .cells #[.slice A1_0 l1_0.length c1_0, .int .i64 a1_1, .int .i64 a1_2, .int .i64 a1_3, .int .i64 a1_4] 57 (0, 0)) (by (with_reducible repeat (first | apply blk_drewN | apply blk_drew | apply blk_alloc)); exact BK392.out) hb); have n2_ := ak_ (below_step (by repeat (first | (with_reducible first | exact HB.out | apply below_alloc | apply pw_below_drewN | apply below_drew1 | refine below_set ?_ GE391.out | refine below_set ?_ GE392.out) | exact HB.out)) hb); clear BK391; clear BK392; clear HB; have BK391 := n0_; have BK392 := n1_; have HB := n2_; clear n0_ n1_ n2_; (try clear hb); (try clear hb2); (try clear hk); (try clear hi); have hcz19_0 : w18.cell? ⟨gb391, 0, none⟩ = some (.int .i64 a0_0) := (bc_ BK391.out 0).trans rfl; have hcz19_1 : w18.cell? ⟨gb391, 1, none⟩ = some (.int .i64 a0_1) := (bc_ BK391.out 1).trans rfl; have hcz19_2 : w18.cell? ⟨gb391, 2, none⟩ = some (.int .i64 a0_2) := (bc_ BK391.out 2).trans rfl; have hcz19_3 : w18.cell? ⟨gb391, 3, none⟩ = some (.int .i64 a0_3) := (bc_ BK391.out 3).trans rfl; have hcz19_4 : w18.cell? ⟨gb391, 4, none⟩ = some (.int .i64 a0_4) := (bc_ BK391.out 4).trans rfl; have hcz19_5 : w18.cell? ⟨gb391, 5, none⟩ = some (.int .i64 a0_5) := (bc_ BK391.out 5).trans rfl; have hcz19_6 : w18.cell? ⟨gb391, 6, none⟩ = some (.int .i64 a0_6) := (bc_ BK391.out 6).trans rfl; have hfz19_0 := bf_ BK391.out 0; have hfz19_1 := bf_ BK391.out 1; have hfz19_2 := bf_ BK391.out 2; have hfz19_3 := bf_ BK391.out 3; have hfz19_4 := bf_ BK391.out 4; have hfz19_5 := bf_ BK391.out 5; have hfz19_6 := bf_ BK391.out 6) | (go_at_call 35; (with_reducible refine (geom_Check.calls a0_0 a0_1 a0_2 a0_3 a0_4 a0_5 a0_6 t395 _ A13.out).mono ?_); rintro e w20 ⟨rfl, hb⟩; have n0_ := ak_ (blk_below (g := gb391) (o := .cells #[.int .i64 a0_0, .int .i64 a0_1, .int .i64 a0_2, .int .i64 a0_3, .int .i64 a0_4, .int .i64 a0_5, .int .i64 a0_6] 23 (0, 0)) (by (with_reducible repeat (first | apply blk_drewN | apply blk_drew | apply blk_alloc)); exact BK391.out) hb); have n1_ := ak_ (blk_below (g := gb392) (o := .cells #[.slice A1_0 l1_0.length c1_0, .int .i64 a1_1, .int .i64 a1_2, .int .i64 a1_3, .int .i64 a1_4] 57 (0, 0)) (by (with_reducible repeat (first | apply blk_drewN | apply blk_drew | apply blk_alloc)); exact BK392.out) hb); have n2_ := ak_ (below_step (by repeat (first | (with_reducible first | exact HB.out | apply below_alloc | apply pw_below_drewN | apply below_drew1 | refine below_set ?_ GE391.out | refine below_set ?_ GE392.out) | exact HB.out)) hb); clear BK391; clear BK392; clear HB; have BK391 := n0_; have BK392 := n1_; have HB := n2_; clear n0_ n1_ n2_; (try clear hb); (try clear hb2); (try clear hk); (try clear hi); have hcz21_0 : w20.cell? ⟨gb392, 0, none⟩ = some (.slice A1_0 l1_0.length c1_0) := (bc_ BK392.out 0).trans rfl; have hcz21_1 : w20.cell? ⟨gb392, 1, none⟩ = some (.int .i64 a1_1) := (bc_ BK392.out 1).trans rfl; have hcz21_2 : w20.cell? ⟨gb392, 2, none⟩ = some (.int .i64 a1_2) := (bc_ BK392.out 2).trans rfl; have hcz21_3 : w20.cell? ⟨gb392, 3, none⟩ = some (.int .i64 a1_3) := (bc_ BK392.out 3).trans rfl; have hcz21_4 : w20.cell? ⟨gb392, 4, none⟩ = some (.int .i64 a1_4) := (bc_ BK392.out 4).trans rfl; have hfz21_0 := bf_ BK392.out 0; have hfz21_1 := bf_ BK392.out 1; have hfz21_2 := bf_ BK392.out 2; have hfz21_3 := bf_ BK392.out 3; have hfz21_4 := bf_ BK392.out 4))
       go_meet
       case rel => exact ⟨_, (true), (by first | rfl | (simp; done) | (simp [*]; done)), H', ⟨by have := HJ4.out; first | omega | exact Nat.le_refl _⟩, ⟨by (with_reducible repeat (first | apply blk_drewN | apply blk_drew | apply blk_alloc)); exact BK391.out⟩, ⟨by (with_reducible repeat (first | apply blk_drewN | apply blk_drew | apply blk_alloc)); exact BK392.out⟩, ⟨by repeat (first | (with_reducible first | exact HB.out | apply below_alloc | apply pw_below_drewN | apply below_drew1 | refine below_set ?_ GE391.out | refine below_set ?_ GE392.out) | exact HB.out)⟩⟩
      ·rw [if_neg c15] at H
       have c15b0 : decide (200 < (l1_0.length : Int)) = false := df_ c15
       have c15b1 : decide (200 < l1_0.length) = false := df_ (by omega)
       clear c15
       have H' := ak_ H
       clear H
       have hnb22 := NB391_392.out
       have hnc22 := NB392_391.out
       have hcz23_0 : wc.cell? ⟨gb391, 0, none⟩ = some (.int .i64 a0_0) := (bc_ BK391.out 0).trans rfl
       have hcz23_1 : wc.cell? ⟨gb391, 1, none⟩ = some (.int .i64 a0_1) := (bc_ BK391.out 1).trans rfl
       have hcz23_2 : wc.cell? ⟨gb391, 2, none⟩ = some (.int .i64 a0_2) := (bc_ BK391.out 2).trans rfl
       have hcz23_3 : wc.cell? ⟨gb391, 3, none⟩ = some (.int .i64 a0_3) := (bc_ BK391.out 3).trans rfl
       have hcz23_4 : wc.cell? ⟨gb391, 4, none⟩ = some (.int .i64 a0_4) := (bc_ BK391.out 4).trans rfl
       have hcz23_5 : wc.cell? ⟨gb391, 5, none⟩ = some (.int .i64 a0_5) := (bc_ BK391.out 5).trans rfl
       have hcz23_6 : wc.cell? ⟨gb391, 6, none⟩ = some (.int .i64 a0_6) := (bc_ BK391.out 6).trans rfl
       have hfz23_0 := bf_ BK391.out 0
       have hfz23_1 := bf_ BK391.out 1
       have hfz23_2 := bf_ BK391.out 2
       have hfz23_3 := bf_ BK391.out 3
       have hfz23_4 := bf_ BK391.out 4
       have hfz23_5 := bf_ BK391.out 5
       have hfz23_6 := bf_ BK391.out 6
       go_wp2_with (first | ((with_reducible refine gate_callee (f := 13) rfl ?_); refine goesL_ (some 19) rfl rfl Try.func13 (by kernel_rfl) rfl #[.agg #[.int .i64 a0_0, .int .i64 a0_1, .int .i64 a0_2, .int .i64 a0_3, .int .i64 a0_4, .int .i64 a0_5, .int .i64 a0_6]] rfl (by (try simp only [List.map_toArray, List.map_cons, List.map_nil]); first | done | rfl | (simp only [List.length_drop, List.length_take]; rfl)) ?_; (with_reducible refine (l08_Small.calls a0_0 a0_1 a0_2 a0_3 a0_4 a0_5 a0_6 true _ A11.out).mono ?_); rintro e w24 ⟨rfl, hb⟩; refine ⟨_, rfl, ?_⟩; have n0_ := ak_ (blk_below (g := gb391) (o := .cells #[.int .i64 a0_0, .int .i64 a0_1, .int .i64 a0_2, .int .i64 a0_3, .int .i64 a0_4, .int .i64 a0_5, .int .i64 a0_6] 23 (0, 0)) (by (with_reducible repeat (first | apply blk_drewN | apply blk_drew | apply blk_alloc)); exact BK391.out) hb); have n1_ := ak_ (blk_below (g := gb392) (o := .cells #[.slice A1_0 l1_0.length c1_0, .int .i64 a1_1, .int .i64 a1_2, .int .i64 a1_3, .int .i64 a1_4] 57 (0, 0)) (by (with_reducible repeat (first | apply blk_drewN | apply blk_drew | apply blk_alloc)); exact BK392.out) hb); have n2_ := ak_ (below_step (by repeat (first | (with_reducible first | exact HB.out | apply below_alloc | apply pw_below_drewN | apply below_drew1 | refine below_set ?_ GE391.out | refine below_set ?_ GE392.out) | exact HB.out)) hb); clear BK391; clear BK392; clear HB; have BK391 := n0_; have BK392 := n1_; have HB := n2_; clear n0_ n1_ n2_; (try clear hb); (try clear hb2); (try clear hk); (try clear hi); have hcz25_0 : w24.cell? ⟨gb391, 0, none⟩ = some (.int .i64 a0_0) := (bc_ BK391.out 0).trans rfl; have hcz25_1 : w24.cell? ⟨gb391, 1, none⟩ = some (.int .i64 a0_1) := (bc_ BK391.out 1).trans rfl; have hcz25_2 : w24.cell? ⟨gb391, 2, none⟩ = some (.int .i64 a0_2) := (bc_ BK391.out 2).trans rfl; have hcz25_3 : w24.cell? ⟨gb391, 3, none⟩ = some (.int .i64 a0_3) := (bc_ BK391.out 3).trans rfl; have hcz25_4 : w24.cell? ⟨gb391, 4, none⟩ = some (.int .i64 a0_4) := (bc_ BK391.out 4).trans rfl; have hcz25_5 : w24.cell? ⟨gb391, 5, none⟩ = some (.int .i64 a0_5) := (bc_ BK391.out 5).trans rfl; have hcz25_6 : w24.cell? ⟨gb391, 6, none⟩ = some (.int .i64 a0_6) := (bc_ BK391.out 6).trans rfl; have hfz25_0 := bf_ BK391.out 0; have hfz25_1 := bf_ BK391.out 1; have hfz25_2 := bf_ BK391.out 2; have hfz25_3 := bf_ BK391.out 3; have hfz25_4 := bf_ BK391.out 4; have hfz25_5 := bf_ BK391.out 5; have hfz25_6 := bf_ BK391.out 6) | (go_at_call 35; (with_reducible refine (geom_Check.calls a0_0 a0_1 a0_2 a0_3 a0_4 a0_5 a0_6 t395 _ A13.out).mono ?_); rintro e w26 ⟨rfl, hb⟩; have n0_ := ak_ (blk_below (g := gb391) (o := .cells #[.int .i64 a0_0, .int .i64 a0_1, .int .i64 a0_2, .int .i64 a0_3, .int .i64 a0_4, .int .i64 a0_5, .int .i64 a0_6] 23 (0, 0)) (by (with_reducible repeat (first | apply blk_drewN | apply blk_drew | apply blk_alloc)); exact BK391.out) hb); have n1_ := ak_ (blk_below (g := gb392) (o := .cells #[.slice A1_0 l1_0.length c1_0, .int .i64 a1_1, .int .i64 a1_2, .int .i64 a1_3, .int .i64 a1_4] 57 (0, 0)) (by (with_reducible repeat (first | apply blk_drewN | apply blk_drew | apply blk_alloc)); exact BK392.out) hb); have n2_ := ak_ (below_step (by repeat (first | (with_reducible first | exact HB.out | apply below_alloc | apply pw_below_drewN | apply below_drew1 | refine below_set ?_ GE391.out | refine below_set ?_ GE392.out) | exact HB.out)) hb); clear BK391; clear BK392; clear HB; have BK391 := n0_; have BK392 := n1_; have HB := n2_; clear n0_ n1_ n2_; (try clear hb); (try clear hb2); (try clear hk); (try clear hi); have hcz27_0 : w26.cell? ⟨gb392, 0, none⟩ = some (.slice A1_0 l1_0.length c1_0) := (bc_ BK392.out 0).trans rfl; have hcz27_1 : w26.cell? ⟨gb392, 1, none⟩ = some (.int .i64 a1_1) := (bc_ BK392.out 1).trans rfl; have hcz27_2 : w26.cell? ⟨gb392, 2, none⟩ = some (.int .i64 a1_2) := (bc_ BK392.out 2).trans rfl; have hcz27_3 : w26.cell? ⟨gb392, 3, none⟩ = some (.int .i64 a1_3) := (bc_ BK392.out 3).trans rfl; have hcz27_4 : w26.cell? ⟨gb392, 4, none⟩ = some (.int .i64 a1_4) := (bc_ BK392.out 4).trans rfl; have hfz27_0 := bf_ BK392.out 0; have hfz27_1 := bf_ BK392.out 1; have hfz27_2 := bf_ BK392.out 2; have hfz27_3 := bf_ BK392.out 3; have hfz27_4 := bf_ BK392.out 4))
       go_meet
       case rel => exact ⟨_, (decide ((l2.length : Int) > 10)), (by first | rfl | (simp; done) | (simp [*]; done)), H', ⟨by have := HJ4.out; first | omega | exact Nat.le_refl _⟩, ⟨by (with_reducible repeat (first | apply blk_drewN | apply blk_drew | apply blk_alloc)); exact BK391.out⟩, ⟨by (with_reducible repeat (first | apply blk_drewN | apply blk_drew | apply blk_alloc)); exact BK392.out⟩, ⟨by repeat (first | (with_reducible first | exact HB.out | apply below_alloc | apply pw_below_drewN | apply below_drew1 | refine below_set ?_ GE391.out | refine below_set ?_ GE392.out) | exact HB.out)⟩⟩
     ·rw [if_neg c14] at H
      have c14b0 : (t395 == 0) = false := beq_eq_false_iff_ne.mpr c14
      have c14b1 : (t395 != 0) = true := bne_iff_ne.mpr c14
      (first | rw [c14b0] | (simp only [i64_w, i32_w]; rw [c14b0]) | skip)
      have H' := ak_ H
      clear H
      have hnb28 := NB391_392.out
      have hnc28 := NB392_391.out
      have hcz29_0 : wc.cell? ⟨gb391, 0, none⟩ = some (.int .i64 a0_0) := (bc_ BK391.out 0).trans rfl
      have hcz29_1 : wc.cell? ⟨gb391, 1, none⟩ = some (.int .i64 a0_1) := (bc_ BK391.out 1).trans rfl
      have hcz29_2 : wc.cell? ⟨gb391, 2, none⟩ = some (.int .i64 a0_2) := (bc_ BK391.out 2).trans rfl
      have hcz29_3 : wc.cell? ⟨gb391, 3, none⟩ = some (.int .i64 a0_3) := (bc_ BK391.out 3).trans rfl
      have hcz29_4 : wc.cell? ⟨gb391, 4, none⟩ = some (.int .i64 a0_4) := (bc_ BK391.out 4).trans rfl
      have hcz29_5 : wc.cell? ⟨gb391, 5, none⟩ = some (.int .i64 a0_5) := (bc_ BK391.out 5).trans rfl
      have hcz29_6 : wc.cell? ⟨gb391, 6, none⟩ = some (.int .i64 a0_6) := (bc_ BK391.out 6).trans rfl
      have hfz29_0 := bf_ BK391.out 0
      have hfz29_1 := bf_ BK391.out 1
      have hfz29_2 := bf_ BK391.out 2
      have hfz29_3 := bf_ BK391.out 3
      have hfz29_4 := bf_ BK391.out 4
      have hfz29_5 := bf_ BK391.out 5
      have hfz29_6 := bf_ BK391.out 6
      go_wp2_with (first | ((with_reducible refine gate_callee (f := 13) rfl ?_); refine goesL_ (some 19) rfl rfl Try.func13 (by kernel_rfl) rfl #[.agg #[.int .i64 a0_0, .int .i64 a0_1, .int .i64 a0_2, .int .i64 a0_3, .int .i64 a0_4, .int .i64 a0_5, .int .i64 a0_6]] rfl (by (try simp only [List.map_toArray, List.map_cons, List.map_nil]); first | done | rfl | (simp only [List.length_drop, List.length_take]; rfl)) ?_; (with_reducible refine (l08_Small.calls a0_0 a0_1 a0_2 a0_3 a0_4 a0_5 a0_6 true _ A11.out).mono ?_); rintro e w30 ⟨rfl, hb⟩; refine ⟨_, rfl, ?_⟩; have n0_ := ak_ (blk_below (g := gb391) (o := .cells #[.int .i64 a0_0, .int .i64 a0_1, .int .i64 a0_2, .int .i64 a0_3, .int .i64 a0_4, .int .i64 a0_5, .int .i64 a0_6] 23 (0, 0)) (by (with_reducible repeat (first | apply blk_drewN | apply blk_drew | apply blk_alloc)); exact BK391.out) hb); have n1_ := ak_ (blk_below (g := gb392) (o := .cells #[.slice A1_0 l1_0.length c1_0, .int .i64 a1_1, .int .i64 a1_2, .int .i64 a1_3, .int .i64 a1_4] 57 (0, 0)) (by (with_reducible repeat (first | apply blk_drewN | apply blk_drew | apply blk_alloc)); exact BK392.out) hb); have n2_ := ak_ (below_step (by repeat (first | (with_reducible first | exact HB.out | apply below_alloc | apply pw_below_drewN | apply below_drew1 | refine below_set ?_ GE391.out | refine below_set ?_ GE392.out) | exact HB.out)) hb); clear BK391; clear BK392; clear HB; have BK391 := n0_; have BK392 := n1_; have HB := n2_; clear n0_ n1_ n2_; (try clear hb); (try clear hb2); (try clear hk); (try clear hi); have hcz31_0 : w30.cell? ⟨gb391, 0, none⟩ = some (.int .i64 a0_0) := (bc_ BK391.out 0).trans rfl; have hcz31_1 : w30.cell? ⟨gb391, 1, none⟩ = some (.int .i64 a0_1) := (bc_ BK391.out 1).trans rfl; have hcz31_2 : w30.cell? ⟨gb391, 2, none⟩ = some (.int .i64 a0_2) := (bc_ BK391.out 2).trans rfl; have hcz31_3 : w30.cell? ⟨gb391, 3, none⟩ = some (.int .i64 a0_3) := (bc_ BK391.out 3).trans rfl; have hcz31_4 : w30.cell? ⟨gb391, 4, none⟩ = some (.int .i64 a0_4) := (bc_ BK391.out 4).trans rfl; have hcz31_5 : w30.cell? ⟨gb391, 5, none⟩ = some (.int .i64 a0_5) := (bc_ BK391.out 5).trans rfl; have hcz31_6 : w30.cell? ⟨gb391, 6, none⟩ = some (.int .i64 a0_6) := (bc_ BK391.out 6).trans rfl; have hfz31_0 := bf_ BK391.out 0; have hfz31_1 := bf_ BK391.out 1; have hfz31_2 := bf_ BK391.out 2; have hfz31_3 := bf_ BK391.out 3; have hfz31_4 := bf_ BK391.out 4; have hfz31_5 := bf_ BK391.out 5; have hfz31_6 := bf_ BK391.out 6) | (go_at_call 35; (with_reducible refine (geom_Check.calls a0_0 a0_1 a0_2 a0_3 a0_4 a0_5 a0_6 t395 _ A13.out).mono ?_); rintro e w32 ⟨rfl, hb⟩; have n0_ := ak_ (blk_below (g := gb391) (o := .cells #[.int .i64 a0_0, .int .i64 a0_1, .int .i64 a0_2, .int .i64 a0_3, .int .i64 a0_4, .int .i64 a0_5, .int .i64 a0_6] 23 (0, 0)) (by (with_reducible repeat (first | apply blk_drewN | apply blk_drew | apply blk_alloc)); exact BK391.out) hb); have n1_ := ak_ (blk_below (g := gb392) (o := .cells #[.slice A1_0 l1_0.length c1_0, .int .i64 a1_1, .int .i64 a1_2, .int .i64 a1_3, .int .i64 a1_4] 57 (0, 0)) (by (with_reducible repeat (first | apply blk_drewN | apply blk_drew | apply blk_alloc)); exact BK392.out) hb); have n2_ := ak_ (below_step (by repeat (first | (with_reducible first | exact HB.out | apply below_alloc | apply pw_below_drewN | apply below_drew1 | refine below_set ?_ GE391.out | refine below_set ?_ GE392.out) | exact HB.out)) hb); clear BK391; clear BK392; clear HB; have BK391 := n0_; have BK392 := n1_; have HB := n2_; clear n0_ n1_ n2_; (try clear hb); (try clear hb2); (try clear hk); (try clear hi)))
      go_meet
      case rel => exact ⟨_, (true), (by first | rfl | (simp; done) | (simp [*]; done)), H', ⟨by have := HJ4.out; first | omega | exact Nat.le_refl _⟩, ⟨by (with_reducible repeat (first | apply blk_drewN | apply blk_drew | apply blk_alloc)); exact BK391.out⟩, ⟨by (with_reducible repeat (first | apply blk_drewN | apply blk_drew | apply blk_alloc)); exact BK392.out⟩, ⟨by repeat (first | (with_reducible first | exact HB.out | apply below_alloc | apply pw_below_drewN | apply below_drew1 | refine below_set ?_ GE391.out | refine below_set ?_ GE392.out) | exact HB.out)⟩⟩
    ·replace c12 := Bool.eq_false_iff.mpr c12
     subst c12
     have H1 : (l08_PageEmpty.j1 kj4 l2 true a0_0 a0_1 a0_2 a0_3 a0_4 a0_5 a0_6 l1_0 a1_1 a1_2 a1_3 a1_4) = some r := by rw [if_neg (show ¬ (false = true) by decide)] at H; exact H
     clear H
     have H := H1
     clear H1
     have H' := ak_ H
     clear H
     have hnb33 := NB391_392.out
     have hnc33 := NB392_391.out
     have hcz34_0 : wc.cell? ⟨gb391, 0, none⟩ = some (.int .i64 a0_0) := (bc_ BK391.out 0).trans rfl
     have hcz34_1 : wc.cell? ⟨gb391, 1, none⟩ = some (.int .i64 a0_1) := (bc_ BK391.out 1).trans rfl
     have hcz34_2 : wc.cell? ⟨gb391, 2, none⟩ = some (.int .i64 a0_2) := (bc_ BK391.out 2).trans rfl
     have hcz34_3 : wc.cell? ⟨gb391, 3, none⟩ = some (.int .i64 a0_3) := (bc_ BK391.out 3).trans rfl
     have hcz34_4 : wc.cell? ⟨gb391, 4, none⟩ = some (.int .i64 a0_4) := (bc_ BK391.out 4).trans rfl
     have hcz34_5 : wc.cell? ⟨gb391, 5, none⟩ = some (.int .i64 a0_5) := (bc_ BK391.out 5).trans rfl
     have hcz34_6 : wc.cell? ⟨gb391, 6, none⟩ = some (.int .i64 a0_6) := (bc_ BK391.out 6).trans rfl
     have hfz34_0 := bf_ BK391.out 0
     have hfz34_1 := bf_ BK391.out 1
     have hfz34_2 := bf_ BK391.out 2
     have hfz34_3 := bf_ BK391.out 3
     have hfz34_4 := bf_ BK391.out 4
     have hfz34_5 := bf_ BK391.out 5
     have hfz34_6 := bf_ BK391.out 6
     go_wp2_with (first | ((with_reducible refine gate_callee (f := 13) rfl ?_); refine goesL_ (some 19) rfl rfl Try.func13 (by kernel_rfl) rfl #[.agg #[.int .i64 a0_0, .int .i64 a0_1, .int .i64 a0_2, .int .i64 a0_3, .int .i64 a0_4, .int .i64 a0_5, .int .i64 a0_6]] rfl (by (try simp only [List.map_toArray, List.map_cons, List.map_nil]); first | done | rfl | (simp only [List.length_drop, List.length_take]; rfl)) ?_; (with_reducible refine (l08_Small.calls a0_0 a0_1 a0_2 a0_3 a0_4 a0_5 a0_6 false _ A11.out).mono ?_); rintro e w35 ⟨rfl, hb⟩; refine ⟨_, rfl, ?_⟩; have n0_ := ak_ (blk_below (g := gb391) (o := .cells #[.int .i64 a0_0, .int .i64 a0_1, .int .i64 a0_2, .int .i64 a0_3, .int .i64 a0_4, .int .i64 a0_5, .int .i64 a0_6] 23 (0, 0)) (by (with_reducible repeat (first | apply blk_drewN | apply blk_drew | apply blk_alloc)); exact BK391.out) hb); have n1_ := ak_ (blk_below (g := gb392) (o := .cells #[.slice A1_0 l1_0.length c1_0, .int .i64 a1_1, .int .i64 a1_2, .int .i64 a1_3, .int .i64 a1_4] 57 (0, 0)) (by (with_reducible repeat (first | apply blk_drewN | apply blk_drew | apply blk_alloc)); exact BK392.out) hb); have n2_ := ak_ (below_step (by repeat (first | (with_reducible first | exact HB.out | apply below_alloc | apply pw_below_drewN | apply below_drew1 | refine below_set ?_ GE391.out | refine below_set ?_ GE392.out) | exact HB.out)) hb); clear BK391; clear BK392; clear HB; have BK391 := n0_; have BK392 := n1_; have HB := n2_; clear n0_ n1_ n2_; (try clear hb); (try clear hb2); (try clear hk); (try clear hi)))
     go_meet
     case rel => exact ⟨_, (true), (by first | rfl | (simp; done) | (simp [*]; done)), H', ⟨by have := HJ4.out; first | omega | exact Nat.le_refl _⟩, ⟨by (with_reducible repeat (first | apply blk_drewN | apply blk_drew | apply blk_alloc)); exact BK391.out⟩, ⟨by (with_reducible repeat (first | apply blk_drewN | apply blk_drew | apply blk_alloc)); exact BK392.out⟩, ⟨by repeat (first | (with_reducible first | exact HB.out | apply below_alloc | apply pw_below_drewN | apply below_drew1 | refine below_set ?_ GE391.out | refine below_set ?_ GE392.out) | exact HB.out)⟩⟩
   case rest =>
    clear HC10
    try clear c1
    try clear c2
    try clear p2
    try clear c3
    try clear c9
    try clear c11
    try clear c12
    try clear c13
    try clear c14
    try clear c14b0
    try clear c14b1
    try clear c15
    try clear c15b0
    try clear c15b1
    try clear c16
    try clear c22
    try clear c28
    try clear c33
    try clear hcz17_0
    try clear hcz17_1
    try clear hcz17_2
    try clear hcz17_3
    try clear hcz17_4
    try clear hcz17_5
    try clear hcz17_6
    try clear hcz19_0
    try clear hcz19_1
    try clear hcz19_2
    try clear hcz19_3
    try clear hcz19_4
    try clear hcz19_5
    try clear hcz19_6
    try clear hcz21_0
    try clear hcz21_1
    try clear hcz21_2
    try clear hcz21_3
    try clear hcz21_4
    try clear hcz23_0
    try clear hcz23_1
    try clear hcz23_2
    try clear hcz23_3
    try clear hcz23_4
    try clear hcz23_5
    try clear hcz23_6
    try clear hcz25_0
    try clear hcz25_1
    try clear hcz25_2
    try clear hcz25_3
    try clear hcz25_4
    try clear hcz25_5
    try clear hcz25_6
    try clear hcz27_0
    try clear hcz27_1
    try clear hcz27_2
    try clear hcz27_3
    try clear hcz27_4
    try clear hcz29_0
    try clear hcz29_1
    try clear hcz29_2
    try clear hcz29_3
    try clear hcz29_4
    try clear hcz29_5
    try clear hcz29_6
    try clear hcz31_0
    try clear hcz31_1
    try clear hcz31_2
    try clear hcz31_3
    try clear hcz31_4
    try clear hcz31_5
    try clear hcz31_6
    try clear hcz34_0
    try clear hcz34_1
    try clear hcz34_2
    try clear hcz34_3
    try clear hcz34_4
    try clear hcz34_5
    try clear hcz34_6
    try clear hfz17_0
    try clear hfz17_1
    try clear hfz17_2
    try clear hfz17_3
    try clear hfz17_4
    try clear hfz17_5
    try clear hfz17_6
    try clear hfz19_0
    try clear hfz19_1
    try clear hfz19_2
    try clear hfz19_3
    try clear hfz19_4
    try clear hfz19_5
    try clear hfz19_6
    try clear hfz21_0
    try clear hfz21_1
    try clear hfz21_2
    try clear hfz21_3
    try clear hfz21_4
    try clear hfz23_0
    try clear hfz23_1
    try clear hfz23_2
    try clear hfz23_3
    try clear hfz23_4
    try clear hfz23_5
    try clear hfz23_6
    try clear hfz25_0
    try clear hfz25_1
    try clear hfz25_2
    try clear hfz25_3
    try clear hfz25_4
    try clear hfz25_5
    try clear hfz25_6
    try clear hfz27_0
    try clear hfz27_1
    try clear hfz27_2
    try clear hfz27_3
    try clear hfz27_4
    try clear hfz29_0
    try clear hfz29_1
    try clear hfz29_2
    try clear hfz29_3
    try clear hfz29_4
    try clear hfz29_5
    try clear hfz29_6
    try clear hfz31_0
    try clear hfz31_1
    try clear hfz31_2
    try clear hfz31_3
    try clear hfz31_4
    try clear hfz31_5
    try clear hfz31_6
    try clear hfz34_0
    try clear hfz34_1
    try clear hfz34_2
    try clear hfz34_3
    try clear hfz34_4
    try clear hfz34_5
    try clear hfz34_6
    try clear p2
    obtain ⟨kq, x36_9, rfl, HA, HJ9, BK391, BK392, HB⟩ := hcut
    cases kq with
    | zero => exact absurd HA.out (by simp [l08_PageEmpty.j1])
    | succ kj9 =>
     have H := HA.out
     clear HA
     simp only [l08_PageEmpty.j1] at H
     have HC36 := ak_ H
     clear H
     go_upto_if 36 with (fail)
     go_cut [] (fun wc => ∃ (kq : Nat), Aside0 (l08_PageEmpty.j2 kq l2 a0_0 a0_1 a0_2 a0_3 a0_4 a0_5 a0_6 l1_0 a1_1 a1_2 a1_3 a1_4 = some r) ∧ Aside0 (kq ≤ kj9) ∧ Aside0 (wc.heap[gb391]? = some (.cells #[.int .i64 a0_0, .int .i64 a0_1, .int .i64 a0_2, .int .i64 a0_3, .int .i64 a0_4, .int .i64 a0_5, .int .i64 a0_6] 23 (0, 0))) ∧ Aside0 (wc.heap[gb392]? = some (.cells #[(.slice A1_0 l1_0.length c1_0), .int .i64 a1_1, .int .i64 a1_2, .int .i64 a1_3, .int .i64 a1_4] 57 (0, 0))) ∧ Aside0 (Below w.heap.size w wc))
     case first =>
      have H := HC36.out
      clear HC36
      by_cases c37 : x36_9 = true
      ·subst c37
       have H1 : (some true) = some r := by rw [if_pos rfl] at H; exact H
       clear H
       have H := H1
       clear H1
       obtain rfl := si_ H
       go_wp2
       go_ret
       exact ⟨by first | rfl | (simp [errW_none, errW_some] <;> rfl) | (simp [*, errW_none, errW_some] <;> rfl) | (have hz_ : ∀ z : Int, -9223372036854775808 ≤ z → z ≤ 9223372036854775807 → wrap64 z = z := (fun z h1_ h2_ => by unfold wrap64; omega); rw [hz_] <;> first | rfl | omega), by repeat (first | (with_reducible first | exact HB.out | apply below_alloc | apply pw_below_drewN | apply below_drew1 | refine below_set ?_ GE391.out | refine below_set ?_ GE392.out) | exact HB.out)⟩
      ·replace c37 := Bool.eq_false_iff.mpr c37
       subst c37
       have H1 : (l08_PageEmpty.j2 kj9 l2 a0_0 a0_1 a0_2 a0_3 a0_4 a0_5 a0_6 l1_0 a1_1 a1_2 a1_3 a1_4) = some r := by rw [if_neg (show ¬ (false = true) by decide)] at H; exact H
       clear H
       have H := H1
       clear H1
       have H' := ak_ H
       clear H
       go_wp2
       go_meet
       case rel => exact ⟨_, H', ⟨by have := HJ4.out; have := HJ9.out; first | omega | exact Nat.le_refl _⟩, ⟨by (with_reducible repeat (first | apply blk_drewN | apply blk_drew | apply blk_alloc)); exact BK391.out⟩, ⟨by (with_reducible repeat (first | apply blk_drewN | apply blk_drew | apply blk_alloc)); exact BK392.out⟩, ⟨by repeat (first | (with_reducible first | exact HB.out | apply below_alloc | apply pw_below_drewN | apply below_drew1 | refine below_set ?_ GE391.out | refine below_set ?_ GE392.out) | exact HB.out)⟩⟩
     case rest =>
      clear HC36
      try clear c1
      try clear c2
      try clear p2
      try clear c3
      try clear c9
      try clear c11
      try clear c12
      try clear c13
      try clear c14
      try clear c14b0
      try clear c14b1
      try clear c15
      try clear c15b0
      try clear c15b1
      try clear c16
      try clear c22
      try clear c28
      try clear c33
      try clear c37
      try clear hcz17_0
      try clear hcz17_1
      try clear hcz17_2
      try clear hcz17_3
      try clear hcz17_4
      try clear hcz17_5
      try clear hcz17_6
      try clear hcz19_0
      try clear hcz19_1
      try clear hcz19_2
      try clear hcz19_3
      try clear hcz19_4
      try clear hcz19_5
      try clear hcz19_6
      try clear hcz21_0
      try clear hcz21_1
      try clear hcz21_2
      try clear hcz21_3
      try clear hcz21_4
      try clear hcz23_0
      try clear hcz23_1
      try clear hcz23_2
      try clear hcz23_3
      try clear hcz23_4
      try clear hcz23_5
      try clear hcz23_6
      try clear hcz25_0
      try clear hcz25_1
      try clear hcz25_2
      try clear hcz25_3
      try clear hcz25_4
      try clear hcz25_5
      try clear hcz25_6
      try clear hcz27_0
      try clear hcz27_1
      try clear hcz27_2
      try clear hcz27_3
      try clear hcz27_4
      try clear hcz29_0
      try clear hcz29_1
      try clear hcz29_2
      try clear hcz29_3
      try clear hcz29_4
      try clear hcz29_5
      try clear hcz29_6
      try clear hcz31_0
      try clear hcz31_1
      try clear hcz31_2
      try clear hcz31_3
      try clear hcz31_4
      try clear hcz31_5
      try clear hcz31_6
      try clear hcz34_0
      try clear hcz34_1
      try clear hcz34_2
      try clear hcz34_3
      try clear hcz34_4
      try clear hcz34_5
      try clear hcz34_6
      try clear hfz17_0
      try clear hfz17_1
      try clear hfz17_2
      try clear hfz17_3
      try clear hfz17_4
      try clear hfz17_5
      try clear hfz17_6
      try clear hfz19_0
      try clear hfz19_1
      try clear hfz19_2
      try clear hfz19_3
      try clear hfz19_4
      try clear hfz19_5
      try clear hfz19_6
      try clear hfz21_0
      try clear hfz21_1
      try clear hfz21_2
      try clear hfz21_3
      try clear hfz21_4
      try clear hfz23_0
      try clear hfz23_1
      try clear hfz23_2
      try clear hfz23_3
      try clear hfz23_4
      try clear hfz23_5
      try clear hfz23_6
      try clear hfz25_0
      try clear hfz25_1
      try clear hfz25_2
      try clear hfz25_3
      try clear hfz25_4
      try clear hfz25_5
      try clear hfz25_6
      try clear hfz27_0
      try clear hfz27_1
      try clear hfz27_2
      try clear hfz27_3
      try clear hfz27_4
      try clear hfz29_0
      try clear hfz29_1
      try clear hfz29_2
      try clear hfz29_3
      try clear hfz29_4
      try clear hfz29_5
      try clear hfz29_6
      try clear hfz31_0
      try clear hfz31_1
      try clear hfz31_2
      try clear hfz31_3
      try clear hfz31_4
      try clear hfz31_5
      try clear hfz31_6
      try clear hfz34_0
      try clear hfz34_1
      try clear hfz34_2
      try clear hfz34_3
      try clear hfz34_4
      try clear hfz34_5
      try clear hfz34_6
      try clear p2
      obtain ⟨kq, HA, HJ35, BK391, BK392, HB⟩ := hcut
      cases kq with
      | zero => exact absurd HA.out (by simp [l08_PageEmpty.j2])
      | succ kj35 =>
       have H := HA.out
       clear HA
       simp only [l08_PageEmpty.j2] at H
       have H' := ak_ H
       clear H
       go_wp2
       go_loopg [7, 39] kj35 (fun kq v7 v39 w' => ∃ (x7_4 : List Int) (x39_4 : Int), v39 = .int .i64 x39_4 ∧ Aside0 (l08_PageEmpty.l0 kq x7_4 l2 (l2.length : Int) x39_4 a0_0 a0_1 a0_2 a0_3 a0_4 a0_5 a0_6 l1_0 a1_1 a1_2 a1_3 a1_4 = some r) ∧ Aside0 (kq ≤ kj35) ∧ Aside0 (Kd.R (Kd.int .i64) 3 w' w.heap.size (fun _ => True) v7 x7_4) ∧ Aside0 (w'.heap[gb391]? = some (.cells #[.int .i64 a0_0, .int .i64 a0_1, .int .i64 a0_2, .int .i64 a0_3, .int .i64 a0_4, .int .i64 a0_5, .int .i64 a0_6] 23 (0, 0))) ∧ Aside0 (w'.heap[gb392]? = some (.cells #[(.slice A1_0 l1_0.length c1_0), .int .i64 a1_1, .int .i64 a1_2, .int .i64 a1_3, .int .i64 a1_4] 57 (0, 0))) ∧ Aside0 (Below w.heap.size w w'))
       case atStart => exact ⟨(([] : List Int)), (0), (by first | rfl | (simp; done) | (simp [*]; done)), H', ⟨Nat.le_refl _⟩, ⟨by first | exact Kd.R_nil _ _ _ _ _ | exact Kd.N_nil _ _ _ _ _ | exact Kd.V_nil _ _ _ _ _ | exact Kd.Q_nil _ _ _ _ _ | exact Kd.S_nil _ _ _ _ _⟩, ⟨by (with_reducible repeat (first | apply blk_drewN | apply blk_drew | apply blk_alloc)); exact BK391.out⟩, ⟨by (with_reducible repeat (first | apply blk_drewN | apply blk_drew | apply blk_alloc)); exact BK392.out⟩, ⟨by repeat (first | (with_reducible first | exact HB.out | apply below_alloc | apply pw_below_drewN | apply below_drew1 | refine below_set ?_ GE391.out | refine below_set ?_ GE392.out) | exact HB.out)⟩⟩
       case round =>
        clear H'
        try clear c1
        try clear c2
        try clear p2
        try clear c3
        try clear c9
        try clear c11
        try clear c12
        try clear c13
        try clear c14
        try clear c14b0
        try clear c14b1
        try clear c15
        try clear c15b0
        try clear c15b1
        try clear c16
        try clear c22
        try clear c28
        try clear c33
        try clear c37
        try clear hcz17_0
        try clear hcz17_1
        try clear hcz17_2
        try clear hcz17_3
        try clear hcz17_4
        try clear hcz17_5
        try clear hcz17_6
        try clear hcz19_0
        try clear hcz19_1
        try clear hcz19_2
        try clear hcz19_3
        try clear hcz19_4
        try clear hcz19_5
        try clear hcz19_6
        try clear hcz21_0
        try clear hcz21_1
        try clear hcz21_2
        try clear hcz21_3
        try clear hcz21_4
        try clear hcz23_0
        try clear hcz23_1
        try clear hcz23_2
        try clear hcz23_3
        try clear hcz23_4
        try clear hcz23_5
        try clear hcz23_6
        try clear hcz25_0
        try clear hcz25_1
        try clear hcz25_2
        try clear hcz25_3
        try clear hcz25_4
        try clear hcz25_5
        try clear hcz25_6
        try clear hcz27_0
        try clear hcz27_1
        try clear hcz27_2
        try clear hcz27_3
        try clear hcz27_4
        try clear hcz29_0
        try clear hcz29_1
        try clear hcz29_2
        try clear hcz29_3
        try clear hcz29_4
        try clear hcz29_5
        try clear hcz29_6
        try clear hcz31_0
        try clear hcz31_1
        try clear hcz31_2
        try clear hcz31_3
        try clear hcz31_4
        try clear hcz31_5
        try clear hcz31_6
        try clear hcz34_0
        try clear hcz34_1
        try clear hcz34_2
        try clear hcz34_3
        try clear hcz34_4
        try clear hcz34_5
        try clear hcz34_6
        try clear hfz17_0
        try clear hfz17_1
        try clear hfz17_2
        try clear hfz17_3
        try clear hfz17_4
        try clear hfz17_5
        try clear hfz17_6
        try clear hfz19_0
        try clear hfz19_1
        try clear hfz19_2
        try clear hfz19_3
        try clear hfz19_4
        try clear hfz19_5
        try clear hfz19_6
        try clear hfz21_0
        try clear hfz21_1
        try clear hfz21_2
        try clear hfz21_3
        try clear hfz21_4
        try clear hfz23_0
        try clear hfz23_1
        try clear hfz23_2
        try clear hfz23_3
        try clear hfz23_4
        try clear hfz23_5
        try clear hfz23_6
        try clear hfz25_0
        try clear hfz25_1
        try clear hfz25_2
        try clear hfz25_3
        try clear hfz25_4
        try clear hfz25_5
        try clear hfz25_6
        try clear hfz27_0
        try clear hfz27_1
        try clear hfz27_2
        try clear hfz27_3
        try clear hfz27_4
        try clear hfz29_0
        try clear hfz29_1
        try clear hfz29_2
        try clear hfz29_3
        try clear hfz29_4
        try clear hfz29_5
        try clear hfz29_6
        try clear hfz31_0
        try clear hfz31_1
        try clear hfz31_2
        try clear hfz31_3
        try clear hfz31_4
        try clear hfz31_5
        try clear hfz31_6
        try clear hfz34_0
        try clear hfz34_1
        try clear hfz34_2
        try clear hfz34_3
        try clear hfz34_4
        try clear hfz34_5
        try clear hfz34_6
        try clear p2
        obtain ⟨x7_4, x39_4, rfl, HA, HK4, HO_7, BK391, BK392, HB⟩ := hrel
        cases gk with
        | zero => exact absurd HA.out (by simp [l08_PageEmpty.l0])
        | succ k4 =>
         have H := HA.out
         clear HA
         simp only [l08_PageEmpty.l0] at H
         have HC38 := ak_ H
         clear H
         go_upto_if 40 with (fail)
         go_cut [] (fun wc => ∃ (kq : Nat), Aside0 (l08_PageEmpty.j4 kq x7_4 l2 (l2.length : Int) x39_4 a0_0 a0_1 a0_2 a0_3 a0_4 a0_5 a0_6 l1_0 a1_1 a1_2 a1_3 a1_4 = some r) ∧ Aside0 (kq ≤ k4) ∧ Aside0 (Kd.R (Kd.int .i64) 3 wc w.heap.size (fun _ => True) u7 x7_4) ∧ Aside0 (wc.heap[gb391]? = some (.cells #[.int .i64 a0_0, .int .i64 a0_1, .int .i64 a0_2, .int .i64 a0_3, .int .i64 a0_4, .int .i64 a0_5, .int .i64 a0_6] 23 (0, 0))) ∧ Aside0 (wc.heap[gb392]? = some (.cells #[(.slice A1_0 l1_0.length c1_0), .int .i64 a1_1, .int .i64 a1_2, .int .i64 a1_3, .int .i64 a1_4] 57 (0, 0))) ∧ Aside0 (Below w.heap.size w wc))
         case first =>
          have H := HC38.out
          clear HC38
          by_cases c39 : x39_4 < (l2.length : Int)
          ·rw [if_pos c39] at H
           have c39b0 : decide (x39_4 < (l2.length : Int)) = true := dt_ c39
           clear c39
           (first | rw [c39b0] | (simp only [i64_w, i32_w]; rw [c39b0]) | skip)
           have H' := ak_ H
           clear H
           go_wp2
           go_meet
           case rel => exact ⟨_, H', ⟨by have := HJ4.out; have := HJ9.out; have := HJ35.out; have := HK4.out; first | omega | exact Nat.le_refl _⟩, ⟨by (with_reducible repeat (first | apply Kd.R_alloc | apply Kd.R_drewN | apply Kd.R_drew)); exact HO_7.out⟩, ⟨by (with_reducible repeat (first | apply blk_drewN | apply blk_drew | apply blk_alloc)); exact BK391.out⟩, ⟨by (with_reducible repeat (first | apply blk_drewN | apply blk_drew | apply blk_alloc)); exact BK392.out⟩, ⟨by repeat (first | (with_reducible first | exact HB.out | apply below_alloc | apply pw_below_drewN | apply below_drew1 | refine below_set ?_ GE391.out | refine below_set ?_ GE392.out) | exact HB.out)⟩⟩
          ·rw [if_neg c39] at H
           have c39b0 : decide (x39_4 < (l2.length : Int)) = false := df_ c39
           clear c39
           (first | rw [c39b0] | (simp only [i64_w, i32_w]; rw [c39b0]) | skip)
           replace H := Option.bind_eq_some_iff.mp H
           obtain ⟨t401, A400, H⟩ := H
           replace H : ((bits_Flip.f k4 t401 x7_4).bind fun t404 => ((page_Decode.f k4 a0_0 a0_1 a0_2 a0_3 a0_4 a0_5 a0_6 t404).bind fun bt407 => (if bt407.2.2.2.2.2.2 = 0 then (if bt407.2.2.2.2.2.1 = 2 then ((page_Erased.f k4 a0_0 a0_1 a0_2 a0_3 a0_4 a0_5 a0_6).bind fun t417 => ((page_Marked.f k4 a0_0 a0_1 a0_2 a0_3 a0_4 a0_5 a0_6 t417).bind fun t420 => (if t420 = true then (none) else (l08_PageEmpty.j5 k4 x7_4 a0_0 a0_1 a0_2 a0_3 a0_4 a0_5 a0_6 l1_0 a1_1 a1_2 a1_3 a1_4)))) else (none)) else (none)))) = some r := H
           have A40 := ak_ A400
           clear A400
           replace H := Option.bind_eq_some_iff.mp H
           obtain ⟨t404, A410, H⟩ := H
           replace H : ((page_Decode.f k4 a0_0 a0_1 a0_2 a0_3 a0_4 a0_5 a0_6 t404).bind fun bt407 => (if bt407.2.2.2.2.2.2 = 0 then (if bt407.2.2.2.2.2.1 = 2 then ((page_Erased.f k4 a0_0 a0_1 a0_2 a0_3 a0_4 a0_5 a0_6).bind fun t417 => ((page_Marked.f k4 a0_0 a0_1 a0_2 a0_3 a0_4 a0_5 a0_6 t417).bind fun t420 => (if t420 = true then (none) else (l08_PageEmpty.j5 k4 x7_4 a0_0 a0_1 a0_2 a0_3 a0_4 a0_5 a0_6 l1_0 a1_1 a1_2 a1_3 a1_4)))) else (none)) else (none))) = some r := H
           have A41 := ak_ A410
           clear A410
           replace H := Option.bind_eq_some_iff.mp H
           obtain ⟨⟨t407, t410, t411, t412, t413, t414, t415⟩, A420, H⟩ := H
           replace H : (if t415 = 0 then (if t414 = 2 then ((page_Erased.f k4 a0_0 a0_1 a0_2 a0_3 a0_4 a0_5 a0_6).bind fun t417 => ((page_Marked.f k4 a0_0 a0_1 a0_2 a0_3 a0_4 a0_5 a0_6 t417).bind fun t420 => (if t420 = true then (none) else (l08_PageEmpty.j5 k4 x7_4 a0_0 a0_1 a0_2 a0_3 a0_4 a0_5 a0_6 l1_0 a1_1 a1_2 a1_3 a1_4)))) else (none)) else (none)) = some r := H
           have A42 := ak_ A420
           clear A420
           by_cases c43 : t415 = 0
           ·rw [if_pos c43] at H
            have c43b0 : (t415 == 0) = true := beq_iff_eq.mpr c43
            have c43b1 : (t415 != 0) = false := bne_eq_false_iff_eq.mpr c43
            clear c43
            by_cases c44 : t414 = 2
            ·rw [if_pos c44] at H
             have c44b0 : (t414 == 2) = true := beq_iff_eq.mpr c44
             have c44b1 : (t414 != 2) = false := bne_eq_false_iff_eq.mpr c44
             clear c44
             replace H := Option.bind_eq_some_iff.mp H
             obtain ⟨t417, A450, H⟩ := H
             replace H : ((page_Marked.f k4 a0_0 a0_1 a0_2 a0_3 a0_4 a0_5 a0_6 t417).bind fun t420 => (if t420 = true then (none) else (l08_PageEmpty.j5 k4 x7_4 a0_0 a0_1 a0_2 a0_3 a0_4 a0_5 a0_6 l1_0 a1_1 a1_2 a1_3 a1_4))) = some r := H
             have A45 := ak_ A450
             clear A450
             replace H := Option.bind_eq_some_iff.mp H
             obtain ⟨t420, A460, H⟩ := H
             replace H : (if t420 = true then (none) else (l08_PageEmpty.j5 k4 x7_4 a0_0 a0_1 a0_2 a0_3 a0_4 a0_5 a0_6 l1_0 a1_1 a1_2 a1_3 a1_4)) = some r := H
             have A46 := ak_ A460
             clear A460
             have HC47 := ak_ H
             clear H
             obtain ⟨Ao48, co48, eo48⟩ := Kd.R_slice HO_7.out
             subst eo48
             try go_wp2
             have n0_ := ak_ (Kd.R_drew HO_7.out)
             have n1_ := ak_ (blk_drew BK391.out)
             have n2_ := ak_ (blk_drew BK392.out)
             have n3_ := ak_ (below_drew1 HB.out)
             clear HO_7
             clear BK391
             clear BK392
             clear HB
             have HO_7 := n0_
             have BK391 := n1_
             have BK392 := n2_
             have HB := n3_
             clear n0_ n1_ n2_ n3_
             refine start_ (n := 16) (S := fun w' => w'.cell? ⟨gb391, 0, none⟩ = some (.int .i64 a0_0) ∧ w'.cell? ⟨gb391, 1, none⟩ = some (.int .i64 a0_1) ∧ w'.cell? ⟨gb391, 2, none⟩ = some (.int .i64 a0_2) ∧ w'.cell? ⟨gb391, 3, none⟩ = some (.int .i64 a0_3) ∧ w'.cell? ⟨gb391, 4, none⟩ = some (.int .i64 a0_4) ∧ w'.cell? ⟨gb391, 5, none⟩ = some (.int .i64 a0_5) ∧ w'.cell? ⟨gb391, 6, none⟩ = some (.int .i64 a0_6)) (ds := []) #[false, false, false, false, false, false, false, false, false, false, false, false, false, false, false, false] (by kernel_rfl) rfl rfl ⟨(bc_ BK391.out 0).trans rfl, (bc_ BK391.out 1).trans rfl, (bc_ BK391.out 2).trans rfl, (bc_ BK391.out 3).trans rfl, (bc_ BK391.out 4).trans rfl, (bc_ BK391.out 5).trans rfl, (bc_ BK391.out 6).trans rfl⟩ (fun hHeld => ?_); refine with_tabW l08_PageEmpty.tab11 l08_PageEmpty.bits11 (fun HT_ HW_ => ?_)
             generalize wr.drew = w49 at HO_7 BK391 BK392 HB hHeld ⊢
             refine pure_ (i := 3) (N := some 57) (v := ?_) (a' := ?_) #[false, false, false, true, false, false, false, false, false, false, false, false, false, false, false, false] rfl rfl (any_of HT_.out (by kernel_rfl)) (fun _ _ _ h => h) (Or.inl ⟨by rfl, ?_⟩) ?_ ?_
             rotate_left
             ·intro w'
              go_simp
              with_reducible rfl
             rotate_left
             ·simp only [Act.put, sb_, sz_, su_, i64_w, i32_w]
              rfl
             refine take_ (i := 0) (N := some 54) (v := ?_) (a' := ?_) #[true, false, false, true, false, false, false, false, false, false, false, false, false, false, false, false] rfl rfl (take_ofW HT_.out HW_.out (by kernel_rfl)) (fun _ _ _ h => h) (Or.inl ⟨by rfl, ?_⟩) hHeld ?_ ?_
             rotate_left
             ·rintro w' ⟨s0, s1, s2, s3, s4, s5, s6⟩
              go_simp
              with_reducible rfl
             rotate_left
             ·simp only [Act.put, sb_, sz_, su_, i64_w, i32_w]
              rfl
             refine take_ (i := 1) (N := some 55) (v := ?_) (a' := ?_) #[true, true, false, true, false, false, false, false, false, false, false, false, false, false, false, false] rfl rfl (take_ofW HT_.out HW_.out (by kernel_rfl)) (fun _ _ _ h => h) (Or.inl ⟨by rfl, ?_⟩) hHeld ?_ ?_
             rotate_left
             ·rintro w' ⟨s0, s1, s2, s3, s4, s5, s6⟩
              go_simp
              with_reducible rfl
             rotate_left
             ·simp only [Act.put, sb_, sz_, su_, i64_w, i32_w]
              rfl
             refine join_ (σ := Value × Value × Value × Nat) 4 #[true, true, true, true, true, true, true, true, true, true, true, true, false, false, false, false] (fun s_ => [(56, s_.1), (58, s_.2.1), (59, .tuple #[s_.2.2.1, .agg #[.int .i64 t410, .int .i64 t411, .int .i64 t412, .int .i64 t413], .int .i64 t414, .int .i64 t415]), (11, .pointer (some ⟨s_.2.2.2, 0, none⟩)), (53, .tuple #[s_.2.2.1, .agg #[.int .i64 t410, .int .i64 t411, .int .i64 t412, .int .i64 t413], .int .i64 t414, .int .i64 t415]), (60, s_.2.2.1), (61, .agg #[.int .i64 t410, .int .i64 t411, .int .i64 t412, .int .i64 t413]), (62, .int .i64 t414), (63, .int .i64 t415)]) (fun s_ w' => (w'.cell? ⟨gb391, 0, none⟩ = some (.int .i64 a0_0) ∧ w'.cell? ⟨gb391, 1, none⟩ = some (.int .i64 a0_1) ∧ w'.cell? ⟨gb391, 2, none⟩ = some (.int .i64 a0_2) ∧ w'.cell? ⟨gb391, 3, none⟩ = some (.int .i64 a0_3) ∧ w'.cell? ⟨gb391, 4, none⟩ = some (.int .i64 a0_4) ∧ w'.cell? ⟨gb391, 5, none⟩ = some (.int .i64 a0_5) ∧ w'.cell? ⟨gb391, 6, none⟩ = some (.int .i64 a0_6)) ∧ (Kd.R (Kd.int .u8) 5 w' w.heap.size (fun k_ => some k_ ≠ (s_.2.1 : Value).ownBlock ∧ some k_ ≠ (s_.2.2.1 : Value).ownBlock) s_.1 t401) ∧ (Kd.R (Kd.int .u8) 5 w' w.heap.size (fun k_ => some k_ ≠ (s_.1 : Value).ownBlock ∧ some k_ ≠ (s_.2.2.1 : Value).ownBlock) s_.2.1 t404) ∧ (Kd.R (Kd.int .u8) 5 w' w.heap.size (fun k_ => some k_ ≠ (s_.1 : Value).ownBlock ∧ some k_ ≠ (s_.2.1 : Value).ownBlock) s_.2.2.1 t407) ∧ (Kd.R (Kd.int .i64) 3 w' w.heap.size (fun _ => True) (.slice Ao48 x7_4.length co48) x7_4) ∧ (w'.heap[gb391]? = some (.cells #[.int .i64 a0_0, .int .i64 a0_1, .int .i64 a0_2, .int .i64 a0_3, .int .i64 a0_4, .int .i64 a0_5, .int .i64 a0_6] 23 (0, 0))) ∧ (w'.heap[gb392]? = some (.cells #[.slice A1_0 l1_0.length c1_0, .int .i64 a1_1, .int .i64 a1_2, .int .i64 a1_3, .int .i64 a1_4] 57 (0, 0))) ∧ (w'.heap[s_.2.2.2]? = some (.cells #[.int .i64 0, .int .i64 0, .int .i64 0, .int .i64 0] 26 (0, 0))) ∧ (w.heap.size ≤ s_.2.2.2) ∧ (w.heap.size ≤ s_.2.2.2) ∧ (gb391 ≠ s_.2.2.2) ∧ (s_.2.2.2 ≠ gb391) ∧ (gb392 ≠ s_.2.2.2) ∧ (s_.2.2.2 ≠ gb392) ∧ (Below w.heap.size w w')) ?_ ?_
             rotate_left
             ·intro hCont
              refine two_ (i := 2) (j := 11) (Ni := some 56) (Nj := some 11) #[true, true, true, true, false, false, false, false, false, false, false, false, false, false, false, false] #[true, true, false, true, false, false, false, false, false, false, false, true, false, false, false, false] rfl rfl rfl rfl (two_of HT_.out (by kernel_rfl)) (by decide) (by decide) (fun K hK => ?_) (fun K hK => ?_)
              ·skip
               refine goes_ Try.func15 (by kernel_rfl) rfl #[.agg #[.int .i64 a0_0, .int .i64 a0_1, .int .i64 a0_2, .int .i64 a0_3, .int .i64 a0_4, .int .i64 a0_5, .int .i64 a0_6]] (by rfl) rfl rfl (by (try simp only [List.map_toArray, List.map_cons, List.map_nil]); first | done | rfl | (simp only [List.length_drop, List.length_take]; rfl)) ?_
               with_reducible refine (page_Erased.calls k4 a0_0 a0_1 a0_2 a0_3 a0_4 a0_5 a0_6 t401 _ A40.out).mono ?_
               rintro e w50 ⟨v402, rfl, ho0, hb⟩
               refine ⟨_, rfl, ?_⟩
               have n0_ := ak_ (Kd.R_below (by (with_reducible repeat (first | apply Kd.R_alloc | apply Kd.R_drewN | apply Kd.R_drew)); exact HO_7.out) hb)
               have n1_ := ak_ (Kd.R_lower ho0 (below_size (by repeat (first | (with_reducible first | exact HB.out | apply below_alloc | apply pw_below_drewN | apply below_drew1 | refine below_set ?_ GE391.out | refine below_set ?_ GE392.out) | exact HB.out))))
               have n2_ := ak_ (blk_below (g := gb391) (o := .cells #[.int .i64 a0_0, .int .i64 a0_1, .int .i64 a0_2, .int .i64 a0_3, .int .i64 a0_4, .int .i64 a0_5, .int .i64 a0_6] 23 (0, 0)) (by (with_reducible repeat (first | apply blk_drewN | apply blk_drew | apply blk_alloc)); exact BK391.out) hb)
               have n3_ := ak_ (blk_below (g := gb392) (o := .cells #[.slice A1_0 l1_0.length c1_0, .int .i64 a1_1, .int .i64 a1_2, .int .i64 a1_3, .int .i64 a1_4] 57 (0, 0)) (by (with_reducible repeat (first | apply blk_drewN | apply blk_drew | apply blk_alloc)); exact BK392.out) hb)
               have n4_ := ak_ (below_step (by repeat (first | (with_reducible first | exact HB.out | apply below_alloc | apply pw_below_drewN | apply below_drew1 | refine below_set ?_ GE391.out | refine below_set ?_ GE392.out) | exact HB.out)) hb)
               clear HO_7
               clear BK391
               clear BK392
               clear HB
               have HO_7 := n0_
               have HO403 := n1_
               have BK391 := n2_
               have BK392 := n3_
               have HB := n4_
               clear n0_ n1_ n2_ n3_ n4_
               (try clear hb)
               (try clear hb2)
               (try clear hk)
               (try clear hi)
               (try clear ho0)
               obtain ⟨Ao51, co51, eo51⟩ := Kd.R_slice HO403.out
               (first | subst eo51 | (injection eo51 with f1_ f2_ f3_; have f4_ := f1_.symm; have f5_ := f3_.symm; clear f1_ f2_ f3_; subst f4_; subst f5_))
               refine hK.out _ _ ⟨(bc_ BK391.out 0).trans rfl, (bc_ BK391.out 1).trans rfl, (bc_ BK391.out 2).trans rfl, (bc_ BK391.out 3).trans rfl, (bc_ BK391.out 4).trans rfl, (bc_ BK391.out 5).trans rfl, (bc_ BK391.out 6).trans rfl⟩ (fun hHeld => ?_)
               clear hK K
               refine norm_ (a' := ?_) ?_ ?_
               rotate_left
               ·show Act.put _ (some 56) _ = _
                simp only [Act.put, sb_, sz_, su_, i64_w, i32_w]
                rfl
               refine two_ (i := 4) (j := 11) (Ni := some 58) (Nj := some 11) #[true, true, true, true, true, false, false, false, false, false, false, false, false, false, false, false] #[true, true, true, true, false, false, false, false, false, false, false, true, false, false, false, false] rfl rfl rfl rfl (two_of HT_.out (by kernel_rfl)) (by decide) (by decide) (fun K hK => ?_) (fun K hK => ?_)
               ·skip
                refine goes_ Try.func34 (by kernel_rfl) rfl #[.slice Ao51 t401.length co51, .slice Ao48 x7_4.length co48] (by rfl) rfl rfl (by (try simp only [List.map_toArray, List.map_cons, List.map_nil]); first | done | rfl | (simp only [List.length_drop, List.length_take]; rfl)) ?_
                with_reducible refine (bits_Flip.calls k4 _ _ t401 _ _ x7_4 t404 _ ?side1 ?side2 ?side3 ?side4 A41.out).mono ?_
                (case side1 => repeat (first | exact (Kd.R_reads' HO403.out).2.2 | (with_reducible refine Kd.C_alloc ?_ _) | (with_reducible refine Kd.C_drewN ?_ _) | (with_reducible refine Kd.C_drew ?_)))
                (case side2 => exact (Kd.R_reads' HO403.out).2.1)
                (case side3 => repeat (first | exact (Kd.R_reads' HO_7.out).2.2 | (with_reducible refine Kd.C_alloc ?_ _) | (with_reducible refine Kd.C_drewN ?_ _) | (with_reducible refine Kd.C_drew ?_)))
                (case side4 => exact (Kd.R_reads' HO_7.out).2.1)
                rintro e w52 ⟨v405, rfl, ho0, hb⟩
                refine ⟨_, rfl, ?_⟩
                have n0_ := ak_ (Kd.R_below (by (with_reducible repeat (first | apply Kd.R_alloc | apply Kd.R_drewN | apply Kd.R_drew)); exact HO_7.out) hb)
                have n1_ := ak_ (Kd.R_elder' (by (with_reducible repeat (first | apply Kd.R_alloc | apply Kd.R_drewN | apply Kd.R_drew)); exact HO403.out) (Kd.R_base ho0) hb)
                have n2_ := ak_ (Kd.R_lower (Kd.R_new' ho0 (Kd.R_lt (by (with_reducible repeat (first | apply Kd.R_alloc | apply Kd.R_drewN | apply Kd.R_drew)); exact HO403.out))) (below_size (by repeat (first | (with_reducible first | exact HB.out | apply below_alloc | apply pw_below_drewN | apply below_drew1 | refine below_set ?_ GE391.out | refine below_set ?_ GE392.out) | exact HB.out))))
                have n3_ := ak_ (blk_below (g := gb391) (o := .cells #[.int .i64 a0_0, .int .i64 a0_1, .int .i64 a0_2, .int .i64 a0_3, .int .i64 a0_4, .int .i64 a0_5, .int .i64 a0_6] 23 (0, 0)) (by (with_reducible repeat (first | apply blk_drewN | apply blk_drew | apply blk_alloc)); exact BK391.out) hb)
                have n4_ := ak_ (blk_below (g := gb392) (o := .cells #[.slice A1_0 l1_0.length c1_0, .int .i64 a1_1, .int .i64 a1_2, .int .i64 a1_3, .int .i64 a1_4] 57 (0, 0)) (by (with_reducible repeat (first | apply blk_drewN | apply blk_drew | apply blk_alloc)); exact BK392.out) hb)
                have n5_ := ak_ (below_step (by repeat (first | (with_reducible first | exact HB.out | apply below_alloc | apply pw_below_drewN | apply below_drew1 | refine below_set ?_ GE391.out | refine below_set ?_ GE392.out) | exact HB.out)) hb)
                clear HO_7
                clear HO403
                clear BK391
                clear BK392
                clear HB
                have HO_7 := n0_
                have HO403 := n1_
                have HO406 := n2_
                have BK391 := n3_
                have BK392 := n4_
                have HB := n5_
                clear n0_ n1_ n2_ n3_ n4_ n5_
                (try clear hb)
                (try clear hb2)
                (try clear hk)
                (try clear hi)
                (try clear ho0)
                obtain ⟨Ao53, co53, eo53⟩ := Kd.R_slice HO406.out
                (first | subst eo53 | (injection eo53 with f1_ f2_ f3_; have f4_ := f1_.symm; have f5_ := f3_.symm; clear f1_ f2_ f3_; subst f4_; subst f5_))
                refine hK.out _ _ ⟨(bc_ BK391.out 0).trans rfl, (bc_ BK391.out 1).trans rfl, (bc_ BK391.out 2).trans rfl, (bc_ BK391.out 3).trans rfl, (bc_ BK391.out 4).trans rfl, (bc_ BK391.out 5).trans rfl, (bc_ BK391.out 6).trans rfl⟩ (fun hHeld => ?_)
                clear hK K
                refine norm_ (a' := ?_) ?_ ?_
                rotate_left
                ·show Act.put _ (some 58) _ = _
                 simp only [Act.put, sb_, sz_, su_, i64_w, i32_w]
                 rfl
                refine two_ (i := 5) (j := 11) (Ni := some 59) (Nj := some 11) #[true, true, true, true, true, true, false, false, false, false, false, false, false, false, false, false] #[true, true, true, true, true, false, false, false, false, false, false, true, false, false, false, false] rfl rfl rfl rfl (two_of HT_.out (by kernel_rfl)) (by decide) (by decide) (fun K hK => ?_) (fun K hK => ?_)
                ·skip
                 refine goes_ Try.func30 (by kernel_rfl) rfl #[.agg #[.int .i64 a0_0, .int .i64 a0_1, .int .i64 a0_2, .int .i64 a0_3, .int .i64 a0_4, .int .i64 a0_5, .int .i64 a0_6], .slice Ao53 t404.length co53] (by rfl) rfl rfl (by (try simp only [List.map_toArray, List.map_cons, List.map_nil]); first | done | rfl | (simp only [List.length_drop, List.length_take]; rfl)) ?_
                 with_reducible refine (page_Decode.calls k4 a0_0 a0_1 a0_2 a0_3 a0_4 a0_5 a0_6 _ _ t404 t407 t410 t411 t412 t413 t414 t415 _ ?side1 ?side2 A42.out).mono ?_
                 (case side1 => repeat (first | exact (Kd.R_reads' HO406.out).2.2 | (with_reducible refine Kd.C_alloc ?_ _) | (with_reducible refine Kd.C_drewN ?_ _) | (with_reducible refine Kd.C_drew ?_)))
                 (case side2 => exact (Kd.R_reads' HO406.out).2.1)
                 rintro e w54 ⟨v408, rfl, ho0, hb⟩
                 refine ⟨_, rfl, ?_⟩
                 have n0_ := ak_ (Kd.R_below (by (with_reducible repeat (first | apply Kd.R_alloc | apply Kd.R_drewN | apply Kd.R_drew)); exact HO_7.out) hb)
                 have n1_ := ak_ (Kd.R_elder' (by (with_reducible repeat (first | apply Kd.R_alloc | apply Kd.R_drewN | apply Kd.R_drew)); exact HO403.out) (Kd.R_base ho0) hb)
                 have n2_ := ak_ (Kd.R_elder' (by (with_reducible repeat (first | apply Kd.R_alloc | apply Kd.R_drewN | apply Kd.R_drew)); exact HO406.out) (Kd.R_base ho0) hb)
                 have n3_ := ak_ (Kd.R_lower (Kd.R_new' (Kd.R_new' ho0 (Kd.R_lt (by (with_reducible repeat (first | apply Kd.R_alloc | apply Kd.R_drewN | apply Kd.R_drew)); exact HO403.out))) (Kd.R_lt (by (with_reducible repeat (first | apply Kd.R_alloc | apply Kd.R_drewN | apply Kd.R_drew)); exact HO406.out))) (below_size (by repeat (first | (with_reducible first | exact HB.out | apply below_alloc | apply pw_below_drewN | apply below_drew1 | refine below_set ?_ GE391.out | refine below_set ?_ GE392.out) | exact HB.out))))
                 have n4_ := ak_ (blk_below (g := gb391) (o := .cells #[.int .i64 a0_0, .int .i64 a0_1, .int .i64 a0_2, .int .i64 a0_3, .int .i64 a0_4, .int .i64 a0_5, .int .i64 a0_6] 23 (0, 0)) (by (with_reducible repeat (first | apply blk_drewN | apply blk_drew | apply blk_alloc)); exact BK391.out) hb)
                 have n5_ := ak_ (blk_below (g := gb392) (o := .cells #[.slice A1_0 l1_0.length c1_0, .int .i64 a1_1, .int .i64 a1_2, .int .i64 a1_3, .int .i64 a1_4] 57 (0, 0)) (by (with_reducible repeat (first | apply blk_drewN | apply blk_drew | apply blk_alloc)); exact BK392.out) hb)
                 have n6_ := ak_ (below_step (by repeat (first | (with_reducible first | exact HB.out | apply below_alloc | apply pw_below_drewN | apply below_drew1 | refine below_set ?_ GE391.out | refine below_set ?_ GE392.out) | exact HB.out)) hb)
                 clear HO_7
                 clear HO403
                 clear HO406
                 clear BK391
                 clear BK392
                 clear HB
                 have HO_7 := n0_
                 have HO403 := n1_
                 have HO406 := n2_
                 have HO409 := n3_
                 have BK391 := n4_
                 have BK392 := n5_
                 have HB := n6_
                 clear n0_ n1_ n2_ n3_ n4_ n5_ n6_
                 (try clear hb)
                 (try clear hb2)
                 (try clear hk)
                 (try clear hi)
                 (try clear ho0)
                 refine hK.out _ _ ⟨(bc_ BK391.out 0).trans rfl, (bc_ BK391.out 1).trans rfl, (bc_ BK391.out 2).trans rfl, (bc_ BK391.out 3).trans rfl, (bc_ BK391.out 4).trans rfl, (bc_ BK391.out 5).trans rfl, (bc_ BK391.out 6).trans rfl⟩ (fun hHeld => ?_)
                 clear hK K
                 refine norm_ (a' := ?_) ?_ ?_
                 rotate_left
                 ·show Act.put _ (some 59) _ = _
                  simp only [Act.put, sb_, sz_, su_, i64_w, i32_w]
                  rfl
                 refine pure_ (i := 6) (N := some 53) (v := ?_) (a' := ?_) #[true, true, true, true, true, true, true, false, false, false, false, false, false, false, false, false] rfl rfl (any_of HT_.out (by kernel_rfl)) (fun _ _ _ h => h) (Or.inl ⟨by rfl, ?_⟩) ?_ ?_
                 rotate_left
                 ·intro w'
                  go_simp
                  with_reducible rfl
                 rotate_left
                 ·simp only [Act.put, sb_, sz_, su_, i64_w, i32_w]
                  rfl
                 refine pure_ (i := 7) (N := some 60) (v := ?_) (a' := ?_) #[true, true, true, true, true, true, true, true, false, false, false, false, false, false, false, false] rfl rfl (any_of HT_.out (by kernel_rfl)) (fun _ _ _ h => h) (Or.inl ⟨by rfl, ?_⟩) ?_ ?_
                 rotate_left
                 ·intro w'
                  go_simp
                  with_reducible rfl
                 rotate_left
                 ·simp only [Act.put, sb_, sz_, su_, i64_w, i32_w]
                  rfl
                 refine pure_ (i := 8) (N := some 61) (v := ?_) (a' := ?_) #[true, true, true, true, true, true, true, true, true, false, false, false, false, false, false, false] rfl rfl (any_of HT_.out (by kernel_rfl)) (fun _ _ _ h => h) (Or.inl ⟨by rfl, ?_⟩) ?_ ?_
                 rotate_left
                 ·intro w'
                  go_simp
                  with_reducible rfl
                 rotate_left
                 ·simp only [Act.put, sb_, sz_, su_, i64_w, i32_w]
                  rfl
                 refine pure_ (i := 9) (N := some 62) (v := ?_) (a' := ?_) #[true, true, true, true, true, true, true, true, true, true, false, false, false, false, false, false] rfl rfl (any_of HT_.out (by kernel_rfl)) (fun _ _ _ h => h) (Or.inl ⟨by rfl, ?_⟩) ?_ ?_
                 rotate_left
                 ·intro w'
                  go_simp
                  with_reducible rfl
                 rotate_left
                 ·simp only [Act.put, sb_, sz_, su_, i64_w, i32_w]
                  rfl
                 refine pure_ (i := 10) (N := some 63) (v := ?_) (a' := ?_) #[true, true, true, true, true, true, true, true, true, true, true, false, false, false, false, false] rfl rfl (any_of HT_.out (by kernel_rfl)) (fun _ _ _ h => h) (Or.inl ⟨by rfl, ?_⟩) ?_ ?_
                 rotate_left
                 ·intro w'
                  go_simp
                  with_reducible rfl
                 rotate_left
                 ·simp only [Act.put, sb_, sz_, su_, i64_w, i32_w]
                  rfl
                 refine one_ (i := 11) (N := some 11) #[true, true, true, true, true, true, true, true, true, true, true, true, false, false, false, false] rfl rfl (one_of HT_.out (by kernel_rfl)) (by decide) (fun K hK => ?_)
                 refine box_step ?hg (N := 11) ?hd (cs := #[.int .i64 0, .int .i64 0, .int .i64 0, .int .i64 0]) (t := 26) ?hr ?_; (case hd => rfl); (case hg => rfl); (case hr => first | (go_simp; done) | (go_simp; rfl))
                 intro gb416 hg w55 hbox hb
                 have n0_ := ak_ (Kd.R_below (by (with_reducible repeat (first | apply Kd.R_alloc | apply Kd.R_drewN | apply Kd.R_drew)); exact HO_7.out) hb)
                 have n1_ := ak_ (Kd.R_below (by (with_reducible repeat (first | apply Kd.R_alloc | apply Kd.R_drewN | apply Kd.R_drew)); exact HO403.out) hb)
                 have n2_ := ak_ (Kd.R_below (by (with_reducible repeat (first | apply Kd.R_alloc | apply Kd.R_drewN | apply Kd.R_drew)); exact HO406.out) hb)
                 have n3_ := ak_ (Kd.R_below (by (with_reducible repeat (first | apply Kd.R_alloc | apply Kd.R_drewN | apply Kd.R_drew)); exact HO409.out) hb)
                 have n4_ := ak_ (blk_below (g := gb391) (o := .cells #[.int .i64 a0_0, .int .i64 a0_1, .int .i64 a0_2, .int .i64 a0_3, .int .i64 a0_4, .int .i64 a0_5, .int .i64 a0_6] 23 (0, 0)) (by (with_reducible repeat (first | apply blk_drewN | apply blk_drew | apply blk_alloc)); exact BK391.out) hb)
                 have n5_ := ak_ (blk_below (g := gb392) (o := .cells #[.slice A1_0 l1_0.length c1_0, .int .i64 a1_1, .int .i64 a1_2, .int .i64 a1_3, .int .i64 a1_4] 57 (0, 0)) (by (with_reducible repeat (first | apply blk_drewN | apply blk_drew | apply blk_alloc)); exact BK392.out) hb)
                 have n6_ := ak_ (below_step (by repeat (first | (with_reducible first | exact HB.out | apply below_alloc | apply pw_below_drewN | apply below_drew1 | refine below_set ?_ GE391.out | refine below_set ?_ GE392.out) | exact HB.out)) hb)
                 have n7_ := ak_ (hbox)
                 have n8_ := ak_ ((by rw [hg]; exact (below_size (by repeat (first | (with_reducible first | exact HB.out | apply below_alloc | apply pw_below_drewN | apply below_drew1 | refine below_set ?_ GE391.out | refine below_set ?_ GE392.out) | exact HB.out))) : w.heap.size ≤ gb416))
                 have n9_ := ak_ ((by rw [hg]; exact (below_size (by repeat (first | (with_reducible first | exact HB.out | apply below_alloc | apply pw_below_drewN | apply below_drew1 | refine below_set ?_ GE391.out | refine below_set ?_ GE392.out) | exact HB.out))) : w.heap.size ≤ gb416))
                 have n10_ := ak_ ((by rw [hg]; exact Nat.ne_of_lt (blk_lt (g := gb391) (o := .cells #[.int .i64 a0_0, .int .i64 a0_1, .int .i64 a0_2, .int .i64 a0_3, .int .i64 a0_4, .int .i64 a0_5, .int .i64 a0_6] 23 (0, 0)) (by (with_reducible repeat (first | apply blk_drewN | apply blk_drew | apply blk_alloc)); exact BK391.out)) : gb391 ≠ gb416))
                 have n11_ := ak_ ((by rw [hg]; exact Nat.ne_of_gt (blk_lt (g := gb391) (o := .cells #[.int .i64 a0_0, .int .i64 a0_1, .int .i64 a0_2, .int .i64 a0_3, .int .i64 a0_4, .int .i64 a0_5, .int .i64 a0_6] 23 (0, 0)) (by (with_reducible repeat (first | apply blk_drewN | apply blk_drew | apply blk_alloc)); exact BK391.out)) : gb416 ≠ gb391))
                 have n12_ := ak_ ((by rw [hg]; exact Nat.ne_of_lt (blk_lt (g := gb392) (o := .cells #[.slice A1_0 l1_0.length c1_0, .int .i64 a1_1, .int .i64 a1_2, .int .i64 a1_3, .int .i64 a1_4] 57 (0, 0)) (by (with_reducible repeat (first | apply blk_drewN | apply blk_drew | apply blk_alloc)); exact BK392.out)) : gb392 ≠ gb416))
                 have n13_ := ak_ ((by rw [hg]; exact Nat.ne_of_gt (blk_lt (g := gb392) (o := .cells #[.slice A1_0 l1_0.length c1_0, .int .i64 a1_1, .int .i64 a1_2, .int .i64 a1_3, .int .i64 a1_4] 57 (0, 0)) (by (with_reducible repeat (first | apply blk_drewN | apply blk_drew | apply blk_alloc)); exact BK392.out)) : gb416 ≠ gb392))
                 clear HO_7
                 clear HO403
                 clear HO406
                 clear HO409
                 clear BK391
                 clear BK392
                 clear HB
                 have HO_7 := n0_
                 have HO403 := n1_
                 have HO406 := n2_
                 have HO409 := n3_
                 have BK391 := n4_
                 have BK392 := n5_
                 have HB := n6_
                 have BK416 := n7_
                 have GW416 := n8_
                 have GE416 := n9_
                 have NB391_416 := n10_
                 have NB416_391 := n11_
                 have NB392_416 := n12_
                 have NB416_392 := n13_
                 clear n0_ n1_ n2_ n3_ n4_ n5_ n6_ n7_ n8_ n9_ n10_ n11_ n12_ n13_
                 clear hb hbox hg
                 refine hK.out _ _ ⟨(bc_ BK391.out 0).trans rfl, (bc_ BK391.out 1).trans rfl, (bc_ BK391.out 2).trans rfl, (bc_ BK391.out 3).trans rfl, (bc_ BK391.out 4).trans rfl, (bc_ BK391.out 5).trans rfl, (bc_ BK391.out 6).trans rfl⟩ (fun hHeld => ?_)
                 clear hK K
                 refine norm_ (a' := ?_) ?_ ?_
                 rotate_left
                 ·show Act.put _ (some 11) _ = _
                  simp only [Act.put, sb_, sz_, su_, i64_w, i32_w]
                  rfl
                 exact norm_ (by simp only [putAll, Act.put, sb_, sz_, su_]) (hCont (.slice Ao51 t401.length co51, .slice Ao53 t404.length co53, v408, gb416) _ ⟨hHeld, (by (with_reducible repeat (first | apply Kd.R_alloc | apply Kd.R_drewN | apply Kd.R_drew)); exact Kd.R_mono HO403.out (fun _ hk => by first | exact ⟨hk.1.2, hk.2⟩ | exact hk | (simp only [and_assoc, and_comm, and_left_comm] at hk ⊢; exact hk) | grind)), (by (with_reducible repeat (first | apply Kd.R_alloc | apply Kd.R_drewN | apply Kd.R_drew)); exact Kd.R_mono HO406.out (fun _ hk => by first | exact ⟨hk.1.2, hk.2⟩ | exact hk | (simp only [and_assoc, and_comm, and_left_comm] at hk ⊢; exact hk) | grind)), (by (with_reducible repeat (first | apply Kd.R_alloc | apply Kd.R_drewN | apply Kd.R_drew)); exact Kd.R_mono HO409.out (fun _ hk => by first | exact ⟨hk.1.2, hk.2⟩ | exact hk | (simp only [and_assoc, and_comm, and_left_comm] at hk ⊢; exact hk) | grind)), (by (with_reducible repeat (first | apply Kd.R_alloc | apply Kd.R_drewN | apply Kd.R_drew)); exact HO_7.out), (by (with_reducible repeat (first | apply blk_drewN | apply blk_drew | apply blk_alloc)); exact BK391.out), (by (with_reducible repeat (first | apply blk_drewN | apply blk_drew | apply blk_alloc)); exact BK392.out), (by (with_reducible repeat (first | apply blk_drewN | apply blk_drew | apply blk_alloc)); exact BK416.out), GW416.out, GE416.out, NB391_416.out, NB416_391.out, NB392_416.out, NB416_392.out, (by repeat (first | (with_reducible first | exact HB.out | apply below_alloc | apply pw_below_drewN | apply below_drew1 | refine below_set ?_ GE391.out | refine below_set ?_ GE392.out | refine below_set ?_ GE416.out) | exact HB.out))⟩)
                ·skip
                 refine box_step ?hg (N := 11) ?hd (cs := #[.int .i64 0, .int .i64 0, .int .i64 0, .int .i64 0]) (t := 26) ?hr ?_; (case hd => rfl); (case hg => rfl); (case hr => first | (go_simp; done) | (go_simp; rfl))
                 intro gb416 hg w53 hbox hb
                 have n0_ := ak_ (Kd.R_below (by (with_reducible repeat (first | apply Kd.R_alloc | apply Kd.R_drewN | apply Kd.R_drew)); exact HO_7.out) hb)
                 have n1_ := ak_ (Kd.R_below (by (with_reducible repeat (first | apply Kd.R_alloc | apply Kd.R_drewN | apply Kd.R_drew)); exact HO403.out) hb)
                 have n2_ := ak_ (Kd.R_below (by (with_reducible repeat (first | apply Kd.R_alloc | apply Kd.R_drewN | apply Kd.R_drew)); exact HO406.out) hb)
                 have n3_ := ak_ (blk_below (g := gb391) (o := .cells #[.int .i64 a0_0, .int .i64 a0_1, .int .i64 a0_2, .int .i64 a0_3, .int .i64 a0_4, .int .i64 a0_5, .int .i64 a0_6] 23 (0, 0)) (by (with_reducible repeat (first | apply blk_drewN | apply blk_drew | apply blk_alloc)); exact BK391.out) hb)
                 have n4_ := ak_ (blk_below (g := gb392) (o := .cells #[.slice A1_0 l1_0.length c1_0, .int .i64 a1_1, .int .i64 a1_2, .int .i64 a1_3, .int .i64 a1_4] 57 (0, 0)) (by (with_reducible repeat (first | apply blk_drewN | apply blk_drew | apply blk_alloc)); exact BK392.out) hb)
                 have n5_ := ak_ (below_step (by repeat (first | (with_reducible first | exact HB.out | apply below_alloc | apply pw_below_drewN | apply below_drew1 | refine below_set ?_ GE391.out | refine below_set ?_ GE392.out) | exact HB.out)) hb)
                 have n6_ := ak_ (hbox)
                 have n7_ := ak_ ((by rw [hg]; exact (below_size (by repeat (first | (with_reducible first | exact HB.out | apply below_alloc | apply pw_below_drewN | apply below_drew1 | refine below_set ?_ GE391.out | refine below_set ?_ GE392.out) | exact HB.out))) : w.heap.size ≤ gb416))
                 have n8_ := ak_ ((by rw [hg]; exact (below_size (by repeat (first | (with_reducible first | exact HB.out | apply below_alloc | apply pw_below_drewN | apply below_drew1 | refine below_set ?_ GE391.out | refine below_set ?_ GE392.out) | exact HB.out))) : w.heap.size ≤ gb416))
                 have n9_ := ak_ ((by rw [hg]; exact Nat.ne_of_lt (blk_lt (g := gb391) (o := .cells #[.int .i64 a0_0, .int .i64 a0_1, .int .i64 a0_2, .int .i64 a0_3, .int .i64 a0_4, .int .i64 a0_5, .int .i64 a0_6] 23 (0, 0)) (by (with_reducible repeat (first | apply blk_drewN | apply blk_drew | apply blk_alloc)); exact BK391.out)) : gb391 ≠ gb416))
                 have n10_ := ak_ ((by rw [hg]; exact Nat.ne_of_gt (blk_lt (g := gb391) (o := .cells #[.int .i64 a0_0, .int .i64 a0_1, .int .i64 a0_2, .int .i64 a0_3, .int .i64 a0_4, .int .i64 a0_5, .int .i64 a0_6] 23 (0, 0)) (by (with_reducible repeat (first | apply blk_drewN | apply blk_drew | apply blk_alloc)); exact BK391.out)) : gb416 ≠ gb391))
                 have n11_ := ak_ ((by rw [hg]; exact Nat.ne_of_lt (blk_lt (g := gb392) (o := .cells #[.slice A1_0 l1_0.length c1_0, .int .i64 a1_1, .int .i64 a1_2, .int .i64 a1_3, .int .i64 a1_4] 57 (0, 0)) (by (with_reducible repeat (first | apply blk_drewN | apply blk_drew | apply blk_alloc)); exact BK392.out)) : gb392 ≠ gb416))
                 have n12_ := ak_ ((by rw [hg]; exact Nat.ne_of_gt (blk_lt (g := gb392) (o := .cells #[.slice A1_0 l1_0.length c1_0, .int .i64 a1_1, .int .i64 a1_2, .int .i64 a1_3, .int .i64 a1_4] 57 (0, 0)) (by (with_reducible repeat (first | apply blk_drewN | apply blk_drew | apply blk_alloc)); exact BK392.out)) : gb416 ≠ gb392))
                 clear HO_7
                 clear HO403
                 clear HO406
                 clear BK391
                 clear BK392
                 clear HB
                 have HO_7 := n0_
                 have HO403 := n1_
                 have HO406 := n2_
                 have BK391 := n3_
                 have BK392 := n4_
                 have HB := n5_
                 have BK416 := n6_
                 have GW416 := n7_
                 have GE416 := n8_
                 have NB391_416 := n9_
                 have NB416_391 := n10_
                 have NB392_416 := n11_
                 have NB416_392 := n12_
                 clear n0_ n1_ n2_ n3_ n4_ n5_ n6_ n7_ n8_ n9_ n10_ n11_ n12_
                 clear hb hbox hg
                 obtain ⟨Ao54, co54, eo54⟩ := Kd.R_slice HO406.out
                 (first | subst eo54 | (injection eo54 with f1_ f2_ f3_; have f4_ := f1_.symm; have f5_ := f3_.symm; clear f1_ f2_ f3_; subst f4_; subst f5_))
                 refine hK.out _ _ ⟨(bc_ BK391.out 0).trans rfl, (bc_ BK391.out 1).trans rfl, (bc_ BK391.out 2).trans rfl, (bc_ BK391.out 3).trans rfl, (bc_ BK391.out 4).trans rfl, (bc_ BK391.out 5).trans rfl, (bc_ BK391.out 6).trans rfl⟩ (fun hHeld => ?_)
                 clear hK K
                 refine norm_ (a' := ?_) ?_ ?_
                 rotate_left
                 ·show Act.put _ (some 11) _ = _
                  simp only [Act.put, sb_, sz_, su_, i64_w, i32_w]
                  rfl
                 refine one_ (i := 5) (N := some 59) #[true, true, true, true, true, true, false, false, false, false, false, true, false, false, false, false] rfl rfl (one_of HT_.out (by kernel_rfl)) (by decide) (fun K hK => ?_)
                 refine goes_ Try.func30 (by kernel_rfl) rfl #[.agg #[.int .i64 a0_0, .int .i64 a0_1, .int .i64 a0_2, .int .i64 a0_3, .int .i64 a0_4, .int .i64 a0_5, .int .i64 a0_6], .slice Ao54 t404.length co54] (by rfl) rfl rfl (by (try simp only [List.map_toArray, List.map_cons, List.map_nil]); first | done | rfl | (simp only [List.length_drop, List.length_take]; rfl)) ?_
                 with_reducible refine (page_Decode.calls k4 a0_0 a0_1 a0_2 a0_3 a0_4 a0_5 a0_6 _ _ t404 t407 t410 t411 t412 t413 t414 t415 _ ?side1 ?side2 A42.out).mono ?_
                 (case side1 => repeat (first | exact (Kd.R_reads' HO406.out).2.2 | (with_reducible refine Kd.C_alloc ?_ _) | (with_reducible refine Kd.C_drewN ?_ _) | (with_reducible refine Kd.C_drew ?_)))
                 (case side2 => exact (Kd.R_reads' HO406.out).2.1)
                 rintro e w55 ⟨v408, rfl, ho0, hb⟩
                 refine ⟨_, rfl, ?_⟩
                 have n0_ := ak_ (Kd.R_below (by (with_reducible repeat (first | apply Kd.R_alloc | apply Kd.R_drewN | apply Kd.R_drew)); exact HO_7.out) hb)
                 have n1_ := ak_ (Kd.R_elder' (by (with_reducible repeat (first | apply Kd.R_alloc | apply Kd.R_drewN | apply Kd.R_drew)); exact HO403.out) (Kd.R_base ho0) hb)
                 have n2_ := ak_ (Kd.R_elder' (by (with_reducible repeat (first | apply Kd.R_alloc | apply Kd.R_drewN | apply Kd.R_drew)); exact HO406.out) (Kd.R_base ho0) hb)
                 have n3_ := ak_ (Kd.R_lower (Kd.R_new' (Kd.R_new' ho0 (Kd.R_lt (by (with_reducible repeat (first | apply Kd.R_alloc | apply Kd.R_drewN | apply Kd.R_drew)); exact HO403.out))) (Kd.R_lt (by (with_reducible repeat (first | apply Kd.R_alloc | apply Kd.R_drewN | apply Kd.R_drew)); exact HO406.out))) (below_size (by repeat (first | (with_reducible first | exact HB.out | apply below_alloc | apply pw_below_drewN | apply below_drew1 | refine below_set ?_ GE391.out | refine below_set ?_ GE392.out | refine below_set ?_ GE416.out) | exact HB.out))))
                 have n4_ := ak_ (blk_below (g := gb391) (o := .cells #[.int .i64 a0_0, .int .i64 a0_1, .int .i64 a0_2, .int .i64 a0_3, .int .i64 a0_4, .int .i64 a0_5, .int .i64 a0_6] 23 (0, 0)) (by (with_reducible repeat (first | apply blk_drewN | apply blk_drew | apply blk_alloc)); exact BK391.out) hb)
                 have n5_ := ak_ (blk_below (g := gb392) (o := .cells #[.slice A1_0 l1_0.length c1_0, .int .i64 a1_1, .int .i64 a1_2, .int .i64 a1_3, .int .i64 a1_4] 57 (0, 0)) (by (with_reducible repeat (first | apply blk_drewN | apply blk_drew | apply blk_alloc)); exact BK392.out) hb)
                 have n6_ := ak_ (blk_below (g := gb416) (o := .cells #[.int .i64 0, .int .i64 0, .int .i64 0, .int .i64 0] 26 (0, 0)) (by (with_reducible repeat (first | apply blk_drewN | apply blk_drew | apply blk_alloc)); exact BK416.out) hb)
                 have n7_ := ak_ (below_step (by repeat (first | (with_reducible first | exact HB.out | apply below_alloc | apply pw_below_drewN | apply below_drew1 | refine below_set ?_ GE391.out | refine below_set ?_ GE392.out | refine below_set ?_ GE416.out) | exact HB.out)) hb)
                 clear HO_7
                 clear HO403
                 clear HO406
                 clear BK391
                 clear BK392
                 clear BK416
                 clear HB
                 have HO_7 := n0_
                 have HO403 := n1_
                 have HO406 := n2_
                 have HO409 := n3_
                 have BK391 := n4_
                 have BK392 := n5_
                 have BK416 := n6_
                 have HB := n7_
                 clear n0_ n1_ n2_ n3_ n4_ n5_ n6_ n7_
                 (try clear hb)
                 (try clear hb2)
                 (try clear hk)
                 (try clear hi)
                 (try clear ho0)
                 refine hK.out _ _ ⟨(bc_ BK391.out 0).trans rfl, (bc_ BK391.out 1).trans rfl, (bc_ BK391.out 2).trans rfl, (bc_ BK391.out 3).trans rfl, (bc_ BK391.out 4).trans rfl, (bc_ BK391.out 5).trans rfl, (bc_ BK391.out 6).trans rfl⟩ (fun hHeld => ?_)
                 clear hK K
                 refine norm_ (a' := ?_) ?_ ?_
                 rotate_left
                 ·show Act.put _ (some 59) _ = _
                  simp only [Act.put, sb_, sz_, su_, i64_w, i32_w]
                  rfl
                 refine pure_ (i := 6) (N := some 53) (v := ?_) (a' := ?_) #[true, true, true, true, true, true, true, false, false, false, false, true, false, false, false, false] rfl rfl (any_of HT_.out (by kernel_rfl)) (fun _ _ _ h => h) (Or.inl ⟨by rfl, ?_⟩) ?_ ?_
                 rotate_left
                 ·intro w'
                  go_simp
                  with_reducible rfl
                 rotate_left
                 ·simp only [Act.put, sb_, sz_, su_, i64_w, i32_w]
                  rfl
                 refine pure_ (i := 7) (N := some 60) (v := ?_) (a' := ?_) #[true, true, true, true, true, true, true, true, false, false, false, true, false, false, false, false] rfl rfl (any_of HT_.out (by kernel_rfl)) (fun _ _ _ h => h) (Or.inl ⟨by rfl, ?_⟩) ?_ ?_
                 rotate_left
                 ·intro w'
                  go_simp
                  with_reducible rfl
                 rotate_left
                 ·simp only [Act.put, sb_, sz_, su_, i64_w, i32_w]
                  rfl
                 refine pure_ (i := 8) (N := some 61) (v := ?_) (a' := ?_) #[true, true, true, true, true, true, true, true, true, false, false, true, false, false, false, false] rfl rfl (any_of HT_.out (by kernel_rfl)) (fun _ _ _ h => h) (Or.inl ⟨by rfl, ?_⟩) ?_ ?_
                 rotate_left
                 ·intro w'
                  go_simp
                  with_reducible rfl
                 rotate_left
                 ·simp only [Act.put, sb_, sz_, su_, i64_w, i32_w]
                  rfl
                 refine pure_ (i := 9) (N := some 62) (v := ?_) (a' := ?_) #[true, true, true, true, true, true, true, true, true, true, false, true, false, false, false, false] rfl rfl (any_of HT_.out (by kernel_rfl)) (fun _ _ _ h => h) (Or.inl ⟨by rfl, ?_⟩) ?_ ?_
                 rotate_left
                 ·intro w'
                  go_simp
                  with_reducible rfl
                 rotate_left
                 ·simp only [Act.put, sb_, sz_, su_, i64_w, i32_w]
                  rfl
                 refine pure_ (i := 10) (N := some 63) (v := ?_) (a' := ?_) #[true, true, true, true, true, true, true, true, true, true, true, true, false, false, false, false] rfl rfl (any_of HT_.out (by kernel_rfl)) (fun _ _ _ h => h) (Or.inl ⟨by rfl, ?_⟩) ?_ ?_
                 rotate_left
                 ·intro w'
                  go_simp
                  with_reducible rfl
                 rotate_left
                 ·simp only [Act.put, sb_, sz_, su_, i64_w, i32_w]
                  rfl
                 exact norm_ (by simp only [putAll, Act.put, sb_, sz_, su_]) (hCont (.slice Ao51 t401.length co51, .slice Ao54 t404.length co54, v408, gb416) _ ⟨hHeld, (by (with_reducible repeat (first | apply Kd.R_alloc | apply Kd.R_drewN | apply Kd.R_drew)); exact Kd.R_mono HO403.out (fun _ hk => by first | exact ⟨hk.1.2, hk.2⟩ | exact hk | (simp only [and_assoc, and_comm, and_left_comm] at hk ⊢; exact hk) | grind)), (by (with_reducible repeat (first | apply Kd.R_alloc | apply Kd.R_drewN | apply Kd.R_drew)); exact Kd.R_mono HO406.out (fun _ hk => by first | exact ⟨hk.1.2, hk.2⟩ | exact hk | (simp only [and_assoc, and_comm, and_left_comm] at hk ⊢; exact hk) | grind)), (by (with_reducible repeat (first | apply Kd.R_alloc | apply Kd.R_drewN | apply Kd.R_drew)); exact Kd.R_mono HO409.out (fun _ hk => by first | exact ⟨hk.1.2, hk.2⟩ | exact hk | (simp only [and_assoc, and_comm, and_left_comm] at hk ⊢; exact hk) | grind)), (by (with_reducible repeat (first | apply Kd.R_alloc | apply Kd.R_drewN | apply Kd.R_drew)); exact HO_7.out), (by (with_reducible repeat (first | apply blk_drewN | apply blk_drew | apply blk_alloc)); exact BK391.out), (by (with_reducible repeat (first | apply blk_drewN | apply blk_drew | apply blk_alloc)); exact BK392.out), (by (with_reducible repeat (first | apply blk_drewN | apply blk_drew | apply blk_alloc)); exact BK416.out), GW416.out, GE416.out, NB391_416.out, NB416_391.out, NB392_416.out, NB416_392.out, (by repeat (first | (with_reducible first | exact HB.out | apply below_alloc | apply pw_below_drewN | apply below_drew1 | refine below_set ?_ GE391.out | refine below_set ?_ GE392.out | refine below_set ?_ GE416.out) | exact HB.out))⟩)
               ·skip
                refine box_step ?hg (N := 11) ?hd (cs := #[.int .i64 0, .int .i64 0, .int .i64 0, .int .i64 0]) (t := 26) ?hr ?_; (case hd => rfl); (case hg => rfl); (case hr => first | (go_simp; done) | (go_simp; rfl))
                intro gb416 hg w51 hbox hb
                have n0_ := ak_ (Kd.R_below (by (with_reducible repeat (first | apply Kd.R_alloc | apply Kd.R_drewN | apply Kd.R_drew)); exact HO_7.out) hb)
                have n1_ := ak_ (Kd.R_below (by (with_reducible repeat (first | apply Kd.R_alloc | apply Kd.R_drewN | apply Kd.R_drew)); exact HO403.out) hb)
                have n2_ := ak_ (blk_below (g := gb391) (o := .cells #[.int .i64 a0_0, .int .i64 a0_1, .int .i64 a0_2, .int .i64 a0_3, .int .i64 a0_4, .int .i64 a0_5, .int .i64 a0_6] 23 (0, 0)) (by (with_reducible repeat (first | apply blk_drewN | apply blk_drew | apply blk_alloc)); exact BK391.out) hb)
                have n3_ := ak_ (blk_below (g := gb392) (o := .cells #[.slice A1_0 l1_0.length c1_0, .int .i64 a1_1, .int .i64 a1_2, .int .i64 a1_3, .int .i64 a1_4] 57 (0, 0)) (by (with_reducible repeat (first | apply blk_drewN | apply blk_drew | apply blk_alloc)); exact BK392.out) hb)
                have n4_ := ak_ (below_step (by repeat (first | (with_reducible first | exact HB.out | apply below_alloc | apply pw_below_drewN | apply below_drew1 | refine below_set ?_ GE391.out | refine below_set ?_ GE392.out) | exact HB.out)) hb)
                have n5_ := ak_ (hbox)
                have n6_ := ak_ ((by rw [hg]; exact (below_size (by repeat (first | (with_reducible first | exact HB.out | apply below_alloc | apply pw_below_drewN | apply below_drew1 | refine below_set ?_ GE391.out | refine below_set ?_ GE392.out) | exact HB.out))) : w.heap.size ≤ gb416))
                have n7_ := ak_ ((by rw [hg]; exact (below_size (by repeat (first | (with_reducible first | exact HB.out | apply below_alloc | apply pw_below_drewN | apply below_drew1 | refine below_set ?_ GE391.out | refine below_set ?_ GE392.out) | exact HB.out))) : w.heap.size ≤ gb416))
                have n8_ := ak_ ((by rw [hg]; exact Nat.ne_of_lt (blk_lt (g := gb391) (o := .cells #[.int .i64 a0_0, .int .i64 a0_1, .int .i64 a0_2, .int .i64 a0_3, .int .i64 a0_4, .int .i64 a0_5, .int .i64 a0_6] 23 (0, 0)) (by (with_reducible repeat (first | apply blk_drewN | apply blk_drew | apply blk_alloc)); exact BK391.out)) : gb391 ≠ gb416))
                have n9_ := ak_ ((by rw [hg]; exact Nat.ne_of_gt (blk_lt (g := gb391) (o := .cells #[.int .i64 a0_0, .int .i64 a0_1, .int .i64 a0_2, .int .i64 a0_3, .int .i64 a0_4, .int .i64 a0_5, .int .i64 a0_6] 23 (0, 0)) (by (with_reducible repeat (first | apply blk_drewN | apply blk_drew | apply blk_alloc)); exact BK391.out)) : gb416 ≠ gb391))
                have n10_ := ak_ ((by rw [hg]; exact Nat.ne_of_lt (blk_lt (g := gb392) (o := .cells #[.slice A1_0 l1_0.length c1_0, .int .i64 a1_1, .int .i64 a1_2, .int .i64 a1_3, .int .i64 a1_4] 57 (0, 0)) (by (with_reducible repeat (first | apply blk_drewN | apply blk_drew | apply blk_alloc)); exact BK392.out)) : gb392 ≠ gb416))
                have n11_ := ak_ ((by rw [hg]; exact Nat.ne_of_gt (blk_lt (g := gb392) (o := .cells #[.slice A1_0 l1_0.length c1_0, .int .i64 a1_1, .int .i64 a1_2, .int .i64 a1_3, .int .i64 a1_4] 57 (0, 0)) (by (with_reducible repeat (first | apply blk_drewN | apply blk_drew | apply blk_alloc)); exact BK392.out)) : gb416 ≠ gb392))
                clear HO_7
                clear HO403
                clear BK391
                clear BK392
                clear HB
                have HO_7 := n0_
                have HO403 := n1_
                have BK391 := n2_
                have BK392 := n3_
                have HB := n4_
                have BK416 := n5_
                have GW416 := n6_
                have GE416 := n7_
                have NB391_416 := n8_
                have NB416_391 := n9_
                have NB392_416 := n10_
                have NB416_392 := n11_
                clear n0_ n1_ n2_ n3_ n4_ n5_ n6_ n7_ n8_ n9_ n10_ n11_
                clear hb hbox hg
                obtain ⟨Ao52, co52, eo52⟩ := Kd.R_slice HO403.out
                (first | subst eo52 | (injection eo52 with f1_ f2_ f3_; have f4_ := f1_.symm; have f5_ := f3_.symm; clear f1_ f2_ f3_; subst f4_; subst f5_))
                refine hK.out _ _ ⟨(bc_ BK391.out 0).trans rfl, (bc_ BK391.out 1).trans rfl, (bc_ BK391.out 2).trans rfl, (bc_ BK391.out 3).trans rfl, (bc_ BK391.out 4).trans rfl, (bc_ BK391.out 5).trans rfl, (bc_ BK391.out 6).trans rfl⟩ (fun hHeld => ?_)
                clear hK K
                refine norm_ (a' := ?_) ?_ ?_
                rotate_left
                ·show Act.put _ (some 11) _ = _
                 simp only [Act.put, sb_, sz_, su_, i64_w, i32_w]
                 rfl
                refine one_ (i := 4) (N := some 58) #[true, true, true, true, true, false, false, false, false, false, false, true, false, false, false, false] rfl rfl (one_of HT_.out (by kernel_rfl)) (by decide) (fun K hK => ?_)
                refine goes_ Try.func34 (by kernel_rfl) rfl #[.slice Ao52 t401.length co52, .slice Ao48 x7_4.length co48] (by rfl) rfl rfl (by (try simp only [List.map_toArray, List.map_cons, List.map_nil]); first | done | rfl | (simp only [List.length_drop, List.length_take]; rfl)) ?_
                with_reducible refine (bits_Flip.calls k4 _ _ t401 _ _ x7_4 t404 _ ?side1 ?side2 ?side3 ?side4 A41.out).mono ?_
                (case side1 => repeat (first | exact (Kd.R_reads' HO403.out).2.2 | (with_reducible refine Kd.C_alloc ?_ _) | (with_reducible refine Kd.C_drewN ?_ _) | (with_reducible refine Kd.C_drew ?_)))
                (case side2 => exact (Kd.R_reads' HO403.out).2.1)
                (case side3 => repeat (first | exact (Kd.R_reads' HO_7.out).2.2 | (with_reducible refine Kd.C_alloc ?_ _) | (with_reducible refine Kd.C_drewN ?_ _) | (with_reducible refine Kd.C_drew ?_)))
                (case side4 => exact (Kd.R_reads' HO_7.out).2.1)
                rintro e w53 ⟨v405, rfl, ho0, hb⟩
                refine ⟨_, rfl, ?_⟩
                have n0_ := ak_ (Kd.R_below (by (with_reducible repeat (first | apply Kd.R_alloc | apply Kd.R_drewN | apply Kd.R_drew)); exact HO_7.out) hb)
                have n1_ := ak_ (Kd.R_elder' (by (with_reducible repeat (first | apply Kd.R_alloc | apply Kd.R_drewN | apply Kd.R_drew)); exact HO403.out) (Kd.R_base ho0) hb)
                have n2_ := ak_ (Kd.R_lower (Kd.R_new' ho0 (Kd.R_lt (by (with_reducible repeat (first | apply Kd.R_alloc | apply Kd.R_drewN | apply Kd.R_drew)); exact HO403.out))) (below_size (by repeat (first | (with_reducible first | exact HB.out | apply below_alloc | apply pw_below_drewN | apply below_drew1 | refine below_set ?_ GE391.out | refine below_set ?_ GE392.out | refine below_set ?_ GE416.out) | exact HB.out))))
                have n3_ := ak_ (blk_below (g := gb391) (o := .cells #[.int .i64 a0_0, .int .i64 a0_1, .int .i64 a0_2, .int .i64 a0_3, .int .i64 a0_4, .int .i64 a0_5, .int .i64 a0_6] 23 (0, 0)) (by (with_reducible repeat (first | apply blk_drewN | apply blk_drew | apply blk_alloc)); exact BK391.out) hb)
                have n4_ := ak_ (blk_below (g := gb392) (o := .cells #[.slice A1_0 l1_0.length c1_0, .int .i64 a1_1, .int .i64 a1_2, .int .i64 a1_3, .int .i64 a1_4] 57 (0, 0)) (by (with_reducible repeat (first | apply blk_drewN | apply blk_drew | apply blk_alloc)); exact BK392.out) hb)
                have n5_ := ak_ (blk_below (g := gb416) (o := .cells #[.int .i64 0, .int .i64 0, .int .i64 0, .int .i64 0] 26 (0, 0)) (by (with_reducible repeat (first | apply blk_drewN | apply blk_drew | apply blk_alloc)); exact BK416.out) hb)
                have n6_ := ak_ (below_step (by repeat (first | (with_reducible first | exact HB.out | apply below_alloc | apply pw_below_drewN | apply below_drew1 | refine below_set ?_ GE391.out | refine below_set ?_ GE392.out | refine below_set ?_ GE416.out) | exact HB.out)) hb)
                clear HO_7
                clear HO403
                clear BK391
                clear BK392
                clear BK416
                clear HB
                have HO_7 := n0_
                have HO403 := n1_
                have HO406 := n2_
                have BK391 := n3_
                have BK392 := n4_
                have BK416 := n5_
                have HB := n6_
                clear n0_ n1_ n2_ n3_ n4_ n5_ n6_
                (try clear hb)
                (try clear hb2)
                (try clear hk)
                (try clear hi)
                (try clear ho0)
                obtain ⟨Ao54, co54, eo54⟩ := Kd.R_slice HO406.out
                (first | subst eo54 | (injection eo54 with f1_ f2_ f3_; have f4_ := f1_.symm; have f5_ := f3_.symm; clear f1_ f2_ f3_; subst f4_; subst f5_))
                refine hK.out _ _ ⟨(bc_ BK391.out 0).trans rfl, (bc_ BK391.out 1).trans rfl, (bc_ BK391.out 2).trans rfl, (bc_ BK391.out 3).trans rfl, (bc_ BK391.out 4).trans rfl, (bc_ BK391.out 5).trans rfl, (bc_ BK391.out 6).trans rfl⟩ (fun hHeld => ?_)
                clear hK K
                refine norm_ (a' := ?_) ?_ ?_
                rotate_left
                ·show Act.put _ (some 58) _ = _
                 simp only [Act.put, sb_, sz_, su_, i64_w, i32_w]
                 rfl
                refine one_ (i := 5) (N := some 59) #[true, true, true, true, true, true, false, false, false, false, false, true, false, false, false, false] rfl rfl (one_of HT_.out (by kernel_rfl)) (by decide) (fun K hK => ?_)
                refine goes_ Try.func30 (by kernel_rfl) rfl #[.agg #[.int .i64 a0_0, .int .i64 a0_1, .int .i64 a0_2, .int .i64 a0_3, .int .i64 a0_4, .int .i64 a0_5, .int .i64 a0_6], .slice Ao54 t404.length co54] (by rfl) rfl rfl (by (try simp only [List.map_toArray, List.map_cons, List.map_nil]); first | done | rfl | (simp only [List.length_drop, List.length_take]; rfl)) ?_
                with_reducible refine (page_Decode.calls k4 a0_0 a0_1 a0_2 a0_3 a0_4 a0_5 a0_6 _ _ t404 t407 t410 t411 t412 t413 t414 t415 _ ?side1 ?side2 A42.out).mono ?_
                (case side1 => repeat (first | exact (Kd.R_reads' HO406.out).2.2 | (with_reducible refine Kd.C_alloc ?_ _) | (with_reducible refine Kd.C_drewN ?_ _) | (with_reducible refine Kd.C_drew ?_)))
                (case side2 => exact (Kd.R_reads' HO406.out).2.1)
                rintro e w55 ⟨v408, rfl, ho0, hb⟩
                refine ⟨_, rfl, ?_⟩
                have n0_ := ak_ (Kd.R_below (by (with_reducible repeat (first | apply Kd.R_alloc | apply Kd.R_drewN | apply Kd.R_drew)); exact HO_7.out) hb)
                have n1_ := ak_ (Kd.R_elder' (by (with_reducible repeat (first | apply Kd.R_alloc | apply Kd.R_drewN | apply Kd.R_drew)); exact HO403.out) (Kd.R_base ho0) hb)
                have n2_ := ak_ (Kd.R_elder' (by (with_reducible repeat (first | apply Kd.R_alloc | apply Kd.R_drewN | apply Kd.R_drew)); exact HO406.out) (Kd.R_base ho0) hb)
                have n3_ := ak_ (Kd.R_lower (Kd.R_new' (Kd.R_new' ho0 (Kd.R_lt (by (with_reducible repeat (first | apply Kd.R_alloc | apply Kd.R_drewN | apply Kd.R_drew)); exact HO403.out))) (Kd.R_lt (by (with_reducible repeat (first | apply Kd.R_alloc | apply Kd.R_drewN | apply Kd.R_drew)); exact HO406.out))) (below_size (by repeat (first | (with_reducible first | exact HB.out | apply below_alloc | apply pw_below_drewN | apply below_drew1 | refine below_set ?_ GE391.out | refine below_set ?_ GE392.out | refine below_set ?_ GE416.out) | exact HB.out))))
                have n4_ := ak_ (blk_below (g := gb391) (o := .cells #[.int .i64 a0_0, .int .i64 a0_1, .int .i64 a0_2, .int .i64 a0_3, .int .i64 a0_4, .int .i64 a0_5, .int .i64 a0_6] 23 (0, 0)) (by (with_reducible repeat (first | apply blk_drewN | apply blk_drew | apply blk_alloc)); exact BK391.out) hb)
                have n5_ := ak_ (blk_below (g := gb392) (o := .cells #[.slice A1_0 l1_0.length c1_0, .int .i64 a1_1, .int .i64 a1_2, .int .i64 a1_3, .int .i64 a1_4] 57 (0, 0)) (by (with_reducible repeat (first | apply blk_drewN | apply blk_drew | apply blk_alloc)); exact BK392.out) hb)
                have n6_ := ak_ (blk_below (g := gb416) (o := .cells #[.int .i64 0, .int .i64 0, .int .i64 0, .int .i64 0] 26 (0, 0)) (by (with_reducible repeat (first | apply blk_drewN | apply blk_drew | apply blk_alloc)); exact BK416.out) hb)
                have n7_ := ak_ (below_step (by repeat (first | (with_reducible first | exact HB.out | apply below_alloc | apply pw_below_drewN | apply below_drew1 | refine below_set ?_ GE391.out | refine below_set ?_ GE392.out | refine below_set ?_ GE416.out) | exact HB.out)) hb)
                clear HO_7
                clear HO403
                clear HO406
                clear BK391
                clear BK392
                clear BK416
                clear HB
                have HO_7 := n0_
                have HO403 := n1_
                have HO406 := n2_
                have HO409 := n3_
                have BK391 := n4_
                have BK392 := n5_
                have BK416 := n6_
                have HB := n7_
                clear n0_ n1_ n2_ n3_ n4_ n5_ n6_ n7_
                (try clear hb)
                (try clear hb2)
                (try clear hk)
                (try clear hi)
                (try clear ho0)
                refine hK.out _ _ ⟨(bc_ BK391.out 0).trans rfl, (bc_ BK391.out 1).trans rfl, (bc_ BK391.out 2).trans rfl, (bc_ BK391.out 3).trans rfl, (bc_ BK391.out 4).trans rfl, (bc_ BK391.out 5).trans rfl, (bc_ BK391.out 6).trans rfl⟩ (fun hHeld => ?_)
                clear hK K
                refine norm_ (a' := ?_) ?_ ?_
                rotate_left
                ·show Act.put _ (some 59) _ = _
                 simp only [Act.put, sb_, sz_, su_, i64_w, i32_w]
                 rfl
                refine pure_ (i := 6) (N := some 53) (v := ?_) (a' := ?_) #[true, true, true, true, true, true, true, false, false, false, false, true, false, false, false, false] rfl rfl (any_of HT_.out (by kernel_rfl)) (fun _ _ _ h => h) (Or.inl ⟨by rfl, ?_⟩) ?_ ?_
                rotate_left
                ·intro w'
                 go_simp
                 with_reducible rfl
                rotate_left
                ·simp only [Act.put, sb_, sz_, su_, i64_w, i32_w]
                 rfl
                refine pure_ (i := 7) (N := some 60) (v := ?_) (a' := ?_) #[true, true, true, true, true, true, true, true, false, false, false, true, false, false, false, false] rfl rfl (any_of HT_.out (by kernel_rfl)) (fun _ _ _ h => h) (Or.inl ⟨by rfl, ?_⟩) ?_ ?_
                rotate_left
                ·intro w'
                 go_simp
                 with_reducible rfl
                rotate_left
                ·simp only [Act.put, sb_, sz_, su_, i64_w, i32_w]
                 rfl
                refine pure_ (i := 8) (N := some 61) (v := ?_) (a' := ?_) #[true, true, true, true, true, true, true, true, true, false, false, true, false, false, false, false] rfl rfl (any_of HT_.out (by kernel_rfl)) (fun _ _ _ h => h) (Or.inl ⟨by rfl, ?_⟩) ?_ ?_
                rotate_left
                ·intro w'
                 go_simp
                 with_reducible rfl
                rotate_left
                ·simp only [Act.put, sb_, sz_, su_, i64_w, i32_w]
                 rfl
                refine pure_ (i := 9) (N := some 62) (v := ?_) (a' := ?_) #[true, true, true, true, true, true, true, true, true, true, false, true, false, false, false, false] rfl rfl (any_of HT_.out (by kernel_rfl)) (fun _ _ _ h => h) (Or.inl ⟨by rfl, ?_⟩) ?_ ?_
                rotate_left
                ·intro w'
                 go_simp
                 with_reducible rfl
                rotate_left
                ·simp only [Act.put, sb_, sz_, su_, i64_w, i32_w]
                 rfl
                refine pure_ (i := 10) (N := some 63) (v := ?_) (a' := ?_) #[true, true, true, true, true, true, true, true, true, true, true, true, false, false, false, false] rfl rfl (any_of HT_.out (by kernel_rfl)) (fun _ _ _ h => h) (Or.inl ⟨by rfl, ?_⟩) ?_ ?_
                rotate_left
                ·intro w'
                 go_simp
                 with_reducible rfl
                rotate_left
                ·simp only [Act.put, sb_, sz_, su_, i64_w, i32_w]
                 rfl
                exact norm_ (by simp only [putAll, Act.put, sb_, sz_, su_]) (hCont (.slice Ao52 t401.length co52, .slice Ao54 t404.length co54, v408, gb416) _ ⟨hHeld, (by (with_reducible repeat (first | apply Kd.R_alloc | apply Kd.R_drewN | apply Kd.R_drew)); exact Kd.R_mono HO403.out (fun _ hk => by first | exact ⟨hk.1.2, hk.2⟩ | exact hk | (simp only [and_assoc, and_comm, and_left_comm] at hk ⊢; exact hk) | grind)), (by (with_reducible repeat (first | apply Kd.R_alloc | apply Kd.R_drewN | apply Kd.R_drew)); exact Kd.R_mono HO406.out (fun _ hk => by first | exact ⟨hk.1.2, hk.2⟩ | exact hk | (simp only [and_assoc, and_comm, and_left_comm] at hk ⊢; exact hk) | grind)), (by (with_reducible repeat (first | apply Kd.R_alloc | apply Kd.R_drewN | apply Kd.R_drew)); exact Kd.R_mono HO409.out (fun _ hk => by first | exact ⟨hk.1.2, hk.2⟩ | exact hk | (simp only [and_assoc, and_comm, and_left_comm] at hk ⊢; exact hk) | grind)), (by (with_reducible repeat (first | apply Kd.R_alloc | apply Kd.R_drewN | apply Kd.R_drew)); exact HO_7.out), (by (with_reducible repeat (first | apply blk_drewN | apply blk_drew | apply blk_alloc)); exact BK391.out), (by (with_reducible repeat (first | apply blk_drewN | apply blk_drew | apply blk_alloc)); exact BK392.out), (by (with_reducible repeat (first | apply blk_drewN | apply blk_drew | apply blk_alloc)); exact BK416.out), GW416.out, GE416.out, NB391_416.out, NB416_391.out, NB392_416.out, NB416_392.out, (by repeat (first | (with_reducible first | exact HB.out | apply below_alloc | apply pw_below_drewN | apply below_drew1 | refine below_set ?_ GE391.out | refine below_set ?_ GE392.out | refine below_set ?_ GE416.out) | exact HB.out))⟩)
              ·skip
               refine box_step ?hg (N := 11) ?hd (cs := #[.int .i64 0, .int .i64 0, .int .i64 0, .int .i64 0]) (t := 26) ?hr ?_; (case hd => rfl); (case hg => rfl); (case hr => first | (go_simp; done) | (go_simp; rfl))
               intro gb416 hg w50 hbox hb
               have n0_ := ak_ (Kd.R_below (by (with_reducible repeat (first | apply Kd.R_alloc | apply Kd.R_drewN | apply Kd.R_drew)); exact HO_7.out) hb)
               have n1_ := ak_ (blk_below (g := gb391) (o := .cells #[.int .i64 a0_0, .int .i64 a0_1, .int .i64 a0_2, .int .i64 a0_3, .int .i64 a0_4, .int .i64 a0_5, .int .i64 a0_6] 23 (0, 0)) (by (with_reducible repeat (first | apply blk_drewN | apply blk_drew | apply blk_alloc)); exact BK391.out) hb)
               have n2_ := ak_ (blk_below (g := gb392) (o := .cells #[.slice A1_0 l1_0.length c1_0, .int .i64 a1_1, .int .i64 a1_2, .int .i64 a1_3, .int .i64 a1_4] 57 (0, 0)) (by (with_reducible repeat (first | apply blk_drewN | apply blk_drew | apply blk_alloc)); exact BK392.out) hb)
               have n3_ := ak_ (below_step (by repeat (first | (with_reducible first | exact HB.out | apply below_alloc | apply pw_below_drewN | apply below_drew1 | refine below_set ?_ GE391.out | refine below_set ?_ GE392.out) | exact HB.out)) hb)
               have n4_ := ak_ (hbox)
               have n5_ := ak_ ((by rw [hg]; exact (below_size (by repeat (first | (with_reducible first | exact HB.out | apply below_alloc | apply pw_below_drewN | apply below_drew1 | refine below_set ?_ GE391.out | refine below_set ?_ GE392.out) | exact HB.out))) : w.heap.size ≤ gb416))
               have n6_ := ak_ ((by rw [hg]; exact (below_size (by repeat (first | (with_reducible first | exact HB.out | apply below_alloc | apply pw_below_drewN | apply below_drew1 | refine below_set ?_ GE391.out | refine below_set ?_ GE392.out) | exact HB.out))) : w.heap.size ≤ gb416))
               have n7_ := ak_ ((by rw [hg]; exact Nat.ne_of_lt (blk_lt (g := gb391) (o := .cells #[.int .i64 a0_0, .int .i64 a0_1, .int .i64 a0_2, .int .i64 a0_3, .int .i64 a0_4, .int .i64 a0_5, .int .i64 a0_6] 23 (0, 0)) (by (with_reducible repeat (first | apply blk_drewN | apply blk_drew | apply blk_alloc)); exact BK391.out)) : gb391 ≠ gb416))
               have n8_ := ak_ ((by rw [hg]; exact Nat.ne_of_gt (blk_lt (g := gb391) (o := .cells #[.int .i64 a0_0, .int .i64 a0_1, .int .i64 a0_2, .int .i64 a0_3, .int .i64 a0_4, .int .i64 a0_5, .int .i64 a0_6] 23 (0, 0)) (by (with_reducible repeat (first | apply blk_drewN | apply blk_drew | apply blk_alloc)); exact BK391.out)) : gb416 ≠ gb391))
               have n9_ := ak_ ((by rw [hg]; exact Nat.ne_of_lt (blk_lt (g := gb392) (o := .cells #[.slice A1_0 l1_0.length c1_0, .int .i64 a1_1, .int .i64 a1_2, .int .i64 a1_3, .int .i64 a1_4] 57 (0, 0)) (by (with_reducible repeat (first | apply blk_drewN | apply blk_drew | apply blk_alloc)); exact BK392.out)) : gb392 ≠ gb416))
               have n10_ := ak_ ((by rw [hg]; exact Nat.ne_of_gt (blk_lt (g := gb392) (o := .cells #[.slice A1_0 l1_0.length c1_0, .int .i64 a1_1, .int .i64 a1_2, .int .i64 a1_3, .int .i64 a1_4] 57 (0, 0)) (by (with_reducible repeat (first | apply blk_drewN | apply blk_drew | apply blk_alloc)); exact BK392.out)) : gb416 ≠ gb392))
               clear HO_7
               clear BK391
               clear BK392
               clear HB
               have HO_7 := n0_
               have BK391 := n1_
               have BK392 := n2_
               have HB := n3_
               have BK416 := n4_
               have GW416 := n5_
               have GE416 := n6_
               have NB391_416 := n7_
               have NB416_391 := n8_
               have NB392_416 := n9_
               have NB416_392 := n10_
               clear n0_ n1_ n2_ n3_ n4_ n5_ n6_ n7_ n8_ n9_ n10_
               clear hb hbox hg
               refine hK.out _ _ ⟨(bc_ BK391.out 0).trans rfl, (bc_ BK391.out 1).trans rfl, (bc_ BK391.out 2).trans rfl, (bc_ BK391.out 3).trans rfl, (bc_ BK391.out 4).trans rfl, (bc_ BK391.out 5).trans rfl, (bc_ BK391.out 6).trans rfl⟩ (fun hHeld => ?_)
               clear hK K
               refine norm_ (a' := ?_) ?_ ?_
               rotate_left
               ·show Act.put _ (some 11) _ = _
                simp only [Act.put, sb_, sz_, su_, i64_w, i32_w]
                rfl
               refine one_ (i := 2) (N := some 56) #[true, true, true, true, false, false, false, false, false, false, false, true, false, false, false, false] rfl rfl (one_of HT_.out (by kernel_rfl)) (by decide) (fun K hK => ?_)
               refine goes_ Try.func15 (by kernel_rfl) rfl #[.agg #[.int .i64 a0_0, .int .i64 a0_1, .int .i64 a0_2, .int .i64 a0_3, .int .i64 a0_4, .int .i64 a0_5, .int .i64 a0_6]] (by rfl) rfl rfl (by (try simp only [List.map_toArray, List.map_cons, List.map_nil]); first | done | rfl | (simp only [List.length_drop, List.length_take]; rfl)) ?_
               with_reducible refine (page_Erased.calls k4 a0_0 a0_1 a0_2 a0_3 a0_4 a0_5 a0_6 t401 _ A40.out).mono ?_
               rintro e w51 ⟨v402, rfl, ho0, hb⟩
               refine ⟨_, rfl, ?_⟩
               have n0_ := ak_ (Kd.R_below (by (with_reducible repeat (first | apply Kd.R_alloc | apply Kd.R_drewN | apply Kd.R_drew)); exact HO_7.out) hb)
               have n1_ := ak_ (Kd.R_lower ho0 (below_size (by repeat (first | (with_reducible first | exact HB.out | apply below_alloc | apply pw_below_drewN | apply below_drew1 | refine below_set ?_ GE391.out | refine below_set ?_ GE392.out | refine below_set ?_ GE416.out) | exact HB.out))))
               have n2_ := ak_ (blk_below (g := gb391) (o := .cells #[.int .i64 a0_0, .int .i64 a0_1, .int .i64 a0_2, .int .i64 a0_3, .int .i64 a0_4, .int .i64 a0_5, .int .i64 a0_6] 23 (0, 0)) (by (with_reducible repeat (first | apply blk_drewN | apply blk_drew | apply blk_alloc)); exact BK391.out) hb)
               have n3_ := ak_ (blk_below (g := gb392) (o := .cells #[.slice A1_0 l1_0.length c1_0, .int .i64 a1_1, .int .i64 a1_2, .int .i64 a1_3, .int .i64 a1_4] 57 (0, 0)) (by (with_reducible repeat (first | apply blk_drewN | apply blk_drew | apply blk_alloc)); exact BK392.out) hb)
               have n4_ := ak_ (blk_below (g := gb416) (o := .cells #[.int .i64 0, .int .i64 0, .int .i64 0, .int .i64 0] 26 (0, 0)) (by (with_reducible repeat (first | apply blk_drewN | apply blk_drew | apply blk_alloc)); exact BK416.out) hb)
               have n5_ := ak_ (below_step (by repeat (first | (with_reducible first | exact HB.out | apply below_alloc | apply pw_below_drewN | apply below_drew1 | refine below_set ?_ GE391.out | refine below_set ?_ GE392.out | refine below_set ?_ GE416.out) | exact HB.out)) hb)
               clear HO_7
               clear BK391
               clear BK392
               clear BK416
               clear HB
               have HO_7 := n0_
               have HO403 := n1_
               have BK391 := n2_
               have BK392 := n3_
               have BK416 := n4_
               have HB := n5_
               clear n0_ n1_ n2_ n3_ n4_ n5_
               (try clear hb)
               (try clear hb2)
               (try clear hk)
               (try clear hi)
               (try clear ho0)
               obtain ⟨Ao52, co52, eo52⟩ := Kd.R_slice HO403.out
               (first | subst eo52 | (injection eo52 with f1_ f2_ f3_; have f4_ := f1_.symm; have f5_ := f3_.symm; clear f1_ f2_ f3_; subst f4_; subst f5_))
               refine hK.out _ _ ⟨(bc_ BK391.out 0).trans rfl, (bc_ BK391.out 1).trans rfl, (bc_ BK391.out 2).trans rfl, (bc_ BK391.out 3).trans rfl, (bc_ BK391.out 4).trans rfl, (bc_ BK391.out 5).trans rfl, (bc_ BK391.out 6).trans rfl⟩ (fun hHeld => ?_)
               clear hK K
               refine norm_ (a' := ?_) ?_ ?_
               rotate_left
               ·show Act.put _ (some 56) _ = _
                simp only [Act.put, sb_, sz_, su_, i64_w, i32_w]
                rfl
               refine one_ (i := 4) (N := some 58) #[true, true, true, true, true, false, false, false, false, false, false, true, false, false, false, false] rfl rfl (one_of HT_.out (by kernel_rfl)) (by decide) (fun K hK => ?_)
               refine goes_ Try.func34 (by kernel_rfl) rfl #[.slice Ao52 t401.length co52, .slice Ao48 x7_4.length co48] (by rfl) rfl rfl (by (try simp only [List.map_toArray, List.map_cons, List.map_nil]); first | done | rfl | (simp only [List.length_drop, List.length_take]; rfl)) ?_
               with_reducible refine (bits_Flip.calls k4 _ _ t401 _ _ x7_4 t404 _ ?side1 ?side2 ?side3 ?side4 A41.out).mono ?_
               (case side1 => repeat (first | exact (Kd.R_reads' HO403.out).2.2 | (with_reducible refine Kd.C_alloc ?_ _) | (with_reducible refine Kd.C_drewN ?_ _) | (with_reducible refine Kd.C_drew ?_)))
               (case side2 => exact (Kd.R_reads' HO403.out).2.1)
               (case side3 => repeat (first | exact (Kd.R_reads' HO_7.out).2.2 | (with_reducible refine Kd.C_alloc ?_ _) | (with_reducible refine Kd.C_drewN ?_ _) | (with_reducible refine Kd.C_drew ?_)))
               (case side4 => exact (Kd.R_reads' HO_7.out).2.1)
               rintro e w53 ⟨v405, rfl, ho0, hb⟩
               refine ⟨_, rfl, ?_⟩
               have n0_ := ak_ (Kd.R_below (by (with_reducible repeat (first | apply Kd.R_alloc | apply Kd.R_drewN | apply Kd.R_drew)); exact HO_7.out) hb)
               have n1_ := ak_ (Kd.R_elder' (by (with_reducible repeat (first | apply Kd.R_alloc | apply Kd.R_drewN | apply Kd.R_drew)); exact HO403.out) (Kd.R_base ho0) hb)
               have n2_ := ak_ (Kd.R_lower (Kd.R_new' ho0 (Kd.R_lt (by (with_reducible repeat (first | apply Kd.R_alloc | apply Kd.R_drewN | apply Kd.R_drew)); exact HO403.out))) (below_size (by repeat (first | (with_reducible first | exact HB.out | apply below_alloc | apply pw_below_drewN | apply below_drew1 | refine below_set ?_ GE391.out | refine below_set ?_ GE392.out | refine below_set ?_ GE416.out) | exact HB.out))))
               have n3_ := ak_ (blk_below (g := gb391) (o := .cells #[.int .i64 a0_0, .int .i64 a0_1, .int .i64 a0_2, .int .i64 a0_3, .int .i64 a0_4, .int .i64 a0_5, .int .i64 a0_6] 23 (0, 0)) (by (with_reducible repeat (first | apply blk_drewN | apply blk_drew | apply blk_alloc)); exact BK391.out) hb)
               have n4_ := ak_ (blk_below (g := gb392) (o := .cells #[.slice A1_0 l1_0.length c1_0, .int .i64 a1_1, .int .i64 a1_2, .int .i64 a1_3, .int .i64 a1_4] 57 (0, 0)) (by (with_reducible repeat (first | apply blk_drewN | apply blk_drew | apply blk_alloc)); exact BK392.out) hb)
               have n5_ := ak_ (blk_below (g := gb416) (o := .cells #[.int .i64 0, .int .i64 0, .int .i64 0, .int .i64 0] 26 (0, 0)) (by (with_reducible repeat (first | apply blk_drewN | apply blk_drew | apply blk_alloc)); exact BK416.out) hb)
               have n6_ := ak_ (below_step (by repeat (first | (with_reducible first | exact HB.out | apply below_alloc | apply pw_below_drewN | apply below_drew1 | refine below_set ?_ GE391.out | refine below_set ?_ GE392.out | refine below_set ?_ GE416.out) | exact HB.out)) hb)
               clear HO_7
               clear HO403
               clear BK391
               clear BK392
               clear BK416
               clear HB
               have HO_7 := n0_
               have HO403 := n1_
               have HO406 := n2_
               have BK391 := n3_
               have BK392 := n4_
               have BK416 := n5_
               have HB := n6_
               clear n0_ n1_ n2_ n3_ n4_ n5_ n6_
               (try clear hb)
               (try clear hb2)
               (try clear hk)
               (try clear hi)
               (try clear ho0)
               obtain ⟨Ao54, co54, eo54⟩ := Kd.R_slice HO406.out
               (first | subst eo54 | (injection eo54 with f1_ f2_ f3_; have f4_ := f1_.symm; have f5_ := f3_.symm; clear f1_ f2_ f3_; subst f4_; subst f5_))
               refine hK.out _ _ ⟨(bc_ BK391.out 0).trans rfl, (bc_ BK391.out 1).trans rfl, (bc_ BK391.out 2).trans rfl, (bc_ BK391.out 3).trans rfl, (bc_ BK391.out 4).trans rfl, (bc_ BK391.out 5).trans rfl, (bc_ BK391.out 6).trans rfl⟩ (fun hHeld => ?_)
               clear hK K
               refine norm_ (a' := ?_) ?_ ?_
               rotate_left
               ·show Act.put _ (some 58) _ = _
                simp only [Act.put, sb_, sz_, su_, i64_w, i32_w]
                rfl
               refine one_ (i := 5) (N := some 59) #[true, true, true, true, true, true, false, false, false, false, false, true, false, false, false, false] rfl rfl (one_of HT_.out (by kernel_rfl)) (by decide) (fun K hK => ?_)
               refine goes_ Try.func30 (by kernel_rfl) rfl #[.agg #[.int .i64 a0_0, .int .i64 a0_1, .int .i64 a0_2, .int .i64 a0_3, .int .i64 a0_4, .int .i64 a0_5, .int .i64 a0_6], .slice Ao54 t404.length co54] (by rfl) rfl rfl (by (try simp only [List.map_toArray, List.map_cons, List.map_nil]); first | done | rfl | (simp only [List.length_drop, List.length_take]; rfl)) ?_
               with_reducible refine (page_Decode.calls k4 a0_0 a0_1 a0_2 a0_3 a0_4 a0_5 a0_6 _ _ t404 t407 t410 t411 t412 t413 t414 t415 _ ?side1 ?side2 A42.out).mono ?_
               (case side1 => repeat (first | exact (Kd.R_reads' HO406.out).2.2 | (with_reducible refine Kd.C_alloc ?_ _) | (with_reducible refine Kd.C_drewN ?_ _) | (with_reducible refine Kd.C_drew ?_)))
               (case side2 => exact (Kd.R_reads' HO406.out).2.1)
               rintro e w55 ⟨v408, rfl, ho0, hb⟩
               refine ⟨_, rfl, ?_⟩
               have n0_ := ak_ (Kd.R_below (by (with_reducible repeat (first | apply Kd.R_alloc | apply Kd.R_drewN | apply Kd.R_drew)); exact HO_7.out) hb)
               have n1_ := ak_ (Kd.R_elder' (by (with_reducible repeat (first | apply Kd.R_alloc | apply Kd.R_drewN | apply Kd.R_drew)); exact HO403.out) (Kd.R_base ho0) hb)
               have n2_ := ak_ (Kd.R_elder' (by (with_reducible repeat (first | apply Kd.R_alloc | apply Kd.R_drewN | apply Kd.R_drew)); exact HO406.out) (Kd.R_base ho0) hb)
               have n3_ := ak_ (Kd.R_lower (Kd.R_new' (Kd.R_new' ho0 (Kd.R_lt (by (with_reducible repeat (first | apply Kd.R_alloc | apply Kd.R_drewN | apply Kd.R_drew)); exact HO403.out))) (Kd.R_lt (by (with_reducible repeat (first | apply Kd.R_alloc | apply Kd.R_drewN | apply Kd.R_drew)); exact HO406.out))) (below_size (by repeat (first | (with_reducible first | exact HB.out | apply below_alloc | apply pw_below_drewN | apply below_drew1 | refine below_set ?_ GE391.out | refine below_set ?_ GE392.out | refine below_set ?_ GE416.out) | exact HB.out))))
               have n4_ := ak_ (blk_below (g := gb391) (o := .cells #[.int .i64 a0_0, .int .i64 a0_1, .int .i64 a0_2, .int .i64 a0_3, .int .i64 a0_4, .int .i64 a0_5, .int .i64 a0_6] 23 (0, 0)) (by (with_reducible repeat (first | apply blk_drewN | apply blk_drew | apply blk_alloc)); exact BK391.out) hb)
               have n5_ := ak_ (blk_below (g := gb392) (o := .cells #[.slice A1_0 l1_0.length c1_0, .int .i64 a1_1, .int .i64 a1_2, .int .i64 a1_3, .int .i64 a1_4] 57 (0, 0)) (by (with_reducible repeat (first | apply blk_drewN | apply blk_drew | apply blk_alloc)); exact BK392.out) hb)
               have n6_ := ak_ (blk_below (g := gb416) (o := .cells #[.int .i64 0, .int .i64 0, .int .i64 0, .int .i64 0] 26 (0, 0)) (by (with_reducible repeat (first | apply blk_drewN | apply blk_drew | apply blk_alloc)); exact BK416.out) hb)
               have n7_ := ak_ (below_step (by repeat (first | (with_reducible first | exact HB.out | apply below_alloc | apply pw_below_drewN | apply below_drew1 | refine below_set ?_ GE391.out | refine below_set ?_ GE392.out | refine below_set ?_ GE416.out) | exact HB.out)) hb)
               clear HO_7
               clear HO403
               clear HO406
               clear BK391
               clear BK392
               clear BK416
               clear HB
               have HO_7 := n0_
               have HO403 := n1_
               have HO406 := n2_
               have HO409 := n3_
               have BK391 := n4_
               have BK392 := n5_
               have BK416 := n6_
               have HB := n7_
               clear n0_ n1_ n2_ n3_ n4_ n5_ n6_ n7_
               (try clear hb)
               (try clear hb2)
               (try clear hk)
               (try clear hi)
               (try clear ho0)
               refine hK.out _ _ ⟨(bc_ BK391.out 0).trans rfl, (bc_ BK391.out 1).trans rfl, (bc_ BK391.out 2).trans rfl, (bc_ BK391.out 3).trans rfl, (bc_ BK391.out 4).trans rfl, (bc_ BK391.out 5).trans rfl, (bc_ BK391.out 6).trans rfl⟩ (fun hHeld => ?_)
               clear hK K
               refine norm_ (a' := ?_) ?_ ?_
               rotate_left
               ·show Act.put _ (some 59) _ = _
                simp only [Act.put, sb_, sz_, su_, i64_w, i32_w]
                rfl
               refine pure_ (i := 6) (N := some 53) (v := ?_) (a' := ?_) #[true, true, true, true, true, true, true, false, false, false, false, true, false, false, false, false] rfl rfl (any_of HT_.out (by kernel_rfl)) (fun _ _ _ h => h) (Or.inl ⟨by rfl, ?_⟩) ?_ ?_
               rotate_left
               ·intro w'
                go_simp
                with_reducible rfl
               rotate_left
               ·simp only [Act.put, sb_, sz_, su_, i64_w, i32_w]
                rfl
               refine pure_ (i := 7) (N := some 60) (v := ?_) (a' := ?_) #[true, true, true, true, true, true, true, true, false, false, false, true, false, false, false, false] rfl rfl (any_of HT_.out (by kernel_rfl)) (fun _ _ _ h => h) (Or.inl ⟨by rfl, ?_⟩) ?_ ?_
               rotate_left
               ·intro w'
                go_simp
                with_reducible rfl
               rotate_left
               ·simp only [Act.put, sb_, sz_, su_, i64_w, i32_w]
                rfl
               refine pure_ (i := 8) (N := some 61) (v := ?_) (a' := ?_) #[true, true, true, true, true, true, true, true, true, false, false, true, false, false, false, false] rfl rfl (any_of HT_.out (by kernel_rfl)) (fun _ _ _ h => h) (Or.inl ⟨by rfl, ?_⟩) ?_ ?_
               rotate_left
               ·intro w'
                go_simp
                with_reducible rfl
               rotate_left
               ·simp only [Act.put, sb_, sz_, su_, i64_w, i32_w]
                rfl
               refine pure_ (i := 9) (N := some 62) (v := ?_) (a' := ?_) #[true, true, true, true, true, true, true, true, true, true, false, true, false, false, false, false] rfl rfl (any_of HT_.out (by kernel_rfl)) (fun _ _ _ h => h) (Or.inl ⟨by rfl, ?_⟩) ?_ ?_
               rotate_left
               ·intro w'
                go_simp
                with_reducible rfl
               rotate_left
               ·simp only [Act.put, sb_, sz_, su_, i64_w, i32_w]
                rfl
               refine pure_ (i := 10) (N := some 63) (v := ?_) (a' := ?_) #[true, true, true, true, true, true, true, true, true, true, true, true, false, false, false, false] rfl rfl (any_of HT_.out (by kernel_rfl)) (fun _ _ _ h => h) (Or.inl ⟨by rfl, ?_⟩) ?_ ?_
               rotate_left
               ·intro w'
                go_simp
                with_reducible rfl
               rotate_left
               ·simp only [Act.put, sb_, sz_, su_, i64_w, i32_w]
                rfl
               exact norm_ (by simp only [putAll, Act.put, sb_, sz_, su_]) (hCont (.slice Ao52 t401.length co52, .slice Ao54 t404.length co54, v408, gb416) _ ⟨hHeld, (by (with_reducible repeat (first | apply Kd.R_alloc | apply Kd.R_drewN | apply Kd.R_drew)); exact Kd.R_mono HO403.out (fun _ hk => by first | exact ⟨hk.1.2, hk.2⟩ | exact hk | (simp only [and_assoc, and_comm, and_left_comm] at hk ⊢; exact hk) | grind)), (by (with_reducible repeat (first | apply Kd.R_alloc | apply Kd.R_drewN | apply Kd.R_drew)); exact Kd.R_mono HO406.out (fun _ hk => by first | exact ⟨hk.1.2, hk.2⟩ | exact hk | (simp only [and_assoc, and_comm, and_left_comm] at hk ⊢; exact hk) | grind)), (by (with_reducible repeat (first | apply Kd.R_alloc | apply Kd.R_drewN | apply Kd.R_drew)); exact Kd.R_mono HO409.out (fun _ hk => by first | exact ⟨hk.1.2, hk.2⟩ | exact hk | (simp only [and_assoc, and_comm, and_left_comm] at hk ⊢; exact hk) | grind)), (by (with_reducible repeat (first | apply Kd.R_alloc | apply Kd.R_drewN | apply Kd.R_drew)); exact HO_7.out), (by (with_reducible repeat (first | apply blk_drewN | apply blk_drew | apply blk_alloc)); exact BK391.out), (by (with_reducible repeat (first | apply blk_drewN | apply blk_drew | apply blk_alloc)); exact BK392.out), (by (with_reducible repeat (first | apply blk_drewN | apply blk_drew | apply blk_alloc)); exact BK416.out), GW416.out, GE416.out, NB391_416.out, NB416_391.out, NB392_416.out, NB416_392.out, (by repeat (first | (with_reducible first | exact HB.out | apply below_alloc | apply pw_below_drewN | apply below_drew1 | refine below_set ?_ GE391.out | refine below_set ?_ GE392.out | refine below_set ?_ GE416.out) | exact HB.out))⟩)
             rintro ⟨v402, v405, v408, gb416⟩ w56 ⟨hS_, h0_, h1_, h2_, h3_, h4_, h5_, h6_, h7_, h8_, h9_, h10_, h11_, h12_, h13_⟩
             have n0_ : Aside0 (Kd.R (Kd.int .u8) 5 w56 w.heap.size (fun k_ => some k_ ≠ (v405 : Value).ownBlock ∧ some k_ ≠ (v408 : Value).ownBlock) v402 t401) := ⟨h0_⟩
             have n1_ : Aside0 (Kd.R (Kd.int .u8) 5 w56 w.heap.size (fun k_ => some k_ ≠ (v402 : Value).ownBlock ∧ some k_ ≠ (v408 : Value).ownBlock) v405 t404) := ⟨h1_⟩
             have n2_ : Aside0 (Kd.R (Kd.int .u8) 5 w56 w.heap.size (fun k_ => some k_ ≠ (v402 : Value).ownBlock ∧ some k_ ≠ (v405 : Value).ownBlock) v408 t407) := ⟨h2_⟩
             have n3_ : Aside0 (Kd.R (Kd.int .i64) 3 w56 w.heap.size (fun _ => True) (.slice Ao48 x7_4.length co48) x7_4) := ⟨h3_⟩
             have n4_ : Aside0 (w56.heap[gb391]? = some (.cells #[.int .i64 a0_0, .int .i64 a0_1, .int .i64 a0_2, .int .i64 a0_3, .int .i64 a0_4, .int .i64 a0_5, .int .i64 a0_6] 23 (0, 0))) := ⟨h4_⟩
             have n5_ : Aside0 (w56.heap[gb392]? = some (.cells #[.slice A1_0 l1_0.length c1_0, .int .i64 a1_1, .int .i64 a1_2, .int .i64 a1_3, .int .i64 a1_4] 57 (0, 0))) := ⟨h5_⟩
             have n6_ : Aside0 (w56.heap[gb416]? = some (.cells #[.int .i64 0, .int .i64 0, .int .i64 0, .int .i64 0] 26 (0, 0))) := ⟨h6_⟩
             have n7_ : Aside0 (w.heap.size ≤ gb416) := ⟨h7_⟩
             have n8_ : Aside0 (w.heap.size ≤ gb416) := ⟨h8_⟩
             have n9_ : Aside0 (gb391 ≠ gb416) := ⟨h9_⟩
             have n10_ : Aside0 (gb416 ≠ gb391) := ⟨h10_⟩
             have n11_ : Aside0 (gb392 ≠ gb416) := ⟨h11_⟩
             have n12_ : Aside0 (gb416 ≠ gb392) := ⟨h12_⟩
             have n13_ : Aside0 (Below w.heap.size w w56) := ⟨h13_⟩
             clear HO_7
             clear BK391
             clear BK392
             clear HB
             clear h0_ h1_ h2_ h3_ h4_ h5_ h6_ h7_ h8_ h9_ h10_ h11_ h12_ h13_
             have HO403 := n0_
             have HO406 := n1_
             have HO409 := n2_
             have HO_7 := n3_
             have BK391 := n4_
             have BK392 := n5_
             have BK416 := n6_
             have GW416 := n7_
             have GE416 := n8_
             have NB391_416 := n9_
             have NB416_391 := n10_
             have NB392_416 := n11_
             have NB416_392 := n12_
             have HB := n13_
             clear n0_ n1_ n2_ n3_ n4_ n5_ n6_ n7_ n8_ n9_ n10_ n11_ n12_ n13_
             have hHeld : w56.cell? ⟨gb391, 0, none⟩ = some (.int .i64 a0_0) ∧ w56.cell? ⟨gb391, 1, none⟩ = some (.int .i64 a0_1) ∧ w56.cell? ⟨gb391, 2, none⟩ = some (.int .i64 a0_2) ∧ w56.cell? ⟨gb391, 3, none⟩ = some (.int .i64 a0_3) ∧ w56.cell? ⟨gb391, 4, none⟩ = some (.int .i64 a0_4) ∧ w56.cell? ⟨gb391, 5, none⟩ = some (.int .i64 a0_5) ∧ w56.cell? ⟨gb391, 6, none⟩ = some (.int .i64 a0_6) := hS_
             refine norm_ (a' := ?_) ?_ ?_
             rotate_left
             ·simp only [putAll, Act.put, sb_, sz_, su_]
              rfl
             refine pure_ (i := 12) (N := some 10) (v := ?_) (a' := ?_) #[true, true, true, true, true, true, true, true, true, true, true, true, true, false, false, false] rfl rfl (any_of HT_.out (by kernel_rfl)) (fun _ _ _ h => h) (Or.inl ⟨by rfl, ?_⟩) ?_ ?_
             rotate_left
             ·intro w'
              go_simp
              with_reducible rfl
             rotate_left
             ·simp only [Act.put, sb_, sz_, su_, i64_w, i32_w]
              rfl
             refine one_ (i := 13) (N := none) #[true, true, true, true, true, true, true, true, true, true, true, true, true, true, false, false] rfl rfl (one_of HT_.out (by kernel_rfl)) (by decide) (fun K hK => ?_)
             have hs57 : w56.cell? ⟨gb416, 0, none⟩ = some (.int .i64 0) := (bc_ BK416.out 0).trans rfl
             have hfs57 := bf_ BK416.out 0
             have hns57_0 := NB391_416.out
             have hns57_1 := NB392_416.out
             have hms57_0 := NB416_391.out
             have hms57_1 := NB416_392.out
             have hs58 : w56.cell? ⟨gb416, 1, none⟩ = some (.int .i64 0) := (bc_ BK416.out 1).trans rfl
             have hfs58 := bf_ BK416.out 1
             have hns58_0 := NB391_416.out
             have hns58_1 := NB392_416.out
             have hms58_0 := NB416_391.out
             have hms58_1 := NB416_392.out
             have hs59 : w56.cell? ⟨gb416, 2, none⟩ = some (.int .i64 0) := (bc_ BK416.out 2).trans rfl
             have hfs59 := bf_ BK416.out 2
             have hns59_0 := NB391_416.out
             have hns59_1 := NB392_416.out
             have hms59_0 := NB416_391.out
             have hms59_1 := NB416_392.out
             have hs60 : w56.cell? ⟨gb416, 3, none⟩ = some (.int .i64 0) := (bc_ BK416.out 3).trans rfl
             have hfs60 := bf_ BK416.out 3
             have hns60_0 := NB391_416.out
             have hns60_1 := NB392_416.out
             have hms60_0 := NB416_391.out
             have hms60_1 := NB416_392.out
             refine skip_ (w1 := ?_) (by rfl) rfl ?_ ?_
             rotate_left
             ·go_simp
              rfl
             refine hK.out _ _ ⟨((cell_far (p := ⟨gb416, _, none⟩) NB391_416.out _).trans (((cell_far (p := ⟨gb416, _, none⟩) NB391_416.out _).trans (((cell_far (p := ⟨gb416, _, none⟩) NB391_416.out _).trans (((cell_far (p := ⟨gb416, _, none⟩) NB391_416.out _).trans (hHeld.1)))))))), ((cell_far (p := ⟨gb416, _, none⟩) NB391_416.out _).trans (((cell_far (p := ⟨gb416, _, none⟩) NB391_416.out _).trans (((cell_far (p := ⟨gb416, _, none⟩) NB391_416.out _).trans (((cell_far (p := ⟨gb416, _, none⟩) NB391_416.out _).trans (hHeld.2.1)))))))), ((cell_far (p := ⟨gb416, _, none⟩) NB391_416.out _).trans (((cell_far (p := ⟨gb416, _, none⟩) NB391_416.out _).trans (((cell_far (p := ⟨gb416, _, none⟩) NB391_416.out _).trans (((cell_far (p := ⟨gb416, _, none⟩) NB391_416.out _).trans (hHeld.2.2.1)))))))), ((cell_far (p := ⟨gb416, _, none⟩) NB391_416.out _).trans (((cell_far (p := ⟨gb416, _, none⟩) NB391_416.out _).trans (((cell_far (p := ⟨gb416, _, none⟩) NB391_416.out _).trans (((cell_far (p := ⟨gb416, _, none⟩) NB391_416.out _).trans (hHeld.2.2.2.1)))))))), ((cell_far (p := ⟨gb416, _, none⟩) NB391_416.out _).trans (((cell_far (p := ⟨gb416, _, none⟩) NB391_416.out _).trans (((cell_far (p := ⟨gb416, _, none⟩) NB391_416.out _).trans (((cell_far (p := ⟨gb416, _, none⟩) NB391_416.out _).trans (hHeld.2.2.2.2.1)))))))), ((cell_far (p := ⟨gb416, _, none⟩) NB391_416.out _).trans (((cell_far (p := ⟨gb416, _, none⟩) NB391_416.out _).trans (((cell_far (p := ⟨gb416, _, none⟩) NB391_416.out _).trans (((cell_far (p := ⟨gb416, _, none⟩) NB391_416.out _).trans (hHeld.2.2.2.2.2.1)))))))), ((cell_far (p := ⟨gb416, _, none⟩) NB391_416.out _).trans (((cell_far (p := ⟨gb416, _, none⟩) NB391_416.out _).trans (((cell_far (p := ⟨gb416, _, none⟩) NB391_416.out _).trans (((cell_far (p := ⟨gb416, _, none⟩) NB391_416.out _).trans (hHeld.2.2.2.2.2.2))))))))⟩ (fun hHeld => ?_)
             clear hK K
             refine pure_ (i := 14) (N := some 12) (v := ?_) (a' := ?_) #[true, true, true, true, true, true, true, true, true, true, true, true, true, true, true, false] rfl rfl (any_of HT_.out (by kernel_rfl)) (fun _ _ _ h => h) (Or.inl ⟨by rfl, ?_⟩) ?_ ?_
             rotate_left
             ·intro w'
              go_simp
              with_reducible rfl
             rotate_left
             ·simp only [Act.put, sb_, sz_, su_, i64_w, i32_w]
              rfl
             refine pure_ (i := 15) (N := some 13) (v := ?_) (a' := ?_) #[true, true, true, true, true, true, true, true, true, true, true, true, true, true, true, true] rfl rfl (any_of HT_.out (by kernel_rfl)) (fun _ _ _ h => h) (Or.inl ⟨by rfl, ?_⟩) ?_ ?_
             rotate_left
             ·intro w'
              go_simp
              with_reducible rfl
             rotate_left
             ·simp only [Act.put, sb_, sz_, su_, i64_w, i32_w]
              rfl
             refine done_ (done_of HT_.out (by kernel_rfl)) ?_
             try go_wp2
             have n0_ : Aside0 (Kd.R (Kd.int .i64) 3 ((((w56.setCell ⟨gb416, 0, none⟩ (.int .i64 t410)).setCell ⟨gb416, 1, none⟩ (.int .i64 t411)).setCell ⟨gb416, 2, none⟩ (.int .i64 t412)).setCell ⟨gb416, 3, none⟩ (.int .i64 t413)) w.heap.size (fun _ => True) (.slice Ao48 x7_4.length co48) x7_4) := ⟨by (with_reducible repeat (first | apply Kd.R_alloc | apply Kd.R_drewN | apply Kd.R_drew)); exact Kd.R_mono (Kd.R_far (p := ⟨gb416, 3, none⟩) (Kd.R_far (p := ⟨gb416, 2, none⟩) (Kd.R_far (p := ⟨gb416, 1, none⟩) (Kd.R_far (p := ⟨gb416, 0, none⟩) (Kd.R_types HO_7.out BK416.out (by decide)) (fun _ hk => hk.2) (.int .i64 t410)) (fun _ hk => hk.2) (.int .i64 t411)) (fun _ hk => hk.2) (.int .i64 t412)) (fun _ hk => hk.2) (.int .i64 t413)) (fun _ hk => trivial)⟩
             have n1_ : Aside0 (Kd.R (Kd.int .u8) 5 ((((w56.setCell ⟨gb416, 0, none⟩ (.int .i64 t410)).setCell ⟨gb416, 1, none⟩ (.int .i64 t411)).setCell ⟨gb416, 2, none⟩ (.int .i64 t412)).setCell ⟨gb416, 3, none⟩ (.int .i64 t413)) w.heap.size (fun k_ => some k_ ≠ (v405 : Value).ownBlock ∧ some k_ ≠ (v408 : Value).ownBlock) v402 t401) := ⟨by (with_reducible repeat (first | apply Kd.R_alloc | apply Kd.R_drewN | apply Kd.R_drew)); exact Kd.R_mono (Kd.R_far (p := ⟨gb416, 3, none⟩) (Kd.R_far (p := ⟨gb416, 2, none⟩) (Kd.R_far (p := ⟨gb416, 1, none⟩) (Kd.R_far (p := ⟨gb416, 0, none⟩) (Kd.R_types HO403.out BK416.out (by decide)) (fun _ hk => hk.2) (.int .i64 t410)) (fun _ hk => hk.2) (.int .i64 t411)) (fun _ hk => hk.2) (.int .i64 t412)) (fun _ hk => hk.2) (.int .i64 t413)) (fun _ hk => by first | exact ⟨hk.1.1, hk.1.2⟩ | exact hk | (simp only [and_assoc, and_comm, and_left_comm] at hk ⊢; exact hk) | grind)⟩
             have n2_ : Aside0 (Kd.R (Kd.int .u8) 5 ((((w56.setCell ⟨gb416, 0, none⟩ (.int .i64 t410)).setCell ⟨gb416, 1, none⟩ (.int .i64 t411)).setCell ⟨gb416, 2, none⟩ (.int .i64 t412)).setCell ⟨gb416, 3, none⟩ (.int .i64 t413)) w.heap.size (fun k_ => some k_ ≠ (v402 : Value).ownBlock ∧ some k_ ≠ (v408 : Value).ownBlock) v405 t404) := ⟨by (with_reducible repeat (first | apply Kd.R_alloc | apply Kd.R_drewN | apply Kd.R_drew)); exact Kd.R_mono (Kd.R_far (p := ⟨gb416, 3, none⟩) (Kd.R_far (p := ⟨gb416, 2, none⟩) (Kd.R_far (p := ⟨gb416, 1, none⟩) (Kd.R_far (p := ⟨gb416, 0, none⟩) (Kd.R_types HO406.out BK416.out (by decide)) (fun _ hk => hk.2) (.int .i64 t410)) (fun _ hk => hk.2) (.int .i64 t411)) (fun _ hk => hk.2) (.int .i64 t412)) (fun _ hk => hk.2) (.int .i64 t413)) (fun _ hk => by first | exact ⟨hk.1.1, hk.1.2⟩ | exact hk | (simp only [and_assoc, and_comm, and_left_comm] at hk ⊢; exact hk) | grind)⟩
             have n3_ : Aside0 (Kd.R (Kd.int .u8) 5 ((((w56.setCell ⟨gb416, 0, none⟩ (.int .i64 t410)).setCell ⟨gb416, 1, none⟩ (.int .i64 t411)).setCell ⟨gb416, 2, none⟩ (.int .i64 t412)).setCell ⟨gb416, 3, none⟩ (.int .i64 t413)) w.heap.size (fun k_ => some k_ ≠ (v402 : Value).ownBlock ∧ some k_ ≠ (v405 : Value).ownBlock) v408 t407) := ⟨by (with_reducible repeat (first | apply Kd.R_alloc | apply Kd.R_drewN | apply Kd.R_drew)); exact Kd.R_mono (Kd.R_far (p := ⟨gb416, 3, none⟩) (Kd.R_far (p := ⟨gb416, 2, none⟩) (Kd.R_far (p := ⟨gb416, 1, none⟩) (Kd.R_far (p := ⟨gb416, 0, none⟩) (Kd.R_types HO409.out BK416.out (by decide)) (fun _ hk => hk.2) (.int .i64 t410)) (fun _ hk => hk.2) (.int .i64 t411)) (fun _ hk => hk.2) (.int .i64 t412)) (fun _ hk => hk.2) (.int .i64 t413)) (fun _ hk => by first | exact ⟨hk.1.1, hk.1.2⟩ | exact hk | (simp only [and_assoc, and_comm, and_left_comm] at hk ⊢; exact hk) | grind)⟩
             have n4_ : Aside0 (((((w56.setCell ⟨gb416, 0, none⟩ (.int .i64 t410)).setCell ⟨gb416, 1, none⟩ (.int .i64 t411)).setCell ⟨gb416, 2, none⟩ (.int .i64 t412)).setCell ⟨gb416, 3, none⟩ (.int .i64 t413)).heap[gb391]? = some (.cells #[.int .i64 a0_0, .int .i64 a0_1, .int .i64 a0_2, .int .i64 a0_3, .int .i64 a0_4, .int .i64 a0_5, .int .i64 a0_6] 23 (0, 0))) := ⟨by (with_reducible repeat (first | apply blk_drewN | apply blk_drew | apply blk_alloc)); refine blk_far ?_ NB391_416.out _; (with_reducible repeat (first | apply blk_drewN | apply blk_drew | apply blk_alloc)); refine blk_far ?_ NB391_416.out _; (with_reducible repeat (first | apply blk_drewN | apply blk_drew | apply blk_alloc)); refine blk_far ?_ NB391_416.out _; (with_reducible repeat (first | apply blk_drewN | apply blk_drew | apply blk_alloc)); refine blk_far ?_ NB391_416.out _; (with_reducible repeat (first | apply blk_drewN | apply blk_drew | apply blk_alloc)); exact BK391.out⟩
             have n5_ : Aside0 (((((w56.setCell ⟨gb416, 0, none⟩ (.int .i64 t410)).setCell ⟨gb416, 1, none⟩ (.int .i64 t411)).setCell ⟨gb416, 2, none⟩ (.int .i64 t412)).setCell ⟨gb416, 3, none⟩ (.int .i64 t413)).heap[gb392]? = some (.cells #[.slice A1_0 l1_0.length c1_0, .int .i64 a1_1, .int .i64 a1_2, .int .i64 a1_3, .int .i64 a1_4] 57 (0, 0))) := ⟨by (with_reducible repeat (first | apply blk_drewN | apply blk_drew | apply blk_alloc)); refine blk_far ?_ NB392_416.out _; (with_reducible repeat (first | apply blk_drewN | apply blk_drew | apply blk_alloc)); refine blk_far ?_ NB392_416.out _; (with_reducible repeat (first | apply blk_drewN | apply blk_drew | apply blk_alloc)); refine blk_far ?_ NB392_416.out _; (with_reducible repeat (first | apply blk_drewN | apply blk_drew | apply blk_alloc)); refine blk_far ?_ NB392_416.out _; (with_reducible repeat (first | apply blk_drewN | apply blk_drew | apply blk_alloc)); exact BK392.out⟩
             have n6_ : Aside0 (((((w56.setCell ⟨gb416, 0, none⟩ (.int .i64 t410)).setCell ⟨gb416, 1, none⟩ (.int .i64 t411)).setCell ⟨gb416, 2, none⟩ (.int .i64 t412)).setCell ⟨gb416, 3, none⟩ (.int .i64 t413)).heap[gb416]? = some (.cells #[.int .i64 t410, .int .i64 t411, .int .i64 t412, .int .i64 t413] 26 (0, 0))) := ⟨by (with_reducible repeat (first | apply blk_drewN | apply blk_drew | apply blk_alloc)); refine blk_put (cs := #[.int .i64 t410, .int .i64 t411, .int .i64 t412, .int .i64 0]) ?_ 3 _ rfl; (with_reducible repeat (first | apply blk_drewN | apply blk_drew | apply blk_alloc)); refine blk_put (cs := #[.int .i64 t410, .int .i64 t411, .int .i64 0, .int .i64 0]) ?_ 2 _ rfl; (with_reducible repeat (first | apply blk_drewN | apply blk_drew | apply blk_alloc)); refine blk_put (cs := #[.int .i64 t410, .int .i64 0, .int .i64 0, .int .i64 0]) ?_ 1 _ rfl; (with_reducible repeat (first | apply blk_drewN | apply blk_drew | apply blk_alloc)); refine blk_put (cs := #[.int .i64 0, .int .i64 0, .int .i64 0, .int .i64 0]) ?_ 0 _ rfl; (with_reducible repeat (first | apply blk_drewN | apply blk_drew | apply blk_alloc)); exact BK416.out⟩
             have n7_ : Aside0 (Below w.heap.size w ((((w56.setCell ⟨gb416, 0, none⟩ (.int .i64 t410)).setCell ⟨gb416, 1, none⟩ (.int .i64 t411)).setCell ⟨gb416, 2, none⟩ (.int .i64 t412)).setCell ⟨gb416, 3, none⟩ (.int .i64 t413))) := ⟨by repeat (first | (with_reducible first | exact HB.out | apply below_alloc | apply pw_below_drewN | apply below_drew1 | refine below_set ?_ GE391.out | refine below_set ?_ GE392.out | refine below_set ?_ GE416.out) | exact HB.out)⟩
             (try clear HO_7)
             (try clear HO403)
             (try clear HO406)
             (try clear HO409)
             (try clear BK391)
             (try clear BK392)
             (try clear BK416)
             (try clear HB)
             generalize ((((w56.setCell ⟨gb416, 0, none⟩ (.int .i64 t410)).setCell ⟨gb416, 1, none⟩ (.int .i64 t411)).setCell ⟨gb416, 2, none⟩ (.int .i64 t412)).setCell ⟨gb416, 3, none⟩ (.int .i64 t413)) = w61 at n0_ n1_ n2_ n3_ n4_ n5_ n6_ n7_ ⊢
             have HO_7 := n0_
             have HO403 := n1_
             have HO406 := n2_
             have HO409 := n3_
             have BK391 := n4_
             have BK392 := n5_
             have BK416 := n6_
             have HB := n7_
             clear n0_ n1_ n2_ n3_ n4_ n5_ n6_ n7_
             have n0_ := ak_ (Kd.R_drew HO_7.out)
             have n1_ := ak_ (Kd.R_drew HO403.out)
             have n2_ := ak_ (Kd.R_drew HO406.out)
             have n3_ := ak_ (Kd.R_drew HO409.out)
             have n4_ := ak_ (blk_drew BK391.out)
             have n5_ := ak_ (blk_drew BK392.out)
             have n6_ := ak_ (blk_drew BK416.out)
             have n7_ := ak_ (below_drew1 HB.out)
             clear HO_7
             clear HO403
             clear HO406
             clear HO409
             clear BK391
             clear BK392
             clear BK416
             clear HB
             have HO_7 := n0_
             have HO403 := n1_
             have HO406 := n2_
             have HO409 := n3_
             have BK391 := n4_
             have BK392 := n5_
             have BK416 := n6_
             have HB := n7_
             clear n0_ n1_ n2_ n3_ n4_ n5_ n6_ n7_
             refine start_ (n := 12) (S := fun w' => w'.cell? ⟨gb391, 0, none⟩ = some (.int .i64 a0_0) ∧ w'.cell? ⟨gb391, 1, none⟩ = some (.int .i64 a0_1) ∧ w'.cell? ⟨gb391, 2, none⟩ = some (.int .i64 a0_2) ∧ w'.cell? ⟨gb391, 3, none⟩ = some (.int .i64 a0_3) ∧ w'.cell? ⟨gb391, 4, none⟩ = some (.int .i64 a0_4) ∧ w'.cell? ⟨gb391, 5, none⟩ = some (.int .i64 a0_5) ∧ w'.cell? ⟨gb391, 6, none⟩ = some (.int .i64 a0_6)) (ds := []) #[false, false, false, false, false, false, false, false, false, false, false, false] (by kernel_rfl) rfl rfl ⟨(bc_ BK391.out 0).trans rfl, (bc_ BK391.out 1).trans rfl, (bc_ BK391.out 2).trans rfl, (bc_ BK391.out 3).trans rfl, (bc_ BK391.out 4).trans rfl, (bc_ BK391.out 5).trans rfl, (bc_ BK391.out 6).trans rfl⟩ (fun hHeld => ?_); refine with_tabW l08_PageEmpty.tab12 l08_PageEmpty.bits12 (fun HT_ HW_ => ?_)
             generalize w61.drew = w62 at HO_7 HO403 HO406 HO409 BK391 BK392 BK416 HB hHeld ⊢
             refine pure_ (i := 0) (N := some 64) (v := ?_) (a' := ?_) #[true, false, false, false, false, false, false, false, false, false, false, false] rfl rfl (any_of HT_.out (by kernel_rfl)) (fun _ _ _ h => h) (Or.inl ⟨by rfl, ?_⟩) ?_ ?_
             rotate_left
             ·intro w'
              go_simp
              with_reducible rfl
             rotate_left
             ·simp only [Act.put, sb_, sz_, su_, i64_w, i32_w]
              rfl
             refine pure_ (i := 1) (N := some 65) (v := ?_) (a' := ?_) #[true, true, false, false, false, false, false, false, false, false, false, false] rfl rfl (any_of HT_.out (by kernel_rfl)) (fun _ _ _ h => h) (Or.inl ⟨by rfl, ?_⟩) ?_ ?_
             rotate_left
             ·intro w'
              go_simp
              with_reducible rfl
             rotate_left
             ·simp only [Act.put, sb_, sz_, su_, i64_w, i32_w]
              rfl
             refine pure_ (i := 2) (N := some 66) (v := ?_) (a' := ?_) #[true, true, true, false, false, false, false, false, false, false, false, false] rfl rfl (any_of HT_.out (by kernel_rfl)) (fun _ _ _ h => h) (Or.inl ⟨by rfl, ?_⟩) ?_ ?_
             rotate_left
             ·intro w'
              go_simp
              with_reducible rfl
             rotate_left
             ·simp only [Act.put, sb_, sz_, su_, i64_w, i32_w]
              rfl
             refine pure_ (i := 3) (N := some 67) (v := ?_) (a' := ?_) #[true, true, true, true, false, false, false, false, false, false, false, false] rfl rfl (any_of HT_.out (by kernel_rfl)) (fun _ _ _ h => h) (Or.inl ⟨by rfl, ?_⟩) ?_ ?_
             rotate_left
             ·intro w'
              go_simp
              with_reducible rfl
             rotate_left
             ·simp only [Act.put, sb_, sz_, su_, i64_w, i32_w]
              rfl
             refine pure_ (i := 4) (N := some 68) (v := ?_) (a' := ?_) #[true, true, true, true, true, false, false, false, false, false, false, false] rfl rfl (any_of HT_.out (by kernel_rfl)) (fun _ _ _ h => h) (Or.inl ⟨by rfl, ?_⟩) ?_ ?_
             rotate_left
             ·intro w'
              go_simp
              with_reducible rfl
             rotate_left
             ·simp only [Act.put, sb_, sz_, su_, i64_w, i32_w]
              rfl
             refine pure_ (i := 5) (N := some 69) (v := ?_) (a' := ?_) #[true, true, true, true, true, true, false, false, false, false, false, false] rfl rfl (any_of HT_.out (by kernel_rfl)) (fun _ _ _ h => h) (Or.inl ⟨by rfl, ?_⟩) ?_ ?_
             rotate_left
             ·intro w'
              go_simp
              with_reducible rfl
             rotate_left
             ·simp only [Act.put, sb_, sz_, su_, i64_w, i32_w]
              rfl
             refine pure_ (i := 6) (N := some 70) (v := ?_) (a' := ?_) #[true, true, true, true, true, true, true, false, false, false, false, false] rfl rfl (any_of HT_.out (by kernel_rfl)) (fun _ _ _ h => h) (Or.inl ⟨by rfl, ?_⟩) ?_ ?_
             rotate_left
             ·intro w'
              go_simp
              with_reducible rfl
             rotate_left
             ·simp only [Act.put, sb_, sz_, su_, i64_w, i32_w]
              rfl
             refine take_ (i := 7) (N := some 71) (v := ?_) (a' := ?_) #[true, true, true, true, true, true, true, true, false, false, false, false] rfl rfl (take_ofW HT_.out HW_.out (by kernel_rfl)) (fun _ _ _ h => h) (Or.inl ⟨by rfl, ?_⟩) hHeld ?_ ?_
             rotate_left
             ·rintro w' ⟨s0, s1, s2, s3, s4, s5, s6⟩
              go_simp
              with_reducible rfl
             rotate_left
             ·simp only [Act.put, sb_, sz_, su_, i64_w, i32_w]
              rfl
             refine take_ (i := 8) (N := some 72) (v := ?_) (a' := ?_) #[true, true, true, true, true, true, true, true, true, false, false, false] rfl rfl (take_ofW HT_.out HW_.out (by kernel_rfl)) (fun _ _ _ h => h) (Or.inl ⟨by rfl, ?_⟩) hHeld ?_ ?_
             rotate_left
             ·rintro w' ⟨s0, s1, s2, s3, s4, s5, s6⟩
              go_simp
              with_reducible rfl
             rotate_left
             ·simp only [Act.put, sb_, sz_, su_, i64_w, i32_w]
              rfl
             refine one_ (i := 9) (N := some 73) #[true, true, true, true, true, true, true, true, true, true, false, false] rfl rfl (one_of HT_.out (by kernel_rfl)) (by decide) (fun K hK => ?_)
             refine goes_ Try.func15 (by kernel_rfl) rfl #[.agg #[.int .i64 a0_0, .int .i64 a0_1, .int .i64 a0_2, .int .i64 a0_3, .int .i64 a0_4, .int .i64 a0_5, .int .i64 a0_6]] (by rfl) rfl rfl (by (try simp only [List.map_toArray, List.map_cons, List.map_nil]); first | done | rfl | (simp only [List.length_drop, List.length_take]; rfl)) ?_
             with_reducible refine (page_Erased.calls k4 a0_0 a0_1 a0_2 a0_3 a0_4 a0_5 a0_6 t417 _ A45.out).mono ?_
             rintro e w63 ⟨v418, rfl, ho0, hb⟩
             refine ⟨_, rfl, ?_⟩
             have n0_ := ak_ (Kd.R_below (by (with_reducible repeat (first | apply Kd.R_alloc | apply Kd.R_drewN | apply Kd.R_drew)); exact HO_7.out) hb)
             have n1_ := ak_ (Kd.R_elder' (by (with_reducible repeat (first | apply Kd.R_alloc | apply Kd.R_drewN | apply Kd.R_drew)); exact HO403.out) (Kd.R_base ho0) hb)
             have n2_ := ak_ (Kd.R_elder' (by (with_reducible repeat (first | apply Kd.R_alloc | apply Kd.R_drewN | apply Kd.R_drew)); exact HO406.out) (Kd.R_base ho0) hb)
             have n3_ := ak_ (Kd.R_elder' (by (with_reducible repeat (first | apply Kd.R_alloc | apply Kd.R_drewN | apply Kd.R_drew)); exact HO409.out) (Kd.R_base ho0) hb)
             have n4_ := ak_ (Kd.R_lower (Kd.R_new' (Kd.R_new' (Kd.R_new' ho0 (Kd.R_lt (by (with_reducible repeat (first | apply Kd.R_alloc | apply Kd.R_drewN | apply Kd.R_drew)); exact HO403.out))) (Kd.R_lt (by (with_reducible repeat (first | apply Kd.R_alloc | apply Kd.R_drewN | apply Kd.R_drew)); exact HO406.out))) (Kd.R_lt (by (with_reducible repeat (first | apply Kd.R_alloc | apply Kd.R_drewN | apply Kd.R_drew)); exact HO409.out))) (below_size (by repeat (first | (with_reducible first | exact HB.out | apply below_alloc | apply pw_below_drewN | apply below_drew1 | refine below_set ?_ GE391.out | refine below_set ?_ GE392.out | refine below_set ?_ GE416.out) | exact HB.out))))
             have n5_ := ak_ (blk_below (g := gb391) (o := .cells #[.int .i64 a0_0, .int .i64 a0_1, .int .i64 a0_2, .int .i64 a0_3, .int .i64 a0_4, .int .i64 a0_5, .int .i64 a0_6] 23 (0, 0)) (by (with_reducible repeat (first | apply blk_drewN | apply blk_drew | apply blk_alloc)); exact BK391.out) hb)
             have n6_ := ak_ (blk_below (g := gb392) (o := .cells #[.slice A1_0 l1_0.length c1_0, .int .i64 a1_1, .int .i64 a1_2, .int .i64 a1_3, .int .i64 a1_4] 57 (0, 0)) (by (with_reducible repeat (first | apply blk_drewN | apply blk_drew | apply blk_alloc)); exact BK392.out) hb)
             have n7_ := ak_ (blk_below (g := gb416) (o := .cells #[.int .i64 t410, .int .i64 t411, .int .i64 t412, .int .i64 t413] 26 (0, 0)) (by (with_reducible repeat (first | apply blk_drewN | apply blk_drew | apply blk_alloc)); exact BK416.out) hb)
             have n8_ := ak_ (below_step (by repeat (first | (with_reducible first | exact HB.out | apply below_alloc | apply pw_below_drewN | apply below_drew1 | refine below_set ?_ GE391.out | refine below_set ?_ GE392.out | refine below_set ?_ GE416.out) | exact HB.out)) hb)
             clear HO_7
             clear HO403
             clear HO406
             clear HO409
             clear BK391
             clear BK392
             clear BK416
             clear HB
             have HO_7 := n0_
             have HO403 := n1_
             have HO406 := n2_
             have HO409 := n3_
             have HO419 := n4_
             have BK391 := n5_
             have BK392 := n6_
             have BK416 := n7_
             have HB := n8_
             clear n0_ n1_ n2_ n3_ n4_ n5_ n6_ n7_ n8_
             (try clear hb)
             (try clear hb2)
             (try clear hk)
             (try clear hi)
             (try clear ho0)
             obtain ⟨Ao64, co64, eo64⟩ := Kd.R_slice HO419.out
             (first | subst eo64 | (injection eo64 with f1_ f2_ f3_; have f4_ := f1_.symm; have f5_ := f3_.symm; clear f1_ f2_ f3_; subst f4_; subst f5_))
             refine hK.out _ _ ⟨(bc_ BK391.out 0).trans rfl, (bc_ BK391.out 1).trans rfl, (bc_ BK391.out 2).trans rfl, (bc_ BK391.out 3).trans rfl, (bc_ BK391.out 4).trans rfl, (bc_ BK391.out 5).trans rfl, (bc_ BK391.out 6).trans rfl⟩ (fun hHeld => ?_)
             clear hK K
             refine norm_ (a' := ?_) ?_ ?_
             rotate_left
             ·show Act.put _ (some 73) _ = _
              simp only [Act.put, sb_, sz_, su_, i64_w, i32_w]
              rfl
             refine one_ (i := 10) (N := some 74) #[true, true, true, true, true, true, true, true, true, true, true, false] rfl rfl (one_of HT_.out (by kernel_rfl)) (by decide) (fun K hK => ?_)
             refine goes_ Try.func31 (by kernel_rfl) rfl #[.agg #[.int .i64 a0_0, .int .i64 a0_1, .int .i64 a0_2, .int .i64 a0_3, .int .i64 a0_4, .int .i64 a0_5, .int .i64 a0_6], .slice Ao64 t417.length co64] (by rfl) rfl rfl (by (try simp only [List.map_toArray, List.map_cons, List.map_nil]); first | done | rfl | (simp only [List.length_drop, List.length_take]; rfl)) ?_
             with_reducible refine (page_Marked.calls k4 a0_0 a0_1 a0_2 a0_3 a0_4 a0_5 a0_6 _ _ t417 t420 _ ?side1 ?side2 A46.out).mono ?_
             (case side1 => repeat (first | exact (Kd.R_reads' HO419.out).2.2 | (with_reducible refine Kd.C_alloc ?_ _) | (with_reducible refine Kd.C_drewN ?_ _) | (with_reducible refine Kd.C_drew ?_)))
             (case side2 => exact (Kd.R_reads' HO419.out).2.1)
             rintro e w65 ⟨rfl, hb⟩
             refine ⟨_, rfl, ?_⟩
             have n0_ := ak_ (Kd.R_below (by (with_reducible repeat (first | apply Kd.R_alloc | apply Kd.R_drewN | apply Kd.R_drew)); exact HO_7.out) hb)
             have n1_ := ak_ (Kd.R_below (by (with_reducible repeat (first | apply Kd.R_alloc | apply Kd.R_drewN | apply Kd.R_drew)); exact HO403.out) hb)
             have n2_ := ak_ (Kd.R_below (by (with_reducible repeat (first | apply Kd.R_alloc | apply Kd.R_drewN | apply Kd.R_drew)); exact HO406.out) hb)
             have n3_ := ak_ (Kd.R_below (by (with_reducible repeat (first | apply Kd.R_alloc | apply Kd.R_drewN | apply Kd.R_drew)); exact HO409.out) hb)
             have n4_ := ak_ (Kd.R_below (by (with_reducible repeat (first | apply Kd.R_alloc | apply Kd.R_drewN | apply Kd.R_drew)); exact HO419.out) hb)
             have n5_ := ak_ (blk_below (g := gb391) (o := .cells #[.int .i64 a0_0, .int .i64 a0_1, .int .i64 a0_2, .int .i64 a0_3, .int .i64 a0_4, .int .i64 a0_5, .int .i64 a0_6] 23 (0, 0)) (by (with_reducible repeat (first | apply blk_drewN | apply blk_drew | apply blk_alloc)); exact BK391.out) hb)
             have n6_ := ak_ (blk_below (g := gb392) (o := .cells #[.slice A1_0 l1_0.length c1_0, .int .i64 a1_1, .int .i64 a1_2, .int .i64 a1_3, .int .i64 a1_4] 57 (0, 0)) (by (with_reducible repeat (first | apply blk_drewN | apply blk_drew | apply blk_alloc)); exact BK392.out) hb)
             have n7_ := ak_ (blk_below (g := gb416) (o := .cells #[.int .i64 t410, .int .i64 t411, .int .i64 t412, .int .i64 t413] 26 (0, 0)) (by (with_reducible repeat (first | apply blk_drewN | apply blk_drew | apply blk_alloc)); exact BK416.out) hb)
             have n8_ := ak_ (below_step (by repeat (first | (with_reducible first | exact HB.out | apply below_alloc | apply pw_below_drewN | apply below_drew1 | refine below_set ?_ GE391.out | refine below_set ?_ GE392.out | refine below_set ?_ GE416.out) | exact HB.out)) hb)
             clear HO_7
             clear HO403
             clear HO406
             clear HO409
             clear HO419
             clear BK391
             clear BK392
             clear BK416
             clear HB
             have HO_7 := n0_
             have HO403 := n1_
             have HO406 := n2_
             have HO409 := n3_
             have HO419 := n4_
             have BK391 := n5_
             have BK392 := n6_
             have BK416 := n7_
             have HB := n8_
             clear n0_ n1_ n2_ n3_ n4_ n5_ n6_ n7_ n8_
             (try clear hb)
             (try clear hb2)
             (try clear hk)
             (try clear hi)
             refine hK.out _ _ ⟨(bc_ BK391.out 0).trans rfl, (bc_ BK391.out 1).trans rfl, (bc_ BK391.out 2).trans rfl, (bc_ BK391.out 3).trans rfl, (bc_ BK391.out 4).trans rfl, (bc_ BK391.out 5).trans rfl, (bc_ BK391.out 6).trans rfl⟩ (fun hHeld => ?_)
             clear hK K
             refine norm_ (a' := ?_) ?_ ?_
             rotate_left
             ·show Act.put _ (some 74) _ = _
              simp only [Act.put, sb_, sz_, su_, i64_w, i32_w]
              rfl
             refine pure_ (i := 11) (N := some 75) (v := ?_) (a' := ?_) #[true, true, true, true, true, true, true, true, true, true, true, true] rfl rfl (any_of HT_.out (by kernel_rfl)) (fun _ _ _ h => h) (Or.inl ⟨by rfl, ?_⟩) ?_ ?_
             rotate_left
             ·intro w'
              go_simp
              with_reducible rfl
             rotate_left
             ·simp only [Act.put, sb_, sz_, su_, i64_w, i32_w]
              rfl
             refine done_ (done_of HT_.out (by kernel_rfl)) ?_
             go_upto_if 75 with (fail)
             go_cut [] (fun wc => ∃ (kq : Nat), Aside0 (l08_PageEmpty.j5 kq x7_4 a0_0 a0_1 a0_2 a0_3 a0_4 a0_5 a0_6 l1_0 a1_1 a1_2 a1_3 a1_4 = some r) ∧ Aside0 (kq ≤ k4) ∧ Aside0 (Kd.R (Kd.int .i64) 3 wc w.heap.size (fun _ => True) (.slice Ao48 x7_4.length co48) x7_4) ∧ Aside0 (wc.heap[gb391]? = some (.cells #[.int .i64 a0_0, .int .i64 a0_1, .int .i64 a0_2, .int .i64 a0_3, .int .i64 a0_4, .int .i64 a0_5, .int .i64 a0_6] 23 (0, 0))) ∧ Aside0 (wc.heap[gb392]? = some (.cells #[(.slice A1_0 l1_0.length c1_0), .int .i64 a1_1, .int .i64 a1_2, .int .i64 a1_3, .int .i64 a1_4] 57 (0, 0))) ∧ Aside0 (wc.heap[gb416]? = some (.cells #[.int .i64 t410, .int .i64 t411, .int .i64 t412, .int .i64 t413] 26 (0, 0))) ∧ Aside0 (Below w.heap.size w wc))
             case first =>
              have H := HC47.out
              clear HC47
              by_cases c66 : t420 = true
              ·subst c66
               have H1 : (none) = some r := by rw [if_pos rfl] at H; exact H
               clear H
               have H := H1
               clear H1
               exact absurd H (by simp)
              ·replace c66 := Bool.eq_false_iff.mpr c66
               subst c66
               have H1 : (l08_PageEmpty.j5 k4 x7_4 a0_0 a0_1 a0_2 a0_3 a0_4 a0_5 a0_6 l1_0 a1_1 a1_2 a1_3 a1_4) = some r := by rw [if_neg (show ¬ (false = true) by decide)] at H; exact H
               clear H
               have H := H1
               clear H1
               have H' := ak_ H
               clear H
               go_wp2
               go_meet
               case rel => exact ⟨_, H', ⟨by have := HJ4.out; have := HJ9.out; have := HJ35.out; have := HK4.out; first | omega | exact Nat.le_refl _⟩, ⟨by (with_reducible repeat (first | apply Kd.R_alloc | apply Kd.R_drewN | apply Kd.R_drew)); exact HO_7.out⟩, ⟨by (with_reducible repeat (first | apply blk_drewN | apply blk_drew | apply blk_alloc)); exact BK391.out⟩, ⟨by (with_reducible repeat (first | apply blk_drewN | apply blk_drew | apply blk_alloc)); exact BK392.out⟩, ⟨by (with_reducible repeat (first | apply blk_drewN | apply blk_drew | apply blk_alloc)); exact BK416.out⟩, ⟨by repeat (first | (with_reducible first | exact HB.out | apply below_alloc | apply pw_below_drewN | apply below_drew1 | refine below_set ?_ GE391.out | refine below_set ?_ GE392.out | refine below_set ?_ GE416.out) | exact HB.out)⟩⟩
             case rest =>
              clear HC47
              try clear c1
              try clear p2
              try clear c3
              try clear c6
              try clear c15
              try clear c30
              try clear c31
              try clear c34
              try clear c66
              obtain ⟨kq, HA, HJ46, HO_7, BK391, BK392, BK416, HB⟩ := hcut
              cases kq with
              | zero => exact absurd HA.out (by simp [l08_PageEmpty.j5])
              | succ kj46 =>
               have H := HA.out
               clear HA
               simp only [l08_PageEmpty.j5] at H
               replace H := Option.bind_eq_some_iff.mp H
               obtain ⟨⟨t421, t424⟩, A670, H⟩ := H
               replace H : (if t424 = 0 then (l08_PageEmpty.j6 kj46 x7_4 t421 a0_0 a0_1 a0_2 a0_3 a0_4 a0_5 a0_6) else (some ((t421.length : Int) == 0))) = some r := H
               have A67 := ak_ A670
               clear A670
               have HC68 := ak_ H
               clear H
               have hnb69 := NB391_392.out
               have hnc69 := NB392_391.out
               have hnb70 := NB391_416.out
               have hnc70 := NB416_391.out
               have hcz71_0 : wc.cell? ⟨gb391, 0, none⟩ = some (.int .i64 a0_0) := (bc_ BK391.out 0).trans rfl
               have hcz71_1 : wc.cell? ⟨gb391, 1, none⟩ = some (.int .i64 a0_1) := (bc_ BK391.out 1).trans rfl
               have hcz71_2 : wc.cell? ⟨gb391, 2, none⟩ = some (.int .i64 a0_2) := (bc_ BK391.out 2).trans rfl
               have hcz71_3 : wc.cell? ⟨gb391, 3, none⟩ = some (.int .i64 a0_3) := (bc_ BK391.out 3).trans rfl
               have hcz71_4 : wc.cell? ⟨gb391, 4, none⟩ = some (.int .i64 a0_4) := (bc_ BK391.out 4).trans rfl
               have hcz71_5 : wc.cell? ⟨gb391, 5, none⟩ = some (.int .i64 a0_5) := (bc_ BK391.out 5).trans rfl
               have hcz71_6 : wc.cell? ⟨gb391, 6, none⟩ = some (.int .i64 a0_6) := (bc_ BK391.out 6).trans rfl
               have hfz71_0 := bf_ BK391.out 0
               have hfz71_1 := bf_ BK391.out 1
               have hfz71_2 := bf_ BK391.out 2
               have hfz71_3 := bf_ BK391.out 3
               have hfz71_4 := bf_ BK391.out 4
               have hfz71_5 := bf_ BK391.out 5
               have hfz71_6 := bf_ BK391.out 6
               have hnb72 := NB392_416.out
               have hnc72 := NB416_392.out
               have hcz73_0 : wc.cell? ⟨gb392, 0, none⟩ = some (.slice A1_0 l1_0.length c1_0) := (bc_ BK392.out 0).trans rfl
               have hcz73_1 : wc.cell? ⟨gb392, 1, none⟩ = some (.int .i64 a1_1) := (bc_ BK392.out 1).trans rfl
               have hcz73_2 : wc.cell? ⟨gb392, 2, none⟩ = some (.int .i64 a1_2) := (bc_ BK392.out 2).trans rfl
               have hcz73_3 : wc.cell? ⟨gb392, 3, none⟩ = some (.int .i64 a1_3) := (bc_ BK392.out 3).trans rfl
               have hcz73_4 : wc.cell? ⟨gb392, 4, none⟩ = some (.int .i64 a1_4) := (bc_ BK392.out 4).trans rfl
               have hfz73_0 := bf_ BK392.out 0
               have hfz73_1 := bf_ BK392.out 1
               have hfz73_2 := bf_ BK392.out 2
               have hfz73_3 := bf_ BK392.out 3
               have hfz73_4 := bf_ BK392.out 4
               go_upto_if 86 with (first | ((with_reducible refine gate_callee (f := 14) rfl ?_); refine goesL_ (some 82) rfl rfl Try.func14 (by kernel_rfl) rfl #[.agg #[.int .i64 a0_0, .int .i64 a0_1, .int .i64 a0_2, .int .i64 a0_3, .int .i64 a0_4, .int .i64 a0_5, .int .i64 a0_6], .slice A1_0 l1_0.length c1_0, .agg #[.int .i64 a1_1, .int .i64 a1_2, .int .i64 a1_3, .int .i64 a1_4]] rfl (by (try simp only [List.map_toArray, List.map_cons, List.map_nil]); first | done | rfl | (simp only [List.length_drop, List.length_take]; rfl)) ?_; (with_reducible refine (page_Encode.calls kj46 a0_0 a0_1 a0_2 a0_3 a0_4 a0_5 a0_6 (fun k_ => k_ < w.heap.size) _ _ l1_0 a1_1 a1_2 a1_3 a1_4 t421 t424 _ ?side1 A67.out).mono ?_); (case side1 => exact Kd.V_mk HC1_0.out (Kd.F_below (Kd.C_F (Kd.heap_int .u8) HR1_0.out) (by repeat (first | (with_reducible first | exact HB.out | apply below_alloc | apply pw_below_drewN | apply below_drew1 | refine below_set ?_ GE391.out | refine below_set ?_ GE392.out | refine below_set ?_ GE416.out) | exact HB.out)))); rintro e w74 ⟨v422, rfl, ho0, hb⟩; refine ⟨_, rfl, ?_⟩; have n0_ := ak_ (Kd.R_below (by (with_reducible repeat (first | apply Kd.R_alloc | apply Kd.R_drewN | apply Kd.R_drew)); exact HO_7.out) hb); have n1_ := ak_ (Kd.R_lower (Kd.R_mono (ok' := fun k_ => True) ho0 (fun _ hk_ => trivial)) (below_size (by repeat (first | (with_reducible first | exact HB.out | apply below_alloc | apply pw_below_drewN | apply below_drew1 | refine below_set ?_ GE391.out | refine below_set ?_ GE392.out | refine below_set ?_ GE416.out) | exact HB.out)))); have n2_ := ak_ (blk_below (g := gb391) (o := .cells #[.int .i64 a0_0, .int .i64 a0_1, .int .i64 a0_2, .int .i64 a0_3, .int .i64 a0_4, .int .i64 a0_5, .int .i64 a0_6] 23 (0, 0)) (by (with_reducible repeat (first | apply blk_drewN | apply blk_drew | apply blk_alloc)); exact BK391.out) hb); have n3_ := ak_ (blk_below (g := gb392) (o := .cells #[.slice A1_0 l1_0.length c1_0, .int .i64 a1_1, .int .i64 a1_2, .int .i64 a1_3, .int .i64 a1_4] 57 (0, 0)) (by (with_reducible repeat (first | apply blk_drewN | apply blk_drew | apply blk_alloc)); exact BK392.out) hb); have n4_ := ak_ (blk_below (g := gb416) (o := .cells #[.int .i64 t410, .int .i64 t411, .int .i64 t412, .int .i64 t413] 26 (0, 0)) (by (with_reducible repeat (first | apply blk_drewN | apply blk_drew | apply blk_alloc)); exact BK416.out) hb); have n5_ := ak_ (below_step (by repeat (first | (with_reducible first | exact HB.out | apply below_alloc | apply pw_below_drewN | apply below_drew1 | refine below_set ?_ GE391.out | refine below_set ?_ GE392.out | refine below_set ?_ GE416.out) | exact HB.out)) hb); clear HO_7; clear BK391; clear BK392; clear BK416; clear HB; have HO_7 := n0_; have HO423 := n1_; have BK391 := n2_; have BK392 := n3_; have BK416 := n4_; have HB := n5_; clear n0_ n1_ n2_ n3_ n4_ n5_; (try clear hb); (try clear hb2); (try clear hk); (try clear hi); (try clear ho0)))
               (try simp only [Act.put, sb_, sz_, su_])
               go_cut [] (fun wc => ∃ (kq : Nat), Aside0 (l08_PageEmpty.j6 kq x7_4 t421 a0_0 a0_1 a0_2 a0_3 a0_4 a0_5 a0_6 = some r) ∧ Aside0 (kq ≤ kj46) ∧ Aside0 (Kd.R (Kd.int .i64) 3 wc w.heap.size (fun _ => True) (.slice Ao48 x7_4.length co48) x7_4) ∧ Aside0 (Kd.R (Kd.int .u8) 5 wc w.heap.size (fun _ => True) v422 t421) ∧ Aside0 (wc.heap[gb391]? = some (.cells #[.int .i64 a0_0, .int .i64 a0_1, .int .i64 a0_2, .int .i64 a0_3, .int .i64 a0_4, .int .i64 a0_5, .int .i64 a0_6] 23 (0, 0))) ∧ Aside0 (wc.heap[gb392]? = some (.cells #[(.slice A1_0 l1_0.length c1_0), .int .i64 a1_1, .int .i64 a1_2, .int .i64 a1_3, .int .i64 a1_4] 57 (0, 0))) ∧ Aside0 (wc.heap[gb416]? = some (.cells #[.int .i64 t410, .int .i64 t411, .int .i64 t412, .int .i64 t413] 26 (0, 0))) ∧ Aside0 (Below w.heap.size w wc))
               case first =>
                have H := HC68.out
                clear HC68
                by_cases c75 : t424 = 0
                ·rw [if_pos c75] at H
                 have c75b0 : (t424 == 0) = true := beq_iff_eq.mpr c75
                 have c75b1 : (t424 != 0) = false := bne_eq_false_iff_eq.mpr c75
                 clear c75
                 (first | rw [c75b0] | (simp only [i64_w, i32_w]; rw [c75b0]) | skip)
                 have H' := ak_ H
                 clear H
                 go_wp2
                 go_meet
                 case rel => exact ⟨_, H', ⟨by have := HJ4.out; have := HJ9.out; have := HJ35.out; have := HK4.out; have := HJ46.out; first | omega | exact Nat.le_refl _⟩, ⟨by (with_reducible repeat (first | apply Kd.R_alloc | apply Kd.R_drewN | apply Kd.R_drew)); exact HO_7.out⟩, ⟨by (with_reducible repeat (first | apply Kd.R_alloc | apply Kd.R_drewN | apply Kd.R_drew)); exact HO423.out⟩, ⟨by (with_reducible repeat (first | apply blk_drewN | apply blk_drew | apply blk_alloc)); exact BK391.out⟩, ⟨by (with_reducible repeat (first | apply blk_drewN | apply blk_drew | apply blk_alloc)); exact BK392.out⟩, ⟨by (with_reducible repeat (first | apply blk_drewN | apply blk_drew | apply blk_alloc)); exact BK416.out⟩, ⟨by repeat (first | (with_reducible first | exact HB.out | apply below_alloc | apply pw_below_drewN | apply below_drew1 | refine below_set ?_ GE391.out | refine below_set ?_ GE392.out | refine below_set ?_ GE416.out) | exact HB.out)⟩⟩
                ·rw [if_neg c75] at H
                 have c75b0 : (t424 == 0) = false := beq_eq_false_iff_ne.mpr c75
                 have c75b1 : (t424 != 0) = true := bne_iff_ne.mpr c75
                 (first | rw [c75b0] | (simp only [i64_w, i32_w]; rw [c75b0]) | skip)
                 obtain rfl := si_ H
                 obtain ⟨Ao76, co76, eo76⟩ := Kd.R_slice HO423.out
                 subst eo76
                 go_wp2
                 go_ret
                 exact ⟨by first | rfl | (simp [errW_none, errW_some] <;> rfl) | (simp [*, errW_none, errW_some] <;> rfl) | (have hz_ : ∀ z : Int, -9223372036854775808 ≤ z → z ≤ 9223372036854775807 → wrap64 z = z := (fun z h1_ h2_ => by unfold wrap64; omega); rw [hz_] <;> first | rfl | omega), by repeat (first | (with_reducible first | exact HB.out | apply below_alloc | apply pw_below_drewN | apply below_drew1 | refine below_set ?_ GE391.out | refine below_set ?_ GE392.out | refine below_set ?_ GE416.out) | exact HB.out)⟩
               case rest =>
                clear HC68
                try clear c1
                try clear p2
                try clear c3
                try clear c6
                try clear c7
                try clear c14
                try clear c15
                try clear c30
                try clear c31
                try clear c34
                try clear c66
                try clear c69
                try clear c70
                try clear c72
                try clear c75
                try clear c75b0
                try clear c75b1
                try clear hcz71_0
                try clear hcz71_1
                try clear hcz71_2
                try clear hcz71_3
                try clear hcz71_4
                try clear hcz71_5
                try clear hcz71_6
                try clear hcz73_0
                try clear hcz73_1
                try clear hcz73_2
                try clear hcz73_3
                try clear hcz73_4
                try clear hfz71_0
                try clear hfz71_1
                try clear hfz71_2
                try clear hfz71_3
                try clear hfz71_4
                try clear hfz71_5
                try clear hfz71_6
                try clear hfz73_0
                try clear hfz73_1
                try clear hfz73_2
                try clear hfz73_3
                try clear hfz73_4
                try clear p2
                obtain ⟨kq, HA, HJ67, HO_7, HO_14, BK391, BK392, BK416, HB⟩ := hcut
                cases kq with
                | zero => exact absurd HA.out (by simp [l08_PageEmpty.j6])
                | succ kj67 =>
                 have H := HA.out
                 clear HA
                 simp only [l08_PageEmpty.j6] at H
                 replace H := Option.bind_eq_some_iff.mp H
                 obtain ⟨t425, A770, H⟩ := H
                 replace H : ((page_Decode.f kj67 a0_0 a0_1 a0_2 a0_3 a0_4 a0_5 a0_6 t425).bind fun bt428 => (some (bt428.2.2.2.2.2.1 != 2))) = some r := H
                 have A77 := ak_ A770
                 clear A770
                 replace H := Option.bind_eq_some_iff.mp H
                 obtain ⟨⟨t428, t431, t432, t433, t434, t435, t436⟩, A780, H⟩ := H
                 replace H : (some (t435 != 2)) = some r := H
                 have A78 := ak_ A780
                 clear A780
                 obtain rfl := si_ H
                 try go_wp2
                 have n0_ := ak_ (Kd.R_drew HO_7.out)
                 have n1_ := ak_ (Kd.R_drew HO_14.out)
                 have n2_ := ak_ (blk_drew BK391.out)
                 have n3_ := ak_ (blk_drew BK392.out)
                 have n4_ := ak_ (blk_drew BK416.out)
                 have n5_ := ak_ (below_drew1 HB.out)
                 clear HO_7
                 clear HO_14
                 clear BK391
                 clear BK392
                 clear BK416
                 clear HB
                 have HO_7 := n0_
                 have HO_14 := n1_
                 have BK391 := n2_
                 have BK392 := n3_
                 have BK416 := n4_
                 have HB := n5_
                 clear n0_ n1_ n2_ n3_ n4_ n5_
                 obtain ⟨Ao80, co80, eo80⟩ := Kd.R_slice HO_14.out
                 (first | subst eo80 | (injection eo80 with f1_ f2_ f3_; have f4_ := f1_.symm; have f5_ := f3_.symm; clear f1_ f2_ f3_; subst f4_; subst f5_))
                 refine start_ (n := 11) (S := fun w' => w'.cell? ⟨gb391, 0, none⟩ = some (.int .i64 a0_0) ∧ w'.cell? ⟨gb391, 1, none⟩ = some (.int .i64 a0_1) ∧ w'.cell? ⟨gb391, 2, none⟩ = some (.int .i64 a0_2) ∧ w'.cell? ⟨gb391, 3, none⟩ = some (.int .i64 a0_3) ∧ w'.cell? ⟨gb391, 4, none⟩ = some (.int .i64 a0_4) ∧ w'.cell? ⟨gb391, 5, none⟩ = some (.int .i64 a0_5) ∧ w'.cell? ⟨gb391, 6, none⟩ = some (.int .i64 a0_6)) (ds := []) #[false, false, false, false, false, false, false, false, false, false, false] (by kernel_rfl) rfl rfl ⟨(bc_ BK391.out 0).trans rfl, (bc_ BK391.out 1).trans rfl, (bc_ BK391.out 2).trans rfl, (bc_ BK391.out 3).trans rfl, (bc_ BK391.out 4).trans rfl, (bc_ BK391.out 5).trans rfl, (bc_ BK391.out 6).trans rfl⟩ (fun hHeld => ?_); refine with_tabW l08_PageEmpty.tab17 l08_PageEmpty.bits17 (fun HT_ HW_ => ?_)
                 generalize wc.drew = w79 at HO_7 HO_14 BK391 BK392 BK416 HB hHeld ⊢
                 refine pure_ (i := 1) (N := some 92) (v := ?_) (a' := ?_) #[false, true, false, false, false, false, false, false, false, false, false] rfl rfl (any_of HT_.out (by kernel_rfl)) (fun _ _ _ h => h) (Or.inl ⟨by rfl, ?_⟩) ?_ ?_
                 rotate_left
                 ·intro w'
                  go_simp
                  with_reducible rfl
                 rotate_left
                 ·simp only [Act.put, sb_, sz_, su_, i64_w, i32_w]
                  rfl
                 refine pure_ (i := 2) (N := some 93) (v := ?_) (a' := ?_) #[false, true, true, false, false, false, false, false, false, false, false] rfl rfl (any_of HT_.out (by kernel_rfl)) (fun _ _ _ h => h) (Or.inl ⟨by rfl, ?_⟩) ?_ ?_
                 rotate_left
                 ·intro w'
                  go_simp
                  with_reducible rfl
                 rotate_left
                 ·simp only [Act.put, sb_, sz_, su_, i64_w, i32_w]
                  rfl
                 refine take_ (i := 0) (N := some 91) (v := ?_) (a' := ?_) #[true, true, true, false, false, false, false, false, false, false, false] rfl rfl (take_ofW HT_.out HW_.out (by kernel_rfl)) (fun _ _ _ h => h) (Or.inl ⟨by rfl, ?_⟩) hHeld ?_ ?_
                 rotate_left
                 ·rintro w' ⟨s0, s1, s2, s3, s4, s5, s6⟩
                  go_simp
                  with_reducible rfl
                 rotate_left
                 ·simp only [Act.put, sb_, sz_, su_, i64_w, i32_w]
                  rfl
                 refine one_ (i := 3) (N := some 94) #[true, true, true, true, false, false, false, false, false, false, false] rfl rfl (one_of HT_.out (by kernel_rfl)) (by decide) (fun K hK => ?_)
                 refine goes_ Try.func34 (by kernel_rfl) rfl #[.slice Ao80 t421.length co80, .slice Ao48 x7_4.length co48] (by rfl) rfl rfl (by (try simp only [List.map_toArray, List.map_cons, List.map_nil]); first | done | rfl | (simp only [List.length_drop, List.length_take]; rfl)) ?_
                 with_reducible refine (bits_Flip.calls kj67 _ _ t421 _ _ x7_4 t425 _ ?side1 ?side2 ?side3 ?side4 A77.out).mono ?_
                 (case side1 => repeat (first | exact (Kd.R_reads' HO_14.out).2.2 | (with_reducible refine Kd.C_alloc ?_ _) | (with_reducible refine Kd.C_drewN ?_ _) | (with_reducible refine Kd.C_drew ?_)))
                 (case side2 => exact (Kd.R_reads' HO_14.out).2.1)
                 (case side3 => repeat (first | exact (Kd.R_reads' HO_7.out).2.2 | (with_reducible refine Kd.C_alloc ?_ _) | (with_reducible refine Kd.C_drewN ?_ _) | (with_reducible refine Kd.C_drew ?_)))
                 (case side4 => exact (Kd.R_reads' HO_7.out).2.1)
                 rintro e w81 ⟨v426, rfl, ho0, hb⟩
                 refine ⟨_, rfl, ?_⟩
                 have n0_ := ak_ (Kd.R_below (by (with_reducible repeat (first | apply Kd.R_alloc | apply Kd.R_drewN | apply Kd.R_drew)); exact HO_7.out) hb)
                 have n1_ := ak_ (Kd.R_elder' (by (with_reducible repeat (first | apply Kd.R_alloc | apply Kd.R_drewN | apply Kd.R_drew)); exact HO_14.out) (Kd.R_base ho0) hb)
                 have n2_ := ak_ (Kd.R_lower (Kd.R_new' ho0 (Kd.R_lt (by (with_reducible repeat (first | apply Kd.R_alloc | apply Kd.R_drewN | apply Kd.R_drew)); exact HO_14.out))) (below_size (by repeat (first | (with_reducible first | exact HB.out | apply below_alloc | apply pw_below_drewN | apply below_drew1 | refine below_set ?_ GE391.out | refine below_set ?_ GE392.out | refine below_set ?_ GE416.out) | exact HB.out))))
                 have n3_ := ak_ (blk_below (g := gb391) (o := .cells #[.int .i64 a0_0, .int .i64 a0_1, .int .i64 a0_2, .int .i64 a0_3, .int .i64 a0_4, .int .i64 a0_5, .int .i64 a0_6] 23 (0, 0)) (by (with_reducible repeat (first | apply blk_drewN | apply blk_drew | apply blk_alloc)); exact BK391.out) hb)
                 have n4_ := ak_ (blk_below (g := gb392) (o := .cells #[.slice A1_0 l1_0.length c1_0, .int .i64 a1_1, .int .i64 a1_2, .int .i64 a1_3, .int .i64 a1_4] 57 (0, 0)) (by (with_reducible repeat (first | apply blk_drewN | apply blk_drew | apply blk_alloc)); exact BK392.out) hb)
                 have n5_ := ak_ (blk_below (g := gb416) (o := .cells #[.int .i64 t410, .int .i64 t411, .int .i64 t412, .int .i64 t413] 26 (0, 0)) (by (with_reducible repeat (first | apply blk_drewN | apply blk_drew | apply blk_alloc)); exact BK416.out) hb)
                 have n6_ := ak_ (below_step (by repeat (first | (with_reducible first | exact HB.out | apply below_alloc | apply pw_below_drewN | apply below_drew1 | refine below_set ?_ GE391.out | refine below_set ?_ GE392.out | refine below_set ?_ GE416.out) | exact HB.out)) hb)
                 clear HO_7
                 clear HO_14
                 clear BK391
                 clear BK392
                 clear BK416
                 clear HB
                 have HO_7 := n0_
                 have HO_14 := n1_
                 have HO427 := n2_
                 have BK391 := n3_
                 have BK392 := n4_
                 have BK416 := n5_
                 have HB := n6_
                 clear n0_ n1_ n2_ n3_ n4_ n5_ n6_
                 (try clear hb)
                 (try clear hb2)
                 (try clear hk)
                 (try clear hi)
                 (try clear ho0)
                 obtain ⟨Ao82, co82, eo82⟩ := Kd.R_slice HO427.out
                 (first | subst eo82 | (injection eo82 with f1_ f2_ f3_; have f4_ := f1_.symm; have f5_ := f3_.symm; clear f1_ f2_ f3_; subst f4_; subst f5_))
                 refine hK.out _ _ ⟨(bc_ BK391.out 0).trans rfl, (bc_ BK391.out 1).trans rfl, (bc_ BK391.out 2).trans rfl, (bc_ BK391.out 3).trans rfl, (bc_ BK391.out 4).trans rfl, (bc_ BK391.out 5).trans rfl, (bc_ BK391.out 6).trans rfl⟩ (fun hHeld => ?_)
                 clear hK K
                 refine norm_ (a' := ?_) ?_ ?_
                 rotate_left
                 ·show Act.put _ (some 94) _ = _
                  simp only [Act.put, sb_, sz_, su_, i64_w, i32_w]
                  rfl
                 refine one_ (i := 4) (N := some 95) #[true, true, true, true, true, false, false, false, false, false, false] rfl rfl (one_of HT_.out (by kernel_rfl)) (by decide) (fun K hK => ?_)
                 refine goes_ Try.func30 (by kernel_rfl) rfl #[.agg #[.int .i64 a0_0, .int .i64 a0_1, .int .i64 a0_2, .int .i64 a0_3, .int .i64 a0_4, .int .i64 a0_5, .int .i64 a0_6], .slice Ao82 t425.length co82] (by rfl) rfl rfl (by (try simp only [List.map_toArray, List.map_cons, List.map_nil]); first | done | rfl | (simp only [List.length_drop, List.length_take]; rfl)) ?_
                 with_reducible refine (page_Decode.calls kj67 a0_0 a0_1 a0_2 a0_3 a0_4 a0_5 a0_6 _ _ t425 t428 t431 t432 t433 t434 t435 t436 _ ?side1 ?side2 A78.out).mono ?_
                 (case side1 => repeat (first | exact (Kd.R_reads' HO427.out).2.2 | (with_reducible refine Kd.C_alloc ?_ _) | (with_reducible refine Kd.C_drewN ?_ _) | (with_reducible refine Kd.C_drew ?_)))
                 (case side2 => exact (Kd.R_reads' HO427.out).2.1)
                 rintro e w83 ⟨v429, rfl, ho0, hb⟩
                 refine ⟨_, rfl, ?_⟩
                 have n0_ := ak_ (Kd.R_below (by (with_reducible repeat (first | apply Kd.R_alloc | apply Kd.R_drewN | apply Kd.R_drew)); exact HO_7.out) hb)
                 have n1_ := ak_ (Kd.R_elder' (by (with_reducible repeat (first | apply Kd.R_alloc | apply Kd.R_drewN | apply Kd.R_drew)); exact HO_14.out) (Kd.R_base ho0) hb)
                 have n2_ := ak_ (Kd.R_elder' (by (with_reducible repeat (first | apply Kd.R_alloc | apply Kd.R_drewN | apply Kd.R_drew)); exact HO427.out) (Kd.R_base ho0) hb)
                 have n3_ := ak_ (Kd.R_lower (Kd.R_new' (Kd.R_new' ho0 (Kd.R_lt (by (with_reducible repeat (first | apply Kd.R_alloc | apply Kd.R_drewN | apply Kd.R_drew)); exact HO_14.out))) (Kd.R_lt (by (with_reducible repeat (first | apply Kd.R_alloc | apply Kd.R_drewN | apply Kd.R_drew)); exact HO427.out))) (below_size (by repeat (first | (with_reducible first | exact HB.out | apply below_alloc | apply pw_below_drewN | apply below_drew1 | refine below_set ?_ GE391.out | refine below_set ?_ GE392.out | refine below_set ?_ GE416.out) | exact HB.out))))
                 have n4_ := ak_ (blk_below (g := gb391) (o := .cells #[.int .i64 a0_0, .int .i64 a0_1, .int .i64 a0_2, .int .i64 a0_3, .int .i64 a0_4, .int .i64 a0_5, .int .i64 a0_6] 23 (0, 0)) (by (with_reducible repeat (first | apply blk_drewN | apply blk_drew | apply blk_alloc)); exact BK391.out) hb)
                 have n5_ := ak_ (blk_below (g := gb392) (o := .cells #[.slice A1_0 l1_0.length c1_0, .int .i64 a1_1, .int .i64 a1_2, .int .i64 a1_3, .int .i64 a1_4] 57 (0, 0)) (by (with_reducible repeat (first | apply blk_drewN | apply blk_drew | apply blk_alloc)); exact BK392.out) hb)
                 have n6_ := ak_ (blk_below (g := gb416) (o := .cells #[.int .i64 t410, .int .i64 t411, .int .i64 t412, .int .i64 t413] 26 (0, 0)) (by (with_reducible repeat (first | apply blk_drewN | apply blk_drew | apply blk_alloc)); exact BK416.out) hb)
                 have n7_ := ak_ (below_step (by repeat (first | (with_reducible first | exact HB.out | apply below_alloc | apply pw_below_drewN | apply below_drew1 | refine below_set ?_ GE391.out | refine below_set ?_ GE392.out | refine below_set ?_ GE416.out) | exact HB.out)) hb)
                 clear HO_7
                 clear HO_14
                 clear HO427
                 clear BK391
                 clear BK392
                 clear BK416
                 clear HB
                 have HO_7 := n0_
                 have HO_14 := n1_
                 have HO427 := n2_
                 have HO430 := n3_
                 have BK391 := n4_
                 have BK392 := n5_
                 have BK416 := n6_
                 have HB := n7_
                 clear n0_ n1_ n2_ n3_ n4_ n5_ n6_ n7_
                 (try clear hb)
                 (try clear hb2)
                 (try clear hk)
                 (try clear hi)
                 (try clear ho0)
                 refine hK.out _ _ ⟨(bc_ BK391.out 0).trans rfl, (bc_ BK391.out 1).trans rfl, (bc_ BK391.out 2).trans rfl, (bc_ BK391.out 3).trans rfl, (bc_ BK391.out 4).trans rfl, (bc_ BK391.out 5).trans rfl, (bc_ BK391.out 6).trans rfl⟩ (fun hHeld => ?_)
                 clear hK K
                 refine norm_ (a' := ?_) ?_ ?_
                 rotate_left
                 ·show Act.put _ (some 95) _ = _
                  simp only [Act.put, sb_, sz_, su_, i64_w, i32_w]
                  rfl
                 refine pure_ (i := 5) (N := some 90) (v := ?_) (a' := ?_) #[true, true, true, true, true, true, false, false, false, false, false] rfl rfl (any_of HT_.out (by kernel_rfl)) (fun _ _ _ h => h) (Or.inl ⟨by rfl, ?_⟩) ?_ ?_
                 rotate_left
                 ·intro w'
                  go_simp
                  with_reducible rfl
                 rotate_left
                 ·simp only [Act.put, sb_, sz_, su_, i64_w, i32_w]
                  rfl
                 refine pure_ (i := 6) (N := some 96) (v := ?_) (a' := ?_) #[true, true, true, true, true, true, true, false, false, false, false] rfl rfl (any_of HT_.out (by kernel_rfl)) (fun _ _ _ h => h) (Or.inl ⟨by rfl, ?_⟩) ?_ ?_
                 rotate_left
                 ·intro w'
                  go_simp
                  with_reducible rfl
                 rotate_left
                 ·simp only [Act.put, sb_, sz_, su_, i64_w, i32_w]
                  rfl
                 refine pure_ (i := 7) (N := some 97) (v := ?_) (a' := ?_) #[true, true, true, true, true, true, true, true, false, false, false] rfl rfl (any_of HT_.out (by kernel_rfl)) (fun _ _ _ h => h) (Or.inl ⟨by rfl, ?_⟩) ?_ ?_
                 rotate_left
                 ·intro w'
                  go_simp
                  with_reducible rfl
                 rotate_left
                 ·simp only [Act.put, sb_, sz_, su_, i64_w, i32_w]
                  rfl
                 refine pure_ (i := 8) (N := some 98) (v := ?_) (a' := ?_) #[true, true, true, true, true, true, true, true, true, false, false] rfl rfl (any_of HT_.out (by kernel_rfl)) (fun _ _ _ h => h) (Or.inl ⟨by rfl, ?_⟩) ?_ ?_
                 rotate_left
                 ·intro w'
                  go_simp
                  with_reducible rfl
                 rotate_left
                 ·simp only [Act.put, sb_, sz_, su_, i64_w, i32_w]
                  rfl
                 refine pure_ (i := 9) (N := some 99) (v := ?_) (a' := ?_) #[true, true, true, true, true, true, true, true, true, true, false] rfl rfl (any_of HT_.out (by kernel_rfl)) (fun _ _ _ h => h) (Or.inl ⟨by rfl, ?_⟩) ?_ ?_
                 rotate_left
                 ·intro w'
                  go_simp
                  with_reducible rfl
                 rotate_left
                 ·simp only [Act.put, sb_, sz_, su_, i64_w, i32_w]
                  rfl
                 refine pure_ (i := 10) (N := some 12) (v := ?_) (a' := ?_) #[true, true, true, true, true, true, true, true, true, true, true] rfl rfl (any_of HT_.out (by kernel_rfl)) (fun _ _ _ h => h) (Or.inl ⟨by rfl, ?_⟩) ?_ ?_
                 rotate_left
                 ·intro w'
                  go_simp
                  with_reducible rfl
                 rotate_left
                 ·simp only [Act.put, sb_, sz_, su_, i64_w, i32_w]
                  rfl
                 refine done_ (done_of HT_.out (by kernel_rfl)) ?_
                 try go_wp2
                 go_ret
                 exact ⟨by first | rfl | (simp [errW_none, errW_some] <;> rfl) | (simp [*, errW_none, errW_some] <;> rfl) | (have hz_ : ∀ z : Int, -9223372036854775808 ≤ z → z ≤ 9223372036854775807 → wrap64 z = z := (fun z h1_ h2_ => by unfold wrap64; omega); rw [hz_] <;> first | rfl | omega), by repeat (first | (with_reducible first | exact HB.out | apply below_alloc | apply pw_below_drewN | apply below_drew1 | refine below_set ?_ GE391.out | refine below_set ?_ GE392.out | refine below_set ?_ GE416.out) | exact HB.out)⟩
            ·rw [if_neg c44] at H
             exact absurd H (by simp)
           ·rw [if_neg c43] at H
            exact absurd H (by simp)
         case rest =>
          clear HC38
          try clear c1
          try clear p2
          try clear c3
          try clear c4
          try clear c6
          try clear c7
          try clear c14
          try clear c15
          try clear c30
          try clear c31
          try clear c34
          try clear c43
          try clear c44
          try clear c66
          try clear c69
          try clear c70
          try clear c72
          try clear c75
          try clear c75b0
          try clear c75b1
          try clear hcz71_0
          try clear hcz71_1
          try clear hcz71_2
          try clear hcz71_3
          try clear hcz71_4
          try clear hcz71_5
          try clear hcz71_6
          try clear hcz73_0
          try clear hcz73_1
          try clear hcz73_2
          try clear hcz73_3
          try clear hcz73_4
          try clear hfz71_0
          try clear hfz71_1
          try clear hfz71_2
          try clear hfz71_3
          try clear hfz71_4
          try clear hfz71_5
          try clear hfz71_6
          try clear hfz73_0
          try clear hfz73_1
          try clear hfz73_2
          try clear hfz73_3
          try clear hfz73_4
          try clear p2
          obtain ⟨kq, HA, HJ37, HO_7, BK391, BK392, HB⟩ := hcut
          cases kq with
          | zero => exact absurd HA.out (by simp [l08_PageEmpty.j4])
          | succ kj37 =>
           have H := HA.out
           clear HA
           simp only [l08_PageEmpty.j4] at H
           by_cases c84 : 0 ≤ x39_4
           ·rw [if_pos c84] at H
            have c84b0 : decide (0 ≤ x39_4) = true := dt_ c84
            clear c84
            by_cases c85 : x39_4 < (l2.length : Int)
            ·rw [if_pos c85] at H
             have c85b0 : decide (x39_4 < (l2.length : Int)) = true := dt_ c85
             clear c85
             replace H := Option.bind_eq_some_iff.mp H
             obtain ⟨t397, A860, H⟩ := H
             replace H : (if (wrap64 (8 * t397)) = 0 then (none) else (if x7_4.length < 17592186044416 then (l08_PageEmpty.l0 kj37 (x7_4 ++ [Int.tmod (wrap64 (rd l2 x39_4)) (wrap64 (8 * t397))]) l2 (l2.length : Int) (wrap64 (x39_4 + 1)) a0_0 a0_1 a0_2 a0_3 a0_4 a0_5 a0_6 l1_0 a1_1 a1_2 a1_3 a1_4) else (none))) = some r := H
             have A86 := ak_ A860
             clear A860
             by_cases c87 : (wrap64 (8 * t397)) = 0
             ·rw [if_pos c87] at H
              exact absurd H (by simp)
             ·rw [if_neg c87] at H
              have c87b0 : ((wrap64 (8 * t397)) == 0) = false := beq_eq_false_iff_ne.mpr c87
              have c87b1 : ((wrap64 (8 * t397)) != 0) = true := bne_iff_ne.mpr c87
              by_cases c88 : x7_4.length < 17592186044416
              ·rw [if_pos c88] at H
               have LMc88 := ak_ c88
               clear c88
               obtain ⟨y398, hy398⟩ : ∃ y_ : List Int, y_ = (x7_4 ++ [Int.tmod (wrap64 (rd l2 x39_4)) (wrap64 (8 * t397))]) := ⟨_, rfl⟩
               replace H : (l08_PageEmpty.l0 kj37 y398 l2 (l2.length : Int) (wrap64 (x39_4 + 1)) a0_0 a0_1 a0_2 a0_3 a0_4 a0_5 a0_6 l1_0 a1_1 a1_2 a1_3 a1_4) = some r := by first | (rw [hy398]; with_reducible exact H) | (have H2_ := (Option.bind_some _ _).symm.trans H; rw [hy398]; with_reducible exact H2_) | (have H2_ := (Option.bind_some _ _).symm.trans H; with_reducible exact H2_) | with_reducible exact H | (rw [hy398]; exact H) | exact H
               have Ny398 := ak_ hy398
               clear hy398
               have H' := ak_ H
               clear H
               have p396 : 0 ≤ (x39_4 : Int) := of_decide_eq_true (by first | (with_reducible assumption) | assumption)
               have q396 : x39_4 < (l2.length : Int) := of_decide_eq_true (by first | (with_reducible assumption) | assumption)
               obtain ⟨ad396, e396, hx396_0⟩ := Kd.at_int HR2.out x39_4 p396 q396
               cases e396
               replace hx396_0 := (HB.out.cell (World.block_lt_of_cell? w _ hx396_0)).trans hx396_0
               replace p396 := eq_true p396
               replace q396 := eq_true q396
               have hnb89 := NB391_392.out
               have hnc89 := NB392_391.out
               have hcz90_0 : wc.cell? ⟨gb391, 0, none⟩ = some (.int .i64 a0_0) := (bc_ BK391.out 0).trans rfl
               have hcz90_1 : wc.cell? ⟨gb391, 1, none⟩ = some (.int .i64 a0_1) := (bc_ BK391.out 1).trans rfl
               have hcz90_2 : wc.cell? ⟨gb391, 2, none⟩ = some (.int .i64 a0_2) := (bc_ BK391.out 2).trans rfl
               have hcz90_3 : wc.cell? ⟨gb391, 3, none⟩ = some (.int .i64 a0_3) := (bc_ BK391.out 3).trans rfl
               have hcz90_4 : wc.cell? ⟨gb391, 4, none⟩ = some (.int .i64 a0_4) := (bc_ BK391.out 4).trans rfl
               have hcz90_5 : wc.cell? ⟨gb391, 5, none⟩ = some (.int .i64 a0_5) := (bc_ BK391.out 5).trans rfl
               have hcz90_6 : wc.cell? ⟨gb391, 6, none⟩ = some (.int .i64 a0_6) := (bc_ BK391.out 6).trans rfl
               have hfz90_0 := bf_ BK391.out 0
               have hfz90_1 := bf_ BK391.out 1
               have hfz90_2 := bf_ BK391.out 2
               have hfz90_3 := bf_ BK391.out 3
               have hfz90_4 := bf_ BK391.out 4
               have hfz90_5 := bf_ BK391.out 5
               have hfz90_6 := bf_ BK391.out 6
               go_wp2_with (first | ((with_reducible refine gate_callee (f := 16) rfl ?_); refine goesL_ (some 47) rfl rfl Try.func16 (by kernel_rfl) rfl #[.agg #[.int .i64 a0_0, .int .i64 a0_1, .int .i64 a0_2, .int .i64 a0_3, .int .i64 a0_4, .int .i64 a0_5, .int .i64 a0_6]] rfl (by (try simp only [List.map_toArray, List.map_cons, List.map_nil]); first | done | rfl | (simp only [List.length_drop, List.length_take]; rfl)) ?_; (with_reducible refine (geom_Raw.calls a0_0 a0_1 a0_2 a0_3 a0_4 a0_5 a0_6 t397 _ A86.out).mono ?_); rintro e w91 ⟨rfl, hb⟩; refine ⟨_, rfl, ?_⟩; have n0_ := ak_ (Kd.R_below (by (with_reducible repeat (first | apply Kd.R_alloc | apply Kd.R_drewN | apply Kd.R_drew)); exact HO_7.out) hb); have n1_ := ak_ (blk_below (g := gb391) (o := .cells #[.int .i64 a0_0, .int .i64 a0_1, .int .i64 a0_2, .int .i64 a0_3, .int .i64 a0_4, .int .i64 a0_5, .int .i64 a0_6] 23 (0, 0)) (by (with_reducible repeat (first | apply blk_drewN | apply blk_drew | apply blk_alloc)); exact BK391.out) hb); have n2_ := ak_ (blk_below (g := gb392) (o := .cells #[.slice A1_0 l1_0.length c1_0, .int .i64 a1_1, .int .i64 a1_2, .int .i64 a1_3, .int .i64 a1_4] 57 (0, 0)) (by (with_reducible repeat (first | apply blk_drewN | apply blk_drew | apply blk_alloc)); exact BK392.out) hb); have n3_ := ak_ (below_step (by repeat (first | (with_reducible first | exact HB.out | apply below_alloc | apply pw_below_drewN | apply below_drew1 | refine below_set ?_ GE391.out | refine below_set ?_ GE392.out) | exact HB.out)) hb); clear HO_7; clear BK391; clear BK392; clear HB; have HO_7 := n0_; have BK391 := n1_; have BK392 := n2_; have HB := n3_; clear n0_ n1_ n2_ n3_; (try clear hb); (try clear hb2); (try clear hk); (try clear hi)) | ((with_reducible refine gate_builtin (b := .append) (xs := #[.tmp 43, .tmp 50]) rfl ?_); (try (refine gate_guard (by rfl) ?_; dsimp only)); at_builtin; refine Kd.R_append (Kd.int .i64) (w0 := w) w.heap.size rfl (.tmp 43) (.tmp 50) 67 3 (.int .i64 0) 8 rfl Try.underlying67 info3 rfl (by decide) (by omega) u7 x7_4 (Int.tmod (wrap64 (rd l2 x39_4)) (wrap64 (8 * t397))) [.int .i64 (Int.tmod (wrap64 (rd l2 x39_4)) (wrap64 (8 * t397)))] (fun _ => True) (fun _ => False) rfl rfl ?aP (fun _ hk => hk.elim) ?aF ?aO ?aB ?aS ?aL ?_; (case aP => exact rfl); (case aB => exact (by repeat (first | (with_reducible first | exact HB.out | apply below_alloc | apply pw_below_drewN | apply below_drew1 | refine below_set ?_ GE391.out | refine below_set ?_ GE392.out) | exact HB.out))); (case aF => exact (fun _ _ => trivial)); (case aO => exact (by (with_reducible repeat (first | apply Kd.R_alloc | apply Kd.R_drewN | apply Kd.R_drew)); exact HO_7.out)); (case aS => exact (below_size (by repeat (first | (with_reducible first | exact HB.out | apply below_alloc | apply pw_below_drewN | apply below_drew1 | refine below_set ?_ GE391.out | refine below_set ?_ GE392.out) | exact HB.out)))); (case aL => have := LMc88.out; omega); intro v399 w92 ho hb hg hat; rw [← Ny398.out] at ho; have n0_ := ak_ (blk_grown (g := gb391) (o := .cells #[.int .i64 a0_0, .int .i64 a0_1, .int .i64 a0_2, .int .i64 a0_3, .int .i64 a0_4, .int .i64 a0_5, .int .i64 a0_6] 23 (0, 0)) (by (with_reducible repeat (first | apply blk_drewN | apply blk_drew | apply blk_alloc)); exact BK391.out) hg (Kd.R_ne HO_7.out BK391.out (by decide))); have n1_ := ak_ (blk_grown (g := gb392) (o := .cells #[.slice A1_0 l1_0.length c1_0, .int .i64 a1_1, .int .i64 a1_2, .int .i64 a1_3, .int .i64 a1_4] 57 (0, 0)) (by (with_reducible repeat (first | apply blk_drewN | apply blk_drew | apply blk_alloc)); exact BK392.out) hg (Kd.R_ne HO_7.out BK392.out (by decide))); have n2_ := ak_ (hb); have n3_ := ak_ (ho); clear BK391; clear BK392; clear HB; clear HO_7; have BK391 := n0_; have BK392 := n1_; have HB := n2_; have HO400 := n3_; clear n0_ n1_ n2_ n3_; clear ho hb hg hat))
               go_roundg kj37
               case measure => have := HJ4.out; have := HJ9.out; have := HJ35.out; have := HK4.out; have := HJ37.out; omega
               case rel => exact ⟨(y398), (wrap64 (x39_4 + 1)), (by first | rfl | (simp; done) | (simp [*]; done)), H', ⟨by have := HJ4.out; have := HJ9.out; have := HJ35.out; have := HK4.out; have := HJ37.out; omega⟩, ⟨by (with_reducible repeat (first | apply Kd.R_alloc | apply Kd.R_drewN | apply Kd.R_drew)); exact HO400.out⟩, ⟨by (with_reducible repeat (first | apply blk_drewN | apply blk_drew | apply blk_alloc)); exact BK391.out⟩, ⟨by (with_reducible repeat (first | apply blk_drewN | apply blk_drew | apply blk_alloc)); exact BK392.out⟩, ⟨by repeat (first | (with_reducible first | exact HB.out | apply below_alloc | apply pw_below_drewN | apply below_drew1 | refine below_set ?_ GE391.out | refine below_set ?_ GE392.out) | exact HB.out)⟩⟩
              ·rw [if_neg c88] at H
               exact absurd H (by simp)
            ·rw [if_neg c85] at H
             exact absurd H (by simp)
           ·rw [if_neg c84] at H
            exact absurd H (by simp)
end Go.Proofs.Ytmehbabchakkpaa.QPageEmpty
