import Derived.Test.YtmehbabchakkpaaMPageBackx7
import Derived.Test.YtmehbabchakkpaaMPageBackx12
import Derived.Test.YtmehbabchakkpaaMPageBackx13
namespace Go.Proofs.Ytmehbabchakkpaa.QPageBack
open Go.RowKit YtmehbabchakkpaaW.PrintWords YtmehbabchakkpaaW.PrintLast YtmehbabchakkpaaW.PrintMore
attribute [local go_sem] max2_int min2_int max_two min_two max_three min_three max_four min_four
set_option linter.unusedVariables false
set_option maxHeartbeats 8000000
set_option maxRecDepth 100000
set_option linter.unusedSimpArgs false
attribute [local go_sem high] eqA26
mutual
def l08_PageBack.j0 : Nat → Int → Int → Int → Int → Int → Int → Int → List Int → Int → Int → Int → Int → List Int → Int → Option (Bool)
 | 0, _, _, _, _, _, _, _, _, _, _, _, _, _, _ => none
 | k + 1, x402000, x402001, x402002, x402003, x402004, x402005, x402006, x403000, x403001, x403002, x403003, x403004, x404000, x404001 => (l08_Small.f x402000 x402001 x402002 x402003 x402004 x402005 x402006).bind fun t405 => (if t405 = true then (if (x403000.length : Int) > 200 then (l08_PageBack.j1 k true x402000 x402001 x402002 x402003 x402004 x402005 x402006 x403000 x403001 x403002 x403003 x403004 x404000 x404001) else (l08_PageBack.j1 k (decide ((x404000.length : Int) > 20)) x402000 x402001 x402002 x402003 x402004 x402005 x402006 x403000 x403001 x403002 x403003 x403004 x404000 x404001)) else (l08_PageBack.j1 k true x402000 x402001 x402002 x402003 x402004 x402005 x402006 x403000 x403001 x403002 x403003 x403004 x404000 x404001))
def l08_PageBack.j1 : Nat → Bool → Int → Int → Int → Int → Int → Int → Int → List Int → Int → Int → Int → Int → List Int → Int → Option (Bool)
 | 0, _, _, _, _, _, _, _, _, _, _, _, _, _, _, _ => none
 | k + 1, x37, x402000, x402001, x402002, x402003, x402004, x402005, x402006, x403000, x403001, x403002, x403003, x403004, x404000, x404001 => if x37 = true then (some true) else (l08_PageBack.j2 k x402000 x402001 x402002 x402003 x402004 x402005 x402006 x403000 x403001 x403002 x403003 x403004 x404000 x404001)
def l08_PageBack.j2 : Nat → Int → Int → Int → Int → Int → Int → Int → List Int → Int → Int → Int → Int → List Int → Int → Option (Bool)
 | 0, _, _, _, _, _, _, _, _, _, _, _, _, _, _ => none
 | k + 1, x402000, x402001, x402002, x402003, x402004, x402005, x402006, x403000, x403001, x403002, x403003, x403004, x404000, x404001 => (page_Encode.f k x402000 x402001 x402002 x402003 x402004 x402005 x402006 x403000 x403001 x403002 x403003 x403004).bind fun bt406 => (if bt406.2 = 0 then (l08_PageBack.j3 k bt406.1 x402000 x402001 x402002 x402003 x402004 x402005 x402006 x403000 x403001 x403002 x403003 x403004 x404000 x404001) else (some ((bt406.1.length : Int) == 0)))
def l08_PageBack.j3 : Nat → List Int → Int → Int → Int → Int → Int → Int → Int → List Int → Int → Int → Int → Int → List Int → Int → Option (Bool)
 | 0, _, _, _, _, _, _, _, _, _, _, _, _, _, _, _ => none
 | k + 1, x7, x402000, x402001, x402002, x402003, x402004, x402005, x402006, x403000, x403001, x403002, x403003, x403004, x404000, x404001 => (l08_turn.f k x402000 x402001 x402002 x402003 x402004 x402005 x402006 x7 x404000).bind fun t410 => ((page_Decode.f k x402000 x402001 x402002 x402003 x402004 x402005 x402006 t410).bind fun bt413 => (if bt413.2.2.2.2.2.2 = 0 then ((r01_Same.f k bt413.1 x403000).bind fun t423 => (if t423 = true then (if (!(bt413.2.1 == x403001) || (!(bt413.2.2.1 == x403002) || (!(bt413.2.2.2.1 == x403003) || (!(bt413.2.2.2.2.1 == x403004))))) = true then (none) else ((r01_Same.f k t410 x7).bind fun t424 => (if ((bt413.2.2.2.2.2.1 == 0) != t424) = true then (none) else (if bt413.2.2.2.2.2.1 = 2 then (none) else ((page_Marked.f k x402000 x402001 x402002 x402003 x402004 x402005 x402006 t410).bind fun t425 => (if t425 = true then (none) else (l08_PageBack.j4 k x7 x402000 x402001 x402002 x402003 x402004 x402005 x402006 x404000 x404001))))))) else (none))) else (none)))
def l08_PageBack.j4 : Nat → List Int → Int → Int → Int → Int → Int → Int → Int → List Int → Int → Option (Bool)
 | 0, _, _, _, _, _, _, _, _, _, _ => none
 | k + 1, x7, x402000, x402001, x402002, x402003, x402004, x402005, x402006, x404000, x404001 => if (wrap64 ((wrap64 (8 * x402004)) + 14)) = 0 then (none) else (if (Int.tmod (wrap64 (x404001)) (wrap64 ((wrap64 (8 * x402004)) + 14))) = (Int.tmod (wrap64 (IntKind.u16.wrap ((IntKind.u16.wrap (Int.tdiv x404001 3)) + 1))) (wrap64 ((wrap64 (8 * x402004)) + 14))) then (some true) else (l08_PageBack.j5 k x7 (Int.tmod (wrap64 (x404001)) (wrap64 ((wrap64 (8 * x402004)) + 14))) (Int.tmod (wrap64 (IntKind.u16.wrap ((IntKind.u16.wrap (Int.tdiv x404001 3)) + 1))) (wrap64 ((wrap64 (8 * x402004)) + 14))) x402000 x402001 x402002 x402003 x402004 x402005 x402006))
def l08_PageBack.j5 : Nat → List Int → Int → Int → Int → Int → Int → Int → Int → Int → Int → Option (Bool)
 | 0, _, _, _, _, _, _, _, _, _, _ => none
 | k + 1, x7, x15, x16, x402000, x402001, x402002, x402003, x402004, x402005, x402006 => (bits_Flip.f k x7 (([x15, x16] : List Int))).bind fun t429 => ((page_Decode.f k x402000 x402001 x402002 x402003 x402004 x402005 x402006 t429).bind fun bt432 => (if bt432.2.2.2.2.2.2 = 14 then (if (bt432.1.length : Int) = 0 then (if (bt432.2.1 == 0 && (bt432.2.2.1 == 0 && (bt432.2.2.2.1 == 0 && (bt432.2.2.2.2.1 == 0)))) = true then (some (bt432.2.2.2.2.2.1 == 0)) else (none)) else (none)) else (none)))
end
def l08_PageBack.f (k : Nat) (a0_0 : Int) (a0_1 : Int) (a0_2 : Int) (a0_3 : Int) (a0_4 : Int) (a0_5 : Int) (a0_6 : Int) (l1_0 : List Int) (a1_1 : Int) (a1_2 : Int) (a1_3 : Int) (a1_4 : Int) (l2_0 : List Int) (a2_1 : Int) : Option (Bool) := (l08_awake.f k).bind fun t404 => (if t404 = true then (l08_PageBack.j0 k a0_0 a0_1 a0_2 a0_3 a0_4 a0_5 a0_6 l1_0 a1_1 a1_2 a1_3 a1_4 l2_0 a2_1) else (none))
theorem l08_PageBack.mono_l : ∀ k, (∀ y0 y1 y2 y3 y4 y5 y6 y7 y8 y9 y10 y11 y12 y13, LeO (l08_PageBack.j0 k y0 y1 y2 y3 y4 y5 y6 y7 y8 y9 y10 y11 y12 y13) (l08_PageBack.j0 (k + 1) y0 y1 y2 y3 y4 y5 y6 y7 y8 y9 y10 y11 y12 y13)) ∧ (∀ y0 y1 y2 y3 y4 y5 y6 y7 y8 y9 y10 y11 y12 y13 y14, LeO (l08_PageBack.j1 k y0 y1 y2 y3 y4 y5 y6 y7 y8 y9 y10 y11 y12 y13 y14) (l08_PageBack.j1 (k + 1) y0 y1 y2 y3 y4 y5 y6 y7 y8 y9 y10 y11 y12 y13 y14)) ∧ (∀ y0 y1 y2 y3 y4 y5 y6 y7 y8 y9 y10 y11 y12 y13, LeO (l08_PageBack.j2 k y0 y1 y2 y3 y4 y5 y6 y7 y8 y9 y10 y11 y12 y13) (l08_PageBack.j2 (k + 1) y0 y1 y2 y3 y4 y5 y6 y7 y8 y9 y10 y11 y12 y13)) ∧ (∀ y0 y1 y2 y3 y4 y5 y6 y7 y8 y9 y10 y11 y12 y13 y14, LeO (l08_PageBack.j3 k y0 y1 y2 y3 y4 y5 y6 y7 y8 y9 y10 y11 y12 y13 y14) (l08_PageBack.j3 (k + 1) y0 y1 y2 y3 y4 y5 y6 y7 y8 y9 y10 y11 y12 y13 y14)) ∧ (∀ y0 y1 y2 y3 y4 y5 y6 y7 y8 y9, LeO (l08_PageBack.j4 k y0 y1 y2 y3 y4 y5 y6 y7 y8 y9) (l08_PageBack.j4 (k + 1) y0 y1 y2 y3 y4 y5 y6 y7 y8 y9)) ∧ (∀ y0 y1 y2 y3 y4 y5 y6 y7 y8 y9, LeO (l08_PageBack.j5 k y0 y1 y2 y3 y4 y5 y6 y7 y8 y9) (l08_PageBack.j5 (k + 1) y0 y1 y2 y3 y4 y5 y6 y7 y8 y9))
 | 0 => ⟨fun _ _ _ _ _ _ _ _ _ _ _ _ _ _ r h => by simp [l08_PageBack.j0] at h, fun _ _ _ _ _ _ _ _ _ _ _ _ _ _ _ r h => by simp [l08_PageBack.j1] at h, fun _ _ _ _ _ _ _ _ _ _ _ _ _ _ r h => by simp [l08_PageBack.j2] at h, fun _ _ _ _ _ _ _ _ _ _ _ _ _ _ _ r h => by simp [l08_PageBack.j3] at h, fun _ _ _ _ _ _ _ _ _ _ r h => by simp [l08_PageBack.j4] at h, fun _ _ _ _ _ _ _ _ _ _ r h => by simp [l08_PageBack.j5] at h⟩
 | k + 1 => by
  obtain ⟨ih0, ih1, ih2, ih3, ih4, ih5⟩ := l08_PageBack.mono_l k
  refine ⟨?_, ?_, ?_, ?_, ?_, ?_⟩
  ·intro y0 y1 y2 y3 y4 y5 y6 y7 y8 y9 y10 y11 y12 y13
   unfold l08_PageBack.j0
   repeat' first
   | (with_reducible exact ih0 _ _ _ _ _ _ _ _ _ _ _ _ _ _)
   | (with_reducible exact ih1 _ _ _ _ _ _ _ _ _ _ _ _ _ _ _)
   | (with_reducible exact ih2 _ _ _ _ _ _ _ _ _ _ _ _ _ _)
   | (with_reducible exact ih3 _ _ _ _ _ _ _ _ _ _ _ _ _ _ _)
   | (with_reducible exact ih4 _ _ _ _ _ _ _ _ _ _)
   | (with_reducible exact ih5 _ _ _ _ _ _ _ _ _ _)
   | (with_reducible exact bits_Flip.mono _ _ _)
   | (with_reducible exact l08_awake.mono _)
   | (with_reducible exact l08_turn.mono _ _ _ _ _ _ _ _ _ _)
   | (with_reducible exact r01_Same.mono _ _ _)
   | (with_reducible exact page_Decode.mono _ _ _ _ _ _ _ _ _)
   | (with_reducible exact page_Encode.mono _ _ _ _ _ _ _ _ _ _ _ _ _)
   | (with_reducible exact page_Marked.mono _ _ _ _ _ _ _ _ _)
   | (with_reducible exact LeO.refl _)
   | (with_reducible exact LeO.none _)
   | (with_reducible refine LeO.ite ?_ ?_)
   | (with_reducible refine LeO.bind ?_ (fun _ => ?_))
  ·intro y0 y1 y2 y3 y4 y5 y6 y7 y8 y9 y10 y11 y12 y13 y14
   unfold l08_PageBack.j1
   repeat' first
   | (with_reducible exact ih0 _ _ _ _ _ _ _ _ _ _ _ _ _ _)
   | (with_reducible exact ih1 _ _ _ _ _ _ _ _ _ _ _ _ _ _ _)
   | (with_reducible exact ih2 _ _ _ _ _ _ _ _ _ _ _ _ _ _)
   | (with_reducible exact ih3 _ _ _ _ _ _ _ _ _ _ _ _ _ _ _)
   | (with_reducible exact ih4 _ _ _ _ _ _ _ _ _ _)
   | (with_reducible exact ih5 _ _ _ _ _ _ _ _ _ _)
   | (with_reducible exact bits_Flip.mono _ _ _)
   | (with_reducible exact l08_awake.mono _)
   | (with_reducible exact l08_turn.mono _ _ _ _ _ _ _ _ _ _)
   | (with_reducible exact r01_Same.mono _ _ _)
   | (with_reducible exact page_Decode.mono _ _ _ _ _ _ _ _ _)
   | (with_reducible exact page_Encode.mono _ _ _ _ _ _ _ _ _ _ _ _ _)
   | (with_reducible exact page_Marked.mono _ _ _ _ _ _ _ _ _)
   | (with_reducible exact LeO.refl _)
   | (with_reducible exact LeO.none _)
   | (with_reducible refine LeO.ite ?_ ?_)
   | (with_reducible refine LeO.bind ?_ (fun _ => ?_))
  ·intro y0 y1 y2 y3 y4 y5 y6 y7 y8 y9 y10 y11 y12 y13
   unfold l08_PageBack.j2
   repeat' first
   | (with_reducible exact ih0 _ _ _ _ _ _ _ _ _ _ _ _ _ _)
   | (with_reducible exact ih1 _ _ _ _ _ _ _ _ _ _ _ _ _ _ _)
   | (with_reducible exact ih2 _ _ _ _ _ _ _ _ _ _ _ _ _ _)
   | (with_reducible exact ih3 _ _ _ _ _ _ _ _ _ _ _ _ _ _ _)
   | (with_reducible exact ih4 _ _ _ _ _ _ _ _ _ _)
   | (with_reducible exact ih5 _ _ _ _ _ _ _ _ _ _)
   | (with_reducible exact bits_Flip.mono _ _ _)
   | (with_reducible exact l08_awake.mono _)
   | (with_reducible exact l08_turn.mono _ _ _ _ _ _ _ _ _ _)
   | (with_reducible exact r01_Same.mono _ _ _)
   | (with_reducible exact page_Decode.mono _ _ _ _ _ _ _ _ _)
   | (with_reducible exact page_Encode.mono _ _ _ _ _ _ _ _ _ _ _ _ _)
   | (with_reducible exact page_Marked.mono _ _ _ _ _ _ _ _ _)
   | (with_reducible exact LeO.refl _)
   | (with_reducible exact LeO.none _)
   | (with_reducible refine LeO.ite ?_ ?_)
   | (with_reducible refine LeO.bind ?_ (fun _ => ?_))
  ·intro y0 y1 y2 y3 y4 y5 y6 y7 y8 y9 y10 y11 y12 y13 y14
   unfold l08_PageBack.j3
   repeat' first
   | (with_reducible exact ih0 _ _ _ _ _ _ _ _ _ _ _ _ _ _)
   | (with_reducible exact ih1 _ _ _ _ _ _ _ _ _ _ _ _ _ _ _)
   | (with_reducible exact ih2 _ _ _ _ _ _ _ _ _ _ _ _ _ _)
   | (with_reducible exact ih3 _ _ _ _ _ _ _ _ _ _ _ _ _ _ _)
   | (with_reducible exact ih4 _ _ _ _ _ _ _ _ _ _)
   | (with_reducible exact ih5 _ _ _ _ _ _ _ _ _ _)
   | (with_reducible exact bits_Flip.mono _ _ _)
   | (with_reducible exact l08_awake.mono _)
   | (with_reducible exact l08_turn.mono _ _ _ _ _ _ _ _ _ _)
   | (with_reducible exact r01_Same.mono _ _ _)
   | (with_reducible exact page_Decode.mono _ _ _ _ _ _ _ _ _)
   | (with_reducible exact page_Encode.mono _ _ _ _ _ _ _ _ _ _ _ _ _)
   | (with_reducible exact page_Marked.mono _ _ _ _ _ _ _ _ _)
   | (with_reducible exact LeO.refl _)
   | (with_reducible exact LeO.none _)
   | (with_reducible refine LeO.ite ?_ ?_)
   | (with_reducible refine LeO.bind ?_ (fun _ => ?_))
  ·intro y0 y1 y2 y3 y4 y5 y6 y7 y8 y9
   unfold l08_PageBack.j4
   repeat' first
   | (with_reducible exact ih0 _ _ _ _ _ _ _ _ _ _ _ _ _ _)
   | (with_reducible exact ih1 _ _ _ _ _ _ _ _ _ _ _ _ _ _ _)
   | (with_reducible exact ih2 _ _ _ _ _ _ _ _ _ _ _ _ _ _)
   | (with_reducible exact ih3 _ _ _ _ _ _ _ _ _ _ _ _ _ _ _)
   | (with_reducible exact ih4 _ _ _ _ _ _ _ _ _ _)
   | (with_reducible exact ih5 _ _ _ _ _ _ _ _ _ _)
   | (with_reducible exact bits_Flip.mono _ _ _)
   | (with_reducible exact l08_awake.mono _)
   | (with_reducible exact l08_turn.mono _ _ _ _ _ _ _ _ _ _)
   | (with_reducible exact r01_Same.mono _ _ _)
   | (with_reducible exact page_Decode.mono _ _ _ _ _ _ _ _ _)
   | (with_reducible exact page_Encode.mono _ _ _ _ _ _ _ _ _ _ _ _ _)
   | (with_reducible exact page_Marked.mono _ _ _ _ _ _ _ _ _)
   | (with_reducible exact LeO.refl _)
   | (with_reducible exact LeO.none _)
   | (with_reducible refine LeO.ite ?_ ?_)
   | (with_reducible refine LeO.bind ?_ (fun _ => ?_))
  ·intro y0 y1 y2 y3 y4 y5 y6 y7 y8 y9
   unfold l08_PageBack.j5
   repeat' first
   | (with_reducible exact ih0 _ _ _ _ _ _ _ _ _ _ _ _ _ _)
   | (with_reducible exact ih1 _ _ _ _ _ _ _ _ _ _ _ _ _ _ _)
   | (with_reducible exact ih2 _ _ _ _ _ _ _ _ _ _ _ _ _ _)
   | (with_reducible exact ih3 _ _ _ _ _ _ _ _ _ _ _ _ _ _ _)
   | (with_reducible exact ih4 _ _ _ _ _ _ _ _ _ _)
   | (with_reducible exact ih5 _ _ _ _ _ _ _ _ _ _)
   | (with_reducible exact bits_Flip.mono _ _ _)
   | (with_reducible exact l08_awake.mono _)
   | (with_reducible exact l08_turn.mono _ _ _ _ _ _ _ _ _ _)
   | (with_reducible exact r01_Same.mono _ _ _)
   | (with_reducible exact page_Decode.mono _ _ _ _ _ _ _ _ _)
   | (with_reducible exact page_Encode.mono _ _ _ _ _ _ _ _ _ _ _ _ _)
   | (with_reducible exact page_Marked.mono _ _ _ _ _ _ _ _ _)
   | (with_reducible exact LeO.refl _)
   | (with_reducible exact LeO.none _)
   | (with_reducible refine LeO.ite ?_ ?_)
   | (with_reducible refine LeO.bind ?_ (fun _ => ?_))
theorem l08_PageBack.mono : ∀ a0 a1 a2 a3 a4 a5 a6 a7 a8 a9 a10 a11 a12 a13 k, LeO (l08_PageBack.f k a0 a1 a2 a3 a4 a5 a6 a7 a8 a9 a10 a11 a12 a13) (l08_PageBack.f (k + 1) a0 a1 a2 a3 a4 a5 a6 a7 a8 a9 a10 a11 a12 a13) := by
 intro a0 a1 a2 a3 a4 a5 a6 a7 a8 a9 a10 a11 a12 a13 k
 obtain ⟨ih0, ih1, ih2, ih3, ih4, ih5⟩ := l08_PageBack.mono_l k
 unfold l08_PageBack.f
 repeat' first
  | (with_reducible exact ih0 _ _ _ _ _ _ _ _ _ _ _ _ _ _)
  | (with_reducible exact ih1 _ _ _ _ _ _ _ _ _ _ _ _ _ _ _)
  | (with_reducible exact ih2 _ _ _ _ _ _ _ _ _ _ _ _ _ _)
  | (with_reducible exact ih3 _ _ _ _ _ _ _ _ _ _ _ _ _ _ _)
  | (with_reducible exact ih4 _ _ _ _ _ _ _ _ _ _)
  | (with_reducible exact ih5 _ _ _ _ _ _ _ _ _ _)
  | (with_reducible exact bits_Flip.mono _ _ _)
  | (with_reducible exact l08_awake.mono _)
  | (with_reducible exact l08_turn.mono _ _ _ _ _ _ _ _ _ _)
  | (with_reducible exact r01_Same.mono _ _ _)
  | (with_reducible exact page_Decode.mono _ _ _ _ _ _ _ _ _)
  | (with_reducible exact page_Encode.mono _ _ _ _ _ _ _ _ _ _ _ _ _)
  | (with_reducible exact page_Marked.mono _ _ _ _ _ _ _ _ _)
  | (with_reducible exact LeO.refl _)
  | (with_reducible exact LeO.none _)
  | (with_reducible refine LeO.ite ?_ ?_)
  | (with_reducible refine LeO.bind ?_ (fun _ => ?_))
def l08_PageBack.T13 : Bool × List (List Nat × List Nat) := (true, [([], []), ([0], [0]), ([1], [1]), ([], []), ([2, 3], [2, 3]), ([], []), ([5], [5]), ([6], [6]), ([7], [7]), ([8], [8]), ([], []), ([9, 10], [9, 10]), ([4, 0, 1, 2, 3, 4], [4]), ([11, 12, 0, 1, 2, 3, 4, 5, 6, 7, 8, 9, 10, 11, 12], [11])])
def l08_PageBack.B13 : List Nat := [0, 1, 3, 0, 15, 0, 32, 96, 224, 480, 0, 2016, 31, 8191]
theorem l08_PageBack.tab13 : rtab .any (opsOf Try.f9 13) = l08_PageBack.T13 := by kernel_rfl
theorem l08_PageBack.bits13 : waitsOk l08_PageBack.T13.2 l08_PageBack.B13 = true := by kernel_rfl
def l08_PageBack.T16 : Bool × List (List Nat × List Nat) := (true, [([], []), ([], []), ([], []), ([], []), ([2, 3], [2, 3]), ([1, 4], [1, 4]), ([0, 5, 5], [0, 5]), ([6], [6]), ([7], [7]), ([7], [7]), ([7], [7]), ([7], [7]), ([], []), ([8, 6, 0, 1, 2, 3, 4, 5, 6, 7, 8, 12], [8]), ([12, 9, 13, 0, 1, 2, 3, 4, 5, 6, 7, 8, 9, 12, 13], [9, 12]), ([10, 14, 0, 1, 2, 3, 4, 5, 6, 7, 8, 9, 10, 12, 13, 14], [10]), ([11, 15, 0, 1, 2, 3, 4, 5, 6, 7, 8, 9, 10, 11, 12, 13, 14, 15], [11])])
def l08_PageBack.B16 : List Nat := [0, 0, 0, 0, 12, 30, 63, 127, 255, 255, 255, 255, 0, 4607, 13311, 30719, 65535]
theorem l08_PageBack.tab16 : rtab .any (opsOf Try.f9 16) = l08_PageBack.T16 := by kernel_rfl
theorem l08_PageBack.bits16 : waitsOk l08_PageBack.T16.2 l08_PageBack.B16 = true := by kernel_rfl
theorem l08_PageBack.calls (k : Nat) (a0_0 : Int) (a0_1 : Int) (a0_2 : Int) (a0_3 : Int) (a0_4 : Int) (a0_5 : Int) (a0_6 : Int) (A1_0 : Option Addr) (c1_0 : Nat) (l1_0 : List Int) (a1_1 : Int) (a1_2 : Int) (a1_3 : Int) (a1_4 : Int) (A2_0 : Option Addr) (c2_0 : Nat) (l2_0 : List Int) (a2_1 : Int) (r : Bool) (w : World) (hr1_0 : Kd.C (Kd.int .u8) w A1_0 l1_0.length l1_0) (hc1_0 : l1_0.length ≤ c1_0) (hr2_0 : Kd.C (Kd.int .u16) w A2_0 l2_0.length l2_0) (hc2_0 : l2_0.length ≤ c2_0) (h : l08_PageBack.f k a0_0 a0_1 a0_2 a0_3 a0_4 a0_5 a0_6 l1_0 a1_1 a1_2 a1_3 a1_4 l2_0 a2_1 = some r) :
  Calls Try.prog 9 #[.agg #[.int .i64 a0_0, .int .i64 a0_1, .int .i64 a0_2, .int .i64 a0_3, .int .i64 a0_4, .int .i64 a0_5, .int .i64 a0_6], .agg #[.slice A1_0 l1_0.length c1_0, .int .i64 a1_1, .int .i64 a1_2, .int .i64 a1_3, .int .i64 a1_4], .agg #[.slice A2_0 l2_0.length c2_0, .int .u16 a2_1]] w fun e w' => e = .returned (.bool r) ∧ Below w.heap.size w w' := by
 have hu23 := Try.underlying23
 have hu57 := Try.underlying57
 have hu61 := Try.underlying61
 have hu26 := Try.underlying26
 have HR1_0 := ak_ hr1_0
 have HC1_0 := ak_ hc1_0
 clear hr1_0 hc1_0
 have HR2_0 := ak_ hr2_0
 have HC2_0 := ak_ hc2_0
 clear hr2_0 hc2_0
 have HB := br_ w
 have H : ((l08_awake.f k).bind fun t404 => (if t404 = true then (l08_PageBack.j0 k a0_0 a0_1 a0_2 a0_3 a0_4 a0_5 a0_6 l1_0 a1_1 a1_2 a1_3 a1_4 l2_0 a2_1) else (none))) = some r := h
 clear h
 replace H := Option.bind_eq_some_iff.mp H
 obtain ⟨t404, A40, H⟩ := H
 replace H : (if t404 = true then (l08_PageBack.j0 k a0_0 a0_1 a0_2 a0_3 a0_4 a0_5 a0_6 l1_0 a1_1 a1_2 a1_3 a1_4 l2_0 a2_1) else (none)) = some r := H
 have A4 := ak_ A40
 clear A40
 have HC5 := ak_ H
 clear H
 go_enter Try.func9, Try.ntmps9
 go_upto_if 22 with (first | ((with_reducible refine gate_dst (N := 3) rfl ?_); (try (refine gate_guard (by rfl) ?_; dsimp only)); refine box_event ?hg (N := 3) ?hd (cs := #[.int .i64 a0_0, .int .i64 a0_1, .int .i64 a0_2, .int .i64 a0_3, .int .i64 a0_4, .int .i64 a0_5, .int .i64 a0_6]) (t := 23) ?hr ?_; (case hd => rfl); (case hg => rfl); (case hr => first | (go_simp; done) | (go_simp; rfl)); intro gb401 hg w6 hbox hb; have n0_ := ak_ (below_step (by repeat (first | (with_reducible first | exact HB.out | apply below_alloc | apply pw_below_drewN | apply below_drew1) | exact HB.out)) hb); have n1_ := ak_ (hbox); have n2_ := ak_ ((by rw [hg]; exact (below_size (by repeat (first | (with_reducible first | exact HB.out | apply below_alloc | apply pw_below_drewN | apply below_drew1) | exact HB.out))) : w.heap.size ≤ gb401)); have n3_ := ak_ ((by rw [hg]; exact (below_size (by repeat (first | (with_reducible first | exact HB.out | apply below_alloc | apply pw_below_drewN | apply below_drew1) | exact HB.out))) : w.heap.size ≤ gb401)); clear HB; have HB := n0_; have BK401 := n1_; have GW401 := n2_; have GE401 := n3_; clear n0_ n1_ n2_ n3_; clear hb hbox hg) | ((with_reducible refine gate_dst (N := 4) rfl ?_); (try (refine gate_guard (by rfl) ?_; dsimp only)); refine box_event ?hg (N := 4) ?hd (cs := #[.slice A1_0 l1_0.length c1_0, .int .i64 a1_1, .int .i64 a1_2, .int .i64 a1_3, .int .i64 a1_4]) (t := 57) ?hr ?_; (case hd => rfl); (case hg => rfl); (case hr => first | (go_simp; done) | (go_simp; rfl)); intro gb402 hg w7 hbox hb; have n0_ := ak_ (blk_below (g := gb401) (o := .cells #[.int .i64 a0_0, .int .i64 a0_1, .int .i64 a0_2, .int .i64 a0_3, .int .i64 a0_4, .int .i64 a0_5, .int .i64 a0_6] 23 (0, 0)) (by (with_reducible repeat (first | apply blk_drewN | apply blk_drew | apply blk_alloc)); exact BK401.out) hb); have n1_ := ak_ (below_step (by repeat (first | (with_reducible first | exact HB.out | apply below_alloc | apply pw_below_drewN | apply below_drew1 | refine below_set ?_ GE401.out) | exact HB.out)) hb); have n2_ := ak_ (hbox); have n3_ := ak_ ((by rw [hg]; exact (below_size (by repeat (first | (with_reducible first | exact HB.out | apply below_alloc | apply pw_below_drewN | apply below_drew1 | refine below_set ?_ GE401.out) | exact HB.out))) : w.heap.size ≤ gb402)); have n4_ := ak_ ((by rw [hg]; exact (below_size (by repeat (first | (with_reducible first | exact HB.out | apply below_alloc | apply pw_below_drewN | apply below_drew1 | refine below_set ?_ GE401.out) | exact HB.out))) : w.heap.size ≤ gb402)); have n5_ := ak_ ((by rw [hg]; exact Nat.ne_of_lt (blk_lt (g := gb401) (o := .cells #[.int .i64 a0_0, .int .i64 a0_1, .int .i64 a0_2, .int .i64 a0_3, .int .i64 a0_4, .int .i64 a0_5, .int .i64 a0_6] 23 (0, 0)) (by (with_reducible repeat (first | apply blk_drewN | apply blk_drew | apply blk_alloc)); exact BK401.out)) : gb401 ≠ gb402)); have n6_ := ak_ ((by rw [hg]; exact Nat.ne_of_gt (blk_lt (g := gb401) (o := .cells #[.int .i64 a0_0, .int .i64 a0_1, .int .i64 a0_2, .int .i64 a0_3, .int .i64 a0_4, .int .i64 a0_5, .int .i64 a0_6] 23 (0, 0)) (by (with_reducible repeat (first | apply blk_drewN | apply blk_drew | apply blk_alloc)); exact BK401.out)) : gb402 ≠ gb401)); clear BK401; clear HB; have BK401 := n0_; have HB := n1_; have BK402 := n2_; have GW402 := n3_; have GE402 := n4_; have NB401_402 := n5_; have NB402_401 := n6_; clear n0_ n1_ n2_ n3_ n4_ n5_ n6_; clear hb hbox hg) | ((with_reducible refine gate_dst (N := 5) rfl ?_); (try (refine gate_guard (by rfl) ?_; dsimp only)); refine box_event ?hg (N := 5) ?hd (cs := #[.slice A2_0 l2_0.length c2_0, .int .u16 a2_1]) (t := 61) ?hr ?_; (case hd => rfl); (case hg => rfl); (case hr => first | (go_simp; done) | (go_simp; rfl)); intro gb403 hg w8 hbox hb; have n0_ := ak_ (blk_below (g := gb401) (o := .cells #[.int .i64 a0_0, .int .i64 a0_1, .int .i64 a0_2, .int .i64 a0_3, .int .i64 a0_4, .int .i64 a0_5, .int .i64 a0_6] 23 (0, 0)) (by (with_reducible repeat (first | apply blk_drewN | apply blk_drew | apply blk_alloc)); exact BK401.out) hb); have n1_ := ak_ (blk_below (g := gb402) (o := .cells #[.slice A1_0 l1_0.length c1_0, .int .i64 a1_1, .int .i64 a1_2, .int .i64 a1_3, .int .i64 a1_4] 57 (0, 0)) (by (with_reducible repeat (first | apply blk_drewN | apply blk_drew | apply blk_alloc)); exact BK402.out) hb); have n2_ := ak_ (below_step (by repeat (first | (with_reducible first | exact HB.out | apply below_alloc | apply pw_below_drewN | apply below_drew1 | refine below_set ?_ GE401.out | refine below_set ?_ GE402.out) | exact HB.out)) hb); have n3_ := ak_ (hbox); have n4_ := ak_ ((by rw [hg]; exact (below_size (by repeat (first | (with_reducible first | exact HB.out | apply below_alloc | apply pw_below_drewN | apply below_drew1 | refine below_set ?_ GE401.out | refine below_set ?_ GE402.out) | exact HB.out))) : w.heap.size ≤ gb403)); have n5_ := ak_ ((by rw [hg]; exact (below_size (by repeat (first | (with_reducible first | exact HB.out | apply below_alloc | apply pw_below_drewN | apply below_drew1 | refine below_set ?_ GE401.out | refine below_set ?_ GE402.out) | exact HB.out))) : w.heap.size ≤ gb403)); have n6_ := ak_ ((by rw [hg]; exact Nat.ne_of_lt (blk_lt (g := gb401) (o := .cells #[.int .i64 a0_0, .int .i64 a0_1, .int .i64 a0_2, .int .i64 a0_3, .int .i64 a0_4, .int .i64 a0_5, .int .i64 a0_6] 23 (0, 0)) (by (with_reducible repeat (first | apply blk_drewN | apply blk_drew | apply blk_alloc)); exact BK401.out)) : gb401 ≠ gb403)); have n7_ := ak_ ((by rw [hg]; exact Nat.ne_of_gt (blk_lt (g := gb401) (o := .cells #[.int .i64 a0_0, .int .i64 a0_1, .int .i64 a0_2, .int .i64 a0_3, .int .i64 a0_4, .int .i64 a0_5, .int .i64 a0_6] 23 (0, 0)) (by (with_reducible repeat (first | apply blk_drewN | apply blk_drew | apply blk_alloc)); exact BK401.out)) : gb403 ≠ gb401)); have n8_ := ak_ ((by rw [hg]; exact Nat.ne_of_lt (blk_lt (g := gb402) (o := .cells #[.slice A1_0 l1_0.length c1_0, .int .i64 a1_1, .int .i64 a1_2, .int .i64 a1_3, .int .i64 a1_4] 57 (0, 0)) (by (with_reducible repeat (first | apply blk_drewN | apply blk_drew | apply blk_alloc)); exact BK402.out)) : gb402 ≠ gb403)); have n9_ := ak_ ((by rw [hg]; exact Nat.ne_of_gt (blk_lt (g := gb402) (o := .cells #[.slice A1_0 l1_0.length c1_0, .int .i64 a1_1, .int .i64 a1_2, .int .i64 a1_3, .int .i64 a1_4] 57 (0, 0)) (by (with_reducible repeat (first | apply blk_drewN | apply blk_drew | apply blk_alloc)); exact BK402.out)) : gb403 ≠ gb402)); clear BK401; clear BK402; clear HB; have BK401 := n0_; have BK402 := n1_; have HB := n2_; have BK403 := n3_; have GW403 := n4_; have GE403 := n5_; have NB401_403 := n6_; have NB403_401 := n7_; have NB402_403 := n8_; have NB403_402 := n9_; clear n0_ n1_ n2_ n3_ n4_ n5_ n6_ n7_ n8_ n9_; clear hb hbox hg) | ((with_reducible refine gate_callee (f := 12) rfl ?_); refine goesL_ (some 21) rfl rfl Try.func12 (by kernel_rfl) rfl #[] rfl (by (try simp only [List.map_toArray, List.map_cons, List.map_nil]); first | done | rfl | (simp only [List.length_drop, List.length_take]; rfl)) ?_; (with_reducible refine (l08_awake.calls k  t404 _ A4.out).mono ?_); rintro e w9 ⟨rfl, hb⟩; refine ⟨_, rfl, ?_⟩; have n0_ := ak_ (blk_below (g := gb401) (o := .cells #[.int .i64 a0_0, .int .i64 a0_1, .int .i64 a0_2, .int .i64 a0_3, .int .i64 a0_4, .int .i64 a0_5, .int .i64 a0_6] 23 (0, 0)) (by (with_reducible repeat (first | apply blk_drewN | apply blk_drew | apply blk_alloc)); exact BK401.out) hb); have n1_ := ak_ (blk_below (g := gb402) (o := .cells #[.slice A1_0 l1_0.length c1_0, .int .i64 a1_1, .int .i64 a1_2, .int .i64 a1_3, .int .i64 a1_4] 57 (0, 0)) (by (with_reducible repeat (first | apply blk_drewN | apply blk_drew | apply blk_alloc)); exact BK402.out) hb); have n2_ := ak_ (blk_below (g := gb403) (o := .cells #[.slice A2_0 l2_0.length c2_0, .int .u16 a2_1] 61 (0, 0)) (by (with_reducible repeat (first | apply blk_drewN | apply blk_drew | apply blk_alloc)); exact BK403.out) hb); have n3_ := ak_ (below_step (by repeat (first | (with_reducible first | exact HB.out | apply below_alloc | apply pw_below_drewN | apply below_drew1 | refine below_set ?_ GE401.out | refine below_set ?_ GE402.out | refine below_set ?_ GE403.out) | exact HB.out)) hb); clear BK401; clear BK402; clear BK403; clear HB; have BK401 := n0_; have BK402 := n1_; have BK403 := n2_; have HB := n3_; clear n0_ n1_ n2_ n3_; (try clear hb); (try clear hb2); (try clear hk); (try clear hi)))
 (try simp only [Act.put, sb_, sz_, su_])
 go_cut [] (fun wc => ∃ (kq : Nat), Aside0 (l08_PageBack.j0 kq a0_0 a0_1 a0_2 a0_3 a0_4 a0_5 a0_6 l1_0 a1_1 a1_2 a1_3 a1_4 l2_0 a2_1 = some r) ∧ Aside0 (kq ≤ k) ∧ Aside0 (wc.heap[gb401]? = some (.cells #[.int .i64 a0_0, .int .i64 a0_1, .int .i64 a0_2, .int .i64 a0_3, .int .i64 a0_4, .int .i64 a0_5, .int .i64 a0_6] 23 (0, 0))) ∧ Aside0 (wc.heap[gb402]? = some (.cells #[(.slice A1_0 l1_0.length c1_0), .int .i64 a1_1, .int .i64 a1_2, .int .i64 a1_3, .int .i64 a1_4] 57 (0, 0))) ∧ Aside0 (wc.heap[gb403]? = some (.cells #[(.slice A2_0 l2_0.length c2_0), .int .u16 a2_1] 61 (0, 0))) ∧ Aside0 (Below w.heap.size w wc))
 case first =>
  have H := HC5.out
  clear HC5
  by_cases c10 : t404 = true
  ·subst c10
   have H1 : (l08_PageBack.j0 k a0_0 a0_1 a0_2 a0_3 a0_4 a0_5 a0_6 l1_0 a1_1 a1_2 a1_3 a1_4 l2_0 a2_1) = some r := by rw [if_pos rfl] at H; exact H
   clear H
   have H := H1
   clear H1
   have H' := ak_ H
   clear H
   go_wp2
   go_meet
   case rel => exact ⟨_, H', ⟨by first | omega | exact Nat.le_refl _⟩, ⟨by (with_reducible repeat (first | apply blk_drewN | apply blk_drew | apply blk_alloc)); exact BK401.out⟩, ⟨by (with_reducible repeat (first | apply blk_drewN | apply blk_drew | apply blk_alloc)); exact BK402.out⟩, ⟨by (with_reducible repeat (first | apply blk_drewN | apply blk_drew | apply blk_alloc)); exact BK403.out⟩, ⟨by repeat (first | (with_reducible first | exact HB.out | apply below_alloc | apply pw_below_drewN | apply below_drew1 | refine below_set ?_ GE401.out | refine below_set ?_ GE402.out | refine below_set ?_ GE403.out) | exact HB.out)⟩⟩
  ·replace c10 := Bool.eq_false_iff.mpr c10
   subst c10
   have H1 : (none) = some r := by rw [if_neg (show ¬ (false = true) by decide)] at H; exact H
   clear H
   have H := H1
   clear H1
   exact absurd H (by simp)
 case rest =>
  clear HC5
  try clear c1
  try clear c2
  try clear p2
  try clear c9
  try clear c10
  obtain ⟨kq, HA, HJ4, BK401, BK402, BK403, HB⟩ := hcut
  cases kq with
  | zero => exact absurd HA.out (by simp [l08_PageBack.j0])
  | succ kj4 =>
   have H := HA.out
   clear HA
   simp only [l08_PageBack.j0] at H
   have HC11 := ak_ H
   clear H
   go_upto_region 3 with (fail)
   go_cut [37] (fun v37 wc => ∃ (kq : Nat) (x37_10 : Bool), v37 = .bool x37_10 ∧ Aside0 (l08_PageBack.j1 kq x37_10 a0_0 a0_1 a0_2 a0_3 a0_4 a0_5 a0_6 l1_0 a1_1 a1_2 a1_3 a1_4 l2_0 a2_1 = some r) ∧ Aside0 (kq ≤ kj4) ∧ Aside0 (wc.heap[gb401]? = some (.cells #[.int .i64 a0_0, .int .i64 a0_1, .int .i64 a0_2, .int .i64 a0_3, .int .i64 a0_4, .int .i64 a0_5, .int .i64 a0_6] 23 (0, 0))) ∧ Aside0 (wc.heap[gb402]? = some (.cells #[(.slice A1_0 l1_0.length c1_0), .int .i64 a1_1, .int .i64 a1_2, .int .i64 a1_3, .int .i64 a1_4] 57 (0, 0))) ∧ Aside0 (wc.heap[gb403]? = some (.cells #[(.slice A2_0 l2_0.length c2_0), .int .u16 a2_1] 61 (0, 0))) ∧ Aside0 (Below w.heap.size w wc))
   case first =>
    have H := HC11.out
    clear HC11
    replace H := Option.bind_eq_some_iff.mp H
    obtain ⟨t405, A120, H⟩ := H
    replace H : (if t405 = true then (if (l1_0.length : Int) > 200 then (l08_PageBack.j1 kj4 true a0_0 a0_1 a0_2 a0_3 a0_4 a0_5 a0_6 l1_0 a1_1 a1_2 a1_3 a1_4 l2_0 a2_1) else (l08_PageBack.j1 kj4 (decide ((l2_0.length : Int) > 20)) a0_0 a0_1 a0_2 a0_3 a0_4 a0_5 a0_6 l1_0 a1_1 a1_2 a1_3 a1_4 l2_0 a2_1)) else (l08_PageBack.j1 kj4 true a0_0 a0_1 a0_2 a0_3 a0_4 a0_5 a0_6 l1_0 a1_1 a1_2 a1_3 a1_4 l2_0 a2_1)) = some r := H
    have A12 := ak_ A120
    clear A120
    by_cases c13 : t405 = true
    ·subst c13
     have H1 : (if (l1_0.length : Int) > 200 then (l08_PageBack.j1 kj4 true a0_0 a0_1 a0_2 a0_3 a0_4 a0_5 a0_6 l1_0 a1_1 a1_2 a1_3 a1_4 l2_0 a2_1) else (l08_PageBack.j1 kj4 (decide ((l2_0.length : Int) > 20)) a0_0 a0_1 a0_2 a0_3 a0_4 a0_5 a0_6 l1_0 a1_1 a1_2 a1_3 a1_4 l2_0 a2_1)) = some r := by rw [if_pos rfl] at H; exact H
     clear H
     have H := H1
     clear H1
     by_cases c14 : (l1_0.length : Int) > 200
     ·rw [if_pos c14] at H
      have c14b0 : decide (200 < (l1_0.length : Int)) = true := dt_ c14
      have c14b1 : decide (200 < l1_0.length) = true := dt_ (by omega)
      clear c14
      (first | rw [c14b0] | (simp only [i64_w, i32_w]; rw [c14b0]) | skip)
      have H' := ak_ H
      clear H
      have hnb15 := NB401_402.out
      have hnc15 := NB402_401.out
      have hnb16 := NB401_403.out
      have hnc16 := NB403_401.out
      have hcz17_0 : wc.cell? ⟨gb401, 0, none⟩ = some (.int .i64 a0_0) := (bc_ BK401.out 0).trans rfl
      have hcz17_1 : wc.cell? ⟨gb401, 1, none⟩ = some (.int .i64 a0_1) := (bc_ BK401.out 1).trans rfl
      have hcz17_2 : wc.cell? ⟨gb401, 2, none⟩ = some (.int .i64 a0_2) := (bc_ BK401.out 2).trans rfl
      have hcz17_3 : wc.cell? ⟨gb401, 3, none⟩ = some (.int .i64 a0_3) := (bc_ BK401.out 3).trans rfl
      have hcz17_4 : wc.cell? ⟨gb401, 4, none⟩ = some (.int .i64 a0_4) := (bc_ BK401.out 4).trans rfl
      have hcz17_5 : wc.cell? ⟨gb401, 5, none⟩ = some (.int .i64 a0_5) := (bc_ BK401.out 5).trans rfl
      have hcz17_6 : wc.cell? ⟨gb401, 6, none⟩ = some (.int .i64 a0_6) := (bc_ BK401.out 6).trans rfl
      have hfz17_0 := bf_ BK401.out 0
      have hfz17_1 := bf_ BK401.out 1
      have hfz17_2 := bf_ BK401.out 2
      have hfz17_3 := bf_ BK401.out 3
      have hfz17_4 := bf_ BK401.out 4
      have hfz17_5 := bf_ BK401.out 5
      have hfz17_6 := bf_ BK401.out 6
      go_wp2_with (first | ((with_reducible refine gate_callee (f := 13) rfl ?_); refine goesL_ (some 24) rfl rfl Try.func13 (by kernel_rfl) rfl #[.agg #[.int .i64 a0_0, .int .i64 a0_1, .int .i64 a0_2, .int .i64 a0_3, .int .i64 a0_4, .int .i64 a0_5, .int .i64 a0_6]] rfl (by (try simp only [List.map_toArray, List.map_cons, List.map_nil]); first | done | rfl | (simp only [List.length_drop, List.length_take]; rfl)) ?_; (with_reducible refine (l08_Small.calls a0_0 a0_1 a0_2 a0_3 a0_4 a0_5 a0_6 true _ A12.out).mono ?_); rintro e w18 ⟨rfl, hb⟩; refine ⟨_, rfl, ?_⟩; have n0_ := ak_ (blk_below (g := gb401) (o := .cells #[.int .i64 a0_0, .int .i64 a0_1, .int .i64 a0_2, .int .i64 a0_3, .int .i64 a0_4, .int .i64 a0_5, .int .i64 a0_6] 23 (0, 0)) (by (with_reducible repeat (first | apply blk_drewN | apply blk_drew | apply blk_alloc)); exact BK401.out) hb); have n1_ := ak_ (blk_below (g := gb402) (o := .cells #[.slice A1_0 l1_0.length c1_0, .int .i64 a1_1, .int .i64 a1_2, .int .i64 a1_3, .int .i64 a1_4] 57 (0, 0)) (by (with_reducible repeat (first | apply blk_drewN | apply blk_drew | apply blk_alloc)); exact BK402.out) hb); have n2_ := ak_ (blk_below (g := gb403) (o := .cells #[.slice A2_0 l2_0.length c2_0, .int .u16 a2_1] 61 (0, 0)) (by (with_reducible repeat (first | apply blk_drewN | apply blk_drew | apply blk_alloc)); exact BK403.out) hb); have n3_ := ak_ (below_step (by repeat (first | (with_reducible first | exact HB.out | apply below_alloc | apply pw_below_drewN | apply below_drew1 | refine below_set ?_ GE401.out | refine below_set ?_ GE402.out | refine below_set ?_ GE403.out) | exact HB.out)) hb); clear BK401; clear BK402; clear BK403; clear HB; have BK401 := n0_; have BK402 := n1_; have BK403 := n2_; have HB := n3_; clear n0_ n1_ n2_ n3_; (try clear hb); (try clear hb2); (try clear hk); (try clear hi); have hnb19 := NB402_403.out; have hnc19 := NB403_402.out; have hcz20_0 : w18.cell? ⟨gb402, 0, none⟩ = some (.slice A1_0 l1_0.length c1_0) := (bc_ BK402.out 0).trans rfl; have hcz20_1 : w18.cell? ⟨gb402, 1, none⟩ = some (.int .i64 a1_1) := (bc_ BK402.out 1).trans rfl; have hcz20_2 : w18.cell? ⟨gb402, 2, none⟩ = some (.int .i64 a1_2) := (bc_ BK402.out 2).trans rfl; have hcz20_3 : w18.cell? ⟨gb402, 3, none⟩ = some (.int .i64 a1_3) := (bc_ BK402.out 3).trans rfl; have hcz20_4 : w18.cell? ⟨gb402, 4, none⟩ = some (.int .i64 a1_4) := (bc_ BK402.out 4).trans rfl; have hfz20_0 := bf_ BK402.out 0; have hfz20_1 := bf_ BK402.out 1; have hfz20_2 := bf_ BK402.out 2; have hfz20_3 := bf_ BK402.out 3; have hfz20_4 := bf_ BK402.out 4))
      go_meet
      case rel => exact ⟨_, (true), (by first | rfl | (simp; done) | (simp [*]; done)), H', ⟨by have := HJ4.out; first | omega | exact Nat.le_refl _⟩, ⟨by (with_reducible repeat (first | apply blk_drewN | apply blk_drew | apply blk_alloc)); exact BK401.out⟩, ⟨by (with_reducible repeat (first | apply blk_drewN | apply blk_drew | apply blk_alloc)); exact BK402.out⟩, ⟨by (with_reducible repeat (first | apply blk_drewN | apply blk_drew | apply blk_alloc)); exact BK403.out⟩, ⟨by repeat (first | (with_reducible first | exact HB.out | apply below_alloc | apply pw_below_drewN | apply below_drew1 | refine below_set ?_ GE401.out | refine below_set ?_ GE402.out | refine below_set ?_ GE403.out) | exact HB.out)⟩⟩
     ·rw [if_neg c14] at H
      have c14b0 : decide (200 < (l1_0.length : Int)) = false := df_ c14
      have c14b1 : decide (200 < l1_0.length) = false := df_ (by omega)
      clear c14
      (first | rw [c14b0] | (simp only [i64_w, i32_w]; rw [c14b0]) | skip)
      have H' := ak_ H
      clear H
      have hnb21 := NB401_402.out
      have hnc21 := NB402_401.out
      have hnb22 := NB401_403.out
      have hnc22 := NB403_401.out
      have hcz23_0 : wc.cell? ⟨gb401, 0, none⟩ = some (.int .i64 a0_0) := (bc_ BK401.out 0).trans rfl
      have hcz23_1 : wc.cell? ⟨gb401, 1, none⟩ = some (.int .i64 a0_1) := (bc_ BK401.out 1).trans rfl
      have hcz23_2 : wc.cell? ⟨gb401, 2, none⟩ = some (.int .i64 a0_2) := (bc_ BK401.out 2).trans rfl
      have hcz23_3 : wc.cell? ⟨gb401, 3, none⟩ = some (.int .i64 a0_3) := (bc_ BK401.out 3).trans rfl
      have hcz23_4 : wc.cell? ⟨gb401, 4, none⟩ = some (.int .i64 a0_4) := (bc_ BK401.out 4).trans rfl
      have hcz23_5 : wc.cell? ⟨gb401, 5, none⟩ = some (.int .i64 a0_5) := (bc_ BK401.out 5).trans rfl
      have hcz23_6 : wc.cell? ⟨gb401, 6, none⟩ = some (.int .i64 a0_6) := (bc_ BK401.out 6).trans rfl
      have hfz23_0 := bf_ BK401.out 0
      have hfz23_1 := bf_ BK401.out 1
      have hfz23_2 := bf_ BK401.out 2
      have hfz23_3 := bf_ BK401.out 3
      have hfz23_4 := bf_ BK401.out 4
      have hfz23_5 := bf_ BK401.out 5
      have hfz23_6 := bf_ BK401.out 6
      go_wp2_with (first | ((with_reducible refine gate_callee (f := 13) rfl ?_); refine goesL_ (some 24) rfl rfl Try.func13 (by kernel_rfl) rfl #[.agg #[.int .i64 a0_0, .int .i64 a0_1, .int .i64 a0_2, .int .i64 a0_3, .int .i64 a0_4, .int .i64 a0_5, .int .i64 a0_6]] rfl (by (try simp only [List.map_toArray, List.map_cons, List.map_nil]); first | done | rfl | (simp only [List.length_drop, List.length_take]; rfl)) ?_; (with_reducible refine (l08_Small.calls a0_0 a0_1 a0_2 a0_3 a0_4 a0_5 a0_6 true _ A12.out).mono ?_); rintro e w24 ⟨rfl, hb⟩; refine ⟨_, rfl, ?_⟩; have n0_ := ak_ (blk_below (g := gb401) (o := .cells #[.int .i64 a0_0, .int .i64 a0_1, .int .i64 a0_2, .int .i64 a0_3, .int .i64 a0_4, .int .i64 a0_5, .int .i64 a0_6] 23 (0, 0)) (by (with_reducible repeat (first | apply blk_drewN | apply blk_drew | apply blk_alloc)); exact BK401.out) hb); have n1_ := ak_ (blk_below (g := gb402) (o := .cells #[.slice A1_0 l1_0.length c1_0, .int .i64 a1_1, .int .i64 a1_2, .int .i64 a1_3, .int .i64 a1_4] 57 (0, 0)) (by (with_reducible repeat (first | apply blk_drewN | apply blk_drew | apply blk_alloc)); exact BK402.out) hb); have n2_ := ak_ (blk_below (g := gb403) (o := .cells #[.slice A2_0 l2_0.length c2_0, .int .u16 a2_1] 61 (0, 0)) (by (with_reducible repeat (first | apply blk_drewN | apply blk_drew | apply blk_alloc)); exact BK403.out) hb); have n3_ := ak_ (below_step (by repeat (first | (with_reducible first | exact HB.out | apply below_alloc | apply pw_below_drewN | apply below_drew1 | refine below_set ?_ GE401.out | refine below_set ?_ GE402.out | refine below_set ?_ GE403.out) | exact HB.out)) hb); clear BK401; clear BK402; clear BK403; clear HB; have BK401 := n0_; have BK402 := n1_; have BK403 := n2_; have HB := n3_; clear n0_ n1_ n2_ n3_; (try clear hb); (try clear hb2); (try clear hk); (try clear hi); have hnb25 := NB402_403.out; have hnc25 := NB403_402.out; have hcz26_0 : w24.cell? ⟨gb402, 0, none⟩ = some (.slice A1_0 l1_0.length c1_0) := (bc_ BK402.out 0).trans rfl; have hcz26_1 : w24.cell? ⟨gb402, 1, none⟩ = some (.int .i64 a1_1) := (bc_ BK402.out 1).trans rfl; have hcz26_2 : w24.cell? ⟨gb402, 2, none⟩ = some (.int .i64 a1_2) := (bc_ BK402.out 2).trans rfl; have hcz26_3 : w24.cell? ⟨gb402, 3, none⟩ = some (.int .i64 a1_3) := (bc_ BK402.out 3).trans rfl; have hcz26_4 : w24.cell? ⟨gb402, 4, none⟩ = some (.int .i64 a1_4) := (bc_ BK402.out 4).trans rfl; have hfz26_0 := bf_ BK402.out 0; have hfz26_1 := bf_ BK402.out 1; have hfz26_2 := bf_ BK402.out 2; have hfz26_3 := bf_ BK402.out 3; have hfz26_4 := bf_ BK402.out 4; have hcz27_0 : w24.cell? ⟨gb403, 0, none⟩ = some (.slice A2_0 l2_0.length c2_0) := (bc_ BK403.out 0).trans rfl; have hcz27_1 : w24.cell? ⟨gb403, 1, none⟩ = some (.int .u16 a2_1) := (bc_ BK403.out 1).trans rfl; have hfz27_0 := bf_ BK403.out 0; have hfz27_1 := bf_ BK403.out 1))
      go_meet
      case rel => exact ⟨_, (decide ((l2_0.length : Int) > 20)), (by first | rfl | (simp; done) | (simp [*]; done)), H', ⟨by have := HJ4.out; first | omega | exact Nat.le_refl _⟩, ⟨by (with_reducible repeat (first | apply blk_drewN | apply blk_drew | apply blk_alloc)); exact BK401.out⟩, ⟨by (with_reducible repeat (first | apply blk_drewN | apply blk_drew | apply blk_alloc)); exact BK402.out⟩, ⟨by (with_reducible repeat (first | apply blk_drewN | apply blk_drew | apply blk_alloc)); exact BK403.out⟩, ⟨by repeat (first | (with_reducible first | exact HB.out | apply below_alloc | apply pw_below_drewN | apply below_drew1 | refine below_set ?_ GE401.out | refine below_set ?_ GE402.out | refine below_set ?_ GE403.out) | exact HB.out)⟩⟩
    ·replace c13 := Bool.eq_false_iff.mpr c13
     subst c13
     have H1 : (l08_PageBack.j1 kj4 true a0_0 a0_1 a0_2 a0_3 a0_4 a0_5 a0_6 l1_0 a1_1 a1_2 a1_3 a1_4 l2_0 a2_1) = some r := by rw [if_neg (show ¬ (false = true) by decide)] at H; exact H
     clear H
     have H := H1
     clear H1
     have H' := ak_ H
     clear H
     have hnb28 := NB401_402.out
     have hnc28 := NB402_401.out
     have hnb29 := NB401_403.out
     have hnc29 := NB403_401.out
     have hcz30_0 : wc.cell? ⟨gb401, 0, none⟩ = some (.int .i64 a0_0) := (bc_ BK401.out 0).trans rfl
     have hcz30_1 : wc.cell? ⟨gb401, 1, none⟩ = some (.int .i64 a0_1) := (bc_ BK401.out 1).trans rfl
     have hcz30_2 : wc.cell? ⟨gb401, 2, none⟩ = some (.int .i64 a0_2) := (bc_ BK401.out 2).trans rfl
     have hcz30_3 : wc.cell? ⟨gb401, 3, none⟩ = some (.int .i64 a0_3) := (bc_ BK401.out 3).trans rfl
     have hcz30_4 : wc.cell? ⟨gb401, 4, none⟩ = some (.int .i64 a0_4) := (bc_ BK401.out 4).trans rfl
     have hcz30_5 : wc.cell? ⟨gb401, 5, none⟩ = some (.int .i64 a0_5) := (bc_ BK401.out 5).trans rfl
     have hcz30_6 : wc.cell? ⟨gb401, 6, none⟩ = some (.int .i64 a0_6) := (bc_ BK401.out 6).trans rfl
     have hfz30_0 := bf_ BK401.out 0
     have hfz30_1 := bf_ BK401.out 1
     have hfz30_2 := bf_ BK401.out 2
     have hfz30_3 := bf_ BK401.out 3
     have hfz30_4 := bf_ BK401.out 4
     have hfz30_5 := bf_ BK401.out 5
     have hfz30_6 := bf_ BK401.out 6
     go_wp2_with (first | ((with_reducible refine gate_callee (f := 13) rfl ?_); refine goesL_ (some 24) rfl rfl Try.func13 (by kernel_rfl) rfl #[.agg #[.int .i64 a0_0, .int .i64 a0_1, .int .i64 a0_2, .int .i64 a0_3, .int .i64 a0_4, .int .i64 a0_5, .int .i64 a0_6]] rfl (by (try simp only [List.map_toArray, List.map_cons, List.map_nil]); first | done | rfl | (simp only [List.length_drop, List.length_take]; rfl)) ?_; (with_reducible refine (l08_Small.calls a0_0 a0_1 a0_2 a0_3 a0_4 a0_5 a0_6 false _ A12.out).mono ?_); rintro e w31 ⟨rfl, hb⟩; refine ⟨_, rfl, ?_⟩; have n0_ := ak_ (blk_below (g := gb401) (o := .cells #[.int .i64 a0_0, .int .i64 a0_1, .int .i64 a0_2, .int .i64 a0_3, .int .i64 a0_4, .int .i64 a0_5, .int .i64 a0_6] 23 (0, 0)) (by (with_reducible repeat (first | apply blk_drewN | apply blk_drew | apply blk_alloc)); exact BK401.out) hb); have n1_ := ak_ (blk_below (g := gb402) (o := .cells #[.slice A1_0 l1_0.length c1_0, .int .i64 a1_1, .int .i64 a1_2, .int .i64 a1_3, .int .i64 a1_4] 57 (0, 0)) (by (with_reducible repeat (first | apply blk_drewN | apply blk_drew | apply blk_alloc)); exact BK402.out) hb); have n2_ := ak_ (blk_below (g := gb403) (o := .cells #[.slice A2_0 l2_0.length c2_0, .int .u16 a2_1] 61 (0, 0)) (by (with_reducible repeat (first | apply blk_drewN | apply blk_drew | apply blk_alloc)); exact BK403.out) hb); have n3_ := ak_ (below_step (by repeat (first | (with_reducible first | exact HB.out | apply below_alloc | apply pw_below_drewN | apply below_drew1 | refine below_set ?_ GE401.out | refine below_set ?_ GE402.out | refine below_set ?_ GE403.out) | exact HB.out)) hb); clear BK401; clear BK402; clear BK403; clear HB; have BK401 := n0_; have BK402 := n1_; have BK403 := n2_; have HB := n3_; clear n0_ n1_ n2_ n3_; (try clear hb); (try clear hb2); (try clear hk); (try clear hi)))
     go_meet
     case rel => exact ⟨_, (true), (by first | rfl | (simp; done) | (simp [*]; done)), H', ⟨by have := HJ4.out; first | omega | exact Nat.le_refl _⟩, ⟨by (with_reducible repeat (first | apply blk_drewN | apply blk_drew | apply blk_alloc)); exact BK401.out⟩, ⟨by (with_reducible repeat (first | apply blk_drewN | apply blk_drew | apply blk_alloc)); exact BK402.out⟩, ⟨by (with_reducible repeat (first | apply blk_drewN | apply blk_drew | apply blk_alloc)); exact BK403.out⟩, ⟨by repeat (first | (with_reducible first | exact HB.out | apply below_alloc | apply pw_below_drewN | apply below_drew1 | refine below_set ?_ GE401.out | refine below_set ?_ GE402.out | refine below_set ?_ GE403.out) | exact HB.out)⟩⟩
   case rest =>
    clear HC11
    try clear c1
    try clear c2
    try clear p2
    try clear c9
    try clear c10
    try clear c12
    try clear c13
    try clear c14
    try clear c14b0
    try clear c14b1
    try clear c15
    try clear c16
    try clear c19
    try clear c21
    try clear c22
    try clear c25
    try clear c28
    try clear c29
    try clear hcz17_0
    try clear hcz17_1
    try clear hcz17_2
    try clear hcz17_3
    try clear hcz17_4
    try clear hcz17_5
    try clear hcz17_6
    try clear hcz20_0
    try clear hcz20_1
    try clear hcz20_2
    try clear hcz20_3
    try clear hcz20_4
    try clear hcz23_0
    try clear hcz23_1
    try clear hcz23_2
    try clear hcz23_3
    try clear hcz23_4
    try clear hcz23_5
    try clear hcz23_6
    try clear hcz26_0
    try clear hcz26_1
    try clear hcz26_2
    try clear hcz26_3
    try clear hcz26_4
    try clear hcz27_0
    try clear hcz27_1
    try clear hcz30_0
    try clear hcz30_1
    try clear hcz30_2
    try clear hcz30_3
    try clear hcz30_4
    try clear hcz30_5
    try clear hcz30_6
    try clear hfz17_0
    try clear hfz17_1
    try clear hfz17_2
    try clear hfz17_3
    try clear hfz17_4
    try clear hfz17_5
    try clear hfz17_6
    try clear hfz20_0
    try clear hfz20_1
    try clear hfz20_2
    try clear hfz20_3
    try clear hfz20_4
    try clear hfz23_0
    try clear hfz23_1
    try clear hfz23_2
    try clear hfz23_3
    try clear hfz23_4
    try clear hfz23_5
    try clear hfz23_6
    try clear hfz26_0
    try clear hfz26_1
    try clear hfz26_2
    try clear hfz26_3
    try clear hfz26_4
    try clear hfz27_0
    try clear hfz27_1
    try clear hfz30_0
    try clear hfz30_1
    try clear hfz30_2
    try clear hfz30_3
    try clear hfz30_4
    try clear hfz30_5
    try clear hfz30_6
    try clear p2
    obtain ⟨kq, x37_10, rfl, HA, HJ10, BK401, BK402, BK403, HB⟩ := hcut
    cases kq with
    | zero => exact absurd HA.out (by simp [l08_PageBack.j1])
    | succ kj10 =>
     have H := HA.out
     clear HA
     simp only [l08_PageBack.j1] at H
     have HC32 := ak_ H
     clear H
     go_upto_if 37 with (fail)
     go_cut [] (fun wc => ∃ (kq : Nat), Aside0 (l08_PageBack.j2 kq a0_0 a0_1 a0_2 a0_3 a0_4 a0_5 a0_6 l1_0 a1_1 a1_2 a1_3 a1_4 l2_0 a2_1 = some r) ∧ Aside0 (kq ≤ kj10) ∧ Aside0 (wc.heap[gb401]? = some (.cells #[.int .i64 a0_0, .int .i64 a0_1, .int .i64 a0_2, .int .i64 a0_3, .int .i64 a0_4, .int .i64 a0_5, .int .i64 a0_6] 23 (0, 0))) ∧ Aside0 (wc.heap[gb402]? = some (.cells #[(.slice A1_0 l1_0.length c1_0), .int .i64 a1_1, .int .i64 a1_2, .int .i64 a1_3, .int .i64 a1_4] 57 (0, 0))) ∧ Aside0 (wc.heap[gb403]? = some (.cells #[(.slice A2_0 l2_0.length c2_0), .int .u16 a2_1] 61 (0, 0))) ∧ Aside0 (Below w.heap.size w wc))
     case first =>
      have H := HC32.out
      clear HC32
      by_cases c33 : x37_10 = true
      ·subst c33
       have H1 : (some true) = some r := by rw [if_pos rfl] at H; exact H
       clear H
       have H := H1
       clear H1
       obtain rfl := si_ H
       go_wp2
       go_ret
       exact ⟨by first | rfl | (simp [errW_none, errW_some] <;> rfl) | (simp [*, errW_none, errW_some] <;> rfl) | (have hz_ : ∀ z : Int, -9223372036854775808 ≤ z → z ≤ 9223372036854775807 → wrap64 z = z := (fun z h1_ h2_ => by unfold wrap64; omega); rw [hz_] <;> first | rfl | omega), by repeat (first | (with_reducible first | exact HB.out | apply below_alloc | apply pw_below_drewN | apply below_drew1 | refine below_set ?_ GE401.out | refine below_set ?_ GE402.out | refine below_set ?_ GE403.out) | exact HB.out)⟩
      ·replace c33 := Bool.eq_false_iff.mpr c33
       subst c33
       have H1 : (l08_PageBack.j2 kj10 a0_0 a0_1 a0_2 a0_3 a0_4 a0_5 a0_6 l1_0 a1_1 a1_2 a1_3 a1_4 l2_0 a2_1) = some r := by rw [if_neg (show ¬ (false = true) by decide)] at H; exact H
       clear H
       have H := H1
       clear H1
       have H' := ak_ H
       clear H
       go_wp2
       go_meet
       case rel => exact ⟨_, H', ⟨by have := HJ4.out; have := HJ10.out; first | omega | exact Nat.le_refl _⟩, ⟨by (with_reducible repeat (first | apply blk_drewN | apply blk_drew | apply blk_alloc)); exact BK401.out⟩, ⟨by (with_reducible repeat (first | apply blk_drewN | apply blk_drew | apply blk_alloc)); exact BK402.out⟩, ⟨by (with_reducible repeat (first | apply blk_drewN | apply blk_drew | apply blk_alloc)); exact BK403.out⟩, ⟨by repeat (first | (with_reducible first | exact HB.out | apply below_alloc | apply pw_below_drewN | apply below_drew1 | refine below_set ?_ GE401.out | refine below_set ?_ GE402.out | refine below_set ?_ GE403.out) | exact HB.out)⟩⟩
     case rest =>
      clear HC32
      try clear c1
      try clear c2
      try clear p2
      try clear c3
      try clear c9
      try clear c10
      try clear c12
      try clear c13
      try clear c14
      try clear c14b0
      try clear c14b1
      try clear c15
      try clear c16
      try clear c19
      try clear c21
      try clear c22
      try clear c25
      try clear c28
      try clear c29
      try clear c33
      try clear hcz17_0
      try clear hcz17_1
      try clear hcz17_2
      try clear hcz17_3
      try clear hcz17_4
      try clear hcz17_5
      try clear hcz17_6
      try clear hcz20_0
      try clear hcz20_1
      try clear hcz20_2
      try clear hcz20_3
      try clear hcz20_4
      try clear hcz23_0
      try clear hcz23_1
      try clear hcz23_2
      try clear hcz23_3
      try clear hcz23_4
      try clear hcz23_5
      try clear hcz23_6
      try clear hcz26_0
      try clear hcz26_1
      try clear hcz26_2
      try clear hcz26_3
      try clear hcz26_4
      try clear hcz27_0
      try clear hcz27_1
      try clear hcz30_0
      try clear hcz30_1
      try clear hcz30_2
      try clear hcz30_3
      try clear hcz30_4
      try clear hcz30_5
      try clear hcz30_6
      try clear hfz17_0
      try clear hfz17_1
      try clear hfz17_2
      try clear hfz17_3
      try clear hfz17_4
      try clear hfz17_5
      try clear hfz17_6
      try clear hfz20_0
      try clear hfz20_1
      try clear hfz20_2
      try clear hfz20_3
      try clear hfz20_4
      try clear hfz23_0
      try clear hfz23_1
      try clear hfz23_2
      try clear hfz23_3
      try clear hfz23_4
      try clear hfz23_5
      try clear hfz23_6
      try clear hfz26_0
      try clear hfz26_1
      try clear hfz26_2
      try clear hfz26_3
      try clear hfz26_4
      try clear hfz27_0
      try clear hfz27_1
      try clear hfz30_0
      try clear hfz30_1
      try clear hfz30_2
      try clear hfz30_3
      try clear hfz30_4
      try clear hfz30_5
      try clear hfz30_6
      try clear p2
      obtain ⟨kq, HA, HJ31, BK401, BK402, BK403, HB⟩ := hcut
      cases kq with
      | zero => exact absurd HA.out (by simp [l08_PageBack.j2])
      | succ kj31 =>
       have H := HA.out
       clear HA
       simp only [l08_PageBack.j2] at H
       replace H := Option.bind_eq_some_iff.mp H
       obtain ⟨⟨t406, t409⟩, A340, H⟩ := H
       replace H : (if t409 = 0 then (l08_PageBack.j3 kj31 t406 a0_0 a0_1 a0_2 a0_3 a0_4 a0_5 a0_6 l1_0 a1_1 a1_2 a1_3 a1_4 l2_0 a2_1) else (some ((t406.length : Int) == 0))) = some r := H
       have A34 := ak_ A340
       clear A340
       have HC35 := ak_ H
       clear H
       have hnb36 := NB401_402.out
       have hnc36 := NB402_401.out
       have hnb37 := NB401_403.out
       have hnc37 := NB403_401.out
       have hcz38_0 : wc.cell? ⟨gb401, 0, none⟩ = some (.int .i64 a0_0) := (bc_ BK401.out 0).trans rfl
       have hcz38_1 : wc.cell? ⟨gb401, 1, none⟩ = some (.int .i64 a0_1) := (bc_ BK401.out 1).trans rfl
       have hcz38_2 : wc.cell? ⟨gb401, 2, none⟩ = some (.int .i64 a0_2) := (bc_ BK401.out 2).trans rfl
       have hcz38_3 : wc.cell? ⟨gb401, 3, none⟩ = some (.int .i64 a0_3) := (bc_ BK401.out 3).trans rfl
       have hcz38_4 : wc.cell? ⟨gb401, 4, none⟩ = some (.int .i64 a0_4) := (bc_ BK401.out 4).trans rfl
       have hcz38_5 : wc.cell? ⟨gb401, 5, none⟩ = some (.int .i64 a0_5) := (bc_ BK401.out 5).trans rfl
       have hcz38_6 : wc.cell? ⟨gb401, 6, none⟩ = some (.int .i64 a0_6) := (bc_ BK401.out 6).trans rfl
       have hfz38_0 := bf_ BK401.out 0
       have hfz38_1 := bf_ BK401.out 1
       have hfz38_2 := bf_ BK401.out 2
       have hfz38_3 := bf_ BK401.out 3
       have hfz38_4 := bf_ BK401.out 4
       have hfz38_5 := bf_ BK401.out 5
       have hfz38_6 := bf_ BK401.out 6
       have hnb39 := NB402_403.out
       have hnc39 := NB403_402.out
       have hcz40_0 : wc.cell? ⟨gb402, 0, none⟩ = some (.slice A1_0 l1_0.length c1_0) := (bc_ BK402.out 0).trans rfl
       have hcz40_1 : wc.cell? ⟨gb402, 1, none⟩ = some (.int .i64 a1_1) := (bc_ BK402.out 1).trans rfl
       have hcz40_2 : wc.cell? ⟨gb402, 2, none⟩ = some (.int .i64 a1_2) := (bc_ BK402.out 2).trans rfl
       have hcz40_3 : wc.cell? ⟨gb402, 3, none⟩ = some (.int .i64 a1_3) := (bc_ BK402.out 3).trans rfl
       have hcz40_4 : wc.cell? ⟨gb402, 4, none⟩ = some (.int .i64 a1_4) := (bc_ BK402.out 4).trans rfl
       have hfz40_0 := bf_ BK402.out 0
       have hfz40_1 := bf_ BK402.out 1
       have hfz40_2 := bf_ BK402.out 2
       have hfz40_3 := bf_ BK402.out 3
       have hfz40_4 := bf_ BK402.out 4
       go_upto_if 48 with (first | ((with_reducible refine gate_callee (f := 14) rfl ?_); refine goesL_ (some 44) rfl rfl Try.func14 (by kernel_rfl) rfl #[.agg #[.int .i64 a0_0, .int .i64 a0_1, .int .i64 a0_2, .int .i64 a0_3, .int .i64 a0_4, .int .i64 a0_5, .int .i64 a0_6], .slice A1_0 l1_0.length c1_0, .agg #[.int .i64 a1_1, .int .i64 a1_2, .int .i64 a1_3, .int .i64 a1_4]] rfl (by (try simp only [List.map_toArray, List.map_cons, List.map_nil]); first | done | rfl | (simp only [List.length_drop, List.length_take]; rfl)) ?_; (with_reducible refine (page_Encode.calls kj31 a0_0 a0_1 a0_2 a0_3 a0_4 a0_5 a0_6 (fun k_ => k_ < w.heap.size) _ _ l1_0 a1_1 a1_2 a1_3 a1_4 t406 t409 _ ?side1 A34.out).mono ?_); (case side1 => exact Kd.V_mk HC1_0.out (Kd.F_below (Kd.C_F (Kd.heap_int .u8) HR1_0.out) (by repeat (first | (with_reducible first | exact HB.out | apply below_alloc | apply pw_below_drewN | apply below_drew1 | refine below_set ?_ GE401.out | refine below_set ?_ GE402.out | refine below_set ?_ GE403.out) | exact HB.out)))); rintro e w41 ⟨v407, rfl, ho0, hb⟩; refine ⟨_, rfl, ?_⟩; have n0_ := ak_ (Kd.R_lower (Kd.R_mono (ok' := fun k_ => True) ho0 (fun _ hk_ => trivial)) (below_size (by repeat (first | (with_reducible first | exact HB.out | apply below_alloc | apply pw_below_drewN | apply below_drew1 | refine below_set ?_ GE401.out | refine below_set ?_ GE402.out | refine below_set ?_ GE403.out) | exact HB.out)))); have n1_ := ak_ (blk_below (g := gb401) (o := .cells #[.int .i64 a0_0, .int .i64 a0_1, .int .i64 a0_2, .int .i64 a0_3, .int .i64 a0_4, .int .i64 a0_5, .int .i64 a0_6] 23 (0, 0)) (by (with_reducible repeat (first | apply blk_drewN | apply blk_drew | apply blk_alloc)); exact BK401.out) hb); have n2_ := ak_ (blk_below (g := gb402) (o := .cells #[.slice A1_0 l1_0.length c1_0, .int .i64 a1_1, .int .i64 a1_2, .int .i64 a1_3, .int .i64 a1_4] 57 (0, 0)) (by (with_reducible repeat (first | apply blk_drewN | apply blk_drew | apply blk_alloc)); exact BK402.out) hb); have n3_ := ak_ (blk_below (g := gb403) (o := .cells #[.slice A2_0 l2_0.length c2_0, .int .u16 a2_1] 61 (0, 0)) (by (with_reducible repeat (first | apply blk_drewN | apply blk_drew | apply blk_alloc)); exact BK403.out) hb); have n4_ := ak_ (below_step (by repeat (first | (with_reducible first | exact HB.out | apply below_alloc | apply pw_below_drewN | apply below_drew1 | refine below_set ?_ GE401.out | refine below_set ?_ GE402.out | refine below_set ?_ GE403.out) | exact HB.out)) hb); clear BK401; clear BK402; clear BK403; clear HB; have HO408 := n0_; have BK401 := n1_; have BK402 := n2_; have BK403 := n3_; have HB := n4_; clear n0_ n1_ n2_ n3_ n4_; (try clear hb); (try clear hb2); (try clear hk); (try clear hi); (try clear ho0)))
       (try simp only [Act.put, sb_, sz_, su_])
       go_cut [] (fun wc => ∃ (kq : Nat), Aside0 (l08_PageBack.j3 kq t406 a0_0 a0_1 a0_2 a0_3 a0_4 a0_5 a0_6 l1_0 a1_1 a1_2 a1_3 a1_4 l2_0 a2_1 = some r) ∧ Aside0 (kq ≤ kj31) ∧ Aside0 (Kd.R (Kd.int .u8) 5 wc w.heap.size (fun _ => True) v407 t406) ∧ Aside0 (wc.heap[gb401]? = some (.cells #[.int .i64 a0_0, .int .i64 a0_1, .int .i64 a0_2, .int .i64 a0_3, .int .i64 a0_4, .int .i64 a0_5, .int .i64 a0_6] 23 (0, 0))) ∧ Aside0 (wc.heap[gb402]? = some (.cells #[(.slice A1_0 l1_0.length c1_0), .int .i64 a1_1, .int .i64 a1_2, .int .i64 a1_3, .int .i64 a1_4] 57 (0, 0))) ∧ Aside0 (wc.heap[gb403]? = some (.cells #[(.slice A2_0 l2_0.length c2_0), .int .u16 a2_1] 61 (0, 0))) ∧ Aside0 (Below w.heap.size w wc))
       case first =>
        have H := HC35.out
        clear HC35
        by_cases c42 : t409 = 0
        ·rw [if_pos c42] at H
         have c42b0 : (t409 == 0) = true := beq_iff_eq.mpr c42
         have c42b1 : (t409 != 0) = false := bne_eq_false_iff_eq.mpr c42
         clear c42
         (first | rw [c42b0] | (simp only [i64_w, i32_w]; rw [c42b0]) | skip)
         have H' := ak_ H
         clear H
         go_wp2
         go_meet
         case rel => exact ⟨_, H', ⟨by have := HJ4.out; have := HJ10.out; have := HJ31.out; first | omega | exact Nat.le_refl _⟩, ⟨by (with_reducible repeat (first | apply Kd.R_alloc | apply Kd.R_drewN | apply Kd.R_drew)); exact HO408.out⟩, ⟨by (with_reducible repeat (first | apply blk_drewN | apply blk_drew | apply blk_alloc)); exact BK401.out⟩, ⟨by (with_reducible repeat (first | apply blk_drewN | apply blk_drew | apply blk_alloc)); exact BK402.out⟩, ⟨by (with_reducible repeat (first | apply blk_drewN | apply blk_drew | apply blk_alloc)); exact BK403.out⟩, ⟨by repeat (first | (with_reducible first | exact HB.out | apply below_alloc | apply pw_below_drewN | apply below_drew1 | refine below_set ?_ GE401.out | refine below_set ?_ GE402.out | refine below_set ?_ GE403.out) | exact HB.out)⟩⟩
        ·rw [if_neg c42] at H
         have c42b0 : (t409 == 0) = false := beq_eq_false_iff_ne.mpr c42
         have c42b1 : (t409 != 0) = true := bne_iff_ne.mpr c42
         (first | rw [c42b0] | (simp only [i64_w, i32_w]; rw [c42b0]) | skip)
         obtain rfl := si_ H
         obtain ⟨Ao43, co43, eo43⟩ := Kd.R_slice HO408.out
         subst eo43
         go_wp2
         go_ret
         exact ⟨by first | rfl | (simp [errW_none, errW_some] <;> rfl) | (simp [*, errW_none, errW_some] <;> rfl) | (have hz_ : ∀ z : Int, -9223372036854775808 ≤ z → z ≤ 9223372036854775807 → wrap64 z = z := (fun z h1_ h2_ => by unfold wrap64; omega); rw [hz_] <;> first | rfl | omega), by repeat (first | (with_reducible first | exact HB.out | apply below_alloc | apply pw_below_drewN | apply below_drew1 | refine below_set ?_ GE401.out | refine below_set ?_ GE402.out | refine below_set ?_ GE403.out) | exact HB.out)⟩
       case rest =>
        clear HC35
        try clear c1
        try clear c2
        try clear p2
        try clear c3
        try clear c4
        try clear c9
        try clear c10
        try clear c12
        try clear c13
        try clear c14
        try clear c14b0
        try clear c14b1
        try clear c15
        try clear c16
        try clear c19
        try clear c21
        try clear c22
        try clear c25
        try clear c28
        try clear c29
        try clear c33
        try clear c36
        try clear c37
        try clear c39
        try clear c42
        try clear c42b0
        try clear c42b1
        try clear hcz17_0
        try clear hcz17_1
        try clear hcz17_2
        try clear hcz17_3
        try clear hcz17_4
        try clear hcz17_5
        try clear hcz17_6
        try clear hcz20_0
        try clear hcz20_1
        try clear hcz20_2
        try clear hcz20_3
        try clear hcz20_4
        try clear hcz23_0
        try clear hcz23_1
        try clear hcz23_2
        try clear hcz23_3
        try clear hcz23_4
        try clear hcz23_5
        try clear hcz23_6
        try clear hcz26_0
        try clear hcz26_1
        try clear hcz26_2
        try clear hcz26_3
        try clear hcz26_4
        try clear hcz27_0
        try clear hcz27_1
        try clear hcz30_0
        try clear hcz30_1
        try clear hcz30_2
        try clear hcz30_3
        try clear hcz30_4
        try clear hcz30_5
        try clear hcz30_6
        try clear hcz38_0
        try clear hcz38_1
        try clear hcz38_2
        try clear hcz38_3
        try clear hcz38_4
        try clear hcz38_5
        try clear hcz38_6
        try clear hcz40_0
        try clear hcz40_1
        try clear hcz40_2
        try clear hcz40_3
        try clear hcz40_4
        try clear hfz17_0
        try clear hfz17_1
        try clear hfz17_2
        try clear hfz17_3
        try clear hfz17_4
        try clear hfz17_5
        try clear hfz17_6
        try clear hfz20_0
        try clear hfz20_1
        try clear hfz20_2
        try clear hfz20_3
        try clear hfz20_4
        try clear hfz23_0
        try clear hfz23_1
        try clear hfz23_2
        try clear hfz23_3
        try clear hfz23_4
        try clear hfz23_5
        try clear hfz23_6
        try clear hfz26_0
        try clear hfz26_1
        try clear hfz26_2
        try clear hfz26_3
        try clear hfz26_4
        try clear hfz27_0
        try clear hfz27_1
        try clear hfz30_0
        try clear hfz30_1
        try clear hfz30_2
        try clear hfz30_3
        try clear hfz30_4
        try clear hfz30_5
        try clear hfz30_6
        try clear hfz38_0
        try clear hfz38_1
        try clear hfz38_2
        try clear hfz38_3
        try clear hfz38_4
        try clear hfz38_5
        try clear hfz38_6
        try clear hfz40_0
        try clear hfz40_1
        try clear hfz40_2
        try clear hfz40_3
        try clear hfz40_4
        try clear p2
        obtain ⟨kq, HA, HJ34, HO_7, BK401, BK402, BK403, HB⟩ := hcut
        cases kq with
        | zero => exact absurd HA.out (by simp [l08_PageBack.j3])
        | succ kj34 =>
         have H := HA.out
         clear HA
         simp only [l08_PageBack.j3] at H
         replace H := Option.bind_eq_some_iff.mp H
         obtain ⟨t410, A440, H⟩ := H
         replace H : ((page_Decode.f kj34 a0_0 a0_1 a0_2 a0_3 a0_4 a0_5 a0_6 t410).bind fun bt413 => (if bt413.2.2.2.2.2.2 = 0 then ((r01_Same.f kj34 bt413.1 l1_0).bind fun t423 => (if t423 = true then (if (!(bt413.2.1 == a1_1) || (!(bt413.2.2.1 == a1_2) || (!(bt413.2.2.2.1 == a1_3) || (!(bt413.2.2.2.2.1 == a1_4))))) = true then (none) else ((r01_Same.f kj34 t410 t406).bind fun t424 => (if ((bt413.2.2.2.2.2.1 == 0) != t424) = true then (none) else (if bt413.2.2.2.2.2.1 = 2 then (none) else ((page_Marked.f kj34 a0_0 a0_1 a0_2 a0_3 a0_4 a0_5 a0_6 t410).bind fun t425 => (if t425 = true then (none) else (l08_PageBack.j4 kj34 t406 a0_0 a0_1 a0_2 a0_3 a0_4 a0_5 a0_6 l2_0 a2_1))))))) else (none))) else (none))) = some r := H
         have A44 := ak_ A440
         clear A440
         replace H := Option.bind_eq_some_iff.mp H
         obtain ⟨⟨t413, t416, t417, t418, t419, t420, t421⟩, A450, H⟩ := H
         replace H : (if t421 = 0 then ((r01_Same.f kj34 t413 l1_0).bind fun t423 => (if t423 = true then (if (!(t416 == a1_1) || (!(t417 == a1_2) || (!(t418 == a1_3) || (!(t419 == a1_4))))) = true then (none) else ((r01_Same.f kj34 t410 t406).bind fun t424 => (if ((t420 == 0) != t424) = true then (none) else (if t420 = 2 then (none) else ((page_Marked.f kj34 a0_0 a0_1 a0_2 a0_3 a0_4 a0_5 a0_6 t410).bind fun t425 => (if t425 = true then (none) else (l08_PageBack.j4 kj34 t406 a0_0 a0_1 a0_2 a0_3 a0_4 a0_5 a0_6 l2_0 a2_1))))))) else (none))) else (none)) = some r := H
         have A45 := ak_ A450
         clear A450
         by_cases c46 : t421 = 0
         ·rw [if_pos c46] at H
          have c46b0 : (t421 == 0) = true := beq_iff_eq.mpr c46
          have c46b1 : (t421 != 0) = false := bne_eq_false_iff_eq.mpr c46
          clear c46
          replace H := Option.bind_eq_some_iff.mp H
          obtain ⟨t423, A470, H⟩ := H
          replace H : (if t423 = true then (if (!(t416 == a1_1) || (!(t417 == a1_2) || (!(t418 == a1_3) || (!(t419 == a1_4))))) = true then (none) else ((r01_Same.f kj34 t410 t406).bind fun t424 => (if ((t420 == 0) != t424) = true then (none) else (if t420 = 2 then (none) else ((page_Marked.f kj34 a0_0 a0_1 a0_2 a0_3 a0_4 a0_5 a0_6 t410).bind fun t425 => (if t425 = true then (none) else (l08_PageBack.j4 kj34 t406 a0_0 a0_1 a0_2 a0_3 a0_4 a0_5 a0_6 l2_0 a2_1))))))) else (none)) = some r := H
          have A47 := ak_ A470
          clear A470
          by_cases c48 : t423 = true
          ·subst c48
           have H1 : (if (!(t416 == a1_1) || (!(t417 == a1_2) || (!(t418 == a1_3) || (!(t419 == a1_4))))) = true then (none) else ((r01_Same.f kj34 t410 t406).bind fun t424 => (if ((t420 == 0) != t424) = true then (none) else (if t420 = 2 then (none) else ((page_Marked.f kj34 a0_0 a0_1 a0_2 a0_3 a0_4 a0_5 a0_6 t410).bind fun t425 => (if t425 = true then (none) else (l08_PageBack.j4 kj34 t406 a0_0 a0_1 a0_2 a0_3 a0_4 a0_5 a0_6 l2_0 a2_1))))))) = some r := by rw [if_pos rfl] at H; exact H
           clear H
           have H := H1
           clear H1
           by_cases c49 : (!(t416 == a1_1) || (!(t417 == a1_2) || (!(t418 == a1_3) || (!(t419 == a1_4))))) = true
           ·rw [if_pos c49] at H
            exact absurd H (by simp)
           ·rw [if_neg c49] at H
            have c49b0 : (!(t416 == a1_1) || (!(t417 == a1_2) || (!(t418 == a1_3) || (!(t419 == a1_4))))) = false := by simpa using c49
            clear c49
            replace H := Option.bind_eq_some_iff.mp H
            obtain ⟨t424, A500, H⟩ := H
            replace H : (if ((t420 == 0) != t424) = true then (none) else (if t420 = 2 then (none) else ((page_Marked.f kj34 a0_0 a0_1 a0_2 a0_3 a0_4 a0_5 a0_6 t410).bind fun t425 => (if t425 = true then (none) else (l08_PageBack.j4 kj34 t406 a0_0 a0_1 a0_2 a0_3 a0_4 a0_5 a0_6 l2_0 a2_1))))) = some r := H
            have A50 := ak_ A500
            clear A500
            by_cases c51 : ((t420 == 0) != t424) = true
            ·rw [if_pos c51] at H
             exact absurd H (by simp)
            ·rw [if_neg c51] at H
             have c51b0 : ((t420 == 0) != t424) = false := by simpa using c51
             (try (have c51b1 : decide ((t420 == 0) = t424) = true := by simpa using c51))
             (try (have c51b2 : ((t420 == 0) == t424) = true := by simpa using c51))
             clear c51
             by_cases c52 : t420 = 2
             ·rw [if_pos c52] at H
              exact absurd H (by simp)
             ·rw [if_neg c52] at H
              have c52b0 : (t420 == 2) = false := beq_eq_false_iff_ne.mpr c52
              have c52b1 : (t420 != 2) = true := bne_iff_ne.mpr c52
              replace H := Option.bind_eq_some_iff.mp H
              obtain ⟨t425, A530, H⟩ := H
              replace H : (if t425 = true then (none) else (l08_PageBack.j4 kj34 t406 a0_0 a0_1 a0_2 a0_3 a0_4 a0_5 a0_6 l2_0 a2_1)) = some r := H
              have A53 := ak_ A530
              clear A530
              have HC54 := ak_ H
              clear H
              have hnb55 := NB401_402.out
              have hnc55 := NB402_401.out
              have hnb56 := NB401_403.out
              have hnc56 := NB403_401.out
              have hcz57_0 : wc.cell? ⟨gb401, 0, none⟩ = some (.int .i64 a0_0) := (bc_ BK401.out 0).trans rfl
              have hcz57_1 : wc.cell? ⟨gb401, 1, none⟩ = some (.int .i64 a0_1) := (bc_ BK401.out 1).trans rfl
              have hcz57_2 : wc.cell? ⟨gb401, 2, none⟩ = some (.int .i64 a0_2) := (bc_ BK401.out 2).trans rfl
              have hcz57_3 : wc.cell? ⟨gb401, 3, none⟩ = some (.int .i64 a0_3) := (bc_ BK401.out 3).trans rfl
              have hcz57_4 : wc.cell? ⟨gb401, 4, none⟩ = some (.int .i64 a0_4) := (bc_ BK401.out 4).trans rfl
              have hcz57_5 : wc.cell? ⟨gb401, 5, none⟩ = some (.int .i64 a0_5) := (bc_ BK401.out 5).trans rfl
              have hcz57_6 : wc.cell? ⟨gb401, 6, none⟩ = some (.int .i64 a0_6) := (bc_ BK401.out 6).trans rfl
              have hfz57_0 := bf_ BK401.out 0
              have hfz57_1 := bf_ BK401.out 1
              have hfz57_2 := bf_ BK401.out 2
              have hfz57_3 := bf_ BK401.out 3
              have hfz57_4 := bf_ BK401.out 4
              have hfz57_5 := bf_ BK401.out 5
              have hfz57_6 := bf_ BK401.out 6
              have hnb58 := NB403_402.out
              have hnc58 := NB402_403.out
              have hcz59_0 : wc.cell? ⟨gb403, 0, none⟩ = some (.slice A2_0 l2_0.length c2_0) := (bc_ BK403.out 0).trans rfl
              have hcz59_1 : wc.cell? ⟨gb403, 1, none⟩ = some (.int .u16 a2_1) := (bc_ BK403.out 1).trans rfl
              have hfz59_0 := bf_ BK403.out 0
              have hfz59_1 := bf_ BK403.out 1
              obtain ⟨Ao60, co60, eo60⟩ := Kd.R_slice HO_7.out
              subst eo60
              go_upto_if 96 with (first | ((with_reducible refine gate_callee (f := 33) rfl ?_); refine goesL_ (some 56) rfl rfl Try.func33 (by kernel_rfl) rfl #[.agg #[.int .i64 a0_0, .int .i64 a0_1, .int .i64 a0_2, .int .i64 a0_3, .int .i64 a0_4, .int .i64 a0_5, .int .i64 a0_6], .slice Ao60 t406.length co60, .slice A2_0 l2_0.length c2_0] rfl (by (try simp only [List.map_toArray, List.map_cons, List.map_nil]); first | done | rfl | (simp only [List.length_drop, List.length_take]; rfl)) ?_; (with_reducible refine (l08_turn.calls kj34 a0_0 a0_1 a0_2 a0_3 a0_4 a0_5 a0_6 (fun k_ => some k_ = (.slice Ao60 t406.length co60 : Value).ownBlock) _ _ t406 _ _ l2_0 t410 _ ?side1 ?side2 ?side3 A44.out).mono ?_); (case side1 => exact Kd.R_V (Kd.R_tight rfl (Kd.R_types (Kd.R_types (Kd.R_types (HO_7.out) BK401.out (by decide)) BK402.out (by decide)) BK403.out (by decide)))); (case side2 => repeat (first | exact (Kd.C_below HR2_0.out HB.out) | (with_reducible refine Kd.C_alloc ?_ _) | (with_reducible refine Kd.C_drewN ?_ _) | (with_reducible refine Kd.C_drew ?_))); (case side3 => exact HC2_0.out); rintro e w61 ⟨v411, rfl, ho0, hb⟩; refine ⟨_, rfl, ?_⟩; have n0_ := ak_ (Kd.R_below (by (with_reducible repeat (first | apply Kd.R_alloc | apply Kd.R_drewN | apply Kd.R_drew)); exact HO_7.out) hb); have n1_ := ak_ (Kd.V_lower (Kd.V_mono (ok' := fun k_ => k_ ≠ gb401 ∧ k_ ≠ gb402 ∧ k_ ≠ gb403) ho0 (fun k_ hk_ => ⟨Or.elim hk_ (fun hs_ => ((Kd.R_types (Kd.R_types (Kd.R_types (HO_7.out) BK401.out (by decide)) BK402.out (by decide)) BK403.out (by decide)).1 k_ hs_.symm).1.1.2) (fun hn_ => (Kd.freshB (g := gb401) (o := .cells #[.int .i64 a0_0, .int .i64 a0_1, .int .i64 a0_2, .int .i64 a0_3, .int .i64 a0_4, .int .i64 a0_5, .int .i64 a0_6] 23 (0, 0)) (by (with_reducible repeat (first | apply blk_drewN | apply blk_drew | apply blk_alloc)); exact BK401.out) k_ hn_)), Or.elim hk_ (fun hs_ => ((Kd.R_types (Kd.R_types (Kd.R_types (HO_7.out) BK401.out (by decide)) BK402.out (by decide)) BK403.out (by decide)).1 k_ hs_.symm).1.2) (fun hn_ => (Kd.freshB (g := gb402) (o := .cells #[.slice A1_0 l1_0.length c1_0, .int .i64 a1_1, .int .i64 a1_2, .int .i64 a1_3, .int .i64 a1_4] 57 (0, 0)) (by (with_reducible repeat (first | apply blk_drewN | apply blk_drew | apply blk_alloc)); exact BK402.out) k_ hn_)), Or.elim hk_ (fun hs_ => ((Kd.R_types (Kd.R_types (Kd.R_types (HO_7.out) BK401.out (by decide)) BK402.out (by decide)) BK403.out (by decide)).1 k_ hs_.symm).2) (fun hn_ => (Kd.freshB (g := gb403) (o := .cells #[.slice A2_0 l2_0.length c2_0, .int .u16 a2_1] 61 (0, 0)) (by (with_reducible repeat (first | apply blk_drewN | apply blk_drew | apply blk_alloc)); exact BK403.out) k_ hn_))⟩)) (below_size (by repeat (first | (with_reducible first | exact HB.out | apply below_alloc | apply pw_below_drewN | apply below_drew1 | refine below_set ?_ GE401.out | refine below_set ?_ GE402.out | refine below_set ?_ GE403.out) | exact HB.out)))); have n2_ := ak_ (blk_below (g := gb401) (o := .cells #[.int .i64 a0_0, .int .i64 a0_1, .int .i64 a0_2, .int .i64 a0_3, .int .i64 a0_4, .int .i64 a0_5, .int .i64 a0_6] 23 (0, 0)) (by (with_reducible repeat (first | apply blk_drewN | apply blk_drew | apply blk_alloc)); exact BK401.out) hb); have n3_ := ak_ (blk_below (g := gb402) (o := .cells #[.slice A1_0 l1_0.length c1_0, .int .i64 a1_1, .int .i64 a1_2, .int .i64 a1_3, .int .i64 a1_4] 57 (0, 0)) (by (with_reducible repeat (first | apply blk_drewN | apply blk_drew | apply blk_alloc)); exact BK402.out) hb); have n4_ := ak_ (blk_below (g := gb403) (o := .cells #[.slice A2_0 l2_0.length c2_0, .int .u16 a2_1] 61 (0, 0)) (by (with_reducible repeat (first | apply blk_drewN | apply blk_drew | apply blk_alloc)); exact BK403.out) hb); have n5_ := ak_ (below_step (by repeat (first | (with_reducible first | exact HB.out | apply below_alloc | apply pw_below_drewN | apply below_drew1 | refine below_set ?_ GE401.out | refine below_set ?_ GE402.out | refine below_set ?_ GE403.out) | exact HB.out)) hb); clear HO_7; clear BK401; clear BK402; clear BK403; clear HB; have HO_7 := n0_; have HO412 := n1_; have BK401 := n2_; have BK402 := n3_; have BK403 := n4_; have HB := n5_; clear n0_ n1_ n2_ n3_ n4_ n5_; (try clear hb); (try clear hb2); (try clear hk); (try clear hi); (try clear ho0); have hcz62_0 : w61.cell? ⟨gb401, 0, none⟩ = some (.int .i64 a0_0) := (bc_ BK401.out 0).trans rfl; have hcz62_1 : w61.cell? ⟨gb401, 1, none⟩ = some (.int .i64 a0_1) := (bc_ BK401.out 1).trans rfl; have hcz62_2 : w61.cell? ⟨gb401, 2, none⟩ = some (.int .i64 a0_2) := (bc_ BK401.out 2).trans rfl; have hcz62_3 : w61.cell? ⟨gb401, 3, none⟩ = some (.int .i64 a0_3) := (bc_ BK401.out 3).trans rfl; have hcz62_4 : w61.cell? ⟨gb401, 4, none⟩ = some (.int .i64 a0_4) := (bc_ BK401.out 4).trans rfl; have hcz62_5 : w61.cell? ⟨gb401, 5, none⟩ = some (.int .i64 a0_5) := (bc_ BK401.out 5).trans rfl; have hcz62_6 : w61.cell? ⟨gb401, 6, none⟩ = some (.int .i64 a0_6) := (bc_ BK401.out 6).trans rfl; have hfz62_0 := bf_ BK401.out 0; have hfz62_1 := bf_ BK401.out 1; have hfz62_2 := bf_ BK401.out 2; have hfz62_3 := bf_ BK401.out 3; have hfz62_4 := bf_ BK401.out 4; have hfz62_5 := bf_ BK401.out 5; have hfz62_6 := bf_ BK401.out 6; obtain ⟨Ao63, co63, eo63⟩ := Kd.V_slice HO412.out; subst eo63) | ((with_reducible refine gate_callee (f := 30) rfl ?_); refine goesL_ (some 60) rfl rfl Try.func30 (by kernel_rfl) rfl #[.agg #[.int .i64 a0_0, .int .i64 a0_1, .int .i64 a0_2, .int .i64 a0_3, .int .i64 a0_4, .int .i64 a0_5, .int .i64 a0_6], .slice Ao63 t410.length co63] rfl (by (try simp only [List.map_toArray, List.map_cons, List.map_nil]); first | done | rfl | (simp only [List.length_drop, List.length_take]; rfl)) ?_; (with_reducible refine (page_Decode.calls kj34 a0_0 a0_1 a0_2 a0_3 a0_4 a0_5 a0_6 _ _ t410 t413 t416 t417 t418 t419 t420 t421 _ ?side1 ?side2 A45.out).mono ?_); (case side1 => repeat (first | exact (Kd.V_reads' HO412.out).2.2 | (with_reducible refine Kd.C_alloc ?_ _) | (with_reducible refine Kd.C_drewN ?_ _) | (with_reducible refine Kd.C_drew ?_))); (case side2 => exact (Kd.V_reads' HO412.out).2.1); rintro e w64 ⟨v414, rfl, ho0, hb⟩; refine ⟨_, rfl, ?_⟩; have n0_ := ak_ (Kd.R_elder' (by (with_reducible repeat (first | apply Kd.R_alloc | apply Kd.R_drewN | apply Kd.R_drew)); exact HO_7.out) (Kd.R_base ho0) hb); have n1_ := ak_ (Kd.V_elder' (by (with_reducible repeat (first | apply Kd.V_alloc | apply Kd.V_drewN | apply Kd.V_drew)); exact HO412.out) (Kd.R_base ho0) hb); have n2_ := ak_ (Kd.R_lower (Kd.R_new' ho0 (Kd.R_lt (by (with_reducible repeat (first | apply Kd.R_alloc | apply Kd.R_drewN | apply Kd.R_drew)); exact HO_7.out))) (below_size (by repeat (first | (with_reducible first | exact HB.out | apply below_alloc | apply pw_below_drewN | apply below_drew1 | refine below_set ?_ GE401.out | refine below_set ?_ GE402.out | refine below_set ?_ GE403.out) | exact HB.out)))); have n3_ := ak_ (blk_below (g := gb401) (o := .cells #[.int .i64 a0_0, .int .i64 a0_1, .int .i64 a0_2, .int .i64 a0_3, .int .i64 a0_4, .int .i64 a0_5, .int .i64 a0_6] 23 (0, 0)) (by (with_reducible repeat (first | apply blk_drewN | apply blk_drew | apply blk_alloc)); exact BK401.out) hb); have n4_ := ak_ (blk_below (g := gb402) (o := .cells #[.slice A1_0 l1_0.length c1_0, .int .i64 a1_1, .int .i64 a1_2, .int .i64 a1_3, .int .i64 a1_4] 57 (0, 0)) (by (with_reducible repeat (first | apply blk_drewN | apply blk_drew | apply blk_alloc)); exact BK402.out) hb); have n5_ := ak_ (blk_below (g := gb403) (o := .cells #[.slice A2_0 l2_0.length c2_0, .int .u16 a2_1] 61 (0, 0)) (by (with_reducible repeat (first | apply blk_drewN | apply blk_drew | apply blk_alloc)); exact BK403.out) hb); have n6_ := ak_ (below_step (by repeat (first | (with_reducible first | exact HB.out | apply below_alloc | apply pw_below_drewN | apply below_drew1 | refine below_set ?_ GE401.out | refine below_set ?_ GE402.out | refine below_set ?_ GE403.out) | exact HB.out)) hb); clear HO_7; clear HO412; clear BK401; clear BK402; clear BK403; clear HB; have HO_7 := n0_; have HO412 := n1_; have HO415 := n2_; have BK401 := n3_; have BK402 := n4_; have BK403 := n5_; have HB := n6_; clear n0_ n1_ n2_ n3_ n4_ n5_ n6_; (try clear hb); (try clear hb2); (try clear hk); (try clear hi); (try clear ho0)) | ((with_reducible refine gate_dst (N := 11) rfl ?_); (try (refine gate_guard (by rfl) ?_; dsimp only)); refine box_event ?hg (N := 11) ?hd (cs := #[.int .i64 0, .int .i64 0, .int .i64 0, .int .i64 0]) (t := 26) ?hr ?_; (case hd => rfl); (case hg => rfl); (case hr => first | (go_simp; done) | (go_simp; rfl)); intro gb422 hg w65 hbox hb; have n0_ := ak_ (Kd.R_below (by (with_reducible repeat (first | apply Kd.R_alloc | apply Kd.R_drewN | apply Kd.R_drew)); exact HO_7.out) hb); have n1_ := ak_ (Kd.V_below (Kd.V_elderB (by (with_reducible repeat (first | apply Kd.V_alloc | apply Kd.V_drewN | apply Kd.V_drew)); exact HO412.out) gb422 (Nat.le_of_eq hg.symm)) hb); have n2_ := ak_ (Kd.R_below (by (with_reducible repeat (first | apply Kd.R_alloc | apply Kd.R_drewN | apply Kd.R_drew)); exact HO415.out) hb); have n3_ := ak_ (blk_below (g := gb401) (o := .cells #[.int .i64 a0_0, .int .i64 a0_1, .int .i64 a0_2, .int .i64 a0_3, .int .i64 a0_4, .int .i64 a0_5, .int .i64 a0_6] 23 (0, 0)) (by (with_reducible repeat (first | apply blk_drewN | apply blk_drew | apply blk_alloc)); exact BK401.out) hb); have n4_ := ak_ (blk_below (g := gb402) (o := .cells #[.slice A1_0 l1_0.length c1_0, .int .i64 a1_1, .int .i64 a1_2, .int .i64 a1_3, .int .i64 a1_4] 57 (0, 0)) (by (with_reducible repeat (first | apply blk_drewN | apply blk_drew | apply blk_alloc)); exact BK402.out) hb); have n5_ := ak_ (blk_below (g := gb403) (o := .cells #[.slice A2_0 l2_0.length c2_0, .int .u16 a2_1] 61 (0, 0)) (by (with_reducible repeat (first | apply blk_drewN | apply blk_drew | apply blk_alloc)); exact BK403.out) hb); have n6_ := ak_ (below_step (by repeat (first | (with_reducible first | exact HB.out | apply below_alloc | apply pw_below_drewN | apply below_drew1 | refine below_set ?_ GE401.out | refine below_set ?_ GE402.out | refine below_set ?_ GE403.out) | exact HB.out)) hb); have n7_ := ak_ (hbox); have n8_ := ak_ ((by rw [hg]; exact (below_size (by repeat (first | (with_reducible first | exact HB.out | apply below_alloc | apply pw_below_drewN | apply below_drew1 | refine below_set ?_ GE401.out | refine below_set ?_ GE402.out | refine below_set ?_ GE403.out) | exact HB.out))) : w.heap.size ≤ gb422)); have n9_ := ak_ ((by rw [hg]; exact (below_size (by repeat (first | (with_reducible first | exact HB.out | apply below_alloc | apply pw_below_drewN | apply below_drew1 | refine below_set ?_ GE401.out | refine below_set ?_ GE402.out | refine below_set ?_ GE403.out) | exact HB.out))) : w.heap.size ≤ gb422)); have n10_ := ak_ ((by rw [hg]; exact Nat.ne_of_lt (blk_lt (g := gb401) (o := .cells #[.int .i64 a0_0, .int .i64 a0_1, .int .i64 a0_2, .int .i64 a0_3, .int .i64 a0_4, .int .i64 a0_5, .int .i64 a0_6] 23 (0, 0)) (by (with_reducible repeat (first | apply blk_drewN | apply blk_drew | apply blk_alloc)); exact BK401.out)) : gb401 ≠ gb422)); have n11_ := ak_ ((by rw [hg]; exact Nat.ne_of_gt (blk_lt (g := gb401) (o := .cells #[.int .i64 a0_0, .int .i64 a0_1, .int .i64 a0_2, .int .i64 a0_3, .int .i64 a0_4, .int .i64 a0_5, .int .i64 a0_6] 23 (0, 0)) (by (with_reducible repeat (first | apply blk_drewN | apply blk_drew | apply blk_alloc)); exact BK401.out)) : gb422 ≠ gb401)); have n12_ := ak_ ((by rw [hg]; exact Nat.ne_of_lt (blk_lt (g := gb402) (o := .cells #[.slice A1_0 l1_0.length c1_0, .int .i64 a1_1, .int .i64 a1_2, .int .i64 a1_3, .int .i64 a1_4] 57 (0, 0)) (by (with_reducible repeat (first | apply blk_drewN | apply blk_drew | apply blk_alloc)); exact BK402.out)) : gb402 ≠ gb422)); have n13_ := ak_ ((by rw [hg]; exact Nat.ne_of_gt (blk_lt (g := gb402) (o := .cells #[.slice A1_0 l1_0.length c1_0, .int .i64 a1_1, .int .i64 a1_2, .int .i64 a1_3, .int .i64 a1_4] 57 (0, 0)) (by (with_reducible repeat (first | apply blk_drewN | apply blk_drew | apply blk_alloc)); exact BK402.out)) : gb422 ≠ gb402)); have n14_ := ak_ ((by rw [hg]; exact Nat.ne_of_lt (blk_lt (g := gb403) (o := .cells #[.slice A2_0 l2_0.length c2_0, .int .u16 a2_1] 61 (0, 0)) (by (with_reducible repeat (first | apply blk_drewN | apply blk_drew | apply blk_alloc)); exact BK403.out)) : gb403 ≠ gb422)); have n15_ := ak_ ((by rw [hg]; exact Nat.ne_of_gt (blk_lt (g := gb403) (o := .cells #[.slice A2_0 l2_0.length c2_0, .int .u16 a2_1] 61 (0, 0)) (by (with_reducible repeat (first | apply blk_drewN | apply blk_drew | apply blk_alloc)); exact BK403.out)) : gb422 ≠ gb403)); clear HO_7; clear HO412; clear HO415; clear BK401; clear BK402; clear BK403; clear HB; have HO_7 := n0_; have HO412 := n1_; have HO415 := n2_; have BK401 := n3_; have BK402 := n4_; have BK403 := n5_; have HB := n6_; have BK422 := n7_; have GW422 := n8_; have GE422 := n9_; have NB401_422 := n10_; have NB422_401 := n11_; have NB402_422 := n12_; have NB422_402 := n13_; have NB403_422 := n14_; have NB422_403 := n15_; clear n0_ n1_ n2_ n3_ n4_ n5_ n6_ n7_ n8_ n9_ n10_ n11_ n12_ n13_ n14_ n15_; clear hb hbox hg; have hnb66 := NB422_401.out; have hnc66 := NB401_422.out; have hnb67 := NB422_402.out; have hnc67 := NB402_422.out; have hnb68 := NB422_403.out; have hnc68 := NB403_422.out; have hcz69_0 : w65.cell? ⟨gb422, 0, none⟩ = some (.int .i64 0) := (bc_ BK422.out 0).trans rfl; have hcz69_1 : w65.cell? ⟨gb422, 1, none⟩ = some (.int .i64 0) := (bc_ BK422.out 1).trans rfl; have hcz69_2 : w65.cell? ⟨gb422, 2, none⟩ = some (.int .i64 0) := (bc_ BK422.out 2).trans rfl; have hcz69_3 : w65.cell? ⟨gb422, 3, none⟩ = some (.int .i64 0) := (bc_ BK422.out 3).trans rfl; have hfz69_0 := bf_ BK422.out 0; have hfz69_1 := bf_ BK422.out 1; have hfz69_2 := bf_ BK422.out 2; have hfz69_3 := bf_ BK422.out 3; have hcz70_0 : w65.cell? ⟨gb402, 0, none⟩ = some (.slice A1_0 l1_0.length c1_0) := (bc_ BK402.out 0).trans rfl; have hcz70_1 : w65.cell? ⟨gb402, 1, none⟩ = some (.int .i64 a1_1) := (bc_ BK402.out 1).trans rfl; have hcz70_2 : w65.cell? ⟨gb402, 2, none⟩ = some (.int .i64 a1_2) := (bc_ BK402.out 2).trans rfl; have hcz70_3 : w65.cell? ⟨gb402, 3, none⟩ = some (.int .i64 a1_3) := (bc_ BK402.out 3).trans rfl; have hcz70_4 : w65.cell? ⟨gb402, 4, none⟩ = some (.int .i64 a1_4) := (bc_ BK402.out 4).trans rfl; have hfz70_0 := bf_ BK402.out 0; have hfz70_1 := bf_ BK402.out 1; have hfz70_2 := bf_ BK402.out 2; have hfz70_3 := bf_ BK402.out 3; have hfz70_4 := bf_ BK402.out 4; obtain ⟨Ao71, co71, eo71⟩ := Kd.R_slice HO415.out; subst eo71) | (go_at_call 20; (with_reducible refine (r01_Same.calls kj34 _ _ t413 _ _ l1_0 true _ ?side1 ?side2 ?side3 ?side4 A47.out).mono ?_); (case side1 => refine (Kd.R_reads' (e := 5) (base := w.heap.size) (ok := fun k_ => (True ∧ some k_ ≠ (.slice Ao60 t406.length co60 : Value).ownBlock)) (n := t413.length) (c := co71) ?_).2.2; exact (by (with_reducible repeat (first | apply Kd.R_alloc | apply Kd.R_drewN | apply Kd.R_drew)); exact (Kd.R_mono (Kd.R_far (p := ⟨gb422, 3, none⟩) (Kd.R_far (p := ⟨gb422, 2, none⟩) (Kd.R_far (p := ⟨gb422, 1, none⟩) (Kd.R_far (p := ⟨gb422, 0, none⟩) (Kd.R_types HO415.out BK422.out (by decide)) (fun _ hk => hk.2) (.int .i64 t416)) (fun _ hk => hk.2) (.int .i64 t417)) (fun _ hk => hk.2) (.int .i64 t418)) (fun _ hk => hk.2) (.int .i64 t419)) (fun _ h_ => h_.1)))); (case side2 => exact (Kd.R_reads' HO415.out).2.1); (case side3 => exact Kd.C_below HR1_0.out (by repeat (first | (with_reducible first | exact HB.out | apply below_alloc | apply pw_below_drewN | apply below_drew1 | refine below_set ?_ GE401.out | refine below_set ?_ GE402.out | refine below_set ?_ GE403.out | refine below_set ?_ GE422.out) | exact HB.out))); (case side4 => exact HC1_0.out); rintro e w' ⟨rfl, ⟨nd, rfl⟩⟩) | (go_at_call 20; (with_reducible refine (r01_Same.calls kj34 _ _ t410 _ _ t406 t424 _ ?side1 ?side2 ?side3 ?side4 A50.out).mono ?_); (case side1 => refine (Kd.V_reads' (e := 5) (base := w.heap.size) (ok := fun k_ => (((k_ ≠ gb401 ∧ (k_ ≠ gb402 ∧ k_ ≠ gb403)) ∧ some k_ ≠ (.slice Ao71 t413.length co71 : Value).ownBlock) ∧ k_ ≠ gb422)) (n := t410.length) (c := co63) ?_).2.2; exact (by (with_reducible repeat (first | apply Kd.V_alloc | apply Kd.V_drewN | apply Kd.V_drew)); exact (Kd.V_mono (Kd.V_far (p := ⟨gb422, 3, none⟩) (Kd.V_far (p := ⟨gb422, 2, none⟩) (Kd.V_far (p := ⟨gb422, 1, none⟩) (Kd.V_far (p := ⟨gb422, 0, none⟩) (Kd.V_mono HO412.out (fun k_ hk => (⟨hk, hk.2⟩ : _ ∧ k_ ≠ gb422))) (fun _ hk => hk.2) (.int .i64 t416)) (fun _ hk => hk.2) (.int .i64 t417)) (fun _ hk => hk.2) (.int .i64 t418)) (fun _ hk => hk.2) (.int .i64 t419)) (fun _ h_ => h_.1)))); (case side2 => exact (Kd.V_reads' HO412.out).2.1); (case side3 => refine (Kd.R_reads' (e := 5) (base := w.heap.size) (ok := fun k_ => (True ∧ some k_ ≠ (.slice Ao71 t413.length co71 : Value).ownBlock)) (n := t406.length) (c := co60) ?_).2.2; exact (by (with_reducible repeat (first | apply Kd.R_alloc | apply Kd.R_drewN | apply Kd.R_drew)); exact (Kd.R_mono (Kd.R_far (p := ⟨gb422, 3, none⟩) (Kd.R_far (p := ⟨gb422, 2, none⟩) (Kd.R_far (p := ⟨gb422, 1, none⟩) (Kd.R_far (p := ⟨gb422, 0, none⟩) (Kd.R_types HO_7.out BK422.out (by decide)) (fun _ hk => hk.2) (.int .i64 t416)) (fun _ hk => hk.2) (.int .i64 t417)) (fun _ hk => hk.2) (.int .i64 t418)) (fun _ hk => hk.2) (.int .i64 t419)) (fun _ h_ => h_.1)))); (case side4 => exact (Kd.R_reads' HO_7.out).2.1); rintro e w' ⟨rfl, ⟨nd, rfl⟩⟩; have hcz72_0 : w65.cell? ⟨gb401, 0, none⟩ = some (.int .i64 a0_0) := (bc_ BK401.out 0).trans rfl; have hcz72_1 : w65.cell? ⟨gb401, 1, none⟩ = some (.int .i64 a0_1) := (bc_ BK401.out 1).trans rfl; have hcz72_2 : w65.cell? ⟨gb401, 2, none⟩ = some (.int .i64 a0_2) := (bc_ BK401.out 2).trans rfl; have hcz72_3 : w65.cell? ⟨gb401, 3, none⟩ = some (.int .i64 a0_3) := (bc_ BK401.out 3).trans rfl; have hcz72_4 : w65.cell? ⟨gb401, 4, none⟩ = some (.int .i64 a0_4) := (bc_ BK401.out 4).trans rfl; have hcz72_5 : w65.cell? ⟨gb401, 5, none⟩ = some (.int .i64 a0_5) := (bc_ BK401.out 5).trans rfl; have hcz72_6 : w65.cell? ⟨gb401, 6, none⟩ = some (.int .i64 a0_6) := (bc_ BK401.out 6).trans rfl; have hfz72_0 := bf_ BK401.out 0; have hfz72_1 := bf_ BK401.out 1; have hfz72_2 := bf_ BK401.out 2; have hfz72_3 := bf_ BK401.out 3; have hfz72_4 := bf_ BK401.out 4; have hfz72_5 := bf_ BK401.out 5; have hfz72_6 := bf_ BK401.out 6) | (go_at_call 31; (with_reducible refine (page_Marked.calls kj34 a0_0 a0_1 a0_2 a0_3 a0_4 a0_5 a0_6 _ _ t410 t425 _ ?side1 ?side2 A53.out).mono ?_); (case side1 => refine (Kd.V_reads' (e := 5) (base := w.heap.size) (ok := fun k_ => (((k_ ≠ gb401 ∧ (k_ ≠ gb402 ∧ k_ ≠ gb403)) ∧ some k_ ≠ (.slice Ao71 t413.length co71 : Value).ownBlock) ∧ k_ ≠ gb422)) (n := t410.length) (c := co63) ?_).2.2; exact (by (with_reducible repeat (first | apply Kd.V_alloc | apply Kd.V_drewN | apply Kd.V_drew)); exact (Kd.V_mono (Kd.V_far (p := ⟨gb422, 3, none⟩) (Kd.V_far (p := ⟨gb422, 2, none⟩) (Kd.V_far (p := ⟨gb422, 1, none⟩) (Kd.V_far (p := ⟨gb422, 0, none⟩) (Kd.V_mono HO412.out (fun k_ hk => (⟨hk, hk.2⟩ : _ ∧ k_ ≠ gb422))) (fun _ hk => hk.2) (.int .i64 t416)) (fun _ hk => hk.2) (.int .i64 t417)) (fun _ hk => hk.2) (.int .i64 t418)) (fun _ hk => hk.2) (.int .i64 t419)) (fun _ h_ => h_.1)))); (case side2 => exact (Kd.V_reads' HO412.out).2.1); rintro e w73 ⟨rfl, hb⟩; have n0_ := ak_ (Kd.R_below (by (with_reducible repeat (first | apply Kd.R_alloc | apply Kd.R_drewN | apply Kd.R_drew)); exact (Kd.R_mono (Kd.R_far (p := ⟨gb422, 3, none⟩) (Kd.R_far (p := ⟨gb422, 2, none⟩) (Kd.R_far (p := ⟨gb422, 1, none⟩) (Kd.R_far (p := ⟨gb422, 0, none⟩) (Kd.R_types HO_7.out BK422.out (by decide)) (fun _ hk => hk.2) (.int .i64 t416)) (fun _ hk => hk.2) (.int .i64 t417)) (fun _ hk => hk.2) (.int .i64 t418)) (fun _ hk => hk.2) (.int .i64 t419)) (fun _ h_ => h_.1))) hb); have n1_ := ak_ (Kd.V_below (by (with_reducible repeat (first | apply Kd.V_alloc | apply Kd.V_drewN | apply Kd.V_drew)); exact (Kd.V_mono (Kd.V_far (p := ⟨gb422, 3, none⟩) (Kd.V_far (p := ⟨gb422, 2, none⟩) (Kd.V_far (p := ⟨gb422, 1, none⟩) (Kd.V_far (p := ⟨gb422, 0, none⟩) (Kd.V_mono HO412.out (fun k_ hk => (⟨hk, hk.2⟩ : _ ∧ k_ ≠ gb422))) (fun _ hk => hk.2) (.int .i64 t416)) (fun _ hk => hk.2) (.int .i64 t417)) (fun _ hk => hk.2) (.int .i64 t418)) (fun _ hk => hk.2) (.int .i64 t419)) (fun _ h_ => h_.1))) hb); have n2_ := ak_ (Kd.R_below (by (with_reducible repeat (first | apply Kd.R_alloc | apply Kd.R_drewN | apply Kd.R_drew)); exact (Kd.R_mono (Kd.R_far (p := ⟨gb422, 3, none⟩) (Kd.R_far (p := ⟨gb422, 2, none⟩) (Kd.R_far (p := ⟨gb422, 1, none⟩) (Kd.R_far (p := ⟨gb422, 0, none⟩) (Kd.R_types HO415.out BK422.out (by decide)) (fun _ hk => hk.2) (.int .i64 t416)) (fun _ hk => hk.2) (.int .i64 t417)) (fun _ hk => hk.2) (.int .i64 t418)) (fun _ hk => hk.2) (.int .i64 t419)) (fun _ h_ => h_.1))) hb); have n3_ := ak_ (blk_below (g := gb401) (o := .cells #[.int .i64 a0_0, .int .i64 a0_1, .int .i64 a0_2, .int .i64 a0_3, .int .i64 a0_4, .int .i64 a0_5, .int .i64 a0_6] 23 (0, 0)) (by (with_reducible repeat (first | apply blk_drewN | apply blk_drew | apply blk_alloc)); refine blk_far ?_ NB401_422.out _; (with_reducible repeat (first | apply blk_drewN | apply blk_drew | apply blk_alloc)); refine blk_far ?_ NB401_422.out _; (with_reducible repeat (first | apply blk_drewN | apply blk_drew | apply blk_alloc)); refine blk_far ?_ NB401_422.out _; (with_reducible repeat (first | apply blk_drewN | apply blk_drew | apply blk_alloc)); refine blk_far ?_ NB401_422.out _; (with_reducible repeat (first | apply blk_drewN | apply blk_drew | apply blk_alloc)); exact BK401.out) hb); have n4_ := ak_ (blk_below (g := gb402) (o := .cells #[.slice A1_0 l1_0.length c1_0, .int .i64 a1_1, .int .i64 a1_2, .int .i64 a1_3, .int .i64 a1_4] 57 (0, 0)) (by (with_reducible repeat (first | apply blk_drewN | apply blk_drew | apply blk_alloc)); refine blk_far ?_ NB402_422.out _; (with_reducible repeat (first | apply blk_drewN | apply blk_drew | apply blk_alloc)); refine blk_far ?_ NB402_422.out _; (with_reducible repeat (first | apply blk_drewN | apply blk_drew | apply blk_alloc)); refine blk_far ?_ NB402_422.out _; (with_reducible repeat (first | apply blk_drewN | apply blk_drew | apply blk_alloc)); refine blk_far ?_ NB402_422.out _; (with_reducible repeat (first | apply blk_drewN | apply blk_drew | apply blk_alloc)); exact BK402.out) hb); have n5_ := ak_ (blk_below (g := gb403) (o := .cells #[.slice A2_0 l2_0.length c2_0, .int .u16 a2_1] 61 (0, 0)) (by (with_reducible repeat (first | apply blk_drewN | apply blk_drew | apply blk_alloc)); refine blk_far ?_ NB403_422.out _; (with_reducible repeat (first | apply blk_drewN | apply blk_drew | apply blk_alloc)); refine blk_far ?_ NB403_422.out _; (with_reducible repeat (first | apply blk_drewN | apply blk_drew | apply blk_alloc)); refine blk_far ?_ NB403_422.out _; (with_reducible repeat (first | apply blk_drewN | apply blk_drew | apply blk_alloc)); refine blk_far ?_ NB403_422.out _; (with_reducible repeat (first | apply blk_drewN | apply blk_drew | apply blk_alloc)); exact BK403.out) hb); have n6_ := ak_ (blk_below (g := gb422) (o := .cells #[.int .i64 t416, .int .i64 t417, .int .i64 t418, .int .i64 t419] 26 (0, 0)) (by (with_reducible repeat (first | apply blk_drewN | apply blk_drew | apply blk_alloc)); refine blk_put (cs := #[.int .i64 t416, .int .i64 t417, .int .i64 t418, .int .i64 0]) ?_ 3 _ rfl; (with_reducible repeat (first | apply blk_drewN | apply blk_drew | apply blk_alloc)); refine blk_put (cs := #[.int .i64 t416, .int .i64 t417, .int .i64 0, .int .i64 0]) ?_ 2 _ rfl; (with_reducible repeat (first | apply blk_drewN | apply blk_drew | apply blk_alloc)); refine blk_put (cs := #[.int .i64 t416, .int .i64 0, .int .i64 0, .int .i64 0]) ?_ 1 _ rfl; (with_reducible repeat (first | apply blk_drewN | apply blk_drew | apply blk_alloc)); refine blk_put (cs := #[.int .i64 0, .int .i64 0, .int .i64 0, .int .i64 0]) ?_ 0 _ rfl; (with_reducible repeat (first | apply blk_drewN | apply blk_drew | apply blk_alloc)); exact BK422.out) hb); have n7_ := ak_ (below_step (by repeat (first | (with_reducible first | exact HB.out | apply below_alloc | apply pw_below_drewN | apply below_drew1 | refine below_set ?_ GE401.out | refine below_set ?_ GE402.out | refine below_set ?_ GE403.out | refine below_set ?_ GE422.out) | exact HB.out)) hb); clear HO_7; clear HO412; clear HO415; clear BK401; clear BK402; clear BK403; clear BK422; clear HB; have HO_7 := n0_; have HO412 := n1_; have HO415 := n2_; have BK401 := n3_; have BK402 := n4_; have BK403 := n5_; have BK422 := n6_; have HB := n7_; clear n0_ n1_ n2_ n3_ n4_ n5_ n6_ n7_; (try clear hb); (try clear hb2); (try clear hk); (try clear hi)))
              (try simp only [Act.put, sb_, sz_, su_])
              go_cut [] (fun wc => ∃ (kq : Nat), Aside0 (l08_PageBack.j4 kq t406 a0_0 a0_1 a0_2 a0_3 a0_4 a0_5 a0_6 l2_0 a2_1 = some r) ∧ Aside0 (kq ≤ kj34) ∧ Aside0 (Kd.R (Kd.int .u8) 5 wc w.heap.size (fun _ => True) (.slice Ao60 t406.length co60) t406) ∧ Aside0 (wc.heap[gb401]? = some (.cells #[.int .i64 a0_0, .int .i64 a0_1, .int .i64 a0_2, .int .i64 a0_3, .int .i64 a0_4, .int .i64 a0_5, .int .i64 a0_6] 23 (0, 0))) ∧ Aside0 (wc.heap[gb402]? = some (.cells #[(.slice A1_0 l1_0.length c1_0), .int .i64 a1_1, .int .i64 a1_2, .int .i64 a1_3, .int .i64 a1_4] 57 (0, 0))) ∧ Aside0 (wc.heap[gb403]? = some (.cells #[(.slice A2_0 l2_0.length c2_0), .int .u16 a2_1] 61 (0, 0))) ∧ Aside0 (wc.heap[gb422]? = some (.cells #[.int .i64 t416, .int .i64 t417, .int .i64 t418, .int .i64 t419] 26 (0, 0))) ∧ Aside0 (Below w.heap.size w wc))
              case first =>
               have H := HC54.out
               clear HC54
               by_cases c74 : t425 = true
               ·subst c74
                have H1 : (none) = some r := by rw [if_pos rfl] at H; exact H
                clear H
                have H := H1
                clear H1
                exact absurd H (by simp)
               ·replace c74 := Bool.eq_false_iff.mpr c74
                subst c74
                have H1 : (l08_PageBack.j4 kj34 t406 a0_0 a0_1 a0_2 a0_3 a0_4 a0_5 a0_6 l2_0 a2_1) = some r := by rw [if_neg (show ¬ (false = true) by decide)] at H; exact H
                clear H
                have H := H1
                clear H1
                have H' := ak_ H
                clear H
                go_wp2
                go_meet
                case rel => exact ⟨_, H', ⟨by have := HJ4.out; have := HJ10.out; have := HJ31.out; have := HJ34.out; first | omega | exact Nat.le_refl _⟩, ⟨by (with_reducible repeat (first | apply Kd.R_alloc | apply Kd.R_drewN | apply Kd.R_drew)); exact Kd.R_mono HO_7.out (fun _ hk => trivial)⟩, ⟨by (with_reducible repeat (first | apply blk_drewN | apply blk_drew | apply blk_alloc)); exact BK401.out⟩, ⟨by (with_reducible repeat (first | apply blk_drewN | apply blk_drew | apply blk_alloc)); exact BK402.out⟩, ⟨by (with_reducible repeat (first | apply blk_drewN | apply blk_drew | apply blk_alloc)); exact BK403.out⟩, ⟨by (with_reducible repeat (first | apply blk_drewN | apply blk_drew | apply blk_alloc)); exact BK422.out⟩, ⟨by repeat (first | (with_reducible first | exact HB.out | apply below_alloc | apply pw_below_drewN | apply below_drew1 | refine below_set ?_ GE401.out | refine below_set ?_ GE402.out | refine below_set ?_ GE403.out | refine below_set ?_ GE422.out) | exact HB.out)⟩⟩
              case rest =>
               clear HC54
               try clear c1
               try clear c2
               try clear p2
               try clear c3
               try clear c4
               try clear c5
               try clear c6
               try clear c7
               try clear c9
               try clear c10
               try clear c12
               try clear c13
               try clear c14
               try clear c14b0
               try clear c14b1
               try clear c15
               try clear c16
               try clear c19
               try clear c21
               try clear c22
               try clear c25
               try clear c28
               try clear c29
               try clear c30
               try clear c33
               try clear c36
               try clear c37
               try clear c39
               try clear c42
               try clear c42b0
               try clear c42b1
               try clear c46
               try clear c46b0
               try clear c46b1
               try clear c48
               try clear c49
               try clear c49b0
               try clear c51
               try clear c51b0
               try clear c51b1
               try clear c51b2
               try clear c52
               try clear c52b0
               try clear c52b1
               try clear c55
               try clear c56
               try clear c58
               try clear c66
               try clear c67
               try clear c68
               try clear c74
               try clear hcz17_0
               try clear hcz17_1
               try clear hcz17_2
               try clear hcz17_3
               try clear hcz17_4
               try clear hcz17_5
               try clear hcz17_6
               try clear hcz20_0
               try clear hcz20_1
               try clear hcz20_2
               try clear hcz20_3
               try clear hcz20_4
               try clear hcz23_0
               try clear hcz23_1
               try clear hcz23_2
               try clear hcz23_3
               try clear hcz23_4
               try clear hcz23_5
               try clear hcz23_6
               try clear hcz26_0
               try clear hcz26_1
               try clear hcz26_2
               try clear hcz26_3
               try clear hcz26_4
               try clear hcz27_0
               try clear hcz27_1
               try clear hcz30_0
               try clear hcz30_1
               try clear hcz30_2
               try clear hcz30_3
               try clear hcz30_4
               try clear hcz30_5
               try clear hcz30_6
               try clear hcz38_0
               try clear hcz38_1
               try clear hcz38_2
               try clear hcz38_3
               try clear hcz38_4
               try clear hcz38_5
               try clear hcz38_6
               try clear hcz40_0
               try clear hcz40_1
               try clear hcz40_2
               try clear hcz40_3
               try clear hcz40_4
               try clear hcz57_0
               try clear hcz57_1
               try clear hcz57_2
               try clear hcz57_3
               try clear hcz57_4
               try clear hcz57_5
               try clear hcz57_6
               try clear hcz59_0
               try clear hcz59_1
               try clear hcz62_0
               try clear hcz62_1
               try clear hcz62_2
               try clear hcz62_3
               try clear hcz62_4
               try clear hcz62_5
               try clear hcz62_6
               try clear hcz69_0
               try clear hcz69_1
               try clear hcz69_2
               try clear hcz69_3
               try clear hcz70_0
               try clear hcz70_1
               try clear hcz70_2
               try clear hcz70_3
               try clear hcz70_4
               try clear hcz72_0
               try clear hcz72_1
               try clear hcz72_2
               try clear hcz72_3
               try clear hcz72_4
               try clear hcz72_5
               try clear hcz72_6
               try clear hfz17_0
               try clear hfz17_1
               try clear hfz17_2
               try clear hfz17_3
               try clear hfz17_4
               try clear hfz17_5
               try clear hfz17_6
               try clear hfz20_0
               try clear hfz20_1
               try clear hfz20_2
               try clear hfz20_3
               try clear hfz20_4
               try clear hfz23_0
               try clear hfz23_1
               try clear hfz23_2
               try clear hfz23_3
               try clear hfz23_4
               try clear hfz23_5
               try clear hfz23_6
               try clear hfz26_0
               try clear hfz26_1
               try clear hfz26_2
               try clear hfz26_3
               try clear hfz26_4
               try clear hfz27_0
               try clear hfz27_1
               try clear hfz30_0
               try clear hfz30_1
               try clear hfz30_2
               try clear hfz30_3
               try clear hfz30_4
               try clear hfz30_5
               try clear hfz30_6
               try clear hfz38_0
               try clear hfz38_1
               try clear hfz38_2
               try clear hfz38_3
               try clear hfz38_4
               try clear hfz38_5
               try clear hfz38_6
               try clear hfz40_0
               try clear hfz40_1
               try clear hfz40_2
               try clear hfz40_3
               try clear hfz40_4
               try clear hfz57_0
               try clear hfz57_1
               try clear hfz57_2
               try clear hfz57_3
               try clear hfz57_4
               try clear hfz57_5
               try clear hfz57_6
               try clear hfz59_0
               try clear hfz59_1
               try clear hfz62_0
               try clear hfz62_1
               try clear hfz62_2
               try clear hfz62_3
               try clear hfz62_4
               try clear hfz62_5
               try clear hfz62_6
               try clear hfz69_0
               try clear hfz69_1
               try clear hfz69_2
               try clear hfz69_3
               try clear hfz70_0
               try clear hfz70_1
               try clear hfz70_2
               try clear hfz70_3
               try clear hfz70_4
               try clear hfz72_0
               try clear hfz72_1
               try clear hfz72_2
               try clear hfz72_3
               try clear hfz72_4
               try clear hfz72_5
               try clear hfz72_6
               try clear p2
               obtain ⟨kq, HA, HJ53, HO_7, BK401, BK402, BK403, BK422, HB⟩ := hcut
               cases kq with
               | zero => exact absurd HA.out (by simp [l08_PageBack.j4])
               | succ kj53 =>
                have H := HA.out
                clear HA
                simp only [l08_PageBack.j4] at H
                by_cases c75 : (wrap64 ((wrap64 (8 * a0_4)) + 14)) = 0
                ·rw [if_pos c75] at H
                 exact absurd H (by simp)
                ·rw [if_neg c75] at H
                 have c75b0 : ((wrap64 ((wrap64 (8 * a0_4)) + 14)) == 0) = false := beq_eq_false_iff_ne.mpr c75
                 have c75b1 : ((wrap64 ((wrap64 (8 * a0_4)) + 14)) != 0) = true := bne_iff_ne.mpr c75
                 have HC76 := ak_ H
                 clear H
                 have hnb77 := NB401_402.out
                 have hnc77 := NB402_401.out
                 have hnb78 := NB401_403.out
                 have hnc78 := NB403_401.out
                 have hnb79 := NB401_422.out
                 have hnc79 := NB422_401.out
                 have hcz80_0 : wc.cell? ⟨gb401, 0, none⟩ = some (.int .i64 a0_0) := (bc_ BK401.out 0).trans rfl
                 have hcz80_1 : wc.cell? ⟨gb401, 1, none⟩ = some (.int .i64 a0_1) := (bc_ BK401.out 1).trans rfl
                 have hcz80_2 : wc.cell? ⟨gb401, 2, none⟩ = some (.int .i64 a0_2) := (bc_ BK401.out 2).trans rfl
                 have hcz80_3 : wc.cell? ⟨gb401, 3, none⟩ = some (.int .i64 a0_3) := (bc_ BK401.out 3).trans rfl
                 have hcz80_4 : wc.cell? ⟨gb401, 4, none⟩ = some (.int .i64 a0_4) := (bc_ BK401.out 4).trans rfl
                 have hcz80_5 : wc.cell? ⟨gb401, 5, none⟩ = some (.int .i64 a0_5) := (bc_ BK401.out 5).trans rfl
                 have hcz80_6 : wc.cell? ⟨gb401, 6, none⟩ = some (.int .i64 a0_6) := (bc_ BK401.out 6).trans rfl
                 have hfz80_0 := bf_ BK401.out 0
                 have hfz80_1 := bf_ BK401.out 1
                 have hfz80_2 := bf_ BK401.out 2
                 have hfz80_3 := bf_ BK401.out 3
                 have hfz80_4 := bf_ BK401.out 4
                 have hfz80_5 := bf_ BK401.out 5
                 have hfz80_6 := bf_ BK401.out 6
                 try go_wp2
                 have n0_ := ak_ (Kd.R_drew HO_7.out)
                 have n1_ := ak_ (blk_drew BK401.out)
                 have n2_ := ak_ (blk_drew BK402.out)
                 have n3_ := ak_ (blk_drew BK403.out)
                 have n4_ := ak_ (blk_drew BK422.out)
                 have n5_ := ak_ (below_drew1 HB.out)
                 clear HO_7
                 clear BK401
                 clear BK402
                 clear BK403
                 clear BK422
                 clear HB
                 have HO_7 := n0_
                 have BK401 := n1_
                 have BK402 := n2_
                 have BK403 := n3_
                 have BK422 := n4_
                 have HB := n5_
                 clear n0_ n1_ n2_ n3_ n4_ n5_
                 refine start_ (n := 14) (S := fun w' => w'.cell? ⟨gb403, 0, none⟩ = some (.slice A2_0 l2_0.length c2_0) ∧ w'.cell? ⟨gb403, 1, none⟩ = some (.int .u16 a2_1)) (ds := []) #[false, false, false, false, false, false, false, false, false, false, false, false, false, false] (by kernel_rfl) rfl rfl ⟨(bc_ BK403.out 0).trans rfl, (bc_ BK403.out 1).trans rfl⟩ (fun hHeld => ?_); refine with_tabW l08_PageBack.tab13 l08_PageBack.bits13 (fun HT_ HW_ => ?_)
                 generalize wc.drew = w81 at HO_7 BK401 BK402 BK403 BK422 HB hHeld ⊢
                 refine pure_ (i := 0) (N := some 101) (v := ?_) (a' := ?_) #[true, false, false, false, false, false, false, false, false, false, false, false, false, false] rfl rfl (any_of HT_.out (by kernel_rfl)) (fun _ _ _ h => h) (Or.inl ⟨by rfl, ?_⟩) ?_ ?_
                 rotate_left
                 ·intro w'
                  go_simp
                  with_reducible rfl
                 rotate_left
                 ·simp only [Act.put, sb_, sz_, su_, i64_w, i32_w]
                  rfl
                 refine pure_ (i := 3) (N := some 104) (v := ?_) (a' := ?_) #[true, false, false, true, false, false, false, false, false, false, false, false, false, false] rfl rfl (any_of HT_.out (by kernel_rfl)) (fun _ _ _ h => h) (Or.inl ⟨by rfl, ?_⟩) ?_ ?_
                 rotate_left
                 ·intro w'
                  go_simp
                  with_reducible rfl
                 rotate_left
                 ·simp only [Act.put, sb_, sz_, su_, i64_w, i32_w]
                  rfl
                 refine pure_ (i := 5) (N := some 106) (v := ?_) (a' := ?_) #[true, false, false, true, false, true, false, false, false, false, false, false, false, false] rfl rfl (any_of HT_.out (by kernel_rfl)) (fun _ _ _ h => h) (Or.inl ⟨by rfl, ?_⟩) ?_ ?_
                 rotate_left
                 ·intro w'
                  go_simp
                  with_reducible rfl
                 rotate_left
                 ·simp only [Act.put, sb_, sz_, su_, i64_w, i32_w]
                  rfl
                 refine pure_ (i := 10) (N := some 111) (v := ?_) (a' := ?_) #[true, false, false, true, false, true, false, false, false, false, true, false, false, false] rfl rfl (any_of HT_.out (by kernel_rfl)) (fun _ _ _ h => h) (Or.inl ⟨by rfl, ?_⟩) ?_ ?_
                 rotate_left
                 ·intro w'
                  go_simp
                  with_reducible rfl
                 rotate_left
                 ·simp only [Act.put, sb_, sz_, su_, i64_w, i32_w]
                  rfl
                 refine take_ (i := 1) (N := some 102) (v := ?_) (a' := ?_) #[true, true, false, true, false, true, false, false, false, false, true, false, false, false] rfl rfl (take_ofW HT_.out HW_.out (by kernel_rfl)) (fun _ _ _ h => h) (Or.inl ⟨by rfl, ?_⟩) hHeld ?_ ?_
                 rotate_left
                 ·rintro w' ⟨s0, s1⟩
                  go_simp
                  with_reducible rfl
                 rotate_left
                 ·simp only [Act.put, sb_, sz_, su_, i64_w, i32_w]
                  rfl
                 refine pure_ (i := 2) (N := some 103) (v := ?_) (a' := ?_) #[true, true, true, true, false, true, false, false, false, false, true, false, false, false] rfl rfl (any_of HT_.out (by kernel_rfl)) (fun _ _ _ h => h) (Or.inl ⟨by rfl, ?_⟩) ?_ ?_
                 rotate_left
                 ·intro w'
                  go_simp
                  with_reducible rfl
                 rotate_left
                 ·simp only [Act.put, sb_, sz_, su_, i64_w, i32_w]
                  rfl
                 refine pure_ (i := 4) (N := some 105) (v := ?_) (a' := ?_) #[true, true, true, true, true, true, false, false, false, false, true, false, false, false] rfl rfl (any_of HT_.out (by kernel_rfl)) (fun _ _ _ h => h) (Or.inl ⟨by rfl, ?_⟩) ?_ ?_
                 rotate_left
                 ·intro w'
                  go_simp
                  with_reducible rfl
                 rotate_left
                 ·simp only [Act.put, sb_, sz_, su_, i64_w, i32_w]
                  rfl
                 refine pure_ (i := 12) (N := some 15) (v := ?_) (a' := ?_) #[true, true, true, true, true, true, false, false, false, false, true, false, true, false] rfl rfl (any_of HT_.out (by kernel_rfl)) (fun _ _ _ h => h) (Or.inl ⟨by rfl, ?_⟩) ?_ ?_
                 rotate_left
                 ·intro w'
                  go_simp
                  with_reducible rfl
                 rotate_left
                 ·simp only [Act.put, sb_, sz_, su_, i64_w, i32_w]
                  rfl
                 refine take_ (i := 6) (N := some 107) (v := ?_) (a' := ?_) #[true, true, true, true, true, true, true, false, false, false, true, false, true, false] rfl rfl (take_ofW HT_.out HW_.out (by kernel_rfl)) (fun _ _ _ h => h) (Or.inl ⟨by rfl, ?_⟩) hHeld ?_ ?_
                 rotate_left
                 ·rintro w' ⟨s0, s1⟩
                  go_simp
                  with_reducible rfl
                 rotate_left
                 ·simp only [Act.put, sb_, sz_, su_, i64_w, i32_w]
                  rfl
                 refine pure_ (i := 7) (N := some 108) (v := ?_) (a' := ?_) #[true, true, true, true, true, true, true, true, false, false, true, false, true, false] rfl rfl (any_of HT_.out (by kernel_rfl)) (fun _ _ _ h => h) (Or.inl ⟨by rfl, ?_⟩) ?_ ?_
                 rotate_left
                 ·intro w'
                  go_simp
                  with_reducible rfl
                 rotate_left
                 ·simp only [Act.put, sb_, sz_, su_, i64_w, i32_w]
                  rfl
                 refine pure_ (i := 8) (N := some 109) (v := ?_) (a' := ?_) #[true, true, true, true, true, true, true, true, true, false, true, false, true, false] rfl rfl (any_of HT_.out (by kernel_rfl)) (fun _ _ _ h => h) (Or.inl ⟨by rfl, ?_⟩) ?_ ?_
                 rotate_left
                 ·intro w'
                  go_simp
                  with_reducible rfl
                 rotate_left
                 ·simp only [Act.put, sb_, sz_, su_, i64_w, i32_w]
                  rfl
                 refine pure_ (i := 9) (N := some 110) (v := ?_) (a' := ?_) #[true, true, true, true, true, true, true, true, true, true, true, false, true, false] rfl rfl (any_of HT_.out (by kernel_rfl)) (fun _ _ _ h => h) (Or.inl ⟨by rfl, ?_⟩) ?_ ?_
                 rotate_left
                 ·intro w'
                  go_simp
                  with_reducible rfl
                 rotate_left
                 ·simp only [Act.put, sb_, sz_, su_, i64_w, i32_w]
                  rfl
                 refine pure_ (i := 11) (N := some 112) (v := ?_) (a' := ?_) #[true, true, true, true, true, true, true, true, true, true, true, true, true, false] rfl rfl (any_of HT_.out (by kernel_rfl)) (fun _ _ _ h => h) (Or.inl ⟨by rfl, ?_⟩) ?_ ?_
                 rotate_left
                 ·intro w'
                  go_simp
                  with_reducible rfl
                 rotate_left
                 ·simp only [Act.put, sb_, sz_, su_, i64_w, i32_w]
                  rfl
                 refine pure_ (i := 13) (N := some 16) (v := ?_) (a' := ?_) #[true, true, true, true, true, true, true, true, true, true, true, true, true, true] rfl rfl (any_of HT_.out (by kernel_rfl)) (fun _ _ _ h => h) (Or.inl ⟨by rfl, ?_⟩) ?_ ?_
                 rotate_left
                 ·intro w'
                  go_simp
                  with_reducible rfl
                 rotate_left
                 ·simp only [Act.put, sb_, sz_, su_, i64_w, i32_w]
                  rfl
                 refine done_ (done_of HT_.out (by kernel_rfl)) ?_
                 go_upto_if 115 with (fail)
                 go_cut [] (fun wc => ∃ (kq : Nat), Aside0 (l08_PageBack.j5 kq t406 (Int.tmod (wrap64 (a2_1)) (wrap64 ((wrap64 (8 * a0_4)) + 14))) (Int.tmod (wrap64 (IntKind.u16.wrap ((IntKind.u16.wrap (Int.tdiv a2_1 3)) + 1))) (wrap64 ((wrap64 (8 * a0_4)) + 14))) a0_0 a0_1 a0_2 a0_3 a0_4 a0_5 a0_6 = some r) ∧ Aside0 (kq ≤ kj53) ∧ Aside0 (Kd.R (Kd.int .u8) 5 wc w.heap.size (fun _ => True) (.slice Ao60 t406.length co60) t406) ∧ Aside0 (wc.heap[gb401]? = some (.cells #[.int .i64 a0_0, .int .i64 a0_1, .int .i64 a0_2, .int .i64 a0_3, .int .i64 a0_4, .int .i64 a0_5, .int .i64 a0_6] 23 (0, 0))) ∧ Aside0 (wc.heap[gb402]? = some (.cells #[(.slice A1_0 l1_0.length c1_0), .int .i64 a1_1, .int .i64 a1_2, .int .i64 a1_3, .int .i64 a1_4] 57 (0, 0))) ∧ Aside0 (wc.heap[gb403]? = some (.cells #[(.slice A2_0 l2_0.length c2_0), .int .u16 a2_1] 61 (0, 0))) ∧ Aside0 (wc.heap[gb422]? = some (.cells #[.int .i64 t416, .int .i64 t417, .int .i64 t418, .int .i64 t419] 26 (0, 0))) ∧ Aside0 (Below w.heap.size w wc))
                 case first =>
                  have H := HC76.out
                  clear HC76
                  by_cases c82 : (Int.tmod (wrap64 (a2_1)) (wrap64 ((wrap64 (8 * a0_4)) + 14))) = (Int.tmod (wrap64 (IntKind.u16.wrap ((IntKind.u16.wrap (Int.tdiv a2_1 3)) + 1))) (wrap64 ((wrap64 (8 * a0_4)) + 14)))
                  ·rw [if_pos c82] at H
                   have c82b0 : ((Int.tmod (wrap64 (a2_1)) (wrap64 ((wrap64 (8 * a0_4)) + 14))) == (Int.tmod (wrap64 (IntKind.u16.wrap ((IntKind.u16.wrap (Int.tdiv a2_1 3)) + 1))) (wrap64 ((wrap64 (8 * a0_4)) + 14)))) = true := beq_iff_eq.mpr c82
                   have c82b1 : ((Int.tmod (wrap64 (a2_1)) (wrap64 ((wrap64 (8 * a0_4)) + 14))) != (Int.tmod (wrap64 (IntKind.u16.wrap ((IntKind.u16.wrap (Int.tdiv a2_1 3)) + 1))) (wrap64 ((wrap64 (8 * a0_4)) + 14)))) = false := bne_eq_false_iff_eq.mpr c82
                   clear c82
                   (first | rw [c82b0] | (simp only [i64_w, i32_w]; rw [c82b0]) | skip)
                   obtain rfl := si_ H
                   go_wp2
                   go_ret
                   exact ⟨by first | rfl | (simp [errW_none, errW_some] <;> rfl) | (simp [*, errW_none, errW_some] <;> rfl) | (have hz_ : ∀ z : Int, -9223372036854775808 ≤ z → z ≤ 9223372036854775807 → wrap64 z = z := (fun z h1_ h2_ => by unfold wrap64; omega); rw [hz_] <;> first | rfl | omega), by repeat (first | (with_reducible first | exact HB.out | apply below_alloc | apply pw_below_drewN | apply below_drew1 | refine below_set ?_ GE401.out | refine below_set ?_ GE402.out | refine below_set ?_ GE403.out | refine below_set ?_ GE422.out) | exact HB.out)⟩
                  ·rw [if_neg c82] at H
                   have c82b0 : ((Int.tmod (wrap64 (a2_1)) (wrap64 ((wrap64 (8 * a0_4)) + 14))) == (Int.tmod (wrap64 (IntKind.u16.wrap ((IntKind.u16.wrap (Int.tdiv a2_1 3)) + 1))) (wrap64 ((wrap64 (8 * a0_4)) + 14)))) = false := beq_eq_false_iff_ne.mpr c82
                   have c82b1 : ((Int.tmod (wrap64 (a2_1)) (wrap64 ((wrap64 (8 * a0_4)) + 14))) != (Int.tmod (wrap64 (IntKind.u16.wrap ((IntKind.u16.wrap (Int.tdiv a2_1 3)) + 1))) (wrap64 ((wrap64 (8 * a0_4)) + 14)))) = true := bne_iff_ne.mpr c82
                   (first | rw [c82b0] | (simp only [i64_w, i32_w]; rw [c82b0]) | skip)
                   have H' := ak_ H
                   clear H
                   go_wp2
                   go_meet
                   case rel => exact ⟨_, H', ⟨by have := HJ4.out; have := HJ10.out; have := HJ31.out; have := HJ34.out; have := HJ53.out; first | omega | exact Nat.le_refl _⟩, ⟨by (with_reducible repeat (first | apply Kd.R_alloc | apply Kd.R_drewN | apply Kd.R_drew)); exact HO_7.out⟩, ⟨by (with_reducible repeat (first | apply blk_drewN | apply blk_drew | apply blk_alloc)); exact BK401.out⟩, ⟨by (with_reducible repeat (first | apply blk_drewN | apply blk_drew | apply blk_alloc)); exact BK402.out⟩, ⟨by (with_reducible repeat (first | apply blk_drewN | apply blk_drew | apply blk_alloc)); exact BK403.out⟩, ⟨by (with_reducible repeat (first | apply blk_drewN | apply blk_drew | apply blk_alloc)); exact BK422.out⟩, ⟨by repeat (first | (with_reducible first | exact HB.out | apply below_alloc | apply pw_below_drewN | apply below_drew1 | refine below_set ?_ GE401.out | refine below_set ?_ GE402.out | refine below_set ?_ GE403.out | refine below_set ?_ GE422.out) | exact HB.out)⟩⟩
                 case rest =>
                  clear HC76
                  try clear c1
                  try clear c2
                  try clear p2
                  try clear c3
                  try clear c4
                  try clear c5
                  try clear c6
                  try clear p6
                  try clear c7
                  try clear c8
                  try clear c9
                  try clear c10
                  try clear c12
                  try clear c13
                  try clear c14
                  try clear c14b0
                  try clear c14b1
                  try clear c15
                  try clear c16
                  try clear c19
                  try clear c21
                  try clear c22
                  try clear c25
                  try clear c28
                  try clear c29
                  try clear c30
                  try clear c33
                  try clear c36
                  try clear c37
                  try clear c39
                  try clear c42
                  try clear c42b0
                  try clear c42b1
                  try clear c46
                  try clear c46b0
                  try clear c46b1
                  try clear c48
                  try clear c49
                  try clear c49b0
                  try clear c51
                  try clear c51b0
                  try clear c51b1
                  try clear c51b2
                  try clear c52
                  try clear c52b0
                  try clear c52b1
                  try clear c55
                  try clear c56
                  try clear c58
                  try clear p64
                  try clear c66
                  try clear c67
                  try clear c68
                  try clear c74
                  try clear c75
                  try clear c75b0
                  try clear c75b1
                  try clear c77
                  try clear c78
                  try clear c79
                  try clear c82
                  try clear c82b0
                  try clear c82b1
                  try clear hcz17_0
                  try clear hcz17_1
                  try clear hcz17_2
                  try clear hcz17_3
                  try clear hcz17_4
                  try clear hcz17_5
                  try clear hcz17_6
                  try clear hcz20_0
                  try clear hcz20_1
                  try clear hcz20_2
                  try clear hcz20_3
                  try clear hcz20_4
                  try clear hcz23_0
                  try clear hcz23_1
                  try clear hcz23_2
                  try clear hcz23_3
                  try clear hcz23_4
                  try clear hcz23_5
                  try clear hcz23_6
                  try clear hcz26_0
                  try clear hcz26_1
                  try clear hcz26_2
                  try clear hcz26_3
                  try clear hcz26_4
                  try clear hcz27_0
                  try clear hcz27_1
                  try clear hcz30_0
                  try clear hcz30_1
                  try clear hcz30_2
                  try clear hcz30_3
                  try clear hcz30_4
                  try clear hcz30_5
                  try clear hcz30_6
                  try clear hcz38_0
                  try clear hcz38_1
                  try clear hcz38_2
                  try clear hcz38_3
                  try clear hcz38_4
                  try clear hcz38_5
                  try clear hcz38_6
                  try clear hcz40_0
                  try clear hcz40_1
                  try clear hcz40_2
                  try clear hcz40_3
                  try clear hcz40_4
                  try clear hcz57_0
                  try clear hcz57_1
                  try clear hcz57_2
                  try clear hcz57_3
                  try clear hcz57_4
                  try clear hcz57_5
                  try clear hcz57_6
                  try clear hcz59_0
                  try clear hcz59_1
                  try clear hcz62_0
                  try clear hcz62_1
                  try clear hcz62_2
                  try clear hcz62_3
                  try clear hcz62_4
                  try clear hcz62_5
                  try clear hcz62_6
                  try clear hcz69_0
                  try clear hcz69_1
                  try clear hcz69_2
                  try clear hcz69_3
                  try clear hcz70_0
                  try clear hcz70_1
                  try clear hcz70_2
                  try clear hcz70_3
                  try clear hcz70_4
                  try clear hcz72_0
                  try clear hcz72_1
                  try clear hcz72_2
                  try clear hcz72_3
                  try clear hcz72_4
                  try clear hcz72_5
                  try clear hcz72_6
                  try clear hcz80_0
                  try clear hcz80_1
                  try clear hcz80_2
                  try clear hcz80_3
                  try clear hcz80_4
                  try clear hcz80_5
                  try clear hcz80_6
                  try clear hfz17_0
                  try clear hfz17_1
                  try clear hfz17_2
                  try clear hfz17_3
                  try clear hfz17_4
                  try clear hfz17_5
                  try clear hfz17_6
                  try clear hfz20_0
                  try clear hfz20_1
                  try clear hfz20_2
                  try clear hfz20_3
                  try clear hfz20_4
                  try clear hfz23_0
                  try clear hfz23_1
                  try clear hfz23_2
                  try clear hfz23_3
                  try clear hfz23_4
                  try clear hfz23_5
                  try clear hfz23_6
                  try clear hfz26_0
                  try clear hfz26_1
                  try clear hfz26_2
                  try clear hfz26_3
                  try clear hfz26_4
                  try clear hfz27_0
                  try clear hfz27_1
                  try clear hfz30_0
                  try clear hfz30_1
                  try clear hfz30_2
                  try clear hfz30_3
                  try clear hfz30_4
                  try clear hfz30_5
                  try clear hfz30_6
                  try clear hfz38_0
                  try clear hfz38_1
                  try clear hfz38_2
                  try clear hfz38_3
                  try clear hfz38_4
                  try clear hfz38_5
                  try clear hfz38_6
                  try clear hfz40_0
                  try clear hfz40_1
                  try clear hfz40_2
                  try clear hfz40_3
                  try clear hfz40_4
                  try clear hfz57_0
                  try clear hfz57_1
                  try clear hfz57_2
                  try clear hfz57_3
                  try clear hfz57_4
                  try clear hfz57_5
                  try clear hfz57_6
                  try clear hfz59_0
                  try clear hfz59_1
                  try clear hfz62_0
                  try clear hfz62_1
                  try clear hfz62_2
                  try clear hfz62_3
                  try clear hfz62_4
                  try clear hfz62_5
                  try clear hfz62_6
                  try clear hfz69_0
                  try clear hfz69_1
                  try clear hfz69_2
                  try clear hfz69_3
                  try clear hfz70_0
                  try clear hfz70_1
                  try clear hfz70_2
                  try clear hfz70_3
                  try clear hfz70_4
                  try clear hfz72_0
                  try clear hfz72_1
                  try clear hfz72_2
                  try clear hfz72_3
                  try clear hfz72_4
                  try clear hfz72_5
                  try clear hfz72_6
                  try clear hfz80_0
                  try clear hfz80_1
                  try clear hfz80_2
                  try clear hfz80_3
                  try clear hfz80_4
                  try clear hfz80_5
                  try clear hfz80_6
                  try clear p2
                  obtain ⟨kq, HA, HJ75, HO_7, BK401, BK402, BK403, BK422, HB⟩ := hcut
                  cases kq with
                  | zero => exact absurd HA.out (by simp [l08_PageBack.j5])
                  | succ kj75 =>
                   have H := HA.out
                   clear HA
                   simp only [l08_PageBack.j5] at H
                   obtain ⟨y426, hy426⟩ : ∃ y_ : List Int, y_ = (([(Int.tmod (wrap64 (a2_1)) (wrap64 ((wrap64 (8 * a0_4)) + 14))), (Int.tmod (wrap64 (IntKind.u16.wrap ((IntKind.u16.wrap (Int.tdiv a2_1 3)) + 1))) (wrap64 ((wrap64 (8 * a0_4)) + 14)))] : List Int)) := ⟨_, rfl⟩
                   replace H : ((bits_Flip.f kj75 t406 y426).bind fun t429 => ((page_Decode.f kj75 a0_0 a0_1 a0_2 a0_3 a0_4 a0_5 a0_6 t429).bind fun bt432 => (if bt432.2.2.2.2.2.2 = 14 then (if (bt432.1.length : Int) = 0 then (if (bt432.2.1 == 0 && (bt432.2.2.1 == 0 && (bt432.2.2.2.1 == 0 && (bt432.2.2.2.2.1 == 0)))) = true then (some (bt432.2.2.2.2.2.1 == 0)) else (none)) else (none)) else (none)))) = some r := by first | (rw [hy426]; with_reducible exact H) | (have H2_ := (Option.bind_some _ _).symm.trans H; rw [hy426]; with_reducible exact H2_) | (have H2_ := (Option.bind_some _ _).symm.trans H; with_reducible exact H2_) | with_reducible exact H | (rw [hy426]; exact H) | exact H
                   have Ny426 := ak_ hy426
                   clear hy426
                   replace H := Option.bind_eq_some_iff.mp H
                   obtain ⟨t429, A830, H⟩ := H
                   replace H : ((page_Decode.f kj75 a0_0 a0_1 a0_2 a0_3 a0_4 a0_5 a0_6 t429).bind fun bt432 => (if bt432.2.2.2.2.2.2 = 14 then (if (bt432.1.length : Int) = 0 then (if (bt432.2.1 == 0 && (bt432.2.2.1 == 0 && (bt432.2.2.2.1 == 0 && (bt432.2.2.2.2.1 == 0)))) = true then (some (bt432.2.2.2.2.2.1 == 0)) else (none)) else (none)) else (none))) = some r := H
                   have A83 := ak_ A830
                   clear A830
                   replace H := Option.bind_eq_some_iff.mp H
                   obtain ⟨⟨t432, t435, t436, t437, t438, t439, t440⟩, A840, H⟩ := H
                   replace H : (if t440 = 14 then (if (t432.length : Int) = 0 then (if (t435 == 0 && (t436 == 0 && (t437 == 0 && (t438 == 0)))) = true then (some (t439 == 0)) else (none)) else (none)) else (none)) = some r := H
                   have A84 := ak_ A840
                   clear A840
                   by_cases c85 : t440 = 14
                   ·rw [if_pos c85] at H
                    have c85b0 : (t440 == 14) = true := beq_iff_eq.mpr c85
                    have c85b1 : (t440 != 14) = false := bne_eq_false_iff_eq.mpr c85
                    clear c85
                    by_cases c86 : (t432.length : Int) = 0
                    ·rw [if_pos c86] at H
                     have c86b0 : ((t432.length : Int) == 0) = true := beq_iff_eq.mpr c86
                     have c86b1 : ((t432.length : Int) != 0) = false := bne_eq_false_iff_eq.mpr c86
                     clear c86
                     by_cases c87 : (t435 == 0 && (t436 == 0 && (t437 == 0 && (t438 == 0)))) = true
                     ·rw [if_pos c87] at H
                      have c87b0 : (t435 == 0 && (t436 == 0 && (t437 == 0 && (t438 == 0)))) = true := c87
                      (try (have c87b1 : decide (t435 = 0 && (t436 == 0 && (t437 == 0 && (t438 == 0)))) = true := by simpa using c87))
                      (try (have c87b2 : (t435 == 0 && (t436 == 0 && (t437 == 0 && (t438 == 0)))) = true := by simpa using c87))
                      clear c87
                      obtain rfl := si_ H
                      try go_wp2
                      have n0_ := ak_ (Kd.R_drew HO_7.out)
                      have n1_ := ak_ (blk_drew BK401.out)
                      have n2_ := ak_ (blk_drew BK402.out)
                      have n3_ := ak_ (blk_drew BK403.out)
                      have n4_ := ak_ (blk_drew BK422.out)
                      have n5_ := ak_ (below_drew1 HB.out)
                      clear HO_7
                      clear BK401
                      clear BK402
                      clear BK403
                      clear BK422
                      clear HB
                      have HO_7 := n0_
                      have BK401 := n1_
                      have BK402 := n2_
                      have BK403 := n3_
                      have BK422 := n4_
                      have HB := n5_
                      clear n0_ n1_ n2_ n3_ n4_ n5_
                      refine start_ (n := 17) (S := fun w' => w'.cell? ⟨gb401, 0, none⟩ = some (.int .i64 a0_0) ∧ w'.cell? ⟨gb401, 1, none⟩ = some (.int .i64 a0_1) ∧ w'.cell? ⟨gb401, 2, none⟩ = some (.int .i64 a0_2) ∧ w'.cell? ⟨gb401, 3, none⟩ = some (.int .i64 a0_3) ∧ w'.cell? ⟨gb401, 4, none⟩ = some (.int .i64 a0_4) ∧ w'.cell? ⟨gb401, 5, none⟩ = some (.int .i64 a0_5) ∧ w'.cell? ⟨gb401, 6, none⟩ = some (.int .i64 a0_6)) (ds := []) #[false, false, false, false, false, false, false, false, false, false, false, false, false, false, false, false, false] (by kernel_rfl) rfl rfl ⟨(bc_ BK401.out 0).trans rfl, (bc_ BK401.out 1).trans rfl, (bc_ BK401.out 2).trans rfl, (bc_ BK401.out 3).trans rfl, (bc_ BK401.out 4).trans rfl, (bc_ BK401.out 5).trans rfl, (bc_ BK401.out 6).trans rfl⟩ (fun hHeld => ?_); refine with_tabW l08_PageBack.tab16 l08_PageBack.bits16 (fun HT_ HW_ => ?_)
                      generalize wc.drew = w88 at HO_7 BK401 BK402 BK403 BK422 HB hHeld ⊢
                      refine pure_ (i := 1) (N := some 118) (v := ?_) (a' := ?_) #[false, true, false, false, false, false, false, false, false, false, false, false, false, false, false, false, false] rfl rfl (any_of HT_.out (by kernel_rfl)) (fun _ _ _ h => h) (Or.inl ⟨by rfl, ?_⟩) ?_ ?_
                      rotate_left
                      ·intro w'
                       go_simp
                       with_reducible rfl
                      rotate_left
                      ·simp only [Act.put, sb_, sz_, su_, i64_w, i32_w]
                       rfl
                      refine pure_ (i := 2) (N := some 119) (v := ?_) (a' := ?_) #[false, true, true, false, false, false, false, false, false, false, false, false, false, false, false, false, false] rfl rfl (any_of HT_.out (by kernel_rfl)) (fun _ _ _ h => h) (Or.inl ⟨by rfl, ?_⟩) ?_ ?_
                      rotate_left
                      ·intro w'
                       go_simp
                       with_reducible rfl
                      rotate_left
                      ·simp only [Act.put, sb_, sz_, su_, i64_w, i32_w]
                       rfl
                      refine pure_ (i := 3) (N := some 120) (v := ?_) (a' := ?_) #[false, true, true, true, false, false, false, false, false, false, false, false, false, false, false, false, false] rfl rfl (any_of HT_.out (by kernel_rfl)) (fun _ _ _ h => h) (Or.inl ⟨by rfl, ?_⟩) ?_ ?_
                      rotate_left
                      ·intro w'
                       go_simp
                       with_reducible rfl
                      rotate_left
                      ·simp only [Act.put, sb_, sz_, su_, i64_w, i32_w]
                       rfl
                      refine take_ (i := 0) (N := some 117) (v := ?_) (a' := ?_) #[true, true, true, true, false, false, false, false, false, false, false, false, false, false, false, false, false] rfl rfl (take_ofW HT_.out HW_.out (by kernel_rfl)) (fun _ _ _ h => h) (Or.inl ⟨by rfl, ?_⟩) hHeld ?_ ?_
                      rotate_left
                      ·rintro w' ⟨s0, s1, s2, s3, s4, s5, s6⟩
                       go_simp
                       with_reducible rfl
                      rotate_left
                      ·simp only [Act.put, sb_, sz_, su_, i64_w, i32_w]
                       rfl
                      refine join_ (σ := Value × Value × Value × Nat) 4 #[true, true, true, true, true, true, true, true, true, true, true, true, true, false, false, false, false] (fun s_ => [(121, s_.1), (122, s_.2.1), (123, .tuple #[s_.2.2.1, .agg #[.int .i64 t435, .int .i64 t436, .int .i64 t437, .int .i64 t438], .int .i64 t439, .int .i64 t440]), (18, .pointer (some ⟨s_.2.2.2, 0, none⟩)), (116, .tuple #[s_.2.2.1, .agg #[.int .i64 t435, .int .i64 t436, .int .i64 t437, .int .i64 t438], .int .i64 t439, .int .i64 t440]), (124, s_.2.2.1), (125, .agg #[.int .i64 t435, .int .i64 t436, .int .i64 t437, .int .i64 t438]), (126, .int .i64 t439), (127, .int .i64 t440)]) (fun s_ w' => (w'.cell? ⟨gb401, 0, none⟩ = some (.int .i64 a0_0) ∧ w'.cell? ⟨gb401, 1, none⟩ = some (.int .i64 a0_1) ∧ w'.cell? ⟨gb401, 2, none⟩ = some (.int .i64 a0_2) ∧ w'.cell? ⟨gb401, 3, none⟩ = some (.int .i64 a0_3) ∧ w'.cell? ⟨gb401, 4, none⟩ = some (.int .i64 a0_4) ∧ w'.cell? ⟨gb401, 5, none⟩ = some (.int .i64 a0_5) ∧ w'.cell? ⟨gb401, 6, none⟩ = some (.int .i64 a0_6)) ∧ (Kd.R (Kd.int .i64) 3 w' w.heap.size (fun _ => True) s_.1 y426) ∧ (Kd.R (Kd.int .u8) 5 w' w.heap.size (fun k_ => some k_ ≠ (s_.2.2.1 : Value).ownBlock ∧ some k_ ≠ (.slice Ao60 t406.length co60 : Value).ownBlock) s_.2.1 t429) ∧ (Kd.R (Kd.int .u8) 5 w' w.heap.size (fun k_ => some k_ ≠ (s_.2.1 : Value).ownBlock ∧ some k_ ≠ (.slice Ao60 t406.length co60 : Value).ownBlock) s_.2.2.1 t432) ∧ (Kd.R (Kd.int .u8) 5 w' w.heap.size (fun k_ => some k_ ≠ (s_.2.1 : Value).ownBlock ∧ some k_ ≠ (s_.2.2.1 : Value).ownBlock) (.slice Ao60 t406.length co60) t406) ∧ (w'.heap[gb401]? = some (.cells #[.int .i64 a0_0, .int .i64 a0_1, .int .i64 a0_2, .int .i64 a0_3, .int .i64 a0_4, .int .i64 a0_5, .int .i64 a0_6] 23 (0, 0))) ∧ (w'.heap[gb402]? = some (.cells #[.slice A1_0 l1_0.length c1_0, .int .i64 a1_1, .int .i64 a1_2, .int .i64 a1_3, .int .i64 a1_4] 57 (0, 0))) ∧ (w'.heap[gb403]? = some (.cells #[.slice A2_0 l2_0.length c2_0, .int .u16 a2_1] 61 (0, 0))) ∧ (w'.heap[gb422]? = some (.cells #[.int .i64 t416, .int .i64 t417, .int .i64 t418, .int .i64 t419] 26 (0, 0))) ∧ (w'.heap[s_.2.2.2]? = some (.cells #[.int .i64 0, .int .i64 0, .int .i64 0, .int .i64 0] 26 (0, 0))) ∧ (w.heap.size ≤ s_.2.2.2) ∧ (w.heap.size ≤ s_.2.2.2) ∧ (gb401 ≠ s_.2.2.2) ∧ (s_.2.2.2 ≠ gb401) ∧ (gb402 ≠ s_.2.2.2) ∧ (s_.2.2.2 ≠ gb402) ∧ (gb403 ≠ s_.2.2.2) ∧ (s_.2.2.2 ≠ gb403) ∧ (gb422 ≠ s_.2.2.2) ∧ (s_.2.2.2 ≠ gb422) ∧ (Below w.heap.size w w')) ?_ ?_
                      rotate_left
                      ·intro hCont
                       refine two_ (i := 4) (j := 12) (Ni := some 121) (Nj := some 18) #[true, true, true, true, true, false, false, false, false, false, false, false, false, false, false, false, false] #[true, true, true, true, false, false, false, false, false, false, false, false, true, false, false, false, false] rfl rfl rfl rfl (two_of HT_.out (by kernel_rfl)) (by decide) (by decide) (fun K hK => ?_) (fun K hK => ?_)
                       ·skip
                        refine Kd.R_lit_step (Kd.int .i64) _ 3 ?hg (N := 121) ?hd (xs := ([(Int.tmod (wrap64 (a2_1)) (wrap64 ((wrap64 (8 * a0_4)) + 14))), (Int.tmod (wrap64 (IntKind.u16.wrap ((IntKind.u16.wrap (Int.tdiv a2_1 3)) + 1))) (wrap64 ((wrap64 (8 * a0_4)) + 14)))] : List Int)) (inner := [.int .i64 (Int.tmod (wrap64 (a2_1)) (wrap64 ((wrap64 (8 * a0_4)) + 14))), .int .i64 (Int.tmod (wrap64 (IntKind.u16.wrap ((IntKind.u16.wrap (Int.tdiv a2_1 3)) + 1))) (wrap64 ((wrap64 (8 * a0_4)) + 14)))]) (ok := fun _ => True) (okp := fun _ => True) ?hr ?hp (fun _ hk => hk) trivial (Below.refl _ _) (Nat.le_refl _) (by simp) ?_; (case hd => rfl); (case hg => rfl); (case hr => first | (go_simp; done) | (go_simp; rfl)); (case hp => exact (Reps.one (show Kd.M (Kd.int .i64) _ _ _ (Int.tmod (wrap64 (a2_1)) (wrap64 ((wrap64 (8 * a0_4)) + 14))) [.int .i64 (Int.tmod (wrap64 (a2_1)) (wrap64 ((wrap64 (8 * a0_4)) + 14)))] from rfl) (Reps.one (show Kd.M (Kd.int .i64) _ _ _ (Int.tmod (wrap64 (IntKind.u16.wrap ((IntKind.u16.wrap (Int.tdiv a2_1 3)) + 1))) (wrap64 ((wrap64 (8 * a0_4)) + 14))) [.int .i64 (Int.tmod (wrap64 (IntKind.u16.wrap ((IntKind.u16.wrap (Int.tdiv a2_1 3)) + 1))) (wrap64 ((wrap64 (8 * a0_4)) + 14)))] from rfl) (Reps.none _ _))))
                        intro v427 w89 ho90 hb hg_ hnew_
                        clear hg_ hnew_
                        (first | rw [← Ny426.out] at ho90 | (simp only [Int.reduceToNat] at ho90; rw [← Ny426.out] at ho90))
                        have n0_ := ak_ (Kd.R_below (by (with_reducible repeat (first | apply Kd.R_alloc | apply Kd.R_drewN | apply Kd.R_drew)); exact HO_7.out) hb)
                        have n1_ := ak_ (Kd.R_lower ho90 (below_size (by repeat (first | (with_reducible first | exact HB.out | apply below_alloc | apply pw_below_drewN | apply below_drew1 | refine below_set ?_ GE401.out | refine below_set ?_ GE402.out | refine below_set ?_ GE403.out | refine below_set ?_ GE422.out) | exact HB.out))))
                        have n2_ := ak_ (blk_below (g := gb401) (o := .cells #[.int .i64 a0_0, .int .i64 a0_1, .int .i64 a0_2, .int .i64 a0_3, .int .i64 a0_4, .int .i64 a0_5, .int .i64 a0_6] 23 (0, 0)) (by (with_reducible repeat (first | apply blk_drewN | apply blk_drew | apply blk_alloc)); exact BK401.out) hb)
                        have n3_ := ak_ (blk_below (g := gb402) (o := .cells #[.slice A1_0 l1_0.length c1_0, .int .i64 a1_1, .int .i64 a1_2, .int .i64 a1_3, .int .i64 a1_4] 57 (0, 0)) (by (with_reducible repeat (first | apply blk_drewN | apply blk_drew | apply blk_alloc)); exact BK402.out) hb)
                        have n4_ := ak_ (blk_below (g := gb403) (o := .cells #[.slice A2_0 l2_0.length c2_0, .int .u16 a2_1] 61 (0, 0)) (by (with_reducible repeat (first | apply blk_drewN | apply blk_drew | apply blk_alloc)); exact BK403.out) hb)
                        have n5_ := ak_ (blk_below (g := gb422) (o := .cells #[.int .i64 t416, .int .i64 t417, .int .i64 t418, .int .i64 t419] 26 (0, 0)) (by (with_reducible repeat (first | apply blk_drewN | apply blk_drew | apply blk_alloc)); exact BK422.out) hb)
                        have n6_ := ak_ (below_step (by repeat (first | (with_reducible first | exact HB.out | apply below_alloc | apply pw_below_drewN | apply below_drew1 | refine below_set ?_ GE401.out | refine below_set ?_ GE402.out | refine below_set ?_ GE403.out | refine below_set ?_ GE422.out) | exact HB.out)) hb)
                        clear HO_7
                        clear BK401
                        clear BK402
                        clear BK403
                        clear BK422
                        clear HB
                        have HO_7 := n0_
                        have HO428 := n1_
                        have BK401 := n2_
                        have BK402 := n3_
                        have BK403 := n4_
                        have BK422 := n5_
                        have HB := n6_
                        clear n0_ n1_ n2_ n3_ n4_ n5_ n6_
                        clear hb ho90
                        obtain ⟨Ao91, co91, eo91⟩ := Kd.R_slice HO428.out
                        (first | subst eo91 | (injection eo91 with f1_ f2_ f3_; have f4_ := f1_.symm; have f5_ := f3_.symm; clear f1_ f2_ f3_; subst f4_; subst f5_))
                        refine hK.out _ _ ⟨(bc_ BK401.out 0).trans rfl, (bc_ BK401.out 1).trans rfl, (bc_ BK401.out 2).trans rfl, (bc_ BK401.out 3).trans rfl, (bc_ BK401.out 4).trans rfl, (bc_ BK401.out 5).trans rfl, (bc_ BK401.out 6).trans rfl⟩ (fun hHeld => ?_)
                        clear hK K
                        refine norm_ (a' := ?_) ?_ ?_
                        rotate_left
                        ·show Act.put _ (some 121) _ = _
                         simp only [Act.put, sb_, sz_, su_, i64_w, i32_w]
                         rfl
                        refine two_ (i := 5) (j := 12) (Ni := some 122) (Nj := some 18) #[true, true, true, true, true, true, false, false, false, false, false, false, false, false, false, false, false] #[true, true, true, true, true, false, false, false, false, false, false, false, true, false, false, false, false] rfl rfl rfl rfl (two_of HT_.out (by kernel_rfl)) (by decide) (by decide) (fun K hK => ?_) (fun K hK => ?_)
                        ·skip
                         refine goes_ Try.func34 (by kernel_rfl) rfl #[.slice Ao60 t406.length co60, .slice Ao91 y426.length co91] (by rfl) rfl rfl (by (try simp only [List.map_toArray, List.map_cons, List.map_nil]); first | done | rfl | (simp only [List.length_drop, List.length_take]; rfl)) ?_
                         with_reducible refine (bits_Flip.calls kj75 _ _ t406 _ _ y426 t429 _ ?side1 ?side2 ?side3 ?side4 A83.out).mono ?_
                         (case side1 => repeat (first | exact (Kd.R_reads' HO_7.out).2.2 | (with_reducible refine Kd.C_alloc ?_ _) | (with_reducible refine Kd.C_drewN ?_ _) | (with_reducible refine Kd.C_drew ?_)))
                         (case side2 => exact (Kd.R_reads' HO_7.out).2.1)
                         (case side3 => repeat (first | exact (Kd.R_reads' HO428.out).2.2 | (with_reducible refine Kd.C_alloc ?_ _) | (with_reducible refine Kd.C_drewN ?_ _) | (with_reducible refine Kd.C_drew ?_)))
                         (case side4 => exact (Kd.R_reads' HO428.out).2.1)
                         rintro e w92 ⟨v430, rfl, ho0, hb⟩
                         refine ⟨_, rfl, ?_⟩
                         have n0_ := ak_ (Kd.R_elder' (by (with_reducible repeat (first | apply Kd.R_alloc | apply Kd.R_drewN | apply Kd.R_drew)); exact HO_7.out) (Kd.R_base ho0) hb)
                         have n1_ := ak_ (Kd.R_below (by (with_reducible repeat (first | apply Kd.R_alloc | apply Kd.R_drewN | apply Kd.R_drew)); exact HO428.out) hb)
                         have n2_ := ak_ (Kd.R_lower (Kd.R_new' ho0 (Kd.R_lt (by (with_reducible repeat (first | apply Kd.R_alloc | apply Kd.R_drewN | apply Kd.R_drew)); exact HO_7.out))) (below_size (by repeat (first | (with_reducible first | exact HB.out | apply below_alloc | apply pw_below_drewN | apply below_drew1 | refine below_set ?_ GE401.out | refine below_set ?_ GE402.out | refine below_set ?_ GE403.out | refine below_set ?_ GE422.out) | exact HB.out))))
                         have n3_ := ak_ (blk_below (g := gb401) (o := .cells #[.int .i64 a0_0, .int .i64 a0_1, .int .i64 a0_2, .int .i64 a0_3, .int .i64 a0_4, .int .i64 a0_5, .int .i64 a0_6] 23 (0, 0)) (by (with_reducible repeat (first | apply blk_drewN | apply blk_drew | apply blk_alloc)); exact BK401.out) hb)
                         have n4_ := ak_ (blk_below (g := gb402) (o := .cells #[.slice A1_0 l1_0.length c1_0, .int .i64 a1_1, .int .i64 a1_2, .int .i64 a1_3, .int .i64 a1_4] 57 (0, 0)) (by (with_reducible repeat (first | apply blk_drewN | apply blk_drew | apply blk_alloc)); exact BK402.out) hb)
                         have n5_ := ak_ (blk_below (g := gb403) (o := .cells #[.slice A2_0 l2_0.length c2_0, .int .u16 a2_1] 61 (0, 0)) (by (with_reducible repeat (first | apply blk_drewN | apply blk_drew | apply blk_alloc)); exact BK403.out) hb)
                         have n6_ := ak_ (blk_below (g := gb422) (o := .cells #[.int .i64 t416, .int .i64 t417, .int .i64 t418, .int .i64 t419] 26 (0, 0)) (by (with_reducible repeat (first | apply blk_drewN | apply blk_drew | apply blk_alloc)); exact BK422.out) hb)
                         have n7_ := ak_ (below_step (by repeat (first | (with_reducible first | exact HB.out | apply below_alloc | apply pw_below_drewN | apply below_drew1 | refine below_set ?_ GE401.out | refine below_set ?_ GE402.out | refine below_set ?_ GE403.out | refine below_set ?_ GE422.out) | exact HB.out)) hb)
                         clear HO_7
                         clear HO428
                         clear BK401
                         clear BK402
                         clear BK403
                         clear BK422
                         clear HB
                         have HO_7 := n0_
                         have HO428 := n1_
                         have HO431 := n2_
                         have BK401 := n3_
                         have BK402 := n4_
                         have BK403 := n5_
                         have BK422 := n6_
                         have HB := n7_
                         clear n0_ n1_ n2_ n3_ n4_ n5_ n6_ n7_
                         (try clear hb)
                         (try clear hb2)
                         (try clear hk)
                         (try clear hi)
                         (try clear ho0)
                         obtain ⟨Ao93, co93, eo93⟩ := Kd.R_slice HO431.out
                         (first | subst eo93 | (injection eo93 with f1_ f2_ f3_; have f4_ := f1_.symm; have f5_ := f3_.symm; clear f1_ f2_ f3_; subst f4_; subst f5_))
                         refine hK.out _ _ ⟨(bc_ BK401.out 0).trans rfl, (bc_ BK401.out 1).trans rfl, (bc_ BK401.out 2).trans rfl, (bc_ BK401.out 3).trans rfl, (bc_ BK401.out 4).trans rfl, (bc_ BK401.out 5).trans rfl, (bc_ BK401.out 6).trans rfl⟩ (fun hHeld => ?_)
                         clear hK K
                         refine norm_ (a' := ?_) ?_ ?_
                         rotate_left
                         ·show Act.put _ (some 122) _ = _
                          simp only [Act.put, sb_, sz_, su_, i64_w, i32_w]
                          rfl
                         refine two_ (i := 6) (j := 12) (Ni := some 123) (Nj := some 18) #[true, true, true, true, true, true, true, false, false, false, false, false, false, false, false, false, false] #[true, true, true, true, true, true, false, false, false, false, false, false, true, false, false, false, false] rfl rfl rfl rfl (two_of HT_.out (by kernel_rfl)) (by decide) (by decide) (fun K hK => ?_) (fun K hK => ?_)
                         ·skip
                          refine goes_ Try.func30 (by kernel_rfl) rfl #[.agg #[.int .i64 a0_0, .int .i64 a0_1, .int .i64 a0_2, .int .i64 a0_3, .int .i64 a0_4, .int .i64 a0_5, .int .i64 a0_6], .slice Ao93 t429.length co93] (by rfl) rfl rfl (by (try simp only [List.map_toArray, List.map_cons, List.map_nil]); first | done | rfl | (simp only [List.length_drop, List.length_take]; rfl)) ?_
                          with_reducible refine (page_Decode.calls kj75 a0_0 a0_1 a0_2 a0_3 a0_4 a0_5 a0_6 _ _ t429 t432 t435 t436 t437 t438 t439 t440 _ ?side1 ?side2 A84.out).mono ?_
                          (case side1 => repeat (first | exact (Kd.R_reads' HO431.out).2.2 | (with_reducible refine Kd.C_alloc ?_ _) | (with_reducible refine Kd.C_drewN ?_ _) | (with_reducible refine Kd.C_drew ?_)))
                          (case side2 => exact (Kd.R_reads' HO431.out).2.1)
                          rintro e w94 ⟨v433, rfl, ho0, hb⟩
                          refine ⟨_, rfl, ?_⟩
                          have n0_ := ak_ (Kd.R_elder' (by (with_reducible repeat (first | apply Kd.R_alloc | apply Kd.R_drewN | apply Kd.R_drew)); exact HO_7.out) (Kd.R_base ho0) hb)
                          have n1_ := ak_ (Kd.R_below (by (with_reducible repeat (first | apply Kd.R_alloc | apply Kd.R_drewN | apply Kd.R_drew)); exact HO428.out) hb)
                          have n2_ := ak_ (Kd.R_elder' (by (with_reducible repeat (first | apply Kd.R_alloc | apply Kd.R_drewN | apply Kd.R_drew)); exact HO431.out) (Kd.R_base ho0) hb)
                          have n3_ := ak_ (Kd.R_lower (Kd.R_new' (Kd.R_new' ho0 (Kd.R_lt (by (with_reducible repeat (first | apply Kd.R_alloc | apply Kd.R_drewN | apply Kd.R_drew)); exact HO_7.out))) (Kd.R_lt (by (with_reducible repeat (first | apply Kd.R_alloc | apply Kd.R_drewN | apply Kd.R_drew)); exact HO431.out))) (below_size (by repeat (first | (with_reducible first | exact HB.out | apply below_alloc | apply pw_below_drewN | apply below_drew1 | refine below_set ?_ GE401.out | refine below_set ?_ GE402.out | refine below_set ?_ GE403.out | refine below_set ?_ GE422.out) | exact HB.out))))
                          have n4_ := ak_ (blk_below (g := gb401) (o := .cells #[.int .i64 a0_0, .int .i64 a0_1, .int .i64 a0_2, .int .i64 a0_3, .int .i64 a0_4, .int .i64 a0_5, .int .i64 a0_6] 23 (0, 0)) (by (with_reducible repeat (first | apply blk_drewN | apply blk_drew | apply blk_alloc)); exact BK401.out) hb)
                          have n5_ := ak_ (blk_below (g := gb402) (o := .cells #[.slice A1_0 l1_0.length c1_0, .int .i64 a1_1, .int .i64 a1_2, .int .i64 a1_3, .int .i64 a1_4] 57 (0, 0)) (by (with_reducible repeat (first | apply blk_drewN | apply blk_drew | apply blk_alloc)); exact BK402.out) hb)
                          have n6_ := ak_ (blk_below (g := gb403) (o := .cells #[.slice A2_0 l2_0.length c2_0, .int .u16 a2_1] 61 (0, 0)) (by (with_reducible repeat (first | apply blk_drewN | apply blk_drew | apply blk_alloc)); exact BK403.out) hb)
                          have n7_ := ak_ (blk_below (g := gb422) (o := .cells #[.int .i64 t416, .int .i64 t417, .int .i64 t418, .int .i64 t419] 26 (0, 0)) (by (with_reducible repeat (first | apply blk_drewN | apply blk_drew | apply blk_alloc)); exact BK422.out) hb)
                          have n8_ := ak_ (below_step (by repeat (first | (with_reducible first | exact HB.out | apply below_alloc | apply pw_below_drewN | apply below_drew1 | refine below_set ?_ GE401.out | refine below_set ?_ GE402.out | refine below_set ?_ GE403.out | refine below_set ?_ GE422.out) | exact HB.out)) hb)
                          clear HO_7
                          clear HO428
                          clear HO431
                          clear BK401
                          clear BK402
                          clear BK403
                          clear BK422
                          clear HB
                          have HO_7 := n0_
                          have HO428 := n1_
                          have HO431 := n2_
                          have HO434 := n3_
                          have BK401 := n4_
                          have BK402 := n5_
                          have BK403 := n6_
                          have BK422 := n7_
                          have HB := n8_
                          clear n0_ n1_ n2_ n3_ n4_ n5_ n6_ n7_ n8_
                          (try clear hb)
                          (try clear hb2)
                          (try clear hk)
                          (try clear hi)
                          (try clear ho0)
                          refine hK.out _ _ ⟨(bc_ BK401.out 0).trans rfl, (bc_ BK401.out 1).trans rfl, (bc_ BK401.out 2).trans rfl, (bc_ BK401.out 3).trans rfl, (bc_ BK401.out 4).trans rfl, (bc_ BK401.out 5).trans rfl, (bc_ BK401.out 6).trans rfl⟩ (fun hHeld => ?_)
                          clear hK K
                          refine norm_ (a' := ?_) ?_ ?_
                          rotate_left
                          ·show Act.put _ (some 123) _ = _
                           simp only [Act.put, sb_, sz_, su_, i64_w, i32_w]
                           rfl
                          refine pure_ (i := 7) (N := some 116) (v := ?_) (a' := ?_) #[true, true, true, true, true, true, true, true, false, false, false, false, false, false, false, false, false] rfl rfl (any_of HT_.out (by kernel_rfl)) (fun _ _ _ h => h) (Or.inl ⟨by rfl, ?_⟩) ?_ ?_
                          rotate_left
                          ·intro w'
                           go_simp
                           with_reducible rfl
                          rotate_left
                          ·simp only [Act.put, sb_, sz_, su_, i64_w, i32_w]
                           rfl
                          refine pure_ (i := 8) (N := some 124) (v := ?_) (a' := ?_) #[true, true, true, true, true, true, true, true, true, false, false, false, false, false, false, false, false] rfl rfl (any_of HT_.out (by kernel_rfl)) (fun _ _ _ h => h) (Or.inl ⟨by rfl, ?_⟩) ?_ ?_
                          rotate_left
                          ·intro w'
                           go_simp
                           with_reducible rfl
                          rotate_left
                          ·simp only [Act.put, sb_, sz_, su_, i64_w, i32_w]
                           rfl
                          refine pure_ (i := 9) (N := some 125) (v := ?_) (a' := ?_) #[true, true, true, true, true, true, true, true, true, true, false, false, false, false, false, false, false] rfl rfl (any_of HT_.out (by kernel_rfl)) (fun _ _ _ h => h) (Or.inl ⟨by rfl, ?_⟩) ?_ ?_
                          rotate_left
                          ·intro w'
                           go_simp
                           with_reducible rfl
                          rotate_left
                          ·simp only [Act.put, sb_, sz_, su_, i64_w, i32_w]
                           rfl
                          refine pure_ (i := 10) (N := some 126) (v := ?_) (a' := ?_) #[true, true, true, true, true, true, true, true, true, true, true, false, false, false, false, false, false] rfl rfl (any_of HT_.out (by kernel_rfl)) (fun _ _ _ h => h) (Or.inl ⟨by rfl, ?_⟩) ?_ ?_
                          rotate_left
                          ·intro w'
                           go_simp
                           with_reducible rfl
                          rotate_left
                          ·simp only [Act.put, sb_, sz_, su_, i64_w, i32_w]
                           rfl
                          refine pure_ (i := 11) (N := some 127) (v := ?_) (a' := ?_) #[true, true, true, true, true, true, true, true, true, true, true, true, false, false, false, false, false] rfl rfl (any_of HT_.out (by kernel_rfl)) (fun _ _ _ h => h) (Or.inl ⟨by rfl, ?_⟩) ?_ ?_
                          rotate_left
                          ·intro w'
                           go_simp
                           with_reducible rfl
                          rotate_left
                          ·simp only [Act.put, sb_, sz_, su_, i64_w, i32_w]
                           rfl
                          refine one_ (i := 12) (N := some 18) #[true, true, true, true, true, true, true, true, true, true, true, true, true, false, false, false, false] rfl rfl (one_of HT_.out (by kernel_rfl)) (by decide) (fun K hK => ?_)
                          refine box_step ?hg (N := 18) ?hd (cs := #[.int .i64 0, .int .i64 0, .int .i64 0, .int .i64 0]) (t := 26) ?hr ?_; (case hd => rfl); (case hg => rfl); (case hr => first | (go_simp; done) | (go_simp; rfl))
                          intro gb441 hg w95 hbox hb
                          have n0_ := ak_ (Kd.R_below (by (with_reducible repeat (first | apply Kd.R_alloc | apply Kd.R_drewN | apply Kd.R_drew)); exact HO_7.out) hb)
                          have n1_ := ak_ (Kd.R_below (by (with_reducible repeat (first | apply Kd.R_alloc | apply Kd.R_drewN | apply Kd.R_drew)); exact HO428.out) hb)
                          have n2_ := ak_ (Kd.R_below (by (with_reducible repeat (first | apply Kd.R_alloc | apply Kd.R_drewN | apply Kd.R_drew)); exact HO431.out) hb)
                          have n3_ := ak_ (Kd.R_below (by (with_reducible repeat (first | apply Kd.R_alloc | apply Kd.R_drewN | apply Kd.R_drew)); exact HO434.out) hb)
                          have n4_ := ak_ (blk_below (g := gb401) (o := .cells #[.int .i64 a0_0, .int .i64 a0_1, .int .i64 a0_2, .int .i64 a0_3, .int .i64 a0_4, .int .i64 a0_5, .int .i64 a0_6] 23 (0, 0)) (by (with_reducible repeat (first | apply blk_drewN | apply blk_drew | apply blk_alloc)); exact BK401.out) hb)
                          have n5_ := ak_ (blk_below (g := gb402) (o := .cells #[.slice A1_0 l1_0.length c1_0, .int .i64 a1_1, .int .i64 a1_2, .int .i64 a1_3, .int .i64 a1_4] 57 (0, 0)) (by (with_reducible repeat (first | apply blk_drewN | apply blk_drew | apply blk_alloc)); exact BK402.out) hb)
                          have n6_ := ak_ (blk_below (g := gb403) (o := .cells #[.slice A2_0 l2_0.length c2_0, .int .u16 a2_1] 61 (0, 0)) (by (with_reducible repeat (first | apply blk_drewN | apply blk_drew | apply blk_alloc)); exact BK403.out) hb)
                          have n7_ := ak_ (blk_below (g := gb422) (o := .cells #[.int .i64 t416, .int .i64 t417, .int .i64 t418, .int .i64 t419] 26 (0, 0)) (by (with_reducible repeat (first | apply blk_drewN | apply blk_drew | apply blk_alloc)); exact BK422.out) hb)
                          have n8_ := ak_ (below_step (by repeat (first | (with_reducible first | exact HB.out | apply below_alloc | apply pw_below_drewN | apply below_drew1 | refine below_set ?_ GE401.out | refine below_set ?_ GE402.out | refine below_set ?_ GE403.out | refine below_set ?_ GE422.out) | exact HB.out)) hb)
                          have n9_ := ak_ (hbox)
                          have n10_ := ak_ ((by rw [hg]; exact (below_size (by repeat (first | (with_reducible first | exact HB.out | apply below_alloc | apply pw_below_drewN | apply below_drew1 | refine below_set ?_ GE401.out | refine below_set ?_ GE402.out | refine below_set ?_ GE403.out | refine below_set ?_ GE422.out) | exact HB.out))) : w.heap.size ≤ gb441))
                          have n11_ := ak_ ((by rw [hg]; exact (below_size (by repeat (first | (with_reducible first | exact HB.out | apply below_alloc | apply pw_below_drewN | apply below_drew1 | refine below_set ?_ GE401.out | refine below_set ?_ GE402.out | refine below_set ?_ GE403.out | refine below_set ?_ GE422.out) | exact HB.out))) : w.heap.size ≤ gb441))
                          have n12_ := ak_ ((by rw [hg]; exact Nat.ne_of_lt (blk_lt (g := gb401) (o := .cells #[.int .i64 a0_0, .int .i64 a0_1, .int .i64 a0_2, .int .i64 a0_3, .int .i64 a0_4, .int .i64 a0_5, .int .i64 a0_6] 23 (0, 0)) (by (with_reducible repeat (first | apply blk_drewN | apply blk_drew | apply blk_alloc)); exact BK401.out)) : gb401 ≠ gb441))
                          have n13_ := ak_ ((by rw [hg]; exact Nat.ne_of_gt (blk_lt (g := gb401) (o := .cells #[.int .i64 a0_0, .int .i64 a0_1, .int .i64 a0_2, .int .i64 a0_3, .int .i64 a0_4, .int .i64 a0_5, .int .i64 a0_6] 23 (0, 0)) (by (with_reducible repeat (first | apply blk_drewN | apply blk_drew | apply blk_alloc)); exact BK401.out)) : gb441 ≠ gb401))
                          have n14_ := ak_ ((by rw [hg]; exact Nat.ne_of_lt (blk_lt (g := gb402) (o := .cells #[.slice A1_0 l1_0.length c1_0, .int .i64 a1_1, .int .i64 a1_2, .int .i64 a1_3, .int .i64 a1_4] 57 (0, 0)) (by (with_reducible repeat (first | apply blk_drewN | apply blk_drew | apply blk_alloc)); exact BK402.out)) : gb402 ≠ gb441))
                          have n15_ := ak_ ((by rw [hg]; exact Nat.ne_of_gt (blk_lt (g := gb402) (o := .cells #[.slice A1_0 l1_0.length c1_0, .int .i64 a1_1, .int .i64 a1_2, .int .i64 a1_3, .int .i64 a1_4] 57 (0, 0)) (by (with_reducible repeat (first | apply blk_drewN | apply blk_drew | apply blk_alloc)); exact BK402.out)) : gb441 ≠ gb402))
                          have n16_ := ak_ ((by rw [hg]; exact Nat.ne_of_lt (blk_lt (g := gb403) (o := .cells #[.slice A2_0 l2_0.length c2_0, .int .u16 a2_1] 61 (0, 0)) (by (with_reducible repeat (first | apply blk_drewN | apply blk_drew | apply blk_alloc)); exact BK403.out)) : gb403 ≠ gb441))
                          have n17_ := ak_ ((by rw [hg]; exact Nat.ne_of_gt (blk_lt (g := gb403) (o := .cells #[.slice A2_0 l2_0.length c2_0, .int .u16 a2_1] 61 (0, 0)) (by (with_reducible repeat (first | apply blk_drewN | apply blk_drew | apply blk_alloc)); exact BK403.out)) : gb441 ≠ gb403))
                          have n18_ := ak_ ((by rw [hg]; exact Nat.ne_of_lt (blk_lt (g := gb422) (o := .cells #[.int .i64 t416, .int .i64 t417, .int .i64 t418, .int .i64 t419] 26 (0, 0)) (by (with_reducible repeat (first | apply blk_drewN | apply blk_drew | apply blk_alloc)); exact BK422.out)) : gb422 ≠ gb441))
                          have n19_ := ak_ ((by rw [hg]; exact Nat.ne_of_gt (blk_lt (g := gb422) (o := .cells #[.int .i64 t416, .int .i64 t417, .int .i64 t418, .int .i64 t419] 26 (0, 0)) (by (with_reducible repeat (first | apply blk_drewN | apply blk_drew | apply blk_alloc)); exact BK422.out)) : gb441 ≠ gb422))
                          clear HO_7
                          clear HO428
                          clear HO431
                          clear HO434
                          clear BK401
                          clear BK402
                          clear BK403
                          clear BK422
                          clear HB
                          have HO_7 := n0_
                          have HO428 := n1_
                          have HO431 := n2_
                          have HO434 := n3_
                          have BK401 := n4_
                          have BK402 := n5_
                          have BK403 := n6_
                          have BK422 := n7_
                          have HB := n8_
                          have BK441 := n9_
                          have GW441 := n10_
                          have GE441 := n11_
                          have NB401_441 := n12_
                          have NB441_401 := n13_
                          have NB402_441 := n14_
                          have NB441_402 := n15_
                          have NB403_441 := n16_
                          have NB441_403 := n17_
                          have NB422_441 := n18_
                          have NB441_422 := n19_
                          clear n0_ n1_ n2_ n3_ n4_ n5_ n6_ n7_ n8_ n9_ n10_ n11_ n12_ n13_ n14_ n15_ n16_ n17_ n18_ n19_
                          clear hb hbox hg
                          refine hK.out _ _ ⟨(bc_ BK401.out 0).trans rfl, (bc_ BK401.out 1).trans rfl, (bc_ BK401.out 2).trans rfl, (bc_ BK401.out 3).trans rfl, (bc_ BK401.out 4).trans rfl, (bc_ BK401.out 5).trans rfl, (bc_ BK401.out 6).trans rfl⟩ (fun hHeld => ?_)
                          clear hK K
                          refine norm_ (a' := ?_) ?_ ?_
                          rotate_left
                          ·show Act.put _ (some 18) _ = _
                           simp only [Act.put, sb_, sz_, su_, i64_w, i32_w]
                           rfl
                          exact norm_ (by simp only [putAll, Act.put, sb_, sz_, su_]) (hCont (.slice Ao91 y426.length co91, .slice Ao93 t429.length co93, v433, gb441) _ ⟨hHeld, (by (with_reducible repeat (first | apply Kd.R_alloc | apply Kd.R_drewN | apply Kd.R_drew)); exact HO428.out), (by (with_reducible repeat (first | apply Kd.R_alloc | apply Kd.R_drewN | apply Kd.R_drew)); exact Kd.R_mono HO431.out (fun _ hk => by first | exact ⟨hk.2, hk.1.2⟩ | exact hk | (simp only [and_assoc, and_comm, and_left_comm] at hk ⊢; exact hk) | grind)), (by (with_reducible repeat (first | apply Kd.R_alloc | apply Kd.R_drewN | apply Kd.R_drew)); exact Kd.R_mono HO434.out (fun _ hk => by first | exact ⟨hk.2, hk.1.2⟩ | exact hk | (simp only [and_assoc, and_comm, and_left_comm] at hk ⊢; exact hk) | grind)), (by (with_reducible repeat (first | apply Kd.R_alloc | apply Kd.R_drewN | apply Kd.R_drew)); exact Kd.R_mono HO_7.out (fun _ hk => by first | exact ⟨hk.1.2, hk.2⟩ | exact hk | (simp only [and_assoc, and_comm, and_left_comm] at hk ⊢; exact hk) | grind)), (by (with_reducible repeat (first | apply blk_drewN | apply blk_drew | apply blk_alloc)); exact BK401.out), (by (with_reducible repeat (first | apply blk_drewN | apply blk_drew | apply blk_alloc)); exact BK402.out), (by (with_reducible repeat (first | apply blk_drewN | apply blk_drew | apply blk_alloc)); exact BK403.out), (by (with_reducible repeat (first | apply blk_drewN | apply blk_drew | apply blk_alloc)); exact BK422.out), (by (with_reducible repeat (first | apply blk_drewN | apply blk_drew | apply blk_alloc)); exact BK441.out), GW441.out, GE441.out, NB401_441.out, NB441_401.out, NB402_441.out, NB441_402.out, NB403_441.out, NB441_403.out, NB422_441.out, NB441_422.out, (by repeat (first | (with_reducible first | exact HB.out | apply below_alloc | apply pw_below_drewN | apply below_drew1 | refine below_set ?_ GE401.out | refine below_set ?_ GE402.out | refine below_set ?_ GE403.out | refine below_set ?_ GE422.out | refine below_set ?_ GE441.out) | exact HB.out))⟩)
                         ·skip
                          refine box_step ?hg (N := 18) ?hd (cs := #[.int .i64 0, .int .i64 0, .int .i64 0, .int .i64 0]) (t := 26) ?hr ?_; (case hd => rfl); (case hg => rfl); (case hr => first | (go_simp; done) | (go_simp; rfl))
                          intro gb441 hg w93 hbox hb
                          have n0_ := ak_ (Kd.R_below (by (with_reducible repeat (first | apply Kd.R_alloc | apply Kd.R_drewN | apply Kd.R_drew)); exact HO_7.out) hb)
                          have n1_ := ak_ (Kd.R_below (by (with_reducible repeat (first | apply Kd.R_alloc | apply Kd.R_drewN | apply Kd.R_drew)); exact HO428.out) hb)
                          have n2_ := ak_ (Kd.R_below (by (with_reducible repeat (first | apply Kd.R_alloc | apply Kd.R_drewN | apply Kd.R_drew)); exact HO431.out) hb)
                          have n3_ := ak_ (blk_below (g := gb401) (o := .cells #[.int .i64 a0_0, .int .i64 a0_1, .int .i64 a0_2, .int .i64 a0_3, .int .i64 a0_4, .int .i64 a0_5, .int .i64 a0_6] 23 (0, 0)) (by (with_reducible repeat (first | apply blk_drewN | apply blk_drew | apply blk_alloc)); exact BK401.out) hb)
                          have n4_ := ak_ (blk_below (g := gb402) (o := .cells #[.slice A1_0 l1_0.length c1_0, .int .i64 a1_1, .int .i64 a1_2, .int .i64 a1_3, .int .i64 a1_4] 57 (0, 0)) (by (with_reducible repeat (first | apply blk_drewN | apply blk_drew | apply blk_alloc)); exact BK402.out) hb)
                          have n5_ := ak_ (blk_below (g := gb403) (o := .cells #[.slice A2_0 l2_0.length c2_0, .int .u16 a2_1] 61 (0, 0)) (by (with_reducible repeat (first | apply blk_drewN | apply blk_drew | apply blk_alloc)); exact BK403.out) hb)
                          have n6_ := ak_ (blk_below (g := gb422) (o := .cells #[.int .i64 t416, .int .i64 t417, .int .i64 t418, .int .i64 t419] 26 (0, 0)) (by (with_reducible repeat (first | apply blk_drewN | apply blk_drew | apply blk_alloc)); exact BK422.out) hb)
                          have n7_ := ak_ (below_step (by repeat (first | (with_reducible first | exact HB.out | apply below_alloc | apply pw_below_drewN | apply below_drew1 | refine below_set ?_ GE401.out | refine below_set ?_ GE402.out | refine below_set ?_ GE403.out | refine below_set ?_ GE422.out) | exact HB.out)) hb)
                          have n8_ := ak_ (hbox)
                          have n9_ := ak_ ((by rw [hg]; exact (below_size (by repeat (first | (with_reducible first | exact HB.out | apply below_alloc | apply pw_below_drewN | apply below_drew1 | refine below_set ?_ GE401.out | refine below_set ?_ GE402.out | refine below_set ?_ GE403.out | refine below_set ?_ GE422.out) | exact HB.out))) : w.heap.size ≤ gb441))
                          have n10_ := ak_ ((by rw [hg]; exact (below_size (by repeat (first | (with_reducible first | exact HB.out | apply below_alloc | apply pw_below_drewN | apply below_drew1 | refine below_set ?_ GE401.out | refine below_set ?_ GE402.out | refine below_set ?_ GE403.out | refine below_set ?_ GE422.out) | exact HB.out))) : w.heap.size ≤ gb441))
                          have n11_ := ak_ ((by rw [hg]; exact Nat.ne_of_lt (blk_lt (g := gb401) (o := .cells #[.int .i64 a0_0, .int .i64 a0_1, .int .i64 a0_2, .int .i64 a0_3, .int .i64 a0_4, .int .i64 a0_5, .int .i64 a0_6] 23 (0, 0)) (by (with_reducible repeat (first | apply blk_drewN | apply blk_drew | apply blk_alloc)); exact BK401.out)) : gb401 ≠ gb441))
                          have n12_ := ak_ ((by rw [hg]; exact Nat.ne_of_gt (blk_lt (g := gb401) (o := .cells #[.int .i64 a0_0, .int .i64 a0_1, .int .i64 a0_2, .int .i64 a0_3, .int .i64 a0_4, .int .i64 a0_5, .int .i64 a0_6] 23 (0, 0)) (by (with_reducible repeat (first | apply blk_drewN | apply blk_drew | apply blk_alloc)); exact BK401.out)) : gb441 ≠ gb401))
                          have n13_ := ak_ ((by rw [hg]; exact Nat.ne_of_lt (blk_lt (g := gb402) (o := .cells #[.slice A1_0 l1_0.length c1_0, .int .i64 a1_1, .int .i64 a1_2, .int .i64 a1_3, .int .i64 a1_4] 57 (0, 0)) (by (with_reducible repeat (first | apply blk_drewN | apply blk_drew | apply blk_alloc)); exact BK402.out)) : gb402 ≠ gb441))
                          have n14_ := ak_ ((by rw [hg]; exact Nat.ne_of_gt (blk_lt (g := gb402) (o := .cells #[.slice A1_0 l1_0.length c1_0, .int .i64 a1_1, .int .i64 a1_2, .int .i64 a1_3, .int .i64 a1_4] 57 (0, 0)) (by (with_reducible repeat (first | apply blk_drewN | apply blk_drew | apply blk_alloc)); exact BK402.out)) : gb441 ≠ gb402))
                          have n15_ := ak_ ((by rw [hg]; exact Nat.ne_of_lt (blk_lt (g := gb403) (o := .cells #[.slice A2_0 l2_0.length c2_0, .int .u16 a2_1] 61 (0, 0)) (by (with_reducible repeat (first | apply blk_drewN | apply blk_drew | apply blk_alloc)); exact BK403.out)) : gb403 ≠ gb441))
                          have n16_ := ak_ ((by rw [hg]; exact Nat.ne_of_gt (blk_lt (g := gb403) (o := .cells #[.slice A2_0 l2_0.length c2_0, .int .u16 a2_1] 61 (0, 0)) (by (with_reducible repeat (first | apply blk_drewN | apply blk_drew | apply blk_alloc)); exact BK403.out)) : gb441 ≠ gb403))
                          have n17_ := ak_ ((by rw [hg]; exact Nat.ne_of_lt (blk_lt (g := gb422) (o := .cells #[.int .i64 t416, .int .i64 t417, .int .i64 t418, .int .i64 t419] 26 (0, 0)) (by (with_reducible repeat (first | apply blk_drewN | apply blk_drew | apply blk_alloc)); exact BK422.out)) : gb422 ≠ gb441))
                          have n18_ := ak_ ((by rw [hg]; exact Nat.ne_of_gt (blk_lt (g := gb422) (o := .cells #[.int .i64 t416, .int .i64 t417, .int .i64 t418, .int .i64 t419] 26 (0, 0)) (by (with_reducible repeat (first | apply blk_drewN | apply blk_drew | apply blk_alloc)); exact BK422.out)) : gb441 ≠ gb422))
                          clear HO_7
                          clear HO428
                          clear HO431
                          clear BK401
                          clear BK402
                          clear BK403
                          clear BK422
                          clear HB
                          have HO_7 := n0_
                          have HO428 := n1_
                          have HO431 := n2_
                          have BK401 := n3_
                          have BK402 := n4_
                          have BK403 := n5_
                          have BK422 := n6_
                          have HB := n7_
                          have BK441 := n8_
                          have GW441 := n9_
                          have GE441 := n10_
                          have NB401_441 := n11_
                          have NB441_401 := n12_
                          have NB402_441 := n13_
                          have NB441_402 := n14_
                          have NB403_441 := n15_
                          have NB441_403 := n16_
                          have NB422_441 := n17_
                          have NB441_422 := n18_
                          clear n0_ n1_ n2_ n3_ n4_ n5_ n6_ n7_ n8_ n9_ n10_ n11_ n12_ n13_ n14_ n15_ n16_ n17_ n18_
                          clear hb hbox hg
                          obtain ⟨Ao94, co94, eo94⟩ := Kd.R_slice HO431.out
                          (first | subst eo94 | (injection eo94 with f1_ f2_ f3_; have f4_ := f1_.symm; have f5_ := f3_.symm; clear f1_ f2_ f3_; subst f4_; subst f5_))
                          refine hK.out _ _ ⟨(bc_ BK401.out 0).trans rfl, (bc_ BK401.out 1).trans rfl, (bc_ BK401.out 2).trans rfl, (bc_ BK401.out 3).trans rfl, (bc_ BK401.out 4).trans rfl, (bc_ BK401.out 5).trans rfl, (bc_ BK401.out 6).trans rfl⟩ (fun hHeld => ?_)
                          clear hK K
                          refine norm_ (a' := ?_) ?_ ?_
                          rotate_left
                          ·show Act.put _ (some 18) _ = _
                           simp only [Act.put, sb_, sz_, su_, i64_w, i32_w]
                           rfl
                          refine one_ (i := 6) (N := some 123) #[true, true, true, true, true, true, true, false, false, false, false, false, true, false, false, false, false] rfl rfl (one_of HT_.out (by kernel_rfl)) (by decide) (fun K hK => ?_)
                          refine goes_ Try.func30 (by kernel_rfl) rfl #[.agg #[.int .i64 a0_0, .int .i64 a0_1, .int .i64 a0_2, .int .i64 a0_3, .int .i64 a0_4, .int .i64 a0_5, .int .i64 a0_6], .slice Ao94 t429.length co94] (by rfl) rfl rfl (by (try simp only [List.map_toArray, List.map_cons, List.map_nil]); first | done | rfl | (simp only [List.length_drop, List.length_take]; rfl)) ?_
                          with_reducible refine (page_Decode.calls kj75 a0_0 a0_1 a0_2 a0_3 a0_4 a0_5 a0_6 _ _ t429 t432 t435 t436 t437 t438 t439 t440 _ ?side1 ?side2 A84.out).mono ?_
                          (case side1 => repeat (first | exact (Kd.R_reads' HO431.out).2.2 | (with_reducible refine Kd.C_alloc ?_ _) | (with_reducible refine Kd.C_drewN ?_ _) | (with_reducible refine Kd.C_drew ?_)))
                          (case side2 => exact (Kd.R_reads' HO431.out).2.1)
                          rintro e w95 ⟨v433, rfl, ho0, hb⟩
                          refine ⟨_, rfl, ?_⟩
                          have n0_ := ak_ (Kd.R_elder' (by (with_reducible repeat (first | apply Kd.R_alloc | apply Kd.R_drewN | apply Kd.R_drew)); exact HO_7.out) (Kd.R_base ho0) hb)
                          have n1_ := ak_ (Kd.R_below (by (with_reducible repeat (first | apply Kd.R_alloc | apply Kd.R_drewN | apply Kd.R_drew)); exact HO428.out) hb)
                          have n2_ := ak_ (Kd.R_elder' (by (with_reducible repeat (first | apply Kd.R_alloc | apply Kd.R_drewN | apply Kd.R_drew)); exact HO431.out) (Kd.R_base ho0) hb)
                          have n3_ := ak_ (Kd.R_lower (Kd.R_new' (Kd.R_new' ho0 (Kd.R_lt (by (with_reducible repeat (first | apply Kd.R_alloc | apply Kd.R_drewN | apply Kd.R_drew)); exact HO_7.out))) (Kd.R_lt (by (with_reducible repeat (first | apply Kd.R_alloc | apply Kd.R_drewN | apply Kd.R_drew)); exact HO431.out))) (below_size (by repeat (first | (with_reducible first | exact HB.out | apply below_alloc | apply pw_below_drewN | apply below_drew1 | refine below_set ?_ GE401.out | refine below_set ?_ GE402.out | refine below_set ?_ GE403.out | refine below_set ?_ GE422.out | refine below_set ?_ GE441.out) | exact HB.out))))
                          have n4_ := ak_ (blk_below (g := gb401) (o := .cells #[.int .i64 a0_0, .int .i64 a0_1, .int .i64 a0_2, .int .i64 a0_3, .int .i64 a0_4, .int .i64 a0_5, .int .i64 a0_6] 23 (0, 0)) (by (with_reducible repeat (first | apply blk_drewN | apply blk_drew | apply blk_alloc)); exact BK401.out) hb)
                          have n5_ := ak_ (blk_below (g := gb402) (o := .cells #[.slice A1_0 l1_0.length c1_0, .int .i64 a1_1, .int .i64 a1_2, .int .i64 a1_3, .int .i64 a1_4] 57 (0, 0)) (by (with_reducible repeat (first | apply blk_drewN | apply blk_drew | apply blk_alloc)); exact BK402.out) hb)
                          have n6_ := ak_ (blk_below (g := gb403) (o := .cells #[.slice A2_0 l2_0.length c2_0, .int .u16 a2_1] 61 (0, 0)) (by (with_reducible repeat (first | apply blk_drewN | apply blk_drew | apply blk_alloc)); exact BK403.out) hb)
                          have n7_ := ak_ (blk_below (g := gb422) (o := .cells #[.int .i64 t416, .int .i64 t417, .int .i64 t418, .int .i64 t419] 26 (0, 0)) (by (with_reducible repeat (first | apply blk_drewN | apply blk_drew | apply blk_alloc)); exact BK422.out) hb)
                          have n8_ := ak_ (blk_below (g := gb441) (o := .cells #[.int .i64 0, .int .i64 0, .int .i64 0, .int .i64 0] 26 (0, 0)) (by (with_reducible repeat (first | apply blk_drewN | apply blk_drew | apply blk_alloc)); exact BK441.out) hb)
                          have n9_ := ak_ (below_step (by repeat (first | (with_reducible first | exact HB.out | apply below_alloc | apply pw_below_drewN | apply below_drew1 | refine below_set ?_ GE401.out | refine below_set ?_ GE402.out | refine below_set ?_ GE403.out | refine below_set ?_ GE422.out | refine below_set ?_ GE441.out) | exact HB.out)) hb)
                          clear HO_7
                          clear HO428
                          clear HO431
                          clear BK401
                          clear BK402
                          clear BK403
                          clear BK422
                          clear BK441
                          clear HB
                          have HO_7 := n0_
                          have HO428 := n1_
                          have HO431 := n2_
                          have HO434 := n3_
                          have BK401 := n4_
                          have BK402 := n5_
                          have BK403 := n6_
                          have BK422 := n7_
                          have BK441 := n8_
                          have HB := n9_
                          clear n0_ n1_ n2_ n3_ n4_ n5_ n6_ n7_ n8_ n9_
                          (try clear hb)
                          (try clear hb2)
                          (try clear hk)
                          (try clear hi)
                          (try clear ho0)
                          refine hK.out _ _ ⟨(bc_ BK401.out 0).trans rfl, (bc_ BK401.out 1).trans rfl, (bc_ BK401.out 2).trans rfl, (bc_ BK401.out 3).trans rfl, (bc_ BK401.out 4).trans rfl, (bc_ BK401.out 5).trans rfl, (bc_ BK401.out 6).trans rfl⟩ (fun hHeld => ?_)
                          clear hK K
                          refine norm_ (a' := ?_) ?_ ?_
                          rotate_left
                          ·show Act.put _ (some 123) _ = _
                           simp only [Act.put, sb_, sz_, su_, i64_w, i32_w]
                           rfl
                          refine pure_ (i := 7) (N := some 116) (v := ?_) (a' := ?_) #[true, true, true, true, true, true, true, true, false, false, false, false, true, false, false, false, false] rfl rfl (any_of HT_.out (by kernel_rfl)) (fun _ _ _ h => h) (Or.inl ⟨by rfl, ?_⟩) ?_ ?_
                          rotate_left
                          ·intro w'
                           go_simp
                           with_reducible rfl
                          rotate_left
                          ·simp only [Act.put, sb_, sz_, su_, i64_w, i32_w]
                           rfl
                          refine pure_ (i := 8) (N := some 124) (v := ?_) (a' := ?_) #[true, true, true, true, true, true, true, true, true, false, false, false, true, false, false, false, false] rfl rfl (any_of HT_.out (by kernel_rfl)) (fun _ _ _ h => h) (Or.inl ⟨by rfl, ?_⟩) ?_ ?_
                          rotate_left
                          ·intro w'
                           go_simp
                           with_reducible rfl
                          rotate_left
                          ·simp only [Act.put, sb_, sz_, su_, i64_w, i32_w]
                           rfl
                          refine pure_ (i := 9) (N := some 125) (v := ?_) (a' := ?_) #[true, true, true, true, true, true, true, true, true, true, false, false, true, false, false, false, false] rfl rfl (any_of HT_.out (by kernel_rfl)) (fun _ _ _ h => h) (Or.inl ⟨by rfl, ?_⟩) ?_ ?_
                          rotate_left
                          ·intro w'
                           go_simp
                           with_reducible rfl
                          rotate_left
                          ·simp only [Act.put, sb_, sz_, su_, i64_w, i32_w]
                           rfl
                          refine pure_ (i := 10) (N := some 126) (v := ?_) (a' := ?_) #[true, true, true, true, true, true, true, true, true, true, true, false, true, false, false, false, false] rfl rfl (any_of HT_.out (by kernel_rfl)) (fun _ _ _ h => h) (Or.inl ⟨by rfl, ?_⟩) ?_ ?_
                          rotate_left
                          ·intro w'
                           go_simp
                           with_reducible rfl
                          rotate_left
                          ·simp only [Act.put, sb_, sz_, su_, i64_w, i32_w]
                           rfl
                          refine pure_ (i := 11) (N := some 127) (v := ?_) (a' := ?_) #[true, true, true, true, true, true, true, true, true, true, true, true, true, false, false, false, false] rfl rfl (any_of HT_.out (by kernel_rfl)) (fun _ _ _ h => h) (Or.inl ⟨by rfl, ?_⟩) ?_ ?_
                          rotate_left
                          ·intro w'
                           go_simp
                           with_reducible rfl
                          rotate_left
                          ·simp only [Act.put, sb_, sz_, su_, i64_w, i32_w]
                           rfl
                          exact norm_ (by simp only [putAll, Act.put, sb_, sz_, su_]) (hCont (.slice Ao91 y426.length co91, .slice Ao94 t429.length co94, v433, gb441) _ ⟨hHeld, (by (with_reducible repeat (first | apply Kd.R_alloc | apply Kd.R_drewN | apply Kd.R_drew)); exact HO428.out), (by (with_reducible repeat (first | apply Kd.R_alloc | apply Kd.R_drewN | apply Kd.R_drew)); exact Kd.R_mono HO431.out (fun _ hk => by first | exact ⟨hk.2, hk.1.2⟩ | exact hk | (simp only [and_assoc, and_comm, and_left_comm] at hk ⊢; exact hk) | grind)), (by (with_reducible repeat (first | apply Kd.R_alloc | apply Kd.R_drewN | apply Kd.R_drew)); exact Kd.R_mono HO434.out (fun _ hk => by first | exact ⟨hk.2, hk.1.2⟩ | exact hk | (simp only [and_assoc, and_comm, and_left_comm] at hk ⊢; exact hk) | grind)), (by (with_reducible repeat (first | apply Kd.R_alloc | apply Kd.R_drewN | apply Kd.R_drew)); exact Kd.R_mono HO_7.out (fun _ hk => by first | exact ⟨hk.1.2, hk.2⟩ | exact hk | (simp only [and_assoc, and_comm, and_left_comm] at hk ⊢; exact hk) | grind)), (by (with_reducible repeat (first | apply blk_drewN | apply blk_drew | apply blk_alloc)); exact BK401.out), (by (with_reducible repeat (first | apply blk_drewN | apply blk_drew | apply blk_alloc)); exact BK402.out), (by (with_reducible repeat (first | apply blk_drewN | apply blk_drew | apply blk_alloc)); exact BK403.out), (by (with_reducible repeat (first | apply blk_drewN | apply blk_drew | apply blk_alloc)); exact BK422.out), (by (with_reducible repeat (first | apply blk_drewN | apply blk_drew | apply blk_alloc)); exact BK441.out), GW441.out, GE441.out, NB401_441.out, NB441_401.out, NB402_441.out, NB441_402.out, NB403_441.out, NB441_403.out, NB422_441.out, NB441_422.out, (by repeat (first | (with_reducible first | exact HB.out | apply below_alloc | apply pw_below_drewN | apply below_drew1 | refine below_set ?_ GE401.out | refine below_set ?_ GE402.out | refine below_set ?_ GE403.out | refine below_set ?_ GE422.out | refine below_set ?_ GE441.out) | exact HB.out))⟩)
                        ·skip
                         refine box_step ?hg (N := 18) ?hd (cs := #[.int .i64 0, .int .i64 0, .int .i64 0, .int .i64 0]) (t := 26) ?hr ?_; (case hd => rfl); (case hg => rfl); (case hr => first | (go_simp; done) | (go_simp; rfl))
                         intro gb441 hg w91 hbox hb
                         have n0_ := ak_ (Kd.R_below (by (with_reducible repeat (first | apply Kd.R_alloc | apply Kd.R_drewN | apply Kd.R_drew)); exact HO_7.out) hb)
                         have n1_ := ak_ (Kd.R_below (by (with_reducible repeat (first | apply Kd.R_alloc | apply Kd.R_drewN | apply Kd.R_drew)); exact HO428.out) hb)
                         have n2_ := ak_ (blk_below (g := gb401) (o := .cells #[.int .i64 a0_0, .int .i64 a0_1, .int .i64 a0_2, .int .i64 a0_3, .int .i64 a0_4, .int .i64 a0_5, .int .i64 a0_6] 23 (0, 0)) (by (with_reducible repeat (first | apply blk_drewN | apply blk_drew | apply blk_alloc)); exact BK401.out) hb)
                         have n3_ := ak_ (blk_below (g := gb402) (o := .cells #[.slice A1_0 l1_0.length c1_0, .int .i64 a1_1, .int .i64 a1_2, .int .i64 a1_3, .int .i64 a1_4] 57 (0, 0)) (by (with_reducible repeat (first | apply blk_drewN | apply blk_drew | apply blk_alloc)); exact BK402.out) hb)
                         have n4_ := ak_ (blk_below (g := gb403) (o := .cells #[.slice A2_0 l2_0.length c2_0, .int .u16 a2_1] 61 (0, 0)) (by (with_reducible repeat (first | apply blk_drewN | apply blk_drew | apply blk_alloc)); exact BK403.out) hb)
                         have n5_ := ak_ (blk_below (g := gb422) (o := .cells #[.int .i64 t416, .int .i64 t417, .int .i64 t418, .int .i64 t419] 26 (0, 0)) (by (with_reducible repeat (first | apply blk_drewN | apply blk_drew | apply blk_alloc)); exact BK422.out) hb)
                         have n6_ := ak_ (below_step (by repeat (first | (with_reducible first | exact HB.out | apply below_alloc | apply pw_below_drewN | apply below_drew1 | refine below_set ?_ GE401.out | refine below_set ?_ GE402.out | refine below_set ?_ GE403.out | refine below_set ?_ GE422.out) | exact HB.out)) hb)
                         have n7_ := ak_ (hbox)
                         have n8_ := ak_ ((by rw [hg]; exact (below_size (by repeat (first | (with_reducible first | exact HB.out | apply below_alloc | apply pw_below_drewN | apply below_drew1 | refine below_set ?_ GE401.out | refine below_set ?_ GE402.out | refine below_set ?_ GE403.out | refine below_set ?_ GE422.out) | exact HB.out))) : w.heap.size ≤ gb441))
                         have n9_ := ak_ ((by rw [hg]; exact (below_size (by repeat (first | (with_reducible first | exact HB.out | apply below_alloc | apply pw_below_drewN | apply below_drew1 | refine below_set ?_ GE401.out | refine below_set ?_ GE402.out | refine below_set ?_ GE403.out | refine below_set ?_ GE422.out) | exact HB.out))) : w.heap.size ≤ gb441))
                         have n10_ := ak_ ((by rw [hg]; exact Nat.ne_of_lt (blk_lt (g := gb401) (o := .cells #[.int .i64 a0_0, .int .i64 a0_1, .int .i64 a0_2, .int .i64 a0_3, .int .i64 a0_4, .int .i64 a0_5, .int .i64 a0_6] 23 (0, 0)) (by (with_reducible repeat (first | apply blk_drewN | apply blk_drew | apply blk_alloc)); exact BK401.out)) : gb401 ≠ gb441))
                         have n11_ := ak_ ((by rw [hg]; exact Nat.ne_of_gt (blk_lt (g := gb401) (o := .cells #[.int .i64 a0_0, .int .i64 a0_1, .int .i64 a0_2, .int .i64 a0_3, .int .i64 a0_4, .int .i64 a0_5, .int .i64 a0_6] 23 (0, 0)) (by (with_reducible repeat (first | apply blk_drewN | apply blk_drew | apply blk_alloc)); exact BK401.out)) : gb441 ≠ gb401))
                         have n12_ := ak_ ((by rw [hg]; exact Nat.ne_of_lt (blk_lt (g := gb402) (o := .cells #[.slice A1_0 l1_0.length c1_0, .int .i64 a1_1, .int .i64 a1_2, .int .i64 a1_3, .int .i64 a1_4] 57 (0, 0)) (by (with_reducible repeat (first | apply blk_drewN | apply blk_drew | apply blk_alloc)); exact BK402.out)) : gb402 ≠ gb441))
                         have n13_ := ak_ ((by rw [hg]; exact Nat.ne_of_gt (blk_lt (g := gb402) (o := .cells #[.slice A1_0 l1_0.length c1_0, .int .i64 a1_1, .int .i64 a1_2, .int .i64 a1_3, .int .i64 a1_4] 57 (0, 0)) (by (with_reducible repeat (first | apply blk_drewN | apply blk_drew | apply blk_alloc)); exact BK402.out)) : gb441 ≠ gb402))
                         have n14_ := ak_ ((by rw [hg]; exact Nat.ne_of_lt (blk_lt (g := gb403) (o := .cells #[.slice A2_0 l2_0.length c2_0, .int .u16 a2_1] 61 (0, 0)) (by (with_reducible repeat (first | apply blk_drewN | apply blk_drew | apply blk_alloc)); exact BK403.out)) : gb403 ≠ gb441))
                         have n15_ := ak_ ((by rw [hg]; exact Nat.ne_of_gt (blk_lt (g := gb403) (o := .cells #[.slice A2_0 l2_0.length c2_0, .int .u16 a2_1] 61 (0, 0)) (by (with_reducible repeat (first | apply blk_drewN | apply blk_drew | apply blk_alloc)); exact BK403.out)) : gb441 ≠ gb403))
                         have n16_ := ak_ ((by rw [hg]; exact Nat.ne_of_lt (blk_lt (g := gb422) (o := .cells #[.int .i64 t416, .int .i64 t417, .int .i64 t418, .int .i64 t419] 26 (0, 0)) (by (with_reducible repeat (first | apply blk_drewN | apply blk_drew | apply blk_alloc)); exact BK422.out)) : gb422 ≠ gb441))
                         have n17_ := ak_ ((by rw [hg]; exact Nat.ne_of_gt (blk_lt (g := gb422) (o := .cells #[.int .i64 t416, .int .i64 t417, .int .i64 t418, .int .i64 t419] 26 (0, 0)) (by (with_reducible repeat (first | apply blk_drewN | apply blk_drew | apply blk_alloc)); exact BK422.out)) : gb441 ≠ gb422))
                         clear HO_7
                         clear HO428
                         clear BK401
                         clear BK402
                         clear BK403
                         clear BK422
                         clear HB
                         have HO_7 := n0_
                         have HO428 := n1_
                         have BK401 := n2_
                         have BK402 := n3_
                         have BK403 := n4_
                         have BK422 := n5_
                         have HB := n6_
                         have BK441 := n7_
                         have GW441 := n8_
                         have GE441 := n9_
                         have NB401_441 := n10_
                         have NB441_401 := n11_
                         have NB402_441 := n12_
                         have NB441_402 := n13_
                         have NB403_441 := n14_
                         have NB441_403 := n15_
                         have NB422_441 := n16_
                         have NB441_422 := n17_
                         clear n0_ n1_ n2_ n3_ n4_ n5_ n6_ n7_ n8_ n9_ n10_ n11_ n12_ n13_ n14_ n15_ n16_ n17_
                         clear hb hbox hg
                         obtain ⟨Ao92, co92, eo92⟩ := Kd.R_slice HO428.out
                         (first | subst eo92 | (injection eo92 with f1_ f2_ f3_; have f4_ := f1_.symm; have f5_ := f3_.symm; clear f1_ f2_ f3_; subst f4_; subst f5_))
                         refine hK.out _ _ ⟨(bc_ BK401.out 0).trans rfl, (bc_ BK401.out 1).trans rfl, (bc_ BK401.out 2).trans rfl, (bc_ BK401.out 3).trans rfl, (bc_ BK401.out 4).trans rfl, (bc_ BK401.out 5).trans rfl, (bc_ BK401.out 6).trans rfl⟩ (fun hHeld => ?_)
                         clear hK K
                         refine norm_ (a' := ?_) ?_ ?_
                         rotate_left
                         ·show Act.put _ (some 18) _ = _
                          simp only [Act.put, sb_, sz_, su_, i64_w, i32_w]
                          rfl
                         refine one_ (i := 5) (N := some 122) #[true, true, true, true, true, true, false, false, false, false, false, false, true, false, false, false, false] rfl rfl (one_of HT_.out (by kernel_rfl)) (by decide) (fun K hK => ?_)
                         refine goes_ Try.func34 (by kernel_rfl) rfl #[.slice Ao60 t406.length co60, .slice Ao92 y426.length co92] (by rfl) rfl rfl (by (try simp only [List.map_toArray, List.map_cons, List.map_nil]); first | done | rfl | (simp only [List.length_drop, List.length_take]; rfl)) ?_
                         with_reducible refine (bits_Flip.calls kj75 _ _ t406 _ _ y426 t429 _ ?side1 ?side2 ?side3 ?side4 A83.out).mono ?_
                         (case side1 => repeat (first | exact (Kd.R_reads' HO_7.out).2.2 | (with_reducible refine Kd.C_alloc ?_ _) | (with_reducible refine Kd.C_drewN ?_ _) | (with_reducible refine Kd.C_drew ?_)))
                         (case side2 => exact (Kd.R_reads' HO_7.out).2.1)
                         (case side3 => repeat (first | exact (Kd.R_reads' HO428.out).2.2 | (with_reducible refine Kd.C_alloc ?_ _) | (with_reducible refine Kd.C_drewN ?_ _) | (with_reducible refine Kd.C_drew ?_)))
                         (case side4 => exact (Kd.R_reads' HO428.out).2.1)
                         rintro e w93 ⟨v430, rfl, ho0, hb⟩
                         refine ⟨_, rfl, ?_⟩
                         have n0_ := ak_ (Kd.R_elder' (by (with_reducible repeat (first | apply Kd.R_alloc | apply Kd.R_drewN | apply Kd.R_drew)); exact HO_7.out) (Kd.R_base ho0) hb)
                         have n1_ := ak_ (Kd.R_below (by (with_reducible repeat (first | apply Kd.R_alloc | apply Kd.R_drewN | apply Kd.R_drew)); exact HO428.out) hb)
                         have n2_ := ak_ (Kd.R_lower (Kd.R_new' ho0 (Kd.R_lt (by (with_reducible repeat (first | apply Kd.R_alloc | apply Kd.R_drewN | apply Kd.R_drew)); exact HO_7.out))) (below_size (by repeat (first | (with_reducible first | exact HB.out | apply below_alloc | apply pw_below_drewN | apply below_drew1 | refine below_set ?_ GE401.out | refine below_set ?_ GE402.out | refine below_set ?_ GE403.out | refine below_set ?_ GE422.out | refine below_set ?_ GE441.out) | exact HB.out))))
                         have n3_ := ak_ (blk_below (g := gb401) (o := .cells #[.int .i64 a0_0, .int .i64 a0_1, .int .i64 a0_2, .int .i64 a0_3, .int .i64 a0_4, .int .i64 a0_5, .int .i64 a0_6] 23 (0, 0)) (by (with_reducible repeat (first | apply blk_drewN | apply blk_drew | apply blk_alloc)); exact BK401.out) hb)
                         have n4_ := ak_ (blk_below (g := gb402) (o := .cells #[.slice A1_0 l1_0.length c1_0, .int .i64 a1_1, .int .i64 a1_2, .int .i64 a1_3, .int .i64 a1_4] 57 (0, 0)) (by (with_reducible repeat (first | apply blk_drewN | apply blk_drew | apply blk_alloc)); exact BK402.out) hb)
                         have n5_ := ak_ (blk_below (g := gb403) (o := .cells #[.slice A2_0 l2_0.length c2_0, .int .u16 a2_1] 61 (0, 0)) (by (with_reducible repeat (first | apply blk_drewN | apply blk_drew | apply blk_alloc)); exact BK403.out) hb)
                         have n6_ := ak_ (blk_below (g := gb422) (o := .cells #[.int .i64 t416, .int .i64 t417, .int .i64 t418, .int .i64 t419] 26 (0, 0)) (by (with_reducible repeat (first | apply blk_drewN | apply blk_drew | apply blk_alloc)); exact BK422.out) hb)
                         have n7_ := ak_ (blk_below (g := gb441) (o := .cells #[.int .i64 0, .int .i64 0, .int .i64 0, .int .i64 0] 26 (0, 0)) (by (with_reducible repeat (first | apply blk_drewN | apply blk_drew | apply blk_alloc)); exact BK441.out) hb)
                         have n8_ := ak_ (below_step (by repeat (first | (with_reducible first | exact HB.out | apply below_alloc | apply pw_below_drewN | apply below_drew1 | refine below_set ?_ GE401.out | refine below_set ?_ GE402.out | refine below_set ?_ GE403.out | refine below_set ?_ GE422.out | refine below_set ?_ GE441.out) | exact HB.out)) hb)
                         clear HO_7
                         clear HO428
                         clear BK401
                         clear BK402
                         clear BK403
                         clear BK422
                         clear BK441
                         clear HB
                         have HO_7 := n0_
                         have HO428 := n1_
                         have HO431 := n2_
                         have BK401 := n3_
                         have BK402 := n4_
                         have BK403 := n5_
                         have BK422 := n6_
                         have BK441 := n7_
                         have HB := n8_
                         clear n0_ n1_ n2_ n3_ n4_ n5_ n6_ n7_ n8_
                         (try clear hb)
                         (try clear hb2)
                         (try clear hk)
                         (try clear hi)
                         (try clear ho0)
                         obtain ⟨Ao94, co94, eo94⟩ := Kd.R_slice HO431.out
                         (first | subst eo94 | (injection eo94 with f1_ f2_ f3_; have f4_ := f1_.symm; have f5_ := f3_.symm; clear f1_ f2_ f3_; subst f4_; subst f5_))
                         refine hK.out _ _ ⟨(bc_ BK401.out 0).trans rfl, (bc_ BK401.out 1).trans rfl, (bc_ BK401.out 2).trans rfl, (bc_ BK401.out 3).trans rfl, (bc_ BK401.out 4).trans rfl, (bc_ BK401.out 5).trans rfl, (bc_ BK401.out 6).trans rfl⟩ (fun hHeld => ?_)
                         clear hK K
                         refine norm_ (a' := ?_) ?_ ?_
                         rotate_left
                         ·show Act.put _ (some 122) _ = _
                          simp only [Act.put, sb_, sz_, su_, i64_w, i32_w]
                          rfl
                         refine one_ (i := 6) (N := some 123) #[true, true, true, true, true, true, true, false, false, false, false, false, true, false, false, false, false] rfl rfl (one_of HT_.out (by kernel_rfl)) (by decide) (fun K hK => ?_)
                         refine goes_ Try.func30 (by kernel_rfl) rfl #[.agg #[.int .i64 a0_0, .int .i64 a0_1, .int .i64 a0_2, .int .i64 a0_3, .int .i64 a0_4, .int .i64 a0_5, .int .i64 a0_6], .slice Ao94 t429.length co94] (by rfl) rfl rfl (by (try simp only [List.map_toArray, List.map_cons, List.map_nil]); first | done | rfl | (simp only [List.length_drop, List.length_take]; rfl)) ?_
                         with_reducible refine (page_Decode.calls kj75 a0_0 a0_1 a0_2 a0_3 a0_4 a0_5 a0_6 _ _ t429 t432 t435 t436 t437 t438 t439 t440 _ ?side1 ?side2 A84.out).mono ?_
                         (case side1 => repeat (first | exact (Kd.R_reads' HO431.out).2.2 | (with_reducible refine Kd.C_alloc ?_ _) | (with_reducible refine Kd.C_drewN ?_ _) | (with_reducible refine Kd.C_drew ?_)))
                         (case side2 => exact (Kd.R_reads' HO431.out).2.1)
                         rintro e w95 ⟨v433, rfl, ho0, hb⟩
                         refine ⟨_, rfl, ?_⟩
                         have n0_ := ak_ (Kd.R_elder' (by (with_reducible repeat (first | apply Kd.R_alloc | apply Kd.R_drewN | apply Kd.R_drew)); exact HO_7.out) (Kd.R_base ho0) hb)
                         have n1_ := ak_ (Kd.R_below (by (with_reducible repeat (first | apply Kd.R_alloc | apply Kd.R_drewN | apply Kd.R_drew)); exact HO428.out) hb)
                         have n2_ := ak_ (Kd.R_elder' (by (with_reducible repeat (first | apply Kd.R_alloc | apply Kd.R_drewN | apply Kd.R_drew)); exact HO431.out) (Kd.R_base ho0) hb)
                         have n3_ := ak_ (Kd.R_lower (Kd.R_new' (Kd.R_new' ho0 (Kd.R_lt (by (with_reducible repeat (first | apply Kd.R_alloc | apply Kd.R_drewN | apply Kd.R_drew)); exact HO_7.out))) (Kd.R_lt (by (with_reducible repeat (first | apply Kd.R_alloc | apply Kd.R_drewN | apply Kd.R_drew)); exact HO431.out))) (below_size (by repeat (first | (with_reducible first | exact HB.out | apply below_alloc | apply pw_below_drewN | apply below_drew1 | refine below_set ?_ GE401.out | refine below_set ?_ GE402.out | refine below_set ?_ GE403.out | refine below_set ?_ GE422.out | refine below_set ?_ GE441.out) | exact HB.out))))
                         have n4_ := ak_ (blk_below (g := gb401) (o := .cells #[.int .i64 a0_0, .int .i64 a0_1, .int .i64 a0_2, .int .i64 a0_3, .int .i64 a0_4, .int .i64 a0_5, .int .i64 a0_6] 23 (0, 0)) (by (with_reducible repeat (first | apply blk_drewN | apply blk_drew | apply blk_alloc)); exact BK401.out) hb)
                         have n5_ := ak_ (blk_below (g := gb402) (o := .cells #[.slice A1_0 l1_0.length c1_0, .int .i64 a1_1, .int .i64 a1_2, .int .i64 a1_3, .int .i64 a1_4] 57 (0, 0)) (by (with_reducible repeat (first | apply blk_drewN | apply blk_drew | apply blk_alloc)); exact BK402.out) hb)
                         have n6_ := ak_ (blk_below (g := gb403) (o := .cells #[.slice A2_0 l2_0.length c2_0, .int .u16 a2_1] 61 (0, 0)) (by (with_reducible repeat (first | apply blk_drewN | apply blk_drew | apply blk_alloc)); exact BK403.out) hb)
                         have n7_ := ak_ (blk_below (g := gb422) (o := .cells #[.int .i64 t416, .int .i64 t417, .int .i64 t418, .int .i64 t419] 26 (0, 0)) (by (with_reducible repeat (first | apply blk_drewN | apply blk_drew | apply blk_alloc)); exact BK422.out) hb)
                         have n8_ := ak_ (blk_below (g := gb441) (o := .cells #[.int .i64 0, .int .i64 0, .int .i64 0, .int .i64 0] 26 (0, 0)) (by (with_reducible repeat (first | apply blk_drewN | apply blk_drew | apply blk_alloc)); exact BK441.out) hb)
                         have n9_ := ak_ (below_step (by repeat (first | (with_reducible first | exact HB.out | apply below_alloc | apply pw_below_drewN | apply below_drew1 | refine below_set ?_ GE401.out | refine below_set ?_ GE402.out | refine below_set ?_ GE403.out | refine below_set ?_ GE422.out | refine below_set ?_ GE441.out) | exact HB.out)) hb)
                         clear HO_7
                         clear HO428
                         clear HO431
                         clear BK401
                         clear BK402
                         clear BK403
                         clear BK422
                         clear BK441
                         clear HB
                         have HO_7 := n0_
                         have HO428 := n1_
                         have HO431 := n2_
                         have HO434 := n3_
                         have BK401 := n4_
                         have BK402 := n5_
                         have BK403 := n6_
                         have BK422 := n7_
                         have BK441 := n8_
                         have HB := n9_
                         clear n0_ n1_ n2_ n3_ n4_ n5_ n6_ n7_ n8_ n9_
                         (try clear hb)
                         (try clear hb2)
                         (try clear hk)
                         (try clear hi)
                         (try clear ho0)
                         refine hK.out _ _ ⟨(bc_ BK401.out 0).trans rfl, (bc_ BK401.out 1).trans rfl, (bc_ BK401.out 2).trans rfl, (bc_ BK401.out 3).trans rfl, (bc_ BK401.out 4).trans rfl, (bc_ BK401.out 5).trans rfl, (bc_ BK401.out 6).trans rfl⟩ (fun hHeld => ?_)
                         clear hK K
                         refine norm_ (a' := ?_) ?_ ?_
                         rotate_left
                         ·show Act.put _ (some 123) _ = _
                          simp only [Act.put, sb_, sz_, su_, i64_w, i32_w]
                          rfl
                         refine pure_ (i := 7) (N := some 116) (v := ?_) (a' := ?_) #[true, true, true, true, true, true, true, true, false, false, false, false, true, false, false, false, false] rfl rfl (any_of HT_.out (by kernel_rfl)) (fun _ _ _ h => h) (Or.inl ⟨by rfl, ?_⟩) ?_ ?_
                         rotate_left
                         ·intro w'
                          go_simp
                          with_reducible rfl
                         rotate_left
                         ·simp only [Act.put, sb_, sz_, su_, i64_w, i32_w]
                          rfl
                         refine pure_ (i := 8) (N := some 124) (v := ?_) (a' := ?_) #[true, true, true, true, true, true, true, true, true, false, false, false, true, false, false, false, false] rfl rfl (any_of HT_.out (by kernel_rfl)) (fun _ _ _ h => h) (Or.inl ⟨by rfl, ?_⟩) ?_ ?_
                         rotate_left
                         ·intro w'
                          go_simp
                          with_reducible rfl
                         rotate_left
                         ·simp only [Act.put, sb_, sz_, su_, i64_w, i32_w]
                          rfl
                         refine pure_ (i := 9) (N := some 125) (v := ?_) (a' := ?_) #[true, true, true, true, true, true, true, true, true, true, false, false, true, false, false, false, false] rfl rfl (any_of HT_.out (by kernel_rfl)) (fun _ _ _ h => h) (Or.inl ⟨by rfl, ?_⟩) ?_ ?_
                         rotate_left
                         ·intro w'
                          go_simp
                          with_reducible rfl
                         rotate_left
                         ·simp only [Act.put, sb_, sz_, su_, i64_w, i32_w]
                          rfl
                         refine pure_ (i := 10) (N := some 126) (v := ?_) (a' := ?_) #[true, true, true, true, true, true, true, true, true, true, true, false, true, false, false, false, false] rfl rfl (any_of HT_.out (by kernel_rfl)) (fun _ _ _ h => h) (Or.inl ⟨by rfl, ?_⟩) ?_ ?_
                         rotate_left
                         ·intro w'
                          go_simp
                          with_reducible rfl
                         rotate_left
                         ·simp only [Act.put, sb_, sz_, su_, i64_w, i32_w]
                          rfl
                         refine pure_ (i := 11) (N := some 127) (v := ?_) (a' := ?_) #[true, true, true, true, true, true, true, true, true, true, true, true, true, false, false, false, false] rfl rfl (any_of HT_.out (by kernel_rfl)) (fun _ _ _ h => h) (Or.inl ⟨by rfl, ?_⟩) ?_ ?_
                         rotate_left
                         ·intro w'
                          go_simp
                          with_reducible rfl
                         rotate_left
                         ·simp only [Act.put, sb_, sz_, su_, i64_w, i32_w]
                          rfl
                         exact norm_ (by simp only [putAll, Act.put, sb_, sz_, su_]) (hCont (.slice Ao92 y426.length co92, .slice Ao94 t429.length co94, v433, gb441) _ ⟨hHeld, (by (with_reducible repeat (first | apply Kd.R_alloc | apply Kd.R_drewN | apply Kd.R_drew)); exact HO428.out), (by (with_reducible repeat (first | apply Kd.R_alloc | apply Kd.R_drewN | apply Kd.R_drew)); exact Kd.R_mono HO431.out (fun _ hk => by first | exact ⟨hk.2, hk.1.2⟩ | exact hk | (simp only [and_assoc, and_comm, and_left_comm] at hk ⊢; exact hk) | grind)), (by (with_reducible repeat (first | apply Kd.R_alloc | apply Kd.R_drewN | apply Kd.R_drew)); exact Kd.R_mono HO434.out (fun _ hk => by first | exact ⟨hk.2, hk.1.2⟩ | exact hk | (simp only [and_assoc, and_comm, and_left_comm] at hk ⊢; exact hk) | grind)), (by (with_reducible repeat (first | apply Kd.R_alloc | apply Kd.R_drewN | apply Kd.R_drew)); exact Kd.R_mono HO_7.out (fun _ hk => by first | exact ⟨hk.1.2, hk.2⟩ | exact hk | (simp only [and_assoc, and_comm, and_left_comm] at hk ⊢; exact hk) | grind)), (by (with_reducible repeat (first | apply blk_drewN | apply blk_drew | apply blk_alloc)); exact BK401.out), (by (with_reducible repeat (first | apply blk_drewN | apply blk_drew | apply blk_alloc)); exact BK402.out), (by (with_reducible repeat (first | apply blk_drewN | apply blk_drew | apply blk_alloc)); exact BK403.out), (by (with_reducible repeat (first | apply blk_drewN | apply blk_drew | apply blk_alloc)); exact BK422.out), (by (with_reducible repeat (first | apply blk_drewN | apply blk_drew | apply blk_alloc)); exact BK441.out), GW441.out, GE441.out, NB401_441.out, NB441_401.out, NB402_441.out, NB441_402.out, NB403_441.out, NB441_403.out, NB422_441.out, NB441_422.out, (by repeat (first | (with_reducible first | exact HB.out | apply below_alloc | apply pw_below_drewN | apply below_drew1 | refine below_set ?_ GE401.out | refine below_set ?_ GE402.out | refine below_set ?_ GE403.out | refine below_set ?_ GE422.out | refine below_set ?_ GE441.out) | exact HB.out))⟩)
                       ·skip
                        refine box_step ?hg (N := 18) ?hd (cs := #[.int .i64 0, .int .i64 0, .int .i64 0, .int .i64 0]) (t := 26) ?hr ?_; (case hd => rfl); (case hg => rfl); (case hr => first | (go_simp; done) | (go_simp; rfl))
                        intro gb441 hg w89 hbox hb
                        have n0_ := ak_ (Kd.R_below (by (with_reducible repeat (first | apply Kd.R_alloc | apply Kd.R_drewN | apply Kd.R_drew)); exact HO_7.out) hb)
                        have n1_ := ak_ (blk_below (g := gb401) (o := .cells #[.int .i64 a0_0, .int .i64 a0_1, .int .i64 a0_2, .int .i64 a0_3, .int .i64 a0_4, .int .i64 a0_5, .int .i64 a0_6] 23 (0, 0)) (by (with_reducible repeat (first | apply blk_drewN | apply blk_drew | apply blk_alloc)); exact BK401.out) hb)
                        have n2_ := ak_ (blk_below (g := gb402) (o := .cells #[.slice A1_0 l1_0.length c1_0, .int .i64 a1_1, .int .i64 a1_2, .int .i64 a1_3, .int .i64 a1_4] 57 (0, 0)) (by (with_reducible repeat (first | apply blk_drewN | apply blk_drew | apply blk_alloc)); exact BK402.out) hb)
                        have n3_ := ak_ (blk_below (g := gb403) (o := .cells #[.slice A2_0 l2_0.length c2_0, .int .u16 a2_1] 61 (0, 0)) (by (with_reducible repeat (first | apply blk_drewN | apply blk_drew | apply blk_alloc)); exact BK403.out) hb)
                        have n4_ := ak_ (blk_below (g := gb422) (o := .cells #[.int .i64 t416, .int .i64 t417, .int .i64 t418, .int .i64 t419] 26 (0, 0)) (by (with_reducible repeat (first | apply blk_drewN | apply blk_drew | apply blk_alloc)); exact BK422.out) hb)
                        have n5_ := ak_ (below_step (by repeat (first | (with_reducible first | exact HB.out | apply below_alloc | apply pw_below_drewN | apply below_drew1 | refine below_set ?_ GE401.out | refine below_set ?_ GE402.out | refine below_set ?_ GE403.out | refine below_set ?_ GE422.out) | exact HB.out)) hb)
                        have n6_ := ak_ (hbox)
                        have n7_ := ak_ ((by rw [hg]; exact (below_size (by repeat (first | (with_reducible first | exact HB.out | apply below_alloc | apply pw_below_drewN | apply below_drew1 | refine below_set ?_ GE401.out | refine below_set ?_ GE402.out | refine below_set ?_ GE403.out | refine below_set ?_ GE422.out) | exact HB.out))) : w.heap.size ≤ gb441))
                        have n8_ := ak_ ((by rw [hg]; exact (below_size (by repeat (first | (with_reducible first | exact HB.out | apply below_alloc | apply pw_below_drewN | apply below_drew1 | refine below_set ?_ GE401.out | refine below_set ?_ GE402.out | refine below_set ?_ GE403.out | refine below_set ?_ GE422.out) | exact HB.out))) : w.heap.size ≤ gb441))
                        have n9_ := ak_ ((by rw [hg]; exact Nat.ne_of_lt (blk_lt (g := gb401) (o := .cells #[.int .i64 a0_0, .int .i64 a0_1, .int .i64 a0_2, .int .i64 a0_3, .int .i64 a0_4, .int .i64 a0_5, .int .i64 a0_6] 23 (0, 0)) (by (with_reducible repeat (first | apply blk_drewN | apply blk_drew | apply blk_alloc)); exact BK401.out)) : gb401 ≠ gb441))
                        have n10_ := ak_ ((by rw [hg]; exact Nat.ne_of_gt (blk_lt (g := gb401) (o := .cells #[.int .i64 a0_0, .int .i64 a0_1, .int .i64 a0_2, .int .i64 a0_3, .int .i64 a0_4, .int .i64 a0_5, .int .i64 a0_6] 23 (0, 0)) (by (with_reducible repeat (first | apply blk_drewN | apply blk_drew | apply blk_alloc)); exact BK401.out)) : gb441 ≠ gb401))
                        have n11_ := ak_ ((by rw [hg]; exact Nat.ne_of_lt (blk_lt (g := gb402) (o := .cells #[.slice A1_0 l1_0.length c1_0, .int .i64 a1_1, .int .i64 a1_2, .int .i64 a1_3, .int .i64 a1_4] 57 (0, 0)) (by (with_reducible repeat (first | apply blk_drewN | apply blk_drew | apply blk_alloc)); exact BK402.out)) : gb402 ≠ gb441))
                        have n12_ := ak_ ((by rw [hg]; exact Nat.ne_of_gt (blk_lt (g := gb402) (o := .cells #[.slice A1_0 l1_0.length c1_0, .int .i64 a1_1, .int .i64 a1_2, .int .i64 a1_3, .int .i64 a1_4] 57 (0, 0)) (by (with_reducible repeat (first | apply blk_drewN | apply blk_drew | apply blk_alloc)); exact BK402.out)) : gb441 ≠ gb402))
                        have n13_ := ak_ ((by rw [hg]; exact Nat.ne_of_lt (blk_lt (g := gb403) (o := .cells #[.slice A2_0 l2_0.length c2_0, .int .u16 a2_1] 61 (0, 0)) (by (with_reducible repeat (first | apply blk_drewN | apply blk_drew | apply blk_alloc)); exact BK403.out)) : gb403 ≠ gb441))
                        have n14_ := ak_ ((by rw [hg]; exact Nat.ne_of_gt (blk_lt (g := gb403) (o := .cells #[.slice A2_0 l2_0.length c2_0, .int .u16 a2_1] 61 (0, 0)) (by (with_reducible repeat (first | apply blk_drewN | apply blk_drew | apply blk_alloc)); exact BK403.out)) : gb441 ≠ gb403))
                        have n15_ := ak_ ((by rw [hg]; exact Nat.ne_of_lt (blk_lt (g := gb422) (o := .cells #[.int .i64 t416, .int .i64 t417, .int .i64 t418, .int .i64 t419] 26 (0, 0)) (by (with_reducible repeat (first | apply blk_drewN | apply blk_drew | apply blk_alloc)); exact BK422.out)) : gb422 ≠ gb441))
                        have n16_ := ak_ ((by rw [hg]; exact Nat.ne_of_gt (blk_lt (g := gb422) (o := .cells #[.int .i64 t416, .int .i64 t417, .int .i64 t418, .int .i64 t419] 26 (0, 0)) (by (with_reducible repeat (first | apply blk_drewN | apply blk_drew | apply blk_alloc)); exact BK422.out)) : gb441 ≠ gb422))
                        clear HO_7
                        clear BK401
                        clear BK402
                        clear BK403
                        clear BK422
                        clear HB
                        have HO_7 := n0_
                        have BK401 := n1_
                        have BK402 := n2_
                        have BK403 := n3_
                        have BK422 := n4_
                        have HB := n5_
                        have BK441 := n6_
                        have GW441 := n7_
                        have GE441 := n8_
                        have NB401_441 := n9_
                        have NB441_401 := n10_
                        have NB402_441 := n11_
                        have NB441_402 := n12_
                        have NB403_441 := n13_
                        have NB441_403 := n14_
                        have NB422_441 := n15_
                        have NB441_422 := n16_
                        clear n0_ n1_ n2_ n3_ n4_ n5_ n6_ n7_ n8_ n9_ n10_ n11_ n12_ n13_ n14_ n15_ n16_
                        clear hb hbox hg
                        refine hK.out _ _ ⟨(bc_ BK401.out 0).trans rfl, (bc_ BK401.out 1).trans rfl, (bc_ BK401.out 2).trans rfl, (bc_ BK401.out 3).trans rfl, (bc_ BK401.out 4).trans rfl, (bc_ BK401.out 5).trans rfl, (bc_ BK401.out 6).trans rfl⟩ (fun hHeld => ?_)
                        clear hK K
                        refine norm_ (a' := ?_) ?_ ?_
                        rotate_left
                        ·show Act.put _ (some 18) _ = _
                         simp only [Act.put, sb_, sz_, su_, i64_w, i32_w]
                         rfl
                        refine one_ (i := 4) (N := some 121) #[true, true, true, true, true, false, false, false, false, false, false, false, true, false, false, false, false] rfl rfl (one_of HT_.out (by kernel_rfl)) (by decide) (fun K hK => ?_)
                        refine Kd.R_lit_step (Kd.int .i64) _ 3 ?hg (N := 121) ?hd (xs := ([(Int.tmod (wrap64 (a2_1)) (wrap64 ((wrap64 (8 * a0_4)) + 14))), (Int.tmod (wrap64 (IntKind.u16.wrap ((IntKind.u16.wrap (Int.tdiv a2_1 3)) + 1))) (wrap64 ((wrap64 (8 * a0_4)) + 14)))] : List Int)) (inner := [.int .i64 (Int.tmod (wrap64 (a2_1)) (wrap64 ((wrap64 (8 * a0_4)) + 14))), .int .i64 (Int.tmod (wrap64 (IntKind.u16.wrap ((IntKind.u16.wrap (Int.tdiv a2_1 3)) + 1))) (wrap64 ((wrap64 (8 * a0_4)) + 14)))]) (ok := fun _ => True) (okp := fun _ => True) ?hr ?hp (fun _ hk => hk) trivial (Below.refl _ _) (Nat.le_refl _) (by simp) ?_; (case hd => rfl); (case hg => rfl); (case hr => first | (go_simp; done) | (go_simp; rfl)); (case hp => exact (Reps.one (show Kd.M (Kd.int .i64) _ _ _ (Int.tmod (wrap64 (a2_1)) (wrap64 ((wrap64 (8 * a0_4)) + 14))) [.int .i64 (Int.tmod (wrap64 (a2_1)) (wrap64 ((wrap64 (8 * a0_4)) + 14)))] from rfl) (Reps.one (show Kd.M (Kd.int .i64) _ _ _ (Int.tmod (wrap64 (IntKind.u16.wrap ((IntKind.u16.wrap (Int.tdiv a2_1 3)) + 1))) (wrap64 ((wrap64 (8 * a0_4)) + 14))) [.int .i64 (Int.tmod (wrap64 (IntKind.u16.wrap ((IntKind.u16.wrap (Int.tdiv a2_1 3)) + 1))) (wrap64 ((wrap64 (8 * a0_4)) + 14)))] from rfl) (Reps.none _ _))))
                        intro v427 w90 ho91 hb hg_ hnew_
                        clear hg_ hnew_
                        (first | rw [← Ny426.out] at ho91 | (simp only [Int.reduceToNat] at ho91; rw [← Ny426.out] at ho91))
                        have n0_ := ak_ (Kd.R_below (by (with_reducible repeat (first | apply Kd.R_alloc | apply Kd.R_drewN | apply Kd.R_drew)); exact HO_7.out) hb)
                        have n1_ := ak_ (Kd.R_lower ho91 (below_size (by repeat (first | (with_reducible first | exact HB.out | apply below_alloc | apply pw_below_drewN | apply below_drew1 | refine below_set ?_ GE401.out | refine below_set ?_ GE402.out | refine below_set ?_ GE403.out | refine below_set ?_ GE422.out | refine below_set ?_ GE441.out) | exact HB.out))))
                        have n2_ := ak_ (blk_below (g := gb401) (o := .cells #[.int .i64 a0_0, .int .i64 a0_1, .int .i64 a0_2, .int .i64 a0_3, .int .i64 a0_4, .int .i64 a0_5, .int .i64 a0_6] 23 (0, 0)) (by (with_reducible repeat (first | apply blk_drewN | apply blk_drew | apply blk_alloc)); exact BK401.out) hb)
                        have n3_ := ak_ (blk_below (g := gb402) (o := .cells #[.slice A1_0 l1_0.length c1_0, .int .i64 a1_1, .int .i64 a1_2, .int .i64 a1_3, .int .i64 a1_4] 57 (0, 0)) (by (with_reducible repeat (first | apply blk_drewN | apply blk_drew | apply blk_alloc)); exact BK402.out) hb)
                        have n4_ := ak_ (blk_below (g := gb403) (o := .cells #[.slice A2_0 l2_0.length c2_0, .int .u16 a2_1] 61 (0, 0)) (by (with_reducible repeat (first | apply blk_drewN | apply blk_drew | apply blk_alloc)); exact BK403.out) hb)
                        have n5_ := ak_ (blk_below (g := gb422) (o := .cells #[.int .i64 t416, .int .i64 t417, .int .i64 t418, .int .i64 t419] 26 (0, 0)) (by (with_reducible repeat (first | apply blk_drewN | apply blk_drew | apply blk_alloc)); exact BK422.out) hb)
                        have n6_ := ak_ (blk_below (g := gb441) (o := .cells #[.int .i64 0, .int .i64 0, .int .i64 0, .int .i64 0] 26 (0, 0)) (by (with_reducible repeat (first | apply blk_drewN | apply blk_drew | apply blk_alloc)); exact BK441.out) hb)
                        have n7_ := ak_ (below_step (by repeat (first | (with_reducible first | exact HB.out | apply below_alloc | apply pw_below_drewN | apply below_drew1 | refine below_set ?_ GE401.out | refine below_set ?_ GE402.out | refine below_set ?_ GE403.out | refine below_set ?_ GE422.out | refine below_set ?_ GE441.out) | exact HB.out)) hb)
                        clear HO_7
                        clear BK401
                        clear BK402
                        clear BK403
                        clear BK422
                        clear BK441
                        clear HB
                        have HO_7 := n0_
                        have HO428 := n1_
                        have BK401 := n2_
                        have BK402 := n3_
                        have BK403 := n4_
                        have BK422 := n5_
                        have BK441 := n6_
                        have HB := n7_
                        clear n0_ n1_ n2_ n3_ n4_ n5_ n6_ n7_
                        clear hb ho91
                        obtain ⟨Ao92, co92, eo92⟩ := Kd.R_slice HO428.out
                        (first | subst eo92 | (injection eo92 with f1_ f2_ f3_; have f4_ := f1_.symm; have f5_ := f3_.symm; clear f1_ f2_ f3_; subst f4_; subst f5_))
                        refine hK.out _ _ ⟨(bc_ BK401.out 0).trans rfl, (bc_ BK401.out 1).trans rfl, (bc_ BK401.out 2).trans rfl, (bc_ BK401.out 3).trans rfl, (bc_ BK401.out 4).trans rfl, (bc_ BK401.out 5).trans rfl, (bc_ BK401.out 6).trans rfl⟩ (fun hHeld => ?_)
                        clear hK K
                        refine norm_ (a' := ?_) ?_ ?_
                        rotate_left
                        ·show Act.put _ (some 121) _ = _
                         simp only [Act.put, sb_, sz_, su_, i64_w, i32_w]
                         rfl
                        refine one_ (i := 5) (N := some 122) #[true, true, true, true, true, true, false, false, false, false, false, false, true, false, false, false, false] rfl rfl (one_of HT_.out (by kernel_rfl)) (by decide) (fun K hK => ?_)
                        refine goes_ Try.func34 (by kernel_rfl) rfl #[.slice Ao60 t406.length co60, .slice Ao92 y426.length co92] (by rfl) rfl rfl (by (try simp only [List.map_toArray, List.map_cons, List.map_nil]); first | done | rfl | (simp only [List.length_drop, List.length_take]; rfl)) ?_
                        with_reducible refine (bits_Flip.calls kj75 _ _ t406 _ _ y426 t429 _ ?side1 ?side2 ?side3 ?side4 A83.out).mono ?_
                        (case side1 => repeat (first | exact (Kd.R_reads' HO_7.out).2.2 | (with_reducible refine Kd.C_alloc ?_ _) | (with_reducible refine Kd.C_drewN ?_ _) | (with_reducible refine Kd.C_drew ?_)))
                        (case side2 => exact (Kd.R_reads' HO_7.out).2.1)
                        (case side3 => repeat (first | exact (Kd.R_reads' HO428.out).2.2 | (with_reducible refine Kd.C_alloc ?_ _) | (with_reducible refine Kd.C_drewN ?_ _) | (with_reducible refine Kd.C_drew ?_)))
                        (case side4 => exact (Kd.R_reads' HO428.out).2.1)
                        rintro e w93 ⟨v430, rfl, ho0, hb⟩
                        refine ⟨_, rfl, ?_⟩
                        have n0_ := ak_ (Kd.R_elder' (by (with_reducible repeat (first | apply Kd.R_alloc | apply Kd.R_drewN | apply Kd.R_drew)); exact HO_7.out) (Kd.R_base ho0) hb)
                        have n1_ := ak_ (Kd.R_below (by (with_reducible repeat (first | apply Kd.R_alloc | apply Kd.R_drewN | apply Kd.R_drew)); exact HO428.out) hb)
                        have n2_ := ak_ (Kd.R_lower (Kd.R_new' ho0 (Kd.R_lt (by (with_reducible repeat (first | apply Kd.R_alloc | apply Kd.R_drewN | apply Kd.R_drew)); exact HO_7.out))) (below_size (by repeat (first | (with_reducible first | exact HB.out | apply below_alloc | apply pw_below_drewN | apply below_drew1 | refine below_set ?_ GE401.out | refine below_set ?_ GE402.out | refine below_set ?_ GE403.out | refine below_set ?_ GE422.out | refine below_set ?_ GE441.out) | exact HB.out))))
                        have n3_ := ak_ (blk_below (g := gb401) (o := .cells #[.int .i64 a0_0, .int .i64 a0_1, .int .i64 a0_2, .int .i64 a0_3, .int .i64 a0_4, .int .i64 a0_5, .int .i64 a0_6] 23 (0, 0)) (by (with_reducible repeat (first | apply blk_drewN | apply blk_drew | apply blk_alloc)); exact BK401.out) hb)
                        have n4_ := ak_ (blk_below (g := gb402) (o := .cells #[.slice A1_0 l1_0.length c1_0, .int .i64 a1_1, .int .i64 a1_2, .int .i64 a1_3, .int .i64 a1_4] 57 (0, 0)) (by (with_reducible repeat (first | apply blk_drewN | apply blk_drew | apply blk_alloc)); exact BK402.out) hb)
                        have n5_ := ak_ (blk_below (g := gb403) (o := .cells #[.slice A2_0 l2_0.length c2_0, .int .u16 a2_1] 61 (0, 0)) (by (with_reducible repeat (first | apply blk_drewN | apply blk_drew | apply blk_alloc)); exact BK403.out) hb)
                        have n6_ := ak_ (blk_below (g := gb422) (o := .cells #[.int .i64 t416, .int .i64 t417, .int .i64 t418, .int .i64 t419] 26 (0, 0)) (by (with_reducible repeat (first | apply blk_drewN | apply blk_drew | apply blk_alloc)); exact BK422.out) hb)
                        have n7_ := ak_ (blk_below (g := gb441) (o := .cells #[.int .i64 0, .int .i64 0, .int .i64 0, .int .i64 0] 26 (0, 0)) (by (with_reducible repeat (first | apply blk_drewN | apply blk_drew | apply blk_alloc)); exact BK441.out) hb)
                        have n8_ := ak_ (below_step (by repeat (first | (with_reducible first | exact HB.out | apply below_alloc | apply pw_below_drewN | apply below_drew1 | refine below_set ?_ GE401.out | refine below_set ?_ GE402.out | refine below_set ?_ GE403.out | refine below_set ?_ GE422.out | refine below_set ?_ GE441.out) | exact HB.out)) hb)
                        clear HO_7
                        clear HO428
                        clear BK401
                        clear BK402
                        clear BK403
                        clear BK422
                        clear BK441
                        clear HB
                        have HO_7 := n0_
                        have HO428 := n1_
                        have HO431 := n2_
                        have BK401 := n3_
                        have BK402 := n4_
                        have BK403 := n5_
                        have BK422 := n6_
                        have BK441 := n7_
                        have HB := n8_
                        clear n0_ n1_ n2_ n3_ n4_ n5_ n6_ n7_ n8_
                        (try clear hb)
                        (try clear hb2)
                        (try clear hk)
                        (try clear hi)
                        (try clear ho0)
                        obtain ⟨Ao94, co94, eo94⟩ := Kd.R_slice HO431.out
                        (first | subst eo94 | (injection eo94 with f1_ f2_ f3_; have f4_ := f1_.symm; have f5_ := f3_.symm; clear f1_ f2_ f3_; subst f4_; subst f5_))
                        refine hK.out _ _ ⟨(bc_ BK401.out 0).trans rfl, (bc_ BK401.out 1).trans rfl, (bc_ BK401.out 2).trans rfl, (bc_ BK401.out 3).trans rfl, (bc_ BK401.out 4).trans rfl, (bc_ BK401.out 5).trans rfl, (bc_ BK401.out 6).trans rfl⟩ (fun hHeld => ?_)
                        clear hK K
                        refine norm_ (a' := ?_) ?_ ?_
                        rotate_left
                        ·show Act.put _ (some 122) _ = _
                         simp only [Act.put, sb_, sz_, su_, i64_w, i32_w]
                         rfl
                        refine one_ (i := 6) (N := some 123) #[true, true, true, true, true, true, true, false, false, false, false, false, true, false, false, false, false] rfl rfl (one_of HT_.out (by kernel_rfl)) (by decide) (fun K hK => ?_)
                        refine goes_ Try.func30 (by kernel_rfl) rfl #[.agg #[.int .i64 a0_0, .int .i64 a0_1, .int .i64 a0_2, .int .i64 a0_3, .int .i64 a0_4, .int .i64 a0_5, .int .i64 a0_6], .slice Ao94 t429.length co94] (by rfl) rfl rfl (by (try simp only [List.map_toArray, List.map_cons, List.map_nil]); first | done | rfl | (simp only [List.length_drop, List.length_take]; rfl)) ?_
                        with_reducible refine (page_Decode.calls kj75 a0_0 a0_1 a0_2 a0_3 a0_4 a0_5 a0_6 _ _ t429 t432 t435 t436 t437 t438 t439 t440 _ ?side1 ?side2 A84.out).mono ?_
                        (case side1 => repeat (first | exact (Kd.R_reads' HO431.out).2.2 | (with_reducible refine Kd.C_alloc ?_ _) | (with_reducible refine Kd.C_drewN ?_ _) | (with_reducible refine Kd.C_drew ?_)))
                        (case side2 => exact (Kd.R_reads' HO431.out).2.1)
                        rintro e w95 ⟨v433, rfl, ho0, hb⟩
                        refine ⟨_, rfl, ?_⟩
                        have n0_ := ak_ (Kd.R_elder' (by (with_reducible repeat (first | apply Kd.R_alloc | apply Kd.R_drewN | apply Kd.R_drew)); exact HO_7.out) (Kd.R_base ho0) hb)
                        have n1_ := ak_ (Kd.R_below (by (with_reducible repeat (first | apply Kd.R_alloc | apply Kd.R_drewN | apply Kd.R_drew)); exact HO428.out) hb)
                        have n2_ := ak_ (Kd.R_elder' (by (with_reducible repeat (first | apply Kd.R_alloc | apply Kd.R_drewN | apply Kd.R_drew)); exact HO431.out) (Kd.R_base ho0) hb)
                        have n3_ := ak_ (Kd.R_lower (Kd.R_new' (Kd.R_new' ho0 (Kd.R_lt (by (with_reducible repeat (first | apply Kd.R_alloc | apply Kd.R_drewN | apply Kd.R_drew)); exact HO_7.out))) (Kd.R_lt (by (with_reducible repeat (first | apply Kd.R_alloc | apply Kd.R_drewN | apply Kd.R_drew)); exact HO431.out))) (below_size (by repeat (first | (with_reducible first | exact HB.out | apply below_alloc | apply pw_below_drewN | apply below_drew1 | refine below_set ?_ GE401.out | refine below_set ?_ GE402.out | refine below_set ?_ GE403.out | refine below_set ?_ GE422.out | refine below_set ?_ GE441.out) | exact HB.out))))
                        have n4_ := ak_ (blk_below (g := gb401) (o := .cells #[.int .i64 a0_0, .int .i64 a0_1, .int .i64 a0_2, .int .i64 a0_3, .int .i64 a0_4, .int .i64 a0_5, .int .i64 a0_6] 23 (0, 0)) (by (with_reducible repeat (first | apply blk_drewN | apply blk_drew | apply blk_alloc)); exact BK401.out) hb)
                        have n5_ := ak_ (blk_below (g := gb402) (o := .cells #[.slice A1_0 l1_0.length c1_0, .int .i64 a1_1, .int .i64 a1_2, .int .i64 a1_3, .int .i64 a1_4] 57 (0, 0)) (by (with_reducible repeat (first | apply blk_drewN | apply blk_drew | apply blk_alloc)); exact BK402.out) hb)
                        have n6_ := ak_ (blk_below (g := gb403) (o := .cells #[.slice A2_0 l2_0.length c2_0, .int .u16 a2_1] 61 (0, 0)) (by (with_reducible repeat (first | apply blk_drewN | apply blk_drew | apply blk_alloc)); exact BK403.out) hb)
                        have n7_ := ak_ (blk_below (g := gb422) (o := .cells #[.int .i64 t416, .int .i64 t417, .int .i64 t418, .int .i64 t419] 26 (0, 0)) (by (with_reducible repeat (first | apply blk_drewN | apply blk_drew | apply blk_alloc)); exact BK422.out) hb)
                        have n8_ := ak_ (blk_below (g := gb441) (o := .cells #[.int .i64 0, .int .i64 0, .int .i64 0, .int .i64 0] 26 (0, 0)) (by (with_reducible repeat (first | apply blk_drewN | apply blk_drew | apply blk_alloc)); exact BK441.out) hb)
                        have n9_ := ak_ (below_step (by repeat (first | (with_reducible first | exact HB.out | apply below_alloc | apply pw_below_drewN | apply below_drew1 | refine below_set ?_ GE401.out | refine below_set ?_ GE402.out | refine below_set ?_ GE403.out | refine below_set ?_ GE422.out | refine below_set ?_ GE441.out) | exact HB.out)) hb)
                        clear HO_7
                        clear HO428
                        clear HO431
                        clear BK401
                        clear BK402
                        clear BK403
                        clear BK422
                        clear BK441
                        clear HB
                        have HO_7 := n0_
                        have HO428 := n1_
                        have HO431 := n2_
                        have HO434 := n3_
                        have BK401 := n4_
                        have BK402 := n5_
                        have BK403 := n6_
                        have BK422 := n7_
                        have BK441 := n8_
                        have HB := n9_
                        clear n0_ n1_ n2_ n3_ n4_ n5_ n6_ n7_ n8_ n9_
                        (try clear hb)
                        (try clear hb2)
                        (try clear hk)
                        (try clear hi)
                        (try clear ho0)
                        refine hK.out _ _ ⟨(bc_ BK401.out 0).trans rfl, (bc_ BK401.out 1).trans rfl, (bc_ BK401.out 2).trans rfl, (bc_ BK401.out 3).trans rfl, (bc_ BK401.out 4).trans rfl, (bc_ BK401.out 5).trans rfl, (bc_ BK401.out 6).trans rfl⟩ (fun hHeld => ?_)
                        clear hK K
                        refine norm_ (a' := ?_) ?_ ?_
                        rotate_left
                        ·show Act.put _ (some 123) _ = _
                         simp only [Act.put, sb_, sz_, su_, i64_w, i32_w]
                         rfl
                        refine pure_ (i := 7) (N := some 116) (v := ?_) (a' := ?_) #[true, true, true, true, true, true, true, true, false, false, false, false, true, false, false, false, false] rfl rfl (any_of HT_.out (by kernel_rfl)) (fun _ _ _ h => h) (Or.inl ⟨by rfl, ?_⟩) ?_ ?_
                        rotate_left
                        ·intro w'
                         go_simp
                         with_reducible rfl
                        rotate_left
                        ·simp only [Act.put, sb_, sz_, su_, i64_w, i32_w]
                         rfl
                        refine pure_ (i := 8) (N := some 124) (v := ?_) (a' := ?_) #[true, true, true, true, true, true, true, true, true, false, false, false, true, false, false, false, false] rfl rfl (any_of HT_.out (by kernel_rfl)) (fun _ _ _ h => h) (Or.inl ⟨by rfl, ?_⟩) ?_ ?_
                        rotate_left
                        ·intro w'
                         go_simp
                         with_reducible rfl
                        rotate_left
                        ·simp only [Act.put, sb_, sz_, su_, i64_w, i32_w]
                         rfl
                        refine pure_ (i := 9) (N := some 125) (v := ?_) (a' := ?_) #[true, true, true, true, true, true, true, true, true, true, false, false, true, false, false, false, false] rfl rfl (any_of HT_.out (by kernel_rfl)) (fun _ _ _ h => h) (Or.inl ⟨by rfl, ?_⟩) ?_ ?_
                        rotate_left
                        ·intro w'
                         go_simp
                         with_reducible rfl
                        rotate_left
                        ·simp only [Act.put, sb_, sz_, su_, i64_w, i32_w]
                         rfl
                        refine pure_ (i := 10) (N := some 126) (v := ?_) (a' := ?_) #[true, true, true, true, true, true, true, true, true, true, true, false, true, false, false, false, false] rfl rfl (any_of HT_.out (by kernel_rfl)) (fun _ _ _ h => h) (Or.inl ⟨by rfl, ?_⟩) ?_ ?_
                        rotate_left
                        ·intro w'
                         go_simp
                         with_reducible rfl
                        rotate_left
                        ·simp only [Act.put, sb_, sz_, su_, i64_w, i32_w]
                         rfl
                        refine pure_ (i := 11) (N := some 127) (v := ?_) (a' := ?_) #[true, true, true, true, true, true, true, true, true, true, true, true, true, false, false, false, false] rfl rfl (any_of HT_.out (by kernel_rfl)) (fun _ _ _ h => h) (Or.inl ⟨by rfl, ?_⟩) ?_ ?_
                        rotate_left
                        ·intro w'
                         go_simp
                         with_reducible rfl
                        rotate_left
                        ·simp only [Act.put, sb_, sz_, su_, i64_w, i32_w]
                         rfl
                        exact norm_ (by simp only [putAll, Act.put, sb_, sz_, su_]) (hCont (.slice Ao92 y426.length co92, .slice Ao94 t429.length co94, v433, gb441) _ ⟨hHeld, (by (with_reducible repeat (first | apply Kd.R_alloc | apply Kd.R_drewN | apply Kd.R_drew)); exact HO428.out), (by (with_reducible repeat (first | apply Kd.R_alloc | apply Kd.R_drewN | apply Kd.R_drew)); exact Kd.R_mono HO431.out (fun _ hk => by first | exact ⟨hk.2, hk.1.2⟩ | exact hk | (simp only [and_assoc, and_comm, and_left_comm] at hk ⊢; exact hk) | grind)), (by (with_reducible repeat (first | apply Kd.R_alloc | apply Kd.R_drewN | apply Kd.R_drew)); exact Kd.R_mono HO434.out (fun _ hk => by first | exact ⟨hk.2, hk.1.2⟩ | exact hk | (simp only [and_assoc, and_comm, and_left_comm] at hk ⊢; exact hk) | grind)), (by (with_reducible repeat (first | apply Kd.R_alloc | apply Kd.R_drewN | apply Kd.R_drew)); exact Kd.R_mono HO_7.out (fun _ hk => by first | exact ⟨hk.1.2, hk.2⟩ | exact hk | (simp only [and_assoc, and_comm, and_left_comm] at hk ⊢; exact hk) | grind)), (by (with_reducible repeat (first | apply blk_drewN | apply blk_drew | apply blk_alloc)); exact BK401.out), (by (with_reducible repeat (first | apply blk_drewN | apply blk_drew | apply blk_alloc)); exact BK402.out), (by (with_reducible repeat (first | apply blk_drewN | apply blk_drew | apply blk_alloc)); exact BK403.out), (by (with_reducible repeat (first | apply blk_drewN | apply blk_drew | apply blk_alloc)); exact BK422.out), (by (with_reducible repeat (first | apply blk_drewN | apply blk_drew | apply blk_alloc)); exact BK441.out), GW441.out, GE441.out, NB401_441.out, NB441_401.out, NB402_441.out, NB441_402.out, NB403_441.out, NB441_403.out, NB422_441.out, NB441_422.out, (by repeat (first | (with_reducible first | exact HB.out | apply below_alloc | apply pw_below_drewN | apply below_drew1 | refine below_set ?_ GE401.out | refine below_set ?_ GE402.out | refine below_set ?_ GE403.out | refine below_set ?_ GE422.out | refine below_set ?_ GE441.out) | exact HB.out))⟩)
                      rintro ⟨v427, v430, v433, gb441⟩ w96 ⟨hS_, h0_, h1_, h2_, h3_, h4_, h5_, h6_, h7_, h8_, h9_, h10_, h11_, h12_, h13_, h14_, h15_, h16_, h17_, h18_, h19_⟩
                      have n0_ : Aside0 (Kd.R (Kd.int .i64) 3 w96 w.heap.size (fun _ => True) v427 y426) := ⟨h0_⟩
                      have n1_ : Aside0 (Kd.R (Kd.int .u8) 5 w96 w.heap.size (fun k_ => some k_ ≠ (v433 : Value).ownBlock ∧ some k_ ≠ (.slice Ao60 t406.length co60 : Value).ownBlock) v430 t429) := ⟨h1_⟩
                      have n2_ : Aside0 (Kd.R (Kd.int .u8) 5 w96 w.heap.size (fun k_ => some k_ ≠ (v430 : Value).ownBlock ∧ some k_ ≠ (.slice Ao60 t406.length co60 : Value).ownBlock) v433 t432) := ⟨h2_⟩
                      have n3_ : Aside0 (Kd.R (Kd.int .u8) 5 w96 w.heap.size (fun k_ => some k_ ≠ (v430 : Value).ownBlock ∧ some k_ ≠ (v433 : Value).ownBlock) (.slice Ao60 t406.length co60) t406) := ⟨h3_⟩
                      have n4_ : Aside0 (w96.heap[gb401]? = some (.cells #[.int .i64 a0_0, .int .i64 a0_1, .int .i64 a0_2, .int .i64 a0_3, .int .i64 a0_4, .int .i64 a0_5, .int .i64 a0_6] 23 (0, 0))) := ⟨h4_⟩
                      have n5_ : Aside0 (w96.heap[gb402]? = some (.cells #[.slice A1_0 l1_0.length c1_0, .int .i64 a1_1, .int .i64 a1_2, .int .i64 a1_3, .int .i64 a1_4] 57 (0, 0))) := ⟨h5_⟩
                      have n6_ : Aside0 (w96.heap[gb403]? = some (.cells #[.slice A2_0 l2_0.length c2_0, .int .u16 a2_1] 61 (0, 0))) := ⟨h6_⟩
                      have n7_ : Aside0 (w96.heap[gb422]? = some (.cells #[.int .i64 t416, .int .i64 t417, .int .i64 t418, .int .i64 t419] 26 (0, 0))) := ⟨h7_⟩
                      have n8_ : Aside0 (w96.heap[gb441]? = some (.cells #[.int .i64 0, .int .i64 0, .int .i64 0, .int .i64 0] 26 (0, 0))) := ⟨h8_⟩
                      have n9_ : Aside0 (w.heap.size ≤ gb441) := ⟨h9_⟩
                      have n10_ : Aside0 (w.heap.size ≤ gb441) := ⟨h10_⟩
                      have n11_ : Aside0 (gb401 ≠ gb441) := ⟨h11_⟩
                      have n12_ : Aside0 (gb441 ≠ gb401) := ⟨h12_⟩
                      have n13_ : Aside0 (gb402 ≠ gb441) := ⟨h13_⟩
                      have n14_ : Aside0 (gb441 ≠ gb402) := ⟨h14_⟩
                      have n15_ : Aside0 (gb403 ≠ gb441) := ⟨h15_⟩
                      have n16_ : Aside0 (gb441 ≠ gb403) := ⟨h16_⟩
                      have n17_ : Aside0 (gb422 ≠ gb441) := ⟨h17_⟩
                      have n18_ : Aside0 (gb441 ≠ gb422) := ⟨h18_⟩
                      have n19_ : Aside0 (Below w.heap.size w w96) := ⟨h19_⟩
                      clear HO_7
                      clear BK401
                      clear BK402
                      clear BK403
                      clear BK422
                      clear HB
                      clear h0_ h1_ h2_ h3_ h4_ h5_ h6_ h7_ h8_ h9_ h10_ h11_ h12_ h13_ h14_ h15_ h16_ h17_ h18_ h19_
                      have HO428 := n0_
                      have HO431 := n1_
                      have HO434 := n2_
                      have HO_7 := n3_
                      have BK401 := n4_
                      have BK402 := n5_
                      have BK403 := n6_
                      have BK422 := n7_
                      have BK441 := n8_
                      have GW441 := n9_
                      have GE441 := n10_
                      have NB401_441 := n11_
                      have NB441_401 := n12_
                      have NB402_441 := n13_
                      have NB441_402 := n14_
                      have NB403_441 := n15_
                      have NB441_403 := n16_
                      have NB422_441 := n17_
                      have NB441_422 := n18_
                      have HB := n19_
                      clear n0_ n1_ n2_ n3_ n4_ n5_ n6_ n7_ n8_ n9_ n10_ n11_ n12_ n13_ n14_ n15_ n16_ n17_ n18_ n19_
                      have hHeld : w96.cell? ⟨gb401, 0, none⟩ = some (.int .i64 a0_0) ∧ w96.cell? ⟨gb401, 1, none⟩ = some (.int .i64 a0_1) ∧ w96.cell? ⟨gb401, 2, none⟩ = some (.int .i64 a0_2) ∧ w96.cell? ⟨gb401, 3, none⟩ = some (.int .i64 a0_3) ∧ w96.cell? ⟨gb401, 4, none⟩ = some (.int .i64 a0_4) ∧ w96.cell? ⟨gb401, 5, none⟩ = some (.int .i64 a0_5) ∧ w96.cell? ⟨gb401, 6, none⟩ = some (.int .i64 a0_6) := hS_
                      refine norm_ (a' := ?_) ?_ ?_
                      rotate_left
                      ·simp only [putAll, Act.put, sb_, sz_, su_]
                       rfl
                      refine pure_ (i := 13) (N := some 17) (v := ?_) (a' := ?_) #[true, true, true, true, true, true, true, true, true, true, true, true, true, true, false, false, false] rfl rfl (any_of HT_.out (by kernel_rfl)) (fun _ _ _ h => h) (Or.inl ⟨by rfl, ?_⟩) ?_ ?_
                      rotate_left
                      ·intro w'
                       go_simp
                       with_reducible rfl
                      rotate_left
                      ·simp only [Act.put, sb_, sz_, su_, i64_w, i32_w]
                       rfl
                      refine one_ (i := 14) (N := none) #[true, true, true, true, true, true, true, true, true, true, true, true, true, true, true, false, false] rfl rfl (one_of HT_.out (by kernel_rfl)) (by decide) (fun K hK => ?_)
                      have hs97 : w96.cell? ⟨gb441, 0, none⟩ = some (.int .i64 0) := (bc_ BK441.out 0).trans rfl
                      have hfs97 := bf_ BK441.out 0
                      have hns97_0 := NB401_441.out
                      have hns97_1 := NB402_441.out
                      have hns97_2 := NB403_441.out
                      have hns97_3 := NB422_441.out
                      have hms97_0 := NB441_401.out
                      have hms97_1 := NB441_402.out
                      have hms97_2 := NB441_403.out
                      have hms97_3 := NB441_422.out
                      have hs98 : w96.cell? ⟨gb441, 1, none⟩ = some (.int .i64 0) := (bc_ BK441.out 1).trans rfl
                      have hfs98 := bf_ BK441.out 1
                      have hns98_0 := NB401_441.out
                      have hns98_1 := NB402_441.out
                      have hns98_2 := NB403_441.out
                      have hns98_3 := NB422_441.out
                      have hms98_0 := NB441_401.out
                      have hms98_1 := NB441_402.out
                      have hms98_2 := NB441_403.out
                      have hms98_3 := NB441_422.out
                      have hs99 : w96.cell? ⟨gb441, 2, none⟩ = some (.int .i64 0) := (bc_ BK441.out 2).trans rfl
                      have hfs99 := bf_ BK441.out 2
                      have hns99_0 := NB401_441.out
                      have hns99_1 := NB402_441.out
                      have hns99_2 := NB403_441.out
                      have hns99_3 := NB422_441.out
                      have hms99_0 := NB441_401.out
                      have hms99_1 := NB441_402.out
                      have hms99_2 := NB441_403.out
                      have hms99_3 := NB441_422.out
                      have hs100 : w96.cell? ⟨gb441, 3, none⟩ = some (.int .i64 0) := (bc_ BK441.out 3).trans rfl
                      have hfs100 := bf_ BK441.out 3
                      have hns100_0 := NB401_441.out
                      have hns100_1 := NB402_441.out
                      have hns100_2 := NB403_441.out
                      have hns100_3 := NB422_441.out
                      have hms100_0 := NB441_401.out
                      have hms100_1 := NB441_402.out
                      have hms100_2 := NB441_403.out
                      have hms100_3 := NB441_422.out
                      refine skip_ (w1 := ?_) (by rfl) rfl ?_ ?_
                      rotate_left
                      ·go_simp
                       rfl
                      refine hK.out _ _ ⟨((cell_far (p := ⟨gb441, _, none⟩) NB401_441.out _).trans (((cell_far (p := ⟨gb441, _, none⟩) NB401_441.out _).trans (((cell_far (p := ⟨gb441, _, none⟩) NB401_441.out _).trans (((cell_far (p := ⟨gb441, _, none⟩) NB401_441.out _).trans (hHeld.1)))))))), ((cell_far (p := ⟨gb441, _, none⟩) NB401_441.out _).trans (((cell_far (p := ⟨gb441, _, none⟩) NB401_441.out _).trans (((cell_far (p := ⟨gb441, _, none⟩) NB401_441.out _).trans (((cell_far (p := ⟨gb441, _, none⟩) NB401_441.out _).trans (hHeld.2.1)))))))), ((cell_far (p := ⟨gb441, _, none⟩) NB401_441.out _).trans (((cell_far (p := ⟨gb441, _, none⟩) NB401_441.out _).trans (((cell_far (p := ⟨gb441, _, none⟩) NB401_441.out _).trans (((cell_far (p := ⟨gb441, _, none⟩) NB401_441.out _).trans (hHeld.2.2.1)))))))), ((cell_far (p := ⟨gb441, _, none⟩) NB401_441.out _).trans (((cell_far (p := ⟨gb441, _, none⟩) NB401_441.out _).trans (((cell_far (p := ⟨gb441, _, none⟩) NB401_441.out _).trans (((cell_far (p := ⟨gb441, _, none⟩) NB401_441.out _).trans (hHeld.2.2.2.1)))))))), ((cell_far (p := ⟨gb441, _, none⟩) NB401_441.out _).trans (((cell_far (p := ⟨gb441, _, none⟩) NB401_441.out _).trans (((cell_far (p := ⟨gb441, _, none⟩) NB401_441.out _).trans (((cell_far (p := ⟨gb441, _, none⟩) NB401_441.out _).trans (hHeld.2.2.2.2.1)))))))), ((cell_far (p := ⟨gb441, _, none⟩) NB401_441.out _).trans (((cell_far (p := ⟨gb441, _, none⟩) NB401_441.out _).trans (((cell_far (p := ⟨gb441, _, none⟩) NB401_441.out _).trans (((cell_far (p := ⟨gb441, _, none⟩) NB401_441.out _).trans (hHeld.2.2.2.2.2.1)))))))), ((cell_far (p := ⟨gb441, _, none⟩) NB401_441.out _).trans (((cell_far (p := ⟨gb441, _, none⟩) NB401_441.out _).trans (((cell_far (p := ⟨gb441, _, none⟩) NB401_441.out _).trans (((cell_far (p := ⟨gb441, _, none⟩) NB401_441.out _).trans (hHeld.2.2.2.2.2.2))))))))⟩ (fun hHeld => ?_)
                      clear hK K
                      refine pure_ (i := 15) (N := some 19) (v := ?_) (a' := ?_) #[true, true, true, true, true, true, true, true, true, true, true, true, true, true, true, true, false] rfl rfl (any_of HT_.out (by kernel_rfl)) (fun _ _ _ h => h) (Or.inl ⟨by rfl, ?_⟩) ?_ ?_
                      rotate_left
                      ·intro w'
                       go_simp
                       with_reducible rfl
                      rotate_left
                      ·simp only [Act.put, sb_, sz_, su_, i64_w, i32_w]
                       rfl
                      refine pure_ (i := 16) (N := some 20) (v := ?_) (a' := ?_) #[true, true, true, true, true, true, true, true, true, true, true, true, true, true, true, true, true] rfl rfl (any_of HT_.out (by kernel_rfl)) (fun _ _ _ h => h) (Or.inl ⟨by rfl, ?_⟩) ?_ ?_
                      rotate_left
                      ·intro w'
                       go_simp
                       with_reducible rfl
                      rotate_left
                      ·simp only [Act.put, sb_, sz_, su_, i64_w, i32_w]
                       rfl
                      refine done_ (done_of HT_.out (by kernel_rfl)) ?_
                      obtain ⟨Ao101, co101, eo101⟩ := Kd.R_slice HO434.out
                      subst eo101
                      have hnb102 := NB441_401.out
                      have hnc102 := NB401_441.out
                      have hnb103 := NB441_402.out
                      have hnc103 := NB402_441.out
                      have hnb104 := NB441_403.out
                      have hnc104 := NB403_441.out
                      have hnb105 := NB441_422.out
                      have hnc105 := NB422_441.out
                      have hcz106_0 : w96.cell? ⟨gb441, 0, none⟩ = some (.int .i64 0) := (bc_ BK441.out 0).trans rfl
                      have hcz106_1 : w96.cell? ⟨gb441, 1, none⟩ = some (.int .i64 0) := (bc_ BK441.out 1).trans rfl
                      have hcz106_2 : w96.cell? ⟨gb441, 2, none⟩ = some (.int .i64 0) := (bc_ BK441.out 2).trans rfl
                      have hcz106_3 : w96.cell? ⟨gb441, 3, none⟩ = some (.int .i64 0) := (bc_ BK441.out 3).trans rfl
                      have hfz106_0 := bf_ BK441.out 0
                      have hfz106_1 := bf_ BK441.out 1
                      have hfz106_2 := bf_ BK441.out 2
                      have hfz106_3 := bf_ BK441.out 3
                      try go_wp2
                      go_ret
                      exact ⟨by first | rfl | (simp [errW_none, errW_some] <;> rfl) | (simp [*, errW_none, errW_some] <;> rfl) | (have hz_ : ∀ z : Int, -9223372036854775808 ≤ z → z ≤ 9223372036854775807 → wrap64 z = z := (fun z h1_ h2_ => by unfold wrap64; omega); rw [hz_] <;> first | rfl | omega), by repeat (first | (with_reducible first | exact HB.out | apply below_alloc | apply pw_below_drewN | apply below_drew1 | refine below_set ?_ GE401.out | refine below_set ?_ GE402.out | refine below_set ?_ GE403.out | refine below_set ?_ GE422.out | refine below_set ?_ GE441.out) | exact HB.out)⟩
                     ·rw [if_neg c87] at H
                      exact absurd H (by simp)
                    ·rw [if_neg c86] at H
                     exact absurd H (by simp)
                   ·rw [if_neg c85] at H
                    exact absurd H (by simp)
          ·replace c48 := Bool.eq_false_iff.mpr c48
           subst c48
           have H1 : (none) = some r := by rw [if_neg (show ¬ (false = true) by decide)] at H; exact H
           clear H
           have H := H1
           clear H1
           exact absurd H (by simp)
         ·rw [if_neg c46] at H
          exact absurd H (by simp)
end Go.Proofs.Ytmehbabchakkpaa.QPageBack
