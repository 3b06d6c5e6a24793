import Derived.Test.YtmehbabchakkpaaMPageBackx6
import Derived.Test.YtmehbabchakkpaaMPageBackx8
namespace Go.Proofs.Ytmehbabchakkpaa.QPageBack
open Go.RowKit YtmehbabchakkpaaW.PrintWords YtmehbabchakkpaaW.PrintLast YtmehbabchakkpaaW.PrintMore Short
attribute [local go_sem] max2_int min2_int max_two min_two max_three min_three max_four min_four
set_option linter.unusedVariables false
set_option maxHeartbeats 8000000
set_option maxRecDepth 100000
set_option linter.unusedSimpArgs false
def hamming_Judge.j0 : Nat → List Int → Int → Bool → Bool → Option (Int × Int × Int)
 | 0, _, _, _, _ => none
 | k + 1, x0, x9, x10, x31 => if x31 = true then (some (0, 0, 0)) else (if x10 = true then (if (Go.bits .and .i64 x9 (wrap64 (x9 - 1))) = 0 then (some (2, 0, 0)) else ((hamming_Bit.f k x9).bind fun bt247 => (if bt247.2 = true then (if bt247.1 < (wrap64 (8 * (x0.length : Int))) then (some (1, bt247.1, 0)) else (some (3, 0, 0))) else (some (3, 0, 0))))) else (some (3, 0, 0)))
def hamming_Judge.f (k : Nat) (l0 : List Int) (a1 : Int) : Option (Int × Int × Int) := if (l0.length : Int) > 512 then (some (0, 0, 3)) else ((hamming_gather.f k l0).bind fun bt244 => ((hamming_odd.f (Go.bits .andNot .u16 a1 49152)).bind fun t246 => (if ((bt244.2 != t246) = true) then (hamming_Judge.j0 k l0 (wrap64 (Go.bits .and .u16 (Go.bits .xor .u16 bt244.1 a1) 8191)) (bt244.2 != t246) false) else (hamming_Judge.j0 k l0 (wrap64 (Go.bits .and .u16 (Go.bits .xor .u16 bt244.1 a1) 8191)) (bt244.2 != t246) ((wrap64 (Go.bits .and .u16 (Go.bits .xor .u16 bt244.1 a1) 8191)) == 0)))))
theorem hamming_Judge.mono_l : ∀ k, (∀ y0 y1 y2 y3, LeO (hamming_Judge.j0 k y0 y1 y2 y3) (hamming_Judge.j0 (k + 1) y0 y1 y2 y3))
 | 0 => fun _ _ _ _ r h => by simp [hamming_Judge.j0] at h
 | k + 1 => by
  have ih0 := hamming_Judge.mono_l k
  ·intro y0 y1 y2 y3
   unfold hamming_Judge.j0
   repeat' first
   | (with_reducible exact ih0 _ _ _ _)
   | (with_reducible exact hamming_Bit.mono _ _)
   | (with_reducible exact hamming_gather.mono _ _)
   | (with_reducible exact LeO.refl _)
   | (with_reducible exact LeO.none _)
   | (with_reducible refine LeO.ite ?_ ?_)
   | (with_reducible refine LeO.bind ?_ (fun _ => ?_))
theorem hamming_Judge.mono : ∀ a0 a1 k, LeO (hamming_Judge.f k a0 a1) (hamming_Judge.f (k + 1) a0 a1) := by
 intro a0 a1 k
 have ih0 := hamming_Judge.mono_l k
 unfold hamming_Judge.f
 repeat' with_reducible first
  | exact ih0 _ _ _ _
  | exact hamming_Bit.mono _ _
  | exact hamming_gather.mono _ _
  | exact LeO.refl _
  | exact LeO.none _
  | refine LeO.ite ?_ ?_
  | refine LeO.bind ?_ (fun _ => ?_)
theorem hamming_Judge.calls (k : Nat) (A0 : Option Addr) (c0 : Nat) (l0 : List Int) (a1 : Int) (r1 : Int) (r2 : Int) (r3 : Int) (w : World) (hr0 : Kd.C (Kd.int .u8) w A0 l0.length l0) (hc0 : l0.length ≤ c0) (h : hamming_Judge.f k l0 a1 = some (r1, r2, r3)) :
  Calls Try.prog 79 #[.slice A0 l0.length c0, .int .u16 a1] w fun e w' => e = .returned (.tuple #[.int .i64 r1, .int .i64 r2, .int .i64 r3]) ∧ Below w.heap.size w w' := by
 have HR0 := ak_ hr0
 have HC0 := ak_ hc0
 clear hr0 hc0
 have HB := br_ w
 unfold hamming_Judge.f at h
 have H := h
 clear h
 by_cases c3 : (l0.length : Int) > 512
 ·rw [if_pos c3] at H
  have c3b0 : decide (512 < (l0.length : Int)) = true := dt_ c3
  have c3b1 : decide (512 < l0.length) = true := dt_ (by omega)
  clear c3
  simp only [Option.some.injEq, Prod.mk.injEq] at H
  obtain ⟨rfl, rfl, rfl⟩ := H
  go_enter Try.func79, Try.ntmps79
  go_wp2
  go_ret3
  exact ⟨by rfl, HB.out⟩
 ·rw [if_neg c3] at H
  have c3b0 : decide (512 < (l0.length : Int)) = false := df_ c3
  have c3b1 : decide (512 < l0.length) = false := df_ (by omega)
  clear c3
  obtain ⟨⟨t133, t134⟩, A4, H⟩ := bs_ H
  try dsimp only at H
  obtain ⟨t135, A5, H⟩ := bs_ H
  have HC6 := ak_ H
  clear H
  go_enter Try.func79, Try.ntmps79
  go_upto_region 6 with (first | ((with_reducible refine gate_callee (f := 84) rfl ?_); refine goesL_ (some 18) rfl rfl Try.func84 (by kernel_rfl) rfl #[.slice A0 l0.length c0] rfl (by (try simp only [List.map_toArray, List.map_cons, List.map_nil]); first | done | rfl | (simp only [List.length_drop, List.length_take]; rfl)) ?_; (with_reducible refine (hamming_gather.calls k _ _ l0 t133 t134 _ ?side1 ?side2 A4.out).mono ?_); (case side1 => exact HR0.out); (case side2 => exact HC0.out); rintro e w7 ⟨rfl, hb⟩; refine ⟨_, rfl, ?_⟩; replace HB := ak_ (below_step HB.out hb); (try clear hb)) | ((with_reducible refine gate_callee (f := 85) rfl ?_); refine goesL_ (some 29) rfl rfl Try.func85 (by kernel_rfl) rfl #[.int .u16 (Go.bits .andNot .u16 a1 49152)] rfl (by (try simp only [List.map_toArray, List.map_cons, List.map_nil]); first | done | rfl | (simp only [List.length_drop, List.length_take]; rfl)) ?_; (with_reducible refine (hamming_odd.calls (Go.bits .andNot .u16 a1 49152) t135 _ A5.out).mono ?_); rintro e w' ⟨rfl, ⟨nd, rfl⟩⟩; refine ⟨_, rfl, ?_⟩))
  go_cut [31] (fun v31 wc => ∃ (kq : Nat) (x31_5 : Bool), v31 = .bool x31_5 ∧ Aside0 (hamming_Judge.j0 kq l0 (wrap64 (Go.bits .and .u16 (Go.bits .xor .u16 t133 a1) 8191)) (t134 != t135) x31_5 = some (r1, r2, r3)) ∧ Aside0 (kq ≤ k) ∧ Aside0 (Below w.heap.size w wc))
  case first =>
   have H := HC6.out
   clear HC6
   by_cases c8 : ((t134 != t135) = true)
   ·rw [if_pos c8] at H
    have c8b0 : (t134 != t135) = true := c8
    (try (have c8b1 : decide (t134 = t135) = false := by simpa using c8))
    (try (have c8b2 : (t134 == t135) = false := by simpa using c8))
    (try (have c8b3 : ¬ (t134 = t135) := by simpa using c8))
    clear c8
    (first | rw [c8b0] | (simp only [i64_w, i32_w]; rw [c8b0]) | skip)
    have H' := ak_ H
    clear H
    go_wp2
    go_meet
    case rel => exact ⟨_, (false), (by rfl), H', ⟨by omega⟩, ⟨by repeat (first | (with_reducible first | exact HB.out | apply below_alloc | apply pw_below_drewN | apply below_drew1) | exact HB.out)⟩⟩
   ·rw [if_neg c8] at H
    have c8b0 : (t134 != t135) = false := by simpa using c8
    (try (have c8b1 : decide (t134 = t135) = true := by simpa using c8))
    (try (have c8b2 : (t134 == t135) = true := by simpa using c8))
    clear c8
    (first | rw [c8b0] | (simp only [i64_w, i32_w]; rw [c8b0]) | skip)
    have H' := ak_ H
    clear H
    go_wp2
    go_meet
    case rel => exact ⟨_, (((wrap64 (Go.bits .and .u16 (Go.bits .xor .u16 t133 a1) 8191)) == 0)), (by rfl), H', ⟨by omega⟩, ⟨by repeat (first | (with_reducible first | exact HB.out | apply below_alloc | apply pw_below_drewN | apply below_drew1) | exact HB.out)⟩⟩
  case rest =>
   clear HC6 c3b0 c3b1
   obtain ⟨kq, x31_5, rfl, HA, HJ5, HB⟩ := hcut
   cases kq with
   | zero => exact absurd HA.out (by simp [hamming_Judge.j0])
   | succ kj5 =>
    have H := HA.out
    clear HA
    simp only [hamming_Judge.j0] at H
    by_cases c9 : x31_5 = true
    ·subst c9
     rw [if_pos rfl] at H
     simp only [Option.some.injEq, Prod.mk.injEq] at H
     obtain ⟨rfl, rfl, rfl⟩ := H
     go_wp2
     go_ret3
     exact ⟨by rfl, HB.out⟩
    ·replace c9 := Bool.eq_false_iff.mpr c9
     subst c9
     rw [if_neg (show ¬ (false = true) by decide)] at H
     by_cases c10 : (t134 != t135) = true
     ·rw [if_pos c10] at H
      have c10b0 : (t134 != t135) = true := c10
      (try (have c10b1 : decide (t134 = t135) = false := by simpa using c10))
      (try (have c10b2 : (t134 == t135) = false := by simpa using c10))
      (try (have c10b3 : ¬ (t134 = t135) := by simpa using c10))
      clear c10
      by_cases c11 : (Go.bits .and .i64 (wrap64 (Go.bits .and .u16 (Go.bits .xor .u16 t133 a1) 8191)) (wrap64 ((wrap64 (Go.bits .and .u16 (Go.bits .xor .u16 t133 a1) 8191)) - 1))) = 0
      ·rw [if_pos c11] at H
       have c11b0 := beq_iff_eq.mpr c11
       have c11b1 := bne_eq_false_iff_eq.mpr c11
       clear c11
       simp only [Option.some.injEq, Prod.mk.injEq] at H
       obtain ⟨rfl, rfl, rfl⟩ := H
       go_wp2
       go_ret3
       exact ⟨by rfl, HB.out⟩
      ·rw [if_neg c11] at H
       have c11b0 := beq_eq_false_iff_ne.mpr c11
       have c11b1 := bne_iff_ne.mpr c11
       obtain ⟨⟨t136, t137⟩, A12, H⟩ := bs_ H
       try dsimp only at H
       by_cases c13 : t137 = true
       ·subst c13
        rw [if_pos rfl] at H
        by_cases c14 : t136 < (wrap64 (8 * (l0.length : Int)))
        ·rw [if_pos c14] at H
         have c14b0 := dt_ c14
         clear c14
         simp only [Option.some.injEq, Prod.mk.injEq] at H
         obtain ⟨rfl, rfl, rfl⟩ := H
         go_wp2_with ((with_reducible refine gate_callee (f := 96) rfl ?_); refine goesL_ (some 49) rfl rfl Try.func96 (by kernel_rfl) rfl #[.int .i64 (wrap64 (Go.bits .and .u16 (Go.bits .xor .u16 t133 a1) 8191))] rfl (by (try simp only [List.map_toArray, List.map_cons, List.map_nil]); first | done | rfl | (simp only [List.length_drop, List.length_take]; rfl)) ?_; (with_reducible refine (hamming_Bit.calls kj5 (wrap64 (Go.bits .and .u16 (Go.bits .xor .u16 t133 a1) 8191)) t136 true _ A12.out).mono ?_); rintro e w' ⟨rfl, ⟨nd, rfl⟩⟩; refine ⟨_, rfl, ?_⟩)
         go_ret3
         exact ⟨by rfl, by repeat (first | (with_reducible first | exact HB.out | apply below_alloc | apply pw_below_drewN | apply below_drew1) | exact HB.out)⟩
        ·rw [if_neg c14] at H
         have c14b0 := df_ c14
         clear c14
         simp only [Option.some.injEq, Prod.mk.injEq] at H
         obtain ⟨rfl, rfl, rfl⟩ := H
         go_wp2_with ((with_reducible refine gate_callee (f := 96) rfl ?_); refine goesL_ (some 49) rfl rfl Try.func96 (by kernel_rfl) rfl #[.int .i64 (wrap64 (Go.bits .and .u16 (Go.bits .xor .u16 t133 a1) 8191))] rfl (by (try simp only [List.map_toArray, List.map_cons, List.map_nil]); first | done | rfl | (simp only [List.length_drop, List.length_take]; rfl)) ?_; (with_reducible refine (hamming_Bit.calls kj5 (wrap64 (Go.bits .and .u16 (Go.bits .xor .u16 t133 a1) 8191)) t136 true _ A12.out).mono ?_); rintro e w' ⟨rfl, ⟨nd, rfl⟩⟩; refine ⟨_, rfl, ?_⟩)
         go_ret3
         exact ⟨by rfl, by repeat (first | (with_reducible first | exact HB.out | apply below_alloc | apply pw_below_drewN | apply below_drew1) | exact HB.out)⟩
       ·replace c13 := Bool.eq_false_iff.mpr c13
        subst c13
        rw [if_neg (show ¬ (false = true) by decide)] at H
        simp only [Option.some.injEq, Prod.mk.injEq] at H
        obtain ⟨rfl, rfl, rfl⟩ := H
        go_wp2_with ((with_reducible refine gate_callee (f := 96) rfl ?_); refine goesL_ (some 49) rfl rfl Try.func96 (by kernel_rfl) rfl #[.int .i64 (wrap64 (Go.bits .and .u16 (Go.bits .xor .u16 t133 a1) 8191))] rfl (by (try simp only [List.map_toArray, List.map_cons, List.map_nil]); first | done | rfl | (simp only [List.length_drop, List.length_take]; rfl)) ?_; (with_reducible refine (hamming_Bit.calls kj5 (wrap64 (Go.bits .and .u16 (Go.bits .xor .u16 t133 a1) 8191)) t136 false _ A12.out).mono ?_); rintro e w' ⟨rfl, ⟨nd, rfl⟩⟩; refine ⟨_, rfl, ?_⟩)
        go_ret3
        exact ⟨by rfl, by repeat (first | (with_reducible first | exact HB.out | apply below_alloc | apply pw_below_drewN | apply below_drew1) | exact HB.out)⟩
     ·rw [if_neg c10] at H
      have c10b0 : (t134 != t135) = false := by simpa using c10
      (try (have c10b1 : decide (t134 = t135) = true := by simpa using c10))
      (try (have c10b2 : (t134 == t135) = true := by simpa using c10))
      clear c10
      simp only [Option.some.injEq, Prod.mk.injEq] at H
      obtain ⟨rfl, rfl, rfl⟩ := H
      go_wp2
      go_ret3
      exact ⟨by rfl, HB.out⟩
mutual
def chunk_Decode.j0 : Nat → List Int → Int → Bool → Option (List Int × Int × Int)
 | 0, _, _, _ => none
 | k + 1, x0, x5, x16 => if x16 = true then (some (([] : List Int), 0, 2)) else (chunk_Decode.j1 k x0 x5)
def chunk_Decode.j1 : Nat → List Int → Int → Option (List Int × Int × Int)
 | 0, _, _ => none
 | k + 1, x0, x5 => if 0 ≤ x5 then (if x5 ≤ (x0.length : Int) then (if x5 < (x0.length : Int) then (if 0 ≤ (wrap64 (x5 + 1)) then (if (wrap64 (x5 + 1)) < (x0.length : Int) then ((hamming_Judge.f k (x0.take (x5 : Int).toNat) (Go.bits .or .u16 (IntKind.u16.wrap (rd x0 x5)) (IntKind.u16.wrap ((IntKind.u16.wrap (rd x0 (wrap64 (x5 + 1)))) * 256)))).bind fun bt252 => (if bt252.2.2 = 0 then (chunk_Decode.j2 k x0 x5 bt252.1 bt252.2.1) else (some (([] : List Int), 0, bt252.2.2)))) else (none)) else (none)) else (none)) else (none)) else (none)
def chunk_Decode.j2 : Nat → List Int → Int → Int → Int → Option (List Int × Int × Int)
 | 0, _, _, _, _ => none
 | k + 1, x0, x5, x6, x7 => if x6 = 0 then (if 0 ≤ x5 then (if x5 ≤ (x0.length : Int) then ((bits_Flip.f k (x0.take (x5 : Int).toNat) ([] : List Int)).bind fun t256 => (some (t256, 0, 0))) else (none)) else (none)) else (if x6 = 1 then (if 0 ≤ x5 then (if x5 ≤ (x0.length : Int) then ((bits_Flip.f k (x0.take (x5 : Int).toNat) (([x7] : List Int))).bind fun t263 => (some (t263, 1, 0))) else (none)) else (none)) else (if x6 = 2 then (if 0 ≤ x5 then (if x5 ≤ (x0.length : Int) then ((bits_Flip.f k (x0.take (x5 : Int).toNat) ([] : List Int)).bind fun t267 => (some (t267, 1, 0))) else (none)) else (none)) else (some (([] : List Int), 0, 14))))
end
def chunk_Decode.f (k : Nat) (l0 : List Int) : Option (List Int × Int × Int) := if (wrap64 ((l0.length : Int) - 2)) < 1 then (chunk_Decode.j0 k l0 (wrap64 ((l0.length : Int) - 2)) true) else (chunk_Decode.j0 k l0 (wrap64 ((l0.length : Int) - 2)) (decide ((wrap64 ((l0.length : Int) - 2)) > 512)))
theorem chunk_Decode.mono_l : ∀ k, (∀ y0 y1 y2, LeO (chunk_Decode.j0 k y0 y1 y2) (chunk_Decode.j0 (k + 1) y0 y1 y2)) ∧ (∀ y0 y1, LeO (chunk_Decode.j1 k y0 y1) (chunk_Decode.j1 (k + 1) y0 y1)) ∧ (∀ y0 y1 y2 y3, LeO (chunk_Decode.j2 k y0 y1 y2 y3) (chunk_Decode.j2 (k + 1) y0 y1 y2 y3))
 | 0 => ⟨fun _ _ _ r h => by simp [chunk_Decode.j0] at h, fun _ _ r h => by simp [chunk_Decode.j1] at h, fun _ _ _ _ r h => by simp [chunk_Decode.j2] at h⟩
 | k + 1 => by
  obtain ⟨ih0, ih1, ih2⟩ := chunk_Decode.mono_l k
  refine ⟨?_, ?_, ?_⟩
  ·intro y0 y1 y2
   unfold chunk_Decode.j0
   repeat' first
   | (with_reducible exact ih0 _ _ _)
   | (with_reducible exact ih1 _ _)
   | (with_reducible exact ih2 _ _ _ _)
   | (with_reducible exact bits_Flip.mono _ _ _)
   | (with_reducible exact hamming_Judge.mono _ _ _)
   | (with_reducible exact LeO.refl _)
   | (with_reducible exact LeO.none _)
   | (with_reducible refine LeO.ite ?_ ?_)
   | (with_reducible refine LeO.bind ?_ (fun _ => ?_))
  ·intro y0 y1
   unfold chunk_Decode.j1
   repeat' first
   | (with_reducible exact ih0 _ _ _)
   | (with_reducible exact ih1 _ _)
   | (with_reducible exact ih2 _ _ _ _)
   | (with_reducible exact bits_Flip.mono _ _ _)
   | (with_reducible exact hamming_Judge.mono _ _ _)
   | (with_reducible exact LeO.refl _)
   | (with_reducible exact LeO.none _)
   | (with_reducible refine LeO.ite ?_ ?_)
   | (with_reducible refine LeO.bind ?_ (fun _ => ?_))
  ·intro y0 y1 y2 y3
   unfold chunk_Decode.j2
   repeat' first
   | (with_reducible exact ih0 _ _ _)
   | (with_reducible exact ih1 _ _)
   | (with_reducible exact ih2 _ _ _ _)
   | (with_reducible exact bits_Flip.mono _ _ _)
   | (with_reducible exact hamming_Judge.mono _ _ _)
   | (with_reducible exact LeO.refl _)
   | (with_reducible exact LeO.none _)
   | (with_reducible refine LeO.ite ?_ ?_)
   | (with_reducible refine LeO.bind ?_ (fun _ => ?_))
theorem chunk_Decode.mono : ∀ a0 k, LeO (chunk_Decode.f k a0) (chunk_Decode.f (k + 1) a0) := by
 intro a0 k
 obtain ⟨ih0, ih1, ih2⟩ := chunk_Decode.mono_l k
 unfold chunk_Decode.f
 repeat' with_reducible first
  | exact ih0 _ _ _
  | exact ih1 _ _
  | exact ih2 _ _ _ _
  | exact bits_Flip.mono _ _ _
  | exact hamming_Judge.mono _ _ _
  | exact LeO.refl _
  | exact LeO.none _
  | refine LeO.ite ?_ ?_
  | refine LeO.bind ?_ (fun _ => ?_)
def chunk_Decode.T4 : Bool × List (List Nat × List Nat) := (true, [([], []), ([], []), ([0, 1], [0, 1]), ([], []), ([], []), ([3, 4], [3, 4]), ([5], [5]), ([6], [6]), ([], []), ([], []), ([9], [9]), ([8, 10], [8, 10]), ([11], [11]), ([12], [12]), ([13], [13]), ([7, 14], [7, 14]), ([2, 15], [2, 15]), ([16], [16]), ([17], [17]), ([17], [17]), ([17], [17]), ([18, 16, 0, 1, 2, 3, 4, 5, 6, 7, 8, 9, 10, 11, 12, 13, 14, 15, 16, 17, 18], [18]), ([19, 21, 0, 1, 2, 3, 4, 5, 6, 7, 8, 9, 10, 11, 12, 13, 14, 15, 16, 17, 18, 19, 21], [19]), ([20, 22, 0, 1, 2, 3, 4, 5, 6, 7, 8, 9, 10, 11, 12, 13, 14, 15, 16, 17, 18, 19, 20, 21, 22], [20])])
def chunk_Decode.B4 : List Nat := [0, 0, 3, 0, 0, 24, 56, 120, 0, 0, 512, 1792, 3840, 7936, 16128, 32760, 65535, 131071, 262143, 262143, 262143, 524287, 3145727, 8388607]
theorem chunk_Decode.tab4 : rtab .any (opsOf Try.f60 4) = chunk_Decode.T4 := by kernel_rfl
theorem chunk_Decode.bits4 : waitsOk chunk_Decode.T4.2 chunk_Decode.B4 = true := by kernel_rfl
theorem chunk_Decode.calls (k : Nat) (A0 : Option Addr) (c0 : Nat) (l0 : List Int) (r1 : List Int) (r2 : Int) (r3 : Int) (w : World) (hr0 : Kd.C (Kd.int .u8) w A0 l0.length l0) (hc0 : l0.length ≤ c0) (h : chunk_Decode.f k l0 = some (r1, r2, r3)) :
  Calls Try.prog 60 #[.slice A0 l0.length c0] w fun e w' => ∃ v0_ : Value, e = .returned (.tuple #[v0_, .int .i64 r2, .int .i64 r3]) ∧ Kd.R (Kd.int .u8) 5 w' w.heap.size (fun _ => True) v0_ r1 ∧ Below w.heap.size w w' := by
 have HR0 := ak_ hr0
 have HC0 := ak_ hc0
 clear hr0 hc0
 have HB := br_ w
 unfold chunk_Decode.f at h
 have H := h
 clear h
 have HC2 := ak_ H
 clear H
 go_enter Try.func60, Try.ntmps60
 go_upto_region 2 with (fail)
 go_cut [16] (fun v16 wc => ∃ (kq : Nat) (x16_1 : Bool), v16 = .bool x16_1 ∧ Aside0 (chunk_Decode.j0 kq l0 (wrap64 ((l0.length : Int) - 2)) x16_1 = some (r1, r2, r3)) ∧ Aside0 (kq ≤ k) ∧ Aside0 (Below w.heap.size w wc))
 case first =>
  have H := HC2.out
  clear HC2
  by_cases c3 : (wrap64 ((l0.length : Int) - 2)) < 1
  ·rw [if_pos c3] at H
   have c3b0 := dt_ c3
   clear c3
   (first | rw [c3b0] | (simp only [i64_w, i32_w]; rw [c3b0]) | skip)
   have H' := ak_ H
   clear H
   go_wp2
   go_meet
   case rel => exact ⟨_, (true), (by rfl), H', ⟨by omega⟩, ⟨HB.out⟩⟩
  ·rw [if_neg c3] at H
   have c3b0 := df_ c3
   clear c3
   (first | rw [c3b0] | (simp only [i64_w, i32_w]; rw [c3b0]) | skip)
   have H' := ak_ H
   clear H
   go_wp2
   go_meet
   case rel => exact ⟨_, (decide ((wrap64 ((l0.length : Int) - 2)) > 512)), (by rfl), H', ⟨by omega⟩, ⟨HB.out⟩⟩
 case rest =>
  clear HC2
  obtain ⟨kq, x16_1, rfl, HA, HJ1, HB⟩ := hcut
  cases kq with
  | zero => exact absurd HA.out (by simp [chunk_Decode.j0])
  | succ kj1 =>
   have H := HA.out
   clear HA
   simp only [chunk_Decode.j0] at H
   have HC4 := ak_ H
   clear H
   go_upto_if 16 with (fail)
   go_cut [] (fun wc => ∃ (kq : Nat), Aside0 (chunk_Decode.j1 kq l0 (wrap64 ((l0.length : Int) - 2)) = some (r1, r2, r3)) ∧ Aside0 (kq ≤ kj1) ∧ Aside0 (Below w.heap.size w wc))
   case first =>
    have H := HC4.out
    clear HC4
    by_cases c5 : x16_1 = true
    ·subst c5
     rw [if_pos rfl] at H
     simp only [Option.some.injEq, Prod.mk.injEq] at H
     obtain ⟨rfl, rfl, rfl⟩ := H
     go_wp2
     go_ret3
     exact ⟨_, by rfl, (Kd.R_nil _ _ _ _ _), HB.out⟩
    ·replace c5 := Bool.eq_false_iff.mpr c5
     subst c5
     rw [if_neg (show ¬ (false = true) by decide)] at H
     have H' := ak_ H
     clear H
     go_wp2
     go_meet
     case rel => exact ⟨_, H', ⟨by have := HJ1.out; omega⟩, ⟨HB.out⟩⟩
   case rest =>
    clear HC4
    obtain ⟨kq, HA, HJ3, HB⟩ := hcut
    cases kq with
    | zero => exact absurd HA.out (by simp [chunk_Decode.j1])
    | succ kj3 =>
     have H := HA.out
     clear HA
     simp only [chunk_Decode.j1] at H
     obtain ⟨ji6, hji6⟩ : ∃ j_ : Int, (wrap64 ((l0.length : Int) - 2)) = j_ := ⟨_, rfl⟩
     replace H : (if 0 ≤ (ji6) then (if (ji6) ≤ (l0.length : Int) then (if (ji6) < (l0.length : Int) then (if 0 ≤ (wrap64 ((ji6) + 1)) then (if (wrap64 ((ji6) + 1)) < (l0.length : Int) then ((hamming_Judge.f kj3 (l0.take ((ji6) : Int).toNat) (Go.bits .or .u16 (IntKind.u16.wrap (rd l0 (ji6))) (IntKind.u16.wrap ((IntKind.u16.wrap (rd l0 (wrap64 ((ji6) + 1)))) * 256)))).bind fun bt438 => (if bt438.2.2 = 0 then (chunk_Decode.j2 kj3 l0 (ji6) bt438.1 bt438.2.1) else (some (([] : List Int), 0, bt438.2.2)))) else (none)) else (none)) else (none)) else (none)) else (none)) = some (r1, r2, r3) := (by rw [hji6] at H; exact H)
     have hji6w : (IntKind.i64.wrap ((l0.length : Int) - 2)) = ji6 := (i64_w _).trans hji6
     by_cases c7 : 0 ≤ (ji6)
     ·rw [if_pos c7] at H
      have c7b0 := eq_true c7
      have c7b1 := dt_ c7
      clear c7
      by_cases c8 : (ji6) ≤ (l0.length : Int)
      ·rw [if_pos c8] at H
       have c8b0 := eq_true c8
       have c8b1 := dt_ c8
       clear c8
       by_cases c9 : (ji6) < (l0.length : Int)
       ·rw [if_pos c9] at H
        have c9b0 := dt_ c9
        clear c9
        obtain ⟨ji10, hji10⟩ : ∃ j_ : Int, (wrap64 ((ji6) + 1)) = j_ := ⟨_, rfl⟩
        replace H : (if 0 ≤ (ji10) then (if (ji10) < (l0.length : Int) then ((hamming_Judge.f kj3 (l0.take ((ji6) : Int).toNat) (Go.bits .or .u16 (IntKind.u16.wrap (rd l0 (ji6))) (IntKind.u16.wrap ((IntKind.u16.wrap (rd l0 (ji10))) * 256)))).bind fun bt438 => (if bt438.2.2 = 0 then (chunk_Decode.j2 kj3 l0 (ji6) bt438.1 bt438.2.1) else (some (([] : List Int), 0, bt438.2.2)))) else (none)) else (none)) = some (r1, r2, r3) := (by rw [hji10] at H; exact H)
        have hji10w : (IntKind.i64.wrap ((ji6) + 1)) = ji10 := (i64_w _).trans hji10
        by_cases c11 : 0 ≤ (ji10)
        ·rw [if_pos c11] at H
         have c11b0 := dt_ c11
         clear c11
         by_cases c12 : (ji10) < (l0.length : Int)
         ·rw [if_pos c12] at H
          have c12b0 := dt_ c12
          clear c12
          obtain ⟨⟨t438, t439, t440⟩, A13, H⟩ := bs_ H
          try dsimp only at H
          have HC14 := ak_ H
          clear H
          try go_wp2
          replace HB := ak_ (below_drew1 HB.out)
          obtain ⟨i016, hi016, _, hsz16, _⟩ := info_parts info5
          obtain ⟨hcut16, hA16, hC16⟩ := print_take_of (P := Try.prog) (Value.int .u8) 0 24 5 .i64 Try.underlying24 hi016 hsz16 A0 c0 l0 (ji6) (od_ ‹_›) (od_ ‹_›) HC0.out
          have HR435 := ak_ (Kd.C_of_reads (h1 := fun _ => rfl) (hA16 _ (Kd.reads_of_C HR0.out)))
          have HC435 := ak_ hC16
          clear hA16 hC16 hi016 hsz16
          have p436 : 0 ≤ ((ji6) : Int) := od_ ‹_›
          have q436 : (ji6) < (l0.length : Int) := od_ ‹_›
          obtain ⟨ad436, e436, hx436_0⟩ := Kd.at_int HR0.out (ji6) p436 q436
          have hw436_0 := hx436_0
          cases e436
          replace hx436_0 := (HB.out.cell (World.block_lt_of_cell? w _ hx436_0)).trans hx436_0
          replace p436 := eq_true p436
          replace q436 := eq_true q436
          have p437 : 0 ≤ ((ji10) : Int) := od_ ‹_›
          have q437 : (ji10) < (l0.length : Int) := od_ ‹_›
          obtain ⟨ad437, e437, hx437_0⟩ := Kd.at_int HR0.out (ji10) p437 q437
          have hw437_0 := hx437_0
          obtain rfl : ad436 = ad437 := (by injection e437)
          replace hx437_0 := (HB.out.cell (World.block_lt_of_cell? w _ hx437_0)).trans hx437_0
          replace p437 := eq_true p437
          replace q437 := eq_true q437
          refine start_ (n := 24) (S := fun w' => w'.cell? (ad436.add ((ji6)).toNat) = some (.int .u8 (rd l0 (ji6))) ∧ w'.cell? (ad436.add ((ji10)).toNat) = some (.int .u8 (rd l0 (ji10)))) (ds := []) #[false, false, false, false, false, false, false, false, false, false, false, false, false, false, false, false, false, false, false, false, false, false, false, false] (by kernel_rfl) rfl rfl ⟨((HB.out.cell (World.block_lt_of_cell? w _ hw436_0)).trans hw436_0), ((HB.out.cell (World.block_lt_of_cell? w _ hw437_0)).trans hw437_0)⟩ (fun hHeld => ?_); refine with_tabW chunk_Decode.tab4 chunk_Decode.bits4 (fun HT_ HW_ => ?_)
          generalize wc.drew = w15 at HB HR435 hx436_0 hx437_0 hHeld ⊢
          refine pu 0 (some 18) #[true, false, false, false, false, false, false, false, false, false, false, false, false, false, false, false, false, false, false, false, false, false, false, false] HT_.out rfl rfl ?_
          refine pu 1 (some 19) #[true, true, false, false, false, false, false, false, false, false, false, false, false, false, false, false, false, false, false, false, false, false, false, false] HT_.out rfl rfl ?_
          refine pu 2 (some 20) #[true, true, true, false, false, false, false, false, false, false, false, false, false, false, false, false, false, false, false, false, false, false, false, false] HT_.out rfl rfl ?_
          refine pu 3 (some 21) #[true, true, true, true, false, false, false, false, false, false, false, false, false, false, false, false, false, false, false, false, false, false, false, false] HT_.out rfl rfl ?_
          refine pu 4 (some 22) #[true, true, true, true, true, false, false, false, false, false, false, false, false, false, false, false, false, false, false, false, false, false, false, false] HT_.out rfl rfl ?_
          refine pu 5 (some 23) #[true, true, true, true, true, true, false, false, false, false, false, false, false, false, false, false, false, false, false, false, false, false, false, false] HT_.out rfl rfl ?_
          refine pu 8 (some 26) #[true, true, true, true, true, true, false, false, true, false, false, false, false, false, false, false, false, false, false, false, false, false, false, false] HT_.out rfl rfl ?_
          refine pu 9 (some 27) #[true, true, true, true, true, true, false, false, true, true, false, false, false, false, false, false, false, false, false, false, false, false, false, false] HT_.out rfl rfl ?_
          refine pu 10 (some 28) #[true, true, true, true, true, true, false, false, true, true, true, false, false, false, false, false, false, false, false, false, false, false, false, false] HT_.out rfl rfl ?_
          refine pu 11 (some 29) #[true, true, true, true, true, true, false, false, true, true, true, true, false, false, false, false, false, false, false, false, false, false, false, false] HT_.out rfl rfl ?_
          refine take_ (i := 6) (N := some 24) (v := ?_) (a' := ?_) #[true, true, true, true, true, true, true, false, true, true, true, true, false, false, false, false, false, false, false, false, false, false, false, false] rfl rfl (take_ofW HT_.out HW_.out (by kernel_rfl)) (fun _ _ _ h => h) (Or.inl ⟨by rfl, ?_⟩) hHeld ?_ ?_
          rotate_left
          ·rintro w' ⟨s0, s1⟩
           go_simp
           with_reducible rfl
          rotate_left
          ·simp only [Act.put, sb_, sz_, su_, i64_w, i32_w]
           rfl
          refine pu 7 (some 25) #[true, true, true, true, true, true, true, true, true, true, true, true, false, false, false, false, false, false, false, false, false, false, false, false] HT_.out rfl rfl ?_
          refine take_ (i := 12) (N := some 30) (v := ?_) (a' := ?_) #[true, true, true, true, true, true, true, true, true, true, true, true, true, false, false, false, false, false, false, false, false, false, false, false] rfl rfl (take_ofW HT_.out HW_.out (by kernel_rfl)) (fun _ _ _ h => h) (Or.inl ⟨by rfl, ?_⟩) hHeld ?_ ?_
          rotate_left
          ·rintro w' ⟨s0, s1⟩
           go_simp
           with_reducible rfl
          rotate_left
          ·simp only [Act.put, sb_, sz_, su_, i64_w, i32_w]
           rfl
          refine pu 13 (some 31) #[true, true, true, true, true, true, true, true, true, true, true, true, true, true, false, false, false, false, false, false, false, false, false, false] HT_.out rfl rfl ?_
          refine pu 14 (some 32) #[true, true, true, true, true, true, true, true, true, true, true, true, true, true, true, false, false, false, false, false, false, false, false, false] HT_.out rfl rfl ?_
          refine pu 15 (some 33) #[true, true, true, true, true, true, true, true, true, true, true, true, true, true, true, true, false, false, false, false, false, false, false, false] HT_.out rfl rfl ?_
          refine one_ (i := 16) (N := some 34) #[true, true, true, true, true, true, true, true, true, true, true, true, true, true, true, true, true, false, false, false, false, false, false, false] rfl rfl (one_of HT_.out (by kernel_rfl)) (by decide) (fun K hK => ?_)
          refine goes_ Try.func79 (by kernel_rfl) rfl #[.slice (some ad436) (l0.take ((ji6) : Int).toNat).length c0, .int .u16 (Go.bits .or .u16 (IntKind.u16.wrap (rd l0 (ji6))) (IntKind.u16.wrap ((IntKind.u16.wrap (rd l0 (ji10))) * 256)))] (by rfl) rfl rfl (by (try simp only [List.map_toArray, List.map_cons, List.map_nil]); first | done | (rw [show (l0.take ((ji6) : Int).toNat).length = (ji6).toNat from (by rw [List.length_take]; have h_ : ((ji6) : Int) ≤ (l0.length : Int) := od_ ‹_›; omega)] <;> rfl) | (simp only [hji10, hji6]; rfl) | rfl | (simp only [List.length_drop, List.length_take]; rfl)) ?_
          with_reducible refine (hamming_Judge.calls kj3 _ _ (l0.take ((ji6) : Int).toNat) (Go.bits .or .u16 (IntKind.u16.wrap (rd l0 (ji6))) (IntKind.u16.wrap ((IntKind.u16.wrap (rd l0 (ji10))) * 256))) t438 t439 t440 _ ?side1 ?side2 A13.out).mono ?_
          (case side1 => exact (Kd.C_below HR435.out HB.out))
          (case side2 => exact HC435.out)
          rintro e w17 ⟨rfl, hb⟩
          refine ⟨_, rfl, ?_⟩
          replace HB := ak_ (below_step HB.out hb)
          (try clear hb)
          (try clear hb2)
          (try clear hk)
          (try clear hi)
          refine hK.out _ _ ⟨((HB.out.cell (World.block_lt_of_cell? w _ hw436_0)).trans hw436_0), ((HB.out.cell (World.block_lt_of_cell? w _ hw437_0)).trans hw437_0)⟩ (fun hHeld => ?_)
          clear hK K
          refine norm_ (a' := ?_) ?_ ?_
          rotate_left
          ·show Act.put _ (some 34) _ = _
           simp only [Act.put, sb_, sz_, su_, i64_w, i32_w]
           rfl
          refine pu 17 (some 17) #[true, true, true, true, true, true, true, true, true, true, true, true, true, true, true, true, true, true, false, false, false, false, false, false] HT_.out rfl rfl ?_
          refine pu 18 (some 35) #[true, true, true, true, true, true, true, true, true, true, true, true, true, true, true, true, true, true, true, false, false, false, false, false] HT_.out rfl rfl ?_
          refine pu 19 (some 36) #[true, true, true, true, true, true, true, true, true, true, true, true, true, true, true, true, true, true, true, true, false, false, false, false] HT_.out rfl rfl ?_
          refine pu 20 (some 37) #[true, true, true, true, true, true, true, true, true, true, true, true, true, true, true, true, true, true, true, true, true, false, false, false] HT_.out rfl rfl ?_
          refine pu 21 (some 6) #[true, true, true, true, true, true, true, true, true, true, true, true, true, true, true, true, true, true, true, true, true, true, false, false] HT_.out rfl rfl ?_
          refine pu 22 (some 7) #[true, true, true, true, true, true, true, true, true, true, true, true, true, true, true, true, true, true, true, true, true, true, true, false] HT_.out rfl rfl ?_
          refine pu 23 (some 4) #[true, true, true, true, true, true, true, true, true, true, true, true, true, true, true, true, true, true, true, true, true, true, true, true] HT_.out rfl rfl ?_
          refine done_ (done_of HT_.out (by kernel_rfl)) ?_
          go_upto_if 39 with (fail)
          (try simp only [hji6, hji10])
          go_cut [] (fun wc => ∃ (kq : Nat), Aside0 (chunk_Decode.j2 kq l0 (ji6) t438 t439 = some (r1, r2, r3)) ∧ Aside0 (kq ≤ kj3) ∧ Aside0 (Below w.heap.size w wc))
          case first =>
           have H := HC14.out
           clear HC14
           by_cases c18 : t440 = 0
           ·rw [if_pos c18] at H
            have c18b0 := beq_iff_eq.mpr c18
            have c18b1 := bne_eq_false_iff_eq.mpr c18
            clear c18
            (first | rw [c18b0] | (simp only [i64_w, i32_w]; rw [c18b0]) | skip)
            have H' := ak_ H
            clear H
            go_wp2
            go_meet
            case rel => exact ⟨_, H', ⟨by have := HJ1.out; have := HJ3.out; omega⟩, ⟨HB.out⟩⟩
           ·rw [if_neg c18] at H
            have c18b0 := beq_eq_false_iff_ne.mpr c18
            have c18b1 := bne_iff_ne.mpr c18
            (first | rw [c18b0] | (simp only [i64_w, i32_w]; rw [c18b0]) | skip)
            simp only [Option.some.injEq, Prod.mk.injEq] at H
            obtain ⟨rfl, rfl, rfl⟩ := H
            go_wp2
            go_ret3
            exact ⟨_, by rfl, (Kd.R_nil _ _ _ _ _), HB.out⟩
          case rest =>
           clear HC14 c7b0 c7b1 c8b0 c8b1 c9b0 c11b0 c12b0 hx436_0 hx437_0 p436 p437 q436 q437
           obtain ⟨kq, HA, HJ13, HB⟩ := hcut
           cases kq with
           | zero => exact absurd HA.out (by simp [chunk_Decode.j2])
           | succ kj13 =>
            have H := HA.out
            clear HA
            simp only [chunk_Decode.j2] at H
            by_cases c19 : t438 = 0
            ·rw [if_pos c19] at H
             have c19b0 := beq_iff_eq.mpr c19
             have c19b1 := bne_eq_false_iff_eq.mpr c19
             clear c19
             by_cases c20 : 0 ≤ (ji6)
             ·rw [if_pos c20] at H
              have c20b0 := eq_true c20
              have c20b1 := dt_ c20
              clear c20
              by_cases c21 : (ji6) ≤ (l0.length : Int)
              ·rw [if_pos c21] at H
               have c21b0 := eq_true c21
               have c21b1 := dt_ c21
               clear c21
               obtain ⟨t442, A22, H⟩ := bs_ H
               simp only [Option.some.injEq, Prod.mk.injEq] at H
               obtain ⟨rfl, rfl, rfl⟩ := H
               obtain ⟨i023, hi023, _, hsz23, _⟩ := info_parts info5
               obtain ⟨hcut23, hA23, hC23⟩ := print_take_of (P := Try.prog) (Value.int .u8) 0 24 5 .i64 Try.underlying24 hi023 hsz23 (some ad436) c0 l0 (ji6) (od_ ‹_›) (od_ ‹_›) HC0.out
               have HR441 := ak_ (Kd.C_of_reads (h1 := fun _ => rfl) (hA23 _ (Kd.reads_of_C HR0.out)))
               have HC441 := ak_ hC23
               clear hA23 hC23 hi023 hsz23
               go_wp2_with (first | ((with_reducible refine gate_callee (f := 34) rfl ?_); refine goesL_ (some 47) rfl rfl Try.func34 (by kernel_rfl) rfl #[.slice (some ad436) (l0.take ((ji6) : Int).toNat).length c0, .slice none 0 0] rfl (by (try simp only [List.map_toArray, List.map_cons, List.map_nil]); first | done | (rw [show (l0.take ((ji6) : Int).toNat).length = (ji6).toNat from (by rw [List.length_take]; have h_ : ((ji6) : Int) ≤ (l0.length : Int) := od_ ‹_›; omega)] <;> rfl) | (simp only [hji6]; rfl) | rfl | (simp only [List.length_drop, List.length_take]; rfl)) ?_; (refine (bits_Flip.calls kj13 _ _ (l0.take ((ji6) : Int).toNat) _ _ ([] : List Int) t442 _ ?side1 ?side2 ?side3 ?side4 A22.out).mono ?_); (case side1 => exact (Kd.C_below HR441.out HB.out)); (case side2 => exact HC441.out); (case side3 => exact Kd.C_nil _ _); (case side4 => exact Nat.le_refl _); rintro e w24 ⟨v443, rfl, ho0, hb⟩; refine ⟨_, rfl, ?_⟩; have HO444 := ak_ (Kd.R_lower ho0 (below_size HB.out)); replace HB := ak_ (below_step HB.out hb); (try clear hb); (try clear hb2); (try clear hk); (try clear hi); (try clear ho0)))
               go_ret3
               exact ⟨_, by rfl, by (with_reducible repeat (first | apply Kd.R_alloc | apply Kd.R_drewN | apply Kd.R_drew)); exact HO444.out, HB.out⟩
              ·rw [if_neg c21] at H
               exact absurd H (by simp)
             ·rw [if_neg c20] at H
              exact absurd H (by simp)
            ·rw [if_neg c19] at H
             have c19b0 := beq_eq_false_iff_ne.mpr c19
             have c19b1 := bne_iff_ne.mpr c19
             by_cases c25 : t438 = 1
             ·rw [if_pos c25] at H
              have c25b0 := beq_iff_eq.mpr c25
              have c25b1 := bne_eq_false_iff_eq.mpr c25
              clear c25
              by_cases c26 : 0 ≤ (ji6)
              ·rw [if_pos c26] at H
               have c26b0 := eq_true c26
               have c26b1 := dt_ c26
               clear c26
               by_cases c27 : (ji6) ≤ (l0.length : Int)
               ·rw [if_pos c27] at H
                have c27b0 := eq_true c27
                have c27b1 := dt_ c27
                clear c27
                obtain ⟨y446, hy446⟩ : ∃ y_ : List Int, y_ = (([t439] : List Int)) := ⟨_, rfl⟩
                replace H : ((bits_Flip.f kj13 (l0.take ((ji6) : Int).toNat) y446).bind fun t449 => (some (t449, 1, 0))) = some (r1, r2, r3) := (by rw [hy446]; with_reducible exact H)
                have Ny446 := ak_ hy446
                clear hy446
                obtain ⟨t449, A28, H⟩ := bs_ H
                simp only [Option.some.injEq, Prod.mk.injEq] at H
                obtain ⟨rfl, rfl, rfl⟩ := H
                obtain ⟨i029, hi029, _, hsz29, _⟩ := info_parts info5
                obtain ⟨hcut29, hA29, hC29⟩ := print_take_of (P := Try.prog) (Value.int .u8) 0 24 5 .i64 Try.underlying24 hi029 hsz29 (some ad436) c0 l0 (ji6) (od_ ‹_›) (od_ ‹_›) HC0.out
                have HR445 := ak_ (Kd.C_of_reads (h1 := fun _ => rfl) (hA29 _ (Kd.reads_of_C HR0.out)))
                have HC445 := ak_ hC29
                clear hA29 hC29 hi029 hsz29
                go_wp2_with (first | ((with_reducible refine gate_dst (N := 54) rfl ?_); refine Kd.R_lit (Kd.int .i64) _ 3 ?hg (N := 54) ?hd (xs := ([t439] : List Int)) (inner := [.int .i64 t439]) (ok := fun _ => True) (okp := fun _ => True) ?hr ?hp (fun _ hk => hk) trivial (Below.refl _ _) (Nat.le_refl _) (by simp) ?_; (case hd => rfl); (case hg => rfl); (case hr => (go_simp; done)); (case hp => exact (Reps.one (show Kd.M (Kd.int .i64) _ _ _ t439 [.int .i64 t439] from rfl) (Reps.none _ _))); intro v447 w30 ho31 hb hg_ hnew_; clear hg_ hnew_; (rw [← Ny446.out] at ho31); have HO448 := ak_ (Kd.R_lower ho31 (below_size HB.out)); replace HB := ak_ (below_step HB.out hb); clear hb ho31; obtain ⟨Ao32, co32, eo32⟩ := Kd.R_slice HO448.out; subst eo32) | ((with_reducible refine gate_callee (f := 34) rfl ?_); refine goesL_ (some 55) rfl rfl Try.func34 (by kernel_rfl) rfl #[.slice (some ad436) (l0.take ((ji6) : Int).toNat).length c0, .slice Ao32 y446.length co32] rfl (by (try simp only [List.map_toArray, List.map_cons, List.map_nil]); first | done | (rw [show (l0.take ((ji6) : Int).toNat).length = (ji6).toNat from (by rw [List.length_take]; have h_ : ((ji6) : Int) ≤ (l0.length : Int) := od_ ‹_›; omega)] <;> rfl) | (simp only [hji6]; rfl) | rfl | (simp only [List.length_drop, List.length_take]; rfl)) ?_; (with_reducible refine (bits_Flip.calls kj13 _ _ (l0.take ((ji6) : Int).toNat) _ _ y446 t449 _ ?side1 ?side2 ?side3 ?side4 A28.out).mono ?_); (case side1 => exact (Kd.C_below HR445.out HB.out)); (case side2 => exact HC445.out); (case side3 => exact (Kd.R_reads' HO448.out).2.2); (case side4 => exact (Kd.R_reads' HO448.out).2.1); rintro e w33 ⟨v450, rfl, ho0, hb⟩; refine ⟨_, rfl, ?_⟩; replace HO448 := ak_ (Kd.R_below HO448.out hb); have HO451 := ak_ (Kd.R_lower ho0 (below_size HB.out)); replace HB := ak_ (below_step HB.out hb); (try clear hb); (try clear hb2); (try clear hk); (try clear hi); (try clear ho0)))
                go_ret3
                exact ⟨_, by rfl, by (with_reducible repeat (first | apply Kd.R_alloc | apply Kd.R_drewN | apply Kd.R_drew)); exact HO451.out, HB.out⟩
               ·rw [if_neg c27] at H
                exact absurd H (by simp)
              ·rw [if_neg c26] at H
               exact absurd H (by simp)
             ·rw [if_neg c25] at H
              have c25b0 := beq_eq_false_iff_ne.mpr c25
              have c25b1 := bne_iff_ne.mpr c25
              by_cases c34 : t438 = 2
              ·rw [if_pos c34] at H
               have c34b0 := beq_iff_eq.mpr c34
               have c34b1 := bne_eq_false_iff_eq.mpr c34
               clear c34
               by_cases c35 : 0 ≤ (ji6)
               ·rw [if_pos c35] at H
                have c35b0 := eq_true c35
                have c35b1 := dt_ c35
                clear c35
                by_cases c36 : (ji6) ≤ (l0.length : Int)
                ·rw [if_pos c36] at H
                 have c36b0 := eq_true c36
                 have c36b1 := dt_ c36
                 clear c36
                 obtain ⟨t453, A37, H⟩ := bs_ H
                 simp only [Option.some.injEq, Prod.mk.injEq] at H
                 obtain ⟨rfl, rfl, rfl⟩ := H
                 obtain ⟨i038, hi038, _, hsz38, _⟩ := info_parts info5
                 obtain ⟨hcut38, hA38, hC38⟩ := print_take_of (P := Try.prog) (Value.int .u8) 0 24 5 .i64 Try.underlying24 hi038 hsz38 (some ad436) c0 l0 (ji6) (od_ ‹_›) (od_ ‹_›) HC0.out
                 have HR452 := ak_ (Kd.C_of_reads (h1 := fun _ => rfl) (hA38 _ (Kd.reads_of_C HR0.out)))
                 have HC452 := ak_ hC38
                 clear hA38 hC38 hi038 hsz38
                 go_wp2_with (first | ((with_reducible refine gate_callee (f := 34) rfl ?_); refine goesL_ (some 61) rfl rfl Try.func34 (by kernel_rfl) rfl #[.slice (some ad436) (l0.take ((ji6) : Int).toNat).length c0, .slice none 0 0] rfl (by (try simp only [List.map_toArray, List.map_cons, List.map_nil]); first | done | (rw [show (l0.take ((ji6) : Int).toNat).length = (ji6).toNat from (by rw [List.length_take]; have h_ : ((ji6) : Int) ≤ (l0.length : Int) := od_ ‹_›; omega)] <;> rfl) | (simp only [hji6]; rfl) | rfl | (simp only [List.length_drop, List.length_take]; rfl)) ?_; (refine (bits_Flip.calls kj13 _ _ (l0.take ((ji6) : Int).toNat) _ _ ([] : List Int) t453 _ ?side1 ?side2 ?side3 ?side4 A37.out).mono ?_); (case side1 => exact (Kd.C_below HR452.out HB.out)); (case side2 => exact HC452.out); (case side3 => exact Kd.C_nil _ _); (case side4 => exact Nat.le_refl _); rintro e w39 ⟨v454, rfl, ho0, hb⟩; refine ⟨_, rfl, ?_⟩; have HO455 := ak_ (Kd.R_lower ho0 (below_size HB.out)); replace HB := ak_ (below_step HB.out hb); (try clear hb); (try clear hb2); (try clear hk); (try clear hi); (try clear ho0)))
                 go_ret3
                 exact ⟨_, by rfl, by (with_reducible repeat (first | apply Kd.R_alloc | apply Kd.R_drewN | apply Kd.R_drew)); exact HO455.out, HB.out⟩
                ·rw [if_neg c36] at H
                 exact absurd H (by simp)
               ·rw [if_neg c35] at H
                exact absurd H (by simp)
              ·rw [if_neg c34] at H
               have c34b0 := beq_eq_false_iff_ne.mpr c34
               have c34b1 := bne_iff_ne.mpr c34
               simp only [Option.some.injEq, Prod.mk.injEq] at H
               obtain ⟨rfl, rfl, rfl⟩ := H
               go_wp2
               go_ret3
               exact ⟨_, by rfl, (Kd.R_nil _ _ _ _ _), HB.out⟩
         ·rw [if_neg c12] at H
          exact absurd H (by simp)
        ·rw [if_neg c11] at H
         exact absurd H (by simp)
       ·rw [if_neg c9] at H
        exact absurd H (by simp)
      ·rw [if_neg c8] at H
       exact absurd H (by simp)
     ·rw [if_neg c7] at H
      exact absurd H (by simp)
end Go.Proofs.Ytmehbabchakkpaa.QPageBack
namespace Go.Proofs.Ytmehbabchakkpaa.QPageBack
open Go.RowKit YtmehbabchakkpaaW.PrintWords YtmehbabchakkpaaW.PrintLast YtmehbabchakkpaaW.PrintMore Short
attribute [local go_sem] max2_int min2_int max_two min_two max_three min_three max_four min_four
set_option linter.unusedVariables false
set_option maxHeartbeats 8000000
set_option maxRecDepth 100000
set_option linter.unusedSimpArgs false
def chunk_All.l0 : Nat → List Int → Int → List Int → Int → Option (List Int × Int × Int)
 | 0, _, _, _, _ => none
 | k + 1, raw, size, out, fixed => if raw.length = 0 then some (out, fixed, 0) else (chunk_Decode.f k (raw.take (size + 2).toNat)).bind fun t => if t.2.2 = 0 then (if 0 < t.1.length then (if out.length + t.1.length ≤ 140737488355328 then chunk_All.l0 k (raw.drop (size + 2).toNat) size (out ++ t.1) (wrap64 (fixed + t.2.1)) else none) else none) else some ([], 0, t.2.2)
def chunk_All.f (k : Nat) (l0 : List Int) (a1 : Int) : Option (List Int × Int × Int) := (chunk_may.f l0 a1).bind fun m => if m = true then (if 1 ≤ a1 ∧ a1 ≤ 512 ∧ l0.length % (a1 + 2).toNat = 0 then chunk_All.l0 k l0 a1 [] 0 else none) else some ([], 0, 2)
theorem chunk_All.mono_l : ∀ k, ∀ y0 y1 y2 y3, LeO (chunk_All.l0 k y0 y1 y2 y3) (chunk_All.l0 (k + 1) y0 y1 y2 y3)
 | 0 => fun _ _ _ _ r h => by simp [chunk_All.l0] at h
 | k + 1 => by
  have ih := chunk_All.mono_l k
  intro y0 y1 y2 y3
  unfold chunk_All.l0
  repeat' first
  | (with_reducible exact ih _ _ _ _)
  | (with_reducible exact chunk_Decode.mono _ _)
  | (with_reducible exact LeO.refl _)
  | (with_reducible refine LeO.ite ?_ ?_)
  | (with_reducible refine LeO.bind ?_ (fun _ => ?_))
theorem chunk_All.mono : ∀ a0 a1 k, LeO (chunk_All.f k a0 a1) (chunk_All.f (k + 1) a0 a1) := by
 intro a0 a1 k
 unfold chunk_All.f
 repeat' with_reducible first
 | exact chunk_All.mono_l _ _ _ _ _
 | exact LeO.refl _
 | refine LeO.ite ?_ ?_
 | refine LeO.bind ?_ (fun _ => ?_)
theorem chunk_All_res (w w' : World) (v0 v1 v2 : Value) (tmps : Array Value) (h0 : w'.cell? ⟨w.heap.size, 0, none⟩ = some v0) (h1 : w'.cell? ⟨w.heap.size + 1, 0, none⟩ = some v1) (h2 : w'.cell? ⟨w.heap.size + 1 + 1, 0, none⟩ = some v2) (t0 : tmps[4]? = some (.pointer (some ⟨w.heap.size, 0, none⟩))) (t1 : tmps[5]? = some (.pointer (some ⟨w.heap.size + 1, 0, none⟩))) (t2 : tmps[6]? = some (.pointer (some ⟨w.heap.size + 1 + 1, 0, none⟩))) :
  (results Try.f58 tmps).run Try.prog w' = .ok (.tuple #[v0, v1, v2]) w' := by
 simp [results, Try.results58, go_sem, h0, h1, h2, t0, t1, t2]
theorem chunk_All_new3 (w : World) (o0 o1 o2 : Obj) : (((w.alloc o0).alloc o1).alloc o2).heap[w.heap.size]? = some o0 ∧ (((w.alloc o0).alloc o1).alloc o2).heap[w.heap.size + 1]? = some o1 ∧ (((w.alloc o0).alloc o1).alloc o2).heap[w.heap.size + 1 + 1]? = some o2 ∧ Below w.heap.size w (((w.alloc o0).alloc o1).alloc o2) ∧ (((w.alloc o0).alloc o1).alloc o2).heap.size = w.heap.size + 3 := by
 have h1 := blk_new (w.alloc o0) o1
 have h2 := blk_new ((w.alloc o0).alloc o1) o2
 simp only [World.size_alloc] at h1 h2
 exact ⟨blk_alloc (blk_alloc (blk_new w o0) _) _, blk_alloc h1 _, h2, below_alloc (below_alloc (below_alloc (Below.refl _ _) _) _) _, by simp only [World.size_alloc]⟩
def chunk_All_I (w : World) (B m : Nat) (r1 : List Int) (r2 r3 : Int) (L' : List Int) (W : World) : Prop := ∃ (out : List Int) (fx : Int) (v x : Value) (kk : Nat),
 W.heap[w.heap.size]? = some (.cells #[v] 24 (0, 0)) ∧ W.heap[w.heap.size + 1]? = some (.cells #[.int .i64 fx] 3 (0, 0)) ∧ W.heap[w.heap.size + 1 + 1]? = some (.cells #[x] 29 (0, 0)) ∧
 W.ownsRow (B + 2) 5 1 v out.length (nums .u8 out) ∧ Below w.heap.size w W ∧ chunk_All.l0 kk L' ((m : Int) - 2) out fx = some (r1, r2, r3)
def chunk_All_X (w : World) (r1 : List Int) (r2 r3 : Int) (W : World) : Prop :=
 W.heap[w.heap.size]? = some (.cells #[.slice none 0 0] 24 (0, 0)) ∧ W.heap[w.heap.size + 1]? = some (.cells #[.int .i64 0] 3 (0, 0)) ∧ W.heap[w.heap.size + 1 + 1]? = some (.cells #[.int .i64 r3] 29 (0, 0)) ∧ r1 = [] ∧ r2 = 0 ∧ Below w.heap.size w W
theorem chunk_All_blk {W W' : World} {row : Option Nat} {B2 g : Nat} {o : Obj} (h : W.heap[g]? = some o) (hg : W.grownBy W' row) (hr : ∀ r, row = some r → B2 ≤ r ∧ ∃ o : Obj, W.heap[r]? = some o ∧ o.isCells = false) (hlt : g < B2) : W'.heap[g]? = some o :=
 blk_grown h hg (fun e => by have := (hr g e.symm).1; omega)
theorem chunk_All_I_cells {w : World} {B m : Nat} {r1 : List Int} {r2 r3 : Int} (hB : w.heap.size + 3 ≤ B) (s : List Int) : Pieces.Cells (B + 2) (chunk_All_I w B m r1 r2 r3 s) := by
 rintro W W' row ⟨out, fx, v, x, kk, h0, h1, h2, ho, hb, hf⟩ hg hr
 refine ⟨out, fx, v, x, kk, chunk_All_blk h0 hg hr (by omega), chunk_All_blk h1 hg hr (by omega), chunk_All_blk h2 hg hr (by omega), ho.kept hg ?_, hb.grown hg hb.size (fun k e => by have := (hr k e).1; omega), hf⟩
 cases hv : v.ownBlock with
 | none => exact .inl rfl
 | some k =>
  refine .inr (fun e => ?_)
  obtain ⟨_, o, h3, h4⟩ := hr k e.symm
  obtain ⟨cells, h5⟩ := own_typed ho k hv
  rw [h5] at h3
  cases h3
  cases h4
theorem chunk_All_X_cells {w : World} {B : Nat} {r1 : List Int} {r2 r3 : Int} (hB : w.heap.size + 3 ≤ B) : Pieces.Cells (B + 2) (chunk_All_X w r1 r2 r3) := by
 rintro W W' row ⟨h0, h1, h2, h3, h4, hb⟩ hg hr
 exact ⟨chunk_All_blk h0 hg hr (by omega), chunk_All_blk h1 hg hr (by omega), chunk_All_blk h2 hg hr (by omega), h3, h4, hb.grown hg hb.size (fun k e => by have := (hr k e).1; omega)⟩
theorem chunk_All_ne {W : World} {base e n k : Nat} {v : Value} {xs : List Value} (ho : W.ownsRow base e 1 v n xs) (hk : k < base) : v.ownBlock = none ∨ v.ownBlock ≠ some k := by
 cases hv : v.ownBlock with
 | none => exact .inl rfl
 | some j =>
  refine .inr (fun h => ?_)
  cases h
  have := own_base ho k hv
  omega
theorem chunk_All_neq {W : World} {base e n k : Nat} {v : Value} {xs : List Value} (ho : W.ownsRow base e 1 v n xs) (hk : k < base) : some k ≠ v.ownBlock := fun e => by
 have := own_base ho k e.symm
 omega
theorem chunk_All_I_set {w : World} {B m : Nat} {r1 : List Int} {r2 r3 : Int} (hB : w.heap.size + 3 ≤ B) (s : List Int) (W : World) (u : Value) (h : chunk_All_I w B m r1 r2 r3 s W) : chunk_All_I w B m r1 r2 r3 s (W.setCell ⟨B, 0, none⟩ u) := by
 obtain ⟨out, fx, v, x, kk, h0, h1, h2, ho, hb, hf⟩ := h
 exact ⟨out, fx, v, x, kk, blk_far h0 (by show w.heap.size ≠ B; omega) u, blk_far h1 (by show w.heap.size + 1 ≠ B; omega) u, blk_far h2 (by show w.heap.size + 1 + 1 ≠ B; omega) u, ho.kept (grownBy_setCell' W B u) (chunk_All_ne ho (by omega)), below_set hb (by omega), hf⟩
theorem chunk_All_keeps {W W' : World} (h : Below W.heap.size W W') : KeepsOthers W W' := ⟨h.size, fun k o hk _ => (h.block k (Array.getElem?_eq_some_iff.1 hk).1).trans hk⟩
theorem chunk_All_keeps_row {W W' : World} {base e n : Nat} {v : Value} {xs : List Value} (ho : W.ownsRow base e 1 v n xs) (h : W.grownBy W' v.ownBlock) : KeepsOthers W W' :=
 KeepsOthers.of_grownBy h (fun j o hj hjo => by
  obtain ⟨cells, h5⟩ := own_typed ho j hj
  rw [h5] at hjo
  cases hjo
  rfl)
theorem chunk_All_step {kk m : Nat} (hm : 3 ≤ m) {L' out : List Int} {fx : Int} {r : List Int × Int × Int} (hne : L' ≠ []) (h : chunk_All.l0 kk L' ((m : Int) - 2) out fx = some r) :
  ∃ (k' : Nat) (d1 : List Int) (d2 d3 : Int), chunk_Decode.f k' (L'.take m) = some (d1, d2, d3) ∧ ((d3 = 0 ∧ 0 < d1.length ∧ out.length + d1.length ≤ 140737488355328 ∧ chunk_All.l0 k' (L'.drop m) ((m : Int) - 2) (out ++ d1) (wrap64 (fx + d2)) = some r) ∨ (d3 ≠ 0 ∧ r = ([], 0, d3))) := by
 cases kk with
 | zero => simp [chunk_All.l0] at h
 | succ k' =>
  unfold chunk_All.l0 at h
  rw [if_neg (by intro e; exact hne (List.eq_nil_of_length_eq_zero e)), show ((m : Int) - 2 + 2).toNat = m by omega] at h
  obtain ⟨⟨d1, d2, d3⟩, h1, h⟩ := Option.bind_eq_some_iff.1 h
  refine ⟨k', d1, d2, d3, h1, ?_⟩
  by_cases hd : d3 = 0
  ·rw [if_pos hd] at h
   split at h
   ·split at h
    ·exact .inl ⟨hd, by assumption, by assumption, h⟩
    ·cases h
   ·cases h
  ·rw [if_neg hd] at h
   exact .inr ⟨hd, (si_ h).symm⟩
theorem chunk_All_cells {W : World} {ad : Addr} {d1 : List Int} (h : Kd.C (Kd.int .u8) W (some ad) d1.length d1) : ∀ (j : Nat) (u : Value), (nums .u8 d1)[j]? = some u → W.cell? (ad.add j) = some u := by
 intro j u hu
 have hj : j < d1.length := by
  rcases Nat.lt_or_ge j d1.length with h1 | h1
  ·exact h1
  ·rw [List.getElem?_eq_none (by rw [nums_length]; exact h1)] at hu
   cases hu
 obtain ⟨ad', e, hc⟩ := Kd.at_int h (j : Int) (by omega) (by omega)
 cases e
 rw [Int.toNat_natCast] at hc
 rw [hc, ← hu]
 simp [nums, rd, hj]
section
attribute [local go_sem] Oper.semAt_some
set_option maxHeartbeats 2000000 in
set_option maxRecDepth 100000 in
theorem chunk_All.calls (k : Nat) (A0 : Option Addr) (c0 : Nat) (l0 : List Int) (a1 : Int) (r1 : List Int) (r2 : Int) (r3 : Int) (w : World) (hr0 : Kd.C (Kd.int .u8) w A0 l0.length l0) (hc0 : l0.length ≤ c0) (h : chunk_All.f k l0 a1 = some (r1, r2, r3)) :
  Calls Try.prog 58 #[.slice A0 l0.length c0, .int .i64 a1] w fun e w' => ∃ v0_ : Value, e = .returned (.tuple #[v0_, .int .i64 r2, .int .i64 r3]) ∧ Kd.R (Kd.int .u8) 5 w' w.heap.size (fun _ => True) v0_ r1 ∧ Below w.heap.size w w' := by
 have HR0 := ak_ hr0
 have HL0 := ak_ hc0
 clear hr0 hc0
 unfold chunk_All.f at h
 obtain ⟨mb, hmay, h⟩ := Option.bind_eq_some_iff.1 h
 have HMAY := ak_ hmay
 clear hmay
 refine (callsIn_wide (n := 9)).1 ?_
 refine callsIn_of_wp_marks Try.func58 rfl trivial ?_ rfl
 simp only [Try.ntmps58, List.size_toArray, List.length_cons, List.length_nil, Nat.reduceAdd, Nat.reduceSub, Array.replicate_succ, Array.replicate_zero, List.push_toArray, List.append_toArray, List.nil_append, List.cons_append]
 cases mb with
 | false =>
  gi_wp2_with (refine ⟨trivial, ?_⟩; gi_at_call 77; refine (callsIn_wide.2 (chunk_may.calls _ _ l0 a1 false _ (by (with_reducible repeat (first | apply Kd.C_alloc | apply Kd.C_drewN | apply Kd.C_drew)); exact HR0.out) HL0.out HMAY.out)).mono ?_; rintro e w' ⟨rfl, ⟨nd, rfl⟩⟩; obtain ⟨k0, k1, k2, kb, ks⟩ := chunk_All_new3 w (.cells #[.slice none 0 0] 24) (.cells #[.int .i64 0] 3) (.cells #[.int .i64 0] 29); have K0 := ak_ (blk_drewN k0 nd); have K1 := ak_ (blk_drewN k1 nd); have K2 := ak_ (blk_drewN k2 nd); have HB := ak_ (pw_below_drewN kb nd); have KS : Aside0 (((((w.alloc (.cells #[.slice none 0 0] 24)).alloc (.cells #[.int .i64 0] 3)).alloc (.cells #[.int .i64 0] 29)).drewN nd).heap.size = w.heap.size + 3) := ⟨ks⟩; clear k0 k1 k2 kb ks; generalize (((w.alloc (.cells #[.slice none 0 0] 24)).alloc (.cells #[.int .i64 0] 3)).alloc (.cells #[.int .i64 0] 29)).drewN nd = W3 at K0 K1 K2 HB KS ⊢; have c0_ := bc_ K0.out 0; have c1_ := bc_ K1.out 0; have c2_ := bc_ K2.out 0; have f0_ := bf_ K0.out 0; have f1_ := bf_ K1.out 0; have f2_ := bf_ K2.out 0)
  rw [if_neg (by decide)] at h
  obtain ⟨rfl, rfl, rfl⟩ : ([] : List Int) = r1 ∧ (0 : Int) = r2 ∧ (2 : Int) = r3 := by simpa using h
  refine ⟨.tuple #[.slice none 0 0, .int .i64 0, .int .i64 2], ?_, ⟨_, rfl, Kd.R_nil _ _ _ _ _, ?_⟩⟩
  ·have d0 := blk_far (blk_far (blk_set K0.out 0 (.slice none 0 0)) (p := ⟨w.heap.size + 1, 0, none⟩) (by show w.heap.size ≠ w.heap.size + 1; omega) (.int .i64 0)) (p := ⟨w.heap.size + 1 + 1, 0, none⟩) (by show w.heap.size ≠ w.heap.size + 1 + 1; omega) (.int .i64 2)
   have d1 := blk_far (blk_set (blk_far K1.out (p := ⟨w.heap.size, 0, none⟩) (by show w.heap.size + 1 ≠ w.heap.size; omega) (.slice none 0 0)) 0 (.int .i64 0)) (p := ⟨w.heap.size + 1 + 1, 0, none⟩) (by show w.heap.size + 1 ≠ w.heap.size + 1 + 1; omega) (.int .i64 2)
   have d2 := blk_set (blk_far (blk_far K2.out (p := ⟨w.heap.size, 0, none⟩) (by show w.heap.size + 1 + 1 ≠ w.heap.size; omega) (.slice none 0 0)) (p := ⟨w.heap.size + 1, 0, none⟩) (by show w.heap.size + 1 + 1 ≠ w.heap.size + 1; omega) (.int .i64 0)) 0 (.int .i64 2)
   exact chunk_All_res w _ _ _ _ _ (bc_ d0 0) (bc_ d1 0) (bc_ d2 0) rfl rfl rfl
  ·exact below_set (below_set (below_set HB.out (Nat.le_refl _)) (by omega)) (by omega)
 | true =>
  rw [if_pos rfl] at h
  split at h
  ·rename_i hsz
   obtain ⟨hs1, hs2, hmod⟩ := hsz
   obtain ⟨m, hm⟩ := Int.eq_ofNat_of_zero_le (show 0 ≤ a1 + 2 by omega)
   obtain rfl : a1 = (m : Int) - 2 := by omega
   rw [show ((m : Int) - 2 + 2).toNat = m by omega] at hmod
   have HH := ak_ h
   have HMOD := ak_ hmod
   have hm1 : 3 ≤ m := by omega
   have hm2 : m ≤ 514 := by omega
   clear h hmod hs1 hs2 hm
   gi_wp2_with (refine ⟨trivial, ?_⟩; gi_at_call 77; refine (callsIn_wide.2 (chunk_may.calls _ _ l0 ((m : Int) - 2) true _ (by (with_reducible repeat (first | apply Kd.C_alloc | apply Kd.C_drewN | apply Kd.C_drew)); exact HR0.out) HL0.out HMAY.out)).mono ?_; rintro e w' ⟨rfl, ⟨nd, rfl⟩⟩; obtain ⟨k0, k1, k2, kb, ks⟩ := chunk_All_new3 w (.cells #[.slice none 0 0] 24) (.cells #[.int .i64 0] 3) (.cells #[.int .i64 0] 29); have K0 := ak_ (blk_drewN k0 nd); have K1 := ak_ (blk_drewN k1 nd); have K2 := ak_ (blk_drewN k2 nd); have HB := ak_ (pw_below_drewN kb nd); have KS : Aside0 (((((w.alloc (.cells #[.slice none 0 0] 24)).alloc (.cells #[.int .i64 0] 3)).alloc (.cells #[.int .i64 0] 29)).drewN nd).heap.size = w.heap.size + 3) := ⟨ks⟩; clear k0 k1 k2 kb ks; generalize (((w.alloc (.cells #[.slice none 0 0] 24)).alloc (.cells #[.int .i64 0] 3)).alloc (.cells #[.int .i64 0] 29)).drewN nd = W3 at K0 K1 K2 HB KS ⊢; have c0_ := bc_ K0.out 0; have c1_ := bc_ K1.out 0; have c2_ := bc_ K2.out 0; have f0_ := bf_ K0.out 0; have f1_ := bf_ K1.out 0; have f2_ := bf_ K2.out 0)
   have HW3 := ak_ (below_size HB.out)
   refine ⟨trivial, (Pieces.pieces_in Fence.wide 8 trivial rfl A0 l0.length c0 ((m : Int) - 2) W3).mono ?_⟩
   rintro e W4 ⟨rfl, hW4⟩
   have p0 := blk_new W3 (.cells #[.slice A0 l0.length c0] 24)
   have p1 := blk_new (W3.alloc (.cells #[.slice A0 l0.length c0] 24)) (.cells #[.int .i64 ((m : Int) - 2)] 3)
   rw [World.size_alloc] at p1
   have P0 := ak_ (blk_alloc p0 (.cells #[.int .i64 ((m : Int) - 2)] 3))
   have P1 := ak_ p1
   have hb34 : Below W3.heap.size W3 ((W3.alloc (.cells #[.slice A0 l0.length c0] 24)).alloc (.cells #[.int .i64 ((m : Int) - 2)] 3)) := below_alloc (below_alloc (Below.refl _ _) _) _
   have hs34 : ((W3.alloc (.cells #[.slice A0 l0.length c0] 24)).alloc (.cells #[.int .i64 ((m : Int) - 2)] 3)).heap.size = W3.heap.size + 2 := by simp only [World.size_alloc]
   rw [← hW4] at P0 P1 hb34 hs34
   have HS4 := ak_ hs34
   have HB4 := ak_ (below_step HB.out hb34)
   have J0 := ak_ (blk_below K0.out hb34)
   have J1 := ak_ (blk_below K1.out hb34)
   have J2 := ak_ (blk_below K2.out hb34)
   clear p0 p1 hb34 hs34 hW4 K0 K1 K2 c0_ c1_ c2_ f0_ f1_ f2_ HB
   obtain ⟨B, hBe⟩ : ∃ B, B = W3.heap.size := ⟨_, rfl⟩
   rw [← hBe] at P0 P1 HS4 ⊢
   have HBs : Aside0 (w.heap.size + 3 = B) := ⟨by have := KS.out; omega⟩
   clear hBe
   gi_wp2
   obtain ⟨i0, hi, hz0, hz1, hz2⟩ := info_parts Pieces.infou8
   refine Pieces.wpIn_rangeFunc_pieces (F := Fence.wide) rfl (by decide) (gf := 95) (lb := #[.pointer (some ⟨B, 0, none⟩), .pointer (some ⟨B + 1, 0, none⟩)]) rfl trivial (enters_of Try.func95 (by kernel_rfl) rfl) (G := w.heap.size) (B := B) (m := m) (A := A0) (c := c0) (L := l0) (by have := HBs.out; omega)
    (Pieces.pieces1_in Fence.wide 8 trivial rfl (by decide) w.heap.size B m (by have := HBs.out; omega) ⟨hm1, hm2⟩ A0 c0 l0 HMOD.out W4 (by have := HS4.out; omega) HL0.out (Kd.F_below (Kd.C_F (Kd.heap_int .u8) HR0.out) HB4.out) P0.out P1.out) (Below.refl _ _) (by have := HS4.out; omega) rfl
    (chunk_All_I w B m r1 r2 r3) (fun c W => c = .ret ∧ chunk_All_X w r1 r2 r3 W) (fun s => chunk_All_I_cells (by have := HBs.out; omega) s) (fun c W W' row h hg hr => ⟨h.1, chunk_All_X_cells (by have := HBs.out; omega) W W' row h.2 hg hr⟩) (fun s W v h => chunk_All_I_set (by have := HBs.out; omega) s W v h) ⟨[], 0, _, _, _, J0.out, J1.out, J2.out, own_nil _ _ _ _, HB4.out, HH.out⟩
    (fun s_ => { tmps := #[.slice A0 l0.length c0, .int .i64 ((m : Int) - 2), undef, undef, .pointer (some ⟨w.heap.size, 0, none⟩), .pointer (some ⟨w.heap.size + 1, 0, none⟩), .pointer (some ⟨w.heap.size + 1 + 1, 0, none⟩), s_, undef, undef, undef, .slice A0 l0.length c0, .int .i64 ((m : Int) - 2), .bool true, .bool false, .slice A0 l0.length c0, .int .i64 ((m : Int) - 2), .func (.func 95) #[] #[.pointer (some ⟨B, 0, none⟩), .pointer (some ⟨B + 1, 0, none⟩)], s_, undef, undef, undef, undef, undef, undef, undef, undef, undef, undef, undef, undef, undef, undef, undef, undef, undef], defers := [] }) ?assign ?body ?done ?stop
   case assign =>
    intro l x W K hK
    gi_wp2
    exact hK
   case body =>
    rintro l A' c' L' W hne hml hmod hlc ⟨out, fx, v, x, kk, h0, h1, h2, ho, hb, hf⟩ hsz hC
    obtain ⟨k', d1, d2, d3, hdec, hcase⟩ := chunk_All_step hm1 hne hf
    obtain ⟨pc, hpc⟩ : ∃ z, z = L'.take m := ⟨_, rfl⟩
    rw [← hpc] at hdec hC hlc ⊢
    clear hpc
    have K0 := ak_ h0
    have K1 := ak_ h1
    have K2 := ak_ h2
    have HO := ak_ ho
    have HBW := ak_ hb
    have HDEC := ak_ hdec
    have HCP := ak_ hC
    have HLC := ak_ hlc
    have HSW := ak_ hsz
    clear h0 h1 h2 ho hb hf hdec hC hlc hsz hml hmod
    rcases hcase with ⟨rfl, hpos, hlen, hnext⟩ | ⟨hd3, hr⟩
    ·have HLEN := ak_ hlen
     have HNEXT := ak_ hnext
     clear hlen hnext
     gi_wp2_with (first | (refine ⟨trivial, ?_⟩; gi_at_call 60; refine (CallsIn.inRound l (callsIn_wide.2 (chunk_Decode.calls k' A' c' pc d1 d2 0 _ HCP.out HLC.out HDEC.out))).mono ?_; rintro e W2 ⟨v_, rfl, hR_, hb_⟩; obtain ⟨A2, c2, rfl, hl2, hC2⟩ := Kd.R_reads hR_; obtain ⟨ad2, rfl, _⟩ := hC2.2.2 hpos; have HCC := ak_ (chunk_All_cells hC2); clear hC2; have N0 := ak_ (blk_below K0.out hb_); have N1 := ak_ (blk_below K1.out hb_); have N2 := ak_ (blk_below K2.out hb_); have HO2 := ak_ (pw_own_below HO.out hb_); have HB2 := ak_ (below_step HBW.out hb_); have HK2 := ak_ (chunk_All_keeps hb_); have HT2 := ak_ (Pieces.Stays.of_below (G := w.heap.size) (B := B) hb_); have HS2 := ak_ (Nat.le_trans HSW.out (below_size hb_)); clear hb_ hR_ hl2 K0 K1 K2 HO HBW HCP HLC; have c0_ := bc_ N0.out 0; have c1_ := bc_ N1.out 0; have c2_ := bc_ N2.out 0; have f0_ := bf_ N0.out 0; have f1_ := bf_ N1.out 0; have f2_ := bf_ N2.out 0) | (gi_at_builtin; refine wpListIn_append_own _ rfl _ _ 24 rfl (B + 2) 5 i0 (.int .u8 0) 1 1 Try.underlying24 hi hz0 hz1 hz2 rfl (by decide) v out.length (nums .u8 out) rfl HO2.out ad2 d1.length c2 (nums .u8 d1) rfl (by rw [nums_length, Nat.mul_one]) HCC.out (fun u hu => by obtain ⟨z, _, rfl⟩ := List.mem_map.1 hu; rfl) (by have := HLEN.out; unfold maxLen; omega) (by have := HLEN.out; omega) (by have := HS2.out; have := HS4.out; omega) ?_; intro v3 W5 hown3 hgrow3 _; have M0 := ak_ (blk_grown N0.out hgrow3 (chunk_All_neq HO2.out (by have := HBs.out; omega))); have M1 := ak_ (blk_grown N1.out hgrow3 (chunk_All_neq HO2.out (by have := HBs.out; omega))); have M2 := ak_ (blk_grown N2.out hgrow3 (chunk_All_neq HO2.out (by have := HBs.out; omega))); have HK5 := ak_ (HK2.out.trans (chunk_All_keeps_row HO2.out hgrow3)); have HT5 := ak_ (HT2.out.trans (Pieces.Stays.of_grown hgrow3 (fun r e => by have := own_base HO2.out r e; have := HBs.out; omega))); have HB5 := ak_ (HB2.out.grown hgrow3 HB2.out.size (fun r e => by have := own_base HO2.out r e; have := HBs.out; omega)); obtain ⟨nn, hnn⟩ : ∃ nn, out.length + d1.length = nn + 1 := ⟨out.length + d1.length - 1, by omega⟩; rw [hnn] at hown3; obtain ⟨g5, cap5, rfl⟩ := ownsRow_succ hown3; have HO5 := ak_ hown3; have HNN := ak_ hnn; clear hown3 hgrow3 hnn c0_ c1_ c2_ f0_ f1_ f2_; have c0_ := bc_ M0.out 0; have c1_ := bc_ M1.out 0; have f0_ := bf_ M0.out 0; have f1_ := bf_ M1.out 0))
     have hg1 : w.heap.size ≠ w.heap.size + 1 := by omega
     have hg2 : w.heap.size + 1 ≠ w.heap.size := by omega
     have hg3 : w.heap.size + 1 + 1 ≠ w.heap.size := by omega
     have hg4 : w.heap.size + 1 + 1 ≠ w.heap.size + 1 := by omega
     have hBB := HBs.out
     refine ⟨(HK5.out.trans (KeepsOthers.setCell _ _ _)).trans (KeepsOthers.setCell _ _ _), (HT5.out.set _ ⟨Nat.le_refl _, by show w.heap.size ≠ B; omega, by show w.heap.size ≠ B + 1; omega⟩).set _ ⟨by show w.heap.size ≤ w.heap.size + 1; omega, by show w.heap.size + 1 ≠ B; omega, by show w.heap.size + 1 ≠ B + 1; omega⟩, ⟨out ++ d1, _, _, x, k', blk_far (blk_set M0.out 0 _) hg1 _, blk_set (blk_far M1.out hg2 _) 0 _, blk_far (blk_far M2.out hg3 _) hg4 _, ?_, below_set (below_set HB5.out (Nat.le_refl _)) (by omega), HNEXT.out⟩⟩
     rw [List.length_append, HNN.out, nums_append]
     exact (HO5.out.kept (grownBy_setCell' _ _ _) (chunk_All_ne HO5.out (by omega))).kept (grownBy_setCell' _ _ _) (chunk_All_ne HO5.out (by omega))
    ·have HR := ak_ hr
     clear hr
     have e1_ : (d3 == 0) = false := beq_eq_false_iff_ne.2 hd3
     have e2_ : (d3 != 0) = true := by rw [bne, e1_]; rfl
     clear hd3
     gi_wp2_with ((refine ⟨trivial, ?_⟩; gi_at_call 60; refine (CallsIn.inRound l (callsIn_wide.2 (chunk_Decode.calls k' A' c' pc d1 d2 d3 _ HCP.out HLC.out HDEC.out))).mono ?_; rintro e W2 ⟨v_, rfl, hR_, hb_⟩; obtain ⟨A2, c2, rfl, hl2, hC2⟩ := Kd.R_reads hR_; clear hC2; have N0 := ak_ (blk_below K0.out hb_); have N1 := ak_ (blk_below K1.out hb_); have N2 := ak_ (blk_below K2.out hb_); have HO2 := ak_ (pw_own_below HO.out hb_); have HB2 := ak_ (below_step HBW.out hb_); have HK2 := ak_ (chunk_All_keeps hb_); have HT2 := ak_ (Pieces.Stays.of_below (G := w.heap.size) (B := B) hb_); have HS2 := ak_ (Nat.le_trans HSW.out (below_size hb_)); clear hb_ hR_ hl2 K0 K1 K2 HO HBW HCP HLC; have c0_ := bc_ N0.out 0; have c1_ := bc_ N1.out 0; have c2_ := bc_ N2.out 0; have f0_ := bf_ N0.out 0; have f1_ := bf_ N1.out 0; have f2_ := bf_ N2.out 0))
     have hg1 : w.heap.size ≠ w.heap.size + 1 := by omega
     have hg2 : w.heap.size + 1 ≠ w.heap.size := by omega
     have hg3 : w.heap.size + 1 + 1 ≠ w.heap.size := by omega
     have hg4 : w.heap.size + 1 + 1 ≠ w.heap.size + 1 := by omega
     have hg5 : w.heap.size ≠ w.heap.size + 1 + 1 := by omega
     have hg6 : w.heap.size + 1 ≠ w.heap.size + 1 + 1 := by omega
     obtain ⟨rfl, rfl, rfl⟩ : r1 = [] ∧ r2 = 0 ∧ r3 = d3 := by simpa using HR.out
     exact ⟨((HK2.out.trans (KeepsOthers.setCell _ _ _)).trans (KeepsOthers.setCell _ _ _)).trans (KeepsOthers.setCell _ _ _), rfl, blk_far (blk_far (blk_set N0.out 0 _) hg1 _) hg5 _, blk_far (blk_set (blk_far N1.out hg2 _) 0 _) hg6 _, blk_set (blk_far (blk_far N2.out hg3 _) hg4 _) 0 _, rfl, rfl, below_set (below_set (below_set HB2.out (Nat.le_refl _)) (by omega)) (by omega)⟩
   case done =>
    rintro D W ⟨out, fx, v, x, kk, h0, h1, h2, ho, hb, hf⟩ hD hK
    obtain ⟨rfl, rfl, rfl⟩ : r1 = out ∧ r2 = fx ∧ r3 = 0 := by
     cases kk with
     | zero => simp [chunk_All.l0] at hf
     | succ kk =>
      unfold chunk_All.l0 at hf
      rw [if_pos List.length_nil] at hf
      have := si_ hf
      cases this
      exact ⟨rfl, rfl, rfl⟩
    obtain ⟨Av, cv, rfl⟩ := own_slice ho
    have c0_ := bc_ h0 0
    have c1_ := bc_ h1 0
    have c2_ := bc_ h2 0
    have f0_ := bf_ h0 0
    have f1_ := bf_ h1 0
    have f2_ := bf_ h2 0
    have HD := ak_ hD
    have HKD := ak_ hK
    have H0 := ak_ h0
    have H1 := ak_ h1
    have H2 := ak_ h2
    have HO := ak_ ho
    have HBW := ak_ hb
    clear hD hK h0 h1 h2 ho hb hf
    gi_wp2
    gi_region
    all_goals
     gi_wp2
     have hg1 : w.heap.size ≠ w.heap.size + 1 := by omega
     have hg2 : w.heap.size + 1 ≠ w.heap.size := by omega
     have hg3 : w.heap.size + 1 + 1 ≠ w.heap.size := by omega
     have hg4 : w.heap.size + 1 + 1 ≠ w.heap.size + 1 := by omega
     have hg5 : w.heap.size ≠ w.heap.size + 1 + 1 := by omega
     have hg6 : w.heap.size + 1 ≠ w.heap.size + 1 + 1 := by omega
     have hg7 := HBs.out
     have hg8 := HS4.out
     have hg9 := HD.out
     have b0 := blk_far (blk_far (blk_set (blk_drew H0.out) 0 (.slice Av r1.length cv)) hg1 (p := ⟨w.heap.size + 1, 0, none⟩) (.int .i64 r2)) hg5 (p := ⟨w.heap.size + 1 + 1, 0, none⟩) (.int .i64 0)
     have b1 := blk_far (blk_set (blk_far (blk_drew H1.out) hg2 (p := ⟨w.heap.size, 0, none⟩) (.slice Av r1.length cv)) 0 (.int .i64 r2)) hg6 (p := ⟨w.heap.size + 1 + 1, 0, none⟩) (.int .i64 0)
     have b2 := blk_set (blk_far (blk_far (blk_drew H2.out) hg3 (p := ⟨w.heap.size, 0, none⟩) (.slice Av r1.length cv)) hg4 (p := ⟨w.heap.size + 1, 0, none⟩) (.int .i64 r2)) 0 (.int .i64 0)
     have bk := (((KeepsOthers.drew W).trans (KeepsOthers.setCell _ ⟨w.heap.size, 0, none⟩ (.slice Av r1.length cv))).trans (KeepsOthers.setCell _ ⟨w.heap.size + 1, 0, none⟩ (.int .i64 r2))).trans (KeepsOthers.setCell _ ⟨w.heap.size + 1 + 1, 0, none⟩ (.int .i64 0))
     have bo := ((((own_drew HO.out).kept (grownBy_setCell' _ w.heap.size (.slice Av r1.length cv)) (chunk_All_ne HO.out (by omega))).kept (grownBy_setCell' _ (w.heap.size + 1) (.int .i64 r2)) (chunk_All_ne HO.out (by omega))).kept (grownBy_setCell' _ (w.heap.size + 1 + 1) (.int .i64 0)) (chunk_All_ne HO.out (by omega)))
     have bb := below_set (j := 0) (v := .int .i64 0) (g := w.heap.size + 1 + 1) (below_set (j := 0) (v := .int .i64 r2) (g := w.heap.size + 1) (below_set (j := 0) (v := .slice Av r1.length cv) (below_drew1 HBW.out) (Nat.le_refl _)) (by omega)) (by omega)
     have bd := bk.same D _ HKD.out rfl
     refine ⟨by simp, .inl ⟨_, _, rfl, run_takeDeferred bd, ?_⟩⟩
     exact ⟨_, chunk_All_res w _ _ _ _ _ (bc_ ((World.putObj_heap_other (by omega)).trans b0) 0) (bc_ ((World.putObj_heap_other (by omega)).trans b1) 0) (bc_ ((World.putObj_heap_other (by omega)).trans b2) 0) rfl rfl rfl, _, rfl, Kd.R_lower (Kd.R_of_own (ownsRow_putObj bo _ bd rfl) (fun _ _ => trivial)) (by omega), bb.grown (grownBy_putObj' _ _ _) bb.size (fun k e => by cases e; omega)⟩
   case stop =>
    rintro D c W ⟨rfl, h0, h1, h2, rfl, rfl, hb⟩ hD hK
    gi_wp2
    have hg7 := HBs.out
    have hg8 := HS4.out
    refine ⟨by simp, .inl ⟨_, _, rfl, run_takeDeferred hK, ?_⟩⟩
    exact ⟨_, chunk_All_res w _ _ _ _ _ (bc_ ((World.putObj_heap_other (by omega)).trans h0) 0) (bc_ ((World.putObj_heap_other (by omega)).trans h1) 0) (bc_ ((World.putObj_heap_other (by omega)).trans h2) 0) rfl rfl rfl, _, rfl, Kd.R_nil _ _ _ _ _, hb.grown (grownBy_putObj' _ _ _) hb.size (fun k e => by cases e; omega)⟩
  ·cases h
end
def page_shape_chunks.f (a0_0 : Int) (a0_1 : Int) (a0_2 : Int) (a0_3 : Int) (a0_4 : Int) (a0_5 : Int) (a0_6 : Int) (a0_7 : Int) (l1 : List Int) : Option (List Int) := if 0 ≤ a0_7 then (if a0_7 ≤ (l1.length : Int) then (some (l1.take (a0_7 : Int).toNat)) else (none)) else (none)
theorem page_shape_chunks.calls (a0_0 : Int) (a0_1 : Int) (a0_2 : Int) (a0_3 : Int) (a0_4 : Int) (a0_5 : Int) (a0_6 : Int) (a0_7 : Int) (P1_ : Nat → Prop) (A1 : Option Addr) (c1 : Nat) (l1 : List Int) (r : List Int) (w : World) (hs1 : Kd.V (Kd.int .u8) 5 w w.heap.size (fun k_ => P1_ k_) (.slice A1 l1.length c1) l1) (h : page_shape_chunks.f a0_0 a0_1 a0_2 a0_3 a0_4 a0_5 a0_6 a0_7 l1 = some r) :
  Calls Try.prog 59 #[.agg #[.int .i64 a0_0, .int .i64 a0_1, .int .i64 a0_2, .int .i64 a0_3, .int .i64 a0_4, .int .i64 a0_5, .int .i64 a0_6, .int .i64 a0_7], .slice A1 l1.length c1] w fun e w' => ∃ v0_ : Value, e = .returned (v0_) ∧ Kd.V (Kd.int .u8) 5 w' w.heap.size (fun k_ => (P1_ k_ ∨ w.heap.size ≤ k_)) v0_ r ∧ Below w.heap.size w w' := by
 have hu70 := Try.underlying70
 have HO1 := ak_ (show Kd.V (Kd.int .u8) 5 w w.heap.size (fun k_ => (P1_ k_ ∨ w.heap.size ≤ k_)) (.slice A1 l1.length c1) l1 from Kd.V_mono hs1 (fun k_ hk => .inl hk))
 have HB := br_ w
 unfold page_shape_chunks.f at h
 have H := h
 clear h
 by_cases c3 : 0 ≤ a0_7
 ·rw [if_pos c3] at H
  have c3b0 := eq_true c3
  have c3b1 := dt_ c3
  clear c3
  by_cases c4 : a0_7 ≤ (l1.length : Int)
  ·rw [if_pos c4] at H
   have c4b0 := eq_true c4
   have c4b1 := dt_ c4
   clear c4
   obtain ⟨y457, hy457⟩ : ∃ y_ : List Int, y_ = (l1.take (a0_7 : Int).toNat) := ⟨_, rfl⟩
   replace H : (some y457) = some r := (by rw [hy457]; with_reducible exact H)
   have Ny457 := ak_ hy457
   clear hy457
   obtain rfl := si_ H
   go_enter Try.func59, Try.ntmps59
   go_wp2_with ((with_reducible refine gate_dst (N := 2) rfl ?_); refine box_event ?hg (N := 2) ?hd (cs := #[.int .i64 a0_0, .int .i64 a0_1, .int .i64 a0_2, .int .i64 a0_3, .int .i64 a0_4, .int .i64 a0_5, .int .i64 a0_6, .int .i64 a0_7]) (t := 70) ?hr ?_; (case hd => rfl); (case hg => rfl); (case hr => (go_simp; done)); intro gb456 hg w5 hbox hb; replace HO1 := ak_ (Kd.V_below (Kd.V_elderB HO1.out gb456 (Nat.le_of_eq hg.symm)) hb); have BK456 := ak_ (hbox); have GW456 := ak_ (gw_ hg (below_size HB.out)); have GE456 := ak_ (gw_ hg (below_size HB.out)); replace HB := ak_ (below_step HB.out hb); clear hb hbox hg; obtain ⟨hcz6_0, hcz6_1, hcz6_2, hcz6_3, hcz6_4, hcz6_5, hcz6_6, hcz6_7⟩ := cells8 BK456.out; obtain ⟨hfz6_0, hfz6_1, hfz6_2, hfz6_3, hfz6_4, hfz6_5, hfz6_6, hfz6_7⟩ := froz8 BK456.out; have q7 : (a0_7 : Int) ≤ ((l1.length : Int) : Int) := od_ ‹_›; obtain ⟨i07, hi07, _, hsz7, _⟩ := info_parts info5; have hroom7 : l1.length ≤ c1 := (Kd.V_reads' HO1.out).2.1; have hC7 : Kd.F (Kd.int .u8) _ _ A1 l1.length l1 := (Kd.V_at (base := w.heap.size) HO1.out).2.2; have hcut7 := cut_to (P := Try.prog) 24 5 .i64 Try.underlying24 hi07 A1 l1.length c1 a0_7 (od_ ‹_›) q7 hroom7; have hr7 := Kd.F_take (m := (a0_7 : Int).toNat) hC7 (by omega); have hy7 : y457.length = (a0_7 : Int).toNat := (by rw [Ny457.out, List.length_take]; omega); rw [← Ny457.out] at hr7; rw [← hy7] at hcut7; have HO461 := ak_ (show Kd.V (Kd.int .u8) 5 _ w.heap.size _ (.slice A1 y457.length c1) y457 from Kd.V_mk (by omega) hr7); have HC461 := ak_ (show y457.length ≤ c1 from by omega); clear hr7 hC7 hroom7 hi07 hsz7; have KY7 := ak_ hy7; clear hy7; replace q7 := eq_true q7)
   go_ret
   exact ⟨_, by rfl, (Kd.V_mono HO461.out (fun _ hk => hk.1)), HB.out⟩
  ·rw [if_neg c4] at H
   exact absurd H (by simp)
 ·rw [if_neg c3] at H
  exact absurd H (by simp)
end Go.Proofs.Ytmehbabchakkpaa.QPageBack
