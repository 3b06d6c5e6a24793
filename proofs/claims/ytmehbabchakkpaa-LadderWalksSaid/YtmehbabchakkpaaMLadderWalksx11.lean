import Derived.Test.YtmehbabchakkpaaMLadderWalksx10
namespace Go.Proofs.Ytmehbabchakkpaa.QLadderWalks
open Go.RowKit YtmehbabchakkpaaW.PrintWords YtmehbabchakkpaaW.PrintLast YtmehbabchakkpaaW.PrintMore Short
attribute [local go_sem] max2_int min2_int max_two min_two max_three min_three max_four min_four
set_option linter.unusedVariables false
set_option maxHeartbeats 8000000
set_option maxRecDepth 100000
set_option linter.unusedSimpArgs false
mutual
def r06_Decode.j0 : Nat → List Int → Int → Bool → Option (List Int × Int × Int)
 | 0, _, _, _ => none
 | k + 1, x0, x5, x16 => if x16 = true then (some (([] : List Int), 0, 2)) else (r06_Decode.j1 k x0 x5)
def r06_Decode.j1 : Nat → List Int → Int → Option (List Int × Int × Int)
 | 0, _, _ => none
 | k + 1, x0, x5 => if 0 ≤ x5 then (if x5 ≤ (x0.length : Int) then (if x5 < (x0.length : Int) then (if 0 ≤ (wrap64 (x5 + 1)) then (if (wrap64 (x5 + 1)) < (x0.length : Int) then ((r05_Judge.f k (x0.take (x5 : Int).toNat) (wrap64 ((wrap64 (rd x0 x5)) + (wrap64 (256 * (wrap64 (rd x0 (wrap64 (x5 + 1))))))))).bind fun bt389 => (if bt389.1 = 3 then (some (([] : List Int), 0, 14)) else (r06_Decode.j2 k x0 x5 bt389.1 bt389.2))) else (none)) else (none)) else (none)) else (none)) else (none)
def r06_Decode.j2 : Nat → List Int → Int → Int → Int → Option (List Int × Int × Int)
 | 0, _, _, _, _ => none
 | k + 1, x0, x5, x6, x7 => if x6 = 1 then (if 0 ≤ x5 then (if x5 ≤ (x0.length : Int) then ((r01_Flip.f k (x0.take (x5 : Int).toNat) (([x7] : List Int))).bind fun t399 => (some (t399, 1, 0))) else (none)) else (none)) else (r06_Decode.j3 k x0 x5 x6)
def r06_Decode.j3 : Nat → List Int → Int → Int → Option (List Int × Int × Int)
 | 0, _, _, _ => none
 | k + 1, x0, x5, x6 => if x6 = 2 then (if 0 ≤ x5 then (if x5 ≤ (x0.length : Int) then (some ((x0.take (x5 : Int).toNat), 1, 0)) else (none)) else (none)) else (if 0 ≤ x5 then (if x5 ≤ (x0.length : Int) then (some ((x0.take (x5 : Int).toNat), 0, 0)) else (none)) else (none))
end
def r06_Decode.f (k : Nat) (l0 : List Int) : Option (List Int × Int × Int) := if (wrap64 ((l0.length : Int) - 2)) < 1 then (r06_Decode.j0 k l0 (wrap64 ((l0.length : Int) - 2)) true) else (r06_Decode.j0 k l0 (wrap64 ((l0.length : Int) - 2)) (decide ((wrap64 ((l0.length : Int) - 2)) > 512)))
theorem r06_Decode.mono_l : ∀ k, (∀ y0 y1 y2, LeO (r06_Decode.j0 k y0 y1 y2) (r06_Decode.j0 (k + 1) y0 y1 y2)) ∧ (∀ y0 y1, LeO (r06_Decode.j1 k y0 y1) (r06_Decode.j1 (k + 1) y0 y1)) ∧ (∀ y0 y1 y2 y3, LeO (r06_Decode.j2 k y0 y1 y2 y3) (r06_Decode.j2 (k + 1) y0 y1 y2 y3)) ∧ (∀ y0 y1 y2, LeO (r06_Decode.j3 k y0 y1 y2) (r06_Decode.j3 (k + 1) y0 y1 y2))
 | 0 => ⟨fun _ _ _ r h => by simp [r06_Decode.j0] at h, fun _ _ r h => by simp [r06_Decode.j1] at h, fun _ _ _ _ r h => by simp [r06_Decode.j2] at h, fun _ _ _ r h => by simp [r06_Decode.j3] at h⟩
 | k + 1 => by
  obtain ⟨ih0, ih1, ih2, ih3⟩ := r06_Decode.mono_l k
  refine ⟨?_, ?_, ?_, ?_⟩
  ·intro y0 y1 y2
   unfold r06_Decode.j0
   repeat' first
   | (with_reducible exact ih0 _ _ _)
   | (with_reducible exact ih1 _ _)
   | (with_reducible exact ih2 _ _ _ _)
   | (with_reducible exact ih3 _ _ _)
   | (with_reducible exact r01_Flip.mono _ _ _)
   | (with_reducible exact r05_Judge.mono _ _ _)
   | (with_reducible exact LeO.refl _)
   | (with_reducible exact LeO.none _)
   | (with_reducible refine LeO.ite ?_ ?_)
   | (with_reducible refine LeO.bind ?_ (fun _ => ?_))
  ·intro y0 y1
   unfold r06_Decode.j1
   repeat' first
   | (with_reducible exact ih0 _ _ _)
   | (with_reducible exact ih1 _ _)
   | (with_reducible exact ih2 _ _ _ _)
   | (with_reducible exact ih3 _ _ _)
   | (with_reducible exact r01_Flip.mono _ _ _)
   | (with_reducible exact r05_Judge.mono _ _ _)
   | (with_reducible exact LeO.refl _)
   | (with_reducible exact LeO.none _)
   | (with_reducible refine LeO.ite ?_ ?_)
   | (with_reducible refine LeO.bind ?_ (fun _ => ?_))
  ·intro y0 y1 y2 y3
   unfold r06_Decode.j2
   repeat' first
   | (with_reducible exact ih0 _ _ _)
   | (with_reducible exact ih1 _ _)
   | (with_reducible exact ih2 _ _ _ _)
   | (with_reducible exact ih3 _ _ _)
   | (with_reducible exact r01_Flip.mono _ _ _)
   | (with_reducible exact r05_Judge.mono _ _ _)
   | (with_reducible exact LeO.refl _)
   | (with_reducible exact LeO.none _)
   | (with_reducible refine LeO.ite ?_ ?_)
   | (with_reducible refine LeO.bind ?_ (fun _ => ?_))
  ·intro y0 y1 y2
   unfold r06_Decode.j3
   repeat' first
   | (with_reducible exact ih0 _ _ _)
   | (with_reducible exact ih1 _ _)
   | (with_reducible exact ih2 _ _ _ _)
   | (with_reducible exact ih3 _ _ _)
   | (with_reducible exact r01_Flip.mono _ _ _)
   | (with_reducible exact r05_Judge.mono _ _ _)
   | (with_reducible exact LeO.refl _)
   | (with_reducible exact LeO.none _)
   | (with_reducible refine LeO.ite ?_ ?_)
   | (with_reducible refine LeO.bind ?_ (fun _ => ?_))
theorem r06_Decode.mono : ∀ a0 k, LeO (r06_Decode.f k a0) (r06_Decode.f (k + 1) a0) := by
 intro a0 k
 obtain ⟨ih0, ih1, ih2, ih3⟩ := r06_Decode.mono_l k
 unfold r06_Decode.f
 repeat' with_reducible first
  | exact ih0 _ _ _
  | exact ih1 _ _
  | exact ih2 _ _ _ _
  | exact ih3 _ _ _
  | exact r01_Flip.mono _ _ _
  | exact r05_Judge.mono _ _ _
  | exact LeO.refl _
  | exact LeO.none _
  | refine LeO.ite ?_ ?_
  | refine LeO.bind ?_ (fun _ => ?_)
def r06_Decode.T4 : Bool × List (List Nat × List Nat) := (true, [([], []), ([], []), ([0, 1], [0, 1]), ([], []), ([], []), ([3, 4], [3, 4]), ([5], [5]), ([6], [6]), ([], []), ([], []), ([9], [9]), ([8, 10], [8, 10]), ([11], [11]), ([12], [12]), ([13], [13]), ([7, 14], [7, 14]), ([2, 15], [2, 15]), ([16], [16]), ([17], [17]), ([17], [17]), ([18, 16, 0, 1, 2, 3, 4, 5, 6, 7, 8, 9, 10, 11, 12, 13, 14, 15, 16, 17, 18], [18]), ([19, 20, 0, 1, 2, 3, 4, 5, 6, 7, 8, 9, 10, 11, 12, 13, 14, 15, 16, 17, 18, 19, 20], [19])])
def r06_Decode.B4 : List Nat := [0, 0, 3, 0, 0, 24, 56, 120, 0, 0, 512, 1792, 3840, 7936, 16128, 32760, 65535, 131071, 262143, 262143, 524287, 2097151]
theorem r06_Decode.tab4 : rtab .any (opsOf Try.f54 4) = r06_Decode.T4 := by kernel_rfl
theorem r06_Decode.bits4 : waitsOk r06_Decode.T4.2 r06_Decode.B4 = true := by kernel_rfl
theorem r06_Decode.calls (k : Nat) (P0_ : Nat → Prop) (A0 : Option Addr) (c0 : Nat) (l0 : List Int) (r1 : List Int) (r2 : Int) (r3 : Int) (w : World) (hs0 : Kd.V (Kd.int .u8) 5 w w.heap.size (fun k_ => P0_ k_) (.slice A0 l0.length c0) l0) (h : r06_Decode.f k l0 = some (r1, r2, r3)) :
  Calls Try.prog 54 #[.slice A0 l0.length c0] w fun e w' => ∃ v0_ : Value, e = .returned (.tuple #[v0_, .int .i64 r2, .int .i64 r3]) ∧ Kd.V (Kd.int .u8) 5 w' w.heap.size (fun k_ => (P0_ k_ ∨ w.heap.size ≤ k_)) v0_ r1 ∧ Below w.heap.size w w' := by
 have HO0 := ak_ (show Kd.V (Kd.int .u8) 5 w w.heap.size (fun k_ => (P0_ k_ ∨ w.heap.size ≤ k_)) (.slice A0 l0.length c0) l0 from Kd.V_mono hs0 (fun k_ hk => .inl hk))
 have HB := br_ w
 unfold r06_Decode.f at h
 have H := h
 clear h
 have HC2 := ak_ H
 clear H
 go_enter Try.func54, Try.ntmps54
 go_upto_region 2 with (fail)
 go_cut [16] (fun v16 wc => ∃ (kq : Nat) (x16_1 : Bool), v16 = .bool x16_1 ∧ Aside0 (r06_Decode.j0 kq l0 (wrap64 ((l0.length : Int) - 2)) x16_1 = some (r1, r2, r3)) ∧ Aside0 (kq ≤ k) ∧ Aside0 (Kd.V (Kd.int .u8) 5 wc w.heap.size (fun k_ => (P0_ k_ ∨ w.heap.size ≤ k_)) (.slice A0 l0.length c0) l0) ∧ Aside0 (Below w.heap.size w wc))
 case first =>
  have H := HC2.out
  clear HC2
  by_cases c3 : (wrap64 ((l0.length : Int) - 2)) < 1
  ·rw [if_pos c3] at H
   have c3b0 := dt_ c3
   clear c3
   (first | rw [c3b0] | (simp only [i64_w, i32_w]; rw [c3b0]) | skip)
   have H' := ak_ H
   clear H
   go_wp2
   go_meet
   case rel => exact ⟨_, (true), (by rfl), H', ⟨by omega⟩, ⟨HO0.out⟩, ⟨HB.out⟩⟩
  ·rw [if_neg c3] at H
   have c3b0 := df_ c3
   clear c3
   (first | rw [c3b0] | (simp only [i64_w, i32_w]; rw [c3b0]) | skip)
   have H' := ak_ H
   clear H
   go_wp2
   go_meet
   case rel => exact ⟨_, (decide ((wrap64 ((l0.length : Int) - 2)) > 512)), (by rfl), H', ⟨by omega⟩, ⟨HO0.out⟩, ⟨HB.out⟩⟩
 case rest =>
  clear HC2
  obtain ⟨kq, x16_1, rfl, HA, HJ1, HO_0, HB⟩ := hcut
  cases kq with
  | zero => exact absurd HA.out (by simp [r06_Decode.j0])
  | succ kj1 =>
   have H := HA.out
   clear HA
   simp only [r06_Decode.j0] at H
   have HC4 := ak_ H
   clear H
   go_upto_if 16 with (fail)
   go_cut [] (fun wc => ∃ (kq : Nat), Aside0 (r06_Decode.j1 kq l0 (wrap64 ((l0.length : Int) - 2)) = some (r1, r2, r3)) ∧ Aside0 (kq ≤ kj1) ∧ Aside0 (Kd.V (Kd.int .u8) 5 wc w.heap.size (fun k_ => (P0_ k_ ∨ w.heap.size ≤ k_)) (.slice A0 l0.length c0) l0) ∧ Aside0 (Below w.heap.size w wc))
   case first =>
    have H := HC4.out
    clear HC4
    by_cases c5 : x16_1 = true
    ·subst c5
     rw [if_pos rfl] at H
     simp only [Option.some.injEq, Prod.mk.injEq] at H
     obtain ⟨rfl, rfl, rfl⟩ := H
     go_wp2
     go_ret3
     exact ⟨_, by rfl, Kd.V_nil _ _ _ _ _, HB.out⟩
    ·replace c5 := Bool.eq_false_iff.mpr c5
     subst c5
     rw [if_neg (show ¬ (false = true) by decide)] at H
     have H' := ak_ H
     clear H
     go_wp2
     go_meet
     case rel => exact ⟨_, H', ⟨by have := HJ1.out; omega⟩, ⟨HO_0.out⟩, ⟨HB.out⟩⟩
   case rest =>
    clear HC4
    obtain ⟨kq, HA, HJ3, HO_0, HB⟩ := hcut
    cases kq with
    | zero => exact absurd HA.out (by simp [r06_Decode.j1])
    | succ kj3 =>
     have H := HA.out
     clear HA
     simp only [r06_Decode.j1] at H
     obtain ⟨ji6, hji6⟩ : ∃ j_ : Int, (wrap64 ((l0.length : Int) - 2)) = j_ := ⟨_, rfl⟩
     replace H : (if 0 ≤ (ji6) then (if (ji6) ≤ (l0.length : Int) then (if (ji6) < (l0.length : Int) then (if 0 ≤ (wrap64 ((ji6) + 1)) then (if (wrap64 ((ji6) + 1)) < (l0.length : Int) then ((r05_Judge.f kj3 (l0.take ((ji6) : Int).toNat) (wrap64 ((wrap64 (rd l0 (ji6))) + (wrap64 (256 * (wrap64 (rd l0 (wrap64 ((ji6) + 1))))))))).bind fun bt386 => (if bt386.1 = 3 then (some (([] : List Int), 0, 14)) else (r06_Decode.j2 kj3 l0 (ji6) bt386.1 bt386.2))) else (none)) else (none)) else (none)) else (none)) else (none)) = some (r1, r2, r3) := (by rw [hji6] at H; exact H)
     have hji6w : (IntKind.i64.wrap ((l0.length : Int) - 2)) = ji6 := (i64_w _).trans hji6
     by_cases c7 : 0 ≤ (ji6)
     ·rw [if_pos c7] at H
      have c7b0 := eq_true c7
      have c7b1 := dt_ c7
      clear c7
      by_cases c8 : (ji6) ≤ (l0.length : Int)
      ·rw [if_pos c8] at H
       have c8b0 := eq_true c8
       have c8b1 := dt_ c8
       clear c8
       obtain ⟨y379, hy379⟩ : ∃ y_ : List Int, y_ = (l0.take ((ji6) : Int).toNat) := ⟨_, rfl⟩
       replace H : (if (ji6) < (l0.length : Int) then (if 0 ≤ (wrap64 ((ji6) + 1)) then (if (wrap64 ((ji6) + 1)) < (l0.length : Int) then ((r05_Judge.f kj3 y379 (wrap64 ((wrap64 (rd l0 (ji6))) + (wrap64 (256 * (wrap64 (rd l0 (wrap64 ((ji6) + 1))))))))).bind fun bt386 => (if bt386.1 = 3 then (some (([] : List Int), 0, 14)) else (r06_Decode.j2 kj3 l0 (ji6) bt386.1 bt386.2))) else (none)) else (none)) else (none)) = some (r1, r2, r3) := (by rw [hy379]; with_reducible exact H)
       have Ny379 := ak_ hy379
       clear hy379
       by_cases c9 : (ji6) < (l0.length : Int)
       ·rw [if_pos c9] at H
        have c9b0 := dt_ c9
        clear c9
        obtain ⟨ji10, hji10⟩ : ∃ j_ : Int, (wrap64 ((ji6) + 1)) = j_ := ⟨_, rfl⟩
        replace H : (if 0 ≤ (ji10) then (if (ji10) < (l0.length : Int) then ((r05_Judge.f kj3 y379 (wrap64 ((wrap64 (rd l0 (ji6))) + (wrap64 (256 * (wrap64 (rd l0 (ji10)))))))).bind fun bt386 => (if bt386.1 = 3 then (some (([] : List Int), 0, 14)) else (r06_Decode.j2 kj3 l0 (ji6) bt386.1 bt386.2))) else (none)) else (none)) = some (r1, r2, r3) := (by rw [hji10] at H; exact H)
        have hji10w : (IntKind.i64.wrap ((ji6) + 1)) = ji10 := (i64_w _).trans hji10
        by_cases c11 : 0 ≤ (ji10)
        ·rw [if_pos c11] at H
         have c11b0 := dt_ c11
         clear c11
         by_cases c12 : (ji10) < (l0.length : Int)
         ·rw [if_pos c12] at H
          have c12b0 := dt_ c12
          clear c12
          obtain ⟨⟨t386, t387⟩, A13, H⟩ := bs_ H
          try dsimp only at H
          have HC14 := ak_ H
          clear H
          try go_wp2
          replace HO_0 := ak_ (Kd.V_drew HO_0.out)
          replace HB := ak_ (below_drew1 HB.out)
          have q16 : ((ji6) : Int) ≤ ((l0.length : Int) : Int) := od_ ‹_›
          obtain ⟨i016, hi016, _, hsz16, _⟩ := info_parts info5
          have hroom16 : l0.length ≤ c0 := (Kd.V_reads' HO_0.out).2.1
          have hC16 : Kd.F (Kd.int .u8) _ _ A0 l0.length l0 := (Kd.V_at (base := w.heap.size) HO_0.out).2.2
          have hcut16 := cut_to (P := Try.prog) 24 5 .i64 Try.underlying24 hi016 A0 l0.length c0 (ji6) (od_ ‹_›) q16 hroom16
          have hr16 := Kd.F_take (m := ((ji6) : Int).toNat) hC16 (by omega)
          have hy16 : y379.length = ((ji6) : Int).toNat := (by rw [Ny379.out, List.length_take]; omega)
          rw [← Ny379.out] at hr16
          rw [← hy16] at hcut16
          have HO383 := ak_ (show Kd.V (Kd.int .u8) 5 _ w.heap.size _ (.slice A0 y379.length c0) y379 from Kd.V_mk (by omega) hr16)
          have HC383 := ak_ (show y379.length ≤ c0 from by omega)
          clear hr16 hC16 hroom16 hi016 hsz16
          have KY16 := ak_ hy16
          clear hy16
          replace q16 := eq_true q16
          have p384 : 0 ≤ ((ji6) : Int) := od_ ‹_›
          have q384 : (ji6) < (l0.length : Int) := od_ ‹_›
          obtain ⟨ad384, e384, hx384_0⟩ := Kd.at_int (Kd.V_reads' HO_0.out).2.2 (ji6) p384 q384
          cases e384
          replace p384 := eq_true p384
          replace q384 := eq_true q384
          have p385 : 0 ≤ ((ji10) : Int) := od_ ‹_›
          have q385 : (ji10) < (l0.length : Int) := od_ ‹_›
          obtain ⟨ad385, e385, hx385_0⟩ := Kd.at_int (Kd.V_reads' HO_0.out).2.2 (ji10) p385 q385
          obtain rfl : ad384 = ad385 := (by injection e385)
          replace p385 := eq_true p385
          replace q385 := eq_true q385
          refine start_ (n := 22) (S := fun w' => w'.cell? (ad384.add ((ji6)).toNat) = some (.int .u8 (rd l0 (ji6))) ∧ w'.cell? (ad384.add ((ji10)).toNat) = some (.int .u8 (rd l0 (ji10)))) (ds := []) #[false, false, false, false, false, false, false, false, false, false, false, false, false, false, false, false, false, false, false, false, false, false] (by kernel_rfl) rfl rfl ⟨hx384_0, hx385_0⟩ (fun hHeld => ?_); refine with_tabW r06_Decode.tab4 r06_Decode.bits4 (fun HT_ HW_ => ?_)
          generalize wc.drew = w15 at HO_0 HB HO383 hx384_0 hx385_0 hHeld ⊢
          refine pu 0 (some 18) #[true, false, false, false, false, false, false, false, false, false, false, false, false, false, false, false, false, false, false, false, false, false] HT_.out rfl rfl ?_
          refine pu 1 (some 19) #[true, true, false, false, false, false, false, false, false, false, false, false, false, false, false, false, false, false, false, false, false, false] HT_.out rfl rfl ?_
          refine pu 2 (some 20) #[true, true, true, false, false, false, false, false, false, false, false, false, false, false, false, false, false, false, false, false, false, false] HT_.out rfl rfl ?_
          refine pu 3 (some 21) #[true, true, true, true, false, false, false, false, false, false, false, false, false, false, false, false, false, false, false, false, false, false] HT_.out rfl rfl ?_
          refine pu 4 (some 22) #[true, true, true, true, true, false, false, false, false, false, false, false, false, false, false, false, false, false, false, false, false, false] HT_.out rfl rfl ?_
          refine pu 5 (some 23) #[true, true, true, true, true, true, false, false, false, false, false, false, false, false, false, false, false, false, false, false, false, false] HT_.out rfl rfl ?_
          refine pu 8 (some 26) #[true, true, true, true, true, true, false, false, true, false, false, false, false, false, false, false, false, false, false, false, false, false] HT_.out rfl rfl ?_
          refine pu 9 (some 27) #[true, true, true, true, true, true, false, false, true, true, false, false, false, false, false, false, false, false, false, false, false, false] HT_.out rfl rfl ?_
          refine pu 10 (some 28) #[true, true, true, true, true, true, false, false, true, true, true, false, false, false, false, false, false, false, false, false, false, false] HT_.out rfl rfl ?_
          refine pu 11 (some 29) #[true, true, true, true, true, true, false, false, true, true, true, true, false, false, false, false, false, false, false, false, false, false] HT_.out rfl rfl ?_
          refine take_ (i := 6) (N := some 24) (v := ?_) (a' := ?_) #[true, true, true, true, true, true, true, false, true, true, true, true, false, false, false, false, false, false, false, false, false, false] rfl rfl (take_ofW HT_.out HW_.out (by kernel_rfl)) (fun _ _ _ h => h) (Or.inl ⟨by rfl, ?_⟩) hHeld ?_ ?_
          rotate_left
          ·rintro w' ⟨s0, s1⟩
           go_simp
           with_reducible rfl
          rotate_left
          ·simp only [Act.put, sb_, sz_, su_, i64_w, i32_w]
           rfl
          refine pu 7 (some 25) #[true, true, true, true, true, true, true, true, true, true, true, true, false, false, false, false, false, false, false, false, false, false] HT_.out rfl rfl ?_
          refine take_ (i := 12) (N := some 30) (v := ?_) (a' := ?_) #[true, true, true, true, true, true, true, true, true, true, true, true, true, false, false, false, false, false, false, false, false, false] rfl rfl (take_ofW HT_.out HW_.out (by kernel_rfl)) (fun _ _ _ h => h) (Or.inl ⟨by rfl, ?_⟩) hHeld ?_ ?_
          rotate_left
          ·rintro w' ⟨s0, s1⟩
           go_simp
           with_reducible rfl
          rotate_left
          ·simp only [Act.put, sb_, sz_, su_, i64_w, i32_w]
           rfl
          refine pu 13 (some 31) #[true, true, true, true, true, true, true, true, true, true, true, true, true, true, false, false, false, false, false, false, false, false] HT_.out rfl rfl ?_
          refine pu 14 (some 32) #[true, true, true, true, true, true, true, true, true, true, true, true, true, true, true, false, false, false, false, false, false, false] HT_.out rfl rfl ?_
          refine pu 15 (some 33) #[true, true, true, true, true, true, true, true, true, true, true, true, true, true, true, true, false, false, false, false, false, false] HT_.out rfl rfl ?_
          refine one_ (i := 16) (N := some 34) #[true, true, true, true, true, true, true, true, true, true, true, true, true, true, true, true, true, false, false, false, false, false] rfl rfl (one_of HT_.out (by kernel_rfl)) (by decide) (fun K hK => ?_)
          refine goes_ Try.func74 (by kernel_rfl) rfl #[.slice (some ad384) y379.length c0, .int .i64 (wrap64 ((wrap64 (rd l0 (ji6))) + (wrap64 (256 * (wrap64 (rd l0 (ji10)))))))] (by rfl) rfl rfl (by (try simp only [List.map_toArray, List.map_cons, List.map_nil]); first | done | (simp only [hji10, hji6]; rfl) | rfl | (simp only [List.length_drop, List.length_take]; rfl)) ?_
          with_reducible refine (r05_Judge.calls kj3 _ _ y379 (wrap64 ((wrap64 (rd l0 (ji6))) + (wrap64 (256 * (wrap64 (rd l0 (ji10))))))) t386 t387 _ ?side1 ?side2 A13.out).mono ?_
          (case side1 => exact (Kd.V_reads' HO383.out).2.2)
          (case side2 => exact (Kd.V_reads' HO383.out).2.1)
          rintro e w17 ⟨rfl, hb⟩
          have HS0_ := (hb.cell (World.block_lt_of_cell? _ _ (hHeld.1))).trans (hHeld.1)
          have HS1_ := (hb.cell (World.block_lt_of_cell? _ _ (hHeld.2))).trans (hHeld.2)
          refine ⟨_, rfl, ?_⟩
          replace HO_0 := ak_ (Kd.V_below HO_0.out hb)
          replace HO383 := ak_ (Kd.V_below HO383.out hb)
          replace HB := ak_ (below_step HB.out hb)
          (try clear hb)
          refine hK.out _ _ ⟨HS0_, HS1_⟩ (fun hHeld => ?_)
          clear hK K
          refine norm_ (a' := ?_) ?_ ?_
          rotate_left
          ·show Act.put _ (some 34) _ = _
           simp only [Act.put, sb_, sz_, su_, i64_w, i32_w]
           rfl
          refine pu 17 (some 17) #[true, true, true, true, true, true, true, true, true, true, true, true, true, true, true, true, true, true, false, false, false, false] HT_.out rfl rfl ?_
          refine pu 18 (some 35) #[true, true, true, true, true, true, true, true, true, true, true, true, true, true, true, true, true, true, true, false, false, false] HT_.out rfl rfl ?_
          refine pu 19 (some 36) #[true, true, true, true, true, true, true, true, true, true, true, true, true, true, true, true, true, true, true, true, false, false] HT_.out rfl rfl ?_
          refine pu 20 (some 6) #[true, true, true, true, true, true, true, true, true, true, true, true, true, true, true, true, true, true, true, true, true, false] HT_.out rfl rfl ?_
          refine pu 21 (some 7) #[true, true, true, true, true, true, true, true, true, true, true, true, true, true, true, true, true, true, true, true, true, true] HT_.out rfl rfl ?_
          refine done_ (done_of HT_.out (by kernel_rfl)) ?_
          go_upto_if 38 with (fail)
          (try simp only [hji6, hji10])
          go_cut [] (fun wc => ∃ (kq : Nat), Aside0 (r06_Decode.j2 kq l0 (ji6) t386 t387 = some (r1, r2, r3)) ∧ Aside0 (kq ≤ kj3) ∧ Aside0 (Kd.V (Kd.int .u8) 5 wc w.heap.size (fun k_ => (P0_ k_ ∨ w.heap.size ≤ k_)) (.slice (some ad384) l0.length c0) l0) ∧ Aside0 (Below w.heap.size w wc))
          case first =>
           have H := HC14.out
           clear HC14
           by_cases c18 : t386 = 3
           ·rw [if_pos c18] at H
            have c18b0 := beq_iff_eq.mpr c18
            have c18b1 := bne_eq_false_iff_eq.mpr c18
            clear c18
            (rw [c18b0])
            simp only [Option.some.injEq, Prod.mk.injEq] at H
            obtain ⟨rfl, rfl, rfl⟩ := H
            go_wp2
            go_ret3
            exact ⟨_, by rfl, Kd.V_nil _ _ _ _ _, HB.out⟩
           ·rw [if_neg c18] at H
            have c18b0 := beq_eq_false_iff_ne.mpr c18
            have c18b1 := bne_iff_ne.mpr c18
            (rw [c18b0])
            have H' := ak_ H
            clear H
            go_wp2
            go_meet
            case rel => exact ⟨_, H', ⟨by have := HJ1.out; have := HJ3.out; omega⟩, ⟨HO_0.out⟩, ⟨HB.out⟩⟩
          case rest =>
           clear HC14 c7b0 c7b1 c8b0 c8b1 c9b0 c11b0 c12b0 q16 hx384_0 hx385_0 p384 p385 q384 q385
           obtain ⟨kq, HA, HJ13, HO_0, HB⟩ := hcut
           cases kq with
           | zero => exact absurd HA.out (by simp [r06_Decode.j2])
           | succ kj13 =>
            have H := HA.out
            clear HA
            simp only [r06_Decode.j2] at H
            have HC19 := ak_ H
            clear H
            go_upto_if 40 with (fail)
            go_cut [] (fun wc => ∃ (kq : Nat), Aside0 (r06_Decode.j3 kq l0 (ji6) t386 = some (r1, r2, r3)) ∧ Aside0 (kq ≤ kj13) ∧ Aside0 (Kd.V (Kd.int .u8) 5 wc w.heap.size (fun k_ => (P0_ k_ ∨ w.heap.size ≤ k_)) (.slice (some ad384) l0.length c0) l0) ∧ Aside0 (Below w.heap.size w wc))
            case first =>
             have H := HC19.out
             clear HC19
             by_cases c20 : t386 = 1
             ·rw [if_pos c20] at H
              have c20b0 := beq_iff_eq.mpr c20
              have c20b1 := bne_eq_false_iff_eq.mpr c20
              clear c20
              (rw [c20b0])
              by_cases c21 : 0 ≤ (ji6)
              ·rw [if_pos c21] at H
               have c21b0 := eq_true c21
               have c21b1 := dt_ c21
               clear c21
               by_cases c22 : (ji6) ≤ (l0.length : Int)
               ·rw [if_pos c22] at H
                have c22b0 := eq_true c22
                have c22b1 := dt_ c22
                clear c22
                have hy388 : y379 = (l0.take ((ji6) : Int).toNat) := Ny379.out
                replace H : ((r01_Flip.f kj13 y379 (([t387] : List Int))).bind fun t396 => (some (t396, 1, 0))) = some (r1, r2, r3) := (by rw [hy388]; with_reducible exact H)
                have Ny388 := ak_ hy388
                clear hy388
                obtain ⟨y393, hy393⟩ : ∃ y_ : List Int, y_ = (([t387] : List Int)) := ⟨_, rfl⟩
                replace H : ((r01_Flip.f kj13 y379 y393).bind fun t396 => (some (t396, 1, 0))) = some (r1, r2, r3) := (by rw [hy393]; with_reducible exact H)
                have Ny393 := ak_ hy393
                clear hy393
                obtain ⟨t396, A23, H⟩ := bs_ H
                simp only [Option.some.injEq, Prod.mk.injEq] at H
                obtain ⟨rfl, rfl, rfl⟩ := H
                have q24 : ((ji6) : Int) ≤ ((l0.length : Int) : Int) := od_ ‹_›
                obtain ⟨i024, hi024, _, hsz24, _⟩ := info_parts info5
                have hroom24 : l0.length ≤ c0 := (Kd.V_reads' HO_0.out).2.1
                have hC24 : Kd.F (Kd.int .u8) _ _ (some ad384) l0.length l0 := (Kd.V_at (base := w.heap.size) HO_0.out).2.2
                have hcut24 := cut_to (P := Try.prog) 24 5 .i64 Try.underlying24 hi024 (some ad384) l0.length c0 (ji6) (od_ ‹_›) q24 hroom24
                have hr24 := Kd.F_take (m := ((ji6) : Int).toNat) hC24 (by omega)
                have hy24 : y379.length = ((ji6) : Int).toNat := (by rw [Ny388.out, List.length_take]; omega)
                rw [← Ny388.out] at hr24
                rw [← hy24] at hcut24
                have HO392 := ak_ (show Kd.V (Kd.int .u8) 5 _ w.heap.size _ (.slice (some ad384) y379.length c0) y379 from Kd.V_mk (by omega) hr24)
                have HC392 := ak_ (show y379.length ≤ c0 from by omega)
                clear hr24 hC24 hroom24 hi024 hsz24
                have KY24 := ak_ hy24
                clear hy24
                replace q24 := eq_true q24
                go_wp2_with (first | ((with_reducible refine gate_dst (N := 45) rfl ?_); refine Kd.R_lit (Kd.int .i64) _ 3 ?hg (N := 45) ?hd (xs := ([t387] : List Int)) (inner := [.int .i64 t387]) (ok := fun _ => True) (okp := fun _ => True) ?hr ?hp (fun _ hk => hk) trivial (Below.refl _ _) (Nat.le_refl _) (by simp) ?_; (case hd => rfl); (case hg => rfl); (case hr => (go_simp; done)); (case hp => exact (Reps.one (show Kd.M (Kd.int .i64) _ _ _ t387 [.int .i64 t387] from rfl) (Reps.none _ _))); intro v394 w25 ho26 hb hg_ hnew_; clear hg_ hnew_; (rw [← Ny393.out] at ho26); replace HO_0 := ak_ (Kd.V_elder' HO_0.out (Kd.R_base ho26) hb); replace HO392 := ak_ (Kd.V_elder' HO392.out (Kd.R_base ho26) hb); have HO395 := ak_ (Kd.R_lower (Kd.R_newM (M := fun k_ => (w.heap.size ≤ k_)) ho26 (below_size HB.out) (fun k_ h_ => h_)) (below_size HB.out)); replace HB := ak_ (below_step HB.out hb); clear hb ho26; obtain ⟨Ao27, co27, eo27⟩ := Kd.R_slice HO395.out; subst eo27) | ((with_reducible refine gate_callee (f := 75) rfl ?_); refine goesL_ (some 46) rfl rfl Try.func75 (by kernel_rfl) rfl #[.slice (some ad384) y379.length c0, .slice Ao27 y393.length co27] rfl (by (try simp only [List.map_toArray, List.map_cons, List.map_nil]); first | done | rfl | (simp only [List.length_drop, List.length_take]; rfl)) ?_; (with_reducible refine (r01_Flip.calls kj13 _ _ y379 _ _ y393 t396 _ ?side1 ?side2 ?side3 ?side4 A23.out).mono ?_); (case side1 => exact (Kd.V_reads' HO392.out).2.2); (case side2 => exact (Kd.V_reads' HO392.out).2.1); (case side3 => exact (Kd.R_reads' HO395.out).2.2); (case side4 => exact (Kd.R_reads' HO395.out).2.1); rintro e w28 ⟨v397, rfl, ho0, hb⟩; refine ⟨_, rfl, ?_⟩; replace HO_0 := ak_ (Kd.V_elder' HO_0.out (Kd.R_base ho0) hb); replace HO392 := ak_ (Kd.V_elder' HO392.out (Kd.R_base ho0) hb); replace HO395 := ak_ (Kd.R_below HO395.out hb); have HO398 := ak_ (Kd.R_lower (Kd.R_newM (M := fun k_ => (w.heap.size ≤ k_)) ho0 (below_size HB.out) (fun k_ h_ => h_)) (below_size HB.out)); replace HB := ak_ (below_step HB.out hb); (try clear hb); (try clear ho0)))
                go_ret3
                exact ⟨_, by rfl, Kd.V_mono (Kd.R_V (Kd.R_mono HO398.out (fun _ hk => hk.1))) (fun k_ hk => by first | exact ⟨(.inr (hk.1)), hk.2⟩ | exact (.inr (hk))), HB.out⟩
               ·rw [if_neg c22] at H
                exact absurd H (by simp)
              ·rw [if_neg c21] at H
               exact absurd H (by simp)
             ·rw [if_neg c20] at H
              have c20b0 := beq_eq_false_iff_ne.mpr c20
              have c20b1 := bne_iff_ne.mpr c20
              (rw [c20b0])
              have H' := ak_ H
              clear H
              go_wp2
              go_meet
              case rel => exact ⟨_, H', ⟨by have := HJ1.out; have := HJ3.out; have := HJ13.out; omega⟩, ⟨HO_0.out⟩, ⟨HB.out⟩⟩
            case rest =>
             clear HC19
             obtain ⟨kq, HA, HJ18, HO_0, HB⟩ := hcut
             cases kq with
             | zero => exact absurd HA.out (by simp [r06_Decode.j3])
             | succ kj18 =>
              have H := HA.out
              clear HA
              simp only [r06_Decode.j3] at H
              by_cases c29 : t386 = 2
              ·rw [if_pos c29] at H
               have c29b0 := beq_iff_eq.mpr c29
               have c29b1 := bne_eq_false_iff_eq.mpr c29
               clear c29
               by_cases c30 : 0 ≤ (ji6)
               ·rw [if_pos c30] at H
                have c30b0 := eq_true c30
                have c30b1 := dt_ c30
                clear c30
                by_cases c31 : (ji6) ≤ (l0.length : Int)
                ·rw [if_pos c31] at H
                 have c31b0 := eq_true c31
                 have c31b1 := dt_ c31
                 clear c31
                 have hy399 : y379 = (l0.take ((ji6) : Int).toNat) := Ny379.out
                 replace H : (some (y379, 1, 0)) = some (r1, r2, r3) := (by rw [hy399]; with_reducible exact H)
                 have Ny399 := ak_ hy399
                 clear hy399
                 simp only [Option.some.injEq, Prod.mk.injEq] at H
                 obtain ⟨rfl, rfl, rfl⟩ := H
                 have q32 : ((ji6) : Int) ≤ ((l0.length : Int) : Int) := od_ ‹_›
                 obtain ⟨i032, hi032, _, hsz32, _⟩ := info_parts info5
                 have hroom32 : l0.length ≤ c0 := (Kd.V_reads' HO_0.out).2.1
                 have hC32 : Kd.F (Kd.int .u8) _ _ (some ad384) l0.length l0 := (Kd.V_at (base := w.heap.size) HO_0.out).2.2
                 have hcut32 := cut_to (P := Try.prog) 24 5 .i64 Try.underlying24 hi032 (some ad384) l0.length c0 (ji6) (od_ ‹_›) q32 hroom32
                 have hr32 := Kd.F_take (m := ((ji6) : Int).toNat) hC32 (by omega)
                 have hy32 : y379.length = ((ji6) : Int).toNat := (by rw [Ny399.out, List.length_take]; omega)
                 rw [← Ny399.out] at hr32
                 rw [← hy32] at hcut32
                 have HO403 := ak_ (show Kd.V (Kd.int .u8) 5 _ w.heap.size _ (.slice (some ad384) y379.length c0) y379 from Kd.V_mk (by omega) hr32)
                 have HC403 := ak_ (show y379.length ≤ c0 from by omega)
                 clear hr32 hC32 hroom32 hi032 hsz32
                 have KY32 := ak_ hy32
                 clear hy32
                 replace q32 := eq_true q32
                 go_wp2
                 go_ret3
                 exact ⟨_, by rfl, by (with_reducible repeat (first | apply Kd.V_alloc | apply Kd.V_drewN | apply Kd.V_drew)); exact HO403.out, HB.out⟩
                ·rw [if_neg c31] at H
                 exact absurd H (by simp)
               ·rw [if_neg c30] at H
                exact absurd H (by simp)
              ·rw [if_neg c29] at H
               have c29b0 := beq_eq_false_iff_ne.mpr c29
               have c29b1 := bne_iff_ne.mpr c29
               by_cases c33 : 0 ≤ (ji6)
               ·rw [if_pos c33] at H
                have c33b0 := eq_true c33
                have c33b1 := dt_ c33
                clear c33
                by_cases c34 : (ji6) ≤ (l0.length : Int)
                ·rw [if_pos c34] at H
                 have c34b0 := eq_true c34
                 have c34b1 := dt_ c34
                 clear c34
                 have hy404 : y379 = (l0.take ((ji6) : Int).toNat) := Ny379.out
                 replace H : (some (y379, 0, 0)) = some (r1, r2, r3) := (by rw [hy404]; with_reducible exact H)
                 have Ny404 := ak_ hy404
                 clear hy404
                 simp only [Option.some.injEq, Prod.mk.injEq] at H
                 obtain ⟨rfl, rfl, rfl⟩ := H
                 have q35 : ((ji6) : Int) ≤ ((l0.length : Int) : Int) := od_ ‹_›
                 obtain ⟨i035, hi035, _, hsz35, _⟩ := info_parts info5
                 have hroom35 : l0.length ≤ c0 := (Kd.V_reads' HO_0.out).2.1
                 have hC35 : Kd.F (Kd.int .u8) _ _ (some ad384) l0.length l0 := (Kd.V_at (base := w.heap.size) HO_0.out).2.2
                 have hcut35 := cut_to (P := Try.prog) 24 5 .i64 Try.underlying24 hi035 (some ad384) l0.length c0 (ji6) (od_ ‹_›) q35 hroom35
                 have hr35 := Kd.F_take (m := ((ji6) : Int).toNat) hC35 (by omega)
                 have hy35 : y379.length = ((ji6) : Int).toNat := (by rw [Ny404.out, List.length_take]; omega)
                 rw [← Ny404.out] at hr35
                 rw [← hy35] at hcut35
                 have HO408 := ak_ (show Kd.V (Kd.int .u8) 5 _ w.heap.size _ (.slice (some ad384) y379.length c0) y379 from Kd.V_mk (by omega) hr35)
                 have HC408 := ak_ (show y379.length ≤ c0 from by omega)
                 clear hr35 hC35 hroom35 hi035 hsz35
                 have KY35 := ak_ hy35
                 clear hy35
                 replace q35 := eq_true q35
                 go_wp2
                 go_ret3
                 exact ⟨_, by rfl, by (with_reducible repeat (first | apply Kd.V_alloc | apply Kd.V_drewN | apply Kd.V_drew)); exact HO408.out, HB.out⟩
                ·rw [if_neg c34] at H
                 exact absurd H (by simp)
               ·rw [if_neg c33] at H
                exact absurd H (by simp)
         ·rw [if_neg c12] at H
          exact absurd H (by simp)
        ·rw [if_neg c11] at H
         exact absurd H (by simp)
       ·rw [if_neg c9] at H
        exact absurd H (by simp)
      ·rw [if_neg c8] at H
       exact absurd H (by simp)
     ·rw [if_neg c7] at H
      exact absurd H (by simp)
end Go.Proofs.Ytmehbabchakkpaa.QLadderWalks
namespace Go.Proofs.Ytmehbabchakkpaa.QLadderWalks
open Go.RowKit YtmehbabchakkpaaW.PrintWords YtmehbabchakkpaaW.PrintLast YtmehbabchakkpaaW.PrintMore Short
attribute [local go_sem] max2_int min2_int max_two min_two max_three min_three max_four min_four
set_option linter.unusedVariables false
set_option maxHeartbeats 8000000
set_option maxRecDepth 100000
set_option linter.unusedSimpArgs false
mutual
def r06_All.j0 : Nat → List Int → Int → Bool → Option (List Int × Int × Int)
 | 0, _, _, _ => none
 | k + 1, x0, x1, x26 => if x26 = true then (some (([] : List Int), 0, 2)) else (r06_All.l0 k x0 x1 ([] : List Int) 0 0)
def r06_All.l0 : Nat → List Int → Int → List Int → Int → Int → Option (List Int × Int × Int)
 | 0, _, _, _, _, _ => none
 | k + 1, x0, x1, x7, x8, x9 => if x9 < (x0.length : Int) then (if 0 ≤ x9 then (if x9 ≤ (wrap64 ((wrap64 (x9 + x1)) + 2)) then (if (wrap64 ((wrap64 (x9 + x1)) + 2)) ≤ (x0.length : Int) then ((r06_Decode.f k ((x0.take ((wrap64 ((wrap64 (x9 + x1)) + 2)) : Int).toNat).drop (x9 : Int).toNat)).bind fun bt413 => (if bt413.2.2 = 0 then (if x7.length + bt413.1.length < 140737488355328 then (r06_All.l0 k x0 x1 (x7 ++ bt413.1) (wrap64 (x8 + bt413.2.1)) (wrap64 ((wrap64 (x9 + x1)) + 2))) else (none)) else (some (([] : List Int), 0, bt413.2.2)))) else (none)) else (none)) else (none)) else (some (x7, x8, 0))
end
def r06_All.f (k : Nat) (l0 : List Int) (a1 : Int) : Option (List Int × Int × Int) := if a1 < 1 then (r06_All.j0 k l0 a1 true) else (if a1 > 512 then (r06_All.j0 k l0 a1 true) else (if (wrap64 (a1 + 2)) = 0 then (none) else (r06_All.j0 k l0 a1 (((l0.length : Int) % (wrap64 (a1 + 2))) != 0))))
theorem r06_All.mono_l : ∀ k, (∀ y0 y1 y2, LeO (r06_All.j0 k y0 y1 y2) (r06_All.j0 (k + 1) y0 y1 y2)) ∧ (∀ y0 y1 y2 y3 y4, LeO (r06_All.l0 k y0 y1 y2 y3 y4) (r06_All.l0 (k + 1) y0 y1 y2 y3 y4))
 | 0 => ⟨fun _ _ _ r h => by simp [r06_All.j0] at h, fun _ _ _ _ _ r h => by simp [r06_All.l0] at h⟩
 | k + 1 => by
  obtain ⟨ih0, ih1⟩ := r06_All.mono_l k
  refine ⟨?_, ?_⟩
  ·intro y0 y1 y2
   unfold r06_All.j0
   repeat' first
   | (with_reducible exact ih0 _ _ _)
   | (with_reducible exact ih1 _ _ _ _ _)
   | (with_reducible exact r06_Decode.mono _ _)
   | (with_reducible exact LeO.refl _)
   | (with_reducible exact LeO.none _)
   | (with_reducible refine LeO.ite ?_ ?_)
   | (with_reducible refine LeO.bind ?_ (fun _ => ?_))
  ·intro y0 y1 y2 y3 y4
   unfold r06_All.l0
   repeat' first
   | (with_reducible exact ih0 _ _ _)
   | (with_reducible exact ih1 _ _ _ _ _)
   | (with_reducible exact r06_Decode.mono _ _)
   | (with_reducible exact LeO.refl _)
   | (with_reducible exact LeO.none _)
   | (with_reducible refine LeO.ite ?_ ?_)
   | (with_reducible refine LeO.bind ?_ (fun _ => ?_))
theorem r06_All.mono : ∀ a0 a1 k, LeO (r06_All.f k a0 a1) (r06_All.f (k + 1) a0 a1) := by
 intro a0 a1 k
 obtain ⟨ih0, ih1⟩ := r06_All.mono_l k
 unfold r06_All.f
 repeat' with_reducible first
  | exact ih0 _ _ _
  | exact ih1 _ _ _ _ _
  | exact r06_Decode.mono _ _
  | exact LeO.refl _
  | exact LeO.none _
  | refine LeO.ite ?_ ?_
  | refine LeO.bind ?_ (fun _ => ?_)
theorem r06_All.calls (k : Nat) (A0 : Option Addr) (c0 : Nat) (l0 : List Int) (a1 : Int) (r1 : List Int) (r2 : Int) (r3 : Int) (w : World) (hr0 : Kd.C (Kd.int .u8) w A0 l0.length l0) (hc0 : l0.length ≤ c0) (h : r06_All.f k l0 a1 = some (r1, r2, r3)) :
  Calls Try.prog 53 #[.slice A0 l0.length c0, .int .i64 a1] w fun e w' => ∃ v0_ : Value, e = .returned (.tuple #[v0_, .int .i64 r2, .int .i64 r3]) ∧ Kd.R (Kd.int .u8) 5 w' w.heap.size (fun _ => True) v0_ r1 ∧ Below w.heap.size w w' := by
 have HR0 := ak_ hr0
 have HC0 := ak_ hc0
 clear hr0 hc0
 have HB := br_ w
 unfold r06_All.f at h
 have H := h
 clear h
 have HC3 := ak_ H
 clear H
 go_enter Try.func53, Try.ntmps53
 go_upto_region 1 with (fail)
 go_cut [26] (fun v26 wc => ∃ (kq : Nat) (x26_2 : Bool), v26 = .bool x26_2 ∧ Aside0 (r06_All.j0 kq l0 a1 x26_2 = some (r1, r2, r3)) ∧ Aside0 (kq ≤ k) ∧ Aside0 (Below w.heap.size w wc))
 case first =>
  have H := HC3.out
  clear HC3
  by_cases c4 : a1 < 1
  ·rw [if_pos c4] at H
   have c4b0 := dt_ c4
   clear c4
   (first | rw [c4b0] | (simp only [i64_w, i32_w]; rw [c4b0]) | skip)
   have H' := ak_ H
   clear H
   go_wp2
   go_meet
   case rel => exact ⟨_, (true), (by rfl), H', ⟨by omega⟩, ⟨HB.out⟩⟩
  ·rw [if_neg c4] at H
   have c4b0 := df_ c4
   clear c4
   (first | rw [c4b0] | (simp only [i64_w, i32_w]; rw [c4b0]) | skip)
   by_cases c5 : a1 > 512
   ·rw [if_pos c5] at H
    have c5b0 : decide (512 < a1) = true := dt_ c5
    clear c5
    have H' := ak_ H
    clear H
    go_wp2
    go_meet
    case rel => exact ⟨_, (true), (by rfl), H', ⟨by omega⟩, ⟨HB.out⟩⟩
   ·rw [if_neg c5] at H
    have c5b0 : decide (512 < a1) = false := df_ c5
    clear c5
    by_cases c6 : (wrap64 (a1 + 2)) = 0
    ·rw [if_pos c6] at H
     exact absurd H (by simp)
    ·rw [if_neg c6] at H
     have c6b0 := beq_eq_false_iff_ne.mpr c6
     have c6b1 := bne_iff_ne.mpr c6
     have H' := ak_ H
     clear H
     go_wp2
     go_meet
     case rel => exact ⟨_, ((((l0.length : Int) % (wrap64 (a1 + 2))) != 0)), (by rfl), H', ⟨by omega⟩, ⟨HB.out⟩⟩
 case rest =>
  clear HC3
  obtain ⟨kq, x26_2, rfl, HA, HJ2, HB⟩ := hcut
  cases kq with
  | zero => exact absurd HA.out (by simp [r06_All.j0])
  | succ kj2 =>
   have H := HA.out
   clear HA
   simp only [r06_All.j0] at H
   by_cases c7 : x26_2 = true
   ·subst c7
    rw [if_pos rfl] at H
    simp only [Option.some.injEq, Prod.mk.injEq] at H
    obtain ⟨rfl, rfl, rfl⟩ := H
    go_wp2
    go_ret3
    exact ⟨_, by rfl, (Kd.R_nil _ _ _ _ _), HB.out⟩
   ·replace c7 := Bool.eq_false_iff.mpr c7
    subst c7
    rw [if_neg (show ¬ (false = true) by decide)] at H
    have H' := ak_ H
    clear H
    go_wp2
    go_loopg [7, 8, 9] kj2 (fun kq v7 v8 v9 w' => ∃ (x7_2 : List Int) (x8_2 : Int) (x9_2 : Int), v8 = .int .i64 x8_2 ∧ v9 = .int .i64 x9_2 ∧ Aside0 (r06_All.l0 kq l0 a1 x7_2 x8_2 x9_2 = some (r1, r2, r3)) ∧ Aside0 (kq ≤ kj2) ∧ Aside0 (Kd.R (Kd.int .u8) 5 w' w.heap.size (fun _ => True) v7 x7_2) ∧ Aside0 (Below w.heap.size w w'))
    case atStart => exact ⟨(([] : List Int)), (0), (0), (by rfl), (by rfl), H', ⟨Nat.le_refl _⟩, ⟨(Kd.R_nil _ _ _ _ _)⟩, ⟨HB.out⟩⟩
    case round =>
     clear H'
     obtain ⟨x7_2, x8_2, x9_2, rfl, rfl, HA, HK2, HO_7, HB⟩ := hrel
     cases gk with
     | zero => exact absurd HA.out (by simp [r06_All.l0])
     | succ k2 =>
      have H := HA.out
      clear HA
      simp only [r06_All.l0] at H
      by_cases c8 : x9_2 < (l0.length : Int)
      ·rw [if_pos c8] at H
       have c8b0 := dt_ c8
       clear c8
       by_cases c9 : 0 ≤ x9_2
       ·rw [if_pos c9] at H
        have c9b0 := eq_true c9
        have c9b1 := dt_ c9
        clear c9
        by_cases c10 : x9_2 ≤ (wrap64 ((wrap64 (x9_2 + a1)) + 2))
        ·rw [if_pos c10] at H
         have c10b0 := eq_true c10
         have c10b1 := dt_ c10
         by_cases c11 : (wrap64 ((wrap64 (x9_2 + a1)) + 2)) ≤ (l0.length : Int)
         ·rw [if_pos c11] at H
          have c11b0 := eq_true c11
          have c11b1 := dt_ c11
          obtain ⟨⟨t318, t321, t322⟩, A12, H⟩ := bs_ H
          try dsimp only at H
          by_cases c13 : t322 = 0
          ·rw [if_pos c13] at H
           have c13b0 := beq_iff_eq.mpr c13
           have c13b1 := bne_eq_false_iff_eq.mpr c13
           clear c13
           by_cases c14 : x7_2.length + t318.length < 140737488355328
           ·rw [if_pos c14] at H
            have LMc14 := ak_ c14
            clear c14
            obtain ⟨y323, hy323⟩ : ∃ y_ : List Int, y_ = (x7_2 ++ t318) := ⟨_, rfl⟩
            replace H : (r06_All.l0 k2 l0 a1 y323 (wrap64 (x8_2 + t321)) (wrap64 ((wrap64 (x9_2 + a1)) + 2))) = some (r1, r2, r3) := (by rw [hy323]; with_reducible exact H)
            have Ny323 := ak_ hy323
            clear hy323
            have H' := ak_ H
            clear H
            obtain ⟨i015, hi015, _, hsz15, _⟩ := info_parts info5
            obtain ⟨A15, hcut15, hA15, hC15⟩ := print_mid_of (P := Try.prog) (Value.int .u8) 0 24 5 .i64 .i64 Try.underlying24 hi015 hsz15 A0 c0 l0 x9_2 (wrap64 ((wrap64 (x9_2 + a1)) + 2)) (od_ ‹_›) (by omega) (od_ ‹_›) HC0.out
            have HR317 := ak_ (Kd.C_of_reads (h1 := fun _ => rfl) (hA15 _ (Kd.reads_of_C HR0.out)))
            have HC317 := ak_ hC15
            clear hA15 hC15 hi015 hsz15
            go_wp2_with (first | ((with_reducible refine gate_callee (f := 54) rfl ?_); refine goesL_ (some 43) rfl rfl Try.func54 (by kernel_rfl) rfl #[.slice A15 ((l0.take ((wrap64 ((wrap64 (x9_2 + a1)) + 2)) : Int).toNat).drop (x9_2 : Int).toNat).length (c0 - x9_2.toNat)] rfl (by (try simp only [List.map_toArray, List.map_cons, List.map_nil]); first | done | (rw [show ((l0.take ((wrap64 ((wrap64 (x9_2 + a1)) + 2)) : Int).toNat).drop (x9_2 : Int).toNat).length = ((wrap64 ((wrap64 (x9_2 + a1)) + 2)).toNat - x9_2.toNat) from (by rw [List.length_drop, List.length_take]; have h_ : ((wrap64 ((wrap64 (x9_2 + a1)) + 2)) : Int) ≤ (l0.length : Int) := od_ ‹_›; omega)] <;> rfl) | rfl | (simp only [List.length_drop, List.length_take]; rfl)) ?_; (with_reducible refine (r06_Decode.calls k2 (fun k_ => k_ < w.heap.size) _ _ ((l0.take ((wrap64 ((wrap64 (x9_2 + a1)) + 2)) : Int).toNat).drop (x9_2 : Int).toNat) t318 t321 t322 _ ?side1 A12.out).mono ?_); (case side1 => exact Kd.V_mk HC317.out (Kd.F_below (Kd.C_F (Kd.heap_int .u8) HR317.out) HB.out)); rintro e w16 ⟨v319, rfl, ho0, hb⟩; refine ⟨_, rfl, ?_⟩; have HO320 := ak_ (Kd.V_lower (Kd.V_mono (ok' := fun k_ => some k_ ≠ (u7 : Value).ownBlock) ho0 (fun k_ hk_ => Or.elim hk_ (fun hs_ => fun e_ => Nat.not_le.2 hs_ (Kd.R_base HO_7.out k_ e_.symm)) (fun hn_ => (Kd.fresh' (Kd.R_lt HO_7.out) k_ hn_)))) (below_size HB.out)); replace HO_7 := ak_ (Kd.R_below HO_7.out hb); replace HB := ak_ (below_step HB.out hb); (try clear hb); (try clear ho0); obtain ⟨Ao18, co18, eo18⟩ := Kd.V_slice HO320.out; subst eo18) | ((with_reducible refine gate_builtin (b := .append) (xs := #[.tmp 50, .tmp 51]) rfl ?_); (try (refine gate_guard (by rfl) ?_; dsimp only)); at_builtin; refine Kd.R_append_rows (Kd.int .u8) (w0 := w) w.heap.size rfl (.tmp 50) (.tmp 51) 24 5 (.int .u8 0) 1 rfl Try.underlying24 info5 rfl (by decide) (by omega) u7 x7_2 t318 _ _ _ (fun _ => True) (fun _ => False) rfl rfl ?aO ?aR (fun _ _ h => h) (fun _ h => h.elim) ?aF ?aB ?aS ?aL ?_; (case aR => repeat (first | exact (Kd.V_reads' HO320.out).2.2 | (with_reducible refine Kd.C_alloc ?_ _) | (with_reducible refine Kd.C_drewN ?_ _) | (with_reducible refine Kd.C_drew ?_))); (case aB => exact HB.out); (case aF => exact (fun _ _ => trivial)); (case aO => exact HO_7.out); (case aS => exact (below_size HB.out)); (case aL => have := LMc14.out; omega); intro v324 w17 ho hb hg hat; rw [← Ny323.out] at ho; have n0_ := ak_ (Kd.V_afterv (ok := (fun _ => True)) (Kd.V_mono HO320.out (fun _ hk => ⟨trivial, hk⟩)) hg hat); have n1_ := ak_ (hb); have n2_ := ak_ (ho); clear HO320; clear HB; clear HO_7; have HO320 := n0_; have HB := n1_; have HO325 := n2_; clear n0_ n1_ n2_; clear ho hb hg hat))
            go_roundg k2
            case measure => have := HJ2.out; have := HK2.out; omega
            case rel => exact ⟨(y323), (wrap64 (x8_2 + t321)), (wrap64 ((wrap64 (x9_2 + a1)) + 2)), (by rfl), (by rfl), H', ⟨by have := HJ2.out; have := HK2.out; omega⟩, ⟨HO325.out⟩, ⟨HB.out⟩⟩
           ·rw [if_neg c14] at H
            exact absurd H (by simp)
          ·rw [if_neg c13] at H
           have c13b0 := beq_eq_false_iff_ne.mpr c13
           have c13b1 := bne_iff_ne.mpr c13
           simp only [Option.some.injEq, Prod.mk.injEq] at H
           obtain ⟨rfl, rfl, rfl⟩ := H
           obtain ⟨i019, hi019, _, hsz19, _⟩ := info_parts info5
           obtain ⟨A19, hcut19, hA19, hC19⟩ := print_mid_of (P := Try.prog) (Value.int .u8) 0 24 5 .i64 .i64 Try.underlying24 hi019 hsz19 A0 c0 l0 x9_2 (wrap64 ((wrap64 (x9_2 + a1)) + 2)) (od_ ‹_›) (by omega) (od_ ‹_›) HC0.out
           have HR317 := ak_ (Kd.C_of_reads (h1 := fun _ => rfl) (hA19 _ (Kd.reads_of_C HR0.out)))
           have HC317 := ak_ hC19
           clear hA19 hC19 hi019 hsz19
           go_wp2_with ((with_reducible refine gate_callee (f := 54) rfl ?_); refine goesL_ (some 43) rfl rfl Try.func54 (by kernel_rfl) rfl #[.slice A19 ((l0.take ((wrap64 ((wrap64 (x9_2 + a1)) + 2)) : Int).toNat).drop (x9_2 : Int).toNat).length (c0 - x9_2.toNat)] rfl (by (try simp only [List.map_toArray, List.map_cons, List.map_nil]); first | done | (rw [show ((l0.take ((wrap64 ((wrap64 (x9_2 + a1)) + 2)) : Int).toNat).drop (x9_2 : Int).toNat).length = ((wrap64 ((wrap64 (x9_2 + a1)) + 2)).toNat - x9_2.toNat) from (by rw [List.length_drop, List.length_take]; have h_ : ((wrap64 ((wrap64 (x9_2 + a1)) + 2)) : Int) ≤ (l0.length : Int) := od_ ‹_›; omega)] <;> rfl) | rfl | (simp only [List.length_drop, List.length_take]; rfl)) ?_; (with_reducible refine (r06_Decode.calls k2 (fun k_ => k_ < w.heap.size) _ _ ((l0.take ((wrap64 ((wrap64 (x9_2 + a1)) + 2)) : Int).toNat).drop (x9_2 : Int).toNat) t318 t321 t322 _ ?side1 A12.out).mono ?_); (case side1 => exact Kd.V_mk HC317.out (Kd.F_below (Kd.C_F (Kd.heap_int .u8) HR317.out) HB.out)); rintro e w20 ⟨v319, rfl, ho0, hb⟩; refine ⟨_, rfl, ?_⟩; have HO320 := ak_ (Kd.V_lower (Kd.V_mono (ok' := fun k_ => some k_ ≠ (u7 : Value).ownBlock) ho0 (fun k_ hk_ => Or.elim hk_ (fun hs_ => fun e_ => Nat.not_le.2 hs_ (Kd.R_base HO_7.out k_ e_.symm)) (fun hn_ => (Kd.fresh' (Kd.R_lt HO_7.out) k_ hn_)))) (below_size HB.out)); replace HO_7 := ak_ (Kd.R_below HO_7.out hb); replace HB := ak_ (below_step HB.out hb); (try clear hb); (try clear ho0))
           go_ret3
           exact ⟨_, by rfl, (Kd.R_nil _ _ _ _ _), HB.out⟩
         ·rw [if_neg c11] at H
          exact absurd H (by simp)
        ·rw [if_neg c10] at H
         exact absurd H (by simp)
       ·rw [if_neg c9] at H
        exact absurd H (by simp)
      ·rw [if_neg c8] at H
       have c8b0 := df_ c8
       clear c8
       simp only [Option.some.injEq, Prod.mk.injEq] at H
       obtain ⟨rfl, rfl, rfl⟩ := H
       go_wp2
       go_ret3
       exact ⟨_, by rfl, by (with_reducible repeat (first | apply Kd.R_alloc | apply Kd.R_drewN | apply Kd.R_drew)); exact HO_7.out, HB.out⟩
def r07_from.f (a0 : Int) (a1 : Int) (a2 : Int) : Option (Bool) := if a0 ≥ a1 then (some (decide (a0 ≤ a2))) else (some false)
theorem r07_from.calls (a0 : Int) (a1 : Int) (a2 : Int) (r : Bool) (w : World) (h : r07_from.f a0 a1 a2 = some r) :
  Calls Try.prog 44 #[.int .i64 a0, .int .i64 a1, .int .i64 a2] w fun e w' => e = .returned (.bool r) ∧ Drawn0 w w' := by
 unfold r07_from.f at h
 have H := h
 clear h
 by_cases c4 : a0 ≥ a1
 ·rw [if_pos c4] at H
  have c4b0 : decide (a1 ≤ a0) = true := dt_ c4
  clear c4
  obtain rfl := si_ H
  go_enter Try.func44, Try.ntmps44
  go_wp2
  go_ret
  exact ⟨by rfl, by repeat (first | exact Drawn0.refl _ | apply Drawn0.step)⟩
 ·rw [if_neg c4] at H
  have c4b0 : decide (a1 ≤ a0) = false := df_ c4
  clear c4
  obtain rfl := si_ H
  go_enter Try.func44, Try.ntmps44
  go_wp2
  go_ret
  exact ⟨by rfl, by repeat (first | exact Drawn0.refl _ | apply Drawn0.step)⟩
def r07_May.f (a0_0 : Int) (a0_1 : Int) (a0_2 : Int) (a0_3 : Int) : Option (Bool) := (r07_from.f a0_0 1 4).bind fun t422 => (if t422 = true then ((r07_from.f a0_1 0 2147483648).bind fun t423 => (if t423 = true then ((r07_from.f a0_2 0 2305843009213693952).bind fun t424 => (if t424 = true then ((r07_from.f a0_3 0 2147483648).bind fun t425 => (some t425)) else (some false))) else (some false))) else (some false))
theorem r07_May.calls (a0_0 : Int) (a0_1 : Int) (a0_2 : Int) (a0_3 : Int) (r : Bool) (w : World) (h : r07_May.f a0_0 a0_1 a0_2 a0_3 = some r) :
  Calls Try.prog 19 #[.agg #[.int .i64 a0_0, .int .i64 a0_1, .int .i64 a0_2, .int .i64 a0_3]] w fun e w' => e = .returned (.bool r) ∧ Below w.heap.size w w' := by
 have hu26 := Try.underlying26
 have HB := br_ w
 unfold r07_May.f at h
 have H := h
 clear h
 obtain ⟨t419, A2, H⟩ := bs_ H
 by_cases c3 : t419 = true
 ·subst c3
  rw [if_pos rfl] at H
  obtain ⟨t420, A4, H⟩ := bs_ H
  by_cases c5 : t420 = true
  ·subst c5
   rw [if_pos rfl] at H
   obtain ⟨t421, A6, H⟩ := bs_ H
   by_cases c7 : t421 = true
   ·subst c7
    rw [if_pos rfl] at H
    obtain ⟨t422, A8, H⟩ := bs_ H
    obtain rfl := si_ H
    go_enter Try.func19, Try.ntmps19
    go_wp2_with (first | ((with_reducible refine gate_dst (N := 1) rfl ?_); refine box_event ?hg (N := 1) ?hd (cs := #[.int .i64 a0_0, .int .i64 a0_1, .int .i64 a0_2, .int .i64 a0_3]) (t := 26) ?hr ?_; (case hd => rfl); (case hg => rfl); (case hr => (go_simp; done)); intro gb418 hg w9 hbox hb; have BK418 := ak_ (hbox); have GW418 := ak_ (gw_ hg (below_size HB.out)); have GE418 := ak_ (gw_ hg (below_size HB.out)); replace HB := ak_ (below_step HB.out hb); clear hb hbox hg; obtain ⟨hcz10_0, hcz10_1, hcz10_2, hcz10_3⟩ := cells4 BK418.out; obtain ⟨hfz10_0, hfz10_1, hfz10_2, hfz10_3⟩ := froz4 BK418.out) | ((with_reducible refine gate_callee (f := 44) rfl ?_); refine goesL_ (some 5) rfl rfl Try.func44 (by kernel_rfl) rfl #[.int .i64 a0_0, .int .i64 1, .int .i64 4] rfl (by (try simp only [List.map_toArray, List.map_cons, List.map_nil]); first | done | rfl | (simp only [List.length_drop, List.length_take]; rfl)) ?_; (with_reducible refine (r07_from.calls a0_0 1 4 true _ A2.out).mono ?_); rintro e w' ⟨rfl, ⟨nd, rfl⟩⟩; refine ⟨_, rfl, ?_⟩) | (go_at_call 44; (with_reducible refine (r07_from.calls _ _ _ _ _ (Aside0.out (by assumption))).mono ?_); rintro e w' ⟨rfl, ⟨nd, rfl⟩⟩))
    go_ret
    exact ⟨by rfl, by repeat (first | (with_reducible first | exact HB.out | apply below_alloc | apply pw_below_drewN | apply below_drew1 | refine below_set ?_ GE418.out) | exact HB.out)⟩
   ·replace c7 := Bool.eq_false_iff.mpr c7
    subst c7
    rw [if_neg (show ¬ (false = true) by decide)] at H
    obtain rfl := si_ H
    go_enter Try.func19, Try.ntmps19
    go_wp2_with (first | ((with_reducible refine gate_dst (N := 1) rfl ?_); refine box_event ?hg (N := 1) ?hd (cs := #[.int .i64 a0_0, .int .i64 a0_1, .int .i64 a0_2, .int .i64 a0_3]) (t := 26) ?hr ?_; (case hd => rfl); (case hg => rfl); (case hr => (go_simp; done)); intro gb418 hg w11 hbox hb; have BK418 := ak_ (hbox); have GW418 := ak_ (gw_ hg (below_size HB.out)); have GE418 := ak_ (gw_ hg (below_size HB.out)); replace HB := ak_ (below_step HB.out hb); clear hb hbox hg; obtain ⟨hcz12_0, hcz12_1, hcz12_2, hcz12_3⟩ := cells4 BK418.out; obtain ⟨hfz12_0, hfz12_1, hfz12_2, hfz12_3⟩ := froz4 BK418.out) | ((with_reducible refine gate_callee (f := 44) rfl ?_); refine goesL_ (some 5) rfl rfl Try.func44 (by kernel_rfl) rfl #[.int .i64 a0_0, .int .i64 1, .int .i64 4] rfl (by (try simp only [List.map_toArray, List.map_cons, List.map_nil]); first | done | rfl | (simp only [List.length_drop, List.length_take]; rfl)) ?_; (with_reducible refine (r07_from.calls a0_0 1 4 true _ A2.out).mono ?_); rintro e w' ⟨rfl, ⟨nd, rfl⟩⟩; refine ⟨_, rfl, ?_⟩) | (go_at_call 44; (with_reducible refine (r07_from.calls _ _ _ _ _ (Aside0.out (by assumption))).mono ?_); rintro e w' ⟨rfl, ⟨nd, rfl⟩⟩))
    go_ret
    exact ⟨by rfl, by repeat (first | (with_reducible first | exact HB.out | apply below_alloc | apply pw_below_drewN | apply below_drew1 | refine below_set ?_ GE418.out) | exact HB.out)⟩
  ·replace c5 := Bool.eq_false_iff.mpr c5
   subst c5
   rw [if_neg (show ¬ (false = true) by decide)] at H
   obtain rfl := si_ H
   go_enter Try.func19, Try.ntmps19
   go_wp2_with (first | ((with_reducible refine gate_dst (N := 1) rfl ?_); refine box_event ?hg (N := 1) ?hd (cs := #[.int .i64 a0_0, .int .i64 a0_1, .int .i64 a0_2, .int .i64 a0_3]) (t := 26) ?hr ?_; (case hd => rfl); (case hg => rfl); (case hr => (go_simp; done)); intro gb418 hg w13 hbox hb; have BK418 := ak_ (hbox); have GW418 := ak_ (gw_ hg (below_size HB.out)); have GE418 := ak_ (gw_ hg (below_size HB.out)); replace HB := ak_ (below_step HB.out hb); clear hb hbox hg; obtain ⟨hcz14_0, hcz14_1, hcz14_2, hcz14_3⟩ := cells4 BK418.out; obtain ⟨hfz14_0, hfz14_1, hfz14_2, hfz14_3⟩ := froz4 BK418.out) | ((with_reducible refine gate_callee (f := 44) rfl ?_); refine goesL_ (some 5) rfl rfl Try.func44 (by kernel_rfl) rfl #[.int .i64 a0_0, .int .i64 1, .int .i64 4] rfl (by (try simp only [List.map_toArray, List.map_cons, List.map_nil]); first | done | rfl | (simp only [List.length_drop, List.length_take]; rfl)) ?_; (with_reducible refine (r07_from.calls a0_0 1 4 true _ A2.out).mono ?_); rintro e w' ⟨rfl, ⟨nd, rfl⟩⟩; refine ⟨_, rfl, ?_⟩) | (go_at_call 44; (with_reducible refine (r07_from.calls a0_1 0 2147483648 false _ A4.out).mono ?_); rintro e w' ⟨rfl, ⟨nd, rfl⟩⟩))
   go_ret
   exact ⟨by rfl, by repeat (first | (with_reducible first | exact HB.out | apply below_alloc | apply pw_below_drewN | apply below_drew1 | refine below_set ?_ GE418.out) | exact HB.out)⟩
 ·replace c3 := Bool.eq_false_iff.mpr c3
  subst c3
  rw [if_neg (show ¬ (false = true) by decide)] at H
  obtain rfl := si_ H
  go_enter Try.func19, Try.ntmps19
  go_wp2_with (first | ((with_reducible refine gate_dst (N := 1) rfl ?_); refine box_event ?hg (N := 1) ?hd (cs := #[.int .i64 a0_0, .int .i64 a0_1, .int .i64 a0_2, .int .i64 a0_3]) (t := 26) ?hr ?_; (case hd => rfl); (case hg => rfl); (case hr => (go_simp; done)); intro gb418 hg w15 hbox hb; have BK418 := ak_ (hbox); have GW418 := ak_ (gw_ hg (below_size HB.out)); have GE418 := ak_ (gw_ hg (below_size HB.out)); replace HB := ak_ (below_step HB.out hb); clear hb hbox hg; obtain ⟨hcz16_0, hcz16_1, hcz16_2, hcz16_3⟩ := cells4 BK418.out; obtain ⟨hfz16_0, hfz16_1, hfz16_2, hfz16_3⟩ := froz4 BK418.out) | ((with_reducible refine gate_callee (f := 44) rfl ?_); refine goesL_ (some 5) rfl rfl Try.func44 (by kernel_rfl) rfl #[.int .i64 a0_0, .int .i64 1, .int .i64 4] rfl (by (try simp only [List.map_toArray, List.map_cons, List.map_nil]); first | done | rfl | (simp only [List.length_drop, List.length_take]; rfl)) ?_; (with_reducible refine (r07_from.calls a0_0 1 4 false _ A2.out).mono ?_); rintro e w' ⟨rfl, ⟨nd, rfl⟩⟩; refine ⟨_, rfl, ?_⟩))
  go_ret
  exact ⟨by rfl, by repeat (first | (with_reducible first | exact HB.out | apply below_alloc | apply pw_below_drewN | apply below_drew1 | refine below_set ?_ GE418.out) | exact HB.out)⟩
def r07_sizes.f  : Option (List Int) := some (([2, 1, 4, 8, 4, 5] : List Int))
theorem r07_sizes.calls  (r : List Int) (w : World) (h : r07_sizes.f  = some r) :
  Calls Try.prog 72 #[] w fun e w' => ∃ v0_ : Value, e = .returned (v0_) ∧ Kd.R (Kd.int .i64) 3 w' w.heap.size (fun _ => True) v0_ r ∧ Below w.heap.size w w' := by
 have HB := br_ w
 unfold r07_sizes.f at h
 have H := h
 clear h
 obtain ⟨y331, hy331⟩ : ∃ y_ : List Int, y_ = (([2, 1, 4, 8, 4, 5] : List Int)) := ⟨_, rfl⟩
 replace H : (some y331) = some r := (by rw [hy331]; with_reducible exact H)
 have Ny331 := ak_ hy331
 clear hy331
 obtain rfl := si_ H
 go_enter Try.func72, Try.ntmps72
 go_wp2_with ((with_reducible refine gate_dst (N := 1) rfl ?_); refine Kd.R_lit (Kd.int .i64) _ 3 ?hg (N := 1) ?hd (xs := ([2, 1, 4, 8, 4, 5] : List Int)) (inner := [.int .i64 2, .int .i64 1, .int .i64 4, .int .i64 8, .int .i64 4, .int .i64 5]) (ok := fun _ => True) (okp := fun _ => True) ?hr ?hp (fun _ hk => hk) trivial (Below.refl _ _) (Nat.le_refl _) (by simp) ?_; (case hd => rfl); (case hg => rfl); (case hr => (go_simp; done)); (case hp => exact (Reps.one (show Kd.M (Kd.int .i64) _ _ _ 2 [.int .i64 2] from rfl) (Reps.one (show Kd.M (Kd.int .i64) _ _ _ 1 [.int .i64 1] from rfl) (Reps.one (show Kd.M (Kd.int .i64) _ _ _ 4 [.int .i64 4] from rfl) (Reps.one (show Kd.M (Kd.int .i64) _ _ _ 8 [.int .i64 8] from rfl) (Reps.one (show Kd.M (Kd.int .i64) _ _ _ 4 [.int .i64 4] from rfl) (Reps.one (show Kd.M (Kd.int .i64) _ _ _ 5 [.int .i64 5] from rfl) (Reps.none _ _)))))))); intro v332 w1 ho2 hb hg_ hnew_; clear hg_ hnew_; (rw [← Ny331.out] at ho2); have HO333 := ak_ (Kd.R_lower ho2 (below_size HB.out)); replace HB := ak_ (below_step HB.out hb); clear hb ho2)
 go_ret
 exact ⟨_, by rfl, by (with_reducible repeat (first | apply Kd.R_alloc | apply Kd.R_drewN | apply Kd.R_drew)); exact HO333.out, HB.out⟩
def r03_Size.l0 : Nat → List Int → Int → Int → Option (Int × Bool)
 | 0, _, _, _ => none
 | k + 1, x0, x4, x5 => if x5 < (x0.length : Int) then (if x5 ≥ 64 then (some (0, false)) else (if 0 ≤ x5 then (if (rd x0 x5) < 1 then (some (0, false)) else (if (rd x0 x5) > 8 then (some (0, false)) else (r03_Size.l0 k x0 (wrap64 (x4 + (rd x0 x5))) (wrap64 (x5 + 1))))) else (none))) else (some (x4, true))
def r03_Size.f (k : Nat) (l0 : List Int) : Option (Int × Bool) := r03_Size.l0 k l0 0 0
theorem r03_Size.mono_l : ∀ k, (∀ y0 y1 y2, LeO (r03_Size.l0 k y0 y1 y2) (r03_Size.l0 (k + 1) y0 y1 y2))
 | 0 => fun _ _ _ r h => by simp [r03_Size.l0] at h
 | k + 1 => by
  have ih0 := r03_Size.mono_l k
  ·intro y0 y1 y2
   unfold r03_Size.l0
   repeat' first
   | (with_reducible exact ih0 _ _ _)
   | (with_reducible exact LeO.refl _)
   | (with_reducible exact LeO.none _)
   | (with_reducible refine LeO.ite ?_ ?_)
   | (with_reducible refine LeO.bind ?_ (fun _ => ?_))
theorem r03_Size.mono : ∀ a0 k, LeO (r03_Size.f k a0) (r03_Size.f (k + 1) a0) := by
 intro a0 k
 have ih0 := r03_Size.mono_l k
 unfold r03_Size.f
 repeat' with_reducible first
  | exact ih0 _ _ _
  | exact LeO.refl _
  | exact LeO.none _
  | refine LeO.ite ?_ ?_
  | refine LeO.bind ?_ (fun _ => ?_)
theorem r03_Size.calls (k : Nat) (A0 : Option Addr) (c0 : Nat) (l0 : List Int) (r1 : Int) (r2 : Bool) (w : World) (hr0 : Kd.C (Kd.int .i64) w A0 l0.length l0) (hc0 : l0.length ≤ c0) (h : r03_Size.f k l0 = some (r1, r2)) :
  Calls Try.prog 88 #[.slice A0 l0.length c0] w fun e w' => e = .returned (.tuple #[.int .i64 r1, .bool r2]) ∧ Drawn0 w w' := by
 have HR0 := ak_ hr0
 have HC0 := ak_ hc0
 clear hr0 hc0
 unfold r03_Size.f at h
 have H := h
 clear h
 have H' := ak_ H
 clear H
 go_enter Try.func88, Try.ntmps88
 go_wp2
 go_loopg [4, 5] k (fun kq v4 v5 w' => ∃ (x4_1 : Int) (x5_1 : Int), v4 = .int .i64 x4_1 ∧ v5 = .int .i64 x5_1 ∧ Aside0 (r03_Size.l0 kq l0 x4_1 x5_1 = some (r1, r2)) ∧ Aside0 (kq ≤ k) ∧ Drawn0 w w')
 case atStart => exact ⟨(0), (0), (by rfl), (by rfl), H', ⟨Nat.le_refl _⟩, by repeat (first | exact Drawn0.refl _ | apply Drawn0.step)⟩
 case round =>
  clear H'
  obtain ⟨x4_1, x5_1, rfl, rfl, HA, HK1, ⟨m1, rfl⟩⟩ := hrel
  cases gk with
  | zero => exact absurd HA.out (by simp [r03_Size.l0])
  | succ k1 =>
   have H := HA.out
   clear HA
   simp only [r03_Size.l0] at H
   by_cases c2 : x5_1 < (l0.length : Int)
   ·rw [if_pos c2] at H
    have c2b0 := dt_ c2
    clear c2
    by_cases c3 : x5_1 ≥ 64
    ·rw [if_pos c3] at H
     have c3b0 : decide (64 ≤ x5_1) = true := dt_ c3
     clear c3
     simp only [Option.some.injEq, Prod.mk.injEq] at H
     obtain ⟨rfl, rfl⟩ := H
     go_wp2
     go_ret2
     exact ⟨by rfl, by repeat (first | exact Drawn0.refl _ | apply Drawn0.step)⟩
    ·rw [if_neg c3] at H
     have c3b0 : decide (64 ≤ x5_1) = false := df_ c3
     clear c3
     by_cases c4 : 0 ≤ x5_1
     ·rw [if_pos c4] at H
      have c4b0 := dt_ c4
      clear c4
      by_cases c5 : (rd l0 x5_1) < 1
      ·rw [if_pos c5] at H
       have c5b0 := dt_ c5
       clear c5
       simp only [Option.some.injEq, Prod.mk.injEq] at H
       obtain ⟨rfl, rfl⟩ := H
       have p334 : 0 ≤ (x5_1 : Int) := od_ ‹_›
       have q334 : x5_1 < (l0.length : Int) := od_ ‹_›
       obtain ⟨ad334, e334, hx334_0⟩ := Kd.at_int HR0.out x5_1 p334 q334
       cases e334
       replace p334 := eq_true p334
       replace q334 := eq_true q334
       go_wp2
       go_ret2
       exact ⟨by rfl, by repeat (first | exact Drawn0.refl _ | apply Drawn0.step)⟩
      ·rw [if_neg c5] at H
       have c5b0 := df_ c5
       clear c5
       by_cases c6 : (rd l0 x5_1) > 8
       ·rw [if_pos c6] at H
        have c6b0 : decide (8 < (rd l0 x5_1)) = true := dt_ c6
        clear c6
        simp only [Option.some.injEq, Prod.mk.injEq] at H
        obtain ⟨rfl, rfl⟩ := H
        have p334 : 0 ≤ (x5_1 : Int) := od_ ‹_›
        have q334 : x5_1 < (l0.length : Int) := od_ ‹_›
        obtain ⟨ad334, e334, hx334_0⟩ := Kd.at_int HR0.out x5_1 p334 q334
        cases e334
        replace p334 := eq_true p334
        replace q334 := eq_true q334
        have p335 : 0 ≤ (x5_1 : Int) := od_ ‹_›
        have q335 : x5_1 < (l0.length : Int) := od_ ‹_›
        obtain ⟨ad335, e335, hx335_0⟩ := Kd.at_int HR0.out x5_1 p335 q335
        obtain rfl : ad334 = ad335 := (by injection e335)
        replace p335 := eq_true p335
        replace q335 := eq_true q335
        go_wp2
        go_ret2
        exact ⟨by rfl, by repeat (first | exact Drawn0.refl _ | apply Drawn0.step)⟩
       ·rw [if_neg c6] at H
        have c6b0 : decide (8 < (rd l0 x5_1)) = false := df_ c6
        clear c6
        have H' := ak_ H
        clear H
        have p334 : 0 ≤ (x5_1 : Int) := od_ ‹_›
        have q334 : x5_1 < (l0.length : Int) := od_ ‹_›
        obtain ⟨ad334, e334, hx334_0⟩ := Kd.at_int HR0.out x5_1 p334 q334
        cases e334
        replace p334 := eq_true p334
        replace q334 := eq_true q334
        have p335 : 0 ≤ (x5_1 : Int) := od_ ‹_›
        have q335 : x5_1 < (l0.length : Int) := od_ ‹_›
        obtain ⟨ad335, e335, hx335_0⟩ := Kd.at_int HR0.out x5_1 p335 q335
        obtain rfl : ad334 = ad335 := (by injection e335)
        replace p335 := eq_true p335
        replace q335 := eq_true q335
        have p336 : 0 ≤ (x5_1 : Int) := od_ ‹_›
        have q336 : x5_1 < (l0.length : Int) := od_ ‹_›
        obtain ⟨ad336, e336, hx336_0⟩ := Kd.at_int HR0.out x5_1 p336 q336
        obtain rfl : ad334 = ad336 := (by injection e336)
        replace p336 := eq_true p336
        replace q336 := eq_true q336
        go_wp2
        go_roundg k1
        case measure => have := HK1.out; omega
        case rel => exact ⟨(wrap64 (x4_1 + (rd l0 x5_1))), (wrap64 (x5_1 + 1)), (by rfl), (by rfl), H', ⟨by have := HK1.out; omega⟩, by repeat (first | exact Drawn0.refl _ | apply Drawn0.step)⟩
     ·rw [if_neg c4] at H
      exact absurd H (by simp)
   ·rw [if_neg c2] at H
    have c2b0 := df_ c2
    clear c2
    simp only [Option.some.injEq, Prod.mk.injEq] at H
    obtain ⟨rfl, rfl⟩ := H
    go_wp2
    go_ret2
    exact ⟨by rfl, by repeat (first | exact Drawn0.refl _ | apply Drawn0.step)⟩
end Go.Proofs.Ytmehbabchakkpaa.QLadderWalks
namespace Go.Proofs.Ytmehbabchakkpaa.QLadderWalks
open Go.RowKit YtmehbabchakkpaaW.PrintWords YtmehbabchakkpaaW.PrintLast YtmehbabchakkpaaW.PrintMore Short
attribute [local go_sem] max2_int min2_int max_two min_two max_three min_three max_four min_four
set_option linter.unusedVariables false
set_option maxHeartbeats 8000000
set_option maxRecDepth 100000
set_option linter.unusedSimpArgs false
mutual
def r03_Take.l0 : Nat → List Int → List Int → List Int → Int → Int → Option (List Int × Int)
 | 0, _, _, _, _, _ => none
 | k + 1, x0, x1, x8, x9, x10 => if x10 < (x0.length : Int) then (r03_Take.l1 k x0 x1 x8 x9 x10 0 1 0) else (some (x8, 0))
def r03_Take.l1 : Nat → List Int → List Int → List Int → Int → Int → Int → Int → Int → Option (List Int × Int)
 | 0, _, _, _, _, _, _, _, _ => none
 | k + 1, x0, x1, x8, x9, x10, x11, x12, x13 => if 0 ≤ x10 then (if x10 < (x0.length : Int) then (if x13 < (rd x0 x10) then (if 0 ≤ (wrap64 (x9 + x13)) then (if (wrap64 (x9 + x13)) < (x1.length : Int) then (if x13 = 7 then (if (wrap64 (rd x1 (wrap64 (x9 + x13)))) > 64 then (some (([] : List Int), 11)) else (if (wrap64 (rd x1 (wrap64 (x9 + x13)))) = 64 then (if x11 > 0 then (some (([] : List Int), 11)) else (r03_Take.l1 k x0 x1 x8 x9 x10 (wrap64 (x11 + (wrap64 ((wrap64 (rd x1 (wrap64 (x9 + x13)))) * x12)))) (wrap64 (x12 * 256)) (wrap64 (x13 + 1)))) else (r03_Take.l1 k x0 x1 x8 x9 x10 (wrap64 (x11 + (wrap64 ((wrap64 (rd x1 (wrap64 (x9 + x13)))) * x12)))) (wrap64 (x12 * 256)) (wrap64 (x13 + 1))))) else (r03_Take.l1 k x0 x1 x8 x9 x10 (wrap64 (x11 + (wrap64 ((wrap64 (rd x1 (wrap64 (x9 + x13)))) * x12)))) (wrap64 (x12 * 256)) (wrap64 (x13 + 1)))) else (none)) else (none)) else (if x8.length < 17592186044416 then (r03_Take.l0 k x0 x1 (x8 ++ [x11]) (wrap64 (x9 + (rd x0 x10))) (wrap64 (x10 + 1))) else (none))) else (none)) else (none)
end
def r03_Take.f (k : Nat) (l0 : List Int) (l1 : List Int) : Option (List Int × Int) := (r03_Size.f k l0).bind fun bt432 => (if bt432.2 = true then (if (l1.length : Int) < bt432.1 then (some (([] : List Int), 10)) else (if (l1.length : Int) > bt432.1 then (some (([] : List Int), 13)) else (r03_Take.l0 k l0 l1 ([] : List Int) 0 0))) else (some (([] : List Int), 2)))
theorem r03_Take.mono_l : ∀ k, (∀ y0 y1 y2 y3 y4, LeO (r03_Take.l0 k y0 y1 y2 y3 y4) (r03_Take.l0 (k + 1) y0 y1 y2 y3 y4)) ∧ (∀ y0 y1 y2 y3 y4 y5 y6 y7, LeO (r03_Take.l1 k y0 y1 y2 y3 y4 y5 y6 y7) (r03_Take.l1 (k + 1) y0 y1 y2 y3 y4 y5 y6 y7))
 | 0 => ⟨fun _ _ _ _ _ r h => by simp [r03_Take.l0] at h, fun _ _ _ _ _ _ _ _ r h => by simp [r03_Take.l1] at h⟩
 | k + 1 => by
  obtain ⟨ih0, ih1⟩ := r03_Take.mono_l k
  refine ⟨?_, ?_⟩
  ·intro y0 y1 y2 y3 y4
   unfold r03_Take.l0
   repeat' first
   | (with_reducible exact ih0 _ _ _ _ _)
   | (with_reducible exact ih1 _ _ _ _ _ _ _ _)
   | (with_reducible exact r03_Size.mono _ _)
   | (with_reducible exact LeO.refl _)
   | (with_reducible exact LeO.none _)
   | (with_reducible refine LeO.ite ?_ ?_)
   | (with_reducible refine LeO.bind ?_ (fun _ => ?_))
  ·intro y0 y1 y2 y3 y4 y5 y6 y7
   unfold r03_Take.l1
   repeat' first
   | (with_reducible exact ih0 _ _ _ _ _)
   | (with_reducible exact ih1 _ _ _ _ _ _ _ _)
   | (with_reducible exact r03_Size.mono _ _)
   | (with_reducible exact LeO.refl _)
   | (with_reducible exact LeO.none _)
   | (with_reducible refine LeO.ite ?_ ?_)
   | (with_reducible refine LeO.bind ?_ (fun _ => ?_))
theorem r03_Take.mono : ∀ a0 a1 k, LeO (r03_Take.f k a0 a1) (r03_Take.f (k + 1) a0 a1) := by
 intro a0 a1 k
 obtain ⟨ih0, ih1⟩ := r03_Take.mono_l k
 unfold r03_Take.f
 repeat' with_reducible first
  | exact ih0 _ _ _ _ _
  | exact ih1 _ _ _ _ _ _ _ _
  | exact r03_Size.mono _ _
  | exact LeO.refl _
  | exact LeO.none _
  | refine LeO.ite ?_ ?_
  | refine LeO.bind ?_ (fun _ => ?_)
theorem r03_Take.calls (k : Nat) (A0 : Option Addr) (c0 : Nat) (l0 : List Int) (A1 : Option Addr) (c1 : Nat) (l1 : List Int) (r1 : List Int) (r2 : Int) (w : World) (hr0 : Kd.C (Kd.int .i64) w A0 l0.length l0) (hc0 : l0.length ≤ c0) (hr1 : Kd.C (Kd.int .u8) w A1 l1.length l1) (hc1 : l1.length ≤ c1) (h : r03_Take.f k l0 l1 = some (r1, r2)) :
  Calls Try.prog 76 #[.slice A0 l0.length c0, .slice A1 l1.length c1] w fun e w' => ∃ v0_ : Value, e = .returned (.tuple #[v0_, .int .i64 r2]) ∧ Kd.R (Kd.int .i64) 3 w' w.heap.size (fun _ => True) v0_ r1 ∧ Below w.heap.size w w' := by
 have HR0 := ak_ hr0
 have HC0 := ak_ hc0
 clear hr0 hc0
 have HR1 := ak_ hr1
 have HC1 := ak_ hc1
 clear hr1 hc1
 have HB := br_ w
 unfold r03_Take.f at h
 have H := h
 clear h
 obtain ⟨⟨t337, t338⟩, A3, H⟩ := bs_ H
 try dsimp only at H
 by_cases c4 : t338 = true
 ·subst c4
  rw [if_pos rfl] at H
  by_cases c5 : (l1.length : Int) < t337
  ·rw [if_pos c5] at H
   have c5b0 := dt_ c5
   clear c5
   simp only [Option.some.injEq, Prod.mk.injEq] at H
   obtain ⟨rfl, rfl⟩ := H
   go_enter Try.func76, Try.ntmps76
   go_wp2_with ((with_reducible refine gate_callee (f := 88) rfl ?_); refine goesL_ (some 17) rfl rfl Try.func88 (by kernel_rfl) rfl #[.slice A0 l0.length c0] rfl (by (try simp only [List.map_toArray, List.map_cons, List.map_nil]); first | done | rfl | (simp only [List.length_drop, List.length_take]; rfl)) ?_; (with_reducible refine (r03_Size.calls k _ _ l0 t337 true _ ?side1 ?side2 A3.out).mono ?_); (case side1 => exact HR0.out); (case side2 => exact HC0.out); rintro e w' ⟨rfl, ⟨nd, rfl⟩⟩; refine ⟨_, rfl, ?_⟩)
   go_ret2
   exact ⟨_, by rfl, (Kd.R_nil _ _ _ _ _), by repeat (first | (with_reducible first | exact HB.out | apply below_alloc | apply pw_below_drewN | apply below_drew1) | exact HB.out)⟩
  ·rw [if_neg c5] at H
   have c5b0 := df_ c5
   clear c5
   by_cases c6 : (l1.length : Int) > t337
   ·rw [if_pos c6] at H
    have c6b0 : decide (t337 < (l1.length : Int)) = true := dt_ c6
    clear c6
    simp only [Option.some.injEq, Prod.mk.injEq] at H
    obtain ⟨rfl, rfl⟩ := H
    go_enter Try.func76, Try.ntmps76
    go_wp2_with ((with_reducible refine gate_callee (f := 88) rfl ?_); refine goesL_ (some 17) rfl rfl Try.func88 (by kernel_rfl) rfl #[.slice A0 l0.length c0] rfl (by (try simp only [List.map_toArray, List.map_cons, List.map_nil]); first | done | rfl | (simp only [List.length_drop, List.length_take]; rfl)) ?_; (with_reducible refine (r03_Size.calls k _ _ l0 t337 true _ ?side1 ?side2 A3.out).mono ?_); (case side1 => exact HR0.out); (case side2 => exact HC0.out); rintro e w' ⟨rfl, ⟨nd, rfl⟩⟩; refine ⟨_, rfl, ?_⟩)
    go_ret2
    exact ⟨_, by rfl, (Kd.R_nil _ _ _ _ _), by repeat (first | (with_reducible first | exact HB.out | apply below_alloc | apply pw_below_drewN | apply below_drew1) | exact HB.out)⟩
   ·rw [if_neg c6] at H
    have c6b0 : decide (t337 < (l1.length : Int)) = false := df_ c6
    clear c6
    have H' := ak_ H
    clear H
    go_enter Try.func76, Try.ntmps76
    go_wp2_with ((with_reducible refine gate_callee (f := 88) rfl ?_); refine goesL_ (some 17) rfl rfl Try.func88 (by kernel_rfl) rfl #[.slice A0 l0.length c0] rfl (by (try simp only [List.map_toArray, List.map_cons, List.map_nil]); first | done | rfl | (simp only [List.length_drop, List.length_take]; rfl)) ?_; (with_reducible refine (r03_Size.calls k _ _ l0 t337 true _ ?side1 ?side2 A3.out).mono ?_); (case side1 => exact HR0.out); (case side2 => exact HC0.out); rintro e w' ⟨rfl, ⟨nd, rfl⟩⟩; refine ⟨_, rfl, ?_⟩)
    go_loopg [8, 9, 10] k (fun kq v8 v9 v10 w' => ∃ (x8_1 : List Int) (x9_1 : Int) (x10_1 : Int), v9 = .int .i64 x9_1 ∧ v10 = .int .i64 x10_1 ∧ Aside0 (r03_Take.l0 kq l0 l1 x8_1 x9_1 x10_1 = some (r1, r2)) ∧ Aside0 (kq ≤ k) ∧ Aside0 (Kd.R (Kd.int .i64) 3 w' w.heap.size (fun _ => True) v8 x8_1) ∧ Aside0 (Below w.heap.size w w'))
    case atStart => exact ⟨(([] : List Int)), (0), (0), (by rfl), (by rfl), H', ⟨Nat.le_refl _⟩, ⟨(Kd.R_nil _ _ _ _ _)⟩, ⟨by repeat (first | (with_reducible first | exact HB.out | apply below_alloc | apply pw_below_drewN | apply below_drew1) | exact HB.out)⟩⟩
    case round =>
     clear H'
     clear c5b0 c6b0
     obtain ⟨x8_1, x9_1, x10_1, rfl, rfl, HA, HK1, HO_8, HB⟩ := hrel
     cases gk with
     | zero => exact absurd HA.out (by simp [r03_Take.l0])
     | succ k1 =>
      have H := HA.out
      clear HA
      simp only [r03_Take.l0] at H
      by_cases c7 : x10_1 < (l0.length : Int)
      ·rw [if_pos c7] at H
       have c7b0 := dt_ c7
       clear c7
       have H' := ak_ H
       clear H
       go_wp2
       go_loopg [11, 12, 13] k1 (fun kq v11 v12 v13 w' => ∃ (x11_2 : Int) (x12_2 : Int) (x13_2 : Int), v11 = .int .i64 x11_2 ∧ v12 = .int .i64 x12_2 ∧ v13 = .int .i64 x13_2 ∧ Aside0 (r03_Take.l1 kq l0 l1 x8_1 x9_1 x10_1 x11_2 x12_2 x13_2 = some (r1, r2)) ∧ Aside0 (kq ≤ k1) ∧ Aside0 (Kd.R (Kd.int .i64) 3 w' w.heap.size (fun _ => True) u8 x8_1) ∧ Aside0 (Below w.heap.size w w'))
       case atStart => exact ⟨(0), (1), (0), (by rfl), (by rfl), (by rfl), H', ⟨Nat.le_refl _⟩, ⟨HO_8.out⟩, ⟨HB.out⟩⟩
       case round =>
        clear H'
        clear c7b0
        obtain ⟨x11_2, x12_2, x13_2, rfl, rfl, rfl, HA, HK2, HO_8, HB⟩ := hrel
        cases gk with
        | zero => exact absurd HA.out (by simp [r03_Take.l1])
        | succ k2 =>
         have H := HA.out
         clear HA
         simp only [r03_Take.l1] at H
         by_cases c8 : 0 ≤ x10_1
         ·rw [if_pos c8] at H
          have c8b0 := dt_ c8
          clear c8
          by_cases c9 : x10_1 < (l0.length : Int)
          ·rw [if_pos c9] at H
           have c9b0 := dt_ c9
           clear c9
           by_cases c10 : x13_2 < (rd l0 x10_1)
           ·rw [if_pos c10] at H
            have c10b0 := dt_ c10
            clear c10
            obtain ⟨ji11, hji11⟩ : ∃ j_ : Int, (wrap64 (x9_1 + x13_2)) = j_ := ⟨_, rfl⟩
            replace H : (if 0 ≤ (ji11) then (if (ji11) < (l1.length : Int) then (if x13_2 = 7 then (if (wrap64 (rd l1 (ji11))) > 64 then (some (([] : List Int), 11)) else (if (wrap64 (rd l1 (ji11))) = 64 then (if x11_2 > 0 then (some (([] : List Int), 11)) else (r03_Take.l1 k2 l0 l1 x8_1 x9_1 x10_1 (wrap64 (x11_2 + (wrap64 ((wrap64 (rd l1 (ji11))) * x12_2)))) (wrap64 (x12_2 * 256)) (wrap64 (x13_2 + 1)))) else (r03_Take.l1 k2 l0 l1 x8_1 x9_1 x10_1 (wrap64 (x11_2 + (wrap64 ((wrap64 (rd l1 (ji11))) * x12_2)))) (wrap64 (x12_2 * 256)) (wrap64 (x13_2 + 1))))) else (r03_Take.l1 k2 l0 l1 x8_1 x9_1 x10_1 (wrap64 (x11_2 + (wrap64 ((wrap64 (rd l1 (ji11))) * x12_2)))) (wrap64 (x12_2 * 256)) (wrap64 (x13_2 + 1)))) else (none)) else (none)) = some (r1, r2) := (by rw [hji11] at H; exact H)
            have hji11w : (IntKind.i64.wrap (x9_1 + x13_2)) = ji11 := (i64_w _).trans hji11
            by_cases c12 : 0 ≤ (ji11)
            ·rw [if_pos c12] at H
             have c12b0 := dt_ c12
             clear c12
             by_cases c13 : (ji11) < (l1.length : Int)
             ·rw [if_pos c13] at H
              have c13b0 := dt_ c13
              clear c13
              by_cases c14 : x13_2 = 7
              ·rw [if_pos c14] at H
               have c14b0 := beq_iff_eq.mpr c14
               have c14b1 := bne_eq_false_iff_eq.mpr c14
               clear c14
               by_cases c15 : (wrap64 (rd l1 (ji11))) > 64
               ·rw [if_pos c15] at H
                have c15b0 : decide (64 < (wrap64 (rd l1 (ji11)))) = true := dt_ c15
                clear c15
                simp only [Option.some.injEq, Prod.mk.injEq] at H
                obtain ⟨rfl, rfl⟩ := H
                have p339 : 0 ≤ (x10_1 : Int) := od_ ‹_›
                have q339 : x10_1 < (l0.length : Int) := od_ ‹_›
                obtain ⟨ad339, e339, hx339_0⟩ := Kd.at_int HR0.out x10_1 p339 q339
                cases e339
                replace hx339_0 := (HB.out.cell (World.block_lt_of_cell? w _ hx339_0)).trans hx339_0
                replace p339 := eq_true p339
                replace q339 := eq_true q339
                have p340 : 0 ≤ ((ji11) : Int) := od_ ‹_›
                have q340 : (ji11) < (l1.length : Int) := od_ ‹_›
                obtain ⟨ad340, e340, hx340_0⟩ := Kd.at_int HR1.out (ji11) p340 q340
                cases e340
                replace hx340_0 := (HB.out.cell (World.block_lt_of_cell? w _ hx340_0)).trans hx340_0
                replace p340 := eq_true p340
                replace q340 := eq_true q340
                go_wp2
                go_ret2
                exact ⟨_, by rfl, (Kd.R_nil _ _ _ _ _), HB.out⟩
               ·rw [if_neg c15] at H
                have c15b0 : decide (64 < (wrap64 (rd l1 (ji11)))) = false := df_ c15
                clear c15
                by_cases c16 : (wrap64 (rd l1 (ji11))) = 64
                ·rw [if_pos c16] at H
                 have c16b0 := beq_iff_eq.mpr c16
                 have c16b1 := bne_eq_false_iff_eq.mpr c16
                 clear c16
                 by_cases c17 : x11_2 > 0
                 ·rw [if_pos c17] at H
                  have c17b0 : decide (0 < x11_2) = true := dt_ c17
                  clear c17
                  simp only [Option.some.injEq, Prod.mk.injEq] at H
                  obtain ⟨rfl, rfl⟩ := H
                  have p339 : 0 ≤ (x10_1 : Int) := od_ ‹_›
                  have q339 : x10_1 < (l0.length : Int) := od_ ‹_›
                  obtain ⟨ad339, e339, hx339_0⟩ := Kd.at_int HR0.out x10_1 p339 q339
                  cases e339
                  replace hx339_0 := (HB.out.cell (World.block_lt_of_cell? w _ hx339_0)).trans hx339_0
                  replace p339 := eq_true p339
                  replace q339 := eq_true q339
                  have p340 : 0 ≤ ((ji11) : Int) := od_ ‹_›
                  have q340 : (ji11) < (l1.length : Int) := od_ ‹_›
                  obtain ⟨ad340, e340, hx340_0⟩ := Kd.at_int HR1.out (ji11) p340 q340
                  cases e340
                  replace hx340_0 := (HB.out.cell (World.block_lt_of_cell? w _ hx340_0)).trans hx340_0
                  replace p340 := eq_true p340
                  replace q340 := eq_true q340
                  go_wp2
                  go_ret2
                  exact ⟨_, by rfl, (Kd.R_nil _ _ _ _ _), HB.out⟩
                 ·rw [if_neg c17] at H
                  have c17b0 : decide (0 < x11_2) = false := df_ c17
                  clear c17
                  have H' := ak_ H
                  clear H
                  have p339 : 0 ≤ (x10_1 : Int) := od_ ‹_›
                  have q339 : x10_1 < (l0.length : Int) := od_ ‹_›
                  obtain ⟨ad339, e339, hx339_0⟩ := Kd.at_int HR0.out x10_1 p339 q339
                  cases e339
                  replace hx339_0 := (HB.out.cell (World.block_lt_of_cell? w _ hx339_0)).trans hx339_0
                  replace p339 := eq_true p339
                  replace q339 := eq_true q339
                  have p340 : 0 ≤ ((ji11) : Int) := od_ ‹_›
                  have q340 : (ji11) < (l1.length : Int) := od_ ‹_›
                  obtain ⟨ad340, e340, hx340_0⟩ := Kd.at_int HR1.out (ji11) p340 q340
                  cases e340
                  replace hx340_0 := (HB.out.cell (World.block_lt_of_cell? w _ hx340_0)).trans hx340_0
                  replace p340 := eq_true p340
                  replace q340 := eq_true q340
                  go_wp2
                  go_roundg k2
                  case measure => have := HK1.out; have := HK2.out; omega
                  case rel => exact ⟨(wrap64 (x11_2 + (wrap64 ((wrap64 (rd l1 (ji11))) * x12_2)))), (wrap64 (x12_2 * 256)), (wrap64 (x13_2 + 1)), (by rfl), (by rfl), (by rfl), H', ⟨by have := HK1.out; have := HK2.out; omega⟩, ⟨HO_8.out⟩, ⟨HB.out⟩⟩
                ·rw [if_neg c16] at H
                 have c16b0 := beq_eq_false_iff_ne.mpr c16
                 have c16b1 := bne_iff_ne.mpr c16
                 have H' := ak_ H
                 clear H
                 have p339 : 0 ≤ (x10_1 : Int) := od_ ‹_›
                 have q339 : x10_1 < (l0.length : Int) := od_ ‹_›
                 obtain ⟨ad339, e339, hx339_0⟩ := Kd.at_int HR0.out x10_1 p339 q339
                 cases e339
                 replace hx339_0 := (HB.out.cell (World.block_lt_of_cell? w _ hx339_0)).trans hx339_0
                 replace p339 := eq_true p339
                 replace q339 := eq_true q339
                 have p340 : 0 ≤ ((ji11) : Int) := od_ ‹_›
                 have q340 : (ji11) < (l1.length : Int) := od_ ‹_›
                 obtain ⟨ad340, e340, hx340_0⟩ := Kd.at_int HR1.out (ji11) p340 q340
                 cases e340
                 replace hx340_0 := (HB.out.cell (World.block_lt_of_cell? w _ hx340_0)).trans hx340_0
                 replace p340 := eq_true p340
                 replace q340 := eq_true q340
                 go_wp2
                 go_roundg k2
                 case measure => have := HK1.out; have := HK2.out; omega
                 case rel => exact ⟨(wrap64 (x11_2 + (wrap64 ((wrap64 (rd l1 (ji11))) * x12_2)))), (wrap64 (x12_2 * 256)), (wrap64 (x13_2 + 1)), (by rfl), (by rfl), (by rfl), H', ⟨by have := HK1.out; have := HK2.out; omega⟩, ⟨HO_8.out⟩, ⟨HB.out⟩⟩
              ·rw [if_neg c14] at H
               have c14b0 := beq_eq_false_iff_ne.mpr c14
               have c14b1 := bne_iff_ne.mpr c14
               have H' := ak_ H
               clear H
               have p339 : 0 ≤ (x10_1 : Int) := od_ ‹_›
               have q339 : x10_1 < (l0.length : Int) := od_ ‹_›
               obtain ⟨ad339, e339, hx339_0⟩ := Kd.at_int HR0.out x10_1 p339 q339
               cases e339
               replace hx339_0 := (HB.out.cell (World.block_lt_of_cell? w _ hx339_0)).trans hx339_0
               replace p339 := eq_true p339
               replace q339 := eq_true q339
               have p340 : 0 ≤ ((ji11) : Int) := od_ ‹_›
               have q340 : (ji11) < (l1.length : Int) := od_ ‹_›
               obtain ⟨ad340, e340, hx340_0⟩ := Kd.at_int HR1.out (ji11) p340 q340
               cases e340
               replace hx340_0 := (HB.out.cell (World.block_lt_of_cell? w _ hx340_0)).trans hx340_0
               replace p340 := eq_true p340
               replace q340 := eq_true q340
               go_wp2
               go_roundg k2
               case measure => have := HK1.out; have := HK2.out; omega
               case rel => exact ⟨(wrap64 (x11_2 + (wrap64 ((wrap64 (rd l1 (ji11))) * x12_2)))), (wrap64 (x12_2 * 256)), (wrap64 (x13_2 + 1)), (by rfl), (by rfl), (by rfl), H', ⟨by have := HK1.out; have := HK2.out; omega⟩, ⟨HO_8.out⟩, ⟨HB.out⟩⟩
             ·rw [if_neg c13] at H
              exact absurd H (by simp)
            ·rw [if_neg c12] at H
             exact absurd H (by simp)
           ·rw [if_neg c10] at H
            have c10b0 := df_ c10
            clear c10
            by_cases c18 : x8_1.length < 17592186044416
            ·rw [if_pos c18] at H
             have LMc18 := ak_ c18
             clear c18
             obtain ⟨y341, hy341⟩ : ∃ y_ : List Int, y_ = (x8_1 ++ [x11_2]) := ⟨_, rfl⟩
             replace H : (r03_Take.l0 k2 l0 l1 y341 (wrap64 (x9_1 + (rd l0 x10_1))) (wrap64 (x10_1 + 1))) = some (r1, r2) := (by rw [hy341]; with_reducible exact H)
             have Ny341 := ak_ hy341
             clear hy341
             have H' := ak_ H
             clear H
             have p339 : 0 ≤ (x10_1 : Int) := od_ ‹_›
             have q339 : x10_1 < (l0.length : Int) := od_ ‹_›
             obtain ⟨ad339, e339, hx339_0⟩ := Kd.at_int HR0.out x10_1 p339 q339
             cases e339
             replace hx339_0 := (HB.out.cell (World.block_lt_of_cell? w _ hx339_0)).trans hx339_0
             replace p339 := eq_true p339
             replace q339 := eq_true q339
             go_wp2_with ((with_reducible refine gate_builtin (b := .append) (xs := #[.tmp 72, .tmp 74]) rfl ?_); at_builtin; refine Kd.R_append (Kd.int .i64) (w0 := w) w.heap.size rfl (.tmp 72) (.tmp 74) 67 3 (.int .i64 0) 8 rfl Try.underlying67 info3 rfl (by decide) (by omega) u8 x8_1 x11_2 [.int .i64 x11_2] (fun _ => True) (fun _ => False) rfl rfl ?aP (fun _ hk => hk.elim) ?aF ?aO ?aB ?aS ?aL ?_; (case aP => exact rfl); (case aB => exact HB.out); (case aF => exact (fun _ _ => trivial)); (case aO => exact HO_8.out); (case aS => exact (below_size HB.out)); (case aL => have := LMc18.out; omega); intro v342 w19 ho hb hg hat; rw [← Ny341.out] at ho; have n0_ := ak_ (hb); have n1_ := ak_ (ho); clear HB; clear HO_8; have HB := n0_; have HO343 := n1_; clear n0_ n1_; clear ho hb hg hat; have p344 : 0 ≤ (x10_1 : Int) := od_ ‹_›; have q344 : x10_1 < (l0.length : Int) := od_ ‹_›; obtain ⟨ad344, e344, hx344_0⟩ := Kd.at_int HR0.out x10_1 p344 q344; obtain rfl : ad339 = ad344 := (by injection e344); replace hx344_0 := (HB.out.cell (World.block_lt_of_cell? w _ hx344_0)).trans hx344_0; replace p344 := eq_true p344; replace q344 := eq_true q344)
             go_roundg k2
             case measure => have := HK1.out; have := HK2.out; omega
             case rel => exact ⟨(y341), (wrap64 (x9_1 + (rd l0 x10_1))), (wrap64 (x10_1 + 1)), (by rfl), (by rfl), H', ⟨by have := HK1.out; have := HK2.out; omega⟩, ⟨HO343.out⟩, ⟨HB.out⟩⟩
            ·rw [if_neg c18] at H
             exact absurd H (by simp)
          ·rw [if_neg c9] at H
           exact absurd H (by simp)
         ·rw [if_neg c8] at H
          exact absurd H (by simp)
      ·rw [if_neg c7] at H
       have c7b0 := df_ c7
       clear c7
       simp only [Option.some.injEq, Prod.mk.injEq] at H
       obtain ⟨rfl, rfl⟩ := H
       go_wp2
       go_ret2
       exact ⟨_, by rfl, by (with_reducible repeat (first | apply Kd.R_alloc | apply Kd.R_drewN | apply Kd.R_drew)); exact HO_8.out, HB.out⟩
 ·replace c4 := Bool.eq_false_iff.mpr c4
  subst c4
  rw [if_neg (show ¬ (false = true) by decide)] at H
  simp only [Option.some.injEq, Prod.mk.injEq] at H
  obtain ⟨rfl, rfl⟩ := H
  go_enter Try.func76, Try.ntmps76
  go_wp2_with ((with_reducible refine gate_callee (f := 88) rfl ?_); refine goesL_ (some 17) rfl rfl Try.func88 (by kernel_rfl) rfl #[.slice A0 l0.length c0] rfl (by (try simp only [List.map_toArray, List.map_cons, List.map_nil]); first | done | rfl | (simp only [List.length_drop, List.length_take]; rfl)) ?_; (with_reducible refine (r03_Size.calls k _ _ l0 t337 false _ ?side1 ?side2 A3.out).mono ?_); (case side1 => exact HR0.out); (case side2 => exact HC0.out); rintro e w' ⟨rfl, ⟨nd, rfl⟩⟩; refine ⟨_, rfl, ?_⟩)
  go_ret2
  exact ⟨_, by rfl, (Kd.R_nil _ _ _ _ _), by repeat (first | (with_reducible first | exact HB.out | apply below_alloc | apply pw_below_drewN | apply below_drew1) | exact HB.out)⟩
end Go.Proofs.Ytmehbabchakkpaa.QLadderWalks
