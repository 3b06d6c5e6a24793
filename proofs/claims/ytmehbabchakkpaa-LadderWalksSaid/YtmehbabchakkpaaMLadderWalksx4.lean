import Derived.Test.YtmehbabchakkpaaMLadderWalksx3
namespace Go.Proofs.Ytmehbabchakkpaa.QLadderWalks
open Go.RowKit YtmehbabchakkpaaW.PrintWords YtmehbabchakkpaaW.PrintLast YtmehbabchakkpaaW.PrintMore Short
attribute [local go_sem] max2_int min2_int max_two min_two max_three min_three max_four min_four
set_option linter.unusedVariables false
set_option maxHeartbeats 8000000
set_option maxRecDepth 100000
set_option linter.unusedSimpArgs false
mutual
def hamming_Place.j0 : Nat → Int → Bool → Option (Int)
 | 0, _, _ => none
 | k + 1, x0, x9 => if x9 = true then (some 0) else (hamming_Place.l0 k x0 (wrap64 (x0 + 3)))
def hamming_Place.l0 : Nat → Int → Int → Option (Int)
 | 0, _, _ => none
 | k + 1, x0, x3 => (bits_Len.f k (IntKind.u64.wrap (x3))).bind fun t138 => (if (wrap64 (x3 - t138)) < (wrap64 (x0 + 1)) then (hamming_Place.l0 k x0 (wrap64 (x3 + 1))) else (hamming_Place.l1 k x3))
def hamming_Place.l1 : Nat → Int → Option (Int)
 | 0, _ => none
 | k + 1, x3 => if (Go.bits .and .i64 x3 (wrap64 (x3 - 1))) = 0 then (hamming_Place.l1 k (wrap64 (x3 + 1))) else (some x3)
end
def hamming_Place.f (k : Nat) (a0 : Int) : Option (Int) := if a0 < 0 then (hamming_Place.j0 k a0 true) else (hamming_Place.j0 k a0 (decide (a0 > 1048576)))
theorem hamming_Place.mono_l : ∀ k, (∀ y0 y1, LeO (hamming_Place.j0 k y0 y1) (hamming_Place.j0 (k + 1) y0 y1)) ∧ (∀ y0 y1, LeO (hamming_Place.l0 k y0 y1) (hamming_Place.l0 (k + 1) y0 y1)) ∧ (∀ y0, LeO (hamming_Place.l1 k y0) (hamming_Place.l1 (k + 1) y0))
 | 0 => ⟨fun _ _ r h => by simp [hamming_Place.j0] at h, fun _ _ r h => by simp [hamming_Place.l0] at h, fun _ r h => by simp [hamming_Place.l1] at h⟩
 | k + 1 => by
  obtain ⟨ih0, ih1, ih2⟩ := hamming_Place.mono_l k
  refine ⟨?_, ?_, ?_⟩
  ·intro y0 y1
   unfold hamming_Place.j0
   repeat' first
   | (with_reducible exact ih0 _ _)
   | (with_reducible exact ih1 _ _)
   | (with_reducible exact ih2 _)
   | (with_reducible exact bits_Len.mono _ _)
   | (with_reducible exact LeO.refl _)
   | (with_reducible exact LeO.none _)
   | (with_reducible refine LeO.ite ?_ ?_)
   | (with_reducible refine LeO.bind ?_ (fun _ => ?_))
  ·intro y0 y1
   unfold hamming_Place.l0
   repeat' first
   | (with_reducible exact ih0 _ _)
   | (with_reducible exact ih1 _ _)
   | (with_reducible exact ih2 _)
   | (with_reducible exact bits_Len.mono _ _)
   | (with_reducible exact LeO.refl _)
   | (with_reducible exact LeO.none _)
   | (with_reducible refine LeO.ite ?_ ?_)
   | (with_reducible refine LeO.bind ?_ (fun _ => ?_))
  ·intro y0
   unfold hamming_Place.l1
   repeat' first
   | (with_reducible exact ih0 _ _)
   | (with_reducible exact ih1 _ _)
   | (with_reducible exact ih2 _)
   | (with_reducible exact bits_Len.mono _ _)
   | (with_reducible exact LeO.refl _)
   | (with_reducible exact LeO.none _)
   | (with_reducible refine LeO.ite ?_ ?_)
   | (with_reducible refine LeO.bind ?_ (fun _ => ?_))
theorem hamming_Place.mono : ∀ a0 k, LeO (hamming_Place.f k a0) (hamming_Place.f (k + 1) a0) := by
 intro a0 k
 obtain ⟨ih0, ih1, ih2⟩ := hamming_Place.mono_l k
 unfold hamming_Place.f
 repeat' with_reducible first
  | exact ih0 _ _
  | exact ih1 _ _
  | exact ih2 _
  | exact bits_Len.mono _ _
  | exact LeO.refl _
  | exact LeO.none _
  | refine LeO.ite ?_ ?_
  | refine LeO.bind ?_ (fun _ => ?_)
theorem hamming_Place.calls (k : Nat) (a0 : Int) (r : Int) (w : World) (h : hamming_Place.f k a0 = some r) :
  Calls Try.prog 100 #[.int .i64 a0] w fun e w' => e = .returned (.int .i64 r) ∧ Drawn0 w w' := by
 unfold hamming_Place.f at h
 have H := h
 clear h
 have HC2 := ak_ H
 clear H
 go_enter Try.func100, Try.ntmps100
 go_upto_region 1 with (fail)
 go_cut [9] (fun v9 wc => ∃ (kq : Nat) (x9_1 : Bool), v9 = .bool x9_1 ∧ Aside0 (hamming_Place.j0 kq a0 x9_1 = some r) ∧ Aside0 (kq ≤ k) ∧ Drawn0 w wc)
 case first =>
  have H := HC2.out
  clear HC2
  by_cases c3 : a0 < 0
  ·rw [if_pos c3] at H
   have c3b0 := dt_ c3
   clear c3
   (first | rw [c3b0] | (simp only [i64_w, i32_w]; rw [c3b0]) | skip)
   have H' := ak_ H
   clear H
   go_wp2
   go_meet
   case rel => exact ⟨_, (true), (by rfl), H', ⟨by omega⟩, by repeat (first | exact Drawn0.refl _ | apply Drawn0.step)⟩
  ·rw [if_neg c3] at H
   have c3b0 := df_ c3
   clear c3
   (first | rw [c3b0] | (simp only [i64_w, i32_w]; rw [c3b0]) | skip)
   have H' := ak_ H
   clear H
   go_wp2
   go_meet
   case rel => exact ⟨_, (decide (a0 > 1048576)), (by rfl), H', ⟨by omega⟩, by repeat (first | exact Drawn0.refl _ | apply Drawn0.step)⟩
 case rest =>
  clear HC2
  obtain ⟨kq, x9_1, rfl, HA, HJ1, ⟨mc1, rfl⟩⟩ := hcut
  cases kq with
  | zero => exact absurd HA.out (by simp [hamming_Place.j0])
  | succ kj1 =>
   have H := HA.out
   clear HA
   simp only [hamming_Place.j0] at H
   by_cases c4 : x9_1 = true
   ·subst c4
    rw [if_pos rfl] at H
    obtain rfl := si_ H
    go_wp2
    go_ret
    exact ⟨by rfl, by repeat (first | exact Drawn0.refl _ | apply Drawn0.step)⟩
   ·replace c4 := Bool.eq_false_iff.mpr c4
    subst c4
    rw [if_neg (show ¬ (false = true) by decide)] at H
    have H' := ak_ H
    clear H
    go_wp2
    go_loopg [3] kj1 (fun kq v3 w' => ∃ (x3_2 : Int), v3 = .int .i64 x3_2 ∧ Aside0 (hamming_Place.l0 kq a0 x3_2 = some r) ∧ Aside0 (kq ≤ kj1) ∧ Drawn0 w w')
    case atStart => exact ⟨(wrap64 (a0 + 3)), (by rfl), H', ⟨Nat.le_refl _⟩, by repeat (first | exact Drawn0.refl _ | apply Drawn0.step)⟩
    case round =>
     clear H'
     obtain ⟨x3_2, rfl, HA, HK2, ⟨m2, rfl⟩⟩ := hrel
     cases gk with
     | zero => exact absurd HA.out (by simp [hamming_Place.l0])
     | succ k2 =>
      have H := HA.out
      clear HA
      simp only [hamming_Place.l0] at H
      obtain ⟨t137, A5, H⟩ := bs_ H
      by_cases c6 : (wrap64 (x3_2 - t137)) < (wrap64 (a0 + 1))
      ·rw [if_pos c6] at H
       have c6b0 := dt_ c6
       clear c6
       have H' := ak_ H
       clear H
       go_wp2_with ((with_reducible refine gate_callee (f := 99) rfl ?_); refine goesL_ (some 15) rfl rfl Try.func99 (by kernel_rfl) rfl #[.int .u64 (IntKind.u64.wrap (x3_2))] rfl (by (try simp only [List.map_toArray, List.map_cons, List.map_nil]); first | done | rfl | (simp only [List.length_drop, List.length_take]; rfl)) ?_; (with_reducible refine (bits_Len.calls k2 (IntKind.u64.wrap (x3_2)) t137 _ A5.out).mono ?_); rintro e w' ⟨rfl, ⟨nd, rfl⟩⟩; refine ⟨_, rfl, ?_⟩)
       go_roundg k2
       case measure => have := HJ1.out; have := HK2.out; omega
       case rel => exact ⟨(wrap64 (x3_2 + 1)), (by rfl), H', ⟨by have := HJ1.out; have := HK2.out; omega⟩, by repeat (first | exact Drawn0.refl _ | apply Drawn0.step)⟩
      ·rw [if_neg c6] at H
       have c6b0 := df_ c6
       clear c6
       have H' := ak_ H
       clear H
       go_wp2_with ((with_reducible refine gate_callee (f := 99) rfl ?_); refine goesL_ (some 15) rfl rfl Try.func99 (by kernel_rfl) rfl #[.int .u64 (IntKind.u64.wrap (x3_2))] rfl (by (try simp only [List.map_toArray, List.map_cons, List.map_nil]); first | done | rfl | (simp only [List.length_drop, List.length_take]; rfl)) ?_; (with_reducible refine (bits_Len.calls k2 (IntKind.u64.wrap (x3_2)) t137 _ A5.out).mono ?_); rintro e w' ⟨rfl, ⟨nd, rfl⟩⟩; refine ⟨_, rfl, ?_⟩)
       go_loopg [3] k2 (fun kq v3 w' => ∃ (x3_3 : Int), v3 = .int .i64 x3_3 ∧ Aside0 (hamming_Place.l1 kq x3_3 = some r) ∧ Aside0 (kq ≤ k2) ∧ Drawn0 w w')
       case atStart => exact ⟨(x3_2), (by rfl), H', ⟨Nat.le_refl _⟩, by repeat (first | exact Drawn0.refl _ | apply Drawn0.step)⟩
       case round =>
        clear H'
        clear c6b0
        obtain ⟨x3_3, rfl, HA, HK3, ⟨m3, rfl⟩⟩ := hrel
        cases gk with
        | zero => exact absurd HA.out (by simp [hamming_Place.l1])
        | succ k3 =>
         have H := HA.out
         clear HA
         simp only [hamming_Place.l1] at H
         by_cases c7 : (Go.bits .and .i64 x3_3 (wrap64 (x3_3 - 1))) = 0
         ·rw [if_pos c7] at H
          have c7b0 := beq_iff_eq.mpr c7
          have c7b1 := bne_eq_false_iff_eq.mpr c7
          clear c7
          have H' := ak_ H
          clear H
          go_wp2
          go_roundg k3
          case measure => have := HJ1.out; have := HK2.out; have := HK3.out; omega
          case rel => exact ⟨(wrap64 (x3_3 + 1)), (by rfl), H', ⟨by have := HJ1.out; have := HK2.out; have := HK3.out; omega⟩, by repeat (first | exact Drawn0.refl _ | apply Drawn0.step)⟩
         ·rw [if_neg c7] at H
          have c7b0 := beq_eq_false_iff_ne.mpr c7
          have c7b1 := bne_iff_ne.mpr c7
          obtain rfl := si_ H
          go_wp2
          go_ret
          exact ⟨by rfl, by repeat (first | exact Drawn0.refl _ | apply Drawn0.step)⟩
theorem hamming_gather_eight_calls (k : Nat) (i : Int) (p0 p1 p2 p3 p4 p5 p6 p7 : Int) (w : World) (h0 : 0 ≤ i) (h1 : i < 1000000)
 (e0 : Aside0 (hamming_Place.f k (8 * i) = some p0)) (e1 : Aside0 (hamming_Place.f k (8 * i + 1) = some p1)) (e2 : Aside0 (hamming_Place.f k (8 * i + 2) = some p2)) (e3 : Aside0 (hamming_Place.f k (8 * i + 3) = some p3))
 (e4 : Aside0 (hamming_Place.f k (8 * i + 4) = some p4)) (e5 : Aside0 (hamming_Place.f k (8 * i + 5) = some p5)) (e6 : Aside0 (hamming_Place.f k (8 * i + 6) = some p6)) (e7 : Aside0 (hamming_Place.f k (8 * i + 7) = some p7)) :
  Calls Try.prog 97 #[.int .i64 i] w fun e w' => e = .returned (.agg #[.int .i64 p0, .int .i64 p1, .int .i64 p2, .int .i64 p3, .int .i64 p4, .int .i64 p5, .int .i64 p6, .int .i64 p7]) ∧ Below w.heap.size w w' := by
 go_enter Try.func97, Try.ntmps97
 go_wp2
 refine wp_loop_rounds 9 ?_
 rw [rounds_succ]
 generalize hR0 : Code.rounds _ _ _ 8 = R0
 go_wp2_with fail
 with_reducible refine (hamming_Place.calls k _ p0 _ e0.out).mono ?_
 rintro e w1 ⟨rfl, ⟨⟨n0, rfl⟩⟩⟩
 go_wp2_with fail
 subst hR0
 rw [rounds_succ]
 generalize hR1 : Code.rounds _ _ _ 7 = R1
 go_wp2_with fail
 with_reducible refine (hamming_Place.calls k _ p1 _ e1.out).mono ?_
 rintro e w1 ⟨rfl, ⟨⟨n1, rfl⟩⟩⟩
 go_wp2_with fail
 subst hR1
 rw [rounds_succ]
 generalize hR2 : Code.rounds _ _ _ 6 = R2
 go_wp2_with fail
 with_reducible refine (hamming_Place.calls k _ p2 _ e2.out).mono ?_
 rintro e w1 ⟨rfl, ⟨⟨n2, rfl⟩⟩⟩
 go_wp2_with fail
 subst hR2
 rw [rounds_succ]
 generalize hR3 : Code.rounds _ _ _ 5 = R3
 go_wp2_with fail
 with_reducible refine (hamming_Place.calls k _ p3 _ e3.out).mono ?_
 rintro e w1 ⟨rfl, ⟨⟨n3, rfl⟩⟩⟩
 go_wp2_with fail
 subst hR3
 rw [rounds_succ]
 generalize hR4 : Code.rounds _ _ _ 4 = R4
 go_wp2_with fail
 with_reducible refine (hamming_Place.calls k _ p4 _ e4.out).mono ?_
 rintro e w1 ⟨rfl, ⟨⟨n4, rfl⟩⟩⟩
 go_wp2_with fail
 subst hR4
 rw [rounds_succ]
 generalize hR5 : Code.rounds _ _ _ 3 = R5
 go_wp2_with fail
 with_reducible refine (hamming_Place.calls k _ p5 _ e5.out).mono ?_
 rintro e w1 ⟨rfl, ⟨⟨n5, rfl⟩⟩⟩
 go_wp2_with fail
 subst hR5
 rw [rounds_succ]
 generalize hR6 : Code.rounds _ _ _ 2 = R6
 go_wp2_with fail
 with_reducible refine (hamming_Place.calls k _ p6 _ e6.out).mono ?_
 rintro e w1 ⟨rfl, ⟨⟨n6, rfl⟩⟩⟩
 go_wp2_with fail
 subst hR6
 rw [rounds_succ]
 generalize hR7 : Code.rounds _ _ _ 1 = R7
 go_wp2_with fail
 with_reducible refine (hamming_Place.calls k _ p7 _ e7.out).mono ?_
 rintro e w1 ⟨rfl, ⟨⟨n7, rfl⟩⟩⟩
 go_wp2_with fail
 subst hR7
 rw [rounds_succ]
 go_wp2_with fail
 refine bodyPost_ret (v := .agg #[.int .i64 p0, .int .i64 p1, .int .i64 p2, .int .i64 p3, .int .i64 p4, .int .i64 p5, .int .i64 p6, .int .i64 p7]) (by simp [results, Try.results97, go_sem]) rfl ⟨rfl, ?_⟩
 refine Below.setCell ?_ (by simp) _
 refine Below.setCell ?_ (by simp) _
 refine Below.setCell ?_ (by simp) _
 refine Below.setCell ?_ (by simp) _
 refine Below.setCell ?_ (by simp) _
 refine Below.setCell ?_ (by simp) _
 refine Below.setCell ?_ (by simp) _
 refine Below.setCell ?_ (by simp) _
 refine Below.setCell ?_ (by simp) _
 refine below_drewN ?_ _
 refine Below.setCell ?_ (by simp) _
 refine below_drewN ?_ _
 refine Below.setCell ?_ (by simp) _
 refine below_drewN ?_ _
 refine Below.setCell ?_ (by simp) _
 refine below_drewN ?_ _
 refine Below.setCell ?_ (by simp) _
 refine below_drewN ?_ _
 refine Below.setCell ?_ (by simp) _
 refine below_drewN ?_ _
 refine Below.setCell ?_ (by simp) _
 refine below_drewN ?_ _
 refine Below.setCell ?_ (by simp) _
 refine below_drewN ?_ _
 refine Below.alloc ?_ (by simp) _
 refine Below.alloc ?_ (Nat.le_refl _) _
 exact Below.refl _ _
theorem hamming_gather_index8_0 (p0 p1 p2 p3 p4 p5 p6 p7 : Value) (w : World) : (Instr.index 135 (.agg #[p0, p1, p2, p3, p4, p5, p6, p7]) (.int .i64 0)).run Try.prog w = .ok p0 w := by
 simp [Instr.index, run_underlying (P := Try.prog) Try.underlying135, asIntOf, go_sem]
theorem hamming_gather_index8_1 (p0 p1 p2 p3 p4 p5 p6 p7 : Value) (w : World) : (Instr.index 135 (.agg #[p0, p1, p2, p3, p4, p5, p6, p7]) (.int .i64 1)).run Try.prog w = .ok p1 w := by
 simp [Instr.index, run_underlying (P := Try.prog) Try.underlying135, asIntOf, go_sem]
theorem hamming_gather_index8_2 (p0 p1 p2 p3 p4 p5 p6 p7 : Value) (w : World) : (Instr.index 135 (.agg #[p0, p1, p2, p3, p4, p5, p6, p7]) (.int .i64 2)).run Try.prog w = .ok p2 w := by
 simp [Instr.index, run_underlying (P := Try.prog) Try.underlying135, asIntOf, go_sem]
theorem hamming_gather_index8_3 (p0 p1 p2 p3 p4 p5 p6 p7 : Value) (w : World) : (Instr.index 135 (.agg #[p0, p1, p2, p3, p4, p5, p6, p7]) (.int .i64 3)).run Try.prog w = .ok p3 w := by
 simp [Instr.index, run_underlying (P := Try.prog) Try.underlying135, asIntOf, go_sem]
theorem hamming_gather_index8_4 (p0 p1 p2 p3 p4 p5 p6 p7 : Value) (w : World) : (Instr.index 135 (.agg #[p0, p1, p2, p3, p4, p5, p6, p7]) (.int .i64 4)).run Try.prog w = .ok p4 w := by
 simp [Instr.index, run_underlying (P := Try.prog) Try.underlying135, asIntOf, go_sem]
theorem hamming_gather_index8_5 (p0 p1 p2 p3 p4 p5 p6 p7 : Value) (w : World) : (Instr.index 135 (.agg #[p0, p1, p2, p3, p4, p5, p6, p7]) (.int .i64 5)).run Try.prog w = .ok p5 w := by
 simp [Instr.index, run_underlying (P := Try.prog) Try.underlying135, asIntOf, go_sem]
theorem hamming_gather_index8_6 (p0 p1 p2 p3 p4 p5 p6 p7 : Value) (w : World) : (Instr.index 135 (.agg #[p0, p1, p2, p3, p4, p5, p6, p7]) (.int .i64 6)).run Try.prog w = .ok p6 w := by
 simp [Instr.index, run_underlying (P := Try.prog) Try.underlying135, asIntOf, go_sem]
theorem hamming_gather_index8_7 (p0 p1 p2 p3 p4 p5 p6 p7 : Value) (w : World) : (Instr.index 135 (.agg #[p0, p1, p2, p3, p4, p5, p6, p7]) (.int .i64 7)).run Try.prog w = .ok p7 w := by
 simp [Instr.index, run_underlying (P := Try.prog) Try.underlying135, asIntOf, go_sem]
attribute [local go_sem] hamming_gather_index8_0 hamming_gather_index8_1 hamming_gather_index8_2 hamming_gather_index8_3 hamming_gather_index8_4 hamming_gather_index8_5 hamming_gather_index8_6 hamming_gather_index8_7
def hamming_gather_gbit (c : Int) (j : Nat) : Bool := Go.bits .and .u8 (if j = 0 then c else c / 2 ^ j) 1 == 1
def hamming_gather_gst (c : Int) (j : Nat) (p : Int) (q : Int × Bool) : Int × Bool := if hamming_gather_gbit c j then (Go.bits .xor .u16 q.1 (IntKind.u16.wrap p), !q.2) else q
def hamming_gather_gup (c : Int) (ps : List Int) (q : Int × Bool) : Nat → Int × Bool
 | 0 => q
 | j + 1 => hamming_gather_gst c j (ps.getD j 0) (hamming_gather_gup c ps q j)
def hamming_gather_eightF (k : Nat) (i : Int) : Option (List Int) := if i < 1000000 then (hamming_Place.f k (8 * i)).bind fun p0 => (hamming_Place.f k (8 * i + 1)).bind fun p1 => (hamming_Place.f k (8 * i + 2)).bind fun p2 => (hamming_Place.f k (8 * i + 3)).bind fun p3 =>
 (hamming_Place.f k (8 * i + 4)).bind fun p4 => (hamming_Place.f k (8 * i + 5)).bind fun p5 => (hamming_Place.f k (8 * i + 6)).bind fun p6 => (hamming_Place.f k (8 * i + 7)).bind fun p7 => some [p0, p1, p2, p3, p4, p5, p6, p7] else none
theorem hamming_gather_up_step (c x4 : Int) (x5 : Bool) (p0 p1 p2 p3 p4 p5 p6 p7 : Int) (j : Nat) (p : Int) (hp : [p0, p1, p2, p3, p4, p5, p6, p7].getD j 0 = p) :
  ((hamming_gather_gbit c j = true → hamming_gather_gup c [p0, p1, p2, p3, p4, p5, p6, p7] (x4, x5) (j + 1) = (Go.bits .xor .u16 (hamming_gather_gup c [p0, p1, p2, p3, p4, p5, p6, p7] (x4, x5) j).1 (IntKind.u16.wrap p), !(hamming_gather_gup c [p0, p1, p2, p3, p4, p5, p6, p7] (x4, x5) j).2)) ∧
  (hamming_gather_gbit c j = false → hamming_gather_gup c [p0, p1, p2, p3, p4, p5, p6, p7] (x4, x5) (j + 1) = hamming_gather_gup c [p0, p1, p2, p3, p4, p5, p6, p7] (x4, x5) j)) := by
 subst hp
 refine ⟨fun h => ?_, fun h => ?_⟩
 ·show hamming_gather_gst _ _ _ _ = _
  unfold hamming_gather_gst
  rw [if_pos h]
 ·show hamming_gather_gst _ _ _ _ = _
  unfold hamming_gather_gst
  rw [h, if_neg (by decide)]
def hamming_gather.l0 : Nat → List Int → Int → Bool → Int → Option (Int × Bool)
 | 0, _, _, _, _ => none
 | k + 1, l, x, o, i => if i < (l.length : Int) then (if 0 ≤ i then (if i < 1000000 then (if rd l i = 0 then hamming_gather.l0 k l x o (i + 1) else ((hamming_gather_eightF k i).bind fun ps => hamming_gather.l0 k l (hamming_gather_gup (rd l i) ps (x, o) 8).1 (hamming_gather_gup (rd l i) ps (x, o) 8).2 (i + 1))) else none) else none) else some (x, o)
def hamming_gather.f (k : Nat) (l : List Int) : Option (Int × Bool) := hamming_gather.l0 k l 0 false 0
theorem hamming_gather_eightF.mono : ∀ i k, LeO (hamming_gather_eightF k i) (hamming_gather_eightF (k + 1) i) := by
 intro i k
 unfold hamming_gather_eightF
 refine LeO.ite ?_ (LeO.refl _)
 repeat' with_reducible first
  | exact LeO.refl _
  | exact hamming_Place.mono _ _
  | refine LeO.bind ?_ (fun _ => ?_)
theorem hamming_gather.mono_l : ∀ k, (∀ y0 y1 y2 y3, LeO (hamming_gather.l0 k y0 y1 y2 y3) (hamming_gather.l0 (k + 1) y0 y1 y2 y3))
 | 0 => fun _ _ _ _ r h => by simp [hamming_gather.l0] at h
 | k + 1 => by
  have ih0 := hamming_gather.mono_l k
  intro y0 y1 y2 y3
  unfold hamming_gather.l0
  repeat' first
   | (with_reducible exact ih0 _ _ _ _)
   | (with_reducible exact hamming_gather_eightF.mono _ _)
   | (with_reducible exact LeO.refl _)
   | (with_reducible refine LeO.ite ?_ ?_)
   | (with_reducible refine LeO.bind ?_ (fun _ => ?_))
theorem hamming_gather.mono : ∀ a0 k, LeO (hamming_gather.f k a0) (hamming_gather.f (k + 1) a0) := fun _ k => hamming_gather.mono_l k _ _ _ _
theorem hamming_gather_eightF_calls (k : Nat) (i : Int) (ps : List Int) (h : hamming_gather_eightF k i = some ps) : i < 1000000 ∧ ∃ p0 p1 p2 p3 p4 p5 p6 p7 : Int, ps = [p0, p1, p2, p3, p4, p5, p6, p7] ∧ (0 ≤ i → ∀ w : World,
  Calls Try.prog 97 #[.int .i64 i] w fun e w' => e = .returned (.agg #[.int .i64 p0, .int .i64 p1, .int .i64 p2, .int .i64 p3, .int .i64 p4, .int .i64 p5, .int .i64 p6, .int .i64 p7]) ∧ Below w.heap.size w w') := by
 unfold hamming_gather_eightF at h
 split at h
 ·rename_i hi
  refine ⟨hi, ?_⟩
  obtain ⟨p0, e0, h⟩ := Option.bind_eq_some_iff.mp h
  obtain ⟨p1, e1, h⟩ := Option.bind_eq_some_iff.mp h
  obtain ⟨p2, e2, h⟩ := Option.bind_eq_some_iff.mp h
  obtain ⟨p3, e3, h⟩ := Option.bind_eq_some_iff.mp h
  obtain ⟨p4, e4, h⟩ := Option.bind_eq_some_iff.mp h
  obtain ⟨p5, e5, h⟩ := Option.bind_eq_some_iff.mp h
  obtain ⟨p6, e6, h⟩ := Option.bind_eq_some_iff.mp h
  obtain ⟨p7, e7, h⟩ := Option.bind_eq_some_iff.mp h
  exact ⟨p0, p1, p2, p3, p4, p5, p6, p7, (si_ h).symm, fun h0 w => hamming_gather_eight_calls k i p0 p1 p2 p3 p4 p5 p6 p7 w h0 hi ⟨e0⟩ ⟨e1⟩ ⟨e2⟩ ⟨e3⟩ ⟨e4⟩ ⟨e5⟩ ⟨e6⟩ ⟨e7⟩⟩
 ·exact absurd h (by simp)
theorem hamming_gather.calls (k : Nat) (A0 : Option Addr) (c0 : Nat) (l0 : List Int) (r1 : Int) (r2 : Bool) (w : World) (hr0 : Kd.C (Kd.int .u8) w A0 l0.length l0) (hc0 : l0.length ≤ c0) (h : hamming_gather.f k l0 = some (r1, r2)) :
  Calls Try.prog 84 #[.slice A0 l0.length c0] w fun e w' => e = .returned (.tuple #[.int .u16 r1, .bool r2]) ∧ Below w.heap.size w w' := by
 have HR0 := ak_ hr0
 have HC0 := ak_ hc0
 clear hr0 hc0
 have HB := br_ w
 have H' := ak_ (show hamming_gather.l0 k l0 0 false 0 = some (r1, r2) from h)
 clear h
 go_enter Try.func84, Try.ntmps84
 go_wp2
 go_loopg [4, 5, 12] k (fun kq v4 v5 v12 w' => ∃ (x4 : Int) (x5 : Bool) (x12 : Int), v4 = .int .u16 x4 ∧ v5 = .bool x5 ∧ v12 = .int .i64 x12 ∧ Aside0 (hamming_gather.l0 kq l0 x4 x5 x12 = some (r1, r2)) ∧ Aside0 (kq ≤ k) ∧ Aside0 (Below w.heap.size w w'))
 case atStart => exact ⟨0, false, 0, rfl, rfl, rfl, H', ⟨Nat.le_refl _⟩, HB⟩
 case round =>
  clear H'
  obtain ⟨x4, x5, x12, rfl, rfl, rfl, HA, HK1, HB⟩ := hrel
  cases gk with
  | zero => exact absurd HA.out (by simp [hamming_gather.l0])
  | succ k1 =>
   have H := HA.out
   clear HA
   simp only [hamming_gather.l0] at H
   by_cases q126 : x12 < (l0.length : Int)
   ·rw [if_pos q126] at H
    by_cases p126 : 0 ≤ x12
    ·rw [if_pos p126] at H
     by_cases hx1 : x12 < 1000000
     ·rw [if_pos hx1] at H
      have hx0 := p126
      obtain ⟨ad126, e126, hx126_0⟩ := Kd.at_int HR0.out x12 p126 q126
      cases e126
      replace hx126_0 := (HB.out.cell (World.block_lt_of_cell? w _ hx126_0)).trans hx126_0
      replace p126 := eq_true p126
      replace q126 := eq_true q126
      generalize rd l0 x12 = c at hx126_0 H
      by_cases c0' : c = 0
      ·subst c0'
       rw [if_pos rfl] at H
       have H' := ak_ H
       clear H
       go_wp2
       go_roundg k1
       case measure => have := HK1.out; omega
       case rel => exact ⟨x4, x5, x12 + 1, rfl, rfl, rfl, H', ⟨by have := HK1.out; omega⟩, HB⟩
      ·rw [if_neg c0'] at H
       obtain ⟨ps, e8, H⟩ := Option.bind_eq_some_iff.mp H
       obtain ⟨_, p0, p1, p2, p3, p4, p5, p6, p7, rfl, h8⟩ := hamming_gather_eightF_calls _ _ _ e8
       have H' := ak_ H
       have H8 := ak_ (h8 hx0)
       clear H h8 e8
       have c0b : (c == 0) = false := by simpa using c0'
       clear c0'
       go_wp2_with fail
       with_reducible refine (H8.out _).mono ?_
       rintro e w1 ⟨rfl, HB1⟩
       replace HB1 := ak_ HB1
       go_wp2_with fail
       go_loop [4, 5, 21] (fun v4 v5 v21 => ∃ (y4 : Int) (y5 : Bool) (j : Nat), j ≤ 8 ∧ Aside0 (hamming_gather_gup c [p0, p1, p2, p3, p4, p5, p6, p7] (x4, x5) j = (y4, y5)) ∧ v4 = .int .u16 y4 ∧ v5 = .bool y5 ∧ v21 = .int .i64 j) (fun _ _ v21 => 8 - (intOf v21).toNat)
       case atStart => exact ⟨x4, x5, 0, by omega, ⟨rfl⟩, rfl, rfl, rfl⟩
       case round =>
        obtain ⟨y4, y5, j, hj, HG, rfl, rfl, rfl⟩ := hrel
        by_cases h8 : j < 8
        ·obtain rfl | rfl | rfl | rfl | rfl | rfl | rfl | rfl : j = 0 ∨ j = 1 ∨ j = 2 ∨ j = 3 ∨ j = 4 ∨ j = 5 ∨ j = 6 ∨ j = 7 := by omega
         ·obtain ⟨hu1, hu2⟩ := hamming_gather_up_step c x4 x5 p0 p1 p2 p3 p4 p5 p6 p7 0 p0 rfl
          rw [HG.out] at hu1 hu2
          by_cases hb : hamming_gather_gbit c 0 = true
          ·have HN := ak_ (hu1 hb)
           have hb' : (Go.bits .and .u8 (c) 1 == 1) = true := hb
           clear hu1 hu2 hb
           go_wp2
           go_round
           case rel => exact ⟨_, _, 1, by omega, HN, rfl, rfl, rfl⟩
           case measure => simp [intOf]
          ·have hb := eq_false_of_ne_true hb
           have HN := ak_ (hu2 hb)
           have hb' : (Go.bits .and .u8 (c) 1 == 1) = false := hb
           clear hu1 hu2 hb
           go_wp2
           go_round
           case rel => exact ⟨_, _, 1, by omega, HN, rfl, rfl, rfl⟩
           case measure => simp [intOf]
         ·obtain ⟨hu1, hu2⟩ := hamming_gather_up_step c x4 x5 p0 p1 p2 p3 p4 p5 p6 p7 1 p1 rfl
          rw [HG.out] at hu1 hu2
          by_cases hb : hamming_gather_gbit c 1 = true
          ·have HN := ak_ (hu1 hb)
           have hb' : (Go.bits .and .u8 (c / 2) 1 == 1) = true := hb
           clear hu1 hu2 hb
           go_wp2
           go_round
           case rel => exact ⟨_, _, 2, by omega, HN, rfl, rfl, rfl⟩
           case measure => simp [intOf]
          ·have hb := eq_false_of_ne_true hb
           have HN := ak_ (hu2 hb)
           have hb' : (Go.bits .and .u8 (c / 2) 1 == 1) = false := hb
           clear hu1 hu2 hb
           go_wp2
           go_round
           case rel => exact ⟨_, _, 2, by omega, HN, rfl, rfl, rfl⟩
           case measure => simp [intOf]
         ·obtain ⟨hu1, hu2⟩ := hamming_gather_up_step c x4 x5 p0 p1 p2 p3 p4 p5 p6 p7 2 p2 rfl
          rw [HG.out] at hu1 hu2
          by_cases hb : hamming_gather_gbit c 2 = true
          ·have HN := ak_ (hu1 hb)
           have hb' : (Go.bits .and .u8 (c / 4) 1 == 1) = true := hb
           clear hu1 hu2 hb
           go_wp2
           go_round
           case rel => exact ⟨_, _, 3, by omega, HN, rfl, rfl, rfl⟩
           case measure => simp [intOf]
          ·have hb := eq_false_of_ne_true hb
           have HN := ak_ (hu2 hb)
           have hb' : (Go.bits .and .u8 (c / 4) 1 == 1) = false := hb
           clear hu1 hu2 hb
           go_wp2
           go_round
           case rel => exact ⟨_, _, 3, by omega, HN, rfl, rfl, rfl⟩
           case measure => simp [intOf]
         ·obtain ⟨hu1, hu2⟩ := hamming_gather_up_step c x4 x5 p0 p1 p2 p3 p4 p5 p6 p7 3 p3 rfl
          rw [HG.out] at hu1 hu2
          by_cases hb : hamming_gather_gbit c 3 = true
          ·have HN := ak_ (hu1 hb)
           have hb' : (Go.bits .and .u8 (c / 8) 1 == 1) = true := hb
           clear hu1 hu2 hb
           go_wp2
           go_round
           case rel => exact ⟨_, _, 4, by omega, HN, rfl, rfl, rfl⟩
           case measure => simp [intOf]
          ·have hb := eq_false_of_ne_true hb
           have HN := ak_ (hu2 hb)
           have hb' : (Go.bits .and .u8 (c / 8) 1 == 1) = false := hb
           clear hu1 hu2 hb
           go_wp2
           go_round
           case rel => exact ⟨_, _, 4, by omega, HN, rfl, rfl, rfl⟩
           case measure => simp [intOf]
         ·obtain ⟨hu1, hu2⟩ := hamming_gather_up_step c x4 x5 p0 p1 p2 p3 p4 p5 p6 p7 4 p4 rfl
          rw [HG.out] at hu1 hu2
          by_cases hb : hamming_gather_gbit c 4 = true
          ·have HN := ak_ (hu1 hb)
           have hb' : (Go.bits .and .u8 (c / 16) 1 == 1) = true := hb
           clear hu1 hu2 hb
           go_wp2
           go_round
           case rel => exact ⟨_, _, 5, by omega, HN, rfl, rfl, rfl⟩
           case measure => simp [intOf]
          ·have hb := eq_false_of_ne_true hb
           have HN := ak_ (hu2 hb)
           have hb' : (Go.bits .and .u8 (c / 16) 1 == 1) = false := hb
           clear hu1 hu2 hb
           go_wp2
           go_round
           case rel => exact ⟨_, _, 5, by omega, HN, rfl, rfl, rfl⟩
           case measure => simp [intOf]
         ·obtain ⟨hu1, hu2⟩ := hamming_gather_up_step c x4 x5 p0 p1 p2 p3 p4 p5 p6 p7 5 p5 rfl
          rw [HG.out] at hu1 hu2
          by_cases hb : hamming_gather_gbit c 5 = true
          ·have HN := ak_ (hu1 hb)
           have hb' : (Go.bits .and .u8 (c / 32) 1 == 1) = true := hb
           clear hu1 hu2 hb
           go_wp2
           go_round
           case rel => exact ⟨_, _, 6, by omega, HN, rfl, rfl, rfl⟩
           case measure => simp [intOf]
          ·have hb := eq_false_of_ne_true hb
           have HN := ak_ (hu2 hb)
           have hb' : (Go.bits .and .u8 (c / 32) 1 == 1) = false := hb
           clear hu1 hu2 hb
           go_wp2
           go_round
           case rel => exact ⟨_, _, 6, by omega, HN, rfl, rfl, rfl⟩
           case measure => simp [intOf]
         ·obtain ⟨hu1, hu2⟩ := hamming_gather_up_step c x4 x5 p0 p1 p2 p3 p4 p5 p6 p7 6 p6 rfl
          rw [HG.out] at hu1 hu2
          by_cases hb : hamming_gather_gbit c 6 = true
          ·have HN := ak_ (hu1 hb)
           have hb' : (Go.bits .and .u8 (c / 64) 1 == 1) = true := hb
           clear hu1 hu2 hb
           go_wp2
           go_round
           case rel => exact ⟨_, _, 7, by omega, HN, rfl, rfl, rfl⟩
           case measure => simp [intOf]
          ·have hb := eq_false_of_ne_true hb
           have HN := ak_ (hu2 hb)
           have hb' : (Go.bits .and .u8 (c / 64) 1 == 1) = false := hb
           clear hu1 hu2 hb
           go_wp2
           go_round
           case rel => exact ⟨_, _, 7, by omega, HN, rfl, rfl, rfl⟩
           case measure => simp [intOf]
         ·obtain ⟨hu1, hu2⟩ := hamming_gather_up_step c x4 x5 p0 p1 p2 p3 p4 p5 p6 p7 7 p7 rfl
          rw [HG.out] at hu1 hu2
          by_cases hb : hamming_gather_gbit c 7 = true
          ·have HN := ak_ (hu1 hb)
           have hb' : (Go.bits .and .u8 (c / 128) 1 == 1) = true := hb
           clear hu1 hu2 hb
           go_wp2
           go_round
           case rel => exact ⟨_, _, 8, by omega, HN, rfl, rfl, rfl⟩
           case measure => simp [intOf]
          ·have hb := eq_false_of_ne_true hb
           have HN := ak_ (hu2 hb)
           have hb' : (Go.bits .and .u8 (c / 128) 1 == 1) = false := hb
           clear hu1 hu2 hb
           go_wp2
           go_round
           case rel => exact ⟨_, _, 8, by omega, HN, rfl, rfl, rfl⟩
           case measure => simp [intOf]
        ·have : j = 8 := by omega
         subst this
         have H2 := H'.out
         rw [HG.out] at H2
         have H3 := ak_ H2
         clear H2 H' HG
         have HB2 := ak_ (HB.out.trans (HB1.out.mono HB.out.size))
         go_wp2
         go_roundg k1
         case measure => have := HK1.out; omega
         case rel => exact ⟨y4, y5, x12 + 1, rfl, rfl, rfl, H3, ⟨by have := HK1.out; omega⟩, HB2⟩
     ·rw [if_neg hx1] at H
      exact absurd H (by simp)
    ·rw [if_neg p126] at H
     exact absurd H (by simp)
   ·rw [if_neg q126] at H
    have c2b0 : decide (x12 < (l0.length : Int)) = false := df_ q126
    clear q126
    obtain rfl := (Prod.mk.inj (si_ H)).1
    obtain rfl := (Prod.mk.inj (si_ H)).2
    go_wp2
    go_ret2
    exact ⟨rfl, HB.out⟩
def bits_OnesCount16.f (a0 : Int) : Option (Int) := if 0 ≤ (a0 / 256) then (if (a0 / 256) < 256 then (if 0 ≤ (Go.bits .and .u16 a0 255) then (if (Go.bits .and .u16 a0 255) < 256 then (some (((bt (⟨#[0, 1, 1, 2, 1, 2, 2, 3, 1, 2, 2, 3, 2, 3, 3, 4, 1, 2, 2, 3, 2, 3, 3, 4, 2, 3, 3, 4, 3, 4, 4, 5, 1, 2, 2, 3, 2, 3, 3, 4, 2, 3, 3, 4, 3, 4, 4, 5, 2, 3, 3, 4, 3, 4, 4, 5, 3, 4, 4, 5, 4, 5, 5, 6, 1, 2, 2, 3, 2, 3, 3, 4, 2, 3, 3, 4, 3, 4, 4, 5, 2, 3, 3, 4, 3, 4, 4, 5, 3, 4, 4, 5, 4, 5, 5, 6, 2, 3, 3, 4, 3, 4, 4, 5, 3, 4, 4, 5, 4, 5, 5, 6, 3, 4, 4, 5, 4, 5, 5, 6, 4, 5, 5, 6, 5, 6, 6, 7, 1, 2, 2, 3, 2, 3, 3, 4, 2, 3, 3, 4, 3, 4, 4, 5, 2, 3, 3, 4, 3, 4, 4, 5, 3, 4, 4, 5, 4, 5, 5, 6, 2, 3, 3, 4, 3, 4, 4, 5, 3, 4, 4, 5, 4, 5, 5, 6, 3, 4, 4, 5, 4, 5, 5, 6, 4, 5, 5, 6, 5, 6, 6, 7, 2, 3, 3, 4, 3, 4, 4, 5, 3, 4, 4, 5, 4, 5, 5, 6, 3, 4, 4, 5, 4, 5, 5, 6, 4, 5, 5, 6, 5, 6, 6, 7, 3, 4, 4, 5, 4, 5, 5, 6, 4, 5, 5, 6, 5, 6, 6, 7, 4, 5, 5, 6, 5, 6, 6, 7, 5, 6, 6, 7, 6, 7, 7, 8]⟩ : ByteArray) (a0 / 256)) + (bt (⟨#[0, 1, 1, 2, 1, 2, 2, 3, 1, 2, 2, 3, 2, 3, 3, 4, 1, 2, 2, 3, 2, 3, 3, 4, 2, 3, 3, 4, 3, 4, 4, 5, 1, 2, 2, 3, 2, 3, 3, 4, 2, 3, 3, 4, 3, 4, 4, 5, 2, 3, 3, 4, 3, 4, 4, 5, 3, 4, 4, 5, 4, 5, 5, 6, 1, 2, 2, 3, 2, 3, 3, 4, 2, 3, 3, 4, 3, 4, 4, 5, 2, 3, 3, 4, 3, 4, 4, 5, 3, 4, 4, 5, 4, 5, 5, 6, 2, 3, 3, 4, 3, 4, 4, 5, 3, 4, 4, 5, 4, 5, 5, 6, 3, 4, 4, 5, 4, 5, 5, 6, 4, 5, 5, 6, 5, 6, 6, 7, 1, 2, 2, 3, 2, 3, 3, 4, 2, 3, 3, 4, 3, 4, 4, 5, 2, 3, 3, 4, 3, 4, 4, 5, 3, 4, 4, 5, 4, 5, 5, 6, 2, 3, 3, 4, 3, 4, 4, 5, 3, 4, 4, 5, 4, 5, 5, 6, 3, 4, 4, 5, 4, 5, 5, 6, 4, 5, 5, 6, 5, 6, 6, 7, 2, 3, 3, 4, 3, 4, 4, 5, 3, 4, 4, 5, 4, 5, 5, 6, 3, 4, 4, 5, 4, 5, 5, 6, 4, 5, 5, 6, 5, 6, 6, 7, 3, 4, 4, 5, 4, 5, 5, 6, 4, 5, 5, 6, 5, 6, 6, 7, 4, 5, 5, 6, 5, 6, 6, 7, 5, 6, 6, 7, 6, 7, 7, 8]⟩ : ByteArray) (Go.bits .and .u16 a0 255))) % 256)) else (none)) else (none)) else (none)) else (none)
theorem bits_OnesCount16.calls (a0 : Int) (r : Int) (w : World) (h : bits_OnesCount16.f a0 = some r) :
  Calls Try.prog 98 #[.int .u16 a0] w fun e w' => e = .returned (.int .i64 r) ∧ Drawn0 w w' := by
 unfold bits_OnesCount16.f at h
 have H := h
 clear h
 obtain ⟨ji2, hji2⟩ : ∃ j_ : Int, (a0 / 256) = j_ := ⟨_, rfl⟩
 replace H : (if 0 ≤ (ji2) then (if (ji2) < 256 then (if 0 ≤ (Go.bits .and .u16 a0 255) then (if (Go.bits .and .u16 a0 255) < 256 then (some (((bt (⟨#[0, 1, 1, 2, 1, 2, 2, 3, 1, 2, 2, 3, 2, 3, 3, 4, 1, 2, 2, 3, 2, 3, 3, 4, 2, 3, 3, 4, 3, 4, 4, 5, 1, 2, 2, 3, 2, 3, 3, 4, 2, 3, 3, 4, 3, 4, 4, 5, 2, 3, 3, 4, 3, 4, 4, 5, 3, 4, 4, 5, 4, 5, 5, 6, 1, 2, 2, 3, 2, 3, 3, 4, 2, 3, 3, 4, 3, 4, 4, 5, 2, 3, 3, 4, 3, 4, 4, 5, 3, 4, 4, 5, 4, 5, 5, 6, 2, 3, 3, 4, 3, 4, 4, 5, 3, 4, 4, 5, 4, 5, 5, 6, 3, 4, 4, 5, 4, 5, 5, 6, 4, 5, 5, 6, 5, 6, 6, 7, 1, 2, 2, 3, 2, 3, 3, 4, 2, 3, 3, 4, 3, 4, 4, 5, 2, 3, 3, 4, 3, 4, 4, 5, 3, 4, 4, 5, 4, 5, 5, 6, 2, 3, 3, 4, 3, 4, 4, 5, 3, 4, 4, 5, 4, 5, 5, 6, 3, 4, 4, 5, 4, 5, 5, 6, 4, 5, 5, 6, 5, 6, 6, 7, 2, 3, 3, 4, 3, 4, 4, 5, 3, 4, 4, 5, 4, 5, 5, 6, 3, 4, 4, 5, 4, 5, 5, 6, 4, 5, 5, 6, 5, 6, 6, 7, 3, 4, 4, 5, 4, 5, 5, 6, 4, 5, 5, 6, 5, 6, 6, 7, 4, 5, 5, 6, 5, 6, 6, 7, 5, 6, 6, 7, 6, 7, 7, 8]⟩ : ByteArray) (ji2)) + (bt (⟨#[0, 1, 1, 2, 1, 2, 2, 3, 1, 2, 2, 3, 2, 3, 3, 4, 1, 2, 2, 3, 2, 3, 3, 4, 2, 3, 3, 4, 3, 4, 4, 5, 1, 2, 2, 3, 2, 3, 3, 4, 2, 3, 3, 4, 3, 4, 4, 5, 2, 3, 3, 4, 3, 4, 4, 5, 3, 4, 4, 5, 4, 5, 5, 6, 1, 2, 2, 3, 2, 3, 3, 4, 2, 3, 3, 4, 3, 4, 4, 5, 2, 3, 3, 4, 3, 4, 4, 5, 3, 4, 4, 5, 4, 5, 5, 6, 2, 3, 3, 4, 3, 4, 4, 5, 3, 4, 4, 5, 4, 5, 5, 6, 3, 4, 4, 5, 4, 5, 5, 6, 4, 5, 5, 6, 5, 6, 6, 7, 1, 2, 2, 3, 2, 3, 3, 4, 2, 3, 3, 4, 3, 4, 4, 5, 2, 3, 3, 4, 3, 4, 4, 5, 3, 4, 4, 5, 4, 5, 5, 6, 2, 3, 3, 4, 3, 4, 4, 5, 3, 4, 4, 5, 4, 5, 5, 6, 3, 4, 4, 5, 4, 5, 5, 6, 4, 5, 5, 6, 5, 6, 6, 7, 2, 3, 3, 4, 3, 4, 4, 5, 3, 4, 4, 5, 4, 5, 5, 6, 3, 4, 4, 5, 4, 5, 5, 6, 4, 5, 5, 6, 5, 6, 6, 7, 3, 4, 4, 5, 4, 5, 5, 6, 4, 5, 5, 6, 5, 6, 6, 7, 4, 5, 5, 6, 5, 6, 6, 7, 5, 6, 6, 7, 6, 7, 7, 8]⟩ : ByteArray) (Go.bits .and .u16 a0 255))) % 256)) else (none)) else (none)) else (none)) else (none)) = some r := (by rw [hji2] at H; exact H)
 by_cases c3 : 0 ≤ (ji2)
 ·rw [if_pos c3] at H
  have c3b0 := dt_ c3
  clear c3
  by_cases c4 : (ji2) < 256
  ·rw [if_pos c4] at H
   have c4b0 := dt_ c4
   clear c4
   by_cases c6 : 0 ≤ (Go.bits .and .u16 a0 255)
   ·rw [if_pos c6] at H
    have c6b0 := dt_ c6
    clear c6
    by_cases c7 : (Go.bits .and .u16 a0 255) < 256
    ·rw [if_pos c7] at H
     have c7b0 := dt_ c7
     clear c7
     obtain rfl := si_ H
     have p5 : 0 ≤ ((ji2) : Int) := od_ ‹_›
     have q5 : (ji2) < (256 : Int) := od_ ‹_›
     have hx5 := bt_at (⟨#[0, 1, 1, 2, 1, 2, 2, 3, 1, 2, 2, 3, 2, 3, 3, 4, 1, 2, 2, 3, 2, 3, 3, 4, 2, 3, 3, 4, 3, 4, 4, 5, 1, 2, 2, 3, 2, 3, 3, 4, 2, 3, 3, 4, 3, 4, 4, 5, 2, 3, 3, 4, 3, 4, 4, 5, 3, 4, 4, 5, 4, 5, 5, 6, 1, 2, 2, 3, 2, 3, 3, 4, 2, 3, 3, 4, 3, 4, 4, 5, 2, 3, 3, 4, 3, 4, 4, 5, 3, 4, 4, 5, 4, 5, 5, 6, 2, 3, 3, 4, 3, 4, 4, 5, 3, 4, 4, 5, 4, 5, 5, 6, 3, 4, 4, 5, 4, 5, 5, 6, 4, 5, 5, 6, 5, 6, 6, 7, 1, 2, 2, 3, 2, 3, 3, 4, 2, 3, 3, 4, 3, 4, 4, 5, 2, 3, 3, 4, 3, 4, 4, 5, 3, 4, 4, 5, 4, 5, 5, 6, 2, 3, 3, 4, 3, 4, 4, 5, 3, 4, 4, 5, 4, 5, 5, 6, 3, 4, 4, 5, 4, 5, 5, 6, 4, 5, 5, 6, 5, 6, 6, 7, 2, 3, 3, 4, 3, 4, 4, 5, 3, 4, 4, 5, 4, 5, 5, 6, 3, 4, 4, 5, 4, 5, 5, 6, 4, 5, 5, 6, 5, 6, 6, 7, 3, 4, 4, 5, 4, 5, 5, 6, 4, 5, 5, 6, 5, 6, 6, 7, 4, 5, 5, 6, 5, 6, 6, 7, 5, 6, 6, 7, 6, 7, 7, 8]⟩ : ByteArray) (ji2)
     replace p5 := eq_true p5
     replace q5 := eq_true q5
     have p8 : 0 ≤ ((Go.bits .and .u16 a0 255) : Int) := od_ ‹_›
     have q8 : (Go.bits .and .u16 a0 255) < (256 : Int) := od_ ‹_›
     have hx8 := bt_at (⟨#[0, 1, 1, 2, 1, 2, 2, 3, 1, 2, 2, 3, 2, 3, 3, 4, 1, 2, 2, 3, 2, 3, 3, 4, 2, 3, 3, 4, 3, 4, 4, 5, 1, 2, 2, 3, 2, 3, 3, 4, 2, 3, 3, 4, 3, 4, 4, 5, 2, 3, 3, 4, 3, 4, 4, 5, 3, 4, 4, 5, 4, 5, 5, 6, 1, 2, 2, 3, 2, 3, 3, 4, 2, 3, 3, 4, 3, 4, 4, 5, 2, 3, 3, 4, 3, 4, 4, 5, 3, 4, 4, 5, 4, 5, 5, 6, 2, 3, 3, 4, 3, 4, 4, 5, 3, 4, 4, 5, 4, 5, 5, 6, 3, 4, 4, 5, 4, 5, 5, 6, 4, 5, 5, 6, 5, 6, 6, 7, 1, 2, 2, 3, 2, 3, 3, 4, 2, 3, 3, 4, 3, 4, 4, 5, 2, 3, 3, 4, 3, 4, 4, 5, 3, 4, 4, 5, 4, 5, 5, 6, 2, 3, 3, 4, 3, 4, 4, 5, 3, 4, 4, 5, 4, 5, 5, 6, 3, 4, 4, 5, 4, 5, 5, 6, 4, 5, 5, 6, 5, 6, 6, 7, 2, 3, 3, 4, 3, 4, 4, 5, 3, 4, 4, 5, 4, 5, 5, 6, 3, 4, 4, 5, 4, 5, 5, 6, 4, 5, 5, 6, 5, 6, 6, 7, 3, 4, 4, 5, 4, 5, 5, 6, 4, 5, 5, 6, 5, 6, 6, 7, 4, 5, 5, 6, 5, 6, 6, 7, 5, 6, 6, 7, 6, 7, 7, 8]⟩ : ByteArray) (Go.bits .and .u16 a0 255)
     replace p8 := eq_true p8
     replace q8 := eq_true q8
     go_enter Try.func98, Try.ntmps98
     go_wp2
     repeat (go_quiet (fail); try go_wp2)
     go_ret
     exact ⟨by rfl, by repeat (first | exact Drawn0.refl _ | apply Drawn0.step)⟩
    ·rw [if_neg c7] at H
     exact absurd H (by simp)
   ·rw [if_neg c6] at H
    exact absurd H (by simp)
  ·rw [if_neg c4] at H
   exact absurd H (by simp)
 ·rw [if_neg c3] at H
  exact absurd H (by simp)
def hamming_odd.f (a0 : Int) : Option (Bool) := (bits_OnesCount16.f a0).bind fun t139 => (some ((Go.bits .and .i64 t139 1) == 1))
theorem hamming_odd.calls (a0 : Int) (r : Bool) (w : World) (h : hamming_odd.f a0 = some r) :
  Calls Try.prog 85 #[.int .u16 a0] w fun e w' => e = .returned (.bool r) ∧ Drawn0 w w' := by
 unfold hamming_odd.f at h
 have H := h
 clear h
 obtain ⟨t138, A2, H⟩ := bs_ H
 obtain rfl := si_ H
 go_enter Try.func85, Try.ntmps85
 go_wp2_with ((with_reducible refine gate_callee (f := 98) rfl ?_); refine goesL_ (some 4) rfl rfl Try.func98 (by kernel_rfl) rfl #[.int .u16 a0] rfl (by (try simp only [List.map_toArray, List.map_cons, List.map_nil]); first | done | rfl | (simp only [List.length_drop, List.length_take]; rfl)) ?_; (with_reducible refine (bits_OnesCount16.calls a0 t138 _ A2.out).mono ?_); rintro e w' ⟨rfl, ⟨nd, rfl⟩⟩; refine ⟨_, rfl, ?_⟩)
 go_ret
 exact ⟨by rfl, by repeat (first | exact Drawn0.refl _ | apply Drawn0.step)⟩
def hamming_Bit.f (k : Nat) (a0 : Int) : Option (Int × Bool) := if a0 < 3 then (some (0, false)) else (if a0 > 2097152 then (some (0, false)) else (if (Go.bits .and .i64 a0 (wrap64 (a0 - 1))) = 0 then (some (0, false)) else ((bits_Len.f k (IntKind.u64.wrap (a0))).bind fun t140 => (some (wrap64 ((wrap64 (a0 - t140)) - 1), true)))))
theorem hamming_Bit.mono : ∀ a0 k, LeO (hamming_Bit.f k a0) (hamming_Bit.f (k + 1) a0) := by
 intro a0 k
 unfold hamming_Bit.f
 repeat' with_reducible first
  | exact bits_Len.mono _ _
  | exact LeO.refl _
  | exact LeO.none _
  | refine LeO.ite ?_ ?_
  | refine LeO.bind ?_ (fun _ => ?_)
theorem hamming_Bit.calls (k : Nat) (a0 : Int) (r1 : Int) (r2 : Bool) (w : World) (h : hamming_Bit.f k a0 = some (r1, r2)) :
  Calls Try.prog 96 #[.int .i64 a0] w fun e w' => e = .returned (.tuple #[.int .i64 r1, .bool r2]) ∧ Drawn0 w w' := by
 unfold hamming_Bit.f at h
 have H := h
 clear h
 by_cases c2 : a0 < 3
 ·rw [if_pos c2] at H
  have c2b0 := dt_ c2
  clear c2
  simp only [Option.some.injEq, Prod.mk.injEq] at H
  obtain ⟨rfl, rfl⟩ := H
  go_enter Try.func96, Try.ntmps96
  go_wp2
  go_ret2
  exact ⟨by rfl, by repeat (first | exact Drawn0.refl _ | apply Drawn0.step)⟩
 ·rw [if_neg c2] at H
  have c2b0 := df_ c2
  clear c2
  by_cases c3 : a0 > 2097152
  ·rw [if_pos c3] at H
   have c3b0 : decide (2097152 < a0) = true := dt_ c3
   clear c3
   simp only [Option.some.injEq, Prod.mk.injEq] at H
   obtain ⟨rfl, rfl⟩ := H
   go_enter Try.func96, Try.ntmps96
   go_wp2
   go_ret2
   exact ⟨by rfl, by repeat (first | exact Drawn0.refl _ | apply Drawn0.step)⟩
  ·rw [if_neg c3] at H
   have c3b0 : decide (2097152 < a0) = false := df_ c3
   clear c3
   by_cases c4 : (Go.bits .and .i64 a0 (wrap64 (a0 - 1))) = 0
   ·rw [if_pos c4] at H
    have c4b0 := beq_iff_eq.mpr c4
    have c4b1 := bne_eq_false_iff_eq.mpr c4
    clear c4
    simp only [Option.some.injEq, Prod.mk.injEq] at H
    obtain ⟨rfl, rfl⟩ := H
    go_enter Try.func96, Try.ntmps96
    go_wp2
    go_ret2
    exact ⟨by rfl, by repeat (first | exact Drawn0.refl _ | apply Drawn0.step)⟩
   ·rw [if_neg c4] at H
    have c4b0 := beq_eq_false_iff_ne.mpr c4
    have c4b1 := bne_iff_ne.mpr c4
    obtain ⟨t132, A5, H⟩ := bs_ H
    simp only [Option.some.injEq, Prod.mk.injEq] at H
    obtain ⟨rfl, rfl⟩ := H
    go_enter Try.func96, Try.ntmps96
    go_wp2_with ((with_reducible refine gate_callee (f := 99) rfl ?_); refine goesL_ (some 20) rfl rfl Try.func99 (by kernel_rfl) rfl #[.int .u64 (IntKind.u64.wrap (a0))] rfl (by (try simp only [List.map_toArray, List.map_cons, List.map_nil]); first | done | rfl | (simp only [List.length_drop, List.length_take]; rfl)) ?_; (with_reducible refine (bits_Len.calls k (IntKind.u64.wrap (a0)) t132 _ A5.out).mono ?_); rintro e w' ⟨rfl, ⟨nd, rfl⟩⟩; refine ⟨_, rfl, ?_⟩)
    go_ret2
    exact ⟨by rfl, by repeat (first | exact Drawn0.refl _ | apply Drawn0.step)⟩
end Go.Proofs.Ytmehbabchakkpaa.QLadderWalks
namespace Go.Proofs.Ytmehbabchakkpaa.QLadderWalks
open Go.RowKit YtmehbabchakkpaaW.PrintWords YtmehbabchakkpaaW.PrintLast YtmehbabchakkpaaW.PrintMore Short
attribute [local go_sem] max2_int min2_int max_two min_two max_three min_three max_four min_four
set_option linter.unusedVariables false
set_option maxHeartbeats 8000000
set_option maxRecDepth 100000
set_option linter.unusedSimpArgs false
def hamming_Judge.j0 : Nat → List Int → Int → Bool → Bool → Option (Int × Int × Int)
 | 0, _, _, _, _ => none
 | k + 1, x0, x9, x10, x31 => if x31 = true then (some (0, 0, 0)) else (if x10 = true then (if (Go.bits .and .i64 x9 (wrap64 (x9 - 1))) = 0 then (some (2, 0, 0)) else ((hamming_Bit.f k x9).bind fun bt144 => (if bt144.2 = true then (if bt144.1 < (wrap64 (8 * (x0.length : Int))) then (some (1, bt144.1, 0)) else (some (3, 0, 0))) else (some (3, 0, 0))))) else (some (3, 0, 0)))
def hamming_Judge.f (k : Nat) (l0 : List Int) (a1 : Int) : Option (Int × Int × Int) := if (l0.length : Int) > 512 then (some (0, 0, 3)) else ((hamming_gather.f k l0).bind fun bt141 => ((hamming_odd.f (Go.bits .andNot .u16 a1 49152)).bind fun t143 => (if ((bt141.2 != t143) = true) then (hamming_Judge.j0 k l0 (wrap64 (Go.bits .and .u16 (Go.bits .xor .u16 bt141.1 a1) 8191)) (bt141.2 != t143) false) else (hamming_Judge.j0 k l0 (wrap64 (Go.bits .and .u16 (Go.bits .xor .u16 bt141.1 a1) 8191)) (bt141.2 != t143) ((wrap64 (Go.bits .and .u16 (Go.bits .xor .u16 bt141.1 a1) 8191)) == 0)))))
theorem hamming_Judge.mono_l : ∀ k, (∀ y0 y1 y2 y3, LeO (hamming_Judge.j0 k y0 y1 y2 y3) (hamming_Judge.j0 (k + 1) y0 y1 y2 y3))
 | 0 => fun _ _ _ _ r h => by simp [hamming_Judge.j0] at h
 | k + 1 => by
  have ih0 := hamming_Judge.mono_l k
  ·intro y0 y1 y2 y3
   unfold hamming_Judge.j0
   repeat' first
   | (with_reducible exact ih0 _ _ _ _)
   | (with_reducible exact hamming_Bit.mono _ _)
   | (with_reducible exact hamming_gather.mono _ _)
   | (with_reducible exact LeO.refl _)
   | (with_reducible exact LeO.none _)
   | (with_reducible refine LeO.ite ?_ ?_)
   | (with_reducible refine LeO.bind ?_ (fun _ => ?_))
theorem hamming_Judge.mono : ∀ a0 a1 k, LeO (hamming_Judge.f k a0 a1) (hamming_Judge.f (k + 1) a0 a1) := by
 intro a0 a1 k
 have ih0 := hamming_Judge.mono_l k
 unfold hamming_Judge.f
 repeat' with_reducible first
  | exact ih0 _ _ _ _
  | exact hamming_Bit.mono _ _
  | exact hamming_gather.mono _ _
  | exact LeO.refl _
  | exact LeO.none _
  | refine LeO.ite ?_ ?_
  | refine LeO.bind ?_ (fun _ => ?_)
theorem hamming_Judge.calls (k : Nat) (A0 : Option Addr) (c0 : Nat) (l0 : List Int) (a1 : Int) (r1 : Int) (r2 : Int) (r3 : Int) (w : World) (hr0 : Kd.C (Kd.int .u8) w A0 l0.length l0) (hc0 : l0.length ≤ c0) (h : hamming_Judge.f k l0 a1 = some (r1, r2, r3)) :
  Calls Try.prog 79 #[.slice A0 l0.length c0, .int .u16 a1] w fun e w' => e = .returned (.tuple #[.int .i64 r1, .int .i64 r2, .int .i64 r3]) ∧ Below w.heap.size w w' := by
 have HR0 := ak_ hr0
 have HC0 := ak_ hc0
 clear hr0 hc0
 have HB := br_ w
 unfold hamming_Judge.f at h
 have H := h
 clear h
 by_cases c3 : (l0.length : Int) > 512
 ·rw [if_pos c3] at H
  have c3b0 : decide (512 < (l0.length : Int)) = true := dt_ c3
  have c3b1 : decide (512 < l0.length) = true := dt_ (by omega)
  clear c3
  simp only [Option.some.injEq, Prod.mk.injEq] at H
  obtain ⟨rfl, rfl, rfl⟩ := H
  go_enter Try.func79, Try.ntmps79
  go_wp2
  go_ret3
  exact ⟨by rfl, HB.out⟩
 ·rw [if_neg c3] at H
  have c3b0 : decide (512 < (l0.length : Int)) = false := df_ c3
  have c3b1 : decide (512 < l0.length) = false := df_ (by omega)
  clear c3
  obtain ⟨⟨t133, t134⟩, A4, H⟩ := bs_ H
  try dsimp only at H
  obtain ⟨t135, A5, H⟩ := bs_ H
  have HC6 := ak_ H
  clear H
  go_enter Try.func79, Try.ntmps79
  go_upto_region 6 with (first | ((with_reducible refine gate_callee (f := 84) rfl ?_); refine goesL_ (some 18) rfl rfl Try.func84 (by kernel_rfl) rfl #[.slice A0 l0.length c0] rfl (by (try simp only [List.map_toArray, List.map_cons, List.map_nil]); first | done | rfl | (simp only [List.length_drop, List.length_take]; rfl)) ?_; (with_reducible refine (hamming_gather.calls k _ _ l0 t133 t134 _ ?side1 ?side2 A4.out).mono ?_); (case side1 => exact HR0.out); (case side2 => exact HC0.out); rintro e w7 ⟨rfl, hb⟩; refine ⟨_, rfl, ?_⟩; replace HB := ak_ (below_step HB.out hb); (try clear hb)) | ((with_reducible refine gate_callee (f := 85) rfl ?_); refine goesL_ (some 29) rfl rfl Try.func85 (by kernel_rfl) rfl #[.int .u16 (Go.bits .andNot .u16 a1 49152)] rfl (by (try simp only [List.map_toArray, List.map_cons, List.map_nil]); first | done | rfl | (simp only [List.length_drop, List.length_take]; rfl)) ?_; (with_reducible refine (hamming_odd.calls (Go.bits .andNot .u16 a1 49152) t135 _ A5.out).mono ?_); rintro e w' ⟨rfl, ⟨nd, rfl⟩⟩; refine ⟨_, rfl, ?_⟩))
  go_cut [31] (fun v31 wc => ∃ (kq : Nat) (x31_5 : Bool), v31 = .bool x31_5 ∧ Aside0 (hamming_Judge.j0 kq l0 (wrap64 (Go.bits .and .u16 (Go.bits .xor .u16 t133 a1) 8191)) (t134 != t135) x31_5 = some (r1, r2, r3)) ∧ Aside0 (kq ≤ k) ∧ Aside0 (Below w.heap.size w wc))
  case first =>
   have H := HC6.out
   clear HC6
   by_cases c8 : ((t134 != t135) = true)
   ·rw [if_pos c8] at H
    have c8b0 : (t134 != t135) = true := c8
    (try (have c8b1 : decide (t134 = t135) = false := by simpa using c8))
    (try (have c8b2 : (t134 == t135) = false := by simpa using c8))
    (try (have c8b3 : ¬ (t134 = t135) := by simpa using c8))
    clear c8
    (first | rw [c8b0] | (simp only [i64_w, i32_w]; rw [c8b0]) | skip)
    have H' := ak_ H
    clear H
    go_wp2
    go_meet
    case rel => exact ⟨_, (false), (by rfl), H', ⟨by omega⟩, ⟨by repeat (first | (with_reducible first | exact HB.out | apply below_alloc | apply pw_below_drewN | apply below_drew1) | exact HB.out)⟩⟩
   ·rw [if_neg c8] at H
    have c8b0 : (t134 != t135) = false := by simpa using c8
    (try (have c8b1 : decide (t134 = t135) = true := by simpa using c8))
    (try (have c8b2 : (t134 == t135) = true := by simpa using c8))
    clear c8
    (first | rw [c8b0] | (simp only [i64_w, i32_w]; rw [c8b0]) | skip)
    have H' := ak_ H
    clear H
    go_wp2
    go_meet
    case rel => exact ⟨_, (((wrap64 (Go.bits .and .u16 (Go.bits .xor .u16 t133 a1) 8191)) == 0)), (by rfl), H', ⟨by omega⟩, ⟨by repeat (first | (with_reducible first | exact HB.out | apply below_alloc | apply pw_below_drewN | apply below_drew1) | exact HB.out)⟩⟩
  case rest =>
   clear HC6 c3b0 c3b1
   obtain ⟨kq, x31_5, rfl, HA, HJ5, HB⟩ := hcut
   cases kq with
   | zero => exact absurd HA.out (by simp [hamming_Judge.j0])
   | succ kj5 =>
    have H := HA.out
    clear HA
    simp only [hamming_Judge.j0] at H
    by_cases c9 : x31_5 = true
    ·subst c9
     rw [if_pos rfl] at H
     simp only [Option.some.injEq, Prod.mk.injEq] at H
     obtain ⟨rfl, rfl, rfl⟩ := H
     go_wp2
     go_ret3
     exact ⟨by rfl, HB.out⟩
    ·replace c9 := Bool.eq_false_iff.mpr c9
     subst c9
     rw [if_neg (show ¬ (false = true) by decide)] at H
     by_cases c10 : (t134 != t135) = true
     ·rw [if_pos c10] at H
      have c10b0 : (t134 != t135) = true := c10
      (try (have c10b1 : decide (t134 = t135) = false := by simpa using c10))
      (try (have c10b2 : (t134 == t135) = false := by simpa using c10))
      (try (have c10b3 : ¬ (t134 = t135) := by simpa using c10))
      clear c10
      by_cases c11 : (Go.bits .and .i64 (wrap64 (Go.bits .and .u16 (Go.bits .xor .u16 t133 a1) 8191)) (wrap64 ((wrap64 (Go.bits .and .u16 (Go.bits .xor .u16 t133 a1) 8191)) - 1))) = 0
      ·rw [if_pos c11] at H
       have c11b0 := beq_iff_eq.mpr c11
       have c11b1 := bne_eq_false_iff_eq.mpr c11
       clear c11
       simp only [Option.some.injEq, Prod.mk.injEq] at H
       obtain ⟨rfl, rfl, rfl⟩ := H
       go_wp2
       go_ret3
       exact ⟨by rfl, HB.out⟩
      ·rw [if_neg c11] at H
       have c11b0 := beq_eq_false_iff_ne.mpr c11
       have c11b1 := bne_iff_ne.mpr c11
       obtain ⟨⟨t136, t137⟩, A12, H⟩ := bs_ H
       try dsimp only at H
       by_cases c13 : t137 = true
       ·subst c13
        rw [if_pos rfl] at H
        by_cases c14 : t136 < (wrap64 (8 * (l0.length : Int)))
        ·rw [if_pos c14] at H
         have c14b0 := dt_ c14
         clear c14
         simp only [Option.some.injEq, Prod.mk.injEq] at H
         obtain ⟨rfl, rfl, rfl⟩ := H
         go_wp2_with ((with_reducible refine gate_callee (f := 96) rfl ?_); refine goesL_ (some 49) rfl rfl Try.func96 (by kernel_rfl) rfl #[.int .i64 (wrap64 (Go.bits .and .u16 (Go.bits .xor .u16 t133 a1) 8191))] rfl (by (try simp only [List.map_toArray, List.map_cons, List.map_nil]); first | done | rfl | (simp only [List.length_drop, List.length_take]; rfl)) ?_; (with_reducible refine (hamming_Bit.calls kj5 (wrap64 (Go.bits .and .u16 (Go.bits .xor .u16 t133 a1) 8191)) t136 true _ A12.out).mono ?_); rintro e w' ⟨rfl, ⟨nd, rfl⟩⟩; refine ⟨_, rfl, ?_⟩)
         go_ret3
         exact ⟨by rfl, by repeat (first | (with_reducible first | exact HB.out | apply below_alloc | apply pw_below_drewN | apply below_drew1) | exact HB.out)⟩
        ·rw [if_neg c14] at H
         have c14b0 := df_ c14
         clear c14
         simp only [Option.some.injEq, Prod.mk.injEq] at H
         obtain ⟨rfl, rfl, rfl⟩ := H
         go_wp2_with ((with_reducible refine gate_callee (f := 96) rfl ?_); refine goesL_ (some 49) rfl rfl Try.func96 (by kernel_rfl) rfl #[.int .i64 (wrap64 (Go.bits .and .u16 (Go.bits .xor .u16 t133 a1) 8191))] rfl (by (try simp only [List.map_toArray, List.map_cons, List.map_nil]); first | done | rfl | (simp only [List.length_drop, List.length_take]; rfl)) ?_; (with_reducible refine (hamming_Bit.calls kj5 (wrap64 (Go.bits .and .u16 (Go.bits .xor .u16 t133 a1) 8191)) t136 true _ A12.out).mono ?_); rintro e w' ⟨rfl, ⟨nd, rfl⟩⟩; refine ⟨_, rfl, ?_⟩)
         go_ret3
         exact ⟨by rfl, by repeat (first | (with_reducible first | exact HB.out | apply below_alloc | apply pw_below_drewN | apply below_drew1) | exact HB.out)⟩
       ·replace c13 := Bool.eq_false_iff.mpr c13
        subst c13
        rw [if_neg (show ¬ (false = true) by decide)] at H
        simp only [Option.some.injEq, Prod.mk.injEq] at H
        obtain ⟨rfl, rfl, rfl⟩ := H
        go_wp2_with ((with_reducible refine gate_callee (f := 96) rfl ?_); refine goesL_ (some 49) rfl rfl Try.func96 (by kernel_rfl) rfl #[.int .i64 (wrap64 (Go.bits .and .u16 (Go.bits .xor .u16 t133 a1) 8191))] rfl (by (try simp only [List.map_toArray, List.map_cons, List.map_nil]); first | done | rfl | (simp only [List.length_drop, List.length_take]; rfl)) ?_; (with_reducible refine (hamming_Bit.calls kj5 (wrap64 (Go.bits .and .u16 (Go.bits .xor .u16 t133 a1) 8191)) t136 false _ A12.out).mono ?_); rintro e w' ⟨rfl, ⟨nd, rfl⟩⟩; refine ⟨_, rfl, ?_⟩)
        go_ret3
        exact ⟨by rfl, by repeat (first | (with_reducible first | exact HB.out | apply below_alloc | apply pw_below_drewN | apply below_drew1) | exact HB.out)⟩
     ·rw [if_neg c10] at H
      have c10b0 : (t134 != t135) = false := by simpa using c10
      (try (have c10b1 : decide (t134 = t135) = true := by simpa using c10))
      (try (have c10b2 : (t134 == t135) = true := by simpa using c10))
      clear c10
      simp only [Option.some.injEq, Prod.mk.injEq] at H
      obtain ⟨rfl, rfl, rfl⟩ := H
      go_wp2
      go_ret3
      exact ⟨by rfl, HB.out⟩
mutual
def chunk_Decode.j0 : Nat → List Int → Int → Bool → Option (List Int × Int × Int)
 | 0, _, _, _ => none
 | k + 1, x0, x5, x16 => if x16 = true then (some (([] : List Int), 0, 2)) else (chunk_Decode.j1 k x0 x5)
def chunk_Decode.j1 : Nat → List Int → Int → Option (List Int × Int × Int)
 | 0, _, _ => none
 | k + 1, x0, x5 => if 0 ≤ x5 then (if x5 ≤ (x0.length : Int) then (if x5 < (x0.length : Int) then (if 0 ≤ (wrap64 (x5 + 1)) then (if (wrap64 (x5 + 1)) < (x0.length : Int) then ((hamming_Judge.f k (x0.take (x5 : Int).toNat) (Go.bits .or .u16 (IntKind.u16.wrap (rd x0 x5)) (IntKind.u16.wrap ((IntKind.u16.wrap (rd x0 (wrap64 (x5 + 1)))) * 256)))).bind fun bt149 => (if bt149.2.2 = 0 then (chunk_Decode.j2 k x0 x5 bt149.1 bt149.2.1) else (some (([] : List Int), 0, bt149.2.2)))) else (none)) else (none)) else (none)) else (none)) else (none)
def chunk_Decode.j2 : Nat → List Int → Int → Int → Int → Option (List Int × Int × Int)
 | 0, _, _, _, _ => none
 | k + 1, x0, x5, x6, x7 => if x6 = 0 then (if 0 ≤ x5 then (if x5 ≤ (x0.length : Int) then ((bits_Flip.f k (x0.take (x5 : Int).toNat) ([] : List Int)).bind fun t153 => (some (t153, 0, 0))) else (none)) else (none)) else (if x6 = 1 then (if 0 ≤ x5 then (if x5 ≤ (x0.length : Int) then ((bits_Flip.f k (x0.take (x5 : Int).toNat) (([x7] : List Int))).bind fun t160 => (some (t160, 1, 0))) else (none)) else (none)) else (if x6 = 2 then (if 0 ≤ x5 then (if x5 ≤ (x0.length : Int) then ((bits_Flip.f k (x0.take (x5 : Int).toNat) ([] : List Int)).bind fun t164 => (some (t164, 1, 0))) else (none)) else (none)) else (some (([] : List Int), 0, 14))))
end
def chunk_Decode.f (k : Nat) (l0 : List Int) : Option (List Int × Int × Int) := if (wrap64 ((l0.length : Int) - 2)) < 1 then (chunk_Decode.j0 k l0 (wrap64 ((l0.length : Int) - 2)) true) else (chunk_Decode.j0 k l0 (wrap64 ((l0.length : Int) - 2)) (decide ((wrap64 ((l0.length : Int) - 2)) > 512)))
theorem chunk_Decode.mono_l : ∀ k, (∀ y0 y1 y2, LeO (chunk_Decode.j0 k y0 y1 y2) (chunk_Decode.j0 (k + 1) y0 y1 y2)) ∧ (∀ y0 y1, LeO (chunk_Decode.j1 k y0 y1) (chunk_Decode.j1 (k + 1) y0 y1)) ∧ (∀ y0 y1 y2 y3, LeO (chunk_Decode.j2 k y0 y1 y2 y3) (chunk_Decode.j2 (k + 1) y0 y1 y2 y3))
 | 0 => ⟨fun _ _ _ r h => by simp [chunk_Decode.j0] at h, fun _ _ r h => by simp [chunk_Decode.j1] at h, fun _ _ _ _ r h => by simp [chunk_Decode.j2] at h⟩
 | k + 1 => by
  obtain ⟨ih0, ih1, ih2⟩ := chunk_Decode.mono_l k
  refine ⟨?_, ?_, ?_⟩
  ·intro y0 y1 y2
   unfold chunk_Decode.j0
   repeat' first
   | (with_reducible exact ih0 _ _ _)
   | (with_reducible exact ih1 _ _)
   | (with_reducible exact ih2 _ _ _ _)
   | (with_reducible exact bits_Flip.mono _ _ _)
   | (with_reducible exact hamming_Judge.mono _ _ _)
   | (with_reducible exact LeO.refl _)
   | (with_reducible exact LeO.none _)
   | (with_reducible refine LeO.ite ?_ ?_)
   | (with_reducible refine LeO.bind ?_ (fun _ => ?_))
  ·intro y0 y1
   unfold chunk_Decode.j1
   repeat' first
   | (with_reducible exact ih0 _ _ _)
   | (with_reducible exact ih1 _ _)
   | (with_reducible exact ih2 _ _ _ _)
   | (with_reducible exact bits_Flip.mono _ _ _)
   | (with_reducible exact hamming_Judge.mono _ _ _)
   | (with_reducible exact LeO.refl _)
   | (with_reducible exact LeO.none _)
   | (with_reducible refine LeO.ite ?_ ?_)
   | (with_reducible refine LeO.bind ?_ (fun _ => ?_))
  ·intro y0 y1 y2 y3
   unfold chunk_Decode.j2
   repeat' first
   | (with_reducible exact ih0 _ _ _)
   | (with_reducible exact ih1 _ _)
   | (with_reducible exact ih2 _ _ _ _)
   | (with_reducible exact bits_Flip.mono _ _ _)
   | (with_reducible exact hamming_Judge.mono _ _ _)
   | (with_reducible exact LeO.refl _)
   | (with_reducible exact LeO.none _)
   | (with_reducible refine LeO.ite ?_ ?_)
   | (with_reducible refine LeO.bind ?_ (fun _ => ?_))
theorem chunk_Decode.mono : ∀ a0 k, LeO (chunk_Decode.f k a0) (chunk_Decode.f (k + 1) a0) := by
 intro a0 k
 obtain ⟨ih0, ih1, ih2⟩ := chunk_Decode.mono_l k
 unfold chunk_Decode.f
 repeat' with_reducible first
  | exact ih0 _ _ _
  | exact ih1 _ _
  | exact ih2 _ _ _ _
  | exact bits_Flip.mono _ _ _
  | exact hamming_Judge.mono _ _ _
  | exact LeO.refl _
  | exact LeO.none _
  | refine LeO.ite ?_ ?_
  | refine LeO.bind ?_ (fun _ => ?_)
def chunk_Decode.T4 : Bool × List (List Nat × List Nat) := (true, [([], []), ([], []), ([0, 1], [0, 1]), ([], []), ([], []), ([3, 4], [3, 4]), ([5], [5]), ([6], [6]), ([], []), ([], []), ([9], [9]), ([8, 10], [8, 10]), ([11], [11]), ([12], [12]), ([13], [13]), ([7, 14], [7, 14]), ([2, 15], [2, 15]), ([16], [16]), ([17], [17]), ([17], [17]), ([17], [17]), ([18, 16, 0, 1, 2, 3, 4, 5, 6, 7, 8, 9, 10, 11, 12, 13, 14, 15, 16, 17, 18], [18]), ([19, 21, 0, 1, 2, 3, 4, 5, 6, 7, 8, 9, 10, 11, 12, 13, 14, 15, 16, 17, 18, 19, 21], [19]), ([20, 22, 0, 1, 2, 3, 4, 5, 6, 7, 8, 9, 10, 11, 12, 13, 14, 15, 16, 17, 18, 19, 20, 21, 22], [20])])
def chunk_Decode.B4 : List Nat := [0, 0, 3, 0, 0, 24, 56, 120, 0, 0, 512, 1792, 3840, 7936, 16128, 32760, 65535, 131071, 262143, 262143, 262143, 524287, 3145727, 8388607]
theorem chunk_Decode.tab4 : rtab .any (opsOf Try.f60 4) = chunk_Decode.T4 := by kernel_rfl
theorem chunk_Decode.bits4 : waitsOk chunk_Decode.T4.2 chunk_Decode.B4 = true := by kernel_rfl
theorem chunk_Decode.calls (k : Nat) (A0 : Option Addr) (c0 : Nat) (l0 : List Int) (r1 : List Int) (r2 : Int) (r3 : Int) (w : World) (hr0 : Kd.C (Kd.int .u8) w A0 l0.length l0) (hc0 : l0.length ≤ c0) (h : chunk_Decode.f k l0 = some (r1, r2, r3)) :
  Calls Try.prog 60 #[.slice A0 l0.length c0] w fun e w' => ∃ v0_ : Value, e = .returned (.tuple #[v0_, .int .i64 r2, .int .i64 r3]) ∧ Kd.R (Kd.int .u8) 5 w' w.heap.size (fun _ => True) v0_ r1 ∧ Below w.heap.size w w' := by
 have HR0 := ak_ hr0
 have HC0 := ak_ hc0
 clear hr0 hc0
 have HB := br_ w
 unfold chunk_Decode.f at h
 have H := h
 clear h
 have HC2 := ak_ H
 clear H
 go_enter Try.func60, Try.ntmps60
 go_upto_region 2 with (fail)
 go_cut [16] (fun v16 wc => ∃ (kq : Nat) (x16_1 : Bool), v16 = .bool x16_1 ∧ Aside0 (chunk_Decode.j0 kq l0 (wrap64 ((l0.length : Int) - 2)) x16_1 = some (r1, r2, r3)) ∧ Aside0 (kq ≤ k) ∧ Aside0 (Below w.heap.size w wc))
 case first =>
  have H := HC2.out
  clear HC2
  by_cases c3 : (wrap64 ((l0.length : Int) - 2)) < 1
  ·rw [if_pos c3] at H
   have c3b0 := dt_ c3
   clear c3
   (first | rw [c3b0] | (simp only [i64_w, i32_w]; rw [c3b0]) | skip)
   have H' := ak_ H
   clear H
   go_wp2
   go_meet
   case rel => exact ⟨_, (true), (by rfl), H', ⟨by omega⟩, ⟨HB.out⟩⟩
  ·rw [if_neg c3] at H
   have c3b0 := df_ c3
   clear c3
   (first | rw [c3b0] | (simp only [i64_w, i32_w]; rw [c3b0]) | skip)
   have H' := ak_ H
   clear H
   go_wp2
   go_meet
   case rel => exact ⟨_, (decide ((wrap64 ((l0.length : Int) - 2)) > 512)), (by rfl), H', ⟨by omega⟩, ⟨HB.out⟩⟩
 case rest =>
  clear HC2
  obtain ⟨kq, x16_1, rfl, HA, HJ1, HB⟩ := hcut
  cases kq with
  | zero => exact absurd HA.out (by simp [chunk_Decode.j0])
  | succ kj1 =>
   have H := HA.out
   clear HA
   simp only [chunk_Decode.j0] at H
   have HC4 := ak_ H
   clear H
   go_upto_if 16 with (fail)
   go_cut [] (fun wc => ∃ (kq : Nat), Aside0 (chunk_Decode.j1 kq l0 (wrap64 ((l0.length : Int) - 2)) = some (r1, r2, r3)) ∧ Aside0 (kq ≤ kj1) ∧ Aside0 (Below w.heap.size w wc))
   case first =>
    have H := HC4.out
    clear HC4
    by_cases c5 : x16_1 = true
    ·subst c5
     rw [if_pos rfl] at H
     simp only [Option.some.injEq, Prod.mk.injEq] at H
     obtain ⟨rfl, rfl, rfl⟩ := H
     go_wp2
     go_ret3
     exact ⟨_, by rfl, (Kd.R_nil _ _ _ _ _), HB.out⟩
    ·replace c5 := Bool.eq_false_iff.mpr c5
     subst c5
     rw [if_neg (show ¬ (false = true) by decide)] at H
     have H' := ak_ H
     clear H
     go_wp2
     go_meet
     case rel => exact ⟨_, H', ⟨by have := HJ1.out; omega⟩, ⟨HB.out⟩⟩
   case rest =>
    clear HC4
    obtain ⟨kq, HA, HJ3, HB⟩ := hcut
    cases kq with
    | zero => exact absurd HA.out (by simp [chunk_Decode.j1])
    | succ kj3 =>
     have H := HA.out
     clear HA
     simp only [chunk_Decode.j1] at H
     obtain ⟨ji6, hji6⟩ : ∃ j_ : Int, (wrap64 ((l0.length : Int) - 2)) = j_ := ⟨_, rfl⟩
     replace H : (if 0 ≤ (ji6) then (if (ji6) ≤ (l0.length : Int) then (if (ji6) < (l0.length : Int) then (if 0 ≤ (wrap64 ((ji6) + 1)) then (if (wrap64 ((ji6) + 1)) < (l0.length : Int) then ((hamming_Judge.f kj3 (l0.take ((ji6) : Int).toNat) (Go.bits .or .u16 (IntKind.u16.wrap (rd l0 (ji6))) (IntKind.u16.wrap ((IntKind.u16.wrap (rd l0 (wrap64 ((ji6) + 1)))) * 256)))).bind fun bt438 => (if bt438.2.2 = 0 then (chunk_Decode.j2 kj3 l0 (ji6) bt438.1 bt438.2.1) else (some (([] : List Int), 0, bt438.2.2)))) else (none)) else (none)) else (none)) else (none)) else (none)) = some (r1, r2, r3) := (by rw [hji6] at H; exact H)
     have hji6w : (IntKind.i64.wrap ((l0.length : Int) - 2)) = ji6 := (i64_w _).trans hji6
     by_cases c7 : 0 ≤ (ji6)
     ·rw [if_pos c7] at H
      have c7b0 := eq_true c7
      have c7b1 := dt_ c7
      clear c7
      by_cases c8 : (ji6) ≤ (l0.length : Int)
      ·rw [if_pos c8] at H
       have c8b0 := eq_true c8
       have c8b1 := dt_ c8
       clear c8
       by_cases c9 : (ji6) < (l0.length : Int)
       ·rw [if_pos c9] at H
        have c9b0 := dt_ c9
        clear c9
        obtain ⟨ji10, hji10⟩ : ∃ j_ : Int, (wrap64 ((ji6) + 1)) = j_ := ⟨_, rfl⟩
        replace H : (if 0 ≤ (ji10) then (if (ji10) < (l0.length : Int) then ((hamming_Judge.f kj3 (l0.take ((ji6) : Int).toNat) (Go.bits .or .u16 (IntKind.u16.wrap (rd l0 (ji6))) (IntKind.u16.wrap ((IntKind.u16.wrap (rd l0 (ji10))) * 256)))).bind fun bt438 => (if bt438.2.2 = 0 then (chunk_Decode.j2 kj3 l0 (ji6) bt438.1 bt438.2.1) else (some (([] : List Int), 0, bt438.2.2)))) else (none)) else (none)) = some (r1, r2, r3) := (by rw [hji10] at H; exact H)
        have hji10w : (IntKind.i64.wrap ((ji6) + 1)) = ji10 := (i64_w _).trans hji10
        by_cases c11 : 0 ≤ (ji10)
        ·rw [if_pos c11] at H
         have c11b0 := dt_ c11
         clear c11
         by_cases c12 : (ji10) < (l0.length : Int)
         ·rw [if_pos c12] at H
          have c12b0 := dt_ c12
          clear c12
          obtain ⟨⟨t438, t439, t440⟩, A13, H⟩ := bs_ H
          try dsimp only at H
          have HC14 := ak_ H
          clear H
          try go_wp2
          replace HB := ak_ (below_drew1 HB.out)
          obtain ⟨i016, hi016, _, hsz16, _⟩ := info_parts info5
          obtain ⟨hcut16, hA16, hC16⟩ := print_take_of (P := Try.prog) (Value.int .u8) 0 24 5 .i64 Try.underlying24 hi016 hsz16 A0 c0 l0 (ji6) (od_ ‹_›) (od_ ‹_›) HC0.out
          have HR435 := ak_ (Kd.C_of_reads (h1 := fun _ => rfl) (hA16 _ (Kd.reads_of_C HR0.out)))
          have HC435 := ak_ hC16
          clear hA16 hC16 hi016 hsz16
          have p436 : 0 ≤ ((ji6) : Int) := od_ ‹_›
          have q436 : (ji6) < (l0.length : Int) := od_ ‹_›
          obtain ⟨ad436, e436, hx436_0⟩ := Kd.at_int HR0.out (ji6) p436 q436
          have hw436_0 := hx436_0
          cases e436
          replace hx436_0 := (HB.out.cell (World.block_lt_of_cell? w _ hx436_0)).trans hx436_0
          replace p436 := eq_true p436
          replace q436 := eq_true q436
          have p437 : 0 ≤ ((ji10) : Int) := od_ ‹_›
          have q437 : (ji10) < (l0.length : Int) := od_ ‹_›
          obtain ⟨ad437, e437, hx437_0⟩ := Kd.at_int HR0.out (ji10) p437 q437
          have hw437_0 := hx437_0
          obtain rfl : ad436 = ad437 := (by injection e437)
          replace hx437_0 := (HB.out.cell (World.block_lt_of_cell? w _ hx437_0)).trans hx437_0
          replace p437 := eq_true p437
          replace q437 := eq_true q437
          refine start_ (n := 24) (S := fun w' => w'.cell? (ad436.add ((ji6)).toNat) = some (.int .u8 (rd l0 (ji6))) ∧ w'.cell? (ad436.add ((ji10)).toNat) = some (.int .u8 (rd l0 (ji10)))) (ds := []) #[false, false, false, false, false, false, false, false, false, false, false, false, false, false, false, false, false, false, false, false, false, false, false, false] (by kernel_rfl) rfl rfl ⟨((HB.out.cell (World.block_lt_of_cell? w _ hw436_0)).trans hw436_0), ((HB.out.cell (World.block_lt_of_cell? w _ hw437_0)).trans hw437_0)⟩ (fun hHeld => ?_); refine with_tabW chunk_Decode.tab4 chunk_Decode.bits4 (fun HT_ HW_ => ?_)
          generalize wc.drew = w15 at HB HR435 hx436_0 hx437_0 hHeld ⊢
          refine pu 0 (some 18) #[true, false, false, false, false, false, false, false, false, false, false, false, false, false, false, false, false, false, false, false, false, false, false, false] HT_.out rfl rfl ?_
          refine pu 1 (some 19) #[true, true, false, false, false, false, false, false, false, false, false, false, false, false, false, false, false, false, false, false, false, false, false, false] HT_.out rfl rfl ?_
          refine pu 2 (some 20) #[true, true, true, false, false, false, false, false, false, false, false, false, false, false, false, false, false, false, false, false, false, false, false, false] HT_.out rfl rfl ?_
          refine pu 3 (some 21) #[true, true, true, true, false, false, false, false, false, false, false, false, false, false, false, false, false, false, false, false, false, false, false, false] HT_.out rfl rfl ?_
          refine pu 4 (some 22) #[true, true, true, true, true, false, false, false, false, false, false, false, false, false, false, false, false, false, false, false, false, false, false, false] HT_.out rfl rfl ?_
          refine pu 5 (some 23) #[true, true, true, true, true, true, false, false, false, false, false, false, false, false, false, false, false, false, false, false, false, false, false, false] HT_.out rfl rfl ?_
          refine pu 8 (some 26) #[true, true, true, true, true, true, false, false, true, false, false, false, false, false, false, false, false, false, false, false, false, false, false, false] HT_.out rfl rfl ?_
          refine pu 9 (some 27) #[true, true, true, true, true, true, false, false, true, true, false, false, false, false, false, false, false, false, false, false, false, false, false, false] HT_.out rfl rfl ?_
          refine pu 10 (some 28) #[true, true, true, true, true, true, false, false, true, true, true, false, false, false, false, false, false, false, false, false, false, false, false, false] HT_.out rfl rfl ?_
          refine pu 11 (some 29) #[true, true, true, true, true, true, false, false, true, true, true, true, false, false, false, false, false, false, false, false, false, false, false, false] HT_.out rfl rfl ?_
          refine take_ (i := 6) (N := some 24) (v := ?_) (a' := ?_) #[true, true, true, true, true, true, true, false, true, true, true, true, false, false, false, false, false, false, false, false, false, false, false, false] rfl rfl (take_ofW HT_.out HW_.out (by kernel_rfl)) (fun _ _ _ h => h) (Or.inl ⟨by rfl, ?_⟩) hHeld ?_ ?_
          rotate_left
          ·rintro w' ⟨s0, s1⟩
           go_simp
           with_reducible rfl
          rotate_left
          ·simp only [Act.put, sb_, sz_, su_, i64_w, i32_w]
           rfl
          refine pu 7 (some 25) #[true, true, true, true, true, true, true, true, true, true, true, true, false, false, false, false, false, false, false, false, false, false, false, false] HT_.out rfl rfl ?_
          refine take_ (i := 12) (N := some 30) (v := ?_) (a' := ?_) #[true, true, true, true, true, true, true, true, true, true, true, true, true, false, false, false, false, false, false, false, false, false, false, false] rfl rfl (take_ofW HT_.out HW_.out (by kernel_rfl)) (fun _ _ _ h => h) (Or.inl ⟨by rfl, ?_⟩) hHeld ?_ ?_
          rotate_left
          ·rintro w' ⟨s0, s1⟩
           go_simp
           with_reducible rfl
          rotate_left
          ·simp only [Act.put, sb_, sz_, su_, i64_w, i32_w]
           rfl
          refine pu 13 (some 31) #[true, true, true, true, true, true, true, true, true, true, true, true, true, true, false, false, false, false, false, false, false, false, false, false] HT_.out rfl rfl ?_
          refine pu 14 (some 32) #[true, true, true, true, true, true, true, true, true, true, true, true, true, true, true, false, false, false, false, false, false, false, false, false] HT_.out rfl rfl ?_
          refine pu 15 (some 33) #[true, true, true, true, true, true, true, true, true, true, true, true, true, true, true, true, false, false, false, false, false, false, false, false] HT_.out rfl rfl ?_
          refine one_ (i := 16) (N := some 34) #[true, true, true, true, true, true, true, true, true, true, true, true, true, true, true, true, true, false, false, false, false, false, false, false] rfl rfl (one_of HT_.out (by kernel_rfl)) (by decide) (fun K hK => ?_)
          refine goes_ Try.func79 (by kernel_rfl) rfl #[.slice (some ad436) (l0.take ((ji6) : Int).toNat).length c0, .int .u16 (Go.bits .or .u16 (IntKind.u16.wrap (rd l0 (ji6))) (IntKind.u16.wrap ((IntKind.u16.wrap (rd l0 (ji10))) * 256)))] (by rfl) rfl rfl (by (try simp only [List.map_toArray, List.map_cons, List.map_nil]); first | done | (rw [show (l0.take ((ji6) : Int).toNat).length = (ji6).toNat from (by rw [List.length_take]; have h_ : ((ji6) : Int) ≤ (l0.length : Int) := od_ ‹_›; omega)] <;> rfl) | (simp only [hji10, hji6]; rfl) | rfl | (simp only [List.length_drop, List.length_take]; rfl)) ?_
          with_reducible refine (hamming_Judge.calls kj3 _ _ (l0.take ((ji6) : Int).toNat) (Go.bits .or .u16 (IntKind.u16.wrap (rd l0 (ji6))) (IntKind.u16.wrap ((IntKind.u16.wrap (rd l0 (ji10))) * 256))) t438 t439 t440 _ ?side1 ?side2 A13.out).mono ?_
          (case side1 => exact (Kd.C_below HR435.out HB.out))
          (case side2 => exact HC435.out)
          rintro e w17 ⟨rfl, hb⟩
          refine ⟨_, rfl, ?_⟩
          replace HB := ak_ (below_step HB.out hb)
          (try clear hb)
          (try clear hb2)
          (try clear hk)
          (try clear hi)
          refine hK.out _ _ ⟨((HB.out.cell (World.block_lt_of_cell? w _ hw436_0)).trans hw436_0), ((HB.out.cell (World.block_lt_of_cell? w _ hw437_0)).trans hw437_0)⟩ (fun hHeld => ?_)
          clear hK K
          refine norm_ (a' := ?_) ?_ ?_
          rotate_left
          ·show Act.put _ (some 34) _ = _
           simp only [Act.put, sb_, sz_, su_, i64_w, i32_w]
           rfl
          refine pu 17 (some 17) #[true, true, true, true, true, true, true, true, true, true, true, true, true, true, true, true, true, true, false, false, false, false, false, false] HT_.out rfl rfl ?_
          refine pu 18 (some 35) #[true, true, true, true, true, true, true, true, true, true, true, true, true, true, true, true, true, true, true, false, false, false, false, false] HT_.out rfl rfl ?_
          refine pu 19 (some 36) #[true, true, true, true, true, true, true, true, true, true, true, true, true, true, true, true, true, true, true, true, false, false, false, false] HT_.out rfl rfl ?_
          refine pu 20 (some 37) #[true, true, true, true, true, true, true, true, true, true, true, true, true, true, true, true, true, true, true, true, true, false, false, false] HT_.out rfl rfl ?_
          refine pu 21 (some 6) #[true, true, true, true, true, true, true, true, true, true, true, true, true, true, true, true, true, true, true, true, true, true, false, false] HT_.out rfl rfl ?_
          refine pu 22 (some 7) #[true, true, true, true, true, true, true, true, true, true, true, true, true, true, true, true, true, true, true, true, true, true, true, false] HT_.out rfl rfl ?_
          refine pu 23 (some 4) #[true, true, true, true, true, true, true, true, true, true, true, true, true, true, true, true, true, true, true, true, true, true, true, true] HT_.out rfl rfl ?_
          refine done_ (done_of HT_.out (by kernel_rfl)) ?_
          go_upto_if 39 with (fail)
          (try simp only [hji6, hji10])
          go_cut [] (fun wc => ∃ (kq : Nat), Aside0 (chunk_Decode.j2 kq l0 (ji6) t438 t439 = some (r1, r2, r3)) ∧ Aside0 (kq ≤ kj3) ∧ Aside0 (Below w.heap.size w wc))
          case first =>
           have H := HC14.out
           clear HC14
           by_cases c18 : t440 = 0
           ·rw [if_pos c18] at H
            have c18b0 := beq_iff_eq.mpr c18
            have c18b1 := bne_eq_false_iff_eq.mpr c18
            clear c18
            (first | rw [c18b0] | (simp only [i64_w, i32_w]; rw [c18b0]) | skip)
            have H' := ak_ H
            clear H
            go_wp2
            go_meet
            case rel => exact ⟨_, H', ⟨by have := HJ1.out; have := HJ3.out; omega⟩, ⟨HB.out⟩⟩
           ·rw [if_neg c18] at H
            have c18b0 := beq_eq_false_iff_ne.mpr c18
            have c18b1 := bne_iff_ne.mpr c18
            (first | rw [c18b0] | (simp only [i64_w, i32_w]; rw [c18b0]) | skip)
            simp only [Option.some.injEq, Prod.mk.injEq] at H
            obtain ⟨rfl, rfl, rfl⟩ := H
            go_wp2
            go_ret3
            exact ⟨_, by rfl, (Kd.R_nil _ _ _ _ _), HB.out⟩
          case rest =>
           clear HC14 c7b0 c7b1 c8b0 c8b1 c9b0 c11b0 c12b0 hx436_0 hx437_0 p436 p437 q436 q437
           obtain ⟨kq, HA, HJ13, HB⟩ := hcut
           cases kq with
           | zero => exact absurd HA.out (by simp [chunk_Decode.j2])
           | succ kj13 =>
            have H := HA.out
            clear HA
            simp only [chunk_Decode.j2] at H
            by_cases c19 : t438 = 0
            ·rw [if_pos c19] at H
             have c19b0 := beq_iff_eq.mpr c19
             have c19b1 := bne_eq_false_iff_eq.mpr c19
             clear c19
             by_cases c20 : 0 ≤ (ji6)
             ·rw [if_pos c20] at H
              have c20b0 := eq_true c20
              have c20b1 := dt_ c20
              clear c20
              by_cases c21 : (ji6) ≤ (l0.length : Int)
              ·rw [if_pos c21] at H
               have c21b0 := eq_true c21
               have c21b1 := dt_ c21
               clear c21
               obtain ⟨t442, A22, H⟩ := bs_ H
               simp only [Option.some.injEq, Prod.mk.injEq] at H
               obtain ⟨rfl, rfl, rfl⟩ := H
               obtain ⟨i023, hi023, _, hsz23, _⟩ := info_parts info5
               obtain ⟨hcut23, hA23, hC23⟩ := print_take_of (P := Try.prog) (Value.int .u8) 0 24 5 .i64 Try.underlying24 hi023 hsz23 (some ad436) c0 l0 (ji6) (od_ ‹_›) (od_ ‹_›) HC0.out
               have HR441 := ak_ (Kd.C_of_reads (h1 := fun _ => rfl) (hA23 _ (Kd.reads_of_C HR0.out)))
               have HC441 := ak_ hC23
               clear hA23 hC23 hi023 hsz23
               go_wp2_with (first | ((with_reducible refine gate_callee (f := 34) rfl ?_); refine goesL_ (some 47) rfl rfl Try.func34 (by kernel_rfl) rfl #[.slice (some ad436) (l0.take ((ji6) : Int).toNat).length c0, .slice none 0 0] rfl (by (try simp only [List.map_toArray, List.map_cons, List.map_nil]); first | done | (rw [show (l0.take ((ji6) : Int).toNat).length = (ji6).toNat from (by rw [List.length_take]; have h_ : ((ji6) : Int) ≤ (l0.length : Int) := od_ ‹_›; omega)] <;> rfl) | (simp only [hji6]; rfl) | rfl | (simp only [List.length_drop, List.length_take]; rfl)) ?_; (refine (bits_Flip.calls kj13 _ _ (l0.take ((ji6) : Int).toNat) _ _ ([] : List Int) t442 _ ?side1 ?side2 ?side3 ?side4 A22.out).mono ?_); (case side1 => exact (Kd.C_below HR441.out HB.out)); (case side2 => exact HC441.out); (case side3 => exact Kd.C_nil _ _); (case side4 => exact Nat.le_refl _); rintro e w24 ⟨v443, rfl, ho0, hb⟩; refine ⟨_, rfl, ?_⟩; have HO444 := ak_ (Kd.R_lower ho0 (below_size HB.out)); replace HB := ak_ (below_step HB.out hb); (try clear hb); (try clear hb2); (try clear hk); (try clear hi); (try clear ho0)))
               go_ret3
               exact ⟨_, by rfl, by (with_reducible repeat (first | apply Kd.R_alloc | apply Kd.R_drewN | apply Kd.R_drew)); exact HO444.out, HB.out⟩
              ·rw [if_neg c21] at H
               exact absurd H (by simp)
             ·rw [if_neg c20] at H
              exact absurd H (by simp)
            ·rw [if_neg c19] at H
             have c19b0 := beq_eq_false_iff_ne.mpr c19
             have c19b1 := bne_iff_ne.mpr c19
             by_cases c25 : t438 = 1
             ·rw [if_pos c25] at H
              have c25b0 := beq_iff_eq.mpr c25
              have c25b1 := bne_eq_false_iff_eq.mpr c25
              clear c25
              by_cases c26 : 0 ≤ (ji6)
              ·rw [if_pos c26] at H
               have c26b0 := eq_true c26
               have c26b1 := dt_ c26
               clear c26
               by_cases c27 : (ji6) ≤ (l0.length : Int)
               ·rw [if_pos c27] at H
                have c27b0 := eq_true c27
                have c27b1 := dt_ c27
                clear c27
                obtain ⟨y446, hy446⟩ : ∃ y_ : List Int, y_ = (([t439] : List Int)) := ⟨_, rfl⟩
                replace H : ((bits_Flip.f kj13 (l0.take ((ji6) : Int).toNat) y446).bind fun t449 => (some (t449, 1, 0))) = some (r1, r2, r3) := (by rw [hy446]; with_reducible exact H)
                have Ny446 := ak_ hy446
                clear hy446
                obtain ⟨t449, A28, H⟩ := bs_ H
                simp only [Option.some.injEq, Prod.mk.injEq] at H
                obtain ⟨rfl, rfl, rfl⟩ := H
                obtain ⟨i029, hi029, _, hsz29, _⟩ := info_parts info5
                obtain ⟨hcut29, hA29, hC29⟩ := print_take_of (P := Try.prog) (Value.int .u8) 0 24 5 .i64 Try.underlying24 hi029 hsz29 (some ad436) c0 l0 (ji6) (od_ ‹_›) (od_ ‹_›) HC0.out
                have HR445 := ak_ (Kd.C_of_reads (h1 := fun _ => rfl) (hA29 _ (Kd.reads_of_C HR0.out)))
                have HC445 := ak_ hC29
                clear hA29 hC29 hi029 hsz29
                go_wp2_with (first | ((with_reducible refine gate_dst (N := 54) rfl ?_); refine Kd.R_lit (Kd.int .i64) _ 3 ?hg (N := 54) ?hd (xs := ([t439] : List Int)) (inner := [.int .i64 t439]) (ok := fun _ => True) (okp := fun _ => True) ?hr ?hp (fun _ hk => hk) trivial (Below.refl _ _) (Nat.le_refl _) (by simp) ?_; (case hd => rfl); (case hg => rfl); (case hr => (go_simp; done)); (case hp => exact (Reps.one (show Kd.M (Kd.int .i64) _ _ _ t439 [.int .i64 t439] from rfl) (Reps.none _ _))); intro v447 w30 ho31 hb hg_ hnew_; clear hg_ hnew_; (rw [← Ny446.out] at ho31); have HO448 := ak_ (Kd.R_lower ho31 (below_size HB.out)); replace HB := ak_ (below_step HB.out hb); clear hb ho31; obtain ⟨Ao32, co32, eo32⟩ := Kd.R_slice HO448.out; subst eo32) | ((with_reducible refine gate_callee (f := 34) rfl ?_); refine goesL_ (some 55) rfl rfl Try.func34 (by kernel_rfl) rfl #[.slice (some ad436) (l0.take ((ji6) : Int).toNat).length c0, .slice Ao32 y446.length co32] rfl (by (try simp only [List.map_toArray, List.map_cons, List.map_nil]); first | done | (rw [show (l0.take ((ji6) : Int).toNat).length = (ji6).toNat from (by rw [List.length_take]; have h_ : ((ji6) : Int) ≤ (l0.length : Int) := od_ ‹_›; omega)] <;> rfl) | (simp only [hji6]; rfl) | rfl | (simp only [List.length_drop, List.length_take]; rfl)) ?_; (with_reducible refine (bits_Flip.calls kj13 _ _ (l0.take ((ji6) : Int).toNat) _ _ y446 t449 _ ?side1 ?side2 ?side3 ?side4 A28.out).mono ?_); (case side1 => exact (Kd.C_below HR445.out HB.out)); (case side2 => exact HC445.out); (case side3 => exact (Kd.R_reads' HO448.out).2.2); (case side4 => exact (Kd.R_reads' HO448.out).2.1); rintro e w33 ⟨v450, rfl, ho0, hb⟩; refine ⟨_, rfl, ?_⟩; replace HO448 := ak_ (Kd.R_below HO448.out hb); have HO451 := ak_ (Kd.R_lower ho0 (below_size HB.out)); replace HB := ak_ (below_step HB.out hb); (try clear hb); (try clear hb2); (try clear hk); (try clear hi); (try clear ho0)))
                go_ret3
                exact ⟨_, by rfl, by (with_reducible repeat (first | apply Kd.R_alloc | apply Kd.R_drewN | apply Kd.R_drew)); exact HO451.out, HB.out⟩
               ·rw [if_neg c27] at H
                exact absurd H (by simp)
              ·rw [if_neg c26] at H
               exact absurd H (by simp)
             ·rw [if_neg c25] at H
              have c25b0 := beq_eq_false_iff_ne.mpr c25
              have c25b1 := bne_iff_ne.mpr c25
              by_cases c34 : t438 = 2
              ·rw [if_pos c34] at H
               have c34b0 := beq_iff_eq.mpr c34
               have c34b1 := bne_eq_false_iff_eq.mpr c34
               clear c34
               by_cases c35 : 0 ≤ (ji6)
               ·rw [if_pos c35] at H
                have c35b0 := eq_true c35
                have c35b1 := dt_ c35
                clear c35
                by_cases c36 : (ji6) ≤ (l0.length : Int)
                ·rw [if_pos c36] at H
                 have c36b0 := eq_true c36
                 have c36b1 := dt_ c36
                 clear c36
                 obtain ⟨t453, A37, H⟩ := bs_ H
                 simp only [Option.some.injEq, Prod.mk.injEq] at H
                 obtain ⟨rfl, rfl, rfl⟩ := H
                 obtain ⟨i038, hi038, _, hsz38, _⟩ := info_parts info5
                 obtain ⟨hcut38, hA38, hC38⟩ := print_take_of (P := Try.prog) (Value.int .u8) 0 24 5 .i64 Try.underlying24 hi038 hsz38 (some ad436) c0 l0 (ji6) (od_ ‹_›) (od_ ‹_›) HC0.out
                 have HR452 := ak_ (Kd.C_of_reads (h1 := fun _ => rfl) (hA38 _ (Kd.reads_of_C HR0.out)))
                 have HC452 := ak_ hC38
                 clear hA38 hC38 hi038 hsz38
                 go_wp2_with (first | ((with_reducible refine gate_callee (f := 34) rfl ?_); refine goesL_ (some 61) rfl rfl Try.func34 (by kernel_rfl) rfl #[.slice (some ad436) (l0.take ((ji6) : Int).toNat).length c0, .slice none 0 0] rfl (by (try simp only [List.map_toArray, List.map_cons, List.map_nil]); first | done | (rw [show (l0.take ((ji6) : Int).toNat).length = (ji6).toNat from (by rw [List.length_take]; have h_ : ((ji6) : Int) ≤ (l0.length : Int) := od_ ‹_›; omega)] <;> rfl) | (simp only [hji6]; rfl) | rfl | (simp only [List.length_drop, List.length_take]; rfl)) ?_; (refine (bits_Flip.calls kj13 _ _ (l0.take ((ji6) : Int).toNat) _ _ ([] : List Int) t453 _ ?side1 ?side2 ?side3 ?side4 A37.out).mono ?_); (case side1 => exact (Kd.C_below HR452.out HB.out)); (case side2 => exact HC452.out); (case side3 => exact Kd.C_nil _ _); (case side4 => exact Nat.le_refl _); rintro e w39 ⟨v454, rfl, ho0, hb⟩; refine ⟨_, rfl, ?_⟩; have HO455 := ak_ (Kd.R_lower ho0 (below_size HB.out)); replace HB := ak_ (below_step HB.out hb); (try clear hb); (try clear hb2); (try clear hk); (try clear hi); (try clear ho0)))
                 go_ret3
                 exact ⟨_, by rfl, by (with_reducible repeat (first | apply Kd.R_alloc | apply Kd.R_drewN | apply Kd.R_drew)); exact HO455.out, HB.out⟩
                ·rw [if_neg c36] at H
                 exact absurd H (by simp)
               ·rw [if_neg c35] at H
                exact absurd H (by simp)
              ·rw [if_neg c34] at H
               have c34b0 := beq_eq_false_iff_ne.mpr c34
               have c34b1 := bne_iff_ne.mpr c34
               simp only [Option.some.injEq, Prod.mk.injEq] at H
               obtain ⟨rfl, rfl, rfl⟩ := H
               go_wp2
               go_ret3
               exact ⟨_, by rfl, (Kd.R_nil _ _ _ _ _), HB.out⟩
         ·rw [if_neg c12] at H
          exact absurd H (by simp)
        ·rw [if_neg c11] at H
         exact absurd H (by simp)
       ·rw [if_neg c9] at H
        exact absurd H (by simp)
      ·rw [if_neg c8] at H
       exact absurd H (by simp)
     ·rw [if_neg c7] at H
      exact absurd H (by simp)
end Go.Proofs.Ytmehbabchakkpaa.QLadderWalks
