-- Written by my program pp.py for this claim
import Derived.Test.YtalejedajkhkjaaQHammingTwox0
import Derived.Test.YtalejedajkhkjaaQHammingTwox1
namespace Go.Proofs.Ytalejedajkhkjaa.QHammingTwo
open Go.RowKit Go.Proofs.YtalejedajkhkjaaW.PrintWords Go.Proofs.YtalejedajkhkjaaW.PrintLast Go.Proofs.YtalejedajkhkjaaW.PrintMore
attribute [local go_sem] max2_int min2_int max_two min_two max_three min_three max_four min_four   -- for this text's walks alone
set_option linter.unusedVariables false
set_option linter.unusedSimpArgs false

/-! ### hamming_gather: function 35 (given) -/
set_option maxHeartbeats 8000000 in
set_option maxRecDepth 100000 in
theorem hamming_gather_eight_calls (k : Nat) (i : Int) (p0 p1 p2 p3 p4 p5 p6 p7 : Int) (w : World) (h0 : 0 ≤ i) (h1 : i < 1000000)
  (e0 : Aside0 (hamming_Place.f k (8 * i) = some p0)) (e1 : Aside0 (hamming_Place.f k (8 * i + 1) = some p1)) (e2 : Aside0 (hamming_Place.f k (8 * i + 2) = some p2)) (e3 : Aside0 (hamming_Place.f k (8 * i + 3) = some p3))
  (e4 : Aside0 (hamming_Place.f k (8 * i + 4) = some p4)) (e5 : Aside0 (hamming_Place.f k (8 * i + 5) = some p5)) (e6 : Aside0 (hamming_Place.f k (8 * i + 6) = some p6)) (e7 : Aside0 (hamming_Place.f k (8 * i + 7) = some p7)) :
    Calls Try.prog 47 #[.int .i64 i] w fun e w' => e = .returned (.agg #[.int .i64 p0, .int .i64 p1, .int .i64 p2, .int .i64 p3, .int .i64 p4, .int .i64 p5, .int .i64 p6, .int .i64 p7]) ∧ Below w.heap.size w w' := by
  go_enter Try.func47, Try.ntmps47
  go_wp2
  refine wp_loop_rounds 9 ?_
  rw [rounds_succ]
  generalize hR0 : Code.rounds _ _ _ 8 = R0
  go_wp2_with fail
  with_reducible refine (hamming_Place.calls k _ p0 _ e0.out).mono ?_
  rintro e w1 ⟨rfl, ⟨⟨n0, rfl⟩⟩⟩
  go_wp2_with fail
  subst hR0
  rw [rounds_succ]
  generalize hR1 : Code.rounds _ _ _ 7 = R1
  go_wp2_with fail
  with_reducible refine (hamming_Place.calls k _ p1 _ e1.out).mono ?_
  rintro e w1 ⟨rfl, ⟨⟨n1, rfl⟩⟩⟩
  go_wp2_with fail
  subst hR1
  rw [rounds_succ]
  generalize hR2 : Code.rounds _ _ _ 6 = R2
  go_wp2_with fail
  with_reducible refine (hamming_Place.calls k _ p2 _ e2.out).mono ?_
  rintro e w1 ⟨rfl, ⟨⟨n2, rfl⟩⟩⟩
  go_wp2_with fail
  subst hR2
  rw [rounds_succ]
  generalize hR3 : Code.rounds _ _ _ 5 = R3
  go_wp2_with fail
  with_reducible refine (hamming_Place.calls k _ p3 _ e3.out).mono ?_
  rintro e w1 ⟨rfl, ⟨⟨n3, rfl⟩⟩⟩
  go_wp2_with fail
  subst hR3
  rw [rounds_succ]
  generalize hR4 : Code.rounds _ _ _ 4 = R4
  go_wp2_with fail
  with_reducible refine (hamming_Place.calls k _ p4 _ e4.out).mono ?_
  rintro e w1 ⟨rfl, ⟨⟨n4, rfl⟩⟩⟩
  go_wp2_with fail
  subst hR4
  rw [rounds_succ]
  generalize hR5 : Code.rounds _ _ _ 3 = R5
  go_wp2_with fail
  with_reducible refine (hamming_Place.calls k _ p5 _ e5.out).mono ?_
  rintro e w1 ⟨rfl, ⟨⟨n5, rfl⟩⟩⟩
  go_wp2_with fail
  subst hR5
  rw [rounds_succ]
  generalize hR6 : Code.rounds _ _ _ 2 = R6
  go_wp2_with fail
  with_reducible refine (hamming_Place.calls k _ p6 _ e6.out).mono ?_
  rintro e w1 ⟨rfl, ⟨⟨n6, rfl⟩⟩⟩
  go_wp2_with fail
  subst hR6
  rw [rounds_succ]
  generalize hR7 : Code.rounds _ _ _ 1 = R7
  go_wp2_with fail
  with_reducible refine (hamming_Place.calls k _ p7 _ e7.out).mono ?_
  rintro e w1 ⟨rfl, ⟨⟨n7, rfl⟩⟩⟩
  go_wp2_with fail
  subst hR7
  rw [rounds_succ]
  go_wp2_with fail
  refine bodyPost_ret (v := .agg #[.int .i64 p0, .int .i64 p1, .int .i64 p2, .int .i64 p3, .int .i64 p4, .int .i64 p5, .int .i64 p6, .int .i64 p7]) (by simp [results, Try.results47, go_sem]) rfl ⟨rfl, ?_⟩
  refine Below.setCell ?_ (by simp) _
  refine Below.setCell ?_ (by simp) _
  refine Below.setCell ?_ (by simp) _
  refine Below.setCell ?_ (by simp) _
  refine Below.setCell ?_ (by simp) _
  refine Below.setCell ?_ (by simp) _
  refine Below.setCell ?_ (by simp) _
  refine Below.setCell ?_ (by simp) _
  refine Below.setCell ?_ (by simp) _
  refine below_drewN ?_ _
  refine Below.setCell ?_ (by simp) _
  refine below_drewN ?_ _
  refine Below.setCell ?_ (by simp) _
  refine below_drewN ?_ _
  refine Below.setCell ?_ (by simp) _
  refine below_drewN ?_ _
  refine Below.setCell ?_ (by simp) _
  refine below_drewN ?_ _
  refine Below.setCell ?_ (by simp) _
  refine below_drewN ?_ _
  refine Below.setCell ?_ (by simp) _
  refine below_drewN ?_ _
  refine Below.setCell ?_ (by simp) _
  refine below_drewN ?_ _
  refine Below.alloc ?_ (by simp) _
  refine Below.alloc ?_ (Nat.le_refl _) _
  exact Below.refl _ _
theorem hamming_gather_index8_0 (p0 p1 p2 p3 p4 p5 p6 p7 : Value) (w : World) : (Instr.index 75 (.agg #[p0, p1, p2, p3, p4, p5, p6, p7]) (.int .i64 0)).run Try.prog w = .ok p0 w := by
  simp [Instr.index, run_underlying (P := Try.prog) Try.underlying75, asIntOf, go_sem]
theorem hamming_gather_index8_1 (p0 p1 p2 p3 p4 p5 p6 p7 : Value) (w : World) : (Instr.index 75 (.agg #[p0, p1, p2, p3, p4, p5, p6, p7]) (.int .i64 1)).run Try.prog w = .ok p1 w := by
  simp [Instr.index, run_underlying (P := Try.prog) Try.underlying75, asIntOf, go_sem]
theorem hamming_gather_index8_2 (p0 p1 p2 p3 p4 p5 p6 p7 : Value) (w : World) : (Instr.index 75 (.agg #[p0, p1, p2, p3, p4, p5, p6, p7]) (.int .i64 2)).run Try.prog w = .ok p2 w := by
  simp [Instr.index, run_underlying (P := Try.prog) Try.underlying75, asIntOf, go_sem]
theorem hamming_gather_index8_3 (p0 p1 p2 p3 p4 p5 p6 p7 : Value) (w : World) : (Instr.index 75 (.agg #[p0, p1, p2, p3, p4, p5, p6, p7]) (.int .i64 3)).run Try.prog w = .ok p3 w := by
  simp [Instr.index, run_underlying (P := Try.prog) Try.underlying75, asIntOf, go_sem]
theorem hamming_gather_index8_4 (p0 p1 p2 p3 p4 p5 p6 p7 : Value) (w : World) : (Instr.index 75 (.agg #[p0, p1, p2, p3, p4, p5, p6, p7]) (.int .i64 4)).run Try.prog w = .ok p4 w := by
  simp [Instr.index, run_underlying (P := Try.prog) Try.underlying75, asIntOf, go_sem]
theorem hamming_gather_index8_5 (p0 p1 p2 p3 p4 p5 p6 p7 : Value) (w : World) : (Instr.index 75 (.agg #[p0, p1, p2, p3, p4, p5, p6, p7]) (.int .i64 5)).run Try.prog w = .ok p5 w := by
  simp [Instr.index, run_underlying (P := Try.prog) Try.underlying75, asIntOf, go_sem]
theorem hamming_gather_index8_6 (p0 p1 p2 p3 p4 p5 p6 p7 : Value) (w : World) : (Instr.index 75 (.agg #[p0, p1, p2, p3, p4, p5, p6, p7]) (.int .i64 6)).run Try.prog w = .ok p6 w := by
  simp [Instr.index, run_underlying (P := Try.prog) Try.underlying75, asIntOf, go_sem]
theorem hamming_gather_index8_7 (p0 p1 p2 p3 p4 p5 p6 p7 : Value) (w : World) : (Instr.index 75 (.agg #[p0, p1, p2, p3, p4, p5, p6, p7]) (.int .i64 7)).run Try.prog w = .ok p7 w := by
  simp [Instr.index, run_underlying (P := Try.prog) Try.underlying75, asIntOf, go_sem]
attribute [local go_sem] hamming_gather_index8_0 hamming_gather_index8_1 hamming_gather_index8_2 hamming_gather_index8_3 hamming_gather_index8_4 hamming_gather_index8_5 hamming_gather_index8_6 hamming_gather_index8_7

def hamming_gather_gbit (c : Int) (j : Nat) : Bool := Go.bits .and .u8 (if j = 0 then c else c / 2 ^ j) 1 == 1
def hamming_gather_gst (c : Int) (j : Nat) (p : Int) (q : Int × Bool) : Int × Bool := if hamming_gather_gbit c j then (Go.bits .xor .u16 q.1 (IntKind.u16.wrap p), !q.2) else q
def hamming_gather_gup (c : Int) (ps : List Int) (q : Int × Bool) : Nat → Int × Bool
  | 0 => q
  | j + 1 => hamming_gather_gst c j (ps.getD j 0) (hamming_gather_gup c ps q j)
def hamming_gather_eightF (k : Nat) (i : Int) : Option (List Int) := if i < 1000000 then (hamming_Place.f k (8 * i)).bind fun p0 => (hamming_Place.f k (8 * i + 1)).bind fun p1 => (hamming_Place.f k (8 * i + 2)).bind fun p2 => (hamming_Place.f k (8 * i + 3)).bind fun p3 =>
  (hamming_Place.f k (8 * i + 4)).bind fun p4 => (hamming_Place.f k (8 * i + 5)).bind fun p5 => (hamming_Place.f k (8 * i + 6)).bind fun p6 => (hamming_Place.f k (8 * i + 7)).bind fun p7 => some [p0, p1, p2, p3, p4, p5, p6, p7] else none
theorem hamming_gather_up_step (c x4 : Int) (x5 : Bool) (p0 p1 p2 p3 p4 p5 p6 p7 : Int) (j : Nat) (p : Int) (hp : [p0, p1, p2, p3, p4, p5, p6, p7].getD j 0 = p) :
    ((hamming_gather_gbit c j = true → hamming_gather_gup c [p0, p1, p2, p3, p4, p5, p6, p7] (x4, x5) (j + 1) = (Go.bits .xor .u16 (hamming_gather_gup c [p0, p1, p2, p3, p4, p5, p6, p7] (x4, x5) j).1 (IntKind.u16.wrap p), !(hamming_gather_gup c [p0, p1, p2, p3, p4, p5, p6, p7] (x4, x5) j).2)) ∧
    (hamming_gather_gbit c j = false → hamming_gather_gup c [p0, p1, p2, p3, p4, p5, p6, p7] (x4, x5) (j + 1) = hamming_gather_gup c [p0, p1, p2, p3, p4, p5, p6, p7] (x4, x5) j)) := by
  subst hp
  refine ⟨fun h => ?_, fun h => ?_⟩
  · show hamming_gather_gst _ _ _ _ = _
    unfold hamming_gather_gst
    rw [if_pos h]
  · show hamming_gather_gst _ _ _ _ = _
    unfold hamming_gather_gst
    rw [h, if_neg (by decide)]
def hamming_gather.l0 : Nat → List Int → Int → Bool → Int → Option (Int × Bool)
  | 0, _, _, _, _ => none
  | k + 1, l, x, o, i => if i < (l.length : Int) then (if 0 ≤ i then (if i < 1000000 then (if rd l i = 0 then hamming_gather.l0 k l x o (i + 1) else ((hamming_gather_eightF k i).bind fun ps => hamming_gather.l0 k l (hamming_gather_gup (rd l i) ps (x, o) 8).1 (hamming_gather_gup (rd l i) ps (x, o) 8).2 (i + 1))) else none) else none) else some (x, o)
def hamming_gather.f (k : Nat) (l : List Int) : Option (Int × Bool) := hamming_gather.l0 k l 0 false 0
theorem hamming_gather_eightF.mono : ∀ i k, LeO (hamming_gather_eightF k i) (hamming_gather_eightF (k + 1) i) := by
  intro i k
  unfold hamming_gather_eightF
  refine LeO.ite ?_ (LeO.refl _)
  repeat' first
    | (with_reducible exact LeO.refl _)
    | (with_reducible exact hamming_Place.mono _ _)
    | (with_reducible refine LeO.bind ?_ (fun _ => ?_))
    | exact hamming_Place.mono _ _
theorem hamming_gather.mono_l : ∀ k, (∀ y0 y1 y2 y3, LeO (hamming_gather.l0 k y0 y1 y2 y3) (hamming_gather.l0 (k + 1) y0 y1 y2 y3))
  | 0 => fun _ _ _ _ r h => by simp [hamming_gather.l0] at h
  | k + 1 => by
    have ih0 := hamming_gather.mono_l k
    intro y0 y1 y2 y3
    unfold hamming_gather.l0
    repeat' first
      | (with_reducible exact ih0 _ _ _ _)
      | (with_reducible exact hamming_gather_eightF.mono _ _)
      | (with_reducible exact LeO.refl _)
      | (with_reducible refine LeO.ite ?_ ?_)
      | (with_reducible refine LeO.bind ?_ (fun _ => ?_))
theorem hamming_gather.mono : ∀ a0 k, LeO (hamming_gather.f k a0) (hamming_gather.f (k + 1) a0) := fun _ k => hamming_gather.mono_l k _ _ _ _
theorem hamming_gather_eightF_calls (k : Nat) (i : Int) (ps : List Int) (h : hamming_gather_eightF k i = some ps) : i < 1000000 ∧ ∃ p0 p1 p2 p3 p4 p5 p6 p7 : Int, ps = [p0, p1, p2, p3, p4, p5, p6, p7] ∧ (0 ≤ i → ∀ w : World,
    Calls Try.prog 47 #[.int .i64 i] w fun e w' => e = .returned (.agg #[.int .i64 p0, .int .i64 p1, .int .i64 p2, .int .i64 p3, .int .i64 p4, .int .i64 p5, .int .i64 p6, .int .i64 p7]) ∧ Below w.heap.size w w') := by
  unfold hamming_gather_eightF at h
  split at h
  · rename_i hi
    refine ⟨hi, ?_⟩
    obtain ⟨p0, e0, h⟩ := Option.bind_eq_some_iff.mp h
    obtain ⟨p1, e1, h⟩ := Option.bind_eq_some_iff.mp h
    obtain ⟨p2, e2, h⟩ := Option.bind_eq_some_iff.mp h
    obtain ⟨p3, e3, h⟩ := Option.bind_eq_some_iff.mp h
    obtain ⟨p4, e4, h⟩ := Option.bind_eq_some_iff.mp h
    obtain ⟨p5, e5, h⟩ := Option.bind_eq_some_iff.mp h
    obtain ⟨p6, e6, h⟩ := Option.bind_eq_some_iff.mp h
    obtain ⟨p7, e7, h⟩ := Option.bind_eq_some_iff.mp h
    exact ⟨p0, p1, p2, p3, p4, p5, p6, p7, (Option.some.inj h).symm, fun h0 w => hamming_gather_eight_calls k i p0 p1 p2 p3 p4 p5 p6 p7 w h0 hi ⟨e0⟩ ⟨e1⟩ ⟨e2⟩ ⟨e3⟩ ⟨e4⟩ ⟨e5⟩ ⟨e6⟩ ⟨e7⟩⟩
  · exact absurd h (by simp)
set_option maxHeartbeats 8000000 in
set_option maxRecDepth 100000 in
theorem hamming_gather.calls (k : Nat) (A0 : Option Addr) (c0 : Nat) (l0 : List Int) (r1 : Int) (r2 : Bool) (w : World) (hr0 : Kd.C (Kd.int .u8) w A0 l0.length l0) (hc0 : l0.length ≤ c0) (h : hamming_gather.f k l0 = some (r1, r2)) :
    Calls Try.prog 35 #[.slice A0 l0.length c0] w fun e w' => e = .returned (.tuple #[.int .u16 r1, .bool r2]) ∧ Below w.heap.size w w' := by
  have HR0 := Aside0.mk hr0
  have HC0 := Aside0.mk hc0
  clear hr0 hc0
  have HB := Aside0.mk (Below.refl w.heap.size w)
  have H' := Aside0.mk (show hamming_gather.l0 k l0 0 false 0 = some (r1, r2) from h)
  clear h
  go_enter Try.func35, Try.ntmps35
  go_wp2
  go_loopg [4, 5, 12] k (fun kq v4 v5 v12 w' => ∃ (x4 : Int) (x5 : Bool) (x12 : Int), v4 = .int .u16 x4 ∧ v5 = .bool x5 ∧ v12 = .int .i64 x12 ∧ Aside0 (hamming_gather.l0 kq l0 x4 x5 x12 = some (r1, r2)) ∧ Aside0 (kq ≤ k) ∧ Aside0 (Below w.heap.size w w'))
  case atStart => exact ⟨0, false, 0, rfl, rfl, rfl, H', ⟨Nat.le_refl _⟩, HB⟩
  case round =>
    clear H'
    obtain ⟨x4, x5, x12, rfl, rfl, rfl, HA, HK1, HB⟩ := hrel
    cases gk with
    | zero => exact absurd HA.out (by simp [hamming_gather.l0])
    | succ k1 =>
      have H := HA.out
      clear HA
      simp only [hamming_gather.l0] at H
      by_cases q126 : x12 < (l0.length : Int)
      · rw [if_pos q126] at H
        by_cases p126 : 0 ≤ x12
        · rw [if_pos p126] at H
          by_cases hx1 : x12 < 1000000
          · rw [if_pos hx1] at H
            have hx0 := p126
            obtain ⟨ad126, e126, hx126_0⟩ := Kd.at_int HR0.out x12 p126 q126
            cases e126
            replace hx126_0 := (HB.out.cell (World.block_lt_of_cell? w _ hx126_0)).trans hx126_0
            replace p126 := eq_true p126
            replace q126 := eq_true q126
            generalize rd l0 x12 = c at hx126_0 H
            by_cases c0' : c = 0
            · subst c0'
              rw [if_pos rfl] at H
              have H' := Aside0.mk H
              clear H
              go_wp2
              go_roundg k1
              case measure => have := HK1.out; omega
              case rel => exact ⟨x4, x5, x12 + 1, rfl, rfl, rfl, H', ⟨by have := HK1.out; omega⟩, HB⟩
            · rw [if_neg c0'] at H
              obtain ⟨ps, e8, H⟩ := Option.bind_eq_some_iff.mp H
              obtain ⟨_, p0, p1, p2, p3, p4, p5, p6, p7, rfl, h8⟩ := hamming_gather_eightF_calls _ _ _ e8
              have H' := Aside0.mk H
              have H8 := Aside0.mk (h8 hx0)
              clear H h8 e8
              have c0b : (c == 0) = false := by simpa using c0'
              clear c0'
              go_wp2_with fail
              with_reducible refine (H8.out _).mono ?_
              rintro e w1 ⟨rfl, HB1⟩
              replace HB1 := Aside0.mk HB1
              go_wp2_with fail
              go_loop [4, 5, 21] (fun v4 v5 v21 => ∃ (y4 : Int) (y5 : Bool) (j : Nat), j ≤ 8 ∧ Aside0 (hamming_gather_gup c [p0, p1, p2, p3, p4, p5, p6, p7] (x4, x5) j = (y4, y5)) ∧ v4 = .int .u16 y4 ∧ v5 = .bool y5 ∧ v21 = .int .i64 j) (fun _ _ v21 => 8 - (intOf v21).toNat)
              case atStart => exact ⟨x4, x5, 0, by omega, ⟨rfl⟩, rfl, rfl, rfl⟩
              case round =>
                obtain ⟨y4, y5, j, hj, HG, rfl, rfl, rfl⟩ := hrel
                by_cases h8 : j < 8
                · obtain rfl | rfl | rfl | rfl | rfl | rfl | rfl | rfl : j = 0 ∨ j = 1 ∨ j = 2 ∨ j = 3 ∨ j = 4 ∨ j = 5 ∨ j = 6 ∨ j = 7 := by omega
                  · obtain ⟨hu1, hu2⟩ := hamming_gather_up_step c x4 x5 p0 p1 p2 p3 p4 p5 p6 p7 0 p0 rfl
                    rw [HG.out] at hu1 hu2
                    by_cases hb : hamming_gather_gbit c 0 = true
                    · have HN := Aside0.mk (hu1 hb)
                      have hb' : (Go.bits .and .u8 (c) 1 == 1) = true := hb
                      clear hu1 hu2 hb
                      go_wp2
                      go_round
                      case rel => exact ⟨_, _, 1, by omega, HN, rfl, rfl, rfl⟩
                      case measure => simp [intOf]
                    · have hb := eq_false_of_ne_true hb
                      have HN := Aside0.mk (hu2 hb)
                      have hb' : (Go.bits .and .u8 (c) 1 == 1) = false := hb
                      clear hu1 hu2 hb
                      go_wp2
                      go_round
                      case rel => exact ⟨_, _, 1, by omega, HN, rfl, rfl, rfl⟩
                      case measure => simp [intOf]
                  · obtain ⟨hu1, hu2⟩ := hamming_gather_up_step c x4 x5 p0 p1 p2 p3 p4 p5 p6 p7 1 p1 rfl
                    rw [HG.out] at hu1 hu2
                    by_cases hb : hamming_gather_gbit c 1 = true
                    · have HN := Aside0.mk (hu1 hb)
                      have hb' : (Go.bits .and .u8 (c / 2) 1 == 1) = true := hb
                      clear hu1 hu2 hb
                      go_wp2
                      go_round
                      case rel => exact ⟨_, _, 2, by omega, HN, rfl, rfl, rfl⟩
                      case measure => simp [intOf]
                    · have hb := eq_false_of_ne_true hb
                      have HN := Aside0.mk (hu2 hb)
                      have hb' : (Go.bits .and .u8 (c / 2) 1 == 1) = false := hb
                      clear hu1 hu2 hb
                      go_wp2
                      go_round
                      case rel => exact ⟨_, _, 2, by omega, HN, rfl, rfl, rfl⟩
                      case measure => simp [intOf]
                  · obtain ⟨hu1, hu2⟩ := hamming_gather_up_step c x4 x5 p0 p1 p2 p3 p4 p5 p6 p7 2 p2 rfl
                    rw [HG.out] at hu1 hu2
                    by_cases hb : hamming_gather_gbit c 2 = true
                    · have HN := Aside0.mk (hu1 hb)
                      have hb' : (Go.bits .and .u8 (c / 4) 1 == 1) = true := hb
                      clear hu1 hu2 hb
                      go_wp2
                      go_round
                      case rel => exact ⟨_, _, 3, by omega, HN, rfl, rfl, rfl⟩
                      case measure => simp [intOf]
                    · have hb := eq_false_of_ne_true hb
                      have HN := Aside0.mk (hu2 hb)
                      have hb' : (Go.bits .and .u8 (c / 4) 1 == 1) = false := hb
                      clear hu1 hu2 hb
                      go_wp2
                      go_round
                      case rel => exact ⟨_, _, 3, by omega, HN, rfl, rfl, rfl⟩
                      case measure => simp [intOf]
                  · obtain ⟨hu1, hu2⟩ := hamming_gather_up_step c x4 x5 p0 p1 p2 p3 p4 p5 p6 p7 3 p3 rfl
                    rw [HG.out] at hu1 hu2
                    by_cases hb : hamming_gather_gbit c 3 = true
                    · have HN := Aside0.mk (hu1 hb)
                      have hb' : (Go.bits .and .u8 (c / 8) 1 == 1) = true := hb
                      clear hu1 hu2 hb
                      go_wp2
                      go_round
                      case rel => exact ⟨_, _, 4, by omega, HN, rfl, rfl, rfl⟩
                      case measure => simp [intOf]
                    · have hb := eq_false_of_ne_true hb
                      have HN := Aside0.mk (hu2 hb)
                      have hb' : (Go.bits .and .u8 (c / 8) 1 == 1) = false := hb
                      clear hu1 hu2 hb
                      go_wp2
                      go_round
                      case rel => exact ⟨_, _, 4, by omega, HN, rfl, rfl, rfl⟩
                      case measure => simp [intOf]
                  · obtain ⟨hu1, hu2⟩ := hamming_gather_up_step c x4 x5 p0 p1 p2 p3 p4 p5 p6 p7 4 p4 rfl
                    rw [HG.out] at hu1 hu2
                    by_cases hb : hamming_gather_gbit c 4 = true
                    · have HN := Aside0.mk (hu1 hb)
                      have hb' : (Go.bits .and .u8 (c / 16) 1 == 1) = true := hb
                      clear hu1 hu2 hb
                      go_wp2
                      go_round
                      case rel => exact ⟨_, _, 5, by omega, HN, rfl, rfl, rfl⟩
                      case measure => simp [intOf]
                    · have hb := eq_false_of_ne_true hb
                      have HN := Aside0.mk (hu2 hb)
                      have hb' : (Go.bits .and .u8 (c / 16) 1 == 1) = false := hb
                      clear hu1 hu2 hb
                      go_wp2
                      go_round
                      case rel => exact ⟨_, _, 5, by omega, HN, rfl, rfl, rfl⟩
                      case measure => simp [intOf]
                  · obtain ⟨hu1, hu2⟩ := hamming_gather_up_step c x4 x5 p0 p1 p2 p3 p4 p5 p6 p7 5 p5 rfl
                    rw [HG.out] at hu1 hu2
                    by_cases hb : hamming_gather_gbit c 5 = true
                    · have HN := Aside0.mk (hu1 hb)
                      have hb' : (Go.bits .and .u8 (c / 32) 1 == 1) = true := hb
                      clear hu1 hu2 hb
                      go_wp2
                      go_round
                      case rel => exact ⟨_, _, 6, by omega, HN, rfl, rfl, rfl⟩
                      case measure => simp [intOf]
                    · have hb := eq_false_of_ne_true hb
                      have HN := Aside0.mk (hu2 hb)
                      have hb' : (Go.bits .and .u8 (c / 32) 1 == 1) = false := hb
                      clear hu1 hu2 hb
                      go_wp2
                      go_round
                      case rel => exact ⟨_, _, 6, by omega, HN, rfl, rfl, rfl⟩
                      case measure => simp [intOf]
                  · obtain ⟨hu1, hu2⟩ := hamming_gather_up_step c x4 x5 p0 p1 p2 p3 p4 p5 p6 p7 6 p6 rfl
                    rw [HG.out] at hu1 hu2
                    by_cases hb : hamming_gather_gbit c 6 = true
                    · have HN := Aside0.mk (hu1 hb)
                      have hb' : (Go.bits .and .u8 (c / 64) 1 == 1) = true := hb
                      clear hu1 hu2 hb
                      go_wp2
                      go_round
                      case rel => exact ⟨_, _, 7, by omega, HN, rfl, rfl, rfl⟩
                      case measure => simp [intOf]
                    · have hb := eq_false_of_ne_true hb
                      have HN := Aside0.mk (hu2 hb)
                      have hb' : (Go.bits .and .u8 (c / 64) 1 == 1) = false := hb
                      clear hu1 hu2 hb
                      go_wp2
                      go_round
                      case rel => exact ⟨_, _, 7, by omega, HN, rfl, rfl, rfl⟩
                      case measure => simp [intOf]
                  · obtain ⟨hu1, hu2⟩ := hamming_gather_up_step c x4 x5 p0 p1 p2 p3 p4 p5 p6 p7 7 p7 rfl
                    rw [HG.out] at hu1 hu2
                    by_cases hb : hamming_gather_gbit c 7 = true
                    · have HN := Aside0.mk (hu1 hb)
                      have hb' : (Go.bits .and .u8 (c / 128) 1 == 1) = true := hb
                      clear hu1 hu2 hb
                      go_wp2
                      go_round
                      case rel => exact ⟨_, _, 8, by omega, HN, rfl, rfl, rfl⟩
                      case measure => simp [intOf]
                    · have hb := eq_false_of_ne_true hb
                      have HN := Aside0.mk (hu2 hb)
                      have hb' : (Go.bits .and .u8 (c / 128) 1 == 1) = false := hb
                      clear hu1 hu2 hb
                      go_wp2
                      go_round
                      case rel => exact ⟨_, _, 8, by omega, HN, rfl, rfl, rfl⟩
                      case measure => simp [intOf]
                · have : j = 8 := by omega
                  subst this
                  have H2 := H'.out
                  rw [HG.out] at H2
                  have H3 := Aside0.mk H2
                  clear H2 H' HG
                  have HB2 := Aside0.mk (HB.out.trans (HB1.out.mono HB.out.size))
                  go_wp2
                  go_roundg k1
                  case measure => have := HK1.out; omega
                  case rel => exact ⟨y4, y5, x12 + 1, rfl, rfl, rfl, H3, ⟨by have := HK1.out; omega⟩, HB2⟩
          · rw [if_neg hx1] at H
            exact absurd H (by simp)
        · rw [if_neg p126] at H
          exact absurd H (by simp)
      · rw [if_neg q126] at H
        have c2b0 : decide (x12 < (l0.length : Int)) = false := decide_eq_false q126
        clear q126
        obtain rfl := (Prod.mk.inj (Option.some.inj H)).1
        obtain rfl := (Prod.mk.inj (Option.some.inj H)).2
        go_wp2
        go_ret2
        exact ⟨rfl, HB.out⟩

/-! ### bits_OnesCount16: function 48 -/
def bits_OnesCount16.f (a0 : Int) : Option (Int) := if 0 ≤ (a0 / 256) then (if (a0 / 256) < 256 then (if 0 ≤ (Go.bits .and .u16 a0 255) then (if (Go.bits .and .u16 a0 255) < 256 then (some (((bt (⟨#[0, 1, 1, 2, 1, 2, 2, 3, 1, 2, 2, 3, 2, 3, 3, 4, 1, 2, 2, 3, 2, 3, 3, 4, 2, 3, 3, 4, 3, 4, 4, 5, 1, 2, 2, 3, 2, 3, 3, 4, 2, 3, 3, 4, 3, 4, 4, 5, 2, 3, 3, 4, 3, 4, 4, 5, 3, 4, 4, 5, 4, 5, 5, 6, 1, 2, 2, 3, 2, 3, 3, 4, 2, 3, 3, 4, 3, 4, 4, 5, 2, 3, 3, 4, 3, 4, 4, 5, 3, 4, 4, 5, 4, 5, 5, 6, 2, 3, 3, 4, 3, 4, 4, 5, 3, 4, 4, 5, 4, 5, 5, 6, 3, 4, 4, 5, 4, 5, 5, 6, 4, 5, 5, 6, 5, 6, 6, 7, 1, 2, 2, 3, 2, 3, 3, 4, 2, 3, 3, 4, 3, 4, 4, 5, 2, 3, 3, 4, 3, 4, 4, 5, 3, 4, 4, 5, 4, 5, 5, 6, 2, 3, 3, 4, 3, 4, 4, 5, 3, 4, 4, 5, 4, 5, 5, 6, 3, 4, 4, 5, 4, 5, 5, 6, 4, 5, 5, 6, 5, 6, 6, 7, 2, 3, 3, 4, 3, 4, 4, 5, 3, 4, 4, 5, 4, 5, 5, 6, 3, 4, 4, 5, 4, 5, 5, 6, 4, 5, 5, 6, 5, 6, 6, 7, 3, 4, 4, 5, 4, 5, 5, 6, 4, 5, 5, 6, 5, 6, 6, 7, 4, 5, 5, 6, 5, 6, 6, 7, 5, 6, 6, 7, 6, 7, 7, 8]⟩ : ByteArray) (a0 / 256)) + (bt (⟨#[0, 1, 1, 2, 1, 2, 2, 3, 1, 2, 2, 3, 2, 3, 3, 4, 1, 2, 2, 3, 2, 3, 3, 4, 2, 3, 3, 4, 3, 4, 4, 5, 1, 2, 2, 3, 2, 3, 3, 4, 2, 3, 3, 4, 3, 4, 4, 5, 2, 3, 3, 4, 3, 4, 4, 5, 3, 4, 4, 5, 4, 5, 5, 6, 1, 2, 2, 3, 2, 3, 3, 4, 2, 3, 3, 4, 3, 4, 4, 5, 2, 3, 3, 4, 3, 4, 4, 5, 3, 4, 4, 5, 4, 5, 5, 6, 2, 3, 3, 4, 3, 4, 4, 5, 3, 4, 4, 5, 4, 5, 5, 6, 3, 4, 4, 5, 4, 5, 5, 6, 4, 5, 5, 6, 5, 6, 6, 7, 1, 2, 2, 3, 2, 3, 3, 4, 2, 3, 3, 4, 3, 4, 4, 5, 2, 3, 3, 4, 3, 4, 4, 5, 3, 4, 4, 5, 4, 5, 5, 6, 2, 3, 3, 4, 3, 4, 4, 5, 3, 4, 4, 5, 4, 5, 5, 6, 3, 4, 4, 5, 4, 5, 5, 6, 4, 5, 5, 6, 5, 6, 6, 7, 2, 3, 3, 4, 3, 4, 4, 5, 3, 4, 4, 5, 4, 5, 5, 6, 3, 4, 4, 5, 4, 5, 5, 6, 4, 5, 5, 6, 5, 6, 6, 7, 3, 4, 4, 5, 4, 5, 5, 6, 4, 5, 5, 6, 5, 6, 6, 7, 4, 5, 5, 6, 5, 6, 6, 7, 5, 6, 6, 7, 6, 7, 7, 8]⟩ : ByteArray) (Go.bits .and .u16 a0 255))) % 256)) else (none)) else (none)) else (none)) else (none)
set_option maxHeartbeats 8000000 in
set_option maxRecDepth 100000 in
theorem bits_OnesCount16.calls (a0 : Int) (r : Int) (w : World) (h : bits_OnesCount16.f a0 = some r) :
    Calls Try.prog 48 #[.int .u16 a0] w fun e w' => e = .returned (.int .i64 r) ∧ Drawn0 w w' := by
  have H : (if 0 ≤ (a0 / 256) then (if (a0 / 256) < 256 then (if 0 ≤ (Go.bits .and .u16 a0 255) then (if (Go.bits .and .u16 a0 255) < 256 then (some (((bt (⟨#[0, 1, 1, 2, 1, 2, 2, 3, 1, 2, 2, 3, 2, 3, 3, 4, 1, 2, 2, 3, 2, 3, 3, 4, 2, 3, 3, 4, 3, 4, 4, 5, 1, 2, 2, 3, 2, 3, 3, 4, 2, 3, 3, 4, 3, 4, 4, 5, 2, 3, 3, 4, 3, 4, 4, 5, 3, 4, 4, 5, 4, 5, 5, 6, 1, 2, 2, 3, 2, 3, 3, 4, 2, 3, 3, 4, 3, 4, 4, 5, 2, 3, 3, 4, 3, 4, 4, 5, 3, 4, 4, 5, 4, 5, 5, 6, 2, 3, 3, 4, 3, 4, 4, 5, 3, 4, 4, 5, 4, 5, 5, 6, 3, 4, 4, 5, 4, 5, 5, 6, 4, 5, 5, 6, 5, 6, 6, 7, 1, 2, 2, 3, 2, 3, 3, 4, 2, 3, 3, 4, 3, 4, 4, 5, 2, 3, 3, 4, 3, 4, 4, 5, 3, 4, 4, 5, 4, 5, 5, 6, 2, 3, 3, 4, 3, 4, 4, 5, 3, 4, 4, 5, 4, 5, 5, 6, 3, 4, 4, 5, 4, 5, 5, 6, 4, 5, 5, 6, 5, 6, 6, 7, 2, 3, 3, 4, 3, 4, 4, 5, 3, 4, 4, 5, 4, 5, 5, 6, 3, 4, 4, 5, 4, 5, 5, 6, 4, 5, 5, 6, 5, 6, 6, 7, 3, 4, 4, 5, 4, 5, 5, 6, 4, 5, 5, 6, 5, 6, 6, 7, 4, 5, 5, 6, 5, 6, 6, 7, 5, 6, 6, 7, 6, 7, 7, 8]⟩ : ByteArray) (a0 / 256)) + (bt (⟨#[0, 1, 1, 2, 1, 2, 2, 3, 1, 2, 2, 3, 2, 3, 3, 4, 1, 2, 2, 3, 2, 3, 3, 4, 2, 3, 3, 4, 3, 4, 4, 5, 1, 2, 2, 3, 2, 3, 3, 4, 2, 3, 3, 4, 3, 4, 4, 5, 2, 3, 3, 4, 3, 4, 4, 5, 3, 4, 4, 5, 4, 5, 5, 6, 1, 2, 2, 3, 2, 3, 3, 4, 2, 3, 3, 4, 3, 4, 4, 5, 2, 3, 3, 4, 3, 4, 4, 5, 3, 4, 4, 5, 4, 5, 5, 6, 2, 3, 3, 4, 3, 4, 4, 5, 3, 4, 4, 5, 4, 5, 5, 6, 3, 4, 4, 5, 4, 5, 5, 6, 4, 5, 5, 6, 5, 6, 6, 7, 1, 2, 2, 3, 2, 3, 3, 4, 2, 3, 3, 4, 3, 4, 4, 5, 2, 3, 3, 4, 3, 4, 4, 5, 3, 4, 4, 5, 4, 5, 5, 6, 2, 3, 3, 4, 3, 4, 4, 5, 3, 4, 4, 5, 4, 5, 5, 6, 3, 4, 4, 5, 4, 5, 5, 6, 4, 5, 5, 6, 5, 6, 6, 7, 2, 3, 3, 4, 3, 4, 4, 5, 3, 4, 4, 5, 4, 5, 5, 6, 3, 4, 4, 5, 4, 5, 5, 6, 4, 5, 5, 6, 5, 6, 6, 7, 3, 4, 4, 5, 4, 5, 5, 6, 4, 5, 5, 6, 5, 6, 6, 7, 4, 5, 5, 6, 5, 6, 6, 7, 5, 6, 6, 7, 6, 7, 7, 8]⟩ : ByteArray) (Go.bits .and .u16 a0 255))) % 256)) else (none)) else (none)) else (none)) else (none)) = some r := h
  clear h
  obtain ⟨ji2, hji2⟩ : ∃ j_ : Int, (a0 / 256) = j_ := ⟨_, rfl⟩
  replace H : (if 0 ≤ (ji2) then (if (ji2) < 256 then (if 0 ≤ (Go.bits .and .u16 a0 255) then (if (Go.bits .and .u16 a0 255) < 256 then (some (((bt (⟨#[0, 1, 1, 2, 1, 2, 2, 3, 1, 2, 2, 3, 2, 3, 3, 4, 1, 2, 2, 3, 2, 3, 3, 4, 2, 3, 3, 4, 3, 4, 4, 5, 1, 2, 2, 3, 2, 3, 3, 4, 2, 3, 3, 4, 3, 4, 4, 5, 2, 3, 3, 4, 3, 4, 4, 5, 3, 4, 4, 5, 4, 5, 5, 6, 1, 2, 2, 3, 2, 3, 3, 4, 2, 3, 3, 4, 3, 4, 4, 5, 2, 3, 3, 4, 3, 4, 4, 5, 3, 4, 4, 5, 4, 5, 5, 6, 2, 3, 3, 4, 3, 4, 4, 5, 3, 4, 4, 5, 4, 5, 5, 6, 3, 4, 4, 5, 4, 5, 5, 6, 4, 5, 5, 6, 5, 6, 6, 7, 1, 2, 2, 3, 2, 3, 3, 4, 2, 3, 3, 4, 3, 4, 4, 5, 2, 3, 3, 4, 3, 4, 4, 5, 3, 4, 4, 5, 4, 5, 5, 6, 2, 3, 3, 4, 3, 4, 4, 5, 3, 4, 4, 5, 4, 5, 5, 6, 3, 4, 4, 5, 4, 5, 5, 6, 4, 5, 5, 6, 5, 6, 6, 7, 2, 3, 3, 4, 3, 4, 4, 5, 3, 4, 4, 5, 4, 5, 5, 6, 3, 4, 4, 5, 4, 5, 5, 6, 4, 5, 5, 6, 5, 6, 6, 7, 3, 4, 4, 5, 4, 5, 5, 6, 4, 5, 5, 6, 5, 6, 6, 7, 4, 5, 5, 6, 5, 6, 6, 7, 5, 6, 6, 7, 6, 7, 7, 8]⟩ : ByteArray) (ji2)) + (bt (⟨#[0, 1, 1, 2, 1, 2, 2, 3, 1, 2, 2, 3, 2, 3, 3, 4, 1, 2, 2, 3, 2, 3, 3, 4, 2, 3, 3, 4, 3, 4, 4, 5, 1, 2, 2, 3, 2, 3, 3, 4, 2, 3, 3, 4, 3, 4, 4, 5, 2, 3, 3, 4, 3, 4, 4, 5, 3, 4, 4, 5, 4, 5, 5, 6, 1, 2, 2, 3, 2, 3, 3, 4, 2, 3, 3, 4, 3, 4, 4, 5, 2, 3, 3, 4, 3, 4, 4, 5, 3, 4, 4, 5, 4, 5, 5, 6, 2, 3, 3, 4, 3, 4, 4, 5, 3, 4, 4, 5, 4, 5, 5, 6, 3, 4, 4, 5, 4, 5, 5, 6, 4, 5, 5, 6, 5, 6, 6, 7, 1, 2, 2, 3, 2, 3, 3, 4, 2, 3, 3, 4, 3, 4, 4, 5, 2, 3, 3, 4, 3, 4, 4, 5, 3, 4, 4, 5, 4, 5, 5, 6, 2, 3, 3, 4, 3, 4, 4, 5, 3, 4, 4, 5, 4, 5, 5, 6, 3, 4, 4, 5, 4, 5, 5, 6, 4, 5, 5, 6, 5, 6, 6, 7, 2, 3, 3, 4, 3, 4, 4, 5, 3, 4, 4, 5, 4, 5, 5, 6, 3, 4, 4, 5, 4, 5, 5, 6, 4, 5, 5, 6, 5, 6, 6, 7, 3, 4, 4, 5, 4, 5, 5, 6, 4, 5, 5, 6, 5, 6, 6, 7, 4, 5, 5, 6, 5, 6, 6, 7, 5, 6, 6, 7, 6, 7, 7, 8]⟩ : ByteArray) (Go.bits .and .u16 a0 255))) % 256)) else (none)) else (none)) else (none)) else (none)) = some r := by first | (rw [hji2] at H; exact H) | (simp only [hji2] at H ⊢; exact H)
  by_cases c3 : 0 ≤ (ji2)
  · rw [if_pos c3] at H
    have c3b0 : decide (0 ≤ (ji2)) = true := decide_eq_true c3
    clear c3
    by_cases c4 : (ji2) < 256
    · rw [if_pos c4] at H
      have c4b0 : decide ((ji2) < 256) = true := decide_eq_true c4
      clear c4
      by_cases c6 : 0 ≤ (Go.bits .and .u16 a0 255)
      · rw [if_pos c6] at H
        have c6b0 : decide (0 ≤ (Go.bits .and .u16 a0 255)) = true := decide_eq_true c6
        clear c6
        by_cases c7 : (Go.bits .and .u16 a0 255) < 256
        · rw [if_pos c7] at H
          have c7b0 : decide ((Go.bits .and .u16 a0 255) < 256) = true := decide_eq_true c7
          clear c7
          obtain rfl := Option.some.inj H
          have p5 : 0 ≤ ((ji2) : Int) := of_decide_eq_true (by first | (with_reducible assumption) | assumption)
          have q5 : (ji2) < (256 : Int) := of_decide_eq_true (by first | (with_reducible assumption) | assumption)
          have hx5 := bt_at (⟨#[0, 1, 1, 2, 1, 2, 2, 3, 1, 2, 2, 3, 2, 3, 3, 4, 1, 2, 2, 3, 2, 3, 3, 4, 2, 3, 3, 4, 3, 4, 4, 5, 1, 2, 2, 3, 2, 3, 3, 4, 2, 3, 3, 4, 3, 4, 4, 5, 2, 3, 3, 4, 3, 4, 4, 5, 3, 4, 4, 5, 4, 5, 5, 6, 1, 2, 2, 3, 2, 3, 3, 4, 2, 3, 3, 4, 3, 4, 4, 5, 2, 3, 3, 4, 3, 4, 4, 5, 3, 4, 4, 5, 4, 5, 5, 6, 2, 3, 3, 4, 3, 4, 4, 5, 3, 4, 4, 5, 4, 5, 5, 6, 3, 4, 4, 5, 4, 5, 5, 6, 4, 5, 5, 6, 5, 6, 6, 7, 1, 2, 2, 3, 2, 3, 3, 4, 2, 3, 3, 4, 3, 4, 4, 5, 2, 3, 3, 4, 3, 4, 4, 5, 3, 4, 4, 5, 4, 5, 5, 6, 2, 3, 3, 4, 3, 4, 4, 5, 3, 4, 4, 5, 4, 5, 5, 6, 3, 4, 4, 5, 4, 5, 5, 6, 4, 5, 5, 6, 5, 6, 6, 7, 2, 3, 3, 4, 3, 4, 4, 5, 3, 4, 4, 5, 4, 5, 5, 6, 3, 4, 4, 5, 4, 5, 5, 6, 4, 5, 5, 6, 5, 6, 6, 7, 3, 4, 4, 5, 4, 5, 5, 6, 4, 5, 5, 6, 5, 6, 6, 7, 4, 5, 5, 6, 5, 6, 6, 7, 5, 6, 6, 7, 6, 7, 7, 8]⟩ : ByteArray) (ji2)
          replace p5 := eq_true p5
          replace q5 := eq_true q5
          have p8 : 0 ≤ ((Go.bits .and .u16 a0 255) : Int) := of_decide_eq_true (by first | (with_reducible assumption) | assumption)
          have q8 : (Go.bits .and .u16 a0 255) < (256 : Int) := of_decide_eq_true (by first | (with_reducible assumption) | assumption)
          have hx8 := bt_at (⟨#[0, 1, 1, 2, 1, 2, 2, 3, 1, 2, 2, 3, 2, 3, 3, 4, 1, 2, 2, 3, 2, 3, 3, 4, 2, 3, 3, 4, 3, 4, 4, 5, 1, 2, 2, 3, 2, 3, 3, 4, 2, 3, 3, 4, 3, 4, 4, 5, 2, 3, 3, 4, 3, 4, 4, 5, 3, 4, 4, 5, 4, 5, 5, 6, 1, 2, 2, 3, 2, 3, 3, 4, 2, 3, 3, 4, 3, 4, 4, 5, 2, 3, 3, 4, 3, 4, 4, 5, 3, 4, 4, 5, 4, 5, 5, 6, 2, 3, 3, 4, 3, 4, 4, 5, 3, 4, 4, 5, 4, 5, 5, 6, 3, 4, 4, 5, 4, 5, 5, 6, 4, 5, 5, 6, 5, 6, 6, 7, 1, 2, 2, 3, 2, 3, 3, 4, 2, 3, 3, 4, 3, 4, 4, 5, 2, 3, 3, 4, 3, 4, 4, 5, 3, 4, 4, 5, 4, 5, 5, 6, 2, 3, 3, 4, 3, 4, 4, 5, 3, 4, 4, 5, 4, 5, 5, 6, 3, 4, 4, 5, 4, 5, 5, 6, 4, 5, 5, 6, 5, 6, 6, 7, 2, 3, 3, 4, 3, 4, 4, 5, 3, 4, 4, 5, 4, 5, 5, 6, 3, 4, 4, 5, 4, 5, 5, 6, 4, 5, 5, 6, 5, 6, 6, 7, 3, 4, 4, 5, 4, 5, 5, 6, 4, 5, 5, 6, 5, 6, 6, 7, 4, 5, 5, 6, 5, 6, 6, 7, 5, 6, 6, 7, 6, 7, 7, 8]⟩ : ByteArray) (Go.bits .and .u16 a0 255)
          replace p8 := eq_true p8
          replace q8 := eq_true q8
          go_enter Try.func48, Try.ntmps48
          go_wp2
          repeat (go_quiet (fail); try go_wp2)
          go_ret
          exact ⟨by first | rfl | (simp; done) | (simp only [← hji2] <;> (first | rfl | simp)) | (simp [*]; done), by repeat (first | exact Drawn0.refl _ | apply Drawn0.step)⟩
        · rw [if_neg c7] at H
          exact absurd H (by simp)
      · rw [if_neg c6] at H
        exact absurd H (by simp)
    · rw [if_neg c4] at H
      exact absurd H (by simp)
  · rw [if_neg c3] at H
    exact absurd H (by simp)

/-! ### hamming_odd: function 36 -/
def hamming_odd.f (a0 : Int) : Option (Bool) := (bits_OnesCount16.f a0).bind fun t105 => (some ((Go.bits .and .i64 t105 1) == 1))
set_option maxHeartbeats 8000000 in
set_option maxRecDepth 100000 in
theorem hamming_odd.calls (a0 : Int) (r : Bool) (w : World) (h : hamming_odd.f a0 = some r) :
    Calls Try.prog 36 #[.int .u16 a0] w fun e w' => e = .returned (.bool r) ∧ Drawn0 w w' := by
  have H : ((bits_OnesCount16.f a0).bind fun t105 => (some ((Go.bits .and .i64 t105 1) == 1))) = some r := h
  clear h
  replace H := Option.bind_eq_some_iff.mp H
  obtain ⟨t105, A20, H⟩ := H
  replace H : (some ((Go.bits .and .i64 t105 1) == 1)) = some r := H
  have A2 := Aside0.mk A20
  clear A20
  obtain rfl := Option.some.inj H
  go_enter Try.func36, Try.ntmps36
  go_wp2_with (first | ((with_reducible refine gate_callee (f := 48) rfl ?_); refine goesL_ (some 4) rfl rfl Try.func48 (by kernel_rfl) rfl #[.int .u16 a0] rfl (by (try simp only [List.map_toArray, List.map_cons, List.map_nil]); first | done | rfl | (simp only [List.length_drop, List.length_take]; rfl)) ?_; (with_reducible refine (bits_OnesCount16.calls a0 t105 _ A2.out).mono ?_); rintro e w' ⟨rfl, ⟨nd, rfl⟩⟩; refine ⟨_, rfl, ?_⟩))
  go_ret
  exact ⟨by first | rfl | (simp; done) | (simp [*]; done), by repeat (first | exact Drawn0.refl _ | apply Drawn0.step)⟩

/-! ### hamming_Word: function 18 -/
def hamming_Word.f (k : Nat) (l0 : List Int) : Option (Int × Int) := if (l0.length : Int) > 512 then (some (0, 3)) else ((hamming_gather.f k l0).bind fun bt106 => ((hamming_odd.f bt106.1).bind fun t108 => (if (bt106.2 != t108) = true then (some (Go.bits .or .u16 (Go.bits .or .u16 bt106.1 8192) 49152, 0)) else (some (Go.bits .or .u16 bt106.1 49152, 0)))))
theorem hamming_Word.mono : ∀ a0 k, LeO (hamming_Word.f k a0) (hamming_Word.f (k + 1) a0) := by
  intro a0 k
  unfold hamming_Word.f
  repeat' first
      | (with_reducible exact hamming_gather.mono _ _)
      | (with_reducible exact LeO.refl _)
      | (with_reducible exact LeO.none _)
      | (with_reducible refine LeO.ite ?_ ?_)
      | (with_reducible refine LeO.bind ?_ (fun _ => ?_))
      | exact hamming_gather.mono _ _
      | exact LeO.none _
      | refine LeO.ite ?_ ?_
      | refine LeO.bind ?_ (fun _ => ?_)
set_option maxHeartbeats 8000000 in
set_option maxRecDepth 100000 in
theorem hamming_Word.calls (k : Nat) (A0 : Option Addr) (c0 : Nat) (l0 : List Int) (r1 : Int) (r2 : Int) (w : World) (hr0 : Kd.C (Kd.int .u8) w A0 l0.length l0) (hc0 : l0.length ≤ c0) (h : hamming_Word.f k l0 = some (r1, r2)) :
    Calls Try.prog 18 #[.slice A0 l0.length c0] w fun e w' => e = .returned (.tuple #[.int .u16 r1, .int .i64 r2]) ∧ Below w.heap.size w w' := by
  have HR0 := Aside0.mk hr0
  have HC0 := Aside0.mk hc0
  clear hr0 hc0
  have HB := Aside0.mk (Below.refl w.heap.size w)
  have H : (if (l0.length : Int) > 512 then (some (0, 3)) else ((hamming_gather.f k l0).bind fun bt106 => ((hamming_odd.f bt106.1).bind fun t108 => (if (bt106.2 != t108) = true then (some (Go.bits .or .u16 (Go.bits .or .u16 bt106.1 8192) 49152, 0)) else (some (Go.bits .or .u16 bt106.1 49152, 0)))))) = some (r1, r2) := h
  clear h
  by_cases c2 : (l0.length : Int) > 512
  · rw [if_pos c2] at H
    have c2b0 : decide (512 < (l0.length : Int)) = true := decide_eq_true c2
    have c2b1 : decide (512 < l0.length) = true := decide_eq_true (by omega)
    clear c2
    simp only [Option.some.injEq, Prod.mk.injEq] at H
    obtain ⟨rfl, rfl⟩ := H
    go_enter Try.func18, Try.ntmps18
    go_wp2
    go_ret2
    exact ⟨by first | rfl | (simp [errW_none, errW_some] <;> rfl) | (simp [*, errW_none, errW_some] <;> rfl), by repeat (first | (with_reducible first | exact HB.out | apply below_alloc | apply pw_below_drewN | apply below_drew1) | exact HB.out)⟩
  · rw [if_neg c2] at H
    have c2b0 : decide (512 < (l0.length : Int)) = false := decide_eq_false c2
    have c2b1 : decide (512 < l0.length) = false := decide_eq_false (by omega)
    clear c2
    replace H := Option.bind_eq_some_iff.mp H
    obtain ⟨⟨t106, t107⟩, A30, H⟩ := H
    replace H : ((hamming_odd.f t106).bind fun t108 => (if (t107 != t108) = true then (some (Go.bits .or .u16 (Go.bits .or .u16 t106 8192) 49152, 0)) else (some (Go.bits .or .u16 t106 49152, 0)))) = some (r1, r2) := H
    have A3 := Aside0.mk A30
    clear A30
    replace H := Option.bind_eq_some_iff.mp H
    obtain ⟨t108, A40, H⟩ := H
    replace H : (if (t107 != t108) = true then (some (Go.bits .or .u16 (Go.bits .or .u16 t106 8192) 49152, 0)) else (some (Go.bits .or .u16 t106 49152, 0))) = some (r1, r2) := H
    have A4 := Aside0.mk A40
    clear A40
    by_cases c5 : (t107 != t108) = true
    · rw [if_pos c5] at H
      have c5b0 : (t107 != t108) = true := c5
      (try (have c5b1 : decide (t107 = t108) = false := by simpa using c5))
      (try (have c5b2 : (t107 == t108) = false := by simpa using c5))
      (try (have c5b3 : ¬ (t107 = t108) := by simpa using c5))
      clear c5
      simp only [Option.some.injEq, Prod.mk.injEq] at H
      obtain ⟨rfl, rfl⟩ := H
      go_enter Try.func18, Try.ntmps18
      go_wp2_with (first | ((with_reducible refine gate_callee (f := 35) rfl ?_); refine goesL_ (some 11) rfl rfl Try.func35 (by kernel_rfl) rfl #[.slice A0 l0.length c0] rfl (by (try simp only [List.map_toArray, List.map_cons, List.map_nil]); first | done | rfl | (simp only [List.length_drop, List.length_take]; rfl)) ?_; (with_reducible refine (hamming_gather.calls k _ _ l0 t106 t107 _ ?side1 ?side2 A3.out).mono ?_); (case side1 => repeat (first | exact HR0.out | (with_reducible refine Kd.C_alloc ?_ _) | (with_reducible refine Kd.C_drewN ?_ _) | (with_reducible refine Kd.C_drew ?_))); (case side2 => exact HC0.out); rintro e w6 ⟨rfl, hb⟩; refine ⟨_, rfl, ?_⟩; have n0_ := Aside0.mk (below_step (by repeat (first | (with_reducible first | exact HB.out | apply below_alloc | apply pw_below_drewN | apply below_drew1) | exact HB.out)) hb); clear HB; have HB := n0_; clear n0_; (try clear hb); (try clear hb2); (try clear hk); (try clear hi)) | ((with_reducible refine gate_callee (f := 36) rfl ?_); refine goesL_ (some 16) rfl rfl Try.func36 (by kernel_rfl) rfl #[.int .u16 t106] rfl (by (try simp only [List.map_toArray, List.map_cons, List.map_nil]); first | done | rfl | (simp only [List.length_drop, List.length_take]; rfl)) ?_; (with_reducible refine (hamming_odd.calls t106 t108 _ A4.out).mono ?_); rintro e w' ⟨rfl, ⟨nd, rfl⟩⟩; refine ⟨_, rfl, ?_⟩))
      go_ret2
      exact ⟨by first | rfl | (simp [errW_none, errW_some] <;> rfl) | (simp [*, errW_none, errW_some] <;> rfl), by repeat (first | (with_reducible first | exact HB.out | apply below_alloc | apply pw_below_drewN | apply below_drew1) | exact HB.out)⟩
    · rw [if_neg c5] at H
      have c5b0 : (t107 != t108) = false := by simpa using c5
      (try (have c5b1 : decide (t107 = t108) = true := by simpa using c5))
      (try (have c5b2 : (t107 == t108) = true := by simpa using c5))
      clear c5
      simp only [Option.some.injEq, Prod.mk.injEq] at H
      obtain ⟨rfl, rfl⟩ := H
      go_enter Try.func18, Try.ntmps18
      go_wp2_with (first | ((with_reducible refine gate_callee (f := 35) rfl ?_); refine goesL_ (some 11) rfl rfl Try.func35 (by kernel_rfl) rfl #[.slice A0 l0.length c0] rfl (by (try simp only [List.map_toArray, List.map_cons, List.map_nil]); first | done | rfl | (simp only [List.length_drop, List.length_take]; rfl)) ?_; (with_reducible refine (hamming_gather.calls k _ _ l0 t106 t107 _ ?side1 ?side2 A3.out).mono ?_); (case side1 => repeat (first | exact HR0.out | (with_reducible refine Kd.C_alloc ?_ _) | (with_reducible refine Kd.C_drewN ?_ _) | (with_reducible refine Kd.C_drew ?_))); (case side2 => exact HC0.out); rintro e w7 ⟨rfl, hb⟩; refine ⟨_, rfl, ?_⟩; have n0_ := Aside0.mk (below_step (by repeat (first | (with_reducible first | exact HB.out | apply below_alloc | apply pw_below_drewN | apply below_drew1) | exact HB.out)) hb); clear HB; have HB := n0_; clear n0_; (try clear hb); (try clear hb2); (try clear hk); (try clear hi)) | ((with_reducible refine gate_callee (f := 36) rfl ?_); refine goesL_ (some 16) rfl rfl Try.func36 (by kernel_rfl) rfl #[.int .u16 t106] rfl (by (try simp only [List.map_toArray, List.map_cons, List.map_nil]); first | done | rfl | (simp only [List.length_drop, List.length_take]; rfl)) ?_; (with_reducible refine (hamming_odd.calls t106 t108 _ A4.out).mono ?_); rintro e w' ⟨rfl, ⟨nd, rfl⟩⟩; refine ⟨_, rfl, ?_⟩))
      go_ret2
      exact ⟨by first | rfl | (simp [errW_none, errW_some] <;> rfl) | (simp [*, errW_none, errW_some] <;> rfl), by repeat (first | (with_reducible first | exact HB.out | apply below_alloc | apply pw_below_drewN | apply below_drew1) | exact HB.out)⟩

/-! ### hamming_Bit: function 14 -/
def hamming_Bit.f (k : Nat) (a0 : Int) : Option (Int × Bool) := if a0 < 3 then (some (0, false)) else (if a0 > 2097152 then (some (0, false)) else (if (Go.bits .and .i64 a0 (wrap64 (a0 - 1))) = 0 then (some (0, false)) else ((bits_Len.f k (IntKind.u64.wrap (a0))).bind fun t109 => (some (wrap64 ((wrap64 (a0 - t109)) - 1), true)))))
theorem hamming_Bit.mono : ∀ a0 k, LeO (hamming_Bit.f k a0) (hamming_Bit.f (k + 1) a0) := by
  intro a0 k
  unfold hamming_Bit.f
  repeat' first
      | (with_reducible exact bits_Len.mono _ _)
      | (with_reducible exact LeO.refl _)
      | (with_reducible exact LeO.none _)
      | (with_reducible refine LeO.ite ?_ ?_)
      | (with_reducible refine LeO.bind ?_ (fun _ => ?_))
      | exact bits_Len.mono _ _
      | exact LeO.none _
      | refine LeO.ite ?_ ?_
      | refine LeO.bind ?_ (fun _ => ?_)
set_option maxHeartbeats 8000000 in
set_option maxRecDepth 100000 in
theorem hamming_Bit.calls (k : Nat) (a0 : Int) (r1 : Int) (r2 : Bool) (w : World) (h : hamming_Bit.f k a0 = some (r1, r2)) :
    Calls Try.prog 14 #[.int .i64 a0] w fun e w' => e = .returned (.tuple #[.int .i64 r1, .bool r2]) ∧ Drawn0 w w' := by
  have H : (if a0 < 3 then (some (0, false)) else (if a0 > 2097152 then (some (0, false)) else (if (Go.bits .and .i64 a0 (wrap64 (a0 - 1))) = 0 then (some (0, false)) else ((bits_Len.f k (IntKind.u64.wrap (a0))).bind fun t109 => (some (wrap64 ((wrap64 (a0 - t109)) - 1), true)))))) = some (r1, r2) := h
  clear h
  by_cases c2 : a0 < 3
  · rw [if_pos c2] at H
    have c2b0 : decide (a0 < 3) = true := decide_eq_true c2
    clear c2
    simp only [Option.some.injEq, Prod.mk.injEq] at H
    obtain ⟨rfl, rfl⟩ := H
    go_enter Try.func14, Try.ntmps14
    go_wp2
    go_ret2
    exact ⟨by first | rfl | (simp; done) | (simp [*]; done), by repeat (first | exact Drawn0.refl _ | apply Drawn0.step)⟩
  · rw [if_neg c2] at H
    have c2b0 : decide (a0 < 3) = false := decide_eq_false c2
    clear c2
    by_cases c3 : a0 > 2097152
    · rw [if_pos c3] at H
      have c3b0 : decide (2097152 < a0) = true := decide_eq_true c3
      clear c3
      simp only [Option.some.injEq, Prod.mk.injEq] at H
      obtain ⟨rfl, rfl⟩ := H
      go_enter Try.func14, Try.ntmps14
      go_wp2
      go_ret2
      exact ⟨by first | rfl | (simp; done) | (simp [*]; done), by repeat (first | exact Drawn0.refl _ | apply Drawn0.step)⟩
    · rw [if_neg c3] at H
      have c3b0 : decide (2097152 < a0) = false := decide_eq_false c3
      clear c3
      by_cases c4 : (Go.bits .and .i64 a0 (wrap64 (a0 - 1))) = 0
      · rw [if_pos c4] at H
        have c4b0 : ((Go.bits .and .i64 a0 (wrap64 (a0 - 1))) == 0) = true := beq_iff_eq.mpr c4
        have c4b1 : ((Go.bits .and .i64 a0 (wrap64 (a0 - 1))) != 0) = false := bne_eq_false_iff_eq.mpr c4
        clear c4
        simp only [Option.some.injEq, Prod.mk.injEq] at H
        obtain ⟨rfl, rfl⟩ := H
        go_enter Try.func14, Try.ntmps14
        go_wp2
        go_ret2
        exact ⟨by first | rfl | (simp; done) | (simp [*]; done), by repeat (first | exact Drawn0.refl _ | apply Drawn0.step)⟩
      · rw [if_neg c4] at H
        have c4b0 : ((Go.bits .and .i64 a0 (wrap64 (a0 - 1))) == 0) = false := beq_eq_false_iff_ne.mpr c4
        have c4b1 : ((Go.bits .and .i64 a0 (wrap64 (a0 - 1))) != 0) = true := bne_iff_ne.mpr c4
        replace H := Option.bind_eq_some_iff.mp H
        obtain ⟨t109, A50, H⟩ := H
        replace H : (some (wrap64 ((wrap64 (a0 - t109)) - 1), true)) = some (r1, r2) := H
        have A5 := Aside0.mk A50
        clear A50
        simp only [Option.some.injEq, Prod.mk.injEq] at H
        obtain ⟨rfl, rfl⟩ := H
        go_enter Try.func14, Try.ntmps14
        go_wp2_with (first | ((with_reducible refine gate_callee (f := 33) rfl ?_); refine goesL_ (some 20) rfl rfl Try.func33 (by kernel_rfl) rfl #[.int .u64 (IntKind.u64.wrap (a0))] rfl (by (try simp only [List.map_toArray, List.map_cons, List.map_nil]); first | done | rfl | (simp only [List.length_drop, List.length_take]; rfl)) ?_; (with_reducible refine (bits_Len.calls k (IntKind.u64.wrap (a0)) t109 _ A5.out).mono ?_); rintro e w' ⟨rfl, ⟨nd, rfl⟩⟩; refine ⟨_, rfl, ?_⟩))
        go_ret2
        exact ⟨by first | rfl | (simp; done) | (simp [*]; done), by repeat (first | exact Drawn0.refl _ | apply Drawn0.step)⟩

/-! ### hamming_Judge: function 20 -/
def hamming_Judge.j0 : Nat → List Int → Int → Bool → Bool → Option (Int × Int × Int)
  | 0, _, _, _, _ => none
  | k + 1, x0, x9, x10, x31 => if x31 = true then (some (0, 0, 0)) else (if x10 = true then (if (Go.bits .and .i64 x9 (wrap64 (x9 - 1))) = 0 then (some (2, 0, 0)) else ((hamming_Bit.f k x9).bind fun bt113 => (if bt113.2 = true then (if bt113.1 < (wrap64 (8 * (x0.length : Int))) then (some (1, bt113.1, 0)) else (some (3, 0, 0))) else (some (3, 0, 0))))) else (some (3, 0, 0)))
def hamming_Judge.f (k : Nat) (l0 : List Int) (a1 : Int) : Option (Int × Int × Int) := if (l0.length : Int) > 512 then (some (0, 0, 3)) else ((hamming_gather.f k l0).bind fun bt110 => ((hamming_odd.f (Go.bits .andNot .u16 a1 49152)).bind fun t112 => (if ((bt110.2 != t112) = true) then (hamming_Judge.j0 k l0 (wrap64 (Go.bits .and .u16 (Go.bits .xor .u16 bt110.1 a1) 8191)) (bt110.2 != t112) false) else (hamming_Judge.j0 k l0 (wrap64 (Go.bits .and .u16 (Go.bits .xor .u16 bt110.1 a1) 8191)) (bt110.2 != t112) ((wrap64 (Go.bits .and .u16 (Go.bits .xor .u16 bt110.1 a1) 8191)) == 0)))))
theorem hamming_Judge.mono_l : ∀ k, (∀ y0 y1 y2 y3, LeO (hamming_Judge.j0 k y0 y1 y2 y3) (hamming_Judge.j0 (k + 1) y0 y1 y2 y3))
  | 0 => fun _ _ _ _ r h => by simp [hamming_Judge.j0] at h
  | k + 1 => by
    have ih0 := hamming_Judge.mono_l k
    · intro y0 y1 y2 y3
      unfold hamming_Judge.j0
      repeat' first
      | (with_reducible exact ih0 _ _ _ _)
      | (with_reducible exact hamming_Bit.mono _ _)
      | (with_reducible exact hamming_gather.mono _ _)
      | (with_reducible exact LeO.refl _)
      | (with_reducible exact LeO.none _)
      | (with_reducible refine LeO.ite ?_ ?_)
      | (with_reducible refine LeO.bind ?_ (fun _ => ?_))
      | exact ih0 _ _ _ _
      | exact hamming_Bit.mono _ _
      | exact hamming_gather.mono _ _
      | exact LeO.none _
      | refine LeO.ite ?_ ?_
      | refine LeO.bind ?_ (fun _ => ?_)
theorem hamming_Judge.mono : ∀ a0 a1 k, LeO (hamming_Judge.f k a0 a1) (hamming_Judge.f (k + 1) a0 a1) := by
  intro a0 a1 k
  have ih0 := hamming_Judge.mono_l k
  unfold hamming_Judge.f
  repeat' first
      | (with_reducible exact ih0 _ _ _ _)
      | (with_reducible exact hamming_Bit.mono _ _)
      | (with_reducible exact hamming_gather.mono _ _)
      | (with_reducible exact LeO.refl _)
      | (with_reducible exact LeO.none _)
      | (with_reducible refine LeO.ite ?_ ?_)
      | (with_reducible refine LeO.bind ?_ (fun _ => ?_))
      | exact ih0 _ _ _ _
      | exact hamming_Bit.mono _ _
      | exact hamming_gather.mono _ _
      | exact LeO.none _
      | refine LeO.ite ?_ ?_
      | refine LeO.bind ?_ (fun _ => ?_)
set_option maxHeartbeats 8000000 in
set_option maxRecDepth 100000 in
theorem hamming_Judge.calls (k : Nat) (A0 : Option Addr) (c0 : Nat) (l0 : List Int) (a1 : Int) (r1 : Int) (r2 : Int) (r3 : Int) (w : World) (hr0 : Kd.C (Kd.int .u8) w A0 l0.length l0) (hc0 : l0.length ≤ c0) (h : hamming_Judge.f k l0 a1 = some (r1, r2, r3)) :
    Calls Try.prog 20 #[.slice A0 l0.length c0, .int .u16 a1] w fun e w' => e = .returned (.tuple #[.int .i64 r1, .int .i64 r2, .int .i64 r3]) ∧ Below w.heap.size w w' := by
  have HR0 := Aside0.mk hr0
  have HC0 := Aside0.mk hc0
  clear hr0 hc0
  have HB := Aside0.mk (Below.refl w.heap.size w)
  have H : (if (l0.length : Int) > 512 then (some (0, 0, 3)) else ((hamming_gather.f k l0).bind fun bt110 => ((hamming_odd.f (Go.bits .andNot .u16 a1 49152)).bind fun t112 => (if ((bt110.2 != t112) = true) then (hamming_Judge.j0 k l0 (wrap64 (Go.bits .and .u16 (Go.bits .xor .u16 bt110.1 a1) 8191)) (bt110.2 != t112) false) else (hamming_Judge.j0 k l0 (wrap64 (Go.bits .and .u16 (Go.bits .xor .u16 bt110.1 a1) 8191)) (bt110.2 != t112) ((wrap64 (Go.bits .and .u16 (Go.bits .xor .u16 bt110.1 a1) 8191)) == 0)))))) = some (r1, r2, r3) := h
  clear h
  by_cases c3 : (l0.length : Int) > 512
  · rw [if_pos c3] at H
    have c3b0 : decide (512 < (l0.length : Int)) = true := decide_eq_true c3
    have c3b1 : decide (512 < l0.length) = true := decide_eq_true (by omega)
    clear c3
    simp only [Option.some.injEq, Prod.mk.injEq] at H
    obtain ⟨rfl, rfl, rfl⟩ := H
    go_enter Try.func20, Try.ntmps20
    go_wp2
    go_ret3
    exact ⟨by first | rfl | (simp [errW_none, errW_some] <;> rfl) | (simp [*, errW_none, errW_some] <;> rfl), by repeat (first | (with_reducible first | exact HB.out | apply below_alloc | apply pw_below_drewN | apply below_drew1) | exact HB.out)⟩
  · rw [if_neg c3] at H
    have c3b0 : decide (512 < (l0.length : Int)) = false := decide_eq_false c3
    have c3b1 : decide (512 < l0.length) = false := decide_eq_false (by omega)
    clear c3
    replace H := Option.bind_eq_some_iff.mp H
    obtain ⟨⟨t110, t111⟩, A40, H⟩ := H
    replace H : ((hamming_odd.f (Go.bits .andNot .u16 a1 49152)).bind fun t112 => (if ((t111 != t112) = true) then (hamming_Judge.j0 k l0 (wrap64 (Go.bits .and .u16 (Go.bits .xor .u16 t110 a1) 8191)) (t111 != t112) false) else (hamming_Judge.j0 k l0 (wrap64 (Go.bits .and .u16 (Go.bits .xor .u16 t110 a1) 8191)) (t111 != t112) ((wrap64 (Go.bits .and .u16 (Go.bits .xor .u16 t110 a1) 8191)) == 0)))) = some (r1, r2, r3) := H
    have A4 := Aside0.mk A40
    clear A40
    replace H := Option.bind_eq_some_iff.mp H
    obtain ⟨t112, A50, H⟩ := H
    replace H : (if ((t111 != t112) = true) then (hamming_Judge.j0 k l0 (wrap64 (Go.bits .and .u16 (Go.bits .xor .u16 t110 a1) 8191)) (t111 != t112) false) else (hamming_Judge.j0 k l0 (wrap64 (Go.bits .and .u16 (Go.bits .xor .u16 t110 a1) 8191)) (t111 != t112) ((wrap64 (Go.bits .and .u16 (Go.bits .xor .u16 t110 a1) 8191)) == 0))) = some (r1, r2, r3) := H
    have A5 := Aside0.mk A50
    clear A50
    have HC6 := Aside0.mk H
    clear H
    go_enter Try.func20, Try.ntmps20
    go_upto_region 6 with (first | ((with_reducible refine gate_callee (f := 35) rfl ?_); refine goesL_ (some 18) rfl rfl Try.func35 (by kernel_rfl) rfl #[.slice A0 l0.length c0] rfl (by (try simp only [List.map_toArray, List.map_cons, List.map_nil]); first | done | rfl | (simp only [List.length_drop, List.length_take]; rfl)) ?_; (with_reducible refine (hamming_gather.calls k _ _ l0 t110 t111 _ ?side1 ?side2 A4.out).mono ?_); (case side1 => repeat (first | exact HR0.out | (with_reducible refine Kd.C_alloc ?_ _) | (with_reducible refine Kd.C_drewN ?_ _) | (with_reducible refine Kd.C_drew ?_))); (case side2 => exact HC0.out); rintro e w7 ⟨rfl, hb⟩; refine ⟨_, rfl, ?_⟩; have n0_ := Aside0.mk (below_step (by repeat (first | (with_reducible first | exact HB.out | apply below_alloc | apply pw_below_drewN | apply below_drew1) | exact HB.out)) hb); clear HB; have HB := n0_; clear n0_; (try clear hb); (try clear hb2); (try clear hk); (try clear hi)) | ((with_reducible refine gate_callee (f := 36) rfl ?_); refine goesL_ (some 29) rfl rfl Try.func36 (by kernel_rfl) rfl #[.int .u16 (Go.bits .andNot .u16 a1 49152)] rfl (by (try simp only [List.map_toArray, List.map_cons, List.map_nil]); first | done | rfl | (simp only [List.length_drop, List.length_take]; rfl)) ?_; (with_reducible refine (hamming_odd.calls (Go.bits .andNot .u16 a1 49152) t112 _ A5.out).mono ?_); rintro e w' ⟨rfl, ⟨nd, rfl⟩⟩; refine ⟨_, rfl, ?_⟩))
    (try simp only [Act.put, List.setIfInBounds_toArray, List.set_cons_zero, List.set_cons_succ])
    go_cut [31] (fun v31 wc => ∃ (kq : Nat) (x31_5 : Bool), v31 = .bool x31_5 ∧ Aside0 (hamming_Judge.j0 kq l0 (wrap64 (Go.bits .and .u16 (Go.bits .xor .u16 t110 a1) 8191)) (t111 != t112) x31_5 = some (r1, r2, r3)) ∧ Aside0 (kq ≤ k) ∧ Aside0 (Below w.heap.size w wc))
    case first =>
      have H := HC6.out
      clear HC6
      by_cases c8 : ((t111 != t112) = true)
      · rw [if_pos c8] at H
        have c8b0 : (t111 != t112) = true := c8
        (try (have c8b1 : decide (t111 = t112) = false := by simpa using c8))
        (try (have c8b2 : (t111 == t112) = false := by simpa using c8))
        (try (have c8b3 : ¬ (t111 = t112) := by simpa using c8))
        clear c8
        (first | rw [c8b0] | (simp only [i64_w, i32_w]; rw [c8b0]) | skip)
        have H' := Aside0.mk H
        clear H
        go_wp2
        go_meet
        case rel => exact ⟨_, (false), (by first | rfl | (simp; done) | (simp [*]; done)), H', ⟨by first | omega | exact Nat.le_refl _⟩, ⟨by repeat (first | (with_reducible first | exact HB.out | apply below_alloc | apply pw_below_drewN | apply below_drew1) | exact HB.out)⟩⟩
      · rw [if_neg c8] at H
        have c8b0 : (t111 != t112) = false := by simpa using c8
        (try (have c8b1 : decide (t111 = t112) = true := by simpa using c8))
        (try (have c8b2 : (t111 == t112) = true := by simpa using c8))
        clear c8
        (first | rw [c8b0] | (simp only [i64_w, i32_w]; rw [c8b0]) | skip)
        have H' := Aside0.mk H
        clear H
        go_wp2
        go_meet
        case rel => exact ⟨_, (((wrap64 (Go.bits .and .u16 (Go.bits .xor .u16 t110 a1) 8191)) == 0)), (by first | rfl | (simp; done) | (simp [*]; done)), H', ⟨by first | omega | exact Nat.le_refl _⟩, ⟨by repeat (first | (with_reducible first | exact HB.out | apply below_alloc | apply pw_below_drewN | apply below_drew1) | exact HB.out)⟩⟩
    case rest =>
      clear HC6
      try clear c2
      try clear p2
      try clear c3
      try clear c3b0
      try clear c3b1
      try clear p6
      try clear c8
      try clear c8b0
      try clear c8b1
      try clear c8b2
      obtain ⟨kq, x31_5, rfl, HA, HJ5, HB⟩ := hcut
      cases kq with
      | zero => exact absurd HA.out (by simp [hamming_Judge.j0])
      | succ kj5 =>
        have H := HA.out
        clear HA
        simp only [hamming_Judge.j0] at H
        by_cases c9 : x31_5 = true
        · subst c9
          have H1 : (some (0, 0, 0)) = some (r1, r2, r3) := by rw [if_pos rfl] at H; exact H
          clear H
          have H := H1
          clear H1
          simp only [Option.some.injEq, Prod.mk.injEq] at H
          obtain ⟨rfl, rfl, rfl⟩ := H
          go_wp2
          go_ret3
          exact ⟨by first | rfl | (simp [errW_none, errW_some] <;> rfl) | (simp [*, errW_none, errW_some] <;> rfl), by repeat (first | (with_reducible first | exact HB.out | apply below_alloc | apply pw_below_drewN | apply below_drew1) | exact HB.out)⟩
        · replace c9 := Bool.eq_false_iff.mpr c9
          subst c9
          have H1 : (if (t111 != t112) = true then (if (Go.bits .and .i64 (wrap64 (Go.bits .and .u16 (Go.bits .xor .u16 t110 a1) 8191)) (wrap64 ((wrap64 (Go.bits .and .u16 (Go.bits .xor .u16 t110 a1) 8191)) - 1))) = 0 then (some (2, 0, 0)) else ((hamming_Bit.f kj5 (wrap64 (Go.bits .and .u16 (Go.bits .xor .u16 t110 a1) 8191))).bind fun bt113 => (if bt113.2 = true then (if bt113.1 < (wrap64 (8 * (l0.length : Int))) then (some (1, bt113.1, 0)) else (some (3, 0, 0))) else (some (3, 0, 0))))) else (some (3, 0, 0))) = some (r1, r2, r3) := by rw [if_neg (show ¬ (false = true) by decide)] at H; exact H
          clear H
          have H := H1
          clear H1
          by_cases c10 : (t111 != t112) = true
          · rw [if_pos c10] at H
            have c10b0 : (t111 != t112) = true := c10
            (try (have c10b1 : decide (t111 = t112) = false := by simpa using c10))
            (try (have c10b2 : (t111 == t112) = false := by simpa using c10))
            (try (have c10b3 : ¬ (t111 = t112) := by simpa using c10))
            clear c10
            by_cases c11 : (Go.bits .and .i64 (wrap64 (Go.bits .and .u16 (Go.bits .xor .u16 t110 a1) 8191)) (wrap64 ((wrap64 (Go.bits .and .u16 (Go.bits .xor .u16 t110 a1) 8191)) - 1))) = 0
            · rw [if_pos c11] at H
              have c11b0 : ((Go.bits .and .i64 (wrap64 (Go.bits .and .u16 (Go.bits .xor .u16 t110 a1) 8191)) (wrap64 ((wrap64 (Go.bits .and .u16 (Go.bits .xor .u16 t110 a1) 8191)) - 1))) == 0) = true := beq_iff_eq.mpr c11
              have c11b1 : ((Go.bits .and .i64 (wrap64 (Go.bits .and .u16 (Go.bits .xor .u16 t110 a1) 8191)) (wrap64 ((wrap64 (Go.bits .and .u16 (Go.bits .xor .u16 t110 a1) 8191)) - 1))) != 0) = false := bne_eq_false_iff_eq.mpr c11
              clear c11
              simp only [Option.some.injEq, Prod.mk.injEq] at H
              obtain ⟨rfl, rfl, rfl⟩ := H
              go_wp2
              go_ret3
              exact ⟨by first | rfl | (simp [errW_none, errW_some] <;> rfl) | (simp [*, errW_none, errW_some] <;> rfl), by repeat (first | (with_reducible first | exact HB.out | apply below_alloc | apply pw_below_drewN | apply below_drew1) | exact HB.out)⟩
            · rw [if_neg c11] at H
              have c11b0 : ((Go.bits .and .i64 (wrap64 (Go.bits .and .u16 (Go.bits .xor .u16 t110 a1) 8191)) (wrap64 ((wrap64 (Go.bits .and .u16 (Go.bits .xor .u16 t110 a1) 8191)) - 1))) == 0) = false := beq_eq_false_iff_ne.mpr c11
              have c11b1 : ((Go.bits .and .i64 (wrap64 (Go.bits .and .u16 (Go.bits .xor .u16 t110 a1) 8191)) (wrap64 ((wrap64 (Go.bits .and .u16 (Go.bits .xor .u16 t110 a1) 8191)) - 1))) != 0) = true := bne_iff_ne.mpr c11
              replace H := Option.bind_eq_some_iff.mp H
              obtain ⟨⟨t113, t114⟩, A120, H⟩ := H
              replace H : (if t114 = true then (if t113 < (wrap64 (8 * (l0.length : Int))) then (some (1, t113, 0)) else (some (3, 0, 0))) else (some (3, 0, 0))) = some (r1, r2, r3) := H
              have A12 := Aside0.mk A120
              clear A120
              by_cases c13 : t114 = true
              · subst c13
                have H1 : (if t113 < (wrap64 (8 * (l0.length : Int))) then (some (1, t113, 0)) else (some (3, 0, 0))) = some (r1, r2, r3) := by rw [if_pos rfl] at H; exact H
                clear H
                have H := H1
                clear H1
                by_cases c14 : t113 < (wrap64 (8 * (l0.length : Int)))
                · rw [if_pos c14] at H
                  have c14b0 : decide (t113 < (wrap64 (8 * (l0.length : Int)))) = true := decide_eq_true c14
                  clear c14
                  simp only [Option.some.injEq, Prod.mk.injEq] at H
                  obtain ⟨rfl, rfl, rfl⟩ := H
                  go_wp2_with (first | ((with_reducible refine gate_callee (f := 14) rfl ?_); refine goesL_ (some 49) rfl rfl Try.func14 (by kernel_rfl) rfl #[.int .i64 (wrap64 (Go.bits .and .u16 (Go.bits .xor .u16 t110 a1) 8191))] rfl (by (try simp only [List.map_toArray, List.map_cons, List.map_nil]); first | done | rfl | (simp only [List.length_drop, List.length_take]; rfl)) ?_; (with_reducible refine (hamming_Bit.calls kj5 (wrap64 (Go.bits .and .u16 (Go.bits .xor .u16 t110 a1) 8191)) t113 true _ A12.out).mono ?_); rintro e w' ⟨rfl, ⟨nd, rfl⟩⟩; refine ⟨_, rfl, ?_⟩))
                  go_ret3
                  exact ⟨by first | rfl | (simp [errW_none, errW_some] <;> rfl) | (simp [*, errW_none, errW_some] <;> rfl), by repeat (first | (with_reducible first | exact HB.out | apply below_alloc | apply pw_below_drewN | apply below_drew1) | exact HB.out)⟩
                · rw [if_neg c14] at H
                  have c14b0 : decide (t113 < (wrap64 (8 * (l0.length : Int)))) = false := decide_eq_false c14
                  clear c14
                  simp only [Option.some.injEq, Prod.mk.injEq] at H
                  obtain ⟨rfl, rfl, rfl⟩ := H
                  go_wp2_with (first | ((with_reducible refine gate_callee (f := 14) rfl ?_); refine goesL_ (some 49) rfl rfl Try.func14 (by kernel_rfl) rfl #[.int .i64 (wrap64 (Go.bits .and .u16 (Go.bits .xor .u16 t110 a1) 8191))] rfl (by (try simp only [List.map_toArray, List.map_cons, List.map_nil]); first | done | rfl | (simp only [List.length_drop, List.length_take]; rfl)) ?_; (with_reducible refine (hamming_Bit.calls kj5 (wrap64 (Go.bits .and .u16 (Go.bits .xor .u16 t110 a1) 8191)) t113 true _ A12.out).mono ?_); rintro e w' ⟨rfl, ⟨nd, rfl⟩⟩; refine ⟨_, rfl, ?_⟩))
                  go_ret3
                  exact ⟨by first | rfl | (simp [errW_none, errW_some] <;> rfl) | (simp [*, errW_none, errW_some] <;> rfl), by repeat (first | (with_reducible first | exact HB.out | apply below_alloc | apply pw_below_drewN | apply below_drew1) | exact HB.out)⟩
              · replace c13 := Bool.eq_false_iff.mpr c13
                subst c13
                have H1 : (some (3, 0, 0)) = some (r1, r2, r3) := by rw [if_neg (show ¬ (false = true) by decide)] at H; exact H
                clear H
                have H := H1
                clear H1
                simp only [Option.some.injEq, Prod.mk.injEq] at H
                obtain ⟨rfl, rfl, rfl⟩ := H
                go_wp2_with (first | ((with_reducible refine gate_callee (f := 14) rfl ?_); refine goesL_ (some 49) rfl rfl Try.func14 (by kernel_rfl) rfl #[.int .i64 (wrap64 (Go.bits .and .u16 (Go.bits .xor .u16 t110 a1) 8191))] rfl (by (try simp only [List.map_toArray, List.map_cons, List.map_nil]); first | done | rfl | (simp only [List.length_drop, List.length_take]; rfl)) ?_; (with_reducible refine (hamming_Bit.calls kj5 (wrap64 (Go.bits .and .u16 (Go.bits .xor .u16 t110 a1) 8191)) t113 false _ A12.out).mono ?_); rintro e w' ⟨rfl, ⟨nd, rfl⟩⟩; refine ⟨_, rfl, ?_⟩))
                go_ret3
                exact ⟨by first | rfl | (simp [errW_none, errW_some] <;> rfl) | (simp [*, errW_none, errW_some] <;> rfl), by repeat (first | (with_reducible first | exact HB.out | apply below_alloc | apply pw_below_drewN | apply below_drew1) | exact HB.out)⟩
          · rw [if_neg c10] at H
            have c10b0 : (t111 != t112) = false := by simpa using c10
            (try (have c10b1 : decide (t111 = t112) = true := by simpa using c10))
            (try (have c10b2 : (t111 == t112) = true := by simpa using c10))
            clear c10
            simp only [Option.some.injEq, Prod.mk.injEq] at H
            obtain ⟨rfl, rfl, rfl⟩ := H
            go_wp2
            go_ret3
            exact ⟨by first | rfl | (simp [errW_none, errW_some] <;> rfl) | (simp [*, errW_none, errW_some] <;> rfl), by repeat (first | (with_reducible first | exact HB.out | apply below_alloc | apply pw_below_drewN | apply below_drew1) | exact HB.out)⟩

/-! ### slices_Clone_byte_byte: function 41 (given) -/
def slices_Clone_byte_byte.f (l0 : List Int) : Option (List Int) := if l0.length < 140737488355328 then some l0 else none
set_option maxHeartbeats 1000000 in
theorem slices_Clone_byte_byte.calls (A0 : Option Addr) (c0 : Nat) (l0 : List Int) (r : List Int) (w : World) (hr0 : Kd.C (Kd.int .u8) w A0 l0.length l0) (hc0 : l0.length ≤ c0) (h : slices_Clone_byte_byte.f l0 = some r) :
    Calls Try.prog 41 #[.slice A0 l0.length c0] w fun e w' => ∃ v0_ : Value, e = .returned v0_ ∧ Kd.R (Kd.int .u8) 5 w' w.heap.size (fun _ => True) v0_ r ∧ Below w.heap.size w w' := by
  have HR0 := Aside0.mk hr0
  clear hr0
  unfold slices_Clone_byte_byte.f at h
  split at h
  · rename_i hl
    have HL := Aside0.mk hl
    clear hl
    obtain rfl := Option.some.inj h
    clear h
    cases A0 with
    | none =>
      have hnil : l0 = [] := by
        by_cases e : 0 < l0.length
        · obtain ⟨ad, e1, _⟩ := HR0.out.2.2 e
          cases e1
        · exact List.length_eq_zero_iff.1 (by omega)
      subst hnil
      have hn := fun (w : World) (n c : Nat) => Lib.run_eql_slice_nil_nil (P := Try.prog) w n c Try.underlying30
      go_enter Try.func41, Try.ntmps41
      go_wp2
      go_ret
      exact ⟨_, rfl, Kd.R_nil _ _ _ _ _, Below.refl _ _⟩
    | some a =>
      have hn := fun (w : World) (n c : Nat) => Lib.run_eql_slice_nil (P := Try.prog) w 30 5 (some a) n c 0 0 Try.underlying30
      go_enter Try.func41, Try.ntmps41
      have HB := Aside0.mk (Below.refl w.heap.size w)
      go_wp2_with (first | ((with_reducible refine gate_dst (N := 5) rfl ?_); refine Kd.R_lit (Kd.int .u8) w.heap.size 5 ?hg (N := 5) ?hd (xs := ([] : List Int)) (inner := []) (ok := fun _ => True) (okp := fun _ => True) ?hr ?hp (fun _ hk => hk) trivial HB.out (Nat.le_refl _) (by simp) ?_; (case hd => rfl); (case hg => rfl); (case hr => first | (go_simp; done) | (go_simp; rfl)); (case hp => exact (Reps.none _ _)); intro v1 w1 ho1 hb1 hg1 hnew1; clear hg1 hnew1; have HO1 := Aside0.mk ho1; have HB1 := Aside0.mk hb1; clear ho1 hb1) | ((with_reducible refine gate_builtin (b := .append) (xs := #[.tmp 5, .tmp 6]) rfl ?_); at_builtin; refine Kd.R_append_rows (Kd.int .u8) (w0 := w) w.heap.size rfl (.tmp 5) (.tmp 6) 30 5 (.int .u8 0) 1 rfl Try.underlying30 info5 rfl (by decide) (by omega) v1 [] l0 _ _ _ (fun _ => True) (fun _ => False) rfl rfl ?aO ?aR (fun _ _ h => h) (fun _ h => h.elim) (fun _ _ => trivial) ?aB ?aS ?aL ?_; (case aO => exact HO1.out); (case aR => exact Kd.C_below HR0.out HB1.out); (case aB => exact HB1.out); (case aS => exact below_size HB1.out); (case aL => have := HL.out; simp; omega); intro v2 w2 ho2 hb2 hg2 hat2; clear hg2 hat2; rw [List.nil_append] at ho2; have HO2 := Aside0.mk ho2; have HB2 := Aside0.mk hb2; clear ho2 hb2))
      go_ret
      exact ⟨_, rfl, HO2.out, HB2.out⟩
  · cases h

end Go.Proofs.Ytalejedajkhkjaa.QHammingTwo
