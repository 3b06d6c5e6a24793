-- Written by my program pp.py for this claim
import Derived.Test.YtalejedajkhkjaaQChunkBackx0
import Derived.Test.YtalejedajkhkjaaQChunkBackx1
namespace Go.Proofs.Ytalejedajkhkjaa.QChunkBack
open Go.RowKit Go.Proofs.YtalejedajkhkjaaW.PrintWords Go.Proofs.YtalejedajkhkjaaW.PrintLast Go.Proofs.YtalejedajkhkjaaW.PrintMore
attribute [local go_sem] max2_int min2_int max_two min_two max_three min_three max_four min_four   -- for this text's walks alone
set_option linter.unusedVariables false
set_option linter.unusedSimpArgs false

/-! ### hamming_gather: function 35 (given) -/
set_option maxHeartbeats 8000000 in
set_option maxRecDepth 100000 in
theorem hamming_gather_eight_calls (k : Nat) (i : Int) (p0 p1 p2 p3 p4 p5 p6 p7 : Int) (w : World) (h0 : 0 ≤ i) (h1 : i < 1000000)
  (e0 : Aside0 (hamming_Place.f k (8 * i) = some p0)) (e1 : Aside0 (hamming_Place.f k (8 * i + 1) = some p1)) (e2 : Aside0 (hamming_Place.f k (8 * i + 2) = some p2)) (e3 : Aside0 (hamming_Place.f k (8 * i + 3) = some p3))
  (e4 : Aside0 (hamming_Place.f k (8 * i + 4) = some p4)) (e5 : Aside0 (hamming_Place.f k (8 * i + 5) = some p5)) (e6 : Aside0 (hamming_Place.f k (8 * i + 6) = some p6)) (e7 : Aside0 (hamming_Place.f k (8 * i + 7) = some p7)) :
    Calls Try.prog 47 #[.int .i64 i] w fun e w' => e = .returned (.agg #[.int .i64 p0, .int .i64 p1, .int .i64 p2, .int .i64 p3, .int .i64 p4, .int .i64 p5, .int .i64 p6, .int .i64 p7]) ∧ Below w.heap.size w w' := by
  go_enter Try.func47, Try.ntmps47
  go_wp2
  refine wp_loop_rounds 9 ?_
  rw [rounds_succ]
  generalize hR0 : Code.rounds _ _ _ 8 = R0
  go_wp2_with fail
  with_reducible refine (hamming_Place.calls k _ p0 _ e0.out).mono ?_
  rintro e w1 ⟨rfl, ⟨⟨n0, rfl⟩⟩⟩
  go_wp2_with fail
  subst hR0
  rw [rounds_succ]
  generalize hR1 : Code.rounds _ _ _ 7 = R1
  go_wp2_with fail
  with_reducible refine (hamming_Place.calls k _ p1 _ e1.out).mono ?_
  rintro e w1 ⟨rfl, ⟨⟨n1, rfl⟩⟩⟩
  go_wp2_with fail
  subst hR1
  rw [rounds_succ]
  generalize hR2 : Code.rounds _ _ _ 6 = R2
  go_wp2_with fail
  with_reducible refine (hamming_Place.calls k _ p2 _ e2.out).mono ?_
  rintro e w1 ⟨rfl, ⟨⟨n2, rfl⟩⟩⟩
  go_wp2_with fail
  subst hR2
  rw [rounds_succ]
  generalize hR3 : Code.rounds _ _ _ 5 = R3
  go_wp2_with fail
  with_reducible refine (hamming_Place.calls k _ p3 _ e3.out).mono ?_
  rintro e w1 ⟨rfl, ⟨⟨n3, rfl⟩⟩⟩
  go_wp2_with fail
  subst hR3
  rw [rounds_succ]
  generalize hR4 : Code.rounds _ _ _ 4 = R4
  go_wp2_with fail
  with_reducible refine (hamming_Place.calls k _ p4 _ e4.out).mono ?_
  rintro e w1 ⟨rfl, ⟨⟨n4, rfl⟩⟩⟩
  go_wp2_with fail
  subst hR4
  rw [rounds_succ]
  generalize hR5 : Code.rounds _ _ _ 3 = R5
  go_wp2_with fail
  with_reducible refine (hamming_Place.calls k _ p5 _ e5.out).mono ?_
  rintro e w1 ⟨rfl, ⟨⟨n5, rfl⟩⟩⟩
  go_wp2_with fail
  subst hR5
  rw [rounds_succ]
  generalize hR6 : Code.rounds _ _ _ 2 = R6
  go_wp2_with fail
  with_reducible refine (hamming_Place.calls k _ p6 _ e6.out).mono ?_
  rintro e w1 ⟨rfl, ⟨⟨n6, rfl⟩⟩⟩
  go_wp2_with fail
  subst hR6
  rw [rounds_succ]
  generalize hR7 : Code.rounds _ _ _ 1 = R7
  go_wp2_with fail
  with_reducible refine (hamming_Place.calls k _ p7 _ e7.out).mono ?_
  rintro e w1 ⟨rfl, ⟨⟨n7, rfl⟩⟩⟩
  go_wp2_with fail
  subst hR7
  rw [rounds_succ]
  go_wp2_with fail
  refine bodyPost_ret (v := .agg #[.int .i64 p0, .int .i64 p1, .int .i64 p2, .int .i64 p3, .int .i64 p4, .int .i64 p5, .int .i64 p6, .int .i64 p7]) (by simp [results, Try.results47, go_sem]) rfl ⟨rfl, ?_⟩
  refine Below.setCell ?_ (by simp) _
  refine Below.setCell ?_ (by simp) _
  refine Below.setCell ?_ (by simp) _
  refine Below.setCell ?_ (by simp) _
  refine Below.setCell ?_ (by simp) _
  refine Below.setCell ?_ (by simp) _
  refine Below.setCell ?_ (by simp) _
  refine Below.setCell ?_ (by simp) _
  refine Below.setCell ?_ (by simp) _
  refine below_drewN ?_ _
  refine Below.setCell ?_ (by simp) _
  refine below_drewN ?_ _
  refine Below.setCell ?_ (by simp) _
  refine below_drewN ?_ _
  refine Below.setCell ?_ (by simp) _
  refine below_drewN ?_ _
  refine Below.setCell ?_ (by simp) _
  refine below_drewN ?_ _
  refine Below.setCell ?_ (by simp) _
  refine below_drewN ?_ _
  refine Below.setCell ?_ (by simp) _
  refine below_drewN ?_ _
  refine Below.setCell ?_ (by simp) _
  refine below_drewN ?_ _
  refine Below.alloc ?_ (by simp) _
  refine Below.alloc ?_ (Nat.le_refl _) _
  exact Below.refl _ _
theorem hamming_gather_index8_0 (p0 p1 p2 p3 p4 p5 p6 p7 : Value) (w : World) : (Instr.index 75 (.agg #[p0, p1, p2, p3, p4, p5, p6, p7]) (.int .i64 0)).run Try.prog w = .ok p0 w := by
  simp [Instr.index, run_underlying (P := Try.prog) Try.underlying75, asIntOf, go_sem]
theorem hamming_gather_index8_1 (p0 p1 p2 p3 p4 p5 p6 p7 : Value) (w : World) : (Instr.index 75 (.agg #[p0, p1, p2, p3, p4, p5, p6, p7]) (.int .i64 1)).run Try.prog w = .ok p1 w := by
  simp [Instr.index, run_underlying (P := Try.prog) Try.underlying75, asIntOf, go_sem]
theorem hamming_gather_index8_2 (p0 p1 p2 p3 p4 p5 p6 p7 : Value) (w : World) : (Instr.index 75 (.agg #[p0, p1, p2, p3, p4, p5, p6, p7]) (.int .i64 2)).run Try.prog w = .ok p2 w := by
  simp [Instr.index, run_underlying (P := Try.prog) Try.underlying75, asIntOf, go_sem]
theorem hamming_gather_index8_3 (p0 p1 p2 p3 p4 p5 p6 p7 : Value) (w : World) : (Instr.index 75 (.agg #[p0, p1, p2, p3, p4, p5, p6, p7]) (.int .i64 3)).run Try.prog w = .ok p3 w := by
  simp [Instr.index, run_underlying (P := Try.prog) Try.underlying75, asIntOf, go_sem]
theorem hamming_gather_index8_4 (p0 p1 p2 p3 p4 p5 p6 p7 : Value) (w : World) : (Instr.index 75 (.agg #[p0, p1, p2, p3, p4, p5, p6, p7]) (.int .i64 4)).run Try.prog w = .ok p4 w := by
  simp [Instr.index, run_underlying (P := Try.prog) Try.underlying75, asIntOf, go_sem]
theorem hamming_gather_index8_5 (p0 p1 p2 p3 p4 p5 p6 p7 : Value) (w : World) : (Instr.index 75 (.agg #[p0, p1, p2, p3, p4, p5, p6, p7]) (.int .i64 5)).run Try.prog w = .ok p5 w := by
  simp [Instr.index, run_underlying (P := Try.prog) Try.underlying75, asIntOf, go_sem]
theorem hamming_gather_index8_6 (p0 p1 p2 p3 p4 p5 p6 p7 : Value) (w : World) : (Instr.index 75 (.agg #[p0, p1, p2, p3, p4, p5, p6, p7]) (.int .i64 6)).run Try.prog w = .ok p6 w := by
  simp [Instr.index, run_underlying (P := Try.prog) Try.underlying75, asIntOf, go_sem]
theorem hamming_gather_index8_7 (p0 p1 p2 p3 p4 p5 p6 p7 : Value) (w : World) : (Instr.index 75 (.agg #[p0, p1, p2, p3, p4, p5, p6, p7]) (.int .i64 7)).run Try.prog w = .ok p7 w := by
  simp [Instr.index, run_underlying (P := Try.prog) Try.underlying75, asIntOf, go_sem]
attribute [local go_sem] hamming_gather_index8_0 hamming_gather_index8_1 hamming_gather_index8_2 hamming_gather_index8_3 hamming_gather_index8_4 hamming_gather_index8_5 hamming_gather_index8_6 hamming_gather_index8_7

def hamming_gather_gbit (c : Int) (j : Nat) : Bool := Go.bits .and .u8 (if j = 0 then c else c / 2 ^ j) 1 == 1
def hamming_gather_gst (c : Int) (j : Nat) (p : Int) (q : Int × Bool) : Int × Bool := if hamming_gather_gbit c j then (Go.bits .xor .u16 q.1 (IntKind.u16.wrap p), !q.2) else q
def hamming_gather_gup (c : Int) (ps : List Int) (q : Int × Bool) : Nat → Int × Bool
  | 0 => q
  | j + 1 => hamming_gather_gst c j (ps.getD j 0) (hamming_gather_gup c ps q j)
def hamming_gather_eightF (k : Nat) (i : Int) : Option (List Int) := if i < 1000000 then (hamming_Place.f k (8 * i)).bind fun p0 => (hamming_Place.f k (8 * i + 1)).bind fun p1 => (hamming_Place.f k (8 * i + 2)).bind fun p2 => (hamming_Place.f k (8 * i + 3)).bind fun p3 =>
  (hamming_Place.f k (8 * i + 4)).bind fun p4 => (hamming_Place.f k (8 * i + 5)).bind fun p5 => (hamming_Place.f k (8 * i + 6)).bind fun p6 => (hamming_Place.f k (8 * i + 7)).bind fun p7 => some [p0, p1, p2, p3, p4, p5, p6, p7] else none
theorem hamming_gather_up_step (c x4 : Int) (x5 : Bool) (p0 p1 p2 p3 p4 p5 p6 p7 : Int) (j : Nat) (p : Int) (hp : [p0, p1, p2, p3, p4, p5, p6, p7].getD j 0 = p) :
    ((hamming_gather_gbit c j = true → hamming_gather_gup c [p0, p1, p2, p3, p4, p5, p6, p7] (x4, x5) (j + 1) = (Go.bits .xor .u16 (hamming_gather_gup c [p0, p1, p2, p3, p4, p5, p6, p7] (x4, x5) j).1 (IntKind.u16.wrap p), !(hamming_gather_gup c [p0, p1, p2, p3, p4, p5, p6, p7] (x4, x5) j).2)) ∧
    (hamming_gather_gbit c j = false → hamming_gather_gup c [p0, p1, p2, p3, p4, p5, p6, p7] (x4, x5) (j + 1) = hamming_gather_gup c [p0, p1, p2, p3, p4, p5, p6, p7] (x4, x5) j)) := by
  subst hp
  refine ⟨fun h => ?_, fun h => ?_⟩
  · show hamming_gather_gst _ _ _ _ = _
    unfold hamming_gather_gst
    rw [if_pos h]
  · show hamming_gather_gst _ _ _ _ = _
    unfold hamming_gather_gst
    rw [h, if_neg (by decide)]
def hamming_gather.l0 : Nat → List Int → Int → Bool → Int → Option (Int × Bool)
  | 0, _, _, _, _ => none
  | k + 1, l, x, o, i => if i < (l.length : Int) then (if 0 ≤ i then (if i < 1000000 then (if rd l i = 0 then hamming_gather.l0 k l x o (i + 1) else ((hamming_gather_eightF k i).bind fun ps => hamming_gather.l0 k l (hamming_gather_gup (rd l i) ps (x, o) 8).1 (hamming_gather_gup (rd l i) ps (x, o) 8).2 (i + 1))) else none) else none) else some (x, o)
def hamming_gather.f (k : Nat) (l : List Int) : Option (Int × Bool) := hamming_gather.l0 k l 0 false 0
theorem hamming_gather_eightF.mono : ∀ i k, LeO (hamming_gather_eightF k i) (hamming_gather_eightF (k + 1) i) := by
  intro i k
  unfold hamming_gather_eightF
  refine LeO.ite ?_ (LeO.refl _)
  repeat' first
    | (with_reducible exact LeO.refl _)
    | (with_reducible exact hamming_Place.mono _ _)
    | (with_reducible refine LeO.bind ?_ (fun _ => ?_))
    | exact hamming_Place.mono _ _
theorem hamming_gather.mono_l : ∀ k, (∀ y0 y1 y2 y3, LeO (hamming_gather.l0 k y0 y1 y2 y3) (hamming_gather.l0 (k + 1) y0 y1 y2 y3))
  | 0 => fun _ _ _ _ r h => by simp [hamming_gather.l0] at h
  | k + 1 => by
    have ih0 := hamming_gather.mono_l k
    intro y0 y1 y2 y3
    unfold hamming_gather.l0
    repeat' first
      | (with_reducible exact ih0 _ _ _ _)
      | (with_reducible exact hamming_gather_eightF.mono _ _)
      | (with_reducible exact LeO.refl _)
      | (with_reducible refine LeO.ite ?_ ?_)
      | (with_reducible refine LeO.bind ?_ (fun _ => ?_))
theorem hamming_gather.mono : ∀ a0 k, LeO (hamming_gather.f k a0) (hamming_gather.f (k + 1) a0) := fun _ k => hamming_gather.mono_l k _ _ _ _
theorem hamming_gather_eightF_calls (k : Nat) (i : Int) (ps : List Int) (h : hamming_gather_eightF k i = some ps) : i < 1000000 ∧ ∃ p0 p1 p2 p3 p4 p5 p6 p7 : Int, ps = [p0, p1, p2, p3, p4, p5, p6, p7] ∧ (0 ≤ i → ∀ w : World,
    Calls Try.prog 47 #[.int .i64 i] w fun e w' => e = .returned (.agg #[.int .i64 p0, .int .i64 p1, .int .i64 p2, .int .i64 p3, .int .i64 p4, .int .i64 p5, .int .i64 p6, .int .i64 p7]) ∧ Below w.heap.size w w') := by
  unfold hamming_gather_eightF at h
  split at h
  · rename_i hi
    refine ⟨hi, ?_⟩
    obtain ⟨p0, e0, h⟩ := Option.bind_eq_some_iff.mp h
    obtain ⟨p1, e1, h⟩ := Option.bind_eq_some_iff.mp h
    obtain ⟨p2, e2, h⟩ := Option.bind_eq_some_iff.mp h
    obtain ⟨p3, e3, h⟩ := Option.bind_eq_some_iff.mp h
    obtain ⟨p4, e4, h⟩ := Option.bind_eq_some_iff.mp h
    obtain ⟨p5, e5, h⟩ := Option.bind_eq_some_iff.mp h
    obtain ⟨p6, e6, h⟩ := Option.bind_eq_some_iff.mp h
    obtain ⟨p7, e7, h⟩ := Option.bind_eq_some_iff.mp h
    exact ⟨p0, p1, p2, p3, p4, p5, p6, p7, (Option.some.inj h).symm, fun h0 w => hamming_gather_eight_calls k i p0 p1 p2 p3 p4 p5 p6 p7 w h0 hi ⟨e0⟩ ⟨e1⟩ ⟨e2⟩ ⟨e3⟩ ⟨e4⟩ ⟨e5⟩ ⟨e6⟩ ⟨e7⟩⟩
  · exact absurd h (by simp)
set_option maxHeartbeats 8000000 in
set_option maxRecDepth 100000 in
theorem hamming_gather.calls (k : Nat) (A0 : Option Addr) (c0 : Nat) (l0 : List Int) (r1 : Int) (r2 : Bool) (w : World) (hr0 : Kd.C (Kd.int .u8) w A0 l0.length l0) (hc0 : l0.length ≤ c0) (h : hamming_gather.f k l0 = some (r1, r2)) :
    Calls Try.prog 35 #[.slice A0 l0.length c0] w fun e w' => e = .returned (.tuple #[.int .u16 r1, .bool r2]) ∧ Below w.heap.size w w' := by
  have HR0 := Aside0.mk hr0
  have HC0 := Aside0.mk hc0
  clear hr0 hc0
  have HB := Aside0.mk (Below.refl w.heap.size w)
  have H' := Aside0.mk (show hamming_gather.l0 k l0 0 false 0 = some (r1, r2) from h)
  clear h
  go_enter Try.func35, Try.ntmps35
  go_wp2
  go_loopg [4, 5, 12] k (fun kq v4 v5 v12 w' => ∃ (x4 : Int) (x5 : Bool) (x12 : Int), v4 = .int .u16 x4 ∧ v5 = .bool x5 ∧ v12 = .int .i64 x12 ∧ Aside0 (hamming_gather.l0 kq l0 x4 x5 x12 = some (r1, r2)) ∧ Aside0 (kq ≤ k) ∧ Aside0 (Below w.heap.size w w'))
  case atStart => exact ⟨0, false, 0, rfl, rfl, rfl, H', ⟨Nat.le_refl _⟩, HB⟩
  case round =>
    clear H'
    obtain ⟨x4, x5, x12, rfl, rfl, rfl, HA, HK1, HB⟩ := hrel
    cases gk with
    | zero => exact absurd HA.out (by simp [hamming_gather.l0])
    | succ k1 =>
      have H := HA.out
      clear HA
      simp only [hamming_gather.l0] at H
      by_cases q126 : x12 < (l0.length : Int)
      · rw [if_pos q126] at H
        by_cases p126 : 0 ≤ x12
        · rw [if_pos p126] at H
          by_cases hx1 : x12 < 1000000
          · rw [if_pos hx1] at H
            have hx0 := p126
            obtain ⟨ad126, e126, hx126_0⟩ := Kd.at_int HR0.out x12 p126 q126
            cases e126
            replace hx126_0 := (HB.out.cell (World.block_lt_of_cell? w _ hx126_0)).trans hx126_0
            replace p126 := eq_true p126
            replace q126 := eq_true q126
            generalize rd l0 x12 = c at hx126_0 H
            by_cases c0' : c = 0
            · subst c0'
              rw [if_pos rfl] at H
              have H' := Aside0.mk H
              clear H
              go_wp2
              go_roundg k1
              case measure => have := HK1.out; omega
              case rel => exact ⟨x4, x5, x12 + 1, rfl, rfl, rfl, H', ⟨by have := HK1.out; omega⟩, HB⟩
            · rw [if_neg c0'] at H
              obtain ⟨ps, e8, H⟩ := Option.bind_eq_some_iff.mp H
              obtain ⟨_, p0, p1, p2, p3, p4, p5, p6, p7, rfl, h8⟩ := hamming_gather_eightF_calls _ _ _ e8
              have H' := Aside0.mk H
              have H8 := Aside0.mk (h8 hx0)
              clear H h8 e8
              have c0b : (c == 0) = false := by simpa using c0'
              clear c0'
              go_wp2_with fail
              with_reducible refine (H8.out _).mono ?_
              rintro e w1 ⟨rfl, HB1⟩
              replace HB1 := Aside0.mk HB1
              go_wp2_with fail
              go_loop [4, 5, 21] (fun v4 v5 v21 => ∃ (y4 : Int) (y5 : Bool) (j : Nat), j ≤ 8 ∧ Aside0 (hamming_gather_gup c [p0, p1, p2, p3, p4, p5, p6, p7] (x4, x5) j = (y4, y5)) ∧ v4 = .int .u16 y4 ∧ v5 = .bool y5 ∧ v21 = .int .i64 j) (fun _ _ v21 => 8 - (intOf v21).toNat)
              case atStart => exact ⟨x4, x5, 0, by omega, ⟨rfl⟩, rfl, rfl, rfl⟩
              case round =>
                obtain ⟨y4, y5, j, hj, HG, rfl, rfl, rfl⟩ := hrel
                by_cases h8 : j < 8
                · obtain rfl | rfl | rfl | rfl | rfl | rfl | rfl | rfl : j = 0 ∨ j = 1 ∨ j = 2 ∨ j = 3 ∨ j = 4 ∨ j = 5 ∨ j = 6 ∨ j = 7 := by omega
                  · obtain ⟨hu1, hu2⟩ := hamming_gather_up_step c x4 x5 p0 p1 p2 p3 p4 p5 p6 p7 0 p0 rfl
                    rw [HG.out] at hu1 hu2
                    by_cases hb : hamming_gather_gbit c 0 = true
                    · have HN := Aside0.mk (hu1 hb)
                      have hb' : (Go.bits .and .u8 (c) 1 == 1) = true := hb
                      clear hu1 hu2 hb
                      go_wp2
                      go_round
                      case rel => exact ⟨_, _, 1, by omega, HN, rfl, rfl, rfl⟩
                      case measure => simp [intOf]
                    · have hb := eq_false_of_ne_true hb
                      have HN := Aside0.mk (hu2 hb)
                      have hb' : (Go.bits .and .u8 (c) 1 == 1) = false := hb
                      clear hu1 hu2 hb
                      go_wp2
                      go_round
                      case rel => exact ⟨_, _, 1, by omega, HN, rfl, rfl, rfl⟩
                      case measure => simp [intOf]
                  · obtain ⟨hu1, hu2⟩ := hamming_gather_up_step c x4 x5 p0 p1 p2 p3 p4 p5 p6 p7 1 p1 rfl
                    rw [HG.out] at hu1 hu2
                    by_cases hb : hamming_gather_gbit c 1 = true
                    · have HN := Aside0.mk (hu1 hb)
                      have hb' : (Go.bits .and .u8 (c / 2) 1 == 1) = true := hb
                      clear hu1 hu2 hb
                      go_wp2
                      go_round
                      case rel => exact ⟨_, _, 2, by omega, HN, rfl, rfl, rfl⟩
                      case measure => simp [intOf]
                    · have hb := eq_false_of_ne_true hb
                      have HN := Aside0.mk (hu2 hb)
                      have hb' : (Go.bits .and .u8 (c / 2) 1 == 1) = false := hb
                      clear hu1 hu2 hb
                      go_wp2
                      go_round
                      case rel => exact ⟨_, _, 2, by omega, HN, rfl, rfl, rfl⟩
                      case measure => simp [intOf]
                  · obtain ⟨hu1, hu2⟩ := hamming_gather_up_step c x4 x5 p0 p1 p2 p3 p4 p5 p6 p7 2 p2 rfl
                    rw [HG.out] at hu1 hu2
                    by_cases hb : hamming_gather_gbit c 2 = true
                    · have HN := Aside0.mk (hu1 hb)
                      have hb' : (Go.bits .and .u8 (c / 4) 1 == 1) = true := hb
                      clear hu1 hu2 hb
                      go_wp2
                      go_round
                      case rel => exact ⟨_, _, 3, by omega, HN, rfl, rfl, rfl⟩
                      case measure => simp [intOf]
                    · have hb := eq_false_of_ne_true hb
                      have HN := Aside0.mk (hu2 hb)
                      have hb' : (Go.bits .and .u8 (c / 4) 1 == 1) = false := hb
                      clear hu1 hu2 hb
                      go_wp2
                      go_round
                      case rel => exact ⟨_, _, 3, by omega, HN, rfl, rfl, rfl⟩
                      case measure => simp [intOf]
                  · obtain ⟨hu1, hu2⟩ := hamming_gather_up_step c x4 x5 p0 p1 p2 p3 p4 p5 p6 p7 3 p3 rfl
                    rw [HG.out] at hu1 hu2
                    by_cases hb : hamming_gather_gbit c 3 = true
                    · have HN := Aside0.mk (hu1 hb)
                      have hb' : (Go.bits .and .u8 (c / 8) 1 == 1) = true := hb
                      clear hu1 hu2 hb
                      go_wp2
                      go_round
                      case rel => exact ⟨_, _, 4, by omega, HN, rfl, rfl, rfl⟩
                      case measure => simp [intOf]
                    · have hb := eq_false_of_ne_true hb
                      have HN := Aside0.mk (hu2 hb)
                      have hb' : (Go.bits .and .u8 (c / 8) 1 == 1) = false := hb
                      clear hu1 hu2 hb
                      go_wp2
                      go_round
                      case rel => exact ⟨_, _, 4, by omega, HN, rfl, rfl, rfl⟩
                      case measure => simp [intOf]
                  · obtain ⟨hu1, hu2⟩ := hamming_gather_up_step c x4 x5 p0 p1 p2 p3 p4 p5 p6 p7 4 p4 rfl
                    rw [HG.out] at hu1 hu2
                    by_cases hb : hamming_gather_gbit c 4 = true
                    · have HN := Aside0.mk (hu1 hb)
                      have hb' : (Go.bits .and .u8 (c / 16) 1 == 1) = true := hb
                      clear hu1 hu2 hb
                      go_wp2
                      go_round
                      case rel => exact ⟨_, _, 5, by omega, HN, rfl, rfl, rfl⟩
                      case measure => simp [intOf]
                    · have hb := eq_false_of_ne_true hb
                      have HN := Aside0.mk (hu2 hb)
                      have hb' : (Go.bits .and .u8 (c / 16) 1 == 1) = false := hb
                      clear hu1 hu2 hb
                      go_wp2
                      go_round
                      case rel => exact ⟨_, _, 5, by omega, HN, rfl, rfl, rfl⟩
                      case measure => simp [intOf]
                  · obtain ⟨hu1, hu2⟩ := hamming_gather_up_step c x4 x5 p0 p1 p2 p3 p4 p5 p6 p7 5 p5 rfl
                    rw [HG.out] at hu1 hu2
                    by_cases hb : hamming_gather_gbit c 5 = true
                    · have HN := Aside0.mk (hu1 hb)
                      have hb' : (Go.bits .and .u8 (c / 32) 1 == 1) = true := hb
                      clear hu1 hu2 hb
                      go_wp2
                      go_round
                      case rel => exact ⟨_, _, 6, by omega, HN, rfl, rfl, rfl⟩
                      case measure => simp [intOf]
                    · have hb := eq_false_of_ne_true hb
                      have HN := Aside0.mk (hu2 hb)
                      have hb' : (Go.bits .and .u8 (c / 32) 1 == 1) = false := hb
                      clear hu1 hu2 hb
                      go_wp2
                      go_round
                      case rel => exact ⟨_, _, 6, by omega, HN, rfl, rfl, rfl⟩
                      case measure => simp [intOf]
                  · obtain ⟨hu1, hu2⟩ := hamming_gather_up_step c x4 x5 p0 p1 p2 p3 p4 p5 p6 p7 6 p6 rfl
                    rw [HG.out] at hu1 hu2
                    by_cases hb : hamming_gather_gbit c 6 = true
                    · have HN := Aside0.mk (hu1 hb)
                      have hb' : (Go.bits .and .u8 (c / 64) 1 == 1) = true := hb
                      clear hu1 hu2 hb
                      go_wp2
                      go_round
                      case rel => exact ⟨_, _, 7, by omega, HN, rfl, rfl, rfl⟩
                      case measure => simp [intOf]
                    · have hb := eq_false_of_ne_true hb
                      have HN := Aside0.mk (hu2 hb)
                      have hb' : (Go.bits .and .u8 (c / 64) 1 == 1) = false := hb
                      clear hu1 hu2 hb
                      go_wp2
                      go_round
                      case rel => exact ⟨_, _, 7, by omega, HN, rfl, rfl, rfl⟩
                      case measure => simp [intOf]
                  · obtain ⟨hu1, hu2⟩ := hamming_gather_up_step c x4 x5 p0 p1 p2 p3 p4 p5 p6 p7 7 p7 rfl
                    rw [HG.out] at hu1 hu2
                    by_cases hb : hamming_gather_gbit c 7 = true
                    · have HN := Aside0.mk (hu1 hb)
                      have hb' : (Go.bits .and .u8 (c / 128) 1 == 1) = true := hb
                      clear hu1 hu2 hb
                      go_wp2
                      go_round
                      case rel => exact ⟨_, _, 8, by omega, HN, rfl, rfl, rfl⟩
                      case measure => simp [intOf]
                    · have hb := eq_false_of_ne_true hb
                      have HN := Aside0.mk (hu2 hb)
                      have hb' : (Go.bits .and .u8 (c / 128) 1 == 1) = false := hb
                      clear hu1 hu2 hb
                      go_wp2
                      go_round
                      case rel => exact ⟨_, _, 8, by omega, HN, rfl, rfl, rfl⟩
                      case measure => simp [intOf]
                · have : j = 8 := by omega
                  subst this
                  have H2 := H'.out
                  rw [HG.out] at H2
                  have H3 := Aside0.mk H2
                  clear H2 H' HG
                  have HB2 := Aside0.mk (HB.out.trans (HB1.out.mono HB.out.size))
                  go_wp2
                  go_roundg k1
                  case measure => have := HK1.out; omega
                  case rel => exact ⟨y4, y5, x12 + 1, rfl, rfl, rfl, H3, ⟨by have := HK1.out; omega⟩, HB2⟩
          · rw [if_neg hx1] at H
            exact absurd H (by simp)
        · rw [if_neg p126] at H
          exact absurd H (by simp)
      · rw [if_neg q126] at H
        have c2b0 : decide (x12 < (l0.length : Int)) = false := decide_eq_false q126
        clear q126
        obtain rfl := (Prod.mk.inj (Option.some.inj H)).1
        obtain rfl := (Prod.mk.inj (Option.some.inj H)).2
        go_wp2
        go_ret2
        exact ⟨rfl, HB.out⟩

/-! ### bits_OnesCount16: function 48 -/
def bits_OnesCount16.f (a0 : Int) : Option (Int) := if 0 ≤ (a0 / 256) then (if (a0 / 256) < 256 then (if 0 ≤ (Go.bits .and .u16 a0 255) then (if (Go.bits .and .u16 a0 255) < 256 then (some (((bt (⟨#[0, 1, 1, 2, 1, 2, 2, 3, 1, 2, 2, 3, 2, 3, 3, 4, 1, 2, 2, 3, 2, 3, 3, 4, 2, 3, 3, 4, 3, 4, 4, 5, 1, 2, 2, 3, 2, 3, 3, 4, 2, 3, 3, 4, 3, 4, 4, 5, 2, 3, 3, 4, 3, 4, 4, 5, 3, 4, 4, 5, 4, 5, 5, 6, 1, 2, 2, 3, 2, 3, 3, 4, 2, 3, 3, 4, 3, 4, 4, 5, 2, 3, 3, 4, 3, 4, 4, 5, 3, 4, 4, 5, 4, 5, 5, 6, 2, 3, 3, 4, 3, 4, 4, 5, 3, 4, 4, 5, 4, 5, 5, 6, 3, 4, 4, 5, 4, 5, 5, 6, 4, 5, 5, 6, 5, 6, 6, 7, 1, 2, 2, 3, 2, 3, 3, 4, 2, 3, 3, 4, 3, 4, 4, 5, 2, 3, 3, 4, 3, 4, 4, 5, 3, 4, 4, 5, 4, 5, 5, 6, 2, 3, 3, 4, 3, 4, 4, 5, 3, 4, 4, 5, 4, 5, 5, 6, 3, 4, 4, 5, 4, 5, 5, 6, 4, 5, 5, 6, 5, 6, 6, 7, 2, 3, 3, 4, 3, 4, 4, 5, 3, 4, 4, 5, 4, 5, 5, 6, 3, 4, 4, 5, 4, 5, 5, 6, 4, 5, 5, 6, 5, 6, 6, 7, 3, 4, 4, 5, 4, 5, 5, 6, 4, 5, 5, 6, 5, 6, 6, 7, 4, 5, 5, 6, 5, 6, 6, 7, 5, 6, 6, 7, 6, 7, 7, 8]⟩ : ByteArray) (a0 / 256)) + (bt (⟨#[0, 1, 1, 2, 1, 2, 2, 3, 1, 2, 2, 3, 2, 3, 3, 4, 1, 2, 2, 3, 2, 3, 3, 4, 2, 3, 3, 4, 3, 4, 4, 5, 1, 2, 2, 3, 2, 3, 3, 4, 2, 3, 3, 4, 3, 4, 4, 5, 2, 3, 3, 4, 3, 4, 4, 5, 3, 4, 4, 5, 4, 5, 5, 6, 1, 2, 2, 3, 2, 3, 3, 4, 2, 3, 3, 4, 3, 4, 4, 5, 2, 3, 3, 4, 3, 4, 4, 5, 3, 4, 4, 5, 4, 5, 5, 6, 2, 3, 3, 4, 3, 4, 4, 5, 3, 4, 4, 5, 4, 5, 5, 6, 3, 4, 4, 5, 4, 5, 5, 6, 4, 5, 5, 6, 5, 6, 6, 7, 1, 2, 2, 3, 2, 3, 3, 4, 2, 3, 3, 4, 3, 4, 4, 5, 2, 3, 3, 4, 3, 4, 4, 5, 3, 4, 4, 5, 4, 5, 5, 6, 2, 3, 3, 4, 3, 4, 4, 5, 3, 4, 4, 5, 4, 5, 5, 6, 3, 4, 4, 5, 4, 5, 5, 6, 4, 5, 5, 6, 5, 6, 6, 7, 2, 3, 3, 4, 3, 4, 4, 5, 3, 4, 4, 5, 4, 5, 5, 6, 3, 4, 4, 5, 4, 5, 5, 6, 4, 5, 5, 6, 5, 6, 6, 7, 3, 4, 4, 5, 4, 5, 5, 6, 4, 5, 5, 6, 5, 6, 6, 7, 4, 5, 5, 6, 5, 6, 6, 7, 5, 6, 6, 7, 6, 7, 7, 8]⟩ : ByteArray) (Go.bits .and .u16 a0 255))) % 256)) else (none)) else (none)) else (none)) else (none)
set_option maxHeartbeats 8000000 in
set_option maxRecDepth 100000 in
theorem bits_OnesCount16.calls (a0 : Int) (r : Int) (w : World) (h : bits_OnesCount16.f a0 = some r) :
    Calls Try.prog 48 #[.int .u16 a0] w fun e w' => e = .returned (.int .i64 r) ∧ Drawn0 w w' := by
  have H : (if 0 ≤ (a0 / 256) then (if (a0 / 256) < 256 then (if 0 ≤ (Go.bits .and .u16 a0 255) then (if (Go.bits .and .u16 a0 255) < 256 then (some (((bt (⟨#[0, 1, 1, 2, 1, 2, 2, 3, 1, 2, 2, 3, 2, 3, 3, 4, 1, 2, 2, 3, 2, 3, 3, 4, 2, 3, 3, 4, 3, 4, 4, 5, 1, 2, 2, 3, 2, 3, 3, 4, 2, 3, 3, 4, 3, 4, 4, 5, 2, 3, 3, 4, 3, 4, 4, 5, 3, 4, 4, 5, 4, 5, 5, 6, 1, 2, 2, 3, 2, 3, 3, 4, 2, 3, 3, 4, 3, 4, 4, 5, 2, 3, 3, 4, 3, 4, 4, 5, 3, 4, 4, 5, 4, 5, 5, 6, 2, 3, 3, 4, 3, 4, 4, 5, 3, 4, 4, 5, 4, 5, 5, 6, 3, 4, 4, 5, 4, 5, 5, 6, 4, 5, 5, 6, 5, 6, 6, 7, 1, 2, 2, 3, 2, 3, 3, 4, 2, 3, 3, 4, 3, 4, 4, 5, 2, 3, 3, 4, 3, 4, 4, 5, 3, 4, 4, 5, 4, 5, 5, 6, 2, 3, 3, 4, 3, 4, 4, 5, 3, 4, 4, 5, 4, 5, 5, 6, 3, 4, 4, 5, 4, 5, 5, 6, 4, 5, 5, 6, 5, 6, 6, 7, 2, 3, 3, 4, 3, 4, 4, 5, 3, 4, 4, 5, 4, 5, 5, 6, 3, 4, 4, 5, 4, 5, 5, 6, 4, 5, 5, 6, 5, 6, 6, 7, 3, 4, 4, 5, 4, 5, 5, 6, 4, 5, 5, 6, 5, 6, 6, 7, 4, 5, 5, 6, 5, 6, 6, 7, 5, 6, 6, 7, 6, 7, 7, 8]⟩ : ByteArray) (a0 / 256)) + (bt (⟨#[0, 1, 1, 2, 1, 2, 2, 3, 1, 2, 2, 3, 2, 3, 3, 4, 1, 2, 2, 3, 2, 3, 3, 4, 2, 3, 3, 4, 3, 4, 4, 5, 1, 2, 2, 3, 2, 3, 3, 4, 2, 3, 3, 4, 3, 4, 4, 5, 2, 3, 3, 4, 3, 4, 4, 5, 3, 4, 4, 5, 4, 5, 5, 6, 1, 2, 2, 3, 2, 3, 3, 4, 2, 3, 3, 4, 3, 4, 4, 5, 2, 3, 3, 4, 3, 4, 4, 5, 3, 4, 4, 5, 4, 5, 5, 6, 2, 3, 3, 4, 3, 4, 4, 5, 3, 4, 4, 5, 4, 5, 5, 6, 3, 4, 4, 5, 4, 5, 5, 6, 4, 5, 5, 6, 5, 6, 6, 7, 1, 2, 2, 3, 2, 3, 3, 4, 2, 3, 3, 4, 3, 4, 4, 5, 2, 3, 3, 4, 3, 4, 4, 5, 3, 4, 4, 5, 4, 5, 5, 6, 2, 3, 3, 4, 3, 4, 4, 5, 3, 4, 4, 5, 4, 5, 5, 6, 3, 4, 4, 5, 4, 5, 5, 6, 4, 5, 5, 6, 5, 6, 6, 7, 2, 3, 3, 4, 3, 4, 4, 5, 3, 4, 4, 5, 4, 5, 5, 6, 3, 4, 4, 5, 4, 5, 5, 6, 4, 5, 5, 6, 5, 6, 6, 7, 3, 4, 4, 5, 4, 5, 5, 6, 4, 5, 5, 6, 5, 6, 6, 7, 4, 5, 5, 6, 5, 6, 6, 7, 5, 6, 6, 7, 6, 7, 7, 8]⟩ : ByteArray) (Go.bits .and .u16 a0 255))) % 256)) else (none)) else (none)) else (none)) else (none)) = some r := h
  clear h
  obtain ⟨ji2, hji2⟩ : ∃ j_ : Int, (a0 / 256) = j_ := ⟨_, rfl⟩
  replace H : (if 0 ≤ (ji2) then (if (ji2) < 256 then (if 0 ≤ (Go.bits .and .u16 a0 255) then (if (Go.bits .and .u16 a0 255) < 256 then (some (((bt (⟨#[0, 1, 1, 2, 1, 2, 2, 3, 1, 2, 2, 3, 2, 3, 3, 4, 1, 2, 2, 3, 2, 3, 3, 4, 2, 3, 3, 4, 3, 4, 4, 5, 1, 2, 2, 3, 2, 3, 3, 4, 2, 3, 3, 4, 3, 4, 4, 5, 2, 3, 3, 4, 3, 4, 4, 5, 3, 4, 4, 5, 4, 5, 5, 6, 1, 2, 2, 3, 2, 3, 3, 4, 2, 3, 3, 4, 3, 4, 4, 5, 2, 3, 3, 4, 3, 4, 4, 5, 3, 4, 4, 5, 4, 5, 5, 6, 2, 3, 3, 4, 3, 4, 4, 5, 3, 4, 4, 5, 4, 5, 5, 6, 3, 4, 4, 5, 4, 5, 5, 6, 4, 5, 5, 6, 5, 6, 6, 7, 1, 2, 2, 3, 2, 3, 3, 4, 2, 3, 3, 4, 3, 4, 4, 5, 2, 3, 3, 4, 3, 4, 4, 5, 3, 4, 4, 5, 4, 5, 5, 6, 2, 3, 3, 4, 3, 4, 4, 5, 3, 4, 4, 5, 4, 5, 5, 6, 3, 4, 4, 5, 4, 5, 5, 6, 4, 5, 5, 6, 5, 6, 6, 7, 2, 3, 3, 4, 3, 4, 4, 5, 3, 4, 4, 5, 4, 5, 5, 6, 3, 4, 4, 5, 4, 5, 5, 6, 4, 5, 5, 6, 5, 6, 6, 7, 3, 4, 4, 5, 4, 5, 5, 6, 4, 5, 5, 6, 5, 6, 6, 7, 4, 5, 5, 6, 5, 6, 6, 7, 5, 6, 6, 7, 6, 7, 7, 8]⟩ : ByteArray) (ji2)) + (bt (⟨#[0, 1, 1, 2, 1, 2, 2, 3, 1, 2, 2, 3, 2, 3, 3, 4, 1, 2, 2, 3, 2, 3, 3, 4, 2, 3, 3, 4, 3, 4, 4, 5, 1, 2, 2, 3, 2, 3, 3, 4, 2, 3, 3, 4, 3, 4, 4, 5, 2, 3, 3, 4, 3, 4, 4, 5, 3, 4, 4, 5, 4, 5, 5, 6, 1, 2, 2, 3, 2, 3, 3, 4, 2, 3, 3, 4, 3, 4, 4, 5, 2, 3, 3, 4, 3, 4, 4, 5, 3, 4, 4, 5, 4, 5, 5, 6, 2, 3, 3, 4, 3, 4, 4, 5, 3, 4, 4, 5, 4, 5, 5, 6, 3, 4, 4, 5, 4, 5, 5, 6, 4, 5, 5, 6, 5, 6, 6, 7, 1, 2, 2, 3, 2, 3, 3, 4, 2, 3, 3, 4, 3, 4, 4, 5, 2, 3, 3, 4, 3, 4, 4, 5, 3, 4, 4, 5, 4, 5, 5, 6, 2, 3, 3, 4, 3, 4, 4, 5, 3, 4, 4, 5, 4, 5, 5, 6, 3, 4, 4, 5, 4, 5, 5, 6, 4, 5, 5, 6, 5, 6, 6, 7, 2, 3, 3, 4, 3, 4, 4, 5, 3, 4, 4, 5, 4, 5, 5, 6, 3, 4, 4, 5, 4, 5, 5, 6, 4, 5, 5, 6, 5, 6, 6, 7, 3, 4, 4, 5, 4, 5, 5, 6, 4, 5, 5, 6, 5, 6, 6, 7, 4, 5, 5, 6, 5, 6, 6, 7, 5, 6, 6, 7, 6, 7, 7, 8]⟩ : ByteArray) (Go.bits .and .u16 a0 255))) % 256)) else (none)) else (none)) else (none)) else (none)) = some r := by first | (rw [hji2] at H; exact H) | (simp only [hji2] at H ⊢; exact H)
  by_cases c3 : 0 ≤ (ji2)
  · rw [if_pos c3] at H
    have c3b0 : decide (0 ≤ (ji2)) = true := decide_eq_true c3
    clear c3
    by_cases c4 : (ji2) < 256
    · rw [if_pos c4] at H
      have c4b0 : decide ((ji2) < 256) = true := decide_eq_true c4
      clear c4
      by_cases c6 : 0 ≤ (Go.bits .and .u16 a0 255)
      · rw [if_pos c6] at H
        have c6b0 : decide (0 ≤ (Go.bits .and .u16 a0 255)) = true := decide_eq_true c6
        clear c6
        by_cases c7 : (Go.bits .and .u16 a0 255) < 256
        · rw [if_pos c7] at H
          have c7b0 : decide ((Go.bits .and .u16 a0 255) < 256) = true := decide_eq_true c7
          clear c7
          obtain rfl := Option.some.inj H
          have p5 : 0 ≤ ((ji2) : Int) := of_decide_eq_true (by first | (with_reducible assumption) | assumption)
          have q5 : (ji2) < (256 : Int) := of_decide_eq_true (by first | (with_reducible assumption) | assumption)
          have hx5 := bt_at (⟨#[0, 1, 1, 2, 1, 2, 2, 3, 1, 2, 2, 3, 2, 3, 3, 4, 1, 2, 2, 3, 2, 3, 3, 4, 2, 3, 3, 4, 3, 4, 4, 5, 1, 2, 2, 3, 2, 3, 3, 4, 2, 3, 3, 4, 3, 4, 4, 5, 2, 3, 3, 4, 3, 4, 4, 5, 3, 4, 4, 5, 4, 5, 5, 6, 1, 2, 2, 3, 2, 3, 3, 4, 2, 3, 3, 4, 3, 4, 4, 5, 2, 3, 3, 4, 3, 4, 4, 5, 3, 4, 4, 5, 4, 5, 5, 6, 2, 3, 3, 4, 3, 4, 4, 5, 3, 4, 4, 5, 4, 5, 5, 6, 3, 4, 4, 5, 4, 5, 5, 6, 4, 5, 5, 6, 5, 6, 6, 7, 1, 2, 2, 3, 2, 3, 3, 4, 2, 3, 3, 4, 3, 4, 4, 5, 2, 3, 3, 4, 3, 4, 4, 5, 3, 4, 4, 5, 4, 5, 5, 6, 2, 3, 3, 4, 3, 4, 4, 5, 3, 4, 4, 5, 4, 5, 5, 6, 3, 4, 4, 5, 4, 5, 5, 6, 4, 5, 5, 6, 5, 6, 6, 7, 2, 3, 3, 4, 3, 4, 4, 5, 3, 4, 4, 5, 4, 5, 5, 6, 3, 4, 4, 5, 4, 5, 5, 6, 4, 5, 5, 6, 5, 6, 6, 7, 3, 4, 4, 5, 4, 5, 5, 6, 4, 5, 5, 6, 5, 6, 6, 7, 4, 5, 5, 6, 5, 6, 6, 7, 5, 6, 6, 7, 6, 7, 7, 8]⟩ : ByteArray) (ji2)
          replace p5 := eq_true p5
          replace q5 := eq_true q5
          have p8 : 0 ≤ ((Go.bits .and .u16 a0 255) : Int) := of_decide_eq_true (by first | (with_reducible assumption) | assumption)
          have q8 : (Go.bits .and .u16 a0 255) < (256 : Int) := of_decide_eq_true (by first | (with_reducible assumption) | assumption)
          have hx8 := bt_at (⟨#[0, 1, 1, 2, 1, 2, 2, 3, 1, 2, 2, 3, 2, 3, 3, 4, 1, 2, 2, 3, 2, 3, 3, 4, 2, 3, 3, 4, 3, 4, 4, 5, 1, 2, 2, 3, 2, 3, 3, 4, 2, 3, 3, 4, 3, 4, 4, 5, 2, 3, 3, 4, 3, 4, 4, 5, 3, 4, 4, 5, 4, 5, 5, 6, 1, 2, 2, 3, 2, 3, 3, 4, 2, 3, 3, 4, 3, 4, 4, 5, 2, 3, 3, 4, 3, 4, 4, 5, 3, 4, 4, 5, 4, 5, 5, 6, 2, 3, 3, 4, 3, 4, 4, 5, 3, 4, 4, 5, 4, 5, 5, 6, 3, 4, 4, 5, 4, 5, 5, 6, 4, 5, 5, 6, 5, 6, 6, 7, 1, 2, 2, 3, 2, 3, 3, 4, 2, 3, 3, 4, 3, 4, 4, 5, 2, 3, 3, 4, 3, 4, 4, 5, 3, 4, 4, 5, 4, 5, 5, 6, 2, 3, 3, 4, 3, 4, 4, 5, 3, 4, 4, 5, 4, 5, 5, 6, 3, 4, 4, 5, 4, 5, 5, 6, 4, 5, 5, 6, 5, 6, 6, 7, 2, 3, 3, 4, 3, 4, 4, 5, 3, 4, 4, 5, 4, 5, 5, 6, 3, 4, 4, 5, 4, 5, 5, 6, 4, 5, 5, 6, 5, 6, 6, 7, 3, 4, 4, 5, 4, 5, 5, 6, 4, 5, 5, 6, 5, 6, 6, 7, 4, 5, 5, 6, 5, 6, 6, 7, 5, 6, 6, 7, 6, 7, 7, 8]⟩ : ByteArray) (Go.bits .and .u16 a0 255)
          replace p8 := eq_true p8
          replace q8 := eq_true q8
          go_enter Try.func48, Try.ntmps48
          go_wp2
          repeat (go_quiet (fail); try go_wp2)
          go_ret
          exact ⟨by first | rfl | (simp; done) | (simp only [← hji2] <;> (first | rfl | simp)) | (simp [*]; done), by repeat (first | exact Drawn0.refl _ | apply Drawn0.step)⟩
        · rw [if_neg c7] at H
          exact absurd H (by simp)
      · rw [if_neg c6] at H
        exact absurd H (by simp)
    · rw [if_neg c4] at H
      exact absurd H (by simp)
  · rw [if_neg c3] at H
    exact absurd H (by simp)

/-! ### hamming_odd: function 36 -/
def hamming_odd.f (a0 : Int) : Option (Bool) := (bits_OnesCount16.f a0).bind fun t109 => (some ((Go.bits .and .i64 t109 1) == 1))
set_option maxHeartbeats 8000000 in
set_option maxRecDepth 100000 in
theorem hamming_odd.calls (a0 : Int) (r : Bool) (w : World) (h : hamming_odd.f a0 = some r) :
    Calls Try.prog 36 #[.int .u16 a0] w fun e w' => e = .returned (.bool r) ∧ Drawn0 w w' := by
  have H : ((bits_OnesCount16.f a0).bind fun t109 => (some ((Go.bits .and .i64 t109 1) == 1))) = some r := h
  clear h
  replace H := Option.bind_eq_some_iff.mp H
  obtain ⟨t109, A20, H⟩ := H
  replace H : (some ((Go.bits .and .i64 t109 1) == 1)) = some r := H
  have A2 := Aside0.mk A20
  clear A20
  obtain rfl := Option.some.inj H
  go_enter Try.func36, Try.ntmps36
  go_wp2_with (first | ((with_reducible refine gate_callee (f := 48) rfl ?_); refine goesL_ (some 4) rfl rfl Try.func48 (by kernel_rfl) rfl #[.int .u16 a0] rfl (by (try simp only [List.map_toArray, List.map_cons, List.map_nil]); first | done | rfl | (simp only [List.length_drop, List.length_take]; rfl)) ?_; (with_reducible refine (bits_OnesCount16.calls a0 t109 _ A2.out).mono ?_); rintro e w' ⟨rfl, ⟨nd, rfl⟩⟩; refine ⟨_, rfl, ?_⟩))
  go_ret
  exact ⟨by first | rfl | (simp; done) | (simp [*]; done), by repeat (first | exact Drawn0.refl _ | apply Drawn0.step)⟩

/-! ### hamming_Word: function 18 -/
def hamming_Word.f (k : Nat) (l0 : List Int) : Option (Int × Int) := if (l0.length : Int) > 512 then (some (0, 3)) else ((hamming_gather.f k l0).bind fun bt110 => ((hamming_odd.f bt110.1).bind fun t112 => (if (bt110.2 != t112) = true then (some (Go.bits .or .u16 (Go.bits .or .u16 bt110.1 8192) 49152, 0)) else (some (Go.bits .or .u16 bt110.1 49152, 0)))))
theorem hamming_Word.mono : ∀ a0 k, LeO (hamming_Word.f k a0) (hamming_Word.f (k + 1) a0) := by
  intro a0 k
  unfold hamming_Word.f
  repeat' first
      | (with_reducible exact hamming_gather.mono _ _)
      | (with_reducible exact LeO.refl _)
      | (with_reducible exact LeO.none _)
      | (with_reducible refine LeO.ite ?_ ?_)
      | (with_reducible refine LeO.bind ?_ (fun _ => ?_))
      | exact hamming_gather.mono _ _
      | exact LeO.none _
      | refine LeO.ite ?_ ?_
      | refine LeO.bind ?_ (fun _ => ?_)
set_option maxHeartbeats 8000000 in
set_option maxRecDepth 100000 in
theorem hamming_Word.calls (k : Nat) (A0 : Option Addr) (c0 : Nat) (l0 : List Int) (r1 : Int) (r2 : Int) (w : World) (hr0 : Kd.C (Kd.int .u8) w A0 l0.length l0) (hc0 : l0.length ≤ c0) (h : hamming_Word.f k l0 = some (r1, r2)) :
    Calls Try.prog 18 #[.slice A0 l0.length c0] w fun e w' => e = .returned (.tuple #[.int .u16 r1, .int .i64 r2]) ∧ Below w.heap.size w w' := by
  have HR0 := Aside0.mk hr0
  have HC0 := Aside0.mk hc0
  clear hr0 hc0
  have HB := Aside0.mk (Below.refl w.heap.size w)
  have H : (if (l0.length : Int) > 512 then (some (0, 3)) else ((hamming_gather.f k l0).bind fun bt110 => ((hamming_odd.f bt110.1).bind fun t112 => (if (bt110.2 != t112) = true then (some (Go.bits .or .u16 (Go.bits .or .u16 bt110.1 8192) 49152, 0)) else (some (Go.bits .or .u16 bt110.1 49152, 0)))))) = some (r1, r2) := h
  clear h
  by_cases c2 : (l0.length : Int) > 512
  · rw [if_pos c2] at H
    have c2b0 : decide (512 < (l0.length : Int)) = true := decide_eq_true c2
    have c2b1 : decide (512 < l0.length) = true := decide_eq_true (by omega)
    clear c2
    simp only [Option.some.injEq, Prod.mk.injEq] at H
    obtain ⟨rfl, rfl⟩ := H
    go_enter Try.func18, Try.ntmps18
    go_wp2
    go_ret2
    exact ⟨by first | rfl | (simp [errW_none, errW_some] <;> rfl) | (simp [*, errW_none, errW_some] <;> rfl), by repeat (first | (with_reducible first | exact HB.out | apply below_alloc | apply pw_below_drewN | apply below_drew1) | exact HB.out)⟩
  · rw [if_neg c2] at H
    have c2b0 : decide (512 < (l0.length : Int)) = false := decide_eq_false c2
    have c2b1 : decide (512 < l0.length) = false := decide_eq_false (by omega)
    clear c2
    replace H := Option.bind_eq_some_iff.mp H
    obtain ⟨⟨t110, t111⟩, A30, H⟩ := H
    replace H : ((hamming_odd.f t110).bind fun t112 => (if (t111 != t112) = true then (some (Go.bits .or .u16 (Go.bits .or .u16 t110 8192) 49152, 0)) else (some (Go.bits .or .u16 t110 49152, 0)))) = some (r1, r2) := H
    have A3 := Aside0.mk A30
    clear A30
    replace H := Option.bind_eq_some_iff.mp H
    obtain ⟨t112, A40, H⟩ := H
    replace H : (if (t111 != t112) = true then (some (Go.bits .or .u16 (Go.bits .or .u16 t110 8192) 49152, 0)) else (some (Go.bits .or .u16 t110 49152, 0))) = some (r1, r2) := H
    have A4 := Aside0.mk A40
    clear A40
    by_cases c5 : (t111 != t112) = true
    · rw [if_pos c5] at H
      have c5b0 : (t111 != t112) = true := c5
      (try (have c5b1 : decide (t111 = t112) = false := by simpa using c5))
      (try (have c5b2 : (t111 == t112) = false := by simpa using c5))
      (try (have c5b3 : ¬ (t111 = t112) := by simpa using c5))
      clear c5
      simp only [Option.some.injEq, Prod.mk.injEq] at H
      obtain ⟨rfl, rfl⟩ := H
      go_enter Try.func18, Try.ntmps18
      go_wp2_with (first | ((with_reducible refine gate_callee (f := 35) rfl ?_); refine goesL_ (some 11) rfl rfl Try.func35 (by kernel_rfl) rfl #[.slice A0 l0.length c0] rfl (by (try simp only [List.map_toArray, List.map_cons, List.map_nil]); first | done | rfl | (simp only [List.length_drop, List.length_take]; rfl)) ?_; (with_reducible refine (hamming_gather.calls k _ _ l0 t110 t111 _ ?side1 ?side2 A3.out).mono ?_); (case side1 => repeat (first | exact HR0.out | (with_reducible refine Kd.C_alloc ?_ _) | (with_reducible refine Kd.C_drewN ?_ _) | (with_reducible refine Kd.C_drew ?_))); (case side2 => exact HC0.out); rintro e w6 ⟨rfl, hb⟩; refine ⟨_, rfl, ?_⟩; have n0_ := Aside0.mk (below_step (by repeat (first | (with_reducible first | exact HB.out | apply below_alloc | apply pw_below_drewN | apply below_drew1) | exact HB.out)) hb); clear HB; have HB := n0_; clear n0_; (try clear hb); (try clear hb2); (try clear hk); (try clear hi)) | ((with_reducible refine gate_callee (f := 36) rfl ?_); refine goesL_ (some 16) rfl rfl Try.func36 (by kernel_rfl) rfl #[.int .u16 t110] rfl (by (try simp only [List.map_toArray, List.map_cons, List.map_nil]); first | done | rfl | (simp only [List.length_drop, List.length_take]; rfl)) ?_; (with_reducible refine (hamming_odd.calls t110 t112 _ A4.out).mono ?_); rintro e w' ⟨rfl, ⟨nd, rfl⟩⟩; refine ⟨_, rfl, ?_⟩))
      go_ret2
      exact ⟨by first | rfl | (simp [errW_none, errW_some] <;> rfl) | (simp [*, errW_none, errW_some] <;> rfl), by repeat (first | (with_reducible first | exact HB.out | apply below_alloc | apply pw_below_drewN | apply below_drew1) | exact HB.out)⟩
    · rw [if_neg c5] at H
      have c5b0 : (t111 != t112) = false := by simpa using c5
      (try (have c5b1 : decide (t111 = t112) = true := by simpa using c5))
      (try (have c5b2 : (t111 == t112) = true := by simpa using c5))
      clear c5
      simp only [Option.some.injEq, Prod.mk.injEq] at H
      obtain ⟨rfl, rfl⟩ := H
      go_enter Try.func18, Try.ntmps18
      go_wp2_with (first | ((with_reducible refine gate_callee (f := 35) rfl ?_); refine goesL_ (some 11) rfl rfl Try.func35 (by kernel_rfl) rfl #[.slice A0 l0.length c0] rfl (by (try simp only [List.map_toArray, List.map_cons, List.map_nil]); first | done | rfl | (simp only [List.length_drop, List.length_take]; rfl)) ?_; (with_reducible refine (hamming_gather.calls k _ _ l0 t110 t111 _ ?side1 ?side2 A3.out).mono ?_); (case side1 => repeat (first | exact HR0.out | (with_reducible refine Kd.C_alloc ?_ _) | (with_reducible refine Kd.C_drewN ?_ _) | (with_reducible refine Kd.C_drew ?_))); (case side2 => exact HC0.out); rintro e w7 ⟨rfl, hb⟩; refine ⟨_, rfl, ?_⟩; have n0_ := Aside0.mk (below_step (by repeat (first | (with_reducible first | exact HB.out | apply below_alloc | apply pw_below_drewN | apply below_drew1) | exact HB.out)) hb); clear HB; have HB := n0_; clear n0_; (try clear hb); (try clear hb2); (try clear hk); (try clear hi)) | ((with_reducible refine gate_callee (f := 36) rfl ?_); refine goesL_ (some 16) rfl rfl Try.func36 (by kernel_rfl) rfl #[.int .u16 t110] rfl (by (try simp only [List.map_toArray, List.map_cons, List.map_nil]); first | done | rfl | (simp only [List.length_drop, List.length_take]; rfl)) ?_; (with_reducible refine (hamming_odd.calls t110 t112 _ A4.out).mono ?_); rintro e w' ⟨rfl, ⟨nd, rfl⟩⟩; refine ⟨_, rfl, ?_⟩))
      go_ret2
      exact ⟨by first | rfl | (simp [errW_none, errW_some] <;> rfl) | (simp [*, errW_none, errW_some] <;> rfl), by repeat (first | (with_reducible first | exact HB.out | apply below_alloc | apply pw_below_drewN | apply below_drew1) | exact HB.out)⟩

/-! ### chunk_Encode: function 25 -/
def chunk_Encode.j0 : Nat → List Int → Bool → Option (List Int × Int)
  | 0, _, _ => none
  | k + 1, x0, x13 => if x13 = true then (some (([] : List Int), 2)) else ((hamming_Word.f k x0).bind fun bt113 => (if bt113.2 = 0 then ((some (([] : List Int) : List Int)).bind fun y115 => (if y115.length + x0.length < 140737488355328 then ((some (y115 ++ x0 : List Int)).bind fun y118 => ((some (([(bt113.1) % 256, (bt113.1 / 256) % 256] : List Int) : List Int)).bind fun y121 => (if y118.length + y121.length < 140737488355328 then (some ((y118 ++ y121), 0)) else (none)))) else (none))) else (some (([] : List Int), bt113.2))))
def chunk_Encode.f (k : Nat) (l0 : List Int) : Option (List Int × Int) := if (l0.length : Int) = 0 then (chunk_Encode.j0 k l0 true) else (chunk_Encode.j0 k l0 (decide ((l0.length : Int) > 512)))
theorem chunk_Encode.mono_l : ∀ k, (∀ y0 y1, LeO (chunk_Encode.j0 k y0 y1) (chunk_Encode.j0 (k + 1) y0 y1))
  | 0 => fun _ _ r h => by simp [chunk_Encode.j0] at h
  | k + 1 => by
    have ih0 := chunk_Encode.mono_l k
    · intro y0 y1
      unfold chunk_Encode.j0
      repeat' first
      | (with_reducible exact ih0 _ _)
      | (with_reducible exact hamming_Word.mono _ _)
      | (with_reducible exact LeO.refl _)
      | (with_reducible exact LeO.none _)
      | (with_reducible refine LeO.ite ?_ ?_)
      | (with_reducible refine LeO.bind ?_ (fun _ => ?_))
      | exact ih0 _ _
      | exact hamming_Word.mono _ _
      | exact LeO.none _
      | refine LeO.ite ?_ ?_
      | refine LeO.bind ?_ (fun _ => ?_)
theorem chunk_Encode.mono : ∀ a0 k, LeO (chunk_Encode.f k a0) (chunk_Encode.f (k + 1) a0) := by
  intro a0 k
  have ih0 := chunk_Encode.mono_l k
  unfold chunk_Encode.f
  repeat' first
      | (with_reducible exact ih0 _ _)
      | (with_reducible exact hamming_Word.mono _ _)
      | (with_reducible exact LeO.refl _)
      | (with_reducible exact LeO.none _)
      | (with_reducible refine LeO.ite ?_ ?_)
      | (with_reducible refine LeO.bind ?_ (fun _ => ?_))
      | exact ih0 _ _
      | exact hamming_Word.mono _ _
      | exact LeO.none _
      | refine LeO.ite ?_ ?_
      | refine LeO.bind ?_ (fun _ => ?_)
set_option maxHeartbeats 8000000 in
set_option maxRecDepth 100000 in
theorem chunk_Encode.calls (k : Nat) (A0 : Option Addr) (c0 : Nat) (l0 : List Int) (r1 : List Int) (r2 : Int) (w : World) (hr0 : Kd.C (Kd.int .u8) w A0 l0.length l0) (hc0 : l0.length ≤ c0) (h : chunk_Encode.f k l0 = some (r1, r2)) :
    Calls Try.prog 25 #[.slice A0 l0.length c0] w fun e w' => ∃ v0_ : Value, e = .returned (.tuple #[v0_, .int .i64 r2]) ∧ Kd.R (Kd.int .u8) 5 w' w.heap.size (fun _ => True) v0_ r1 ∧ Below w.heap.size w w' := by
  have HR0 := Aside0.mk hr0
  have HC0 := Aside0.mk hc0
  clear hr0 hc0
  have HB := Aside0.mk (Below.refl w.heap.size w)
  have H : (if (l0.length : Int) = 0 then (chunk_Encode.j0 k l0 true) else (chunk_Encode.j0 k l0 (decide ((l0.length : Int) > 512)))) = some (r1, r2) := h
  clear h
  have HC2 := Aside0.mk H
  clear H
  go_enter Try.func25, Try.ntmps25
  go_upto_region 1 with (fail)
  go_cut [13] (fun v13 wc => ∃ (kq : Nat) (x13_1 : Bool), v13 = .bool x13_1 ∧ Aside0 (chunk_Encode.j0 kq l0 x13_1 = some (r1, r2)) ∧ Aside0 (kq ≤ k) ∧ Aside0 (Below w.heap.size w wc))
  case first =>
    have H := HC2.out
    clear HC2
    by_cases c3 : (l0.length : Int) = 0
    · rw [if_pos c3] at H
      have c3b0 : ((l0.length : Int) == 0) = true := beq_iff_eq.mpr c3
      have c3b1 : ((l0.length : Int) != 0) = false := bne_eq_false_iff_eq.mpr c3
      clear c3
      (first | rw [c3b0] | (simp only [i64_w, i32_w]; rw [c3b0]) | skip)
      have H' := Aside0.mk H
      clear H
      go_wp2
      go_meet
      case rel => exact ⟨_, (true), (by first | rfl | (simp; done) | (simp [*]; done)), H', ⟨by first | omega | exact Nat.le_refl _⟩, ⟨by repeat (first | (with_reducible first | exact HB.out | apply below_alloc | apply pw_below_drewN | apply below_drew1) | exact HB.out)⟩⟩
    · rw [if_neg c3] at H
      have c3b0 : ((l0.length : Int) == 0) = false := beq_eq_false_iff_ne.mpr c3
      have c3b1 : ((l0.length : Int) != 0) = true := bne_iff_ne.mpr c3
      have c3b2 : ¬ (l0 = []) := fun h_ => c3 (by rw [h_]; rfl)
      (first | rw [c3b0] | (simp only [i64_w, i32_w]; rw [c3b0]) | skip)
      have H' := Aside0.mk H
      clear H
      go_wp2
      go_meet
      case rel => exact ⟨_, (decide ((l0.length : Int) > 512)), (by first | rfl | (simp; done) | (simp [*]; done)), H', ⟨by first | omega | exact Nat.le_refl _⟩, ⟨by repeat (first | (with_reducible first | exact HB.out | apply below_alloc | apply pw_below_drewN | apply below_drew1) | exact HB.out)⟩⟩
  case rest =>
    clear HC2
    try clear c2
    try clear p2
    try clear c3
    try clear c3b0
    try clear c3b1
    try clear c3b2
    obtain ⟨kq, x13_1, rfl, HA, HJ1, HB⟩ := hcut
    cases kq with
    | zero => exact absurd HA.out (by simp [chunk_Encode.j0])
    | succ kj1 =>
      have H := HA.out
      clear HA
      simp only [chunk_Encode.j0] at H
      by_cases c4 : x13_1 = true
      · subst c4
        have H1 : (some (([] : List Int), 2)) = some (r1, r2) := by rw [if_pos rfl] at H; exact H
        clear H
        have H := H1
        clear H1
        simp only [Option.some.injEq, Prod.mk.injEq] at H
        obtain ⟨rfl, rfl⟩ := H
        go_wp2
        go_ret2
        exact ⟨_, by first | rfl | (simp [errW_none, errW_some] <;> rfl) | (simp [*, errW_none, errW_some] <;> rfl), by first | exact Kd.R_nil _ _ _ _ _ | exact Kd.N_nil _ _ _ _ _ | exact Kd.V_nil _ _ _ _ _ | exact Kd.Q_nil _ _ _ _ _ | exact Kd.S_nil _ _ _ _ _, by repeat (first | (with_reducible first | exact HB.out | apply below_alloc | apply pw_below_drewN | apply below_drew1) | exact HB.out)⟩
      · replace c4 := Bool.eq_false_iff.mpr c4
        subst c4
        have H1 : ((hamming_Word.f kj1 l0).bind fun bt113 => (if bt113.2 = 0 then ((some (([] : List Int) : List Int)).bind fun y115 => (if y115.length + l0.length < 140737488355328 then ((some (y115 ++ l0 : List Int)).bind fun y118 => ((some (([(bt113.1) % 256, (bt113.1 / 256) % 256] : List Int) : List Int)).bind fun y121 => (if y118.length + y121.length < 140737488355328 then (some ((y118 ++ y121), 0)) else (none)))) else (none))) else (some (([] : List Int), bt113.2)))) = some (r1, r2) := by rw [if_neg (show ¬ (false = true) by decide)] at H; exact H
        clear H
        have H := H1
        clear H1
        replace H := Option.bind_eq_some_iff.mp H
        obtain ⟨⟨t113, t114⟩, A50, H⟩ := H
        replace H : (if t114 = 0 then ((some (([] : List Int) : List Int)).bind fun y115 => (if y115.length + l0.length < 140737488355328 then ((some (y115 ++ l0 : List Int)).bind fun y118 => ((some (([(t113) % 256, (t113 / 256) % 256] : List Int) : List Int)).bind fun y121 => (if y118.length + y121.length < 140737488355328 then (some ((y118 ++ y121), 0)) else (none)))) else (none))) else (some (([] : List Int), t114))) = some (r1, r2) := H
        have A5 := Aside0.mk A50
        clear A50
        by_cases c6 : t114 = 0
        · rw [if_pos c6] at H
          have c6b0 : (t114 == 0) = true := beq_iff_eq.mpr c6
          have c6b1 : (t114 != 0) = false := bne_eq_false_iff_eq.mpr c6
          clear c6
          obtain ⟨y115, hy115⟩ : ∃ y_ : List Int, y_ = (([] : List Int)) := ⟨_, rfl⟩
          replace H : (if y115.length + l0.length < 140737488355328 then ((some (y115 ++ l0 : List Int)).bind fun y118 => ((some (([(t113) % 256, (t113 / 256) % 256] : List Int) : List Int)).bind fun y121 => (if y118.length + y121.length < 140737488355328 then (some ((y118 ++ y121), 0)) else (none)))) else (none)) = some (r1, r2) := by first | (rw [hy115]; with_reducible exact H) | (have H2_ := (Option.bind_some _ _).symm.trans H; rw [hy115]; with_reducible exact H2_) | (have H2_ := (Option.bind_some _ _).symm.trans H; with_reducible exact H2_) | with_reducible exact H | (rw [hy115]; exact H) | exact H
          have Ny115 := Aside0.mk hy115
          clear hy115
          by_cases c7 : y115.length + l0.length < 140737488355328
          · rw [if_pos c7] at H
            have LMc7 := Aside0.mk c7
            clear c7
            obtain ⟨y118, hy118⟩ : ∃ y_ : List Int, y_ = (y115 ++ l0) := ⟨_, rfl⟩
            replace H : ((some (([(t113) % 256, (t113 / 256) % 256] : List Int) : List Int)).bind fun y121 => (if y118.length + y121.length < 140737488355328 then (some ((y118 ++ y121), 0)) else (none))) = some (r1, r2) := by first | (rw [hy118]; with_reducible exact H) | (have H2_ := (Option.bind_some _ _).symm.trans H; rw [hy118]; with_reducible exact H2_) | (have H2_ := (Option.bind_some _ _).symm.trans H; with_reducible exact H2_) | with_reducible exact H | (rw [hy118]; exact H) | exact H
            have Ny118 := Aside0.mk hy118
            clear hy118
            obtain ⟨y121, hy121⟩ : ∃ y_ : List Int, y_ = (([(t113) % 256, (t113 / 256) % 256] : List Int)) := ⟨_, rfl⟩
            replace H : (if y118.length + y121.length < 140737488355328 then (some ((y118 ++ y121), 0)) else (none)) = some (r1, r2) := by first | (rw [hy121]; with_reducible exact H) | (have H2_ := (Option.bind_some _ _).symm.trans H; rw [hy121]; with_reducible exact H2_) | (have H2_ := (Option.bind_some _ _).symm.trans H; with_reducible exact H2_) | with_reducible exact H | (rw [hy121]; exact H) | exact H
            have Ny121 := Aside0.mk hy121
            clear hy121
            by_cases c8 : y118.length + y121.length < 140737488355328
            · rw [if_pos c8] at H
              have LMc8 := Aside0.mk c8
              clear c8
              obtain ⟨y124, hy124⟩ : ∃ y_ : List Int, y_ = (y118 ++ y121) := ⟨_, rfl⟩
              replace H : (some (y124, 0)) = some (r1, r2) := by first | (rw [hy124]; with_reducible exact H) | (have H2_ := (Option.bind_some _ _).symm.trans H; rw [hy124]; with_reducible exact H2_) | (have H2_ := (Option.bind_some _ _).symm.trans H; with_reducible exact H2_) | with_reducible exact H | (rw [hy124]; exact H) | exact H
              have Ny124 := Aside0.mk hy124
              clear hy124
              simp only [Option.some.injEq, Prod.mk.injEq] at H
              obtain ⟨rfl, rfl⟩ := H
              go_wp2_with (first | ((with_reducible refine gate_callee (f := 18) rfl ?_); refine goesL_ (some 16) rfl rfl Try.func18 (by kernel_rfl) rfl #[.slice A0 l0.length c0] rfl (by (try simp only [List.map_toArray, List.map_cons, List.map_nil]); first | done | rfl | (simp only [List.length_drop, List.length_take]; rfl)) ?_; (with_reducible refine (hamming_Word.calls kj1 _ _ l0 t113 t114 _ ?side1 ?side2 A5.out).mono ?_); (case side1 => repeat (first | exact (Kd.C_below HR0.out HB.out) | (with_reducible refine Kd.C_alloc ?_ _) | (with_reducible refine Kd.C_drewN ?_ _) | (with_reducible refine Kd.C_drew ?_))); (case side2 => exact HC0.out); rintro e w9 ⟨rfl, hb⟩; refine ⟨_, rfl, ?_⟩; have n0_ := Aside0.mk (below_step (by repeat (first | (with_reducible first | exact HB.out | apply below_alloc | apply pw_below_drewN | apply below_drew1) | exact HB.out)) hb); clear HB; have HB := n0_; clear n0_; (try clear hb); (try clear hb2); (try clear hk); (try clear hi)) | ((with_reducible refine gate_dst (N := 22) rfl ?_); (try (refine gate_guard (by rfl) ?_; dsimp only)); refine Kd.R_lit (Kd.int .u8) _ 5 ?hg (N := 22) ?hd (xs := ([] : List Int)) (inner := []) (ok := fun _ => True) (okp := fun _ => True) ?hr ?hp (fun _ hk => hk) trivial (Below.refl _ _) (Nat.le_refl _) (by simp) ?_; (case hd => rfl); (case hg => rfl); (case hr => first | (go_simp; done) | (go_simp; rfl)); (case hp => exact (Reps.none _ _)); intro v116 w10 ho11 hb hg_ hnew_; clear hg_ hnew_; (first | rw [← Ny115.out] at ho11 | (simp only [Int.reduceToNat] at ho11; rw [← Ny115.out] at ho11)); have n0_ := Aside0.mk (Kd.R_lower ho11 (below_size (by repeat (first | (with_reducible first | exact HB.out | apply below_alloc | apply pw_below_drewN | apply below_drew1) | exact HB.out)))); have n1_ := Aside0.mk (below_step (by repeat (first | (with_reducible first | exact HB.out | apply below_alloc | apply pw_below_drewN | apply below_drew1) | exact HB.out)) hb); clear HB; have HO117 := n0_; have HB := n1_; clear n0_ n1_; clear hb ho11) | ((with_reducible refine gate_builtin (b := .append) (xs := #[.tmp 22, .tmp 23]) rfl ?_); (try (refine gate_guard (by rfl) ?_; dsimp only)); at_builtin; refine Kd.R_append_rows (Kd.int .u8) (w0 := w) w.heap.size rfl (.tmp 22) (.tmp 23) 30 5 (.int .u8 0) 1 rfl Try.underlying30 info5 rfl (by decide) (by omega) v116 y115 l0 _ _ _ (fun _ => True) (fun _ => False) rfl rfl ?aO ?aR (fun _ _ h => h) (fun _ h => h.elim) ?aF ?aB ?aS ?aL ?_; (case aR => repeat (first | exact (Kd.C_below HR0.out HB.out) | (with_reducible refine Kd.C_alloc ?_ _) | (with_reducible refine Kd.C_drewN ?_ _) | (with_reducible refine Kd.C_drew ?_))); (case aB => exact (by repeat (first | (with_reducible first | exact HB.out | apply below_alloc | apply pw_below_drewN | apply below_drew1) | exact HB.out))); (case aF => exact (fun _ _ => trivial)); (case aO => exact (by (with_reducible repeat (first | apply Kd.R_alloc | apply Kd.R_drewN | apply Kd.R_drew)); exact HO117.out)); (case aS => exact (below_size (by repeat (first | (with_reducible first | exact HB.out | apply below_alloc | apply pw_below_drewN | apply below_drew1) | exact HB.out)))); (case aL => have := LMc7.out; omega); intro v119 w12 ho hb hg hat; rw [← Ny118.out] at ho; have n0_ := Aside0.mk (hb); have n1_ := Aside0.mk (ho); clear HB; clear HO117; have HB := n0_; have HO120 := n1_; clear n0_ n1_; clear ho hb hg hat) | ((with_reducible refine gate_dst (N := 30) rfl ?_); (try (refine gate_guard (by rfl) ?_; dsimp only)); refine Kd.R_lit (Kd.int .u8) _ 5 ?hg (N := 30) ?hd (xs := ([(t113) % 256, (t113 / 256) % 256] : List Int)) (inner := [.int .u8 ((t113) % 256), .int .u8 ((t113 / 256) % 256)]) (ok := fun _ => True) (okp := fun _ => True) ?hr ?hp (fun _ hk => hk) trivial (Below.refl _ _) (Nat.le_refl _) (by simp) ?_; (case hd => rfl); (case hg => rfl); (case hr => first | (go_simp; done) | (go_simp; rfl)); (case hp => exact (Reps.one (show Kd.M (Kd.int .u8) _ _ _ ((t113) % 256) [.int .u8 ((t113) % 256)] from rfl) (Reps.one (show Kd.M (Kd.int .u8) _ _ _ ((t113 / 256) % 256) [.int .u8 ((t113 / 256) % 256)] from rfl) (Reps.none _ _)))); intro v122 w13 ho14 hb hg_ hnew_; clear hg_ hnew_; (first | rw [← Ny121.out] at ho14 | (simp only [Int.reduceToNat] at ho14; rw [← Ny121.out] at ho14)); have n0_ := Aside0.mk (Kd.R_elder' (by (with_reducible repeat (first | apply Kd.R_alloc | apply Kd.R_drewN | apply Kd.R_drew)); exact HO120.out) (Kd.R_base ho14) hb); have n1_ := Aside0.mk (Kd.R_lower (Kd.R_new' ho14 (Kd.R_lt (by (with_reducible repeat (first | apply Kd.R_alloc | apply Kd.R_drewN | apply Kd.R_drew)); exact HO120.out))) (below_size (by repeat (first | (with_reducible first | exact HB.out | apply below_alloc | apply pw_below_drewN | apply below_drew1) | exact HB.out)))); have n2_ := Aside0.mk (below_step (by repeat (first | (with_reducible first | exact HB.out | apply below_alloc | apply pw_below_drewN | apply below_drew1) | exact HB.out)) hb); clear HO120; clear HB; have HO120 := n0_; have HO123 := n1_; have HB := n2_; clear n0_ n1_ n2_; clear hb ho14; obtain ⟨Ao16, co16, eo16⟩ := Kd.R_slice HO123.out; subst eo16) | ((with_reducible refine gate_builtin (b := .append) (xs := #[.tmp 24, .tmp 30]) rfl ?_); (try (refine gate_guard (by rfl) ?_; dsimp only)); at_builtin; refine Kd.R_append_rows (Kd.int .u8) (w0 := w) w.heap.size rfl (.tmp 24) (.tmp 30) 30 5 (.int .u8 0) 1 rfl Try.underlying30 info5 rfl (by decide) (by omega) v119 y118 y121 _ _ _ (fun k_ => some k_ ≠ (.slice Ao16 y121.length co16 : Value).ownBlock) (fun _ => False) rfl rfl ?aO ?aR (fun _ _ h => h) (fun _ h => h.elim) ?aF ?aB ?aS ?aL ?_; (case aR => repeat (first | exact (Kd.R_reads' HO123.out).2.2 | (with_reducible refine Kd.C_alloc ?_ _) | (with_reducible refine Kd.C_drewN ?_ _) | (with_reducible refine Kd.C_drew ?_))); (case aB => exact (by repeat (first | (with_reducible first | exact HB.out | apply below_alloc | apply pw_below_drewN | apply below_drew1) | exact HB.out))); (case aF => exact (fun k_ hk => Kd.fresh' (Kd.R_lt (by (with_reducible repeat (first | apply Kd.R_alloc | apply Kd.R_drewN | apply Kd.R_drew)); exact HO123.out)) k_ hk)); (case aO => exact (by (with_reducible repeat (first | apply Kd.R_alloc | apply Kd.R_drewN | apply Kd.R_drew)); exact Kd.R_mono HO120.out (fun _ hk => hk.2))); (case aS => exact (below_size (by repeat (first | (with_reducible first | exact HB.out | apply below_alloc | apply pw_below_drewN | apply below_drew1) | exact HB.out)))); (case aL => have := LMc8.out; omega); intro v125 w15 ho hb hg hat; rw [← Ny124.out] at ho; have n0_ := Aside0.mk (Kd.R_after (ok := (fun _ => True)) (by (with_reducible repeat (first | apply Kd.R_alloc | apply Kd.R_drewN | apply Kd.R_drew)); exact HO123.out) hg hat); have n1_ := Aside0.mk (hb); have n2_ := Aside0.mk (ho); clear HO123; clear HB; clear HO120; have HO123 := n0_; have HB := n1_; have HO126 := n2_; clear n0_ n1_ n2_; clear ho hb hg hat))
              go_ret2
              exact ⟨_, by first | rfl | (simp [errW_none, errW_some] <;> rfl) | (simp [*, errW_none, errW_some] <;> rfl), by (with_reducible repeat (first | apply Kd.R_alloc | apply Kd.R_drewN | apply Kd.R_drew)); exact Kd.R_mono HO126.out (fun _ hk => trivial), by repeat (first | (with_reducible first | exact HB.out | apply below_alloc | apply pw_below_drewN | apply below_drew1) | exact HB.out)⟩
            · rw [if_neg c8] at H
              exact absurd H (by simp)
          · rw [if_neg c7] at H
            exact absurd H (by simp)
        · rw [if_neg c6] at H
          have c6b0 : (t114 == 0) = false := beq_eq_false_iff_ne.mpr c6
          have c6b1 : (t114 != 0) = true := bne_iff_ne.mpr c6
          simp only [Option.some.injEq, Prod.mk.injEq] at H
          obtain ⟨rfl, rfl⟩ := H
          go_wp2_with (first | ((with_reducible refine gate_callee (f := 18) rfl ?_); refine goesL_ (some 16) rfl rfl Try.func18 (by kernel_rfl) rfl #[.slice A0 l0.length c0] rfl (by (try simp only [List.map_toArray, List.map_cons, List.map_nil]); first | done | rfl | (simp only [List.length_drop, List.length_take]; rfl)) ?_; (with_reducible refine (hamming_Word.calls kj1 _ _ l0 t113 t114 _ ?side1 ?side2 A5.out).mono ?_); (case side1 => repeat (first | exact (Kd.C_below HR0.out HB.out) | (with_reducible refine Kd.C_alloc ?_ _) | (with_reducible refine Kd.C_drewN ?_ _) | (with_reducible refine Kd.C_drew ?_))); (case side2 => exact HC0.out); rintro e w17 ⟨rfl, hb⟩; refine ⟨_, rfl, ?_⟩; have n0_ := Aside0.mk (below_step (by repeat (first | (with_reducible first | exact HB.out | apply below_alloc | apply pw_below_drewN | apply below_drew1) | exact HB.out)) hb); clear HB; have HB := n0_; clear n0_; (try clear hb); (try clear hb2); (try clear hk); (try clear hi)))
          go_ret2
          exact ⟨_, by first | rfl | (simp [errW_none, errW_some] <;> rfl) | (simp [*, errW_none, errW_some] <;> rfl), by first | exact Kd.R_nil _ _ _ _ _ | exact Kd.N_nil _ _ _ _ _ | exact Kd.V_nil _ _ _ _ _ | exact Kd.Q_nil _ _ _ _ _ | exact Kd.S_nil _ _ _ _ _, by repeat (first | (with_reducible first | exact HB.out | apply below_alloc | apply pw_below_drewN | apply below_drew1) | exact HB.out)⟩

/-! ### incunableref01_Same: function 26 -/
def incunableref01_Same.l0 : Nat → List Int → List Int → Int → Option (Bool)
  | 0, _, _, _ => none
  | k + 1, x0, x1, x5 => if x5 < (x0.length : Int) then (if 0 ≤ x5 then (if x5 < (x1.length : Int) then (if (rd x0 x5) = (rd x1 x5) then (incunableref01_Same.l0 k x0 x1 (wrap64 (x5 + 1))) else (some false)) else (none)) else (none)) else (some true)
def incunableref01_Same.f (k : Nat) (l0 : List Int) (l1 : List Int) : Option (Bool) := if (l0.length : Int) = (l1.length : Int) then (incunableref01_Same.l0 k l0 l1 0) else (some false)
theorem incunableref01_Same.mono_l : ∀ k, (∀ y0 y1 y2, LeO (incunableref01_Same.l0 k y0 y1 y2) (incunableref01_Same.l0 (k + 1) y0 y1 y2))
  | 0 => fun _ _ _ r h => by simp [incunableref01_Same.l0] at h
  | k + 1 => by
    have ih0 := incunableref01_Same.mono_l k
    · intro y0 y1 y2
      unfold incunableref01_Same.l0
      repeat' first
      | (with_reducible exact ih0 _ _ _)
      | (with_reducible exact LeO.refl _)
      | (with_reducible exact LeO.none _)
      | (with_reducible refine LeO.ite ?_ ?_)
      | (with_reducible refine LeO.bind ?_ (fun _ => ?_))
      | exact ih0 _ _ _
      | exact LeO.none _
      | refine LeO.ite ?_ ?_
      | refine LeO.bind ?_ (fun _ => ?_)
theorem incunableref01_Same.mono : ∀ a0 a1 k, LeO (incunableref01_Same.f k a0 a1) (incunableref01_Same.f (k + 1) a0 a1) := by
  intro a0 a1 k
  have ih0 := incunableref01_Same.mono_l k
  unfold incunableref01_Same.f
  repeat' first
      | (with_reducible exact ih0 _ _ _)
      | (with_reducible exact LeO.refl _)
      | (with_reducible exact LeO.none _)
      | (with_reducible refine LeO.ite ?_ ?_)
      | (with_reducible refine LeO.bind ?_ (fun _ => ?_))
      | exact ih0 _ _ _
      | exact LeO.none _
      | refine LeO.ite ?_ ?_
      | refine LeO.bind ?_ (fun _ => ?_)
set_option maxHeartbeats 8000000 in
set_option maxRecDepth 100000 in
theorem incunableref01_Same.calls (k : Nat) (A0 : Option Addr) (c0 : Nat) (l0 : List Int) (A1 : Option Addr) (c1 : Nat) (l1 : List Int) (r : Bool) (w : World) (hr0 : Kd.C (Kd.int .u8) w A0 l0.length l0) (hc0 : l0.length ≤ c0) (hr1 : Kd.C (Kd.int .u8) w A1 l1.length l1) (hc1 : l1.length ≤ c1) (h : incunableref01_Same.f k l0 l1 = some r) :
    Calls Try.prog 26 #[.slice A0 l0.length c0, .slice A1 l1.length c1] w fun e w' => e = .returned (.bool r) ∧ Drawn0 w w' := by
  have HR0 := Aside0.mk hr0
  have HC0 := Aside0.mk hc0
  clear hr0 hc0
  have HR1 := Aside0.mk hr1
  have HC1 := Aside0.mk hc1
  clear hr1 hc1
  have H : (if (l0.length : Int) = (l1.length : Int) then (incunableref01_Same.l0 k l0 l1 0) else (some false)) = some r := h
  clear h
  by_cases c3 : (l0.length : Int) = (l1.length : Int)
  · rw [if_pos c3] at H
    have c3b0 : ((l0.length : Int) == (l1.length : Int)) = true := beq_iff_eq.mpr c3
    have c3b1 : ((l0.length : Int) != (l1.length : Int)) = false := bne_eq_false_iff_eq.mpr c3
    have c3b2 : (l0.length == l1.length) = true := by first | simpa using c3 | (simp at c3 ⊢; omega)
    clear c3
    have H' := Aside0.mk H
    clear H
    go_enter Try.func26, Try.ntmps26
    go_wp2
    repeat (go_quiet (fail); try go_wp2)
    go_loopg [5] k (fun kq v5 w' => ∃ (x5_1 : Int), v5 = .int .i64 x5_1 ∧ Aside0 (incunableref01_Same.l0 kq l0 l1 x5_1 = some r) ∧ Aside0 (kq ≤ k) ∧ Drawn0 w w')
    case atStart => exact ⟨(0), (by first | rfl | (simp; done) | (simp [*]; done)), H', ⟨Nat.le_refl _⟩, by repeat (first | exact Drawn0.refl _ | apply Drawn0.step)⟩
    case round =>
      clear H'
      try clear c1
      try clear c2
      try clear p2
      try clear c3
      try clear c3b0
      try clear c3b1
      try clear c3b2
      obtain ⟨x5_1, rfl, HA, HK1, ⟨m1, rfl⟩⟩ := hrel
      cases gk with
      | zero => exact absurd HA.out (by simp [incunableref01_Same.l0])
      | succ k1 =>
        have H := HA.out
        clear HA
        simp only [incunableref01_Same.l0] at H
        by_cases c4 : x5_1 < (l0.length : Int)
        · rw [if_pos c4] at H
          have c4b0 : decide (x5_1 < (l0.length : Int)) = true := decide_eq_true c4
          clear c4
          by_cases c5 : 0 ≤ x5_1
          · rw [if_pos c5] at H
            have c5b0 : decide (0 ≤ x5_1) = true := decide_eq_true c5
            clear c5
            by_cases c6 : x5_1 < (l1.length : Int)
            · rw [if_pos c6] at H
              have c6b0 : decide (x5_1 < (l1.length : Int)) = true := decide_eq_true c6
              clear c6
              by_cases c7 : (rd l0 x5_1) = (rd l1 x5_1)
              · rw [if_pos c7] at H
                have c7b0 : ((rd l0 x5_1) == (rd l1 x5_1)) = true := beq_iff_eq.mpr c7
                have c7b1 : ((rd l0 x5_1) != (rd l1 x5_1)) = false := bne_eq_false_iff_eq.mpr c7
                clear c7
                have H' := Aside0.mk H
                clear H
                have p127 : 0 ≤ (x5_1 : Int) := of_decide_eq_true (by first | (with_reducible assumption) | assumption)
                have q127 : x5_1 < (l0.length : Int) := of_decide_eq_true (by first | (with_reducible assumption) | assumption)
                obtain ⟨ad127, e127, hx127_0⟩ := Kd.at_int HR0.out x5_1 p127 q127
                cases e127
                replace p127 := eq_true p127
                replace q127 := eq_true q127
                have p128 : 0 ≤ (x5_1 : Int) := of_decide_eq_true (by first | (with_reducible assumption) | assumption)
                have q128 : x5_1 < (l1.length : Int) := of_decide_eq_true (by first | (with_reducible assumption) | assumption)
                obtain ⟨ad128, e128, hx128_0⟩ := Kd.at_int HR1.out x5_1 p128 q128
                cases e128
                replace p128 := eq_true p128
                replace q128 := eq_true q128
                go_wp2
                repeat (go_quiet (fail); try go_wp2)
                go_roundg k1
                case measure => have := HK1.out; omega
                case rel => exact ⟨(wrap64 (x5_1 + 1)), (by first | rfl | (simp; done) | (simp [*]; done)), H', ⟨by have := HK1.out; omega⟩, by repeat (first | exact Drawn0.refl _ | apply Drawn0.step)⟩
              · rw [if_neg c7] at H
                have c7b0 : ((rd l0 x5_1) == (rd l1 x5_1)) = false := beq_eq_false_iff_ne.mpr c7
                have c7b1 : ((rd l0 x5_1) != (rd l1 x5_1)) = true := bne_iff_ne.mpr c7
                obtain rfl := Option.some.inj H
                have p127 : 0 ≤ (x5_1 : Int) := of_decide_eq_true (by first | (with_reducible assumption) | assumption)
                have q127 : x5_1 < (l0.length : Int) := of_decide_eq_true (by first | (with_reducible assumption) | assumption)
                obtain ⟨ad127, e127, hx127_0⟩ := Kd.at_int HR0.out x5_1 p127 q127
                cases e127
                replace p127 := eq_true p127
                replace q127 := eq_true q127
                have p128 : 0 ≤ (x5_1 : Int) := of_decide_eq_true (by first | (with_reducible assumption) | assumption)
                have q128 : x5_1 < (l1.length : Int) := of_decide_eq_true (by first | (with_reducible assumption) | assumption)
                obtain ⟨ad128, e128, hx128_0⟩ := Kd.at_int HR1.out x5_1 p128 q128
                cases e128
                replace p128 := eq_true p128
                replace q128 := eq_true q128
                go_wp2
                repeat (go_quiet (fail); try go_wp2)
                go_ret
                exact ⟨by first | rfl | (simp; done) | (simp [*]; done), by repeat (first | exact Drawn0.refl _ | apply Drawn0.step)⟩
            · rw [if_neg c6] at H
              exact absurd H (by simp)
          · rw [if_neg c5] at H
            exact absurd H (by simp)
        · rw [if_neg c4] at H
          have c4b0 : decide (x5_1 < (l0.length : Int)) = false := decide_eq_false c4
          clear c4
          obtain rfl := Option.some.inj H
          go_wp2
          repeat (go_quiet (fail); try go_wp2)
          go_ret
          exact ⟨by first | rfl | (simp; done) | (simp [*]; done), by repeat (first | exact Drawn0.refl _ | apply Drawn0.step)⟩
  · rw [if_neg c3] at H
    have c3b0 : ((l0.length : Int) == (l1.length : Int)) = false := beq_eq_false_iff_ne.mpr c3
    have c3b1 : ((l0.length : Int) != (l1.length : Int)) = true := bne_iff_ne.mpr c3
    have c3b2 : (l0.length == l1.length) = false := by first | simpa using c3 | (simp at c3 ⊢; omega)
    obtain rfl := Option.some.inj H
    go_enter Try.func26, Try.ntmps26
    go_wp2
    repeat (go_quiet (fail); try go_wp2)
    go_ret
    exact ⟨by first | rfl | (simp; done) | (simp [*]; done), by repeat (first | exact Drawn0.refl _ | apply Drawn0.step)⟩

end Go.Proofs.Ytalejedajkhkjaa.QChunkBack
