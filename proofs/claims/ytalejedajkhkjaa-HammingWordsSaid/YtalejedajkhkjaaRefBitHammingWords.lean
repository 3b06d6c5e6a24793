/-
  What the document's bits come to: a bit, and the list of all.
-/
import Derived.Test.YtalejedajkhkjaaNatKit
import Derived.Test.YtalejedajkhkjaaQHammingWordsx
namespace Go.Proofs.Ytalejedajkhkjaa.PureHammingWords
open Go.RowKit Go.Proofs.Ytalejedajkhkjaa.QHammingWords Go.Proofs.YtalejedajkhkjaaW.PrintWords Go.Proofs.YtalejedajkhkjaaW.PrintLast Go.Proofs.YtalejedajkhkjaaW.PrintMore Go.Proofs.Ytalejedajkhkjaa.EvKit Go.Proofs.Ytalejedajkhkjaa.BitsKit Go.Proofs.Ytalejedajkhkjaa.CrcMath Go.Proofs.Ytalejedajkhkjaa.NatKit

theorem bit_l0 {i : Int} (h0 : 0 ≤ i) (d : Nat) : ∀ (n j : Nat), (j : Int) + d = i % 8 → n < 256 → Ev (fun k => incunableref01_Bit.l0 k i (n : Int) (j : Int)) ((n / 2 ^ d % 2 : Nat) : Int) := by
  induction d with
  | zero =>
    intro n j hj hn
    refine Ev.step (fun k => incunableref01_Bit.l0.eq_2 ..) ?_
    rw [Int.tmod_eq_emod_of_nonneg h0]
    refine Ev.neg (by omega) (Ev.ret ?_)
    rw [Int.tmod_eq_emod_of_nonneg (Int.natCast_nonneg _), Nat.pow_zero, Nat.div_one]
    omega
  | succ d ih =>
    intro n j hj hn
    refine Ev.step (fun k => incunableref01_Bit.l0.eq_2 ..) ?_
    rw [Int.tmod_eq_emod_of_nonneg h0]
    refine Ev.pos (by omega) ?_
    rw [Int.tdiv_eq_ediv_of_nonneg (Int.natCast_nonneg _), w64_id (by omega) (by omega), w64_succ (by omega), show (n : Int) / 2 = ((n / 2 : Nat) : Int) from by omega]
    refine Ev.eq (ih (n / 2) (j + 1) (by omega) (by omega)) ?_
    rw [Nat.div_div_eq_div_mul, Nat.pow_succ, Nat.mul_comm (2 ^ d)]
def bitVal (l : List Int) (i : Int) : Int := if 0 ≤ i ∧ i / 8 < (l.length : Int) then ((bitAt (nats l) i.toNat : Nat) : Int) else -1
theorem bit_ev {l : List Int} (hl : ∀ x ∈ l, 0 ≤ x ∧ x < 256) {i : Int} (hi : i ≤ 9223372036854775807) : Ev (fun k => incunableref01_Bit.f k l i) (bitVal l i) := by
  refine Ev.congr (fun k => by rw [incunableref01_Bit.f]) ?_
  unfold bitVal
  refine Ev.ite (fun h => ?_) (fun h => ?_)
  · refine Ev.step (fun k => incunableref01_Bit.j0.eq_2 ..) ?_
    refine Ev.pos rfl (Ev.ret ?_)
    rw [if_neg (by omega)]
  · have h0 : 0 ≤ i := by omega
    have hw : wrap64 (Int.tdiv i 8) = i / 8 := by rw [Int.tdiv_eq_ediv_of_nonneg h0]; exact w64_id (by omega) (by omega)
    rw [hw]
    refine Ev.step (fun k => incunableref01_Bit.j0.eq_2 ..) ?_
    rw [hw]
    clear hw
    by_cases hin : i / 8 ≥ (l.length : Int)
    · refine Ev.pos (decide_eq_true hin) (Ev.ret ?_)
      rw [if_neg (by omega)]
    · refine Ev.neg (by rw [decide_eq_false hin]; decide) ?_
      refine Ev.pos (by omega) ?_
      refine Ev.pos (by omega) ?_
      rw [if_pos (by omega)]
      have hr := rd_nats (l := l) (fun x hx => (hl x hx).1) (i / 8).toNat
      have hb := hl _ (rd_mem (l := l) (i := i / 8) (by omega) (by omega))
      rw [show (((i / 8).toNat : Nat) : Int) = i / 8 from by omega] at hr
      rw [hr] at hb ⊢
      have hb2 : (nats l).getD (i / 8).toNat 0 < 256 := by omega
      rw [w64_id (by omega) (by omega)]
      refine Ev.eq (bit_l0 h0 (i.toNat % 8) _ 0 (by omega) hb2) ?_
      unfold bitAt
      rw [show (i / 8).toNat = i.toNat / 8 from by omega]
theorem list_l0 {l : List Int} (hl : ∀ x ∈ l, 0 ≤ x ∧ x < 256) (hn : l.length < 1000000) (d : Nat) : ∀ (i : Nat) (out : List Int), i + d = 8 * l.length → out = ints ((List.range i).map (bitAt (nats l))) →
    Ev (fun k => incunableref01_List.l0 k l out (i : Int)) (ints (bitList (nats l))) := by
  have hw : wrap64 (8 * (l.length : Int)) = 8 * (l.length : Int) := w64_id (by omega) (by omega)
  induction d with
  | zero =>
    intro i out hi ho
    refine Ev.step (fun k => incunableref01_List.l0.eq_2 ..) ?_
    rw [hw]
    refine Ev.neg (by clear hw; omega) (Ev.ret ?_)
    rw [ho]
    unfold bitList
    rw [nats_length, show i = 8 * l.length by clear hw; omega]
  | succ d ih =>
    intro i out hi ho
    refine Ev.step (fun k => incunableref01_List.l0.eq_2 ..) ?_
    rw [hw]
    refine Ev.pos (by clear hw; omega) ?_
    refine Ev.bind (bit_ev hl (by clear hw; omega)) ?_
    have hlen : out.length = i := by rw [ho]; simp [ints]
    have hlim : out.length < 17592186044416 := by clear hw; omega
    refine Ev.pos hlim ?_
    rw [w64_succ (by clear hw; omega)]
    refine ih (i + 1) _ (by clear hw; omega) ?_
    rw [ho, List.range_succ, List.map_append]
    unfold ints
    rw [List.map_append]
    congr 1
    unfold bitVal
    rw [if_pos (by clear hw; omega), Int.toNat_natCast]
    rfl
theorem list_ev {l : List Int} (hl : ∀ x ∈ l, 0 ≤ x ∧ x < 256) (hn : l.length < 1000000) : Ev (fun k => incunableref01_List.f k l) (ints (bitList (nats l))) := by
  refine Ev.congr (fun k => by rw [incunableref01_List.f]) ?_
  exact list_l0 hl hn (8 * l.length) 0 [] (by omega) rfl
end Go.Proofs.Ytalejedajkhkjaa.PureHammingWords
