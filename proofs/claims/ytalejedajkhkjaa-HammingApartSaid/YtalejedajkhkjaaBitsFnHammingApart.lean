/-
  What the program's package bits comes to: a bit, bits turned, ones counted.
-/
import Derived.Test.YtalejedajkhkjaaBitsMath
import Derived.Test.YtalejedajkhkjaaNatKit
import Derived.Test.YtalejedajkhkjaaQHammingApartx
namespace Go.Proofs.Ytalejedajkhkjaa.PureHammingApart
open Go.RowKit Go.Proofs.Ytalejedajkhkjaa.QHammingApart Go.Proofs.YtalejedajkhkjaaW.PrintWords Go.Proofs.YtalejedajkhkjaaW.PrintLast Go.Proofs.YtalejedajkhkjaaW.PrintMore Go.Proofs.Ytalejedajkhkjaa.EvKit Go.Proofs.Ytalejedajkhkjaa.BitsKit Go.Proofs.Ytalejedajkhkjaa.CrcMath Go.Proofs.Ytalejedajkhkjaa.NatKit Go.Proofs.Ytalejedajkhkjaa.BitsMath

theorem ones_eq {b : Nat} (hb : b < 256) : bits_OnesCount8.f (b : Int) = some ((ones b : Nat) : Int) := by
  unfold bits_OnesCount8.f
  rw [if_pos (by omega), if_pos (by omega)]
  congr 1
  rw [ones_table b hb]
  have key : ∀ b : Nat, b < 256 → bt (⟨#[0, 1, 1, 2, 1, 2, 2, 3, 1, 2, 2, 3, 2, 3, 3, 4, 1, 2, 2, 3, 2, 3, 3, 4, 2, 3, 3, 4, 3, 4, 4, 5, 1, 2, 2, 3, 2, 3, 3, 4, 2, 3, 3, 4, 3, 4, 4, 5, 2, 3, 3, 4, 3, 4, 4, 5, 3, 4, 4, 5, 4, 5, 5, 6, 1, 2, 2, 3, 2, 3, 3, 4, 2, 3, 3, 4, 3, 4, 4, 5, 2, 3, 3, 4, 3, 4, 4, 5, 3, 4, 4, 5, 4, 5, 5, 6, 2, 3, 3, 4, 3, 4, 4, 5, 3, 4, 4, 5, 4, 5, 5, 6, 3, 4, 4, 5, 4, 5, 5, 6, 4, 5, 5, 6, 5, 6, 6, 7, 1, 2, 2, 3, 2, 3, 3, 4, 2, 3, 3, 4, 3, 4, 4, 5, 2, 3, 3, 4, 3, 4, 4, 5, 3, 4, 4, 5, 4, 5, 5, 6, 2, 3, 3, 4, 3, 4, 4, 5, 3, 4, 4, 5, 4, 5, 5, 6, 3, 4, 4, 5, 4, 5, 5, 6, 4, 5, 5, 6, 5, 6, 6, 7, 2, 3, 3, 4, 3, 4, 4, 5, 3, 4, 4, 5, 4, 5, 5, 6, 3, 4, 4, 5, 4, 5, 5, 6, 4, 5, 5, 6, 5, 6, 6, 7, 3, 4, 4, 5, 4, 5, 5, 6, 4, 5, 5, 6, 5, 6, 6, 7, 4, 5, 5, 6, 5, 6, 6, 7, 5, 6, 6, 7, 6, 7, 7, 8]⟩ : ByteArray) (b : Int) = (([0, 1, 1, 2, 1, 2, 2, 3, 1, 2, 2, 3, 2, 3, 3, 4, 1, 2, 2, 3, 2, 3, 3, 4, 2, 3, 3, 4, 3, 4, 4, 5, 1, 2, 2, 3, 2, 3, 3, 4, 2, 3, 3, 4, 3, 4, 4, 5, 2, 3, 3, 4, 3, 4, 4, 5, 3, 4, 4, 5, 4, 5, 5, 6, 1, 2, 2, 3, 2, 3, 3, 4, 2, 3, 3, 4, 3, 4, 4, 5, 2, 3, 3, 4, 3, 4, 4, 5, 3, 4, 4, 5, 4, 5, 5, 6, 2, 3, 3, 4, 3, 4, 4, 5, 3, 4, 4, 5, 4, 5, 5, 6, 3, 4, 4, 5, 4, 5, 5, 6, 4, 5, 5, 6, 5, 6, 6, 7, 1, 2, 2, 3, 2, 3, 3, 4, 2, 3, 3, 4, 3, 4, 4, 5, 2, 3, 3, 4, 3, 4, 4, 5, 3, 4, 4, 5, 4, 5, 5, 6, 2, 3, 3, 4, 3, 4, 4, 5, 3, 4, 4, 5, 4, 5, 5, 6, 3, 4, 4, 5, 4, 5, 5, 6, 4, 5, 5, 6, 5, 6, 6, 7, 2, 3, 3, 4, 3, 4, 4, 5, 3, 4, 4, 5, 4, 5, 5, 6, 3, 4, 4, 5, 4, 5, 5, 6, 4, 5, 5, 6, 5, 6, 6, 7, 3, 4, 4, 5, 4, 5, 5, 6, 4, 5, 5, 6, 5, 6, 6, 7, 4, 5, 5, 6, 5, 6, 6, 7, 5, 6, 6, 7, 6, 7, 7, 8].getD b 0 : Nat) : Int) := by
    decide +kernel
  rw [key b hb]
  have h8 := ones_le b
  rw [ones_table b hb] at h8
  exact w64_id (by omega) (by omega)
theorem count_l0 {l : List Int} (hl : ∀ x ∈ l, 0 ≤ x ∧ x < 256) (hn : l.length < 1000000) (d : Nat) : ∀ (n i : Nat), i + d = l.length → n ≤ 8 * i → Ev (fun k => bits_Count.l0 k (n : Int) l (l.length : Int) (i : Int)) ((n + count ((nats l).drop i) : Nat) : Int) := by
  induction d with
  | zero =>
    intro n i hi h8
    refine Ev.step (fun k => bits_Count.l0.eq_2 ..) ?_
    refine Ev.neg (by omega) (Ev.ret ?_)
    rw [List.drop_of_length_le (by rw [nats_length]; omega)]
    rfl
  | succ d ih =>
    intro n i hi h8
    have hx := hl _ (rd_mem (l := l) (i := (i : Int)) (by omega) (by omega))
    have hr := rd_nats (l := l) (fun x hx => (hl x hx).1) i
    have hb : (nats l).getD i 0 < 256 := by omega
    have ho := ones_le ((nats l).getD i 0)
    refine Ev.step (fun k => bits_Count.l0.eq_2 ..) ?_
    refine Ev.pos (by omega) ?_
    refine Ev.pos (by omega) ?_
    refine Ev.pos (by omega) ?_
    rw [hr]
    refine Ev.bindv (ones_eq hb) ?_
    clear hr hx
    rw [w64_id (by omega) (by omega), w64_succ (by omega), ← Int.natCast_add]
    refine Ev.eq (ih _ (i + 1) (by omega) (by omega)) ?_
    have hj' : i < (nats l).length := by rw [nats_length]; omega
    rw [List.drop_eq_getElem_cons hj']
    have e : (nats l).getD i 0 = (nats l)[i] := by rw [List.getD_eq_getElem?_getD, List.getElem?_eq_getElem hj']; rfl
    rw [e]
    unfold count
    rw [List.map_cons, List.sum_cons, Nat.add_assoc]
theorem count_ev {l : List Int} (hl : ∀ x ∈ l, 0 ≤ x ∧ x < 256) (hn : l.length < 1000000) : Ev (fun k => bits_Count.f k l) ((count (nats l) : Nat) : Int) := by
  refine Ev.congr (fun k => by rw [bits_Count.f]) ?_
  refine Ev.eq (count_l0 hl hn l.length 0 0 (by omega) (by omega)) ?_
  simp
end Go.Proofs.Ytalejedajkhkjaa.PureHammingApart
