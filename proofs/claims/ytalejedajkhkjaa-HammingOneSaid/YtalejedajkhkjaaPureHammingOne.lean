/-
  HammingOne: of bytes and their word, one bit turned is found. Conditions: the law's own.
-/
import Derived.Test.YtalejedajkhkjaaStmHammingOne
import Derived.Test.YtalejedajkhkjaaJudgedHammingOne
import Derived.Test.YtalejedajkhkjaaFlipHammingOne
namespace Go.Proofs.Ytalejedajkhkjaa.Pure
open Go.RowKit Go.Proofs.Ytalejedajkhkjaa.QHammingOne Go.Proofs.YtalejedajkhkjaaW.PrintWords Go.Proofs.YtalejedajkhkjaaW.PrintLast Go.Proofs.YtalejedajkhkjaaW.PrintMore Go.Proofs.Ytalejedajkhkjaa.EvKit Go.Proofs.Ytalejedajkhkjaa.BitsKit Go.Proofs.Ytalejedajkhkjaa.CrcMath Go.Proofs.Ytalejedajkhkjaa.NatKit Go.Proofs.Ytalejedajkhkjaa.BitsMath Go.Proofs.Ytalejedajkhkjaa.LenMath Go.Proofs.Ytalejedajkhkjaa.HamMath Go.Proofs.Ytalejedajkhkjaa.PureHammingOne
theorem shl_u16 {j : Nat} (h : j < 16) : shl .u16 1 (j : Int) = ((2 ^ j : Nat) : Int) := by
  have key : ∀ j : Nat, j < 16 → shl .u16 1 (j : Int) = ((2 ^ j : Nat) : Int) := by decide +kernel
  exact key j h
theorem HammingOne : StmHammingOne := by
  intro l a hlen hl ha
  have hb : ∀ x ∈ l, 0 ≤ x ∧ x < 256 := fun x hx => wf_u8 (hl.2 x hx)
  obtain ⟨ha0, ha1⟩ := wf_u16 ha
  refine Ev.rounds (Ev.congr (fun k => by rw [incunablelaw05_HammingOne.f]) ?_)
  refine Ev.bind hamming_awake_ev (Ev.pos rfl ?_)
  refine Ev.ite (fun _ => Ev.ret rfl) (fun h60 => ?_)
  have hn : l.length ≤ 60 := by omega
  have hnl : (nats l).length = l.length := nats_length l
  have hwl := wordN_lt (l := nats l) (by omega)
  refine Ev.bind (word_ev hb (by omega)) ?_
  refine Ev.bind (judge_ev hb (by omega) hwl) ?_
  rw [judge_clean (by omega)]
  refine Ev.pos rfl (Ev.pos rfl ?_)
  refine Ev.step (fun k => incunablelaw05_HammingOne.j0.eq_2 ..) ?_
  have e1 : wrap64 (8 * (l.length : Int)) = 8 * (l.length : Int) := w64_id (by omega) (by omega)
  have e2 : wrap64 (8 * (l.length : Int) + 16) = 8 * (l.length : Int) + 16 := w64_id (by omega) (by omega)
  have e3 : wrap64 a = a := w64_id (by omega) (by omega)
  rw [e1, e2, e3]
  clear e1 e2 e3
  refine Ev.neg (by decide) (Ev.neg (by omega) ?_)
  rw [Int.tmod_eq_emod_of_nonneg ha0]
  obtain ⟨q, hq⟩ : ∃ q : Nat, a % (8 * (l.length : Int) + 16) = (q : Int) := Int.eq_ofNat_of_zero_le (Int.emod_nonneg _ (by omega))
  have hq2 := Int.emod_lt_of_pos a (show 0 < 8 * (l.length : Int) + 16 by omega)
  rw [hq] at hq2 ⊢
  refine Ev.ite (fun hlt => ?_) (fun hge => ?_)
  · have hf := flip_ev (l := l) (at_ := [(q : Int)]) hb (by omega) (by intro i hi; rw [List.mem_singleton.1 hi]; omega) (by simp)
    refine Ev.bind hf ?_
    have hfb : ∀ x ∈ ints (flips (nats l) [(q : Int)]), 0 ≤ x ∧ x < 256 := ints_byte (flips_lt _ (nats_lt hb))
    have hfn : (ints (flips (nats l) [(q : Int)])).length ≤ 512 := by rw [ints_length, flips_length]; omega
    refine Ev.bind (judge_ev hfb hfn hwl) ?_
    rw [nats_ints]
    have hj := judge_data (l := nats l) (by omega) (k := q) (by omega)
    rw [show up [q] = [(q : Int)] from rfl] at hj
    rw [hj]
    refine Ev.pos rfl (Ev.pos rfl (Ev.ret ?_))
    simp
  · obtain ⟨j, rfl⟩ : ∃ j, q = 8 * l.length + j := ⟨q - 8 * l.length, by omega⟩
    have e4 : IntKind.u64.wrap (wrap64 (((8 * l.length + j : Nat) : Int) - 8 * (l.length : Int))) = (j : Int) := by
      rw [w64_id (by omega) (by omega), w_u64 _ (by omega) (by omega)]
      omega
    have e5 : wrap64 (((8 * l.length + j : Nat) : Int) - 8 * (l.length : Int)) = (j : Int) := by
      rw [w64_id (by omega) (by omega)]
      omega
    rw [e4, e5]
    clear e4 e5
    have hj16 : j < 16 := by omega
    rw [shl_u16 hj16]
    have hp2 : 2 ^ j < 2 ^ 16 := Nat.pow_lt_pow_right (by decide) hj16
    have hp3 : 2 ^ j < 65536 := hp2
    rw [xor_u16 hwl hp3]
    refine Ev.pos (by clear hp2 hp3; omega) ?_
    have hx : wordN (nats l) ^^^ 2 ^ j < 65536 := Nat.xor_lt_two_pow (n := 16) hwl hp2
    refine Ev.bind (judge_ev hb (by clear hp2 hp3 hx; omega) hx) ?_
    rw [judge_word (by clear hp2 hp3 hx; omega) hj16]
    clear hp2 hp3 hx
    by_cases h : 14 ≤ j
    · rw [if_pos h]
      exact Ev.pos (by omega) (Ev.pos rfl (Ev.pos rfl (Ev.ret rfl)))
    · rw [if_neg h]
      exact Ev.neg (by omega) (Ev.pos rfl (Ev.pos rfl (Ev.ret rfl)))
end Go.Proofs.Ytalejedajkhkjaa.Pure
