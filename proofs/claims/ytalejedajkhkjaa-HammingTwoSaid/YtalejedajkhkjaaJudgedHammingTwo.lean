/-
  What a word says of bytes when none, one or two bits are turned.
-/
import Derived.Test.YtalejedajkhkjaaJudgeHammingTwo
namespace Go.Proofs.Ytalejedajkhkjaa.PureHammingTwo
open Go.RowKit Go.Proofs.Ytalejedajkhkjaa.QHammingTwo Go.Proofs.YtalejedajkhkjaaW.PrintWords Go.Proofs.Ytalejedajkhkjaa.EvKit Go.Proofs.Ytalejedajkhkjaa.BitsKit Go.Proofs.Ytalejedajkhkjaa.CrcMath Go.Proofs.Ytalejedajkhkjaa.NatKit Go.Proofs.Ytalejedajkhkjaa.BitsMath Go.Proofs.Ytalejedajkhkjaa.LenMath Go.Proofs.Ytalejedajkhkjaa.HamMath
theorem judge_clean {l : List Nat} (h : l.length ≤ 600) : judgeN l (wordN l) = (0, 0, 0) := by
  unfold judgeN
  rw [if_pos (single_word h), if_pos (wrong_word h)]
theorem judge_data {l : List Nat} (h : l.length ≤ 600) {k : Nat} (hk : k < 8 * l.length) : judgeN (flips l (upN [k])) (wordN l) = (1, (k : Int), 0) := by
  have hp : ∀ i ∈ [k], i < 8 * l.length := fun i hi => by rw [List.mem_singleton.1 hi]; exact hk
  have h1 := wrong_turned (m := 0) h hp
  have h2 := single_turned (m := 0) h hp
  have hlt := place_lt (n := k) (by omega)
  have hpl := isPlace_place (n := k) (by omega)
  rw [Nat.xor_zero] at h1 h2
  have e1 : wrongN (flips l (upN [k])) (wordN l) = place k := by
    rw [h1, Nat.xor_zero]
    show (place k ^^^ 0) % 8192 = _
    rw [Nat.xor_zero, Nat.mod_eq_of_lt hlt]
  have e2 : single (flips l (upN [k])) (wordN l) = true := by
    rw [h2, show oddL [k] = true from rfl]
    decide
  unfold judgeN
  have hp2 := hpl.2.1
  have hne : ¬ (place k = 0 ∨ isPow (place k) = true) := by
    rintro (h | h)
    · have := hpl.2.2
      omega
    · rw [hpl.1] at h
      exact absurd h (by decide)
  rw [e1, e2, if_neg (by decide), if_neg hne, flips_up_length, if_pos (by omega)]
  have : place k - 1 - len (place k) = k := by omega
  rw [this]
theorem judge_word {l : List Nat} (h : l.length ≤ 600) {j : Nat} (hj : j < 16) : judgeN l (wordN l ^^^ 2 ^ j) = if 14 ≤ j then (0, 0, 0) else (2, 0, 0) := by
  have h1 := wrong_turned (l := l) (p := []) (m := 2 ^ j) h (fun i hi => absurd hi (by simp))
  have h2 := single_turned (l := l) (p := []) (m := 2 ^ j) h (fun i hi => absurd hi (by simp))
  have e1 : wrongN l (wordN l ^^^ 2 ^ j) = 2 ^ j % 8192 := by
    rw [show flips l (upN []) = l from rfl] at h1
    rw [h1]
    show (0 ^^^ 2 ^ j) % 8192 = _
    rw [Nat.zero_xor]
  have e2 : single l (wordN l ^^^ 2 ^ j) = par (2 ^ j % 16384) := by
    rw [show flips l (upN []) = l from rfl] at h2
    rw [h2, show oddL [] = false from rfl, Bool.false_bne]
  unfold judgeN
  rw [e1, e2]
  clear h1 h2 e1 e2
  have key : ∀ j : Nat, j < 16 → ∀ n : Nat, (if par (2 ^ j % 16384) = false then if 2 ^ j % 8192 = 0 then ((0, 0, 0) : Int × Int × Int) else (3, 0, 0) else if 2 ^ j % 8192 = 0 ∨ isPow (2 ^ j % 8192) = true then (2, 0, 0) else if 2 ^ j % 8192 - 1 - len (2 ^ j % 8192) < n then (1, ((2 ^ j % 8192 - 1 - len (2 ^ j % 8192) : Nat) : Int), 0) else (3, 0, 0)) = if 14 ≤ j then (0, 0, 0) else (2, 0, 0) := by
    intro j hj n
    have c1 : ∀ j : Nat, j < 16 → 14 ≤ j → par (2 ^ j % 16384) = false ∧ 2 ^ j % 8192 = 0 := by decide
    have c2 : ∀ j : Nat, j < 16 → ¬ 14 ≤ j → par (2 ^ j % 16384) = true ∧ (2 ^ j % 8192 = 0 ∨ isPow (2 ^ j % 8192) = true) := by decide
    by_cases h : 14 ≤ j
    · obtain ⟨a, b⟩ := c1 j hj h
      rw [if_pos a, if_pos b, if_pos h]
    · obtain ⟨a, b⟩ := c2 j hj h
      rw [if_neg (by rw [a]; decide), if_pos b, if_neg h]
  exact key j hj _
end Go.Proofs.Ytalejedajkhkjaa.PureHammingTwo
