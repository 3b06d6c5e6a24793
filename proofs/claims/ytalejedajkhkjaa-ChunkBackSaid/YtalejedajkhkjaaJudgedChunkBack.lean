/-
  What a word says of bytes when none, one or two bits are turned.
-/
import Derived.Test.YtalejedajkhkjaaJudgeChunkBack
namespace Go.Proofs.Ytalejedajkhkjaa.PureChunkBack
open Go.RowKit Go.Proofs.Ytalejedajkhkjaa.QChunkBack Go.Proofs.YtalejedajkhkjaaW.PrintWords Go.Proofs.Ytalejedajkhkjaa.EvKit Go.Proofs.Ytalejedajkhkjaa.BitsKit Go.Proofs.Ytalejedajkhkjaa.CrcMath Go.Proofs.Ytalejedajkhkjaa.NatKit Go.Proofs.Ytalejedajkhkjaa.BitsMath Go.Proofs.Ytalejedajkhkjaa.LenMath Go.Proofs.Ytalejedajkhkjaa.HamMath
theorem judge_clean {l : List Nat} (h : l.length ≤ 600) : judgeN l (wordN l) = (0, 0, 0) := by
  unfold judgeN
  rw [if_pos (single_word h), if_pos (wrong_word h)]
theorem judge_data {l : List Nat} (h : l.length ≤ 600) {k : Nat} (hk : k < 8 * l.length) : judgeN (flips l (upN [k])) (wordN l) = (1, (k : Int), 0) := by
  have hp : ∀ i ∈ [k], i < 8 * l.length := fun i hi => by rw [List.mem_singleton.1 hi]; exact hk
  have h1 := wrong_turned (m := 0) h hp
  have h2 := single_turned (m := 0) h hp
  have hlt := place_lt (n := k) (by omega)
  have hpl := isPlace_place (n := k) (by omega)
  rw [Nat.xor_zero] at h1 h2
  have e1 : wrongN (flips l (upN [k])) (wordN l) = place k := by
    rw [h1, Nat.xor_zero]
    show (place k ^^^ 0) % 8192 = _
    rw [Nat.xor_zero, Nat.mod_eq_of_lt hlt]
  have e2 : single (flips l (upN [k])) (wordN l) = true := by
    rw [h2, show oddL [k] = true from rfl]
    decide
  unfold judgeN
  have hp2 := hpl.2.1
  have hne : ¬ (place k = 0 ∨ isPow (place k) = true) := by
    rintro (h | h)
    · have := hpl.2.2
      omega
    · rw [hpl.1] at h
      exact absurd h (by decide)
  rw [e1, e2, if_neg (by decide), if_neg hne, flips_up_length, if_pos (by omega)]
  have : place k - 1 - len (place k) = k := by omega
  rw [this]
theorem judge_word {l : List Nat} (h : l.length ≤ 600) {j : Nat} (hj : j < 16) : judgeN l (wordN l ^^^ 2 ^ j) = if 14 ≤ j then (0, 0, 0) else (2, 0, 0) := by
  have h1 := wrong_turned (l := l) (p := []) (m := 2 ^ j) h (fun i hi => absurd hi (by simp))
  have h2 := single_turned (l := l) (p := []) (m := 2 ^ j) h (fun i hi => absurd hi (by simp))
  have e1 : wrongN l (wordN l ^^^ 2 ^ j) = 2 ^ j % 8192 := by
    rw [show flips l (upN []) = l from rfl] at h1
    rw [h1]
    show (0 ^^^ 2 ^ j) % 8192 = _
    rw [Nat.zero_xor]
  have e2 : single l (wordN l ^^^ 2 ^ j) = par (2 ^ j % 16384) := by
    rw [show flips l (upN []) = l from rfl] at h2
    rw [h2, show oddL [] = false from rfl, Bool.false_bne]
  unfold judgeN
  rw [e1, e2]
  clear h1 h2 e1 e2
  have key : ∀ j : Nat, j < 16 → ∀ n : Nat, (if par (2 ^ j % 16384) = false then if 2 ^ j % 8192 = 0 then ((0, 0, 0) : Int × Int × Int) else (3, 0, 0) else if 2 ^ j % 8192 = 0 ∨ isPow (2 ^ j % 8192) = true then (2, 0, 0) else if 2 ^ j % 8192 - 1 - len (2 ^ j % 8192) < n then (1, ((2 ^ j % 8192 - 1 - len (2 ^ j % 8192) : Nat) : Int), 0) else (3, 0, 0)) = if 14 ≤ j then (0, 0, 0) else (2, 0, 0) := by
    intro j hj n
    have c1 : ∀ j : Nat, j < 16 → 14 ≤ j → par (2 ^ j % 16384) = false ∧ 2 ^ j % 8192 = 0 := by decide
    have c2 : ∀ j : Nat, j < 16 → ¬ 14 ≤ j → par (2 ^ j % 16384) = true ∧ (2 ^ j % 8192 = 0 ∨ isPow (2 ^ j % 8192) = true) := by decide
    by_cases h : 14 ≤ j
    · obtain ⟨a, b⟩ := c1 j hj h
      rw [if_pos a, if_pos b, if_pos h]
    · obtain ⟨a, b⟩ := c2 j hj h
      rw [if_neg (by rw [a]; decide), if_pos b, if_neg h]
  exact key j hj _
theorem judge_two {l p : List Nat} {m : Nat} (h : l.length ≤ 600) (hp : ∀ i ∈ p, i < 8 * l.length) (h1 : (XS p ^^^ m) % 8192 ≠ 0) (h2 : (oddL p != par (m % 16384)) = false) :
    judgeN (flips l (upN p)) (wordN l ^^^ m) = (3, 0, 0) := by
  unfold judgeN
  rw [wrong_turned h hp, single_turned h hp, if_pos h2, if_neg h1]
theorem pow_par : ∀ j : Nat, j < 14 → par (2 ^ j % 16384) = true := by decide
theorem pow_low : ∀ j : Nat, j < 14 → 2 ^ j % 8192 = 0 ∨ isPow (2 ^ j % 8192) = true := by decide
theorem judge_dd {l : List Nat} (h : l.length ≤ 600) {i k : Nat} (hi : i < 8 * l.length) (hk : k < 8 * l.length) (hne : i ≠ k) : judgeN (flips l (upN [i, k])) (wordN l) = (3, 0, 0) := by
  have h0 : wordN l = wordN l ^^^ 0 := (Nat.xor_zero _).symm
  rw [h0]
  refine judge_two h ?_ ?_ ?_
  · intro z hz
    simp only [List.mem_cons, List.not_mem_nil, or_false] at hz
    omega
  · have hl1 := place_lt (n := i) (by omega)
    have hl2 := place_lt (n := k) (by omega)
    show ((place i ^^^ (place k ^^^ 0)) ^^^ 0) % 8192 ≠ 0
    rw [Nat.xor_zero, Nat.xor_zero, Nat.mod_eq_of_lt (Nat.xor_lt_two_pow (n := 13) hl1 hl2)]
    intro h0
    have e := congrArg (· ^^^ place k) h0
    simp only [Nat.zero_xor, Nat.xor_assoc, Nat.xor_self, Nat.xor_zero] at e
    exact hne (place_inj (by omega) (by omega) e)
  · rw [show oddL [i, k] = false from by simp [oddL]]
    decide
theorem judge_dw {l : List Nat} (h : l.length ≤ 600) {i j : Nat} (hi : i < 8 * l.length) (hj : j < 14) : judgeN (flips l (upN [i])) (wordN l ^^^ 2 ^ j) = (3, 0, 0) := by
  refine judge_two h ?_ ?_ ?_
  · intro z hz
    rw [List.mem_singleton.1 hz]
    exact hi
  · show ((place i ^^^ 0) ^^^ 2 ^ j) % 8192 ≠ 0
    rw [Nat.xor_zero]
    intro h0
    have hlt := place_lt (n := i) (by omega)
    have h3 := place_three (n := i) (by omega)
    rw [xor_mod13, Nat.mod_eq_of_lt hlt] at h0
    have e := congrArg (· ^^^ 2 ^ j % 8192) h0
    simp only [Nat.zero_xor, Nat.xor_assoc, Nat.xor_self, Nat.xor_zero] at e
    rcases pow_low j hj with h | h
    · omega
    · rw [← e, h3.2] at h
      exact absurd h (by decide)
  · rw [pow_par j hj]
    rfl
theorem judge_ww {l : List Nat} (h : l.length ≤ 600) {i j : Nat} (hi : i < 14) (hj : j < 14) (hne : i ≠ j) : judgeN l (wordN l ^^^ (2 ^ i ^^^ 2 ^ j)) = (3, 0, 0) := by
  refine judge_two (p := []) h (fun z hz => absurd hz (by simp)) ?_ ?_
  · show (0 ^^^ (2 ^ i ^^^ 2 ^ j)) % 8192 ≠ 0
    rw [Nat.zero_xor]
    have key : ∀ x : Nat, x < 14 → ∀ y : Nat, y < 14 → x ≠ y → (2 ^ x ^^^ 2 ^ y) % 8192 ≠ 0 := by decide +kernel
    exact key _ hi _ hj hne
  · show (false != par ((2 ^ i ^^^ 2 ^ j) % 16384)) = false
    have key : ∀ x : Nat, x < 14 → ∀ y : Nat, y < 14 → par ((2 ^ x ^^^ 2 ^ y) % 16384) = false := by decide +kernel
    rw [key _ hi _ hj]
    rfl
end Go.Proofs.Ytalejedajkhkjaa.PureChunkBack
