/-
  Plain laws on bits of bytes: turned, counted, what two have, where they differ. No program in sight.
-/
import Derived.Test.YtalejedajkhkjaaCrcMath
namespace Go.Proofs.Ytalejedajkhkjaa.BitsMath
open Go.Proofs.Ytalejedajkhkjaa.CrcMath
/-- a bit turned, if there is one -/
def flip1 (l : List Nat) (i : Int) : List Nat := if 0 ≤ i ∧ i / 8 < (l.length : Int) then l.set (i.toNat / 8) (l.getD (i.toNat / 8) 0 ^^^ 2 ^ (i.toNat % 8)) else l
def flips (l : List Nat) (at_ : List Int) : List Nat := at_.foldl flip1 l
def ones (b : Nat) : Nat := (bitsOf 8 b).sum
def count (l : List Nat) : Nat := (l.map ones).sum
theorem flip1_length (l : List Nat) (i : Int) : (flip1 l i).length = l.length := by
  unfold flip1
  split
  · exact List.length_set
  · rfl
theorem flip1_lt {l : List Nat} (h : ∀ b ∈ l, b < 256) (i : Int) : ∀ b ∈ flip1 l i, b < 256 := by
  unfold flip1
  split
  · intro b hb
    rcases List.mem_or_eq_of_mem_set hb with hb | rfl
    · exact h b hb
    · have h1 : 2 ^ (i.toNat % 8) < 2 ^ 8 := Nat.pow_lt_pow_right (by decide) (Nat.mod_lt _ (by decide))
      refine Nat.xor_lt_two_pow (n := 8) ?_ h1
      rw [List.getD_eq_getElem?_getD]
      cases e : l[i.toNat / 8]? with
      | none => decide
      | some x => exact h x (List.mem_of_getElem? e)
  · exact h
theorem flips_length : ∀ (at_ : List Int) (l : List Nat), (flips l at_).length = l.length
  | [], _ => rfl
  | i :: at_, l => by
    show (flips (flip1 l i) at_).length = _
    rw [flips_length at_, flip1_length]
theorem flips_lt : ∀ (at_ : List Int) {l : List Nat}, (∀ b ∈ l, b < 256) → ∀ b ∈ flips l at_, b < 256
  | [], _, h => h
  | i :: at_, _, h => flips_lt at_ (flip1_lt h i)
theorem ones_le (b : Nat) : ones b ≤ 8 := by
  unfold ones
  simp only [bitsOf, List.sum_cons, List.sum_nil]
  omega
theorem count_le : ∀ l : List Nat, count l ≤ 8 * l.length
  | [] => Nat.le_refl _
  | b :: l => by
    have h1 := count_le l
    have h2 := ones_le b
    unfold count at h1 ⊢
    rw [List.map_cons, List.sum_cons, List.length_cons]
    omega
/-- the table of ones -/
theorem ones_table : ∀ b : Nat, b < 256 → ones b = [0, 1, 1, 2, 1, 2, 2, 3, 1, 2, 2, 3, 2, 3, 3, 4, 1, 2, 2, 3, 2, 3, 3, 4, 2, 3, 3, 4, 3, 4, 4, 5, 1, 2, 2, 3, 2, 3, 3, 4, 2, 3, 3, 4, 3, 4, 4, 5, 2, 3, 3, 4, 3, 4, 4, 5, 3, 4, 4, 5, 4, 5, 5, 6, 1, 2, 2, 3, 2, 3, 3, 4, 2, 3, 3, 4, 3, 4, 4, 5, 2, 3, 3, 4, 3, 4, 4, 5, 3, 4, 4, 5, 4, 5, 5, 6, 2, 3, 3, 4, 3, 4, 4, 5, 3, 4, 4, 5, 4, 5, 5, 6, 3, 4, 4, 5, 4, 5, 5, 6, 4, 5, 5, 6, 5, 6, 6, 7, 1, 2, 2, 3, 2, 3, 3, 4, 2, 3, 3, 4, 3, 4, 4, 5, 2, 3, 3, 4, 3, 4, 4, 5, 3, 4, 4, 5, 4, 5, 5, 6, 2, 3, 3, 4, 3, 4, 4, 5, 3, 4, 4, 5, 4, 5, 5, 6, 3, 4, 4, 5, 4, 5, 5, 6, 4, 5, 5, 6, 5, 6, 6, 7, 2, 3, 3, 4, 3, 4, 4, 5, 3, 4, 4, 5, 4, 5, 5, 6, 3, 4, 4, 5, 4, 5, 5, 6, 4, 5, 5, 6, 5, 6, 6, 7, 3, 4, 4, 5, 4, 5, 5, 6, 4, 5, 5, 6, 5, 6, 6, 7, 4, 5, 5, 6, 5, 6, 6, 7, 5, 6, 6, 7, 6, 7, 7, 8].getD b 0 := by
  decide +kernel
end Go.Proofs.Ytalejedajkhkjaa.BitsMath
namespace Go.Proofs.Ytalejedajkhkjaa.BitsMath
open Go.Proofs.Ytalejedajkhkjaa.CrcMath
theorem bitAt_test (l : List Nat) (i : Nat) : bitAt l i = ((l.getD (i / 8) 0).testBit (i % 8)).toNat := by
  unfold bitAt
  rw [Nat.testBit_eq_decide_div_mod_eq]
  generalize l.getD (i / 8) 0 / 2 ^ (i % 8) = q
  rcases Nat.mod_two_eq_zero_or_one q with h | h <;> rw [h] <;> rfl
theorem bitAt_flip1 (l : List Nat) (i : Nat) (hi : i / 8 < l.length) (j : Nat) : bitAt (flip1 l (i : Int)) j = if i = j then 1 - bitAt l j else bitAt l j := by
  unfold flip1
  rw [if_pos (by omega), Int.toNat_natCast, bitAt_test, bitAt_test]
  rw [List.getD_eq_getElem?_getD (l := l.set _ _), List.getElem?_set]
  by_cases h1 : i / 8 = j / 8
  · rw [if_pos h1, if_pos hi, Option.getD_some, Nat.testBit_xor, Nat.testBit_two_pow, h1]
    by_cases h2 : i % 8 = j % 8
    · rw [if_pos (by omega), h2]
      cases (l.getD (j / 8) 0).testBit (j % 8) <;> simp
    · rw [if_neg (by omega), decide_eq_false h2, Bool.xor_false]
  · rw [if_neg h1, if_neg (fun h => h1 (by rw [h])), List.getD_eq_getElem?_getD]
theorem bitList_length (l : List Nat) : (bitList l).length = 8 * l.length := by simp [bitList]
theorem bitList_get {l : List Nat} {i : Nat} (h : i < 8 * l.length) : (bitList l)[i]? = some (bitAt l i) := by
  unfold bitList
  rw [List.getElem?_map, List.getElem?_range h]
  rfl
theorem bitList_flip1 (l : List Nat) (i : Nat) (hi : i / 8 < l.length) : bitList (flip1 l (i : Int)) = (bitList l).set i (1 - bitAt l i) := by
  apply List.ext_getElem?
  intro j
  rw [List.getElem?_set, bitList_length]
  by_cases hj : j < 8 * l.length
  · rw [bitList_get (by rw [flip1_length]; exact hj), bitAt_flip1 l i hi j, bitList_get hj]
    by_cases h : i = j
    · subst h
      rw [if_pos rfl, if_pos rfl, if_pos hj]
    · rw [if_neg h, if_neg h]
  · rw [List.getElem?_eq_none (by rw [bitList_length, flip1_length]; omega), if_neg (by omega), List.getElem?_eq_none (by rw [bitList_length]; omega)]
theorem sum_flatMap (l : List Nat) : (l.flatMap (bitsOf 8)).sum = count l := by
  induction l with
  | nil => rfl
  | cons b l ih =>
    rw [List.flatMap_cons, List.sum_append, ih]
    rfl
theorem count_bits (l : List Nat) : (bitList l).sum = count l := by rw [bitList_eq, sum_flatMap]
end Go.Proofs.Ytalejedajkhkjaa.BitsMath
namespace Go.Proofs.Ytalejedajkhkjaa.BitsMath
open Go.Proofs.Ytalejedajkhkjaa.CrcMath
/-- the bytes of a, those that b has too with b's -/
def andW (a b : List Nat) : List Nat := (List.range a.length).map fun i => if i < b.length then a.getD i 0 &&& b.getD i 0 else a.getD i 0
def andN (a b : List Nat) : List Nat := if a.length < b.length then andW b a else andW a b
theorem andW_length (a b : List Nat) : (andW a b).length = a.length := by simp [andW]
theorem andN_length (a b : List Nat) : (andN a b).length = max a.length b.length := by
  unfold andN
  split
  · rw [andW_length]; omega
  · rw [andW_length]; omega
theorem getD_lt {l : List Nat} (h : ∀ b ∈ l, b < 256) (i : Nat) : l.getD i 0 < 256 := by
  rw [List.getD_eq_getElem?_getD]
  cases e : l[i]? with
  | none => decide
  | some x => exact h x (List.mem_of_getElem? e)
theorem andW_lt {a b : List Nat} (ha : ∀ x ∈ a, x < 256) : ∀ x ∈ andW a b, x < 256 := by
  intro x hx
  obtain ⟨i, _, rfl⟩ := List.mem_map.1 hx
  have := getD_lt ha i
  split
  · exact Nat.lt_of_le_of_lt Nat.and_le_left this
  · exact this
theorem andN_lt {a b : List Nat} (ha : ∀ x ∈ a, x < 256) (hb : ∀ x ∈ b, x < 256) : ∀ x ∈ andN a b, x < 256 := by
  unfold andN
  split
  · exact andW_lt hb
  · exact andW_lt ha
theorem andW_get {a b : List Nat} {i : Nat} (hi : i < a.length) : (andW a b).getD i 0 = if i < b.length then a.getD i 0 &&& b.getD i 0 else a.getD i 0 := by
  unfold andW
  rw [List.getD_eq_getElem?_getD, List.getElem?_map, List.getElem?_range hi]
  rfl
theorem bitAt_andW {a b : List Nat} {i : Nat} (hi : i < 8 * a.length) : bitAt (andW a b) i = if i < 8 * b.length then bitAt a i * bitAt b i else bitAt a i := by
  rw [bitAt_test, bitAt_test, bitAt_test, andW_get (by omega)]
  by_cases h : i / 8 < b.length
  · rw [if_pos h, if_pos (by omega), Nat.testBit_and]
    cases (a.getD (i / 8) 0).testBit (i % 8) <;> cases (b.getD (i / 8) 0).testBit (i % 8) <;> rfl
  · rw [if_neg h, if_neg (by omega)]
theorem bitAt_andN {a b : List Nat} {i : Nat} (hi : i < 8 * max a.length b.length) :
    bitAt (andN a b) i = if 8 * a.length ≤ i then bitAt b i else if 8 * b.length ≤ i then bitAt a i else bitAt a i * bitAt b i := by
  unfold andN
  by_cases hlt : a.length < b.length
  · rw [if_pos hlt, bitAt_andW (by omega)]
    by_cases h1 : i < 8 * a.length
    · rw [if_pos h1, if_neg (by omega), if_neg (by omega), Nat.mul_comm]
    · rw [if_neg h1, if_pos (by omega)]
  · rw [if_neg hlt, bitAt_andW (by omega)]
    have ha : ¬ 8 * a.length ≤ i := by omega
    by_cases h1 : i < 8 * b.length
    · rw [if_pos h1, if_neg ha, if_neg (by omega)]
    · rw [if_neg h1, if_neg ha, if_pos (by omega)]
/-- the set bits of a byte, rising -/
def lows : Nat → Nat → List Nat
  | 0, _ => []
  | n + 1, x => if x = 0 then [] else ((List.range 8).find? fun j => x / 2 ^ j % 2 = 1).getD 8 :: lows n (x &&& (x - 1))
theorem lows_eq : ∀ x : Nat, x < 256 → lows 9 x = (List.range 8).filter fun j => x / 2 ^ j % 2 = 1 := by decide +kernel
def seg (a b : List Nat) (q : Nat) : List Nat := ((List.range 8).filter fun j => (a.getD q 0 ^^^ b.getD q 0) / 2 ^ j % 2 = 1).map (8 * q + ·)
def diffN (a b : List Nat) : List Nat := (List.range (8 * min a.length b.length)).filter fun i => bitAt a i ≠ bitAt b i
theorem xor_bit (x y j : Nat) : ((x ^^^ y) / 2 ^ j % 2 = 1) ↔ (x / 2 ^ j % 2 ≠ y / 2 ^ j % 2) := by
  have h := Nat.testBit_xor (x := x) (y := y) (i := j)
  rw [Nat.testBit_eq_decide_div_mod_eq, Nat.testBit_eq_decide_div_mod_eq, Nat.testBit_eq_decide_div_mod_eq] at h
  rcases Nat.mod_two_eq_zero_or_one ((x ^^^ y) / 2 ^ j) with h1 | h1 <;> rcases Nat.mod_two_eq_zero_or_one (x / 2 ^ j) with h2 | h2 <;> rcases Nat.mod_two_eq_zero_or_one (y / 2 ^ j) with h3 | h3 <;> rw [h1, h2, h3] at h <;> simp at h <;> omega
theorem diff_segs (a b : List Nat) : ∀ m : Nat, ((List.range (8 * m)).filter fun i => bitAt a i ≠ bitAt b i) = (List.range m).flatMap (seg a b)
  | 0 => rfl
  | m + 1 => by
    rw [Nat.mul_add, Nat.mul_one, List.range_add, List.filter_append, diff_segs a b m, List.range_succ (n := m), List.flatMap_append]
    congr 1
    rw [List.flatMap_cons, List.flatMap_nil, List.append_nil, List.filter_map]
    unfold seg
    congr 1
    refine List.filter_congr fun j hj => ?_
    have hj := List.mem_range.1 hj
    show decide (bitAt a (8 * m + j) ≠ bitAt b (8 * m + j)) = _
    rw [decide_eq_decide, xor_bit]
    unfold bitAt
    rw [show (8 * m + j) / 8 = m by omega, show (8 * m + j) % 8 = j by omega]
end Go.Proofs.Ytalejedajkhkjaa.BitsMath
