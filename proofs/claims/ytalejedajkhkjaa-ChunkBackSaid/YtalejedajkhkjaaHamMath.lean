/-
  Plain laws on the sum of places: what a code word comes to. No program in sight.
-/
import Derived.Test.YtalejedajkhkjaaLenMath
import Derived.Test.YtalejedajkhkjaaBitsMore
namespace Go.Proofs.Ytalejedajkhkjaa.HamMath
open Go.RowKit Go.Proofs.Ytalejedajkhkjaa.CrcMath Go.Proofs.Ytalejedajkhkjaa.BitsMath Go.Proofs.Ytalejedajkhkjaa.LenMath
/-- the places of the set bits among the first m, put together -/
def gx (l : List Nat) : Nat → Nat
  | 0 => 0
  | m + 1 => if bitAt l m = 1 then gx l m ^^^ place m else gx l m
/-- are the set bits among the first m odd in number -/
def go (l : List Nat) : Nat → Bool
  | 0 => false
  | m + 1 => if bitAt l m = 1 then !go l m else go l m
theorem gx_succ (l : List Nat) (m : Nat) : gx l (m + 1) = if bitAt l m = 1 then gx l m ^^^ place m else gx l m := rfl
theorem go_succ (l : List Nat) (m : Nat) : go l (m + 1) = if bitAt l m = 1 then !go l m else go l m := rfl
theorem place_lt {n : Nat} (h : n ≤ 5000) : place n < 8192 := by
  obtain ⟨_, h2, _⟩ := isPlace_place (n := n) (by omega)
  have : place n < 4194304 := by
    by_cases hlt : place n < 4194304
    · exact hlt
    · exfalso
      have hp := len_add (p := 4194303) (by omega) (place n - 4194303)
      rw [show 4194303 + (place n - 4194303) = place n by omega] at hp
      have := len_le22 (p := 4194303) (by omega)
      omega
  have := len_le22 this
  omega
theorem gx_lt (l : List Nat) : ∀ m, m ≤ 5000 → gx l m < 8192
  | 0, _ => Nat.zero_lt_succ _
  | m + 1, h => by
    have ih := gx_lt l m (by omega)
    unfold gx
    split
    · exact Nat.xor_lt_two_pow (n := 13) ih (place_lt (by omega))
    · exact ih
theorem gx_flip {l : List Nat} {i : Nat} (hi : i / 8 < l.length) : ∀ m, gx (flip1 l (i : Int)) m = if i < m then gx l m ^^^ place i else gx l m
  | 0 => by rw [if_neg (by omega)]; rfl
  | m + 1 => by
    have ih := gx_flip hi m
    unfold gx
    rw [bitAt_flip1 l i hi, ih]
    have hb := bitAt_lt2 l m
    by_cases e : i = m
    · subst e
      rw [if_pos rfl, if_neg (Nat.lt_irrefl _), if_pos (Nat.lt_succ_self _)]
      by_cases h1 : bitAt l i = 1
      · rw [if_neg (show ¬ 1 - bitAt l i = 1 by omega), if_pos h1, Nat.xor_assoc, Nat.xor_self, Nat.xor_zero]
      · rw [if_pos (show 1 - bitAt l i = 1 by omega), if_neg h1]
    · rw [if_neg e]
      by_cases hlt : i < m
      · rw [if_pos hlt, if_pos (show i < m + 1 by omega)]
        split
        · rw [Nat.xor_assoc, Nat.xor_comm (place i), ← Nat.xor_assoc]
        · rfl
      · rw [if_neg hlt, if_neg (show ¬ i < m + 1 by omega)]
theorem go_flip {l : List Nat} {i : Nat} (hi : i / 8 < l.length) : ∀ m, go (flip1 l (i : Int)) m = if i < m then !go l m else go l m
  | 0 => by rw [if_neg (by omega)]; rfl
  | m + 1 => by
    have ih := go_flip hi m
    unfold go
    rw [bitAt_flip1 l i hi, ih]
    have hb := bitAt_lt2 l m
    by_cases e : i = m
    · subst e
      rw [if_pos rfl, if_neg (Nat.lt_irrefl _), if_pos (Nat.lt_succ_self _)]
      by_cases h1 : bitAt l i = 1
      · rw [if_neg (show ¬ 1 - bitAt l i = 1 by omega), if_pos h1, Bool.not_not]
      · rw [if_pos (show 1 - bitAt l i = 1 by omega), if_neg h1]
    · rw [if_neg e]
      by_cases hlt : i < m
      · rw [if_pos hlt, if_pos (show i < m + 1 by omega)]
        split
        · rfl
        · rfl
      · rw [if_neg hlt, if_neg (show ¬ i < m + 1 by omega)]
/-- are the set bits of a number odd in number -/
def par (x : Nat) : Bool := decide ((bitsOf 16 x).sum % 2 = 1)
theorem bitsOf_xor : ∀ n x y : Nat, (bitsOf n (x ^^^ y)).sum % 2 = ((bitsOf n x).sum + (bitsOf n y).sum) % 2
  | 0, _, _ => rfl
  | n + 1, x, y => by
    have ih := bitsOf_xor n (x / 2) (y / 2)
    have e : (x ^^^ y) / 2 = x / 2 ^^^ y / 2 := Nat.xor_div_two
    have h : (x ^^^ y) % 2 = (x % 2 + y % 2) % 2 := by
      have b : ∀ z : Nat, z % 2 = (z.testBit 0).toNat := fun z => by
        rw [Nat.toNat_testBit, Nat.pow_zero, Nat.div_one]
      rw [b x, b y, b (x ^^^ y), Nat.testBit_xor]
      cases x.testBit 0 <;> cases y.testBit 0 <;> decide
    unfold bitsOf
    rw [List.sum_cons, List.sum_cons, List.sum_cons, e]
    omega
theorem par_xor (x y : Nat) : par (x ^^^ y) = (par x != par y) := by
  have h := bitsOf_xor 16 x y
  unfold par
  rw [h]
  have a := Nat.mod_two_eq_zero_or_one (bitsOf 16 x).sum
  have b := Nat.mod_two_eq_zero_or_one (bitsOf 16 y).sum
  rw [Nat.add_mod]
  rcases a with a | a <;> rcases b with b | b <;> rw [a, b] <;> decide
theorem par_pow : ∀ j : Nat, j < 16 → par (2 ^ j) = true := by decide
theorem bitsOf_add : ∀ m n a : Nat, (bitsOf (m + n) a).sum = (bitsOf m a).sum + (bitsOf n (a / 2 ^ m)).sum
  | 0, n, a => by rw [Nat.zero_add, Nat.pow_zero, Nat.div_one]; simp [bitsOf]
  | m + 1, n, a => by
    have ih := bitsOf_add m n (a / 2)
    rw [Nat.div_div_eq_div_mul, ← Nat.pow_succ'] at ih
    rw [show m + 1 + n = (m + n) + 1 by omega]
    unfold bitsOf
    rw [List.sum_cons, ih]
    have e : (bitsOf (m + 1) a).sum = a % 2 + (bitsOf m (a / 2)).sum := rfl
    cases n with
    | zero => simp [bitsOf]
    | succ n =>
      show a % 2 + ((bitsOf m (a / 2)).sum + (bitsOf (n + 1) (a / 2 ^ (m + 1))).sum) = (a % 2 :: bitsOf m (a / 2)).sum + _
      rw [List.sum_cons, Nat.add_assoc]
      rfl
theorem bitsOf_mod : ∀ m a : Nat, bitsOf m (a % 2 ^ m) = bitsOf m a
  | 0, _ => rfl
  | m + 1, a => by
    have ih := bitsOf_mod m (a / 2)
    have e1 : a % 2 ^ (m + 1) / 2 = a / 2 % 2 ^ m := by
      rw [Nat.pow_succ']
      exact Nat.mod_mul_right_div_self ..
    have e2 : a % 2 ^ (m + 1) % 2 = a % 2 := by
      rw [Nat.pow_succ']
      exact Nat.mod_mul_right_mod ..
    unfold bitsOf
    rw [e1, e2, ih]
theorem par_ones {a : Nat} : par a = decide ((ones (a / 256) + ones (a % 256)) % 2 = 1) := by
  unfold par ones
  have h1 := bitsOf_add 8 8 a
  have h2 := bitsOf_mod 8 a
  rw [show 2 ^ 8 = 256 from rfl] at h1 h2
  rw [show 16 = 8 + 8 from rfl, h1, h2, Nat.add_comm]
/-- what stands in a code word -/
def chk (l : List Nat) : Nat := if go l (8 * l.length) != par (gx l (8 * l.length)) then 1 else 0
def wordN (l : List Nat) : Nat := gx l (8 * l.length) + 8192 * chk l + 49152
theorem wordN_lt {l : List Nat} (h : l.length ≤ 600) : wordN l < 65536 := by
  have := gx_lt l (8 * l.length) (by omega)
  unfold wordN chk
  split <;> omega
end Go.Proofs.Ytalejedajkhkjaa.HamMath
