/-
  Plain laws on bit lengths, powers of two, and the places that are none. No program in sight.
-/
import Derived.Test.YtalejedajkhkjaaBits
namespace Go.Proofs.Ytalejedajkhkjaa.LenMath
def len (p : Nat) : Nat := if p = 0 then 0 else Nat.log2 p + 1
def isPow (p : Nat) : Bool := decide (p = 2 ^ Nat.log2 p)
theorem len_lt (p : Nat) : p < 2 ^ len p := by
  unfold len
  split
  · omega
  · exact Nat.lt_log2_self
theorem len_le {p : Nat} (h : 0 < p) : 2 ^ (len p - 1) ≤ p ∧ 1 ≤ len p := by
  unfold len
  rw [if_neg (by omega)]
  exact ⟨Nat.log2_self_le (by omega), by omega⟩
theorem len_unique {p n : Nat} (h1 : 2 ^ n ≤ p) (h2 : p < 2 ^ (n + 1)) : len p = n + 1 := by
  have h0 : 0 < p := Nat.lt_of_lt_of_le (Nat.two_pow_pos n) h1
  obtain ⟨h3, h4⟩ := len_le h0
  have h5 := len_lt p
  have a : n < len p := (Nat.pow_lt_pow_iff_right (by decide : 1 < 2)).1 (Nat.lt_of_le_of_lt h1 h5)
  have b : len p - 1 < n + 1 := (Nat.pow_lt_pow_iff_right (by decide : 1 < 2)).1 (Nat.lt_of_le_of_lt h3 h2)
  omega
theorem isPow_iff {p : Nat} : isPow p = true ↔ ∃ m, p = 2 ^ m := by
  unfold isPow
  rw [decide_eq_true_eq]
  refine ⟨fun h => ⟨_, h⟩, fun ⟨m, h⟩ => ?_⟩
  rw [h, Nat.log2_two_pow]
theorem len_shift {p : Nat} (s : Nat) (h : 2 ^ s ≤ p) : len p = s + len (p / 2 ^ s) := by
  have hq : 0 < p / 2 ^ s := Nat.div_pos h (Nat.two_pow_pos s)
  obtain ⟨h1, h2⟩ := len_le hq
  have h3 := len_lt (p / 2 ^ s)
  obtain ⟨n, hn⟩ : ∃ n, len (p / 2 ^ s) = n + 1 := ⟨len (p / 2 ^ s) - 1, by omega⟩
  rw [hn] at h1 h3 ⊢
  have := len_unique (p := p) (n := s + n) (by
    rw [Nat.pow_add, Nat.mul_comm]
    exact (Nat.le_div_iff_mul_le (Nat.two_pow_pos s)).1 h1) (by
    rw [Nat.add_assoc, Nat.pow_add, Nat.mul_comm]
    exact (Nat.div_lt_iff_lt_mul (Nat.two_pow_pos s)).1 h3)
  omega
theorem len_succ {p : Nat} (h : 0 < p) : len (p + 1) = if isPow (p + 1) then len p + 1 else len p := by
  obtain ⟨h1, h2⟩ := len_le h
  have h3 := len_lt p
  obtain ⟨n, hn⟩ : ∃ n, len p = n + 1 := ⟨len p - 1, by omega⟩
  rw [hn] at h1 h3 ⊢
  simp only [Nat.add_sub_cancel] at h1
  by_cases hp : isPow (p + 1) = true
  · rw [if_pos hp]
    obtain ⟨m, hm⟩ := isPow_iff.1 hp
    have a : n < m := (Nat.pow_lt_pow_iff_right (by decide : 1 < 2)).1 (by omega)
    have b : m ≤ n + 1 := (Nat.pow_le_pow_iff_right (by decide : 1 < 2)).1 (by omega)
    have e : m = n + 1 := by omega
    rw [hm, e]
    refine len_unique (Nat.le_refl _) ?_
    rw [Nat.pow_succ 2 (n + 1)]
    have := Nat.two_pow_pos (n + 1)
    omega
  · rw [if_neg hp]
    refine len_unique (by omega) ?_
    have : p + 1 ≠ 2 ^ (n + 1) := fun e => hp (isPow_iff.2 ⟨_, e⟩)
    omega
theorem len_add {p : Nat} (h0 : 0 < p) (d : Nat) : len p ≤ len (p + d) ∧ len (p + d) - len p ≤ d := by
  induction d with
  | zero =>
    rw [Nat.add_zero]
    omega
  | succ d ih =>
    rw [← Nat.add_assoc, len_succ (by omega)]
    split <;> omega
theorem len_mono {p q : Nat} (h0 : 0 < p) (h : p ≤ q) : len p ≤ len q ∧ len q - len p ≤ q - p := by
  have := len_add h0 (q - p)
  rwa [show p + (q - p) = q by omega] at this
/-- among places that are no powers, the count below tells them apart -/
theorem place_unique {p q : Nat} (hp : isPow p = false) (hq : isPow q = false) (h0 : 0 < p) (h1 : 0 < q) (h : p - len p = q - len q) (hl : len p ≤ p) (hl' : len q ≤ q) : p = q := by
  have key : ∀ {p q : Nat}, isPow q = false → 0 < p → p < q → len p ≤ p → p - len p < q - len q := by
    intro p q hq h0 hlt hl
    obtain ⟨m, rfl⟩ : ∃ m, q = m + 1 := ⟨q - 1, by omega⟩
    have h1 := len_mono h0 (show p ≤ m by omega)
    rw [len_succ (by omega), hq, if_neg (by decide)]
    omega
  rcases Nat.lt_trichotomy p q with hlt | e | hlt
  · have := key hq h0 hlt hl
    omega
  · exact e
  · have := key hp h1 hlt hl'
    omega
theorem and_pow : ∀ n : Nat, 0 < n → ((n &&& (n - 1) = 0) ↔ isPow n = true) := by
  intro n
  induction n using Nat.strongRecOn with
  | _ n ih =>
    intro h
    rcases Nat.lt_or_ge n 2 with h2 | h2
    · have : n = 1 := by omega
      subst this
      decide
    · have bit : ∀ x y : Nat, (x &&& y) % 2 = x % 2 * (y % 2) := by
        intro x y
        have e : ∀ z : Nat, z % 2 = (z.testBit 0).toNat := fun z => by
          rw [Nat.toNat_testBit, Nat.pow_zero, Nat.div_one]
        rw [e x, e y, e (x &&& y), Nat.testBit_and]
        cases x.testBit 0 <;> cases y.testBit 0 <;> decide
      have hb := bit n (n - 1)
      have hd : (n &&& (n - 1)) / 2 = n / 2 &&& (n - 1) / 2 := Nat.and_div_two
      by_cases he : n % 2 = 0
      · have e1 : (n - 1) / 2 = n / 2 - 1 := by omega
        have hi := ih (n / 2) (by omega) (by omega)
        rw [e1] at hd
        rw [he, Nat.zero_mul] at hb
        have hz : (n &&& (n - 1) = 0) ↔ (n / 2 &&& (n / 2 - 1) = 0) := by
          generalize n &&& (n - 1) = x at hd hb ⊢
          generalize n / 2 &&& (n / 2 - 1) = y at hd ⊢
          omega
        rw [hz, hi, isPow_iff, isPow_iff]
        refine ⟨fun ⟨m, hm⟩ => ⟨m + 1, by rw [Nat.pow_succ]; omega⟩, fun ⟨m, hm⟩ => ?_⟩
        cases m with
        | zero => rw [Nat.pow_zero] at hm; omega
        | succ m => exact ⟨m, by rw [Nat.pow_succ] at hm; omega⟩
      · have e1 : (n - 1) / 2 = n / 2 := by omega
        rw [e1, Nat.and_self] at hd
        refine ⟨fun hz => ?_, fun hp => ?_⟩
        · rw [hz] at hd
          omega
        · obtain ⟨m, hm⟩ := isPow_iff.1 hp
          cases m with
          | zero => rw [Nat.pow_zero] at hm; omega
          | succ m => rw [Nat.pow_succ] at hm; omega
theorem isPow_half {n : Nat} (_ : 1 < n) (he : n % 2 = 0) : isPow (n / 2) = isPow n := by
  rw [Bool.eq_iff_iff, isPow_iff, isPow_iff]
  refine ⟨fun ⟨m, hm⟩ => ⟨m + 1, by rw [Nat.pow_succ]; omega⟩, fun ⟨m, hm⟩ => ?_⟩
  cases m with
  | zero => rw [Nat.pow_zero] at hm; omega
  | succ m => exact ⟨m, by rw [Nat.pow_succ] at hm; omega⟩
theorem isPow_odd {n : Nat} (h : 1 < n) (he : n % 2 ≠ 0) : isPow n = false := by
  rw [Bool.eq_false_iff]
  intro hp
  obtain ⟨m, hm⟩ := isPow_iff.1 hp
  cases m with
  | zero => rw [Nat.pow_zero] at hm; omega
  | succ m => rw [Nat.pow_succ] at hm; omega
theorem len_tab : ∀ b : Nat, b < 256 → len b = [0, 1, 2, 2, 3, 3, 3, 3].getD b (if b < 16 then 4 else if b < 32 then 5 else if b < 64 then 6 else if b < 128 then 7 else 8) := by decide +kernel
theorem len_le22 {p : Nat} (h : p < 4194304) : len p ≤ 22 := by
  rcases Nat.eq_zero_or_pos p with e | h0
  · subst e
    decide
  · obtain ⟨h1, h2⟩ := len_le h0
    have : len p - 1 < 22 := (Nat.pow_lt_pow_iff_right (by decide : 1 < 2)).1 (Nat.lt_of_le_of_lt h1 (by simpa using h))
    omega
/-- a place: the place behind as many as are asked for -/
def IsPlace (n p : Nat) : Prop := isPow p = false ∧ p = n + 1 + len p ∧ 3 ≤ p
theorem place_same {n p q : Nat} (hp : IsPlace n p) (hq : IsPlace n q) : p = q := by
  obtain ⟨h1, h2, h3⟩ := hp
  obtain ⟨h4, h5, h6⟩ := hq
  exact place_unique h1 h4 (by omega) (by omega) (by omega) (by omega) (by omega)
theorem place_of {p : Nat} (h : isPow p = false) (h3 : 3 ≤ p) : ∃ n, IsPlace n p := by
  have h1 := len_add (p := 3) (by omega) (p - 3)
  have e : len 3 = 2 := by decide
  rw [show 3 + (p - 3) = p by omega, e] at h1
  exact ⟨p - 1 - len p, h, by omega, h3⟩
def placeFrom (n : Nat) : Nat → Nat → Nat
  | 0, p => p
  | d + 1, p => if p < n + 1 + len p then placeFrom n d (p + 1) else p
def place (n : Nat) : Nat := placeFrom n 21 (n + 3)
theorem placeFrom_is {n : Nat} (hn : n ≤ 1048576) (d : Nat) : ∀ p : Nat, 3 ≤ p → p + d = n + 24 → p ≤ n + 1 + len p → (isPow p = false ∨ p < n + 1 + len p) → IsPlace n (placeFrom n d p) := by
  induction d with
  | zero =>
    intro p h3 hd hle _
    have := len_le22 (p := p) (by omega)
    omega
  | succ d ih =>
    intro p h3 hd hle hor
    have hl := len_le22 (p := p) (by omega)
    unfold placeFrom
    by_cases he : p < n + 1 + len p
    · rw [if_pos he]
      have hs := len_succ (p := p) (by omega)
      exact ih (p + 1) (by omega) (by omega) (by rw [hs]; split <;> omega) (by
        rw [hs]
        cases isPow (p + 1)
        · exact Or.inl rfl
        · exact Or.inr (by rw [if_pos rfl]; omega))
    · rw [if_neg he]
      have hpw : isPow p = false := by
        rcases hor with h | h
        · exact h
        · omega
      exact ⟨hpw, by omega, h3⟩
theorem isPlace_place {n : Nat} (hn : n ≤ 1048576) : IsPlace n (place n) := by
  have h2 : 2 ≤ len (n + 3) := by
    have := (len_mono (p := 3) (q := n + 3) (by omega) (by omega)).1
    have h3 : len 3 = 2 := by decide
    omega
  refine placeFrom_is hn 21 (n + 3) (by omega) (by omega) (by omega) ?_
  rcases Nat.eq_zero_or_pos n with e | h0
  · subst e
    exact Or.inl (by decide)
  · have := (len_mono (p := 4) (q := n + 3) (by omega) (by omega)).1
    have h3 : len 4 = 3 := by decide
    exact Or.inr (by omega)
end Go.Proofs.Ytalejedajkhkjaa.LenMath
