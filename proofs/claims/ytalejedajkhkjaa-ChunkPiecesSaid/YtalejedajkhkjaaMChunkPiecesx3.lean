/-
  Texts for the law ChunkPieces, laid together by my program merge2.py; what nothing here names is left out.
-/
import Derived.Test.YtalejedajkhkjaaMChunkPiecesx2
import Derived.Laws.BytesArg
namespace Go.Proofs.Ytalejedajkhkjaa.LenMath
def len (p : Nat) : Nat := if p = 0 then 0 else Nat.log2 p + 1
def isPow (p : Nat) : Bool := decide (p = 2 ^ Nat.log2 p)
theorem len_lt (p : Nat) : p < 2 ^ len p := by
  unfold len
  split
  · omega
  · exact Nat.lt_log2_self
theorem len_le {p : Nat} (h : 0 < p) : 2 ^ (len p - 1) ≤ p ∧ 1 ≤ len p := by
  unfold len
  rw [if_neg (by omega)]
  exact ⟨Nat.log2_self_le (by omega), by omega⟩
theorem len_unique {p n : Nat} (h1 : 2 ^ n ≤ p) (h2 : p < 2 ^ (n + 1)) : len p = n + 1 := by
  have h0 : 0 < p := Nat.lt_of_lt_of_le (Nat.two_pow_pos n) h1
  obtain ⟨h3, h4⟩ := len_le h0
  have h5 := len_lt p
  have a : n < len p := (Nat.pow_lt_pow_iff_right (by decide : 1 < 2)).1 (Nat.lt_of_le_of_lt h1 h5)
  have b : len p - 1 < n + 1 := (Nat.pow_lt_pow_iff_right (by decide : 1 < 2)).1 (Nat.lt_of_le_of_lt h3 h2)
  omega
theorem isPow_iff {p : Nat} : isPow p = true ↔ ∃ m, p = 2 ^ m := by
  unfold isPow
  rw [decide_eq_true_eq]
  refine ⟨fun h => ⟨_, h⟩, fun ⟨m, h⟩ => ?_⟩
  rw [h, Nat.log2_two_pow]
theorem len_shift {p : Nat} (s : Nat) (h : 2 ^ s ≤ p) : len p = s + len (p / 2 ^ s) := by
  have hq : 0 < p / 2 ^ s := Nat.div_pos h (Nat.two_pow_pos s)
  obtain ⟨h1, h2⟩ := len_le hq
  have h3 := len_lt (p / 2 ^ s)
  obtain ⟨n, hn⟩ : ∃ n, len (p / 2 ^ s) = n + 1 := ⟨len (p / 2 ^ s) - 1, by omega⟩
  rw [hn] at h1 h3 ⊢
  have := len_unique (p := p) (n := s + n) (by
    rw [Nat.pow_add, Nat.mul_comm]
    exact (Nat.le_div_iff_mul_le (Nat.two_pow_pos s)).1 h1) (by
    rw [Nat.add_assoc, Nat.pow_add, Nat.mul_comm]
    exact (Nat.div_lt_iff_lt_mul (Nat.two_pow_pos s)).1 h3)
  omega
theorem len_succ {p : Nat} (h : 0 < p) : len (p + 1) = if isPow (p + 1) then len p + 1 else len p := by
  obtain ⟨h1, h2⟩ := len_le h
  have h3 := len_lt p
  obtain ⟨n, hn⟩ : ∃ n, len p = n + 1 := ⟨len p - 1, by omega⟩
  rw [hn] at h1 h3 ⊢
  simp only [Nat.add_sub_cancel] at h1
  by_cases hp : isPow (p + 1) = true
  · rw [if_pos hp]
    obtain ⟨m, hm⟩ := isPow_iff.1 hp
    have a : n < m := (Nat.pow_lt_pow_iff_right (by decide : 1 < 2)).1 (by omega)
    have b : m ≤ n + 1 := (Nat.pow_le_pow_iff_right (by decide : 1 < 2)).1 (by omega)
    have e : m = n + 1 := by omega
    rw [hm, e]
    refine len_unique (Nat.le_refl _) ?_
    rw [Nat.pow_succ 2 (n + 1)]
    have := Nat.two_pow_pos (n + 1)
    omega
  · rw [if_neg hp]
    refine len_unique (by omega) ?_
    have : p + 1 ≠ 2 ^ (n + 1) := fun e => hp (isPow_iff.2 ⟨_, e⟩)
    omega
theorem len_add {p : Nat} (h0 : 0 < p) (d : Nat) : len p ≤ len (p + d) ∧ len (p + d) - len p ≤ d := by
  induction d with
  | zero =>
    rw [Nat.add_zero]
    omega
  | succ d ih =>
    rw [← Nat.add_assoc, len_succ (by omega)]
    split <;> omega
theorem len_mono {p q : Nat} (h0 : 0 < p) (h : p ≤ q) : len p ≤ len q ∧ len q - len p ≤ q - p := by
  have := len_add h0 (q - p)
  rwa [show p + (q - p) = q by omega] at this
theorem place_unique {p q : Nat} (hp : isPow p = false) (hq : isPow q = false) (h0 : 0 < p) (h1 : 0 < q) (h : p - len p = q - len q) (hl : len p ≤ p) (hl' : len q ≤ q) : p = q := by
  have key : ∀ {p q : Nat}, isPow q = false → 0 < p → p < q → len p ≤ p → p - len p < q - len q := by
    intro p q hq h0 hlt hl
    obtain ⟨m, rfl⟩ : ∃ m, q = m + 1 := ⟨q - 1, by omega⟩
    have h1 := len_mono h0 (show p ≤ m by omega)
    rw [len_succ (by omega), hq, if_neg (by decide)]
    omega
  rcases Nat.lt_trichotomy p q with hlt | e | hlt
  · have := key hq h0 hlt hl
    omega
  · exact e
  · have := key hp h1 hlt hl'
    omega
theorem and_pow : ∀ n : Nat, 0 < n → ((n &&& (n - 1) = 0) ↔ isPow n = true) := by
  intro n
  induction n using Nat.strongRecOn with
  | _ n ih =>
    intro h
    rcases Nat.lt_or_ge n 2 with h2 | h2
    · have : n = 1 := by omega
      subst this
      decide
    · have bit : ∀ x y : Nat, (x &&& y) % 2 = x % 2 * (y % 2) := by
        intro x y
        have e : ∀ z : Nat, z % 2 = (z.testBit 0).toNat := fun z => by
          rw [Nat.toNat_testBit, Nat.pow_zero, Nat.div_one]
        rw [e x, e y, e (x &&& y), Nat.testBit_and]
        cases x.testBit 0 <;> cases y.testBit 0 <;> decide
      have hb := bit n (n - 1)
      have hd : (n &&& (n - 1)) / 2 = n / 2 &&& (n - 1) / 2 := Nat.and_div_two
      by_cases he : n % 2 = 0
      · have e1 : (n - 1) / 2 = n / 2 - 1 := by omega
        have hi := ih (n / 2) (by omega) (by omega)
        rw [e1] at hd
        rw [he, Nat.zero_mul] at hb
        have hz : (n &&& (n - 1) = 0) ↔ (n / 2 &&& (n / 2 - 1) = 0) := by
          generalize n &&& (n - 1) = x at hd hb ⊢
          generalize n / 2 &&& (n / 2 - 1) = y at hd ⊢
          omega
        rw [hz, hi, isPow_iff, isPow_iff]
        refine ⟨fun ⟨m, hm⟩ => ⟨m + 1, by rw [Nat.pow_succ]; omega⟩, fun ⟨m, hm⟩ => ?_⟩
        cases m with
        | zero => rw [Nat.pow_zero] at hm; omega
        | succ m => exact ⟨m, by rw [Nat.pow_succ] at hm; omega⟩
      · have e1 : (n - 1) / 2 = n / 2 := by omega
        rw [e1, Nat.and_self] at hd
        refine ⟨fun hz => ?_, fun hp => ?_⟩
        · rw [hz] at hd
          omega
        · obtain ⟨m, hm⟩ := isPow_iff.1 hp
          cases m with
          | zero => rw [Nat.pow_zero] at hm; omega
          | succ m => rw [Nat.pow_succ] at hm; omega
theorem len_le22 {p : Nat} (h : p < 4194304) : len p ≤ 22 := by
  rcases Nat.eq_zero_or_pos p with e | h0
  · subst e
    decide
  · obtain ⟨h1, h2⟩ := len_le h0
    have : len p - 1 < 22 := (Nat.pow_lt_pow_iff_right (by decide : 1 < 2)).1 (Nat.lt_of_le_of_lt h1 (by simpa using h))
    omega
def IsPlace (n p : Nat) : Prop := isPow p = false ∧ p = n + 1 + len p ∧ 3 ≤ p
theorem place_same {n p q : Nat} (hp : IsPlace n p) (hq : IsPlace n q) : p = q := by
  obtain ⟨h1, h2, h3⟩ := hp
  obtain ⟨h4, h5, h6⟩ := hq
  exact place_unique h1 h4 (by omega) (by omega) (by omega) (by omega) (by omega)
theorem place_of {p : Nat} (h : isPow p = false) (h3 : 3 ≤ p) : ∃ n, IsPlace n p := by
  have h1 := len_add (p := 3) (by omega) (p - 3)
  have e : len 3 = 2 := by decide
  rw [show 3 + (p - 3) = p by omega, e] at h1
  exact ⟨p - 1 - len p, h, by omega, h3⟩
def placeFrom (n : Nat) : Nat → Nat → Nat
  | 0, p => p
  | d + 1, p => if p < n + 1 + len p then placeFrom n d (p + 1) else p
def place (n : Nat) : Nat := placeFrom n 21 (n + 3)
theorem placeFrom_is {n : Nat} (hn : n ≤ 1048576) (d : Nat) : ∀ p : Nat, 3 ≤ p → p + d = n + 24 → p ≤ n + 1 + len p → (isPow p = false ∨ p < n + 1 + len p) → IsPlace n (placeFrom n d p) := by
  induction d with
  | zero =>
    intro p h3 hd hle _
    have := len_le22 (p := p) (by omega)
    omega
  | succ d ih =>
    intro p h3 hd hle hor
    have hl := len_le22 (p := p) (by omega)
    unfold placeFrom
    by_cases he : p < n + 1 + len p
    · rw [if_pos he]
      have hs := len_succ (p := p) (by omega)
      exact ih (p + 1) (by omega) (by omega) (by rw [hs]; split <;> omega) (by
        rw [hs]
        cases isPow (p + 1)
        · exact Or.inl rfl
        · exact Or.inr (by rw [if_pos rfl]; omega))
    · rw [if_neg he]
      have hpw : isPow p = false := by
        rcases hor with h | h
        · exact h
        · omega
      exact ⟨hpw, by omega, h3⟩
theorem isPlace_place {n : Nat} (hn : n ≤ 1048576) : IsPlace n (place n) := by
  have h2 : 2 ≤ len (n + 3) := by
    have := (len_mono (p := 3) (q := n + 3) (by omega) (by omega)).1
    have h3 : len 3 = 2 := by decide
    omega
  refine placeFrom_is hn 21 (n + 3) (by omega) (by omega) (by omega) ?_
  rcases Nat.eq_zero_or_pos n with e | h0
  · subst e
    exact Or.inl (by decide)
  · have := (len_mono (p := 4) (q := n + 3) (by omega) (by omega)).1
    have h3 : len 4 = 3 := by decide
    exact Or.inr (by omega)
end Go.Proofs.Ytalejedajkhkjaa.LenMath
namespace Go.Proofs.Ytalejedajkhkjaa.QChunkPieces
open Go.RowKit Go.Proofs.YtalejedajkhkjaaW.PrintWords Go.Proofs.YtalejedajkhkjaaW.PrintLast Go.Proofs.YtalejedajkhkjaaW.PrintMore
attribute [local go_sem] max2_int min2_int max_two min_two max_three min_three max_four min_four   -- for this text's walks alone
set_option linter.unusedVariables false
set_option linter.unusedSimpArgs false
end Go.Proofs.Ytalejedajkhkjaa.QChunkPieces
namespace Go.Proofs.Ytalejedajkhkjaa.PureChunkPieces
open Go.RowKit Go.Proofs.Ytalejedajkhkjaa.QChunkPieces Go.Proofs.YtalejedajkhkjaaW.PrintWords Go.Proofs.YtalejedajkhkjaaW.PrintLast Go.Proofs.YtalejedajkhkjaaW.PrintMore Go.Proofs.Ytalejedajkhkjaa.EvKit Go.Proofs.Ytalejedajkhkjaa.BitsKit Go.Proofs.Ytalejedajkhkjaa.LenMath
theorem tab_len : ∀ b : Nat, b < 256 → bt (⟨#[0, 1, 2, 2, 3, 3, 3, 3, 4, 4, 4, 4, 4, 4, 4, 4, 5, 5, 5, 5, 5, 5, 5, 5, 5, 5, 5, 5, 5, 5, 5, 5, 6, 6, 6, 6, 6, 6, 6, 6, 6, 6, 6, 6, 6, 6, 6, 6, 6, 6, 6, 6, 6, 6, 6, 6, 6, 6, 6, 6, 6, 6, 6, 6, 7, 7, 7, 7, 7, 7, 7, 7, 7, 7, 7, 7, 7, 7, 7, 7, 7, 7, 7, 7, 7, 7, 7, 7, 7, 7, 7, 7, 7, 7, 7, 7, 7, 7, 7, 7, 7, 7, 7, 7, 7, 7, 7, 7, 7, 7, 7, 7, 7, 7, 7, 7, 7, 7, 7, 7, 7, 7, 7, 7, 7, 7, 7, 7, 8, 8, 8, 8, 8, 8, 8, 8, 8, 8, 8, 8, 8, 8, 8, 8, 8, 8, 8, 8, 8, 8, 8, 8, 8, 8, 8, 8, 8, 8, 8, 8, 8, 8, 8, 8, 8, 8, 8, 8, 8, 8, 8, 8, 8, 8, 8, 8, 8, 8, 8, 8, 8, 8, 8, 8, 8, 8, 8, 8, 8, 8, 8, 8, 8, 8, 8, 8, 8, 8, 8, 8, 8, 8, 8, 8, 8, 8, 8, 8, 8, 8, 8, 8, 8, 8, 8, 8, 8, 8, 8, 8, 8, 8, 8, 8, 8, 8, 8, 8, 8, 8, 8, 8, 8, 8, 8, 8, 8, 8, 8, 8, 8, 8, 8, 8, 8, 8, 8, 8, 8, 8, 8, 8, 8, 8, 8, 8]⟩ : ByteArray) (b : Int) = ((len b : Nat) : Int) := by
  decide +kernel
theorem len_ev {p : Nat} (hp : p < 4194304) : Ev (fun k => bits_Len.f k (p : Int)) ((len p : Nat) : Int) := by
  refine Ev.congr (fun k => by rw [bits_Len.f]) ?_
  refine Ev.bind (a := ((len p : Nat) : Int)) ?_ (Ev.ret rfl)
  refine Ev.congr (fun k => by rw [bits_Len64.f]) ?_
  refine Ev.neg (by omega) ?_
  refine Ev.step (fun k => bits_Len64.j0.eq_2 ..) ?_
  refine Ev.ite (fun h1 => ?_) (fun h1 => ?_)
  · refine Ev.neg (by omega) ?_
    refine Ev.pos (by omega) (Ev.pos (by omega) (Ev.ret ?_))
    have hs := len_shift (p := p) 16 (by omega)
    have e : ((p : Int) / 65536) % 256 = ((p / 65536 : Nat) : Int) := by omega
    have h2 := len_le22 hp
    rw [show 2 ^ 16 = 65536 from rfl] at hs
    rw [e, tab_len _ (by omega)]
    clear e
    generalize len (p / 65536) = x at hs ⊢
    rw [w64_id (x := (0 : Int) + 16) (by decide) (by decide), w64_id (x := (x : Int)) (by omega) (by omega), w64_id (by omega) (by omega)]
    omega
  · refine Ev.ite (fun h2 => ?_) (fun h2 => ?_)
    · refine Ev.pos (by omega) (Ev.pos (by omega) (Ev.ret ?_))
      have hs := len_shift (p := p) 8 (by omega)
      have e : ((p : Int) / 256) % 256 = ((p / 256 : Nat) : Int) := by omega
      have h2 := len_le22 hp
      rw [show 2 ^ 8 = 256 from rfl] at hs
      rw [e, tab_len _ (by omega)]
      clear e
      generalize len (p / 256) = x at hs ⊢
      rw [w64_id (x := (0 : Int) + 8) (by decide) (by decide), w64_id (x := (x : Int)) (by omega) (by omega), w64_id (by omega) (by omega)]
      omega
    · refine Ev.pos (by omega) (Ev.pos (by omega) (Ev.ret ?_))
      have e : (p : Int) % 256 = ((p : Nat) : Int) := by omega
      have h2 := len_le22 hp
      rw [e, tab_len _ (by omega)]
      clear e
      generalize len p = x at h2 ⊢
      rw [w64_id (x := (x : Int)) (by omega) (by omega), w64_id (by omega) (by omega)]
      omega
theorem wi64 (n : Int) (h₀ : 0 ≤ n) (h₁ : n < 2 ^ 63) : IntKind.i64.wrap n = n := by
  have e : (2 : Int) ^ 63 = 9223372036854775808 := by decide
  rw [e] at h₁
  simp [IntKind.wrap, IntKind.bits, IntKind.signed]
  omega
theorem and_i64 {a b : Nat} (ha : a < 4611686018427387904) (hb : b < 4611686018427387904) : Go.bits .and .i64 a b = ((a &&& b : Nat) : Int) :=
  (bits_nat .i64 63 (by decide) wi64 a b (by omega) (by omega)).1
theorem pow_test {p : Nat} (h0 : 0 < p) (hp : p < 4194304) : (Go.bits .and .i64 (p : Int) (wrap64 ((p : Int) - 1)) = 0) ↔ isPow p = true := by
  have e : wrap64 ((p : Int) - 1) = ((p - 1 : Nat) : Int) := by rw [w64_id (by omega) (by omega)]; omega
  rw [e, and_i64 (by omega) (by omega), ← and_pow p h0]
  omega
theorem place_l1 {p : Nat} (h0 : 0 < p) (hp : p < 4194304) (h : isPow p = false) : Ev (fun k => hamming_Place.l1 k (p : Int)) (p : Int) := by
  refine Ev.step (fun k => hamming_Place.l1.eq_2 ..) ?_
  refine Ev.neg (fun e => ?_) (Ev.ret rfl)
  rw [(pow_test h0 hp).1 e] at h
  exact absurd h (by decide)
theorem place_l0 {n : Nat} (hn : n ≤ 1048576) (d : Nat) : ∀ p : Nat, 3 ≤ p → p + d = n + 24 → p ≤ n + 1 + len p → (isPow p = false ∨ p < n + 1 + len p) →
    ∃ r : Nat, Ev (fun k => hamming_Place.l0 k (n : Int) (p : Int)) (r : Int) ∧ IsPlace n r ∧ r < 4194304 := by
  induction d with
  | zero =>
    intro p h3 hd hle _
    have := len_le22 (p := p) (by omega)
    omega
  | succ d ih =>
    intro p h3 hd hle hor
    have hl := len_le22 (p := p) (by omega)
    have ev := len_ev (p := p) (by omega)
    by_cases he : p < n + 1 + len p
    · have hs := len_succ (p := p) (by omega)
      obtain ⟨r, hr, h1, h2⟩ := ih (p + 1) (by omega) (by omega) (by rw [hs]; split <;> omega) (by
        rw [hs]
        cases isPow (p + 1)
        · exact Or.inl rfl
        · exact Or.inr (by rw [if_pos rfl]; omega))
      refine ⟨r, ?_, h1, h2⟩
      refine Ev.step (fun k => hamming_Place.l0.eq_2 ..) ?_
      rw [w_u64 _ (by omega) (by omega)]
      refine Ev.bind ev ?_
      clear ev hs
      generalize len p = x at he hle hl ⊢
      rw [w64_id (by omega) (by omega), w64_id (by omega) (by omega), w64_succ (by omega)]
      exact Ev.pos (by omega) hr
    · have hpw : isPow p = false := by
        rcases hor with h | h
        · exact h
        · omega
      refine ⟨p, ?_, ⟨hpw, by omega, h3⟩, by omega⟩
      refine Ev.step (fun k => hamming_Place.l0.eq_2 ..) ?_
      rw [w_u64 _ (by omega) (by omega)]
      refine Ev.bind ev ?_
      clear ev
      have hl1 := place_l1 (p := p) (by omega) (by omega) hpw
      generalize len p = x at he hle hl ⊢
      rw [w64_id (by omega) (by omega), w64_id (x := (n : Int) + 1) (by omega) (by omega)]
      exact Ev.neg (by omega) hl1
theorem place_ev {n : Nat} (hn : n ≤ 1048576) : ∃ r : Nat, Ev (fun k => hamming_Place.f k (n : Int)) (r : Int) ∧ IsPlace n r ∧ r < 4194304 := by
  have h2 : 2 ≤ len (n + 3) := by
    have := (len_mono (p := 3) (q := n + 3) (by omega) (by omega)).1
    have h3 : len 3 = 2 := by decide
    omega
  obtain ⟨r, hr, h⟩ := place_l0 hn 21 (n + 3) (by omega) (by omega) (by omega) (by
    rcases Nat.eq_zero_or_pos n with e | h0
    · subst e
      exact Or.inl (by decide)
    · have := (len_mono (p := 4) (q := n + 3) (by omega) (by omega)).1
      have h3 : len 4 = 3 := by decide
      exact Or.inr (by omega))
  refine ⟨r, ?_, h⟩
  refine Ev.congr (fun k => by rw [hamming_Place.f]) ?_
  refine Ev.neg (by omega) ?_
  rw [decide_eq_false (by omega)]
  refine Ev.step (fun k => hamming_Place.j0.eq_2 ..) ?_
  refine Ev.neg (by decide) ?_
  rw [w64_id (by omega) (by omega)]
  exact hr
theorem place_is_ev {n : Nat} (hn : n ≤ 1048576) : Ev (fun k => hamming_Place.f k (n : Int)) ((place n : Nat) : Int) := by
  obtain ⟨r, hr, hp, _⟩ := place_ev hn
  rw [← place_same hp (isPlace_place hn)]
  exact hr
theorem bit_place {n p : Nat} (h : IsPlace n p) (h4 : p ≤ 2097152) : Ev (fun k => hamming_Bit.f k (p : Int)) ((n : Int), true) := by
  obtain ⟨h1, h2, h3⟩ := h
  have hl := len_le22 (p := p) (by omega)
  refine Ev.congr (fun k => by rw [hamming_Bit.f]) ?_
  refine Ev.neg (by omega) (Ev.neg (by omega) (Ev.neg (fun e => ?_) ?_))
  · rw [(pow_test (by omega) (by omega)).1 e] at h1
    exact absurd h1 (by decide)
  · rw [w_u64 _ (by omega) (by omega)]
    refine Ev.bind (len_ev (by omega)) (Ev.ret ?_)
    generalize len p = x at h2 hl ⊢
    rw [w64_id (x := (p : Int) - (x : Int)) (by omega) (by omega), w64_id (by omega) (by omega), show (p : Int) - (x : Int) - 1 = (n : Int) from by omega]
end Go.Proofs.Ytalejedajkhkjaa.PureChunkPieces
namespace Go.Proofs.Ytalejedajkhkjaa.CrcMath
def round (c : Nat) : Nat := c / 2 ^^^ (if c % 2 = 1 then 3988292384 else 0)
def rounds : Nat → Nat → Nat
  | 0, c => c
  | n + 1, c => rounds n (round c)
def crcStep (c b : Nat) : Nat := rounds 8 (c ^^^ b)
def run (c : Nat) (l : List Nat) : Nat := l.foldl crcStep c
def sum (l : List Nat) : Nat := 4294967295 ^^^ run 4294967295 l
theorem xor_swap (a b c d : Nat) : (a ^^^ b) ^^^ (c ^^^ d) = (a ^^^ c) ^^^ (b ^^^ d) := by
  rw [Nat.xor_assoc, ← Nat.xor_assoc b c d, Nat.xor_comm b c, Nat.xor_assoc c b d, ← Nat.xor_assoc]
def bitsOf : Nat → Nat → List Nat
  | 0, _ => []
  | n + 1, b => b % 2 :: bitsOf n (b / 2)
end Go.Proofs.Ytalejedajkhkjaa.CrcMath
namespace Go.Proofs.Ytalejedajkhkjaa.CrcMath
def bitAt (l : List Nat) (i : Nat) : Nat := l.getD (i / 8) 0 / 2 ^ (i % 8) % 2
end Go.Proofs.Ytalejedajkhkjaa.CrcMath
namespace Go.Proofs.Ytalejedajkhkjaa.BitsMath
open Go.Proofs.Ytalejedajkhkjaa.CrcMath
def flip1 (l : List Nat) (i : Int) : List Nat := if 0 ≤ i ∧ i / 8 < (l.length : Int) then l.set (i.toNat / 8) (l.getD (i.toNat / 8) 0 ^^^ 2 ^ (i.toNat % 8)) else l
def flips (l : List Nat) (at_ : List Int) : List Nat := at_.foldl flip1 l
def ones (b : Nat) : Nat := (bitsOf 8 b).sum
def count (l : List Nat) : Nat := (l.map ones).sum
theorem flip1_length (l : List Nat) (i : Int) : (flip1 l i).length = l.length := by
  unfold flip1
  split
  · exact List.length_set
  · rfl
theorem flip1_lt {l : List Nat} (h : ∀ b ∈ l, b < 256) (i : Int) : ∀ b ∈ flip1 l i, b < 256 := by
  unfold flip1
  split
  · intro b hb
    rcases List.mem_or_eq_of_mem_set hb with hb | rfl
    · exact h b hb
    · have h1 : 2 ^ (i.toNat % 8) < 2 ^ 8 := Nat.pow_lt_pow_right (by decide) (Nat.mod_lt _ (by decide))
      refine Nat.xor_lt_two_pow (n := 8) ?_ h1
      rw [List.getD_eq_getElem?_getD]
      cases e : l[i.toNat / 8]? with
      | none => decide
      | some x => exact h x (List.mem_of_getElem? e)
  · exact h
theorem flips_length : ∀ (at_ : List Int) (l : List Nat), (flips l at_).length = l.length
  | [], _ => rfl
  | i :: at_, l => by
    show (flips (flip1 l i) at_).length = _
    rw [flips_length at_, flip1_length]
theorem flips_lt : ∀ (at_ : List Int) {l : List Nat}, (∀ b ∈ l, b < 256) → ∀ b ∈ flips l at_, b < 256
  | [], _, h => h
  | i :: at_, _, h => flips_lt at_ (flip1_lt h i)
theorem ones_le (b : Nat) : ones b ≤ 8 := by
  unfold ones
  simp only [bitsOf, List.sum_cons, List.sum_nil]
  omega
end Go.Proofs.Ytalejedajkhkjaa.BitsMath
namespace Go.Proofs.Ytalejedajkhkjaa.BitsMath
open Go.Proofs.Ytalejedajkhkjaa.CrcMath
theorem bitAt_test (l : List Nat) (i : Nat) : bitAt l i = ((l.getD (i / 8) 0).testBit (i % 8)).toNat := by
  unfold bitAt
  rw [Nat.testBit_eq_decide_div_mod_eq]
  generalize l.getD (i / 8) 0 / 2 ^ (i % 8) = q
  rcases Nat.mod_two_eq_zero_or_one q with h | h <;> rw [h] <;> rfl
theorem bitAt_flip1 (l : List Nat) (i : Nat) (hi : i / 8 < l.length) (j : Nat) : bitAt (flip1 l (i : Int)) j = if i = j then 1 - bitAt l j else bitAt l j := by
  unfold flip1
  rw [if_pos (by omega), Int.toNat_natCast, bitAt_test, bitAt_test]
  rw [List.getD_eq_getElem?_getD (l := l.set _ _), List.getElem?_set]
  by_cases h1 : i / 8 = j / 8
  · rw [if_pos h1, if_pos hi, Option.getD_some, Nat.testBit_xor, Nat.testBit_two_pow, h1]
    by_cases h2 : i % 8 = j % 8
    · rw [if_pos (by omega), h2]
      cases (l.getD (j / 8) 0).testBit (j % 8) <;> simp
    · rw [if_neg (by omega), decide_eq_false h2, Bool.xor_false]
  · rw [if_neg h1, if_neg (fun h => h1 (by rw [h])), List.getD_eq_getElem?_getD]
end Go.Proofs.Ytalejedajkhkjaa.BitsMath
namespace Go.Proofs.Ytalejedajkhkjaa.BitsMath
open Go.Proofs.Ytalejedajkhkjaa.CrcMath
theorem getD_lt {l : List Nat} (h : ∀ b ∈ l, b < 256) (i : Nat) : l.getD i 0 < 256 := by
  rw [List.getD_eq_getElem?_getD]
  cases e : l[i]? with
  | none => decide
  | some x => exact h x (List.mem_of_getElem? e)
def diffN (a b : List Nat) : List Nat := (List.range (8 * min a.length b.length)).filter fun i => bitAt a i ≠ bitAt b i
end Go.Proofs.Ytalejedajkhkjaa.BitsMath
namespace Go.Proofs.Ytalejedajkhkjaa.BitsMath
open Go.RowKit Go.Proofs.Ytalejedajkhkjaa.CrcMath
theorem bitAt_lt2 (l : List Nat) (i : Nat) : bitAt l i < 2 := Nat.mod_lt _ (by decide)
theorem bits_ext {a b : List Nat} (ha : ∀ x ∈ a, x < 256) (hb : ∀ x ∈ b, x < 256) (hl : a.length = b.length) (h : ∀ j, j < 8 * a.length → bitAt a j = bitAt b j) : a = b := by
  refine List.ext_getElem hl (fun i h1 h2 => ?_)
  have hai := ha _ (List.getElem_mem h1)
  have hbi := hb _ (List.getElem_mem h2)
  refine Nat.eq_of_testBit_eq (fun j => ?_)
  by_cases hj : j < 8
  · have := h (8 * i + j) (by omega)
    rw [bitAt_test, bitAt_test, show (8 * i + j) / 8 = i by omega, show (8 * i + j) % 8 = j by omega, List.getD_eq_getElem?_getD, List.getD_eq_getElem?_getD, List.getElem?_eq_getElem h1, List.getElem?_eq_getElem h2, Option.getD_some, Option.getD_some] at this
    revert this
    cases a[i].testBit j <;> cases b[i].testBit j <;> decide
  · have hp : 2 ^ 8 ≤ 2 ^ j := Nat.pow_le_pow_right (by decide) (by omega)
    rw [Nat.testBit_lt_two_pow (Nat.lt_of_lt_of_le hai hp), Nat.testBit_lt_two_pow (Nat.lt_of_lt_of_le hbi hp)]
theorem flips_bits : ∀ (p : List Nat) (l : List Nat), p.Nodup → (∀ i ∈ p, i / 8 < l.length) → ∀ j, bitAt (flips l (p.map fun i : Nat => (i : Int))) j = if j ∈ p then 1 - bitAt l j else bitAt l j
  | [], l, _, _, j => by simp [flips]
  | i :: p, l, hn, hp, j => by
    obtain ⟨hi, hn'⟩ := List.nodup_cons.1 hn
    have hil := hp i (List.mem_cons_self ..)
    have h := flips_bits p (flip1 l (i : Int)) hn' (fun k hk => by rw [flip1_length]; exact hp k (List.mem_cons_of_mem _ hk)) j
    show bitAt (flips (flip1 l (i : Int)) (p.map fun i : Nat => (i : Int))) j = _
    rw [h, bitAt_flip1 l i hil]
    by_cases e : i = j
    · subst e
      rw [if_neg hi, if_pos rfl, if_pos (List.mem_cons_self ..)]
    · rw [if_neg e]
      by_cases hj : j ∈ p
      · rw [if_pos hj, if_pos (List.mem_cons_of_mem _ hj)]
      · rw [if_neg hj, if_neg (fun hm => by
          rcases List.mem_cons.1 hm with hm | hm
          · exact e hm.symm
          · exact hj hm)]
theorem mem_diffN {a b : List Nat} {j : Nat} : j ∈ diffN a b ↔ j < 8 * min a.length b.length ∧ bitAt a j ≠ bitAt b j := by
  unfold diffN
  rw [List.mem_filter, List.mem_range]
  simp
theorem diffN_nodup (a b : List Nat) : (diffN a b).Nodup := List.Pairwise.filter _ List.nodup_range
theorem flips_diff {a b : List Nat} (ha : ∀ x ∈ a, x < 256) (hb : ∀ x ∈ b, x < 256) (hl : a.length = b.length) : flips a ((diffN a b).map fun i : Nat => (i : Int)) = b := by
  refine bits_ext (flips_lt _ ha) hb (by rw [flips_length]; exact hl) (fun j hj => ?_)
  rw [flips_length] at hj
  rw [flips_bits _ a (diffN_nodup a b) (fun i hi => by have := (mem_diffN.1 hi).1; omega) j]
  have h1 := bitAt_lt2 a j
  have h2 := bitAt_lt2 b j
  by_cases h : j ∈ diffN a b
  · rw [if_pos h]
    have := (mem_diffN.1 h).2
    omega
  · rw [if_neg h]
    by_cases e : bitAt a j = bitAt b j
    · exact e
    · exact absurd (mem_diffN.2 ⟨by omega, e⟩) h
end Go.Proofs.Ytalejedajkhkjaa.BitsMath
namespace Go.Proofs.Ytalejedajkhkjaa.HamMath
open Go.RowKit Go.Proofs.Ytalejedajkhkjaa.CrcMath Go.Proofs.Ytalejedajkhkjaa.BitsMath Go.Proofs.Ytalejedajkhkjaa.LenMath
def gx (l : List Nat) : Nat → Nat
  | 0 => 0
  | m + 1 => if bitAt l m = 1 then gx l m ^^^ place m else gx l m
def go (l : List Nat) : Nat → Bool
  | 0 => false
  | m + 1 => if bitAt l m = 1 then !go l m else go l m
theorem gx_succ (l : List Nat) (m : Nat) : gx l (m + 1) = if bitAt l m = 1 then gx l m ^^^ place m else gx l m := rfl
theorem go_succ (l : List Nat) (m : Nat) : go l (m + 1) = if bitAt l m = 1 then !go l m else go l m := rfl
theorem place_lt {n : Nat} (h : n ≤ 5000) : place n < 8192 := by
  obtain ⟨_, h2, _⟩ := isPlace_place (n := n) (by omega)
  have : place n < 4194304 := by
    by_cases hlt : place n < 4194304
    · exact hlt
    · exfalso
      have hp := len_add (p := 4194303) (by omega) (place n - 4194303)
      rw [show 4194303 + (place n - 4194303) = place n by omega] at hp
      have := len_le22 (p := 4194303) (by omega)
      omega
  have := len_le22 this
  omega
theorem gx_lt (l : List Nat) : ∀ m, m ≤ 5000 → gx l m < 8192
  | 0, _ => Nat.zero_lt_succ _
  | m + 1, h => by
    have ih := gx_lt l m (by omega)
    unfold gx
    split
    · exact Nat.xor_lt_two_pow (n := 13) ih (place_lt (by omega))
    · exact ih
theorem gx_flip {l : List Nat} {i : Nat} (hi : i / 8 < l.length) : ∀ m, gx (flip1 l (i : Int)) m = if i < m then gx l m ^^^ place i else gx l m
  | 0 => by rw [if_neg (by omega)]; rfl
  | m + 1 => by
    have ih := gx_flip hi m
    unfold gx
    rw [bitAt_flip1 l i hi, ih]
    have hb := bitAt_lt2 l m
    by_cases e : i = m
    · subst e
      rw [if_pos rfl, if_neg (Nat.lt_irrefl _), if_pos (Nat.lt_succ_self _)]
      by_cases h1 : bitAt l i = 1
      · rw [if_neg (show ¬ 1 - bitAt l i = 1 by omega), if_pos h1, Nat.xor_assoc, Nat.xor_self, Nat.xor_zero]
      · rw [if_pos (show 1 - bitAt l i = 1 by omega), if_neg h1]
    · rw [if_neg e]
      by_cases hlt : i < m
      · rw [if_pos hlt, if_pos (show i < m + 1 by omega)]
        split
        · rw [Nat.xor_assoc, Nat.xor_comm (place i), ← Nat.xor_assoc]
        · rfl
      · rw [if_neg hlt, if_neg (show ¬ i < m + 1 by omega)]
theorem go_flip {l : List Nat} {i : Nat} (hi : i / 8 < l.length) : ∀ m, go (flip1 l (i : Int)) m = if i < m then !go l m else go l m
  | 0 => by rw [if_neg (by omega)]; rfl
  | m + 1 => by
    have ih := go_flip hi m
    unfold go
    rw [bitAt_flip1 l i hi, ih]
    have hb := bitAt_lt2 l m
    by_cases e : i = m
    · subst e
      rw [if_pos rfl, if_neg (Nat.lt_irrefl _), if_pos (Nat.lt_succ_self _)]
      by_cases h1 : bitAt l i = 1
      · rw [if_neg (show ¬ 1 - bitAt l i = 1 by omega), if_pos h1, Bool.not_not]
      · rw [if_pos (show 1 - bitAt l i = 1 by omega), if_neg h1]
    · rw [if_neg e]
      by_cases hlt : i < m
      · rw [if_pos hlt, if_pos (show i < m + 1 by omega)]
        split
        · rfl
        · rfl
      · rw [if_neg hlt, if_neg (show ¬ i < m + 1 by omega)]
def par (x : Nat) : Bool := decide ((bitsOf 16 x).sum % 2 = 1)
theorem bitsOf_xor : ∀ n x y : Nat, (bitsOf n (x ^^^ y)).sum % 2 = ((bitsOf n x).sum + (bitsOf n y).sum) % 2
  | 0, _, _ => rfl
  | n + 1, x, y => by
    have ih := bitsOf_xor n (x / 2) (y / 2)
    have e : (x ^^^ y) / 2 = x / 2 ^^^ y / 2 := Nat.xor_div_two
    have h : (x ^^^ y) % 2 = (x % 2 + y % 2) % 2 := by
      have b : ∀ z : Nat, z % 2 = (z.testBit 0).toNat := fun z => by
        rw [Nat.toNat_testBit, Nat.pow_zero, Nat.div_one]
      rw [b x, b y, b (x ^^^ y), Nat.testBit_xor]
      cases x.testBit 0 <;> cases y.testBit 0 <;> decide
    unfold bitsOf
    rw [List.sum_cons, List.sum_cons, List.sum_cons, e]
    omega
theorem par_xor (x y : Nat) : par (x ^^^ y) = (par x != par y) := by
  have h := bitsOf_xor 16 x y
  unfold par
  rw [h]
  have a := Nat.mod_two_eq_zero_or_one (bitsOf 16 x).sum
  have b := Nat.mod_two_eq_zero_or_one (bitsOf 16 y).sum
  rw [Nat.add_mod]
  rcases a with a | a <;> rcases b with b | b <;> rw [a, b] <;> decide
theorem par_pow : ∀ j : Nat, j < 16 → par (2 ^ j) = true := by decide
theorem bitsOf_add : ∀ m n a : Nat, (bitsOf (m + n) a).sum = (bitsOf m a).sum + (bitsOf n (a / 2 ^ m)).sum
  | 0, n, a => by rw [Nat.zero_add, Nat.pow_zero, Nat.div_one]; simp [bitsOf]
  | m + 1, n, a => by
    have ih := bitsOf_add m n (a / 2)
    rw [Nat.div_div_eq_div_mul, ← Nat.pow_succ'] at ih
    rw [show m + 1 + n = (m + n) + 1 by omega]
    unfold bitsOf
    rw [List.sum_cons, ih]
    have e : (bitsOf (m + 1) a).sum = a % 2 + (bitsOf m (a / 2)).sum := rfl
    cases n with
    | zero => simp [bitsOf]
    | succ n =>
      show a % 2 + ((bitsOf m (a / 2)).sum + (bitsOf (n + 1) (a / 2 ^ (m + 1))).sum) = (a % 2 :: bitsOf m (a / 2)).sum + _
      rw [List.sum_cons, Nat.add_assoc]
      rfl
theorem bitsOf_mod : ∀ m a : Nat, bitsOf m (a % 2 ^ m) = bitsOf m a
  | 0, _ => rfl
  | m + 1, a => by
    have ih := bitsOf_mod m (a / 2)
    have e1 : a % 2 ^ (m + 1) / 2 = a / 2 % 2 ^ m := by
      rw [Nat.pow_succ']
      exact Nat.mod_mul_right_div_self ..
    have e2 : a % 2 ^ (m + 1) % 2 = a % 2 := by
      rw [Nat.pow_succ']
      exact Nat.mod_mul_right_mod ..
    unfold bitsOf
    rw [e1, e2, ih]
theorem par_ones {a : Nat} : par a = decide ((ones (a / 256) + ones (a % 256)) % 2 = 1) := by
  unfold par ones
  have h1 := bitsOf_add 8 8 a
  have h2 := bitsOf_mod 8 a
  rw [show 2 ^ 8 = 256 from rfl] at h1 h2
  rw [show 16 = 8 + 8 from rfl, h1, h2, Nat.add_comm]
def chk (l : List Nat) : Nat := if go l (8 * l.length) != par (gx l (8 * l.length)) then 1 else 0
def wordN (l : List Nat) : Nat := gx l (8 * l.length) + 8192 * chk l + 49152
theorem wordN_lt {l : List Nat} (h : l.length ≤ 600) : wordN l < 65536 := by
  have := gx_lt l (8 * l.length) (by omega)
  unfold wordN chk
  split <;> omega
end Go.Proofs.Ytalejedajkhkjaa.HamMath
namespace Go.Proofs.Ytalejedajkhkjaa.NatKit
open Go.RowKit Go.Proofs.YtalejedajkhkjaaW.PrintWords Go.Proofs.Ytalejedajkhkjaa.EvKit
def nats (l : List Int) : List Nat := l.map Int.toNat
def ints (l : List Nat) : List Int := l.map Int.ofNat
theorem nats_length (l : List Int) : (nats l).length = l.length := List.length_map _
theorem nats_lt {l : List Int} (h : ∀ x ∈ l, 0 ≤ x ∧ x < 256) : ∀ b ∈ nats l, b < 256 := by
  intro b hb
  obtain ⟨x, hx, rfl⟩ := List.mem_map.1 hb
  have := h x hx
  omega
theorem ints_nats {l : List Int} (h : ∀ x ∈ l, 0 ≤ x) : ints (nats l) = l := by
  unfold ints nats
  rw [List.map_map]
  conv => rhs; rw [← List.map_id l]
  refine List.map_congr_left fun x hx => ?_
  have := h x hx
  show ((x.toNat : Nat) : Int) = x
  omega
theorem nats_take (a : List Int) (n : Nat) : nats (a.take n) = (nats a).take n := List.map_take
theorem rd_ints {l : List Nat} {i : Nat} : rd (ints l) (i : Int) = ((l.getD i 0 : Nat) : Int) := by
  unfold rd ints
  rw [Int.toNat_natCast, List.getD_eq_getElem?_getD, List.getD_eq_getElem?_getD, List.getElem?_map]
  cases l[i]? <;> rfl
theorem rd_nats {l : List Int} (h : ∀ x ∈ l, 0 ≤ x) (i : Nat) : rd l (i : Int) = (((nats l).getD i 0 : Nat) : Int) := by
  conv => lhs; rw [← ints_nats h]
  exact rd_ints
theorem rd_ints_lt {l : List Nat} {i : Nat} (h : i < l.length) : rd (ints l) (i : Int) = ((l[i] : Nat) : Int) := by
  rw [rd_ints, List.getD_eq_getElem?_getD, List.getElem?_eq_getElem h]
  rfl
theorem ints_set (l : List Nat) (i v : Nat) : (ints l).set i (v : Int) = ints (l.set i v) := by
  unfold ints
  rw [List.map_set]
  rfl
theorem ints_length (l : List Nat) : (ints l).length = l.length := List.length_map _
end Go.Proofs.Ytalejedajkhkjaa.NatKit
namespace Go.Proofs.Ytalejedajkhkjaa.PureChunkPieces
open Go.RowKit Go.Proofs.Ytalejedajkhkjaa.QChunkPieces Go.Proofs.YtalejedajkhkjaaW.PrintWords Go.Proofs.YtalejedajkhkjaaW.PrintLast Go.Proofs.YtalejedajkhkjaaW.PrintMore Go.Proofs.Ytalejedajkhkjaa.EvKit Go.Proofs.Ytalejedajkhkjaa.BitsKit Go.Proofs.Ytalejedajkhkjaa.CrcMath Go.Proofs.Ytalejedajkhkjaa.NatKit Go.Proofs.Ytalejedajkhkjaa.BitsMath Go.Proofs.Ytalejedajkhkjaa.LenMath Go.Proofs.Ytalejedajkhkjaa.HamMath
theorem gbit_eq {b j : Nat} (hb : b < 256) : hamming_gather_gbit (b : Int) j = decide (b / 2 ^ j % 2 = 1) := by
  have e : (if j = 0 then (b : Int) else (b : Int) / 2 ^ j) = ((b / 2 ^ j : Nat) : Int) := by
    split
    · rename_i h
      subst h
      rw [Nat.pow_zero, Nat.div_one]
    · rw [Int.natCast_ediv, Int.natCast_pow]
      rfl
  have hlt : b / 2 ^ j < 256 := Nat.lt_of_le_of_lt (Nat.div_le_self _ _) hb
  unfold hamming_gather_gbit
  rw [e]
  generalize b / 2 ^ j = x at hlt ⊢
  have := and_u8 (a := x) (b := 1) hlt (by decide)
  rw [show ((1 : Nat) : Int) = 1 from rfl] at this
  rw [this, Nat.and_one_is_mod]
  by_cases h : x % 2 = 1
  · rw [h, decide_eq_true rfl]
    rfl
  · rw [decide_eq_false h]
    have : x % 2 = 0 := by omega
    rw [this]
    rfl
def placesAt (q : Nat) : List Int := [((place (8 * q) : Nat) : Int), ((place (8 * q + 1) : Nat) : Int), ((place (8 * q + 2) : Nat) : Int), ((place (8 * q + 3) : Nat) : Int), ((place (8 * q + 4) : Nat) : Int), ((place (8 * q + 5) : Nat) : Int), ((place (8 * q + 6) : Nat) : Int), ((place (8 * q + 7) : Nat) : Int)]
theorem placesAt_get (q j : Nat) (h : j < 8) : (placesAt q).getD j 0 = ((place (8 * q + j) : Nat) : Int) := by
  obtain rfl | rfl | rfl | rfl | rfl | rfl | rfl | rfl : j = 0 ∨ j = 1 ∨ j = 2 ∨ j = 3 ∨ j = 4 ∨ j = 5 ∨ j = 6 ∨ j = 7 := by omega
  all_goals rfl
theorem eightF_ev {q : Nat} (hq : q < 600) : Ev (fun k => hamming_gather_eightF k (q : Int)) (placesAt q) := by
  refine Ev.congr (fun k => by rw [hamming_gather_eightF]) ?_
  refine Ev.pos (by omega) ?_
  have e : ∀ j : Nat, j < 8 → Ev (fun k => hamming_Place.f k (8 * (q : Int) + (j : Int))) ((place (8 * q + j) : Nat) : Int) := by
    intro j hj
    have := place_is_ev (n := 8 * q + j) (by omega)
    rwa [show ((8 * q + j : Nat) : Int) = 8 * (q : Int) + (j : Int) by omega] at this
  have e0 : Ev (fun k => hamming_Place.f k (8 * (q : Int))) ((place (8 * q) : Nat) : Int) := by
    have := e 0 (by omega)
    rwa [show 8 * (q : Int) + ((0 : Nat) : Int) = 8 * (q : Int) by omega] at this
  refine Ev.bind e0 ?_
  refine Ev.bind (e 1 (by omega)) ?_
  refine Ev.bind (e 2 (by omega)) ?_
  refine Ev.bind (e 3 (by omega)) ?_
  refine Ev.bind (e 4 (by omega)) ?_
  refine Ev.bind (e 5 (by omega)) ?_
  refine Ev.bind (e 6 (by omega)) ?_
  exact Ev.bind (e 7 (by omega)) (Ev.ret rfl)
theorem gup_eq {l : List Nat} (hl : ∀ b ∈ l, b < 256) {q : Nat} (hq : q < l.length) (hn : l.length ≤ 600) : ∀ j : Nat, j ≤ 8 →
    hamming_gather_gup ((l.getD q 0 : Nat) : Int) (placesAt q) (((gx l (8 * q) : Nat) : Int), go l (8 * q)) j = (((gx l (8 * q + j) : Nat) : Int), go l (8 * q + j))
  | 0, _ => rfl
  | j + 1, hj => by
    have ih := gup_eq hl hq hn j (by omega)
    have hb := getD_lt hl q
    have hx := gx_lt l (8 * q + j) (by omega)
    have hp := place_lt (n := 8 * q + j) (by omega)
    have hbit : bitAt l (8 * q + j) = l.getD q 0 / 2 ^ j % 2 := by
      unfold bitAt
      rw [show (8 * q + j) / 8 = q by omega, show (8 * q + j) % 8 = j by omega]
    rw [← Nat.add_assoc]
    show hamming_gather_gst _ _ _ _ = _
    unfold hamming_gather_gst
    rw [ih, gbit_eq hb, placesAt_get q j (by omega)]
    rw [gx_succ, go_succ, hbit]
    by_cases h : l.getD q 0 / 2 ^ j % 2 = 1
    · rw [decide_eq_true h, if_pos rfl, if_pos h, if_pos h, w_u16 _ (by omega) (by omega), xor_u16 (by omega) (by omega)]
    · rw [decide_eq_false h, if_neg (by decide), if_neg h, if_neg h]
theorem gx_zero {l : List Nat} {q : Nat} (h : l.getD q 0 = 0) : ∀ j : Nat, j ≤ 8 → gx l (8 * q + j) = gx l (8 * q) ∧ go l (8 * q + j) = go l (8 * q)
  | 0, _ => ⟨rfl, rfl⟩
  | j + 1, hj => by
    have ih := gx_zero h j (by omega)
    have hbit : bitAt l (8 * q + j) = 0 := by
      unfold bitAt
      rw [show (8 * q + j) / 8 = q by omega, h, Nat.zero_div]
    rw [← Nat.add_assoc]
    rw [gx_succ, go_succ, hbit, if_neg (by decide), if_neg (by decide)]
    exact ih
theorem gather_l0 {l : List Int} (hl : ∀ x ∈ l, 0 ≤ x ∧ x < 256) (hn : l.length ≤ 600) (d : Nat) : ∀ q : Nat, q + d = l.length →
    Ev (fun k => hamming_gather.l0 k l ((gx (nats l) (8 * q) : Nat) : Int) (go (nats l) (8 * q)) (q : Int)) (((gx (nats l) (8 * l.length) : Nat) : Int), go (nats l) (8 * l.length)) := by
  induction d with
  | zero =>
    intro q hq
    refine Ev.step (fun k => hamming_gather.l0.eq_2 ..) ?_
    refine Ev.neg (by omega) (Ev.ret ?_)
    rw [show q = l.length by omega]
  | succ d ih =>
    intro q hq
    have hql : q < (nats l).length := by rw [nats_length]; omega
    have hr := rd_nats (l := l) (fun x hx => (hl x hx).1) q
    have next := ih (q + 1) (by omega)
    refine Ev.step (fun k => hamming_gather.l0.eq_2 ..) ?_
    refine Ev.pos (by omega) (Ev.pos (by omega) (Ev.pos (by omega) ?_))
    rw [hr, show (q : Int) + 1 = ((q + 1 : Nat) : Int) from rfl]
    refine Ev.ite (fun h0 => ?_) (fun _ => ?_)
    · have hz := gx_zero (l := nats l) (q := q) (by omega) 8 (Nat.le_refl _)
      rw [show 8 * (q + 1) = 8 * q + 8 by omega, hz.1, hz.2] at next
      exact next
    · refine Ev.bind (eightF_ev (q := q) (by omega)) ?_
      rw [gup_eq (nats_lt hl) hql (by rw [nats_length]; exact hn) 8 (Nat.le_refl _)]
      rw [show 8 * (q + 1) = 8 * q + 8 by omega] at next
      exact next
theorem gather_ev {l : List Int} (hl : ∀ x ∈ l, 0 ≤ x ∧ x < 256) (hn : l.length ≤ 600) : Ev (fun k => hamming_gather.f k l) (((gx (nats l) (8 * l.length) : Nat) : Int), go (nats l) (8 * l.length)) := by
  refine Ev.congr (fun k => by rw [hamming_gather.f]) ?_
  exact gather_l0 hl hn l.length 0 (by omega)
end Go.Proofs.Ytalejedajkhkjaa.PureChunkPieces
namespace Go.Proofs.Ytalejedajkhkjaa.HamMath
open Go.RowKit Go.Proofs.Ytalejedajkhkjaa.CrcMath Go.Proofs.Ytalejedajkhkjaa.BitsMath Go.Proofs.Ytalejedajkhkjaa.LenMath
def wrongN (l : List Nat) (w : Nat) : Nat := (gx l (8 * l.length) ^^^ w) % 8192
def single (l : List Nat) (w : Nat) : Bool := go l (8 * l.length) != par (w % 16384)
theorem wrongN_lt (l : List Nat) (w : Nat) : wrongN l w < 8192 := Nat.mod_lt _ (by decide)
theorem xor_mod13 (a b : Nat) : (a ^^^ b) % 8192 = a % 8192 ^^^ b % 8192 := Nat.xor_mod_two_pow (n := 13)
theorem xor_mod14 (a b : Nat) : (a ^^^ b) % 16384 = a % 16384 ^^^ b % 16384 := Nat.xor_mod_two_pow (n := 14)
theorem chk_le (l : List Nat) : chk l ≤ 1 := by unfold chk; split <;> omega
theorem wordN_13 {l : List Nat} (h : l.length ≤ 600) : wordN l % 8192 = gx l (8 * l.length) := by
  have h1 := gx_lt l (8 * l.length) (by omega)
  have h2 := chk_le l
  unfold wordN
  omega
theorem wordN_14 {l : List Nat} (h : l.length ≤ 600) : wordN l % 16384 = gx l (8 * l.length) + 8192 * chk l := by
  have h1 := gx_lt l (8 * l.length) (by omega)
  have h2 := chk_le l
  unfold wordN
  omega
theorem wordN_top {l : List Nat} (h : l.length ≤ 600) : wordN l / 16384 = 3 := by
  have h1 := gx_lt l (8 * l.length) (by omega)
  have h2 := chk_le l
  unfold wordN
  omega
theorem wrong_word {l : List Nat} (h : l.length ≤ 600) : wrongN l (wordN l) = 0 := by
  have h1 := gx_lt l (8 * l.length) (by omega)
  unfold wrongN
  rw [xor_mod13, wordN_13 h, Nat.mod_eq_of_lt h1, Nat.xor_self]
theorem single_word {l : List Nat} (h : l.length ≤ 600) : single l (wordN l) = false := by
  have h1 := gx_lt l (8 * l.length) (by omega)
  unfold single
  rw [wordN_14 h]
  unfold chk
  by_cases e : (go l (8 * l.length) != par (gx l (8 * l.length))) = true
  · rw [if_pos e]
    have e2 : gx l (8 * l.length) + 8192 * 1 = gx l (8 * l.length) ^^^ 2 ^ 13 := by
      have := Nat.two_pow_add_eq_or_of_lt (i := 13) (b := gx l (8 * l.length)) h1 1
      apply Nat.eq_of_testBit_eq
      intro i
      rw [show gx l (8 * l.length) + 8192 * 1 = 2 ^ 13 * 1 + gx l (8 * l.length) by omega, this, Nat.testBit_or, Nat.testBit_xor, show 2 ^ 13 * 1 = 2 ^ 13 by omega, Nat.testBit_two_pow]
      by_cases hi : 13 = i
      · subst hi
        rw [Nat.testBit_lt_two_pow h1]
        rfl
      · rw [decide_eq_false hi]
        simp
    rw [e2, par_xor, par_pow 13 (by decide)]
    revert e
    cases go l (8 * l.length) <;> cases par (gx l (8 * l.length)) <;> decide
  · have e' : (go l (8 * l.length) != par (gx l (8 * l.length))) = false := by simpa using e
    rw [if_neg e, Nat.mul_zero, Nat.add_zero, e']
def XS : List Nat → Nat
  | [] => 0
  | i :: p => place i ^^^ XS p
def upN (p : List Nat) : List Int := p.map fun i : Nat => (i : Int)
theorem gx_flips : ∀ (p : List Nat) (l : List Nat) (M : Nat), M = 8 * l.length → (∀ i ∈ p, i < M) → gx (flips l (upN p)) M = gx l M ^^^ XS p
  | [], l, M, _, _ => (Nat.xor_zero _).symm
  | i :: p, l, M, hM, h => by
    have hi := h i (List.mem_cons_self ..)
    have ih := gx_flips p (flip1 l (i : Int)) M (by rw [flip1_length]; exact hM) (fun k hk => h k (List.mem_cons_of_mem _ hk))
    show gx (flips (flip1 l (i : Int)) (upN p)) M = _
    rw [ih, gx_flip (by omega), if_pos hi]
    show _ = gx l M ^^^ (place i ^^^ XS p)
    rw [Nat.xor_assoc]
def oddL (p : List Nat) : Bool := decide (p.length % 2 = 1)
theorem oddL_cons (i : Nat) (p : List Nat) : oddL (i :: p) = !oddL p := by
  unfold oddL
  rw [List.length_cons]
  by_cases h : p.length % 2 = 1
  · rw [decide_eq_true h, decide_eq_false (by omega)]; rfl
  · rw [decide_eq_false h, decide_eq_true (by omega)]; rfl
theorem go_flips : ∀ (p : List Nat) (l : List Nat) (M : Nat), M = 8 * l.length → (∀ i ∈ p, i < M) → go (flips l (upN p)) M = (go l M != oddL p)
  | [], l, M, _, _ => by
    show go l M = (go l M != oddL [])
    have : oddL [] = false := rfl
    rw [this, Bool.bne_false]
  | i :: p, l, M, hM, h => by
    have hi := h i (List.mem_cons_self ..)
    have ih := go_flips p (flip1 l (i : Int)) M (by rw [flip1_length]; exact hM) (fun k hk => h k (List.mem_cons_of_mem _ hk))
    show go (flips (flip1 l (i : Int)) (upN p)) M = _
    rw [ih, go_flip (by omega), if_pos hi, oddL_cons]
    cases go l M <;> cases oddL p <;> rfl
theorem flips_up_length (l : List Nat) (p : List Nat) : (flips l (upN p)).length = l.length := flips_length _ _
theorem wrong_turned {l p : List Nat} {m : Nat} (h : l.length ≤ 600) (hp : ∀ i ∈ p, i < 8 * l.length) : wrongN (flips l (upN p)) (wordN l ^^^ m) = (XS p ^^^ m) % 8192 := by
  have h1 := gx_lt l (8 * l.length) (by omega)
  have h0 := wrong_word h
  unfold wrongN at h0 ⊢
  rw [flips_up_length, gx_flips p l _ rfl hp]
  rw [xor_swap, xor_mod13 (gx l (8 * l.length) ^^^ wordN l), h0, Nat.zero_xor]
theorem single_turned {l p : List Nat} {m : Nat} (h : l.length ≤ 600) (hp : ∀ i ∈ p, i < 8 * l.length) : single (flips l (upN p)) (wordN l ^^^ m) = (oddL p != par (m % 16384)) := by
  have h0 := single_word h
  unfold single at h0 ⊢
  rw [flips_up_length, go_flips p l _ rfl hp, xor_mod14, par_xor]
  revert h0
  cases go l (8 * l.length) <;> cases par (wordN l % 16384) <;> cases oddL p <;> cases par (m % 16384) <;> decide
theorem place_three {n : Nat} (h : n ≤ 1048576) : 3 ≤ place n ∧ isPow (place n) = false := ⟨(isPlace_place h).2.2, (isPlace_place h).1⟩
theorem place_inj {i j : Nat} (hi : i ≤ 1048576) (hj : j ≤ 1048576) (h : place i = place j) : i = j := by
  have h1 := (isPlace_place hi).2.1
  have h2 := (isPlace_place hj).2.1
  rw [h] at h1
  omega
theorem sum_none : ∀ (n x : Nat), x < 2 ^ n → (bitsOf n x).sum = 0 → x = 0
  | 0, x, h, _ => by simpa using h
  | n + 1, x, h, e => by
    unfold bitsOf at e
    rw [List.sum_cons] at e
    have := sum_none n (x / 2) (by rw [Nat.pow_succ] at h; omega) (by omega)
    omega
theorem sum_single : ∀ (n x : Nat), x < 2 ^ n → (bitsOf n x).sum = 1 → isPow x = true
  | 0, x, _, e => absurd e (by simp [bitsOf])
  | n + 1, x, h, e => by
    unfold bitsOf at e
    rw [List.sum_cons] at e
    have hlt : x / 2 < 2 ^ n := by rw [Nat.pow_succ] at h; omega
    rcases Nat.mod_two_eq_zero_or_one x with h2 | h2
    · obtain ⟨m, hm⟩ := isPow_iff.1 (sum_single n (x / 2) hlt (by omega))
      refine isPow_iff.2 ⟨m + 1, ?_⟩
      rw [Nat.pow_succ]
      omega
    · have := sum_none n (x / 2) hlt (by omega)
      exact isPow_iff.2 ⟨0, by omega⟩
theorem sum_mod (x : Nat) : (bitsOf 13 (x % 8192)).sum ≤ (bitsOf 16 x).sum := by
  have h1 := bitsOf_mod 13 x
  have h2 := bitsOf_add 13 3 x
  rw [show 2 ^ 13 = 8192 from rfl] at h1
  rw [show 16 = 13 + 3 from rfl, h1, h2]
  omega
theorem four_ones {D : List Nat} {w : Nat} (hd : D ≠ []) (hp : ∀ i ∈ D, i < 5000) (hnd : D.Nodup) (hx : XS D % 8192 = w % 8192) (hpar : (D.length + (bitsOf 16 w).sum) % 2 = 0) :
    4 ≤ D.length + (bitsOf 16 w).sum := by
  have hsm := sum_mod w
  cases D with
  | nil => exact absurd rfl hd
  | cons i D =>
    have hi := hp i (List.mem_cons_self ..)
    have h3 := place_three (n := i) (by omega)
    have hlt := place_lt (n := i) (by omega)
    cases D with
    | nil =>
      have e : XS [i] = place i := Nat.xor_zero _
      rw [e, Nat.mod_eq_of_lt hlt] at hx
      rw [← hx] at hsm
      have n0 : (bitsOf 13 (place i)).sum ≠ 0 := fun h => by have := sum_none 13 _ hlt h; omega
      have n1 : (bitsOf 13 (place i)).sum ≠ 1 := fun h => by have := sum_single 13 _ hlt h; rw [h3.2] at this; exact absurd this (by decide)
      rw [List.length_singleton] at hpar ⊢
      omega
    | cons k D =>
      have hk := hp k (List.mem_cons_of_mem _ (List.mem_cons_self ..))
      have hlt2 := place_lt (n := k) (by omega)
      have hne : i ≠ k := fun e => (List.nodup_cons.1 hnd).1 (by rw [e]; exact List.mem_cons_self ..)
      cases D with
      | nil =>
        have e : XS [i, k] = place i ^^^ place k := by
          show place i ^^^ (place k ^^^ 0) = _
          rw [Nat.xor_zero]
        have hl : place i ^^^ place k < 8192 := Nat.xor_lt_two_pow (n := 13) hlt hlt2
        rw [e, Nat.mod_eq_of_lt hl] at hx
        rw [← hx] at hsm
        have n0 : (bitsOf 13 (place i ^^^ place k)).sum ≠ 0 := fun h => by
          have h0 := sum_none 13 _ hl h
          have := congrArg (· ^^^ place k) h0
          simp only [Nat.zero_xor, Nat.xor_assoc, Nat.xor_self, Nat.xor_zero] at this
          exact hne (place_inj (by omega) (by omega) this)
        rw [List.length_cons, List.length_singleton] at hpar ⊢
        omega
      | cons m D =>
        rw [List.length_cons, List.length_cons, List.length_cons] at hpar ⊢
        omega
theorem word_apart {a b : List Nat} (ha : a.length ≤ 600) (hb : b.length ≤ 600) : wordN a ^^^ wordN b < 16384 := by
  have t1 := wordN_top ha
  have t2 := wordN_top hb
  have := Nat.shiftRight_xor_distrib (a := wordN a) (b := wordN b) (i := 14)
  rw [Nat.shiftRight_eq_div_pow, Nat.shiftRight_eq_div_pow, Nat.shiftRight_eq_div_pow, show 2 ^ 14 = 16384 from rfl, t1, t2, Nat.xor_self] at this
  omega
theorem apart {a b : List Nat} (ha : ∀ x ∈ a, x < 256) (hb : ∀ x ∈ b, x < 256) (hl : a.length = b.length) (hn : a.length ≤ 600) (hd : diffN a b ≠ []) :
    4 ≤ (diffN a b).length + (bitsOf 16 (wordN a ^^^ wordN b)).sum := by
  have hb' : flips a (upN (diffN a b)) = b := flips_diff ha hb hl
  have hp : ∀ i ∈ diffN a b, i < 8 * a.length := fun i hi => by have := (mem_diffN.1 hi).1; omega
  have h1 := wrong_turned (m := wordN a ^^^ wordN b) hn hp
  have h2 := single_turned (m := wordN a ^^^ wordN b) hn hp
  have e : wordN a ^^^ (wordN a ^^^ wordN b) = wordN b := by rw [← Nat.xor_assoc, Nat.xor_self, Nat.zero_xor]
  have hw := word_apart (a := a) (b := b) (by omega) (by omega)
  rw [hb', e, wrong_word (by omega)] at h1
  rw [hb', e, single_word (by omega), Nat.mod_eq_of_lt hw] at h2
  refine four_ones hd (fun i hi => by have := hp i hi; omega) (diffN_nodup a b) ?_ ?_
  · rw [xor_mod13] at h1
    generalize XS (diffN a b) % 8192 = x at h1 ⊢
    generalize (wordN a ^^^ wordN b) % 8192 = y at h1 ⊢
    have := congrArg (· ^^^ y) h1
    simp only [Nat.zero_xor, Nat.xor_assoc, Nat.xor_self, Nat.xor_zero] at this
    exact this.symm
  · unfold oddL par at h2
    generalize (bitsOf 16 (wordN a ^^^ wordN b)).sum = s at h2 ⊢
    generalize (diffN a b).length = d at h2 ⊢
    have e1 := Nat.mod_two_eq_zero_or_one d
    have e2 := Nat.mod_two_eq_zero_or_one s
    rcases e1 with e1 | e1 <;> rcases e2 with e2 | e2 <;> rw [e1, e2] at h2 <;> first | omega | exact absurd h2 (by decide)
end Go.Proofs.Ytalejedajkhkjaa.HamMath
namespace Go.Proofs.Ytalejedajkhkjaa.PureChunkPieces
open Go.RowKit Go.Proofs.Ytalejedajkhkjaa.QChunkPieces Go.Proofs.YtalejedajkhkjaaW.PrintWords Go.Proofs.YtalejedajkhkjaaW.PrintLast Go.Proofs.YtalejedajkhkjaaW.PrintMore Go.Proofs.Ytalejedajkhkjaa.EvKit Go.Proofs.Ytalejedajkhkjaa.BitsKit Go.Proofs.Ytalejedajkhkjaa.CrcMath Go.Proofs.Ytalejedajkhkjaa.NatKit Go.Proofs.Ytalejedajkhkjaa.BitsMath Go.Proofs.Ytalejedajkhkjaa.LenMath Go.Proofs.Ytalejedajkhkjaa.HamMath
theorem tab_ones : ∀ b : Nat, b < 256 → bt (⟨#[0, 1, 1, 2, 1, 2, 2, 3, 1, 2, 2, 3, 2, 3, 3, 4, 1, 2, 2, 3, 2, 3, 3, 4, 2, 3, 3, 4, 3, 4, 4, 5, 1, 2, 2, 3, 2, 3, 3, 4, 2, 3, 3, 4, 3, 4, 4, 5, 2, 3, 3, 4, 3, 4, 4, 5, 3, 4, 4, 5, 4, 5, 5, 6, 1, 2, 2, 3, 2, 3, 3, 4, 2, 3, 3, 4, 3, 4, 4, 5, 2, 3, 3, 4, 3, 4, 4, 5, 3, 4, 4, 5, 4, 5, 5, 6, 2, 3, 3, 4, 3, 4, 4, 5, 3, 4, 4, 5, 4, 5, 5, 6, 3, 4, 4, 5, 4, 5, 5, 6, 4, 5, 5, 6, 5, 6, 6, 7, 1, 2, 2, 3, 2, 3, 3, 4, 2, 3, 3, 4, 3, 4, 4, 5, 2, 3, 3, 4, 3, 4, 4, 5, 3, 4, 4, 5, 4, 5, 5, 6, 2, 3, 3, 4, 3, 4, 4, 5, 3, 4, 4, 5, 4, 5, 5, 6, 3, 4, 4, 5, 4, 5, 5, 6, 4, 5, 5, 6, 5, 6, 6, 7, 2, 3, 3, 4, 3, 4, 4, 5, 3, 4, 4, 5, 4, 5, 5, 6, 3, 4, 4, 5, 4, 5, 5, 6, 4, 5, 5, 6, 5, 6, 6, 7, 3, 4, 4, 5, 4, 5, 5, 6, 4, 5, 5, 6, 5, 6, 6, 7, 4, 5, 5, 6, 5, 6, 6, 7, 5, 6, 6, 7, 6, 7, 7, 8]⟩ : ByteArray) (b : Int) = ((ones b : Nat) : Int) := by
  decide +kernel
theorem low_and {a : Nat} (n m : Nat) (hm : m = 2 ^ n - 1) (ha : a < 65536) (hm' : m < 65536) : Go.bits .and .u16 (a : Int) (m : Int) = ((a % 2 ^ n : Nat) : Int) := by
  rw [and_u16 ha hm', hm, Nat.and_two_pow_sub_one_eq_mod]
theorem odd_eq {a : Nat} (ha : a < 65536) : hamming_odd.f (a : Int) = some (par a) := by
  have e1 : Go.bits .and .u16 (a : Int) 255 = ((a % 256 : Nat) : Int) := low_and 8 255 (by decide) ha (by decide)
  have e2 : (a : Int) / 256 = ((a / 256 : Nat) : Int) := by omega
  have h1 := ones_le (a / 256)
  have h2 := ones_le (a % 256)
  have h3 : (Go.bits .and .i64 (((ones (a / 256) + ones (a % 256) : Nat) : Int)) 1 == 1) = par a := by
    have := and_i64 (a := ones (a / 256) + ones (a % 256)) (b := 1) (by omega) (by decide)
    rw [show ((1 : Nat) : Int) = 1 from rfl] at this
    rw [this, Nat.and_one_is_mod, par_ones]
    rcases Nat.mod_two_eq_zero_or_one (ones (a / 256) + ones (a % 256)) with h | h <;> rw [h] <;> rfl
  unfold hamming_odd.f bits_OnesCount16.f
  rw [e1, e2, if_pos (by omega), if_pos (by omega), if_pos (by omega), if_pos (by omega), tab_ones _ (by omega), tab_ones _ (by omega)]
  have e3 : (((ones (a / 256) : Nat) : Int) + ((ones (a % 256) : Nat) : Int)) % 256 = ((ones (a / 256) + ones (a % 256) : Nat) : Int) := by omega
  rw [e3, Option.bind_some, h3]
theorem or_bit {x : Nat} (n m : Nat) (hm : m = 2 ^ n) (hx : x < m) (h : m < 65536) : Go.bits .or .u16 (x : Int) (m : Int) = ((x + m : Nat) : Int) := by
  subst hm
  rw [or_u16 (by omega) h]
  have := Nat.two_pow_add_eq_or_of_lt hx 1
  rw [Nat.mul_one] at this
  rw [Nat.or_comm, ← this, Nat.add_comm]
theorem or_pad {x : Nat} (hx : x < 16384) : Go.bits .or .u16 (x : Int) 49152 = ((x + 49152 : Nat) : Int) := by
  have e : Go.bits .or .u16 (x : Int) ((49152 : Nat) : Int) = _ := or_u16 (a := x) (b := 49152) (by omega) (by omega)
  have h := Nat.two_pow_add_eq_or_of_lt (i := 14) (b := x) (by omega) 3
  have h3 : 2 ^ 14 * 3 = 49152 := by decide
  rw [h3] at h
  rw [Nat.or_comm, ← h, Nat.add_comm] at e
  exact e
theorem word_or1 {x : Nat} (hx : x < 8192) : Go.bits .or .u16 (Go.bits .or .u16 (x : Int) 8192) 49152 = ((x + 8192 * 1 + 49152 : Nat) : Int) := by
  have e : Go.bits .or .u16 (x : Int) ((8192 : Nat) : Int) = ((x + 8192 : Nat) : Int) := or_bit (x := x) 13 8192 (by decide) hx (by decide)
  have e' : Go.bits .or .u16 (x : Int) 8192 = ((x + 8192 : Nat) : Int) := e
  rw [e', or_pad (by omega)]
theorem word_or0 {x : Nat} (hx : x < 8192) : Go.bits .or .u16 (x : Int) 49152 = ((x + 8192 * 0 + 49152 : Nat) : Int) := by
  have e := or_pad (x := x) (by omega)
  rw [e]
theorem wordN_of {l : List Nat} {x : Nat} {o : Bool} (hx : gx l (8 * l.length) = x) (ho : go l (8 * l.length) = o) : wordN l = x + 8192 * (if o != par x then 1 else 0) + 49152 := by
  unfold wordN chk
  rw [hx, ho]
theorem word_ev {l : List Int} (hl : ∀ x ∈ l, 0 ≤ x ∧ x < 256) (hn : l.length ≤ 512) : Ev (fun k => hamming_Word.f k l) (((wordN (nats l) : Nat) : Int), 0) := by
  have hx := gx_lt (nats l) (8 * l.length) (by omega)
  have hlen := nats_length l
  have hw : ∀ x o, gx (nats l) (8 * l.length) = x → go (nats l) (8 * l.length) = o → wordN (nats l) = x + 8192 * (if o != par x then 1 else 0) + 49152 := fun x o h1 h2 => wordN_of (by rw [hlen]; exact h1) (by rw [hlen]; exact h2)
  have hw := hw _ _ rfl rfl
  refine Ev.congr (fun k => by rw [hamming_Word.f]) ?_
  refine Ev.neg (by omega) ?_
  refine Ev.bind (gather_ev hl (by omega)) ?_
  refine Ev.bindv (odd_eq (by omega)) ?_
  rw [hw]
  clear hw
  generalize gx (nats l) (8 * l.length) = x at hx ⊢
  generalize go (nats l) (8 * l.length) = o
  dsimp only
  cases hc : (o != par x)
  · refine Ev.neg (by decide) (Ev.ret ?_)
    rw [word_or0 hx, if_neg (by decide)]
  · refine Ev.pos rfl (Ev.ret ?_)
    rw [word_or1 hx, if_pos rfl]
theorem not_pad {w : Nat} (hw : w < 65536) : Go.bits .andNot .u16 (w : Int) 49152 = ((w % 16384 : Nat) : Int) := by
  have e := low_and (a := w) 14 16383 (by decide) hw (by decide)
  rw [show 2 ^ 14 = 16384 from rfl] at e
  rw [← e]
  rfl
def judgeN (l : List Nat) (w : Nat) : Int × Int × Int :=
  if single l w = false then (if wrongN l w = 0 then (0, 0, 0) else (3, 0, 0))
  else if wrongN l w = 0 ∨ isPow (wrongN l w) = true then (2, 0, 0)
  else if wrongN l w - 1 - len (wrongN l w) < 8 * l.length then (1, ((wrongN l w - 1 - len (wrongN l w) : Nat) : Int), 0) else (3, 0, 0)
theorem pow_none {p : Nat} (hp : p < 8192) : (Go.bits .and .i64 (p : Int) (wrap64 ((p : Int) - 1)) = 0) ↔ (p = 0 ∨ isPow p = true) := by
  rcases Nat.eq_zero_or_pos p with e | h0
  · subst e
    refine ⟨fun _ => Or.inl rfl, fun _ => ?_⟩
    have e : wrap64 (((0 : Nat) : Int) - 1) = -1 := by rw [w64_id (by omega) (by omega)]; omega
    rw [e]
    decide +kernel
  · rw [pow_test h0 (by omega)]
    exact ⟨fun h => Or.inr h, fun h => h.resolve_left (by omega)⟩
theorem place_far {p : Nat} (h0 : p ≠ 0) (hp : isPow p = false) (hlt : p < 8192) : IsPlace (p - 1 - len p) p := by
  have h3 : 3 ≤ p := by
    rcases Nat.lt_or_ge p 3 with h | h
    · obtain rfl | rfl : p = 1 ∨ p = 2 := by omega
      · exact absurd hp (by decide)
      · exact absurd hp (by decide)
    · exact h
  obtain ⟨n, hn⟩ := place_of hp h3
  have := hn.2.1
  have e : p - 1 - len p = n := by omega
  rw [e]
  exact hn
theorem judge_ev {l : List Int} (hl : ∀ x ∈ l, 0 ≤ x ∧ x < 256) (hn : l.length ≤ 512) {w : Nat} (hw : w < 65536) : Ev (fun k => hamming_Judge.f k l (w : Int)) (judgeN (nats l) w) := by
  have hlen := nats_length l
  have hx := gx_lt (nats l) (8 * l.length) (by omega)
  have hwr := wrongN_lt (nats l) w
  have e1 : wrap64 (Go.bits .and .u16 (Go.bits .xor .u16 ((gx (nats l) (8 * l.length) : Nat) : Int) (w : Int)) 8191) = ((wrongN (nats l) w : Nat) : Int) := by
    have hxl : gx (nats l) (8 * l.length) ^^^ w < 65536 := Nat.xor_lt_two_pow (n := 16) (by omega) (by omega)
    have e := low_and (a := gx (nats l) (8 * l.length) ^^^ w) 13 8191 (by decide) hxl (by decide)
    rw [show ((8191 : Nat) : Int) = 8191 from rfl, show 2 ^ 13 = 8192 from rfl] at e
    rw [xor_u16 (by omega) hw, e, w64_id (by omega) (by omega)]
    unfold wrongN
    rw [hlen]
  have e2 : (go (nats l) (8 * l.length) != par (w % 16384)) = single (nats l) w := by
    unfold single
    rw [hlen]
  refine Ev.congr (fun k => by rw [hamming_Judge.f]) ?_
  refine Ev.neg (by omega) ?_
  refine Ev.bind (gather_ev hl (by omega)) ?_
  rw [not_pad hw]
  refine Ev.bindv (odd_eq (by omega)) ?_
  rw [e1, e2]
  clear e1 e2
  unfold judgeN
  rw [hlen]
  generalize wrongN (nats l) w = p at hwr ⊢
  cases hs : single (nats l) w
  · refine Ev.neg (by decide) ?_
    rw [if_pos rfl]
    refine Ev.step (fun k => hamming_Judge.j0.eq_2 ..) ?_
    refine Ev.ite (fun h => Ev.ret ?_) (fun h => ?_)
    · rw [if_pos (by have := beq_iff_eq.1 h; omega)]
    · refine Ev.neg (by decide) (Ev.ret ?_)
      rw [if_neg (fun e => h (by rw [e]; rfl))]
  · refine Ev.pos rfl ?_
    rw [if_neg (by decide)]
    refine Ev.step (fun k => hamming_Judge.j0.eq_2 ..) ?_
    refine Ev.neg (by decide) (Ev.pos rfl ?_)
    refine Ev.ite (fun h => Ev.ret ?_) (fun h => ?_)
    · rw [if_pos ((pow_none hwr).1 h)]
    · have h' : ¬ (p = 0 ∨ isPow p = true) := fun e => h ((pow_none hwr).2 e)
      rw [if_neg h']
      have hpl := place_far (fun e => h' (Or.inl e)) (by simpa using fun e => h' (Or.inr e)) hwr
      refine Ev.bind (bit_place hpl (by omega)) (Ev.pos rfl ?_)
      rw [w64_id (x := 8 * (l.length : Int)) (by omega) (by omega)]
      refine Ev.ite (fun h2 => Ev.ret ?_) (fun h2 => Ev.ret ?_)
      · rw [if_pos (by omega)]
      · rw [if_neg (by omega)]
end Go.Proofs.Ytalejedajkhkjaa.PureChunkPieces
namespace Go.Proofs.Ytalejedajkhkjaa.PureChunkPieces
open Go.RowKit Go.Proofs.Ytalejedajkhkjaa.QChunkPieces Go.Proofs.YtalejedajkhkjaaW.PrintWords Go.Proofs.Ytalejedajkhkjaa.EvKit Go.Proofs.Ytalejedajkhkjaa.BitsKit Go.Proofs.Ytalejedajkhkjaa.CrcMath Go.Proofs.Ytalejedajkhkjaa.NatKit Go.Proofs.Ytalejedajkhkjaa.BitsMath Go.Proofs.Ytalejedajkhkjaa.LenMath Go.Proofs.Ytalejedajkhkjaa.HamMath
end Go.Proofs.Ytalejedajkhkjaa.PureChunkPieces
namespace Go.Proofs.Ytalejedajkhkjaa.PureChunkPieces
open Go.RowKit Go.Proofs.Ytalejedajkhkjaa.QChunkPieces Go.Proofs.YtalejedajkhkjaaW.PrintWords Go.Proofs.YtalejedajkhkjaaW.PrintLast Go.Proofs.YtalejedajkhkjaaW.PrintMore Go.Proofs.Ytalejedajkhkjaa.EvKit Go.Proofs.Ytalejedajkhkjaa.BitsKit Go.Proofs.Ytalejedajkhkjaa.CrcMath Go.Proofs.Ytalejedajkhkjaa.NatKit Go.Proofs.Ytalejedajkhkjaa.BitsMath
theorem shl_one {r : Nat} (h : r < 8) : shl .u8 1 (r : Int) = ((2 ^ r : Nat) : Int) := by
  have : r = 0 ∨ r = 1 ∨ r = 2 ∨ r = 3 ∨ r = 4 ∨ r = 5 ∨ r = 6 ∨ r = 7 := by omega
  rcases this with rfl | rfl | rfl | rfl | rfl | rfl | rfl | rfl <;> decide
theorem flip_l0 {at_ : List Int} (ha : ∀ i ∈ at_, i ≤ 9223372036854775807) (hn : at_.length < 1000000) (d : Nat) : ∀ (i : Nat) (l : List Nat), i + d = at_.length → (∀ b ∈ l, b < 256) → l.length < 1000000 →
    Ev (fun k => bits_Flip.l0 k (ints l) at_ (at_.length : Int) (i : Int)) (ints (flips l (at_.drop i))) := by
  induction d with
  | zero =>
    intro i l hi hl hln
    refine Ev.step (fun k => bits_Flip.l0.eq_2 ..) ?_
    refine Ev.neg (by omega) (Ev.ret ?_)
    rw [List.drop_of_length_le (by omega)]
    rfl
  | succ d ih =>
    intro i l hi hl hln
    refine Ev.step (fun k => bits_Flip.l0.eq_2 ..) ?_
    refine Ev.pos (by omega) ?_
    refine Ev.pos (by omega) ?_
    refine Ev.pos (by omega) ?_
    have hmax := ha _ (rd_mem (l := at_) (i := (i : Int)) (by omega) (by omega))
    rw [drop_rd (l := at_) (i := i) (by omega), w64_succ (by omega)]
    have next := fun v => ih (i + 1) (flip1 l v) (by omega) (flip1_lt hl v) (by rw [flip1_length]; exact hln)
    generalize rd at_ (i : Int) = a at hmax ⊢
    have next := next a
    show Ev _ (ints (flips (flip1 l a) (at_.drop (i + 1))))
    have hself : ¬ (0 ≤ a ∧ a / 8 < (l.length : Int)) → flip1 l a = l := fun h => by unfold flip1; rw [if_neg h]
    refine Ev.ite (fun h0 => ?_) (fun h0 => ?_)
    · obtain ⟨m, rfl⟩ := Int.eq_ofNat_of_zero_le h0
      have hw : wrap64 (Int.tdiv (m : Int) 8) = ((m / 8 : Nat) : Int) := by
        rw [Int.tdiv_eq_ediv_of_nonneg h0]
        exact w64_id (by omega) (by omega)
      have hs : IntKind.u64.wrap (Int.tmod (m : Int) 8) = ((m % 8 : Nat) : Int) := by
        rw [Int.tmod_eq_emod_of_nonneg h0]
        exact w_u64 _ (by omega) (by omega)
      rw [hw, hs, ints_length]
      clear hw hs
      refine Ev.ite (fun h1 => ?_) (fun h1 => ?_)
      · refine Ev.pos (by omega) ?_
        refine Ev.pos (by omega) ?_
        have hlt : m / 8 < l.length := by omega
        have hb := hl _ (List.getElem_mem hlt)
        have hp : 2 ^ (m % 8) < 256 := Nat.pow_lt_pow_right (n := 8) (a := 2) (by decide) (Nat.mod_lt _ (by decide))
        rw [rd_ints_lt hlt, shl_one (Nat.mod_lt _ (by decide)), xor_u8 hb hp, Int.toNat_natCast, ints_set]
        have e : flip1 l (m : Int) = l.set (m / 8) (l[m / 8] ^^^ 2 ^ (m % 8)) := by
          unfold flip1
          rw [if_pos (by omega), Int.toNat_natCast, List.getD_eq_getElem?_getD, List.getElem?_eq_getElem hlt, Option.getD_some]
        rw [← e]
        exact next
      · rw [hself (by omega)] at next ⊢
        exact next
    · rw [hself (by omega)] at next ⊢
      exact next
theorem flip_ev {l at_ : List Int} (hl : ∀ x ∈ l, 0 ≤ x ∧ x < 256) (hln : l.length < 1000000) (ha : ∀ i ∈ at_, i ≤ 9223372036854775807) (hn : at_.length < 1000000) : Ev (fun k => bits_Flip.f k l at_) (ints (flips (nats l) at_)) := by
  refine Ev.congr (fun k => by rw [bits_Flip.f]) ?_
  refine Ev.bindv (a := l) ?_ ?_
  · unfold slices_Clone_byte_byte.f
    rw [if_pos (by omega)]
  · have := flip_l0 ha hn at_.length 0 (nats l) (by omega) (nats_lt hl) (by rw [nats_length]; exact hln)
    rw [ints_nats fun x hx => (hl x hx).1] at this
    exact this
end Go.Proofs.Ytalejedajkhkjaa.PureChunkPieces
namespace Go.Proofs.Ytalejedajkhkjaa.PureChunkPieces
open Go.RowKit Go.Proofs.Ytalejedajkhkjaa.QChunkPieces Go.Proofs.YtalejedajkhkjaaW.PrintWords Go.Proofs.YtalejedajkhkjaaW.PrintLast Go.Proofs.Ytalejedajkhkjaa.EvKit
theorem same_l0 (a b : List Int) (hl : a.length = b.length) (hb : a.length < 1000000000) (d : Nat) : ∀ i : Nat, i + d = a.length →
    Ev (fun k => incunableref01_Same.l0 k a b (i : Int)) (decide (a.drop i = b.drop i)) := by
  induction d with
  | zero =>
    intro i hi
    refine Ev.step (fun k => incunableref01_Same.l0.eq_2 ..) ?_
    refine Ev.neg (by omega) (Ev.ret ?_)
    rw [List.drop_of_length_le (by omega), List.drop_of_length_le (by omega)]
    rfl
  | succ d ih =>
    intro i hi
    refine Ev.step (fun k => incunableref01_Same.l0.eq_2 ..) ?_
    refine Ev.pos (by omega) (Ev.pos (by omega) (Ev.pos (by omega) ?_))
    rw [drop_rd (l := a) (i := i) (by omega), drop_rd (l := b) (i := i) (by omega)]
    refine Ev.ite (fun h => ?_) (fun h => Ev.ret ?_)
    · rw [w64_succ (by omega), h]
      refine Ev.eq (ih (i + 1) (by omega)) ?_
      simp
    · simp [h]
theorem same_ev (a b : List Int) (hb : a.length < 1000000000) : Ev (fun k => incunableref01_Same.f k a b) (decide (a = b)) := by
  refine Ev.congr (fun k => by rw [incunableref01_Same.f]) ?_
  refine Ev.ite (fun h => ?_) (fun h => Ev.ret ?_)
  · exact same_l0 a b (by omega) hb a.length 0 (by omega)
  · have : a ≠ b := fun e => h (by rw [e])
    simp [this]
end Go.Proofs.Ytalejedajkhkjaa.PureChunkPieces
namespace Go.Proofs.Ytalejedajkhkjaa.ChunkMath
open Go.RowKit Go.Proofs.Ytalejedajkhkjaa.CrcMath Go.Proofs.Ytalejedajkhkjaa.BitsMath Go.Proofs.Ytalejedajkhkjaa.LenMath Go.Proofs.Ytalejedajkhkjaa.HamMath
def encW (l : List Nat) (w : Nat) : List Nat := l ++ [w % 256, w / 256]
end Go.Proofs.Ytalejedajkhkjaa.ChunkMath
namespace Go.Proofs.Ytalejedajkhkjaa.PureChunkPieces
open Go.RowKit Go.Proofs.Ytalejedajkhkjaa.QChunkPieces Go.Proofs.YtalejedajkhkjaaW.PrintWords Go.Proofs.YtalejedajkhkjaaW.PrintLast Go.Proofs.YtalejedajkhkjaaW.PrintMore Go.Proofs.Ytalejedajkhkjaa.EvKit Go.Proofs.Ytalejedajkhkjaa.BitsKit Go.Proofs.Ytalejedajkhkjaa.CrcMath Go.Proofs.Ytalejedajkhkjaa.NatKit Go.Proofs.Ytalejedajkhkjaa.BitsMath Go.Proofs.Ytalejedajkhkjaa.LenMath Go.Proofs.Ytalejedajkhkjaa.HamMath Go.Proofs.Ytalejedajkhkjaa.ChunkMath
def encN (l : List Nat) : List Nat := encW l (wordN l)
theorem encode_ev {l : List Int} (hl : ∀ x ∈ l, 0 ≤ x ∧ x < 256) (h0 : 0 < l.length) (hn : l.length ≤ 512) : Ev (fun k => chunk_Encode.f k l) (ints (encN (nats l)), 0) := by
  have hw := wordN_lt (l := nats l) (by rw [nats_length]; omega)
  refine Ev.congr (fun k => by rw [chunk_Encode.f]) ?_
  refine Ev.neg (by omega) ?_
  rw [decide_eq_false (by omega)]
  refine Ev.step (fun k => chunk_Encode.j0.eq_2 ..) ?_
  refine Ev.neg (by decide) ?_
  refine Ev.bind (word_ev hl hn) (Ev.pos rfl ?_)
  generalize hww : wordN (nats l) = w at hw ⊢
  refine Ev.bindv rfl (Ev.pos (by rw [List.length_nil]; omega) (Ev.bindv rfl (Ev.bindv rfl (Ev.pos ?_ (Ev.ret ?_)))))
  · rw [List.nil_append, List.length_cons, List.length_singleton]
    omega
  · unfold encN encW
    rw [hww, List.nil_append]
    have e : ints (nats l ++ [w % 256, w / 256]) = l ++ [((w % 256 : Nat) : Int), ((w / 256 : Nat) : Int)] := by
      unfold ints
      rw [List.map_append]
      have h := ints_nats (l := l) fun x hx => (hl x hx).1
      unfold ints at h
      rw [h]
      rfl
    rw [e, show (w : Int) % 256 = ((w % 256 : Nat) : Int) from by omega, show (w : Int) / 256 % 256 = ((w / 256 : Nat) : Int) from by omega]
def decOf (d : List Nat) (j : Int × Int × Int) : List Int × Int × Int :=
  if j.1 = 0 then (ints d, 0, 0) else if j.1 = 1 then (ints (flips d [j.2.1]), 1, 0) else if j.1 = 2 then (ints d, 1, 0) else ([], 0, 14)
def decN (r : List Nat) : List Int × Int × Int :=
  if r.length < 3 ∨ 514 < r.length then ([], 0, 2) else decOf (r.take (r.length - 2)) (judgeN (r.take (r.length - 2)) (r.getD (r.length - 2) 0 + 256 * r.getD (r.length - 1) 0))
theorem or_word {a b : Nat} (ha : a < 256) (hb : b < 256) : Go.bits .or .u16 (IntKind.u16.wrap (a : Int)) (IntKind.u16.wrap (IntKind.u16.wrap (b : Int) * 256)) = ((a + 256 * b : Nat) : Int) := by
  rw [w_u16 (a : Int) (by omega) (by omega), w_u16 (b : Int) (by omega) (by omega), w_u16 _ (by omega) (by omega), show (b : Int) * 256 = ((256 * b : Nat) : Int) by omega, or_u16 (by omega) (by omega)]
  have := Nat.two_pow_add_eq_or_of_lt (i := 8) (b := a) (by omega) b
  rw [show 2 ^ 8 = 256 from rfl] at this
  rw [Nat.or_comm, ← this, Nat.add_comm]
theorem judgeN_states (l : List Nat) (w : Nat) : (judgeN l w).2.2 = 0 ∧ ((judgeN l w).1 = 0 ∨ (judgeN l w).1 = 1 ∨ (judgeN l w).1 = 2 ∨ (judgeN l w).1 = 3) ∧ (judgeN l w).2.1 ≤ 8192 := by
  have := wrongN_lt l w
  unfold judgeN
  split
  · split
    · exact ⟨rfl, Or.inl rfl, by show (0 : Int) ≤ 8192; omega⟩
    · exact ⟨rfl, Or.inr (Or.inr (Or.inr rfl)), by show (0 : Int) ≤ 8192; omega⟩
  · split
    · exact ⟨rfl, Or.inr (Or.inr (Or.inl rfl)), by show (0 : Int) ≤ 8192; omega⟩
    · split
      · refine ⟨rfl, Or.inr (Or.inl rfl), ?_⟩
        show ((wrongN l w - 1 - len (wrongN l w) : Nat) : Int) ≤ 8192
        omega
      · exact ⟨rfl, Or.inr (Or.inr (Or.inr rfl)), by show (0 : Int) ≤ 8192; omega⟩
theorem decode_ev {r : List Int} (hr : ∀ x ∈ r, 0 ≤ x ∧ x < 256) (hn : r.length < 1000000) : Ev (fun k => chunk_Decode.f k r) (decN (nats r)) := by
  have hlen := nats_length r
  have e1 : wrap64 ((r.length : Int) - 2) = (r.length : Int) - 2 := w64_id (by omega) (by omega)
  refine Ev.congr (fun k => by rw [chunk_Decode.f]) ?_
  rw [e1]
  clear e1
  unfold decN
  rw [hlen]
  have hj : Ev (fun k => chunk_Decode.j0 k r ((r.length : Int) - 2) true) ([], 0, 2) := Ev.step (fun k => chunk_Decode.j0.eq_2 ..) (Ev.pos rfl (Ev.ret rfl))
  refine Ev.ite (fun h => ?_) (fun h => ?_)
  · rw [if_pos (by omega)]
    exact hj
  by_cases h512 : (r.length : Int) - 2 > 512
  · rw [decide_eq_true h512, if_pos (by omega)]
    exact hj
  rw [decide_eq_false h512, if_neg (by omega)]
  clear hj
  obtain ⟨n, hn2⟩ : ∃ n, r.length = n + 2 := ⟨r.length - 2, by omega⟩
  have e2 : (r.length : Int) - 2 = (n : Int) := by omega
  rw [e2, hn2, show n + 2 - 2 = n by omega, show n + 2 - 1 = n + 1 by omega]
  refine Ev.step (fun k => chunk_Decode.j0.eq_2 ..) ?_
  rw [w64_succ (by omega), Int.toNat_natCast]
  refine Ev.neg (by decide) (Ev.pos (by omega) (Ev.pos (by omega) (Ev.pos (by omega) (Ev.pos (by omega) (Ev.pos (by omega) ?_)))))
  have b1 := hr _ (rd_mem (l := r) (i := (n : Int)) (by omega) (by omega))
  have b2 := hr _ (rd_mem (l := r) (i := ((n + 1 : Nat) : Int)) (by omega) (by omega))
  have r1 := rd_nats (l := r) (fun x hx => (hr x hx).1) n
  have r2 := rd_nats (l := r) (fun x hx => (hr x hx).1) (n + 1)
  rw [r1] at b1 ⊢
  rw [r2] at b2 ⊢
  rw [or_word (by omega) (by omega)]
  have hd : ∀ x ∈ r.take n, 0 ≤ x ∧ x < 256 := fun x hx => hr x (List.mem_of_mem_take hx)
  have hdl : (r.take n).length = n := by rw [List.length_take]; omega
  refine Ev.bind (judge_ev hd (by omega) (by omega)) ?_
  rw [nats_take]
  have hst := judgeN_states ((nats r).take n) ((nats r).getD n 0 + 256 * (nats r).getD (n + 1) 0)
  generalize judgeN ((nats r).take n) ((nats r).getD n 0 + 256 * (nats r).getD (n + 1) 0) = j at hst ⊢
  obtain ⟨s, b, e⟩ := j
  obtain ⟨h1, h2, h3⟩ := hst
  dsimp only at h1 h2 h3 ⊢
  refine Ev.pos h1 ?_
  unfold decOf
  have hf0 := flip_ev (l := r.take n) (at_ := []) hd (by omega) (by intro i hi; exact absurd hi (by simp)) (by simp)
  have hf1 := flip_ev (l := r.take n) (at_ := [b]) hd (by omega) (by intro i hi; rw [List.mem_singleton.1 hi]; omega) (by simp)
  rw [nats_take] at hf0 hf1
  dsimp only
  refine Ev.ite (fun hs => ?_) (fun hs => ?_)
  · rw [if_pos hs]
    exact Ev.bind hf0 (Ev.ret rfl)
  rw [if_neg hs]
  refine Ev.ite (fun hs => ?_) (fun hs => ?_)
  · rw [if_pos hs]
    exact Ev.bind hf1 (Ev.ret rfl)
  rw [if_neg hs]
  refine Ev.ite (fun hs => ?_) (fun hs => ?_)
  · rw [if_pos hs]
    exact Ev.bind hf0 (Ev.ret rfl)
  rw [if_neg hs]
  exact Ev.ret rfl
theorem chunk_awake_ev : Ev (fun k => incunablelaw06_awake.f k) true := by
  refine Ev.congr (fun k => by rw [incunablelaw06_awake.f]) ?_
  refine Ev.bind (encode_ev (l := [0]) (by simp) (by decide) (by decide)) (Ev.pos rfl ?_)
  have e : ints (encN (nats [0])) = [0, 0, 192] := by decide +kernel
  rw [e]
  exact Ev.bind (same_ev [0, 0, 192] [0, 0, 192] (by simp)) (Ev.ret (by simp))
end Go.Proofs.Ytalejedajkhkjaa.PureChunkPieces
namespace Go.Proofs.Ytalejedajkhkjaa.PureChunkPieces
open Go.RowKit Go.Proofs.Ytalejedajkhkjaa.QChunkPieces Go.Proofs.YtalejedajkhkjaaW.PrintWords Go.Proofs.YtalejedajkhkjaaW.PrintLast Go.Proofs.YtalejedajkhkjaaW.PrintMore Go.Proofs.Ytalejedajkhkjaa.EvKit Go.Proofs.Ytalejedajkhkjaa.BitsKit Go.Proofs.Ytalejedajkhkjaa.CrcMath Go.Proofs.Ytalejedajkhkjaa.NatKit Go.Proofs.Ytalejedajkhkjaa.BitsMath Go.Proofs.Ytalejedajkhkjaa.LenMath Go.Proofs.Ytalejedajkhkjaa.HamMath Go.Proofs.Ytalejedajkhkjaa.ChunkMath
def allR (m : Nat) : Nat → List Int → List Int → Int → List Int × Int × Int
  | 0, _, out, fx => (out, fx, 0)
  | d + 1, L, out, fx => if (decN (nats (L.take m))).2.2 = 0 then allR m d (L.drop m) (out ++ (decN (nats (L.take m))).1) (wrap64 (fx + (decN (nats (L.take m))).2.1)) else ([], 0, (decN (nats (L.take m))).2.2)
def pcs (m : Nat) : Nat → List Int → List (List Int)
  | 0, _ => []
  | d + 1, L => L.take m :: pcs m d (L.drop m)
theorem decN_size (r : List Nat) (h : (decN r).2.2 = 0) : 0 < (decN r).1.length ∧ (decN r).1.length ≤ r.length := by
  unfold decN at h ⊢
  split at h
  · exact absurd h (by decide)
  · rename_i hn
    rw [if_neg hn]
    have hl : (r.take (r.length - 2)).length = r.length - 2 := by rw [List.length_take]; omega
    unfold decOf at h ⊢
    split at h
    · rename_i h1
      rw [if_pos h1]
      show 0 < (ints _).length ∧ (ints _).length ≤ _
      rw [ints_length, hl]
      omega
    · rename_i h1
      rw [if_neg h1]
      split at h
      · rename_i h2
        rw [if_pos h2]
        show 0 < (ints _).length ∧ (ints _).length ≤ _
        rw [ints_length, flips_length, hl]
        omega
      · rename_i h2
        rw [if_neg h2]
        split at h
        · rename_i h3
          rw [if_pos h3]
          show 0 < (ints _).length ∧ (ints _).length ≤ _
          rw [ints_length, hl]
          omega
        · exact absurd h (by decide)
theorem may_on {l : List Int} {m d : Nat} (hm : 3 ≤ m ∧ m ≤ 514) (hl : l.length = d * m) : chunk_may.f l ((m : Int) - 2) = some true := by
  unfold chunk_may.f
  rw [if_pos (by omega), if_pos (by omega), w64_id (x := (m : Int) - 2 + 2) (by omega) (by omega), show (m : Int) - 2 + 2 = (m : Int) by omega, if_neg (by omega), hl, show ((d * m : Nat) : Int) % (m : Int) = 0 by rw [Int.natCast_mul]; exact Int.mul_emod_left _ _]
  rfl
theorem may_off {l : List Int} {s : Int} (h : s < 1 ∨ 512 < s ∨ (1 ≤ s ∧ s ≤ 512 ∧ l.length % (s + 2).toNat ≠ 0)) : chunk_may.f l s = some false := by
  unfold chunk_may.f
  rcases h with h | h | ⟨h1, h2, h⟩
  · rw [if_neg (by omega)]
  · rw [if_pos (by omega), if_neg (by omega)]
  · obtain ⟨m, hm⟩ := Int.eq_ofNat_of_zero_le (show 0 ≤ s + 2 by omega)
    rw [hm, Int.toNat_natCast] at h
    rw [if_pos (by omega), if_pos (by omega), w64_id (x := s + 2) (by omega) (by omega), hm, if_neg (by omega), ← Int.natCast_emod, show (((l.length % m : Nat) : Int) == 0) = false from beq_eq_false_iff_ne.2 (by omega)]
theorem may_cases (l : List Int) (s : Int) : (∃ m d : Nat, (3 ≤ m ∧ m ≤ 514) ∧ s = (m : Int) - 2 ∧ l.length = d * m) ∨ (s < 1 ∨ 512 < s ∨ (1 ≤ s ∧ s ≤ 512 ∧ l.length % (s + 2).toNat ≠ 0)) := by
  by_cases h1 : s < 1
  · exact .inr (.inl h1)
  by_cases h2 : 512 < s
  · exact .inr (.inr (.inl h2))
  by_cases h3 : l.length % (s + 2).toNat = 0
  · refine .inl ⟨(s + 2).toNat, l.length / (s + 2).toNat, ⟨by omega, by omega⟩, by omega, ?_⟩
    have := Nat.div_add_mod l.length (s + 2).toNat
    rw [h3, Nat.add_zero, Nat.mul_comm] at this
    exact this.symm
  · exact .inr (.inr (.inr ⟨by omega, by omega, h3⟩))
theorem bytes_take {L : List Int} (hL : ∀ x ∈ L, 0 ≤ x ∧ x < 256) (m : Nat) : ∀ x ∈ L.take m, 0 ≤ x ∧ x < 256 := fun x hx => hL x (List.mem_of_mem_take hx)
theorem bytes_drop {L : List Int} (hL : ∀ x ∈ L, 0 ≤ x ∧ x < 256) (m : Nat) : ∀ x ∈ L.drop m, 0 ≤ x ∧ x < 256 := fun x hx => hL x (List.mem_of_mem_drop hx)
theorem all_l0 {m : Nat} (hm : 3 ≤ m ∧ m ≤ 514) : ∀ (d : Nat) (L out : List Int) (fx : Int), L.length = d * m → (∀ x ∈ L, 0 ≤ x ∧ x < 256) → out.length + L.length ≤ 1000000 → Ev (fun k => chunk_All.l0 k L ((m : Int) - 2) out fx) (allR m d L out fx) := by
  intro d
  induction d with
  | zero =>
    intro L out fx hl _ _
    refine Ev.step (fun k => chunk_All.l0.eq_2 ..) ?_
    exact Ev.pos (by omega) (Ev.ret rfl)
  | succ d ih =>
    intro L out fx hl hb hs
    have h3 : L.length = m + d * m := by rw [hl, Nat.succ_mul]; omega
    have hl1 : (L.drop m).length = d * m := by rw [List.length_drop]; omega
    have hl2 : (L.take m).length = m := by rw [List.length_take]; omega
    refine Ev.step (fun k => chunk_All.l0.eq_2 ..) ?_
    rw [show ((m : Int) - 2 + 2).toNat = m by omega]
    refine Ev.neg (by omega) (Ev.bind (decode_ev (bytes_take hb m) (by omega)) ?_)
    unfold allR
    have hz := decN_size (nats (L.take m))
    rw [nats_length, hl2] at hz
    generalize decN (nats (L.take m)) = t at hz ⊢
    refine Ev.ite (fun h => ?_) (fun h => ?_)
    · rw [if_pos h]
      have h4 := hz h
      refine Ev.pos h4.1 (Ev.pos (by omega) ?_)
      exact ih _ _ _ hl1 (bytes_drop hb m) (by rw [List.length_append]; omega)
    · rw [if_neg h]
      exact Ev.ret rfl
theorem all_on {L : List Int} {m d : Nat} (hm : 3 ≤ m ∧ m ≤ 514) (hl : L.length = d * m) (hb : ∀ x ∈ L, 0 ≤ x ∧ x < 256) (hs : L.length ≤ 1000000) : Ev (fun k => chunk_All.f k L ((m : Int) - 2)) (allR m d L [] 0) := by
  refine Ev.congr (fun k => by rw [chunk_All.f]) ?_
  refine Ev.bindv (may_on hm hl) (Ev.pos rfl (Ev.pos ⟨by omega, by omega, ?_⟩ ?_))
  · rw [show ((m : Int) - 2 + 2).toNat = m by omega, hl]
    exact Nat.mul_mod_left _ _
  · exact all_l0 hm d L [] 0 hl hb (by rw [List.length_nil]; omega)
theorem all_off {L : List Int} {s : Int} (h : s < 1 ∨ 512 < s ∨ (1 ≤ s ∧ s ≤ 512 ∧ L.length % (s + 2).toNat ≠ 0)) : Ev (fun k => chunk_All.f k L s) ([], 0, 2) := by
  refine Ev.congr (fun k => by rw [chunk_All.f]) ?_
  exact Ev.bindv (may_off h) (Ev.neg (by decide) (Ev.ret rfl))
theorem split_l0 {m : Nat} (hm : 3 ≤ m ∧ m ≤ 514) : ∀ (d : Nat) (L : List Int) (out : List (List Int)), L.length = d * m → out.length + L.length ≤ 1000000 → Ev (fun k => chunk_Split.l0 k L ((m : Int) - 2) out) (out ++ pcs m d L) := by
  intro d
  induction d with
  | zero =>
    intro L out hl _
    refine Ev.step (fun k => chunk_Split.l0.eq_2 ..) ?_
    exact Ev.pos (by omega) (Ev.ret (by simp [pcs]))
  | succ d ih =>
    intro L out hl hs
    have h3 : L.length = m + d * m := by rw [hl, Nat.succ_mul]; omega
    have hl1 : (L.drop m).length = d * m := by rw [List.length_drop]; omega
    refine Ev.step (fun k => chunk_Split.l0.eq_2 ..) ?_
    rw [show ((m : Int) - 2 + 2).toNat = m by omega]
    refine Ev.neg (by omega) (Ev.pos (by omega) ?_)
    refine Ev.eq (ih _ _ hl1 (by rw [List.length_append, List.length_singleton]; omega)) ?_
    rw [List.append_assoc]
    rfl
theorem split_on {L : List Int} {m d : Nat} (hm : 3 ≤ m ∧ m ≤ 514) (hl : L.length = d * m) (hs : L.length ≤ 1000000) : Ev (fun k => chunk_Split.f k L ((m : Int) - 2)) (pcs m d L, 0) := by
  refine Ev.congr (fun k => by rw [chunk_Split.f]) ?_
  refine Ev.bindv (may_on hm hl) (Ev.pos rfl (Ev.pos ⟨by omega, by omega, ?_⟩ (Ev.bind (split_l0 hm d L [] hl (by rw [List.length_nil]; omega)) (Ev.ret rfl))))
  rw [show ((m : Int) - 2 + 2).toNat = m by omega, hl]
  exact Nat.mul_mod_left _ _
theorem split_off {L : List Int} {s : Int} (h : s < 1 ∨ 512 < s ∨ (1 ≤ s ∧ s ≤ 512 ∧ L.length % (s + 2).toNat ≠ 0)) : Ev (fun k => chunk_Split.f k L s) ([], 2) := by
  refine Ev.congr (fun k => by rw [chunk_Split.f]) ?_
  exact Ev.bindv (may_off h) (Ev.neg (by decide) (Ev.ret rfl))
theorem pcs_length (m : Nat) : ∀ (d : Nat) (L : List Int), (pcs m d L).length = d := by
  intro d
  induction d with
  | zero => intro L; rfl
  | succ d ih => intro L; show (pcs m d (L.drop m)).length + 1 = d + 1; rw [ih]
theorem pcs_get (m : Nat) : ∀ (d : Nat) (L : List Int) (i : Nat), i < d → (pcs m d L).getD i [] = (L.drop (i * m)).take m := by
  intro d
  induction d with
  | zero => intro L i h; omega
  | succ d ih =>
    intro L i h
    cases i with
    | zero => rw [Nat.zero_mul, List.drop_zero]; rfl
    | succ i =>
      show (pcs m d (L.drop m)).getD i [] = _
      rw [ih _ i (by omega), List.drop_drop, Nat.succ_mul, Nat.add_comm]
end Go.Proofs.Ytalejedajkhkjaa.PureChunkPieces
namespace Go.Proofs.Ytalejedajkhkjaa.Pure
open Go.RowKit Go.Proofs.Ytalejedajkhkjaa.QChunkPieces Go.Proofs.YtalejedajkhkjaaW.PrintWords Go.Proofs.YtalejedajkhkjaaW.PrintLast Go.Proofs.YtalejedajkhkjaaW.PrintMore Go.Proofs.Ytalejedajkhkjaa.EvKit Go.Proofs.Ytalejedajkhkjaa.BitsKit Go.Proofs.Ytalejedajkhkjaa.CrcMath Go.Proofs.Ytalejedajkhkjaa.NatKit Go.Proofs.Ytalejedajkhkjaa.BitsMath Go.Proofs.Ytalejedajkhkjaa.LenMath Go.Proofs.Ytalejedajkhkjaa.HamMath Go.Proofs.Ytalejedajkhkjaa.ChunkMath Go.Proofs.Ytalejedajkhkjaa.PureChunkPieces
theorem law_l0 {m : Nat} (hm : 3 ≤ m ∧ m ≤ 514) {L : List Int} {P : List (List Int)} {D : Nat} {x7 : List Int} {x8 x9 : Int} (hl : L.length = D * m) (hs : L.length ≤ 200) (hb : ∀ x ∈ L, 0 ≤ x ∧ x < 256) (hP : P = pcs m D L) : ∀ (d i : Nat) (out : List Int) (fx : Int), i + d = D → allR m d (L.drop (i * m)) out fx = (x7, x8, x9) → out.length + d * m ≤ 1000000 → Ev (fun k => incunablelaw06_ChunkPieces.l0 k x7 x8 x9 out fx P (D : Int) (i : Int)) true := by
  have hDs : D ≤ 200 := by
    have : D * 1 ≤ D * m := Nat.mul_le_mul_left D (by omega)
    omega
  intro d
  induction d with
  | zero =>
    intro i out fx hi ha ho
    obtain ⟨rfl, rfl, rfl⟩ : out = x7 ∧ fx = x8 ∧ 0 = x9 := by simpa [allR] using ha
    refine Ev.step (fun k => incunablelaw06_ChunkPieces.l0.eq_2 ..) ?_
    refine Ev.neg (by omega) (Ev.pos rfl ?_)
    have hsm := same_ev out out (by omega)
    rw [decide_eq_true rfl] at hsm
    exact Ev.bind hsm (Ev.pos rfl (Ev.ret (by simp)))
  | succ d ih =>
    intro i out fx hi ha ho
    have hPl : P.length = D := by rw [hP, pcs_length]
    have hn : (i + 1) * m = i * m + m := Nat.succ_mul i m
    have h3 : i * m + m ≤ L.length := by rw [hl, ← hn]; exact Nat.mul_le_mul_right m (by omega)
    have h5 : out.length + (m + d * m) ≤ 1000000 := by rw [Nat.succ_mul] at ho; omega
    have hg : rd_L1 P (i : Int) = (L.drop (i * m)).take m := by
      unfold rd_L1
      rw [Int.toNat_natCast, hP, pcs_get m D L i (by omega)]
    have hl2 : ((L.drop (i * m)).take m).length = m := by rw [List.length_take, List.length_drop]; omega
    have hd2 : L.drop ((i + 1) * m) = (L.drop (i * m)).drop m := by rw [List.drop_drop, hn]
    have ih2 := fun out fx => ih (i + 1) out fx (by omega)
    rw [hd2] at ih2
    clear ih hd2
    refine Ev.step (fun k => incunablelaw06_ChunkPieces.l0.eq_2 ..) ?_
    rw [hg, w64_succ (by omega)]
    refine Ev.pos (by omega) (Ev.pos (by omega) (Ev.pos (by omega) ?_))
    refine Ev.bind (decode_ev (bytes_take (bytes_drop hb _) m) (by omega)) ?_
    unfold allR at ha
    have hz := decN_size (nats ((L.drop (i * m)).take m))
    rw [nats_length, hl2] at hz
    generalize decN (nats ((L.drop (i * m)).take m)) = t at hz ha ⊢
    refine Ev.ite (fun h => ?_) (fun h => ?_)
    · rw [if_pos h] at ha
      have h4 := hz h
      exact Ev.pos (by omega) (ih2 _ _ ha (by rw [List.length_append]; omega))
    · rw [if_neg h] at ha
      obtain ⟨rfl, rfl, rfl⟩ : [] = x7 ∧ 0 = x8 ∧ t.2.2 = x9 := by simpa using ha
      exact Ev.pos rfl (Ev.pos rfl (Ev.ret rfl))
theorem ChunkPieces : StmChunkPieces := by
  intro l s _ hl' _
  have hl : ∀ x ∈ l, 0 ≤ x ∧ x < 256 := fun x hx => wf_u8 (hl'.2 x hx)
  clear hl'
  refine Ev.rounds (Ev.congr (fun k => by rw [incunablelaw06_ChunkPieces.f]) ?_)
  refine Ev.bind chunk_awake_ev (Ev.pos rfl ?_)
  refine Ev.ite (fun _ => Ev.ret rfl) (fun h200 => ?_)
  have hlen : l.length ≤ 200 := by omega
  clear h200
  rcases may_cases l s with ⟨m, d, hm, rfl, hl2⟩ | hoff
  · refine Ev.bind (split_on hm hl2 (by omega)) (Ev.bind (all_on hm hl2 hl (by omega)) (Ev.pos rfl ?_))
    have h0 : allR m d (l.drop (0 * m)) [] 0 = ((allR m d l [] 0).1, (allR m d l [] 0).2.1, (allR m d l [] 0).2.2) := by rw [Nat.zero_mul, List.drop_zero]
    have := law_l0 hm hl2 hlen hl rfl d 0 [] 0 (by omega) h0 (by rw [List.length_nil]; omega)
    dsimp only
    rw [pcs_length]
    exact this
  · exact Ev.bind (split_off hoff) (Ev.bind (all_off hoff) (Ev.neg (by decide) (Ev.pos rfl (Ev.pos rfl (Ev.ret rfl)))))
end Go.Proofs.Ytalejedajkhkjaa.Pure
