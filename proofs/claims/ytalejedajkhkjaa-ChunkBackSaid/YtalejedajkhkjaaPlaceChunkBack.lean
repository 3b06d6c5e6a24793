/-
  Bit lengths, places and bits of package hamming.
-/
import Derived.Test.YtalejedajkhkjaaLenMath
import Derived.Test.YtalejedajkhkjaaQChunkBackx
namespace Go.Proofs.Ytalejedajkhkjaa.PureChunkBack
open Go.RowKit Go.Proofs.Ytalejedajkhkjaa.QChunkBack Go.Proofs.YtalejedajkhkjaaW.PrintWords Go.Proofs.YtalejedajkhkjaaW.PrintLast Go.Proofs.YtalejedajkhkjaaW.PrintMore Go.Proofs.Ytalejedajkhkjaa.EvKit Go.Proofs.Ytalejedajkhkjaa.BitsKit Go.Proofs.Ytalejedajkhkjaa.LenMath
theorem tab_len : ∀ b : Nat, b < 256 → bt (⟨#[0, 1, 2, 2, 3, 3, 3, 3, 4, 4, 4, 4, 4, 4, 4, 4, 5, 5, 5, 5, 5, 5, 5, 5, 5, 5, 5, 5, 5, 5, 5, 5, 6, 6, 6, 6, 6, 6, 6, 6, 6, 6, 6, 6, 6, 6, 6, 6, 6, 6, 6, 6, 6, 6, 6, 6, 6, 6, 6, 6, 6, 6, 6, 6, 7, 7, 7, 7, 7, 7, 7, 7, 7, 7, 7, 7, 7, 7, 7, 7, 7, 7, 7, 7, 7, 7, 7, 7, 7, 7, 7, 7, 7, 7, 7, 7, 7, 7, 7, 7, 7, 7, 7, 7, 7, 7, 7, 7, 7, 7, 7, 7, 7, 7, 7, 7, 7, 7, 7, 7, 7, 7, 7, 7, 7, 7, 7, 7, 8, 8, 8, 8, 8, 8, 8, 8, 8, 8, 8, 8, 8, 8, 8, 8, 8, 8, 8, 8, 8, 8, 8, 8, 8, 8, 8, 8, 8, 8, 8, 8, 8, 8, 8, 8, 8, 8, 8, 8, 8, 8, 8, 8, 8, 8, 8, 8, 8, 8, 8, 8, 8, 8, 8, 8, 8, 8, 8, 8, 8, 8, 8, 8, 8, 8, 8, 8, 8, 8, 8, 8, 8, 8, 8, 8, 8, 8, 8, 8, 8, 8, 8, 8, 8, 8, 8, 8, 8, 8, 8, 8, 8, 8, 8, 8, 8, 8, 8, 8, 8, 8, 8, 8, 8, 8, 8, 8, 8, 8, 8, 8, 8, 8, 8, 8, 8, 8, 8, 8, 8, 8, 8, 8, 8, 8, 8, 8]⟩ : ByteArray) (b : Int) = ((len b : Nat) : Int) := by
  decide +kernel
theorem len_ev {p : Nat} (hp : p < 4194304) : Ev (fun k => bits_Len.f k (p : Int)) ((len p : Nat) : Int) := by
  refine Ev.congr (fun k => by rw [bits_Len.f]) ?_
  refine Ev.bind (a := ((len p : Nat) : Int)) ?_ (Ev.ret rfl)
  refine Ev.congr (fun k => by rw [bits_Len64.f]) ?_
  refine Ev.neg (by omega) ?_
  refine Ev.step (fun k => bits_Len64.j0.eq_2 ..) ?_
  refine Ev.ite (fun h1 => ?_) (fun h1 => ?_)
  · refine Ev.neg (by omega) ?_
    refine Ev.pos (by omega) (Ev.pos (by omega) (Ev.ret ?_))
    have hs := len_shift (p := p) 16 (by omega)
    have e : ((p : Int) / 65536) % 256 = ((p / 65536 : Nat) : Int) := by omega
    have h2 := len_le22 hp
    rw [show 2 ^ 16 = 65536 from rfl] at hs
    rw [e, tab_len _ (by omega)]
    clear e
    generalize len (p / 65536) = x at hs ⊢
    rw [w64_id (x := (0 : Int) + 16) (by decide) (by decide), w64_id (x := (x : Int)) (by omega) (by omega), w64_id (by omega) (by omega)]
    omega
  · refine Ev.ite (fun h2 => ?_) (fun h2 => ?_)
    · refine Ev.pos (by omega) (Ev.pos (by omega) (Ev.ret ?_))
      have hs := len_shift (p := p) 8 (by omega)
      have e : ((p : Int) / 256) % 256 = ((p / 256 : Nat) : Int) := by omega
      have h2 := len_le22 hp
      rw [show 2 ^ 8 = 256 from rfl] at hs
      rw [e, tab_len _ (by omega)]
      clear e
      generalize len (p / 256) = x at hs ⊢
      rw [w64_id (x := (0 : Int) + 8) (by decide) (by decide), w64_id (x := (x : Int)) (by omega) (by omega), w64_id (by omega) (by omega)]
      omega
    · refine Ev.pos (by omega) (Ev.pos (by omega) (Ev.ret ?_))
      have e : (p : Int) % 256 = ((p : Nat) : Int) := by omega
      have h2 := len_le22 hp
      rw [e, tab_len _ (by omega)]
      clear e
      generalize len p = x at h2 ⊢
      rw [w64_id (x := (x : Int)) (by omega) (by omega), w64_id (by omega) (by omega)]
      omega
theorem wi64 (n : Int) (h₀ : 0 ≤ n) (h₁ : n < 2 ^ 63) : IntKind.i64.wrap n = n := by
  have e : (2 : Int) ^ 63 = 9223372036854775808 := by decide
  rw [e] at h₁
  simp [IntKind.wrap, IntKind.bits, IntKind.signed]
  omega
theorem and_i64 {a b : Nat} (ha : a < 4611686018427387904) (hb : b < 4611686018427387904) : Go.bits .and .i64 a b = ((a &&& b : Nat) : Int) :=
  (bits_nat .i64 63 (by decide) wi64 a b (by omega) (by omega)).1
theorem pow_test {p : Nat} (h0 : 0 < p) (hp : p < 4194304) : (Go.bits .and .i64 (p : Int) (wrap64 ((p : Int) - 1)) = 0) ↔ isPow p = true := by
  have e : wrap64 ((p : Int) - 1) = ((p - 1 : Nat) : Int) := by rw [w64_id (by omega) (by omega)]; omega
  rw [e, and_i64 (by omega) (by omega), ← and_pow p h0]
  omega
theorem place_l1 {p : Nat} (h0 : 0 < p) (hp : p < 4194304) (h : isPow p = false) : Ev (fun k => hamming_Place.l1 k (p : Int)) (p : Int) := by
  refine Ev.step (fun k => hamming_Place.l1.eq_2 ..) ?_
  refine Ev.neg (fun e => ?_) (Ev.ret rfl)
  rw [(pow_test h0 hp).1 e] at h
  exact absurd h (by decide)
theorem place_l0 {n : Nat} (hn : n ≤ 1048576) (d : Nat) : ∀ p : Nat, 3 ≤ p → p + d = n + 24 → p ≤ n + 1 + len p → (isPow p = false ∨ p < n + 1 + len p) →
    ∃ r : Nat, Ev (fun k => hamming_Place.l0 k (n : Int) (p : Int)) (r : Int) ∧ IsPlace n r ∧ r < 4194304 := by
  induction d with
  | zero =>
    intro p h3 hd hle _
    have := len_le22 (p := p) (by omega)
    omega
  | succ d ih =>
    intro p h3 hd hle hor
    have hl := len_le22 (p := p) (by omega)
    have ev := len_ev (p := p) (by omega)
    by_cases he : p < n + 1 + len p
    · have hs := len_succ (p := p) (by omega)
      obtain ⟨r, hr, h1, h2⟩ := ih (p + 1) (by omega) (by omega) (by rw [hs]; split <;> omega) (by
        rw [hs]
        cases isPow (p + 1)
        · exact Or.inl rfl
        · exact Or.inr (by rw [if_pos rfl]; omega))
      refine ⟨r, ?_, h1, h2⟩
      refine Ev.step (fun k => hamming_Place.l0.eq_2 ..) ?_
      rw [w_u64 _ (by omega) (by omega)]
      refine Ev.bind ev ?_
      clear ev hs
      generalize len p = x at he hle hl ⊢
      rw [w64_id (by omega) (by omega), w64_id (by omega) (by omega), w64_succ (by omega)]
      exact Ev.pos (by omega) hr
    · have hpw : isPow p = false := by
        rcases hor with h | h
        · exact h
        · omega
      refine ⟨p, ?_, ⟨hpw, by omega, h3⟩, by omega⟩
      refine Ev.step (fun k => hamming_Place.l0.eq_2 ..) ?_
      rw [w_u64 _ (by omega) (by omega)]
      refine Ev.bind ev ?_
      clear ev
      have hl1 := place_l1 (p := p) (by omega) (by omega) hpw
      generalize len p = x at he hle hl ⊢
      rw [w64_id (by omega) (by omega), w64_id (x := (n : Int) + 1) (by omega) (by omega)]
      exact Ev.neg (by omega) hl1
theorem place_ev {n : Nat} (hn : n ≤ 1048576) : ∃ r : Nat, Ev (fun k => hamming_Place.f k (n : Int)) (r : Int) ∧ IsPlace n r ∧ r < 4194304 := by
  have h2 : 2 ≤ len (n + 3) := by
    have := (len_mono (p := 3) (q := n + 3) (by omega) (by omega)).1
    have h3 : len 3 = 2 := by decide
    omega
  obtain ⟨r, hr, h⟩ := place_l0 hn 21 (n + 3) (by omega) (by omega) (by omega) (by
    rcases Nat.eq_zero_or_pos n with e | h0
    · subst e
      exact Or.inl (by decide)
    · have := (len_mono (p := 4) (q := n + 3) (by omega) (by omega)).1
      have h3 : len 4 = 3 := by decide
      exact Or.inr (by omega))
  refine ⟨r, ?_, h⟩
  refine Ev.congr (fun k => by rw [hamming_Place.f]) ?_
  refine Ev.neg (by omega) ?_
  rw [decide_eq_false (by omega)]
  refine Ev.step (fun k => hamming_Place.j0.eq_2 ..) ?_
  refine Ev.neg (by decide) ?_
  rw [w64_id (by omega) (by omega)]
  exact hr
theorem place_is_ev {n : Nat} (hn : n ≤ 1048576) : Ev (fun k => hamming_Place.f k (n : Int)) ((place n : Nat) : Int) := by
  obtain ⟨r, hr, hp, _⟩ := place_ev hn
  rw [← place_same hp (isPlace_place hn)]
  exact hr
theorem place_off {n : Int} (h : n < 0 ∨ n > 1048576) : Ev (fun k => hamming_Place.f k n) 0 := by
  refine Ev.congr (fun k => by rw [hamming_Place.f]) ?_
  have hj : Ev (fun k => hamming_Place.j0 k n true) 0 := Ev.step (fun k => hamming_Place.j0.eq_2 ..) (Ev.pos rfl (Ev.ret rfl))
  refine Ev.ite (fun _ => hj) (fun h0 => ?_)
  rw [decide_eq_true (by omega)]
  exact hj
theorem bit_off {n : Int} (h : n < 3 ∨ n > 2097152) : Ev (fun k => hamming_Bit.f k n) (0, false) := by
  refine Ev.congr (fun k => by rw [hamming_Bit.f]) ?_
  refine Ev.ite (fun _ => Ev.ret rfl) (fun h0 => ?_)
  exact Ev.pos (by omega) (Ev.ret rfl)
theorem bit_pow {p : Nat} (h : isPow p = true) (h3 : 3 ≤ p) (h4 : p ≤ 2097152) : Ev (fun k => hamming_Bit.f k (p : Int)) (0, false) := by
  refine Ev.congr (fun k => by rw [hamming_Bit.f]) ?_
  refine Ev.neg (by omega) (Ev.neg (by omega) ?_)
  exact Ev.pos ((pow_test (by omega) (by omega)).2 h) (Ev.ret rfl)
theorem bit_place {n p : Nat} (h : IsPlace n p) (h4 : p ≤ 2097152) : Ev (fun k => hamming_Bit.f k (p : Int)) ((n : Int), true) := by
  obtain ⟨h1, h2, h3⟩ := h
  have hl := len_le22 (p := p) (by omega)
  refine Ev.congr (fun k => by rw [hamming_Bit.f]) ?_
  refine Ev.neg (by omega) (Ev.neg (by omega) (Ev.neg (fun e => ?_) ?_))
  · rw [(pow_test (by omega) (by omega)).1 e] at h1
    exact absurd h1 (by decide)
  · rw [w_u64 _ (by omega) (by omega)]
    refine Ev.bind (len_ev (by omega)) (Ev.ret ?_)
    generalize len p = x at h2 hl ⊢
    rw [w64_id (x := (p : Int) - (x : Int)) (by omega) (by omega), w64_id (by omega) (by omega), show (p : Int) - (x : Int) - 1 = (n : Int) from by omega]
end Go.Proofs.Ytalejedajkhkjaa.PureChunkBack
