/-
  Plain laws on code words: what turned bits make of what is wrong with a word, and how far words stand apart. No program in sight.
-/
import Derived.Test.YtalejedajkhkjaaHamMath
namespace Go.Proofs.Ytalejedajkhkjaa.HamMath
open Go.RowKit Go.Proofs.Ytalejedajkhkjaa.CrcMath Go.Proofs.Ytalejedajkhkjaa.BitsMath Go.Proofs.Ytalejedajkhkjaa.LenMath
/-- what is wrong with a word, and whether the ones are odd -/
def wrongN (l : List Nat) (w : Nat) : Nat := (gx l (8 * l.length) ^^^ w) % 8192
def single (l : List Nat) (w : Nat) : Bool := go l (8 * l.length) != par (w % 16384)
theorem wrongN_lt (l : List Nat) (w : Nat) : wrongN l w < 8192 := Nat.mod_lt _ (by decide)
theorem xor_mod13 (a b : Nat) : (a ^^^ b) % 8192 = a % 8192 ^^^ b % 8192 := Nat.xor_mod_two_pow (n := 13)
theorem xor_mod14 (a b : Nat) : (a ^^^ b) % 16384 = a % 16384 ^^^ b % 16384 := Nat.xor_mod_two_pow (n := 14)
theorem chk_le (l : List Nat) : chk l ≤ 1 := by unfold chk; split <;> omega
theorem wordN_13 {l : List Nat} (h : l.length ≤ 600) : wordN l % 8192 = gx l (8 * l.length) := by
  have h1 := gx_lt l (8 * l.length) (by omega)
  have h2 := chk_le l
  unfold wordN
  omega
theorem wordN_14 {l : List Nat} (h : l.length ≤ 600) : wordN l % 16384 = gx l (8 * l.length) + 8192 * chk l := by
  have h1 := gx_lt l (8 * l.length) (by omega)
  have h2 := chk_le l
  unfold wordN
  omega
theorem wordN_top {l : List Nat} (h : l.length ≤ 600) : wordN l / 16384 = 3 := by
  have h1 := gx_lt l (8 * l.length) (by omega)
  have h2 := chk_le l
  unfold wordN
  omega
theorem wrong_word {l : List Nat} (h : l.length ≤ 600) : wrongN l (wordN l) = 0 := by
  have h1 := gx_lt l (8 * l.length) (by omega)
  unfold wrongN
  rw [xor_mod13, wordN_13 h, Nat.mod_eq_of_lt h1, Nat.xor_self]
theorem single_word {l : List Nat} (h : l.length ≤ 600) : single l (wordN l) = false := by
  have h1 := gx_lt l (8 * l.length) (by omega)
  unfold single
  rw [wordN_14 h]
  unfold chk
  by_cases e : (go l (8 * l.length) != par (gx l (8 * l.length))) = true
  · rw [if_pos e]
    have e2 : gx l (8 * l.length) + 8192 * 1 = gx l (8 * l.length) ^^^ 2 ^ 13 := by
      have := Nat.two_pow_add_eq_or_of_lt (i := 13) (b := gx l (8 * l.length)) h1 1
      apply Nat.eq_of_testBit_eq
      intro i
      rw [show gx l (8 * l.length) + 8192 * 1 = 2 ^ 13 * 1 + gx l (8 * l.length) by omega, this, Nat.testBit_or, Nat.testBit_xor, show 2 ^ 13 * 1 = 2 ^ 13 by omega, Nat.testBit_two_pow]
      by_cases hi : 13 = i
      · subst hi
        rw [Nat.testBit_lt_two_pow h1]
        rfl
      · rw [decide_eq_false hi]
        simp
    rw [e2, par_xor, par_pow 13 (by decide)]
    revert e
    cases go l (8 * l.length) <;> cases par (gx l (8 * l.length)) <;> decide
  · have e' : (go l (8 * l.length) != par (gx l (8 * l.length))) = false := by simpa using e
    rw [if_neg e, Nat.mul_zero, Nat.add_zero, e']
/-- the places of bits, put together -/
def XS : List Nat → Nat
  | [] => 0
  | i :: p => place i ^^^ XS p
def upN (p : List Nat) : List Int := p.map fun i : Nat => (i : Int)
theorem gx_flips : ∀ (p : List Nat) (l : List Nat) (M : Nat), M = 8 * l.length → (∀ i ∈ p, i < M) → gx (flips l (upN p)) M = gx l M ^^^ XS p
  | [], l, M, _, _ => (Nat.xor_zero _).symm
  | i :: p, l, M, hM, h => by
    have hi := h i (List.mem_cons_self ..)
    have ih := gx_flips p (flip1 l (i : Int)) M (by rw [flip1_length]; exact hM) (fun k hk => h k (List.mem_cons_of_mem _ hk))
    show gx (flips (flip1 l (i : Int)) (upN p)) M = _
    rw [ih, gx_flip (by omega), if_pos hi]
    show _ = gx l M ^^^ (place i ^^^ XS p)
    rw [Nat.xor_assoc]
def oddL (p : List Nat) : Bool := decide (p.length % 2 = 1)
theorem oddL_cons (i : Nat) (p : List Nat) : oddL (i :: p) = !oddL p := by
  unfold oddL
  rw [List.length_cons]
  by_cases h : p.length % 2 = 1
  · rw [decide_eq_true h, decide_eq_false (by omega)]; rfl
  · rw [decide_eq_false h, decide_eq_true (by omega)]; rfl
theorem go_flips : ∀ (p : List Nat) (l : List Nat) (M : Nat), M = 8 * l.length → (∀ i ∈ p, i < M) → go (flips l (upN p)) M = (go l M != oddL p)
  | [], l, M, _, _ => by
    show go l M = (go l M != oddL [])
    have : oddL [] = false := rfl
    rw [this, Bool.bne_false]
  | i :: p, l, M, hM, h => by
    have hi := h i (List.mem_cons_self ..)
    have ih := go_flips p (flip1 l (i : Int)) M (by rw [flip1_length]; exact hM) (fun k hk => h k (List.mem_cons_of_mem _ hk))
    show go (flips (flip1 l (i : Int)) (upN p)) M = _
    rw [ih, go_flip (by omega), if_pos hi, oddL_cons]
    cases go l M <;> cases oddL p <;> rfl
theorem flips_up_length (l : List Nat) (p : List Nat) : (flips l (upN p)).length = l.length := flips_length _ _
theorem wrong_turned {l p : List Nat} {m : Nat} (h : l.length ≤ 600) (hp : ∀ i ∈ p, i < 8 * l.length) : wrongN (flips l (upN p)) (wordN l ^^^ m) = (XS p ^^^ m) % 8192 := by
  have h1 := gx_lt l (8 * l.length) (by omega)
  have h0 := wrong_word h
  unfold wrongN at h0 ⊢
  rw [flips_up_length, gx_flips p l _ rfl hp]
  rw [xor_swap, xor_mod13 (gx l (8 * l.length) ^^^ wordN l), h0, Nat.zero_xor]
theorem single_turned {l p : List Nat} {m : Nat} (h : l.length ≤ 600) (hp : ∀ i ∈ p, i < 8 * l.length) : single (flips l (upN p)) (wordN l ^^^ m) = (oddL p != par (m % 16384)) := by
  have h0 := single_word h
  unfold single at h0 ⊢
  rw [flips_up_length, go_flips p l _ rfl hp, xor_mod14, par_xor]
  revert h0
  cases go l (8 * l.length) <;> cases par (wordN l % 16384) <;> cases oddL p <;> cases par (m % 16384) <;> decide
theorem place_three {n : Nat} (h : n ≤ 1048576) : 3 ≤ place n ∧ isPow (place n) = false := ⟨(isPlace_place h).2.2, (isPlace_place h).1⟩
theorem place_inj {i j : Nat} (hi : i ≤ 1048576) (hj : j ≤ 1048576) (h : place i = place j) : i = j := by
  have h1 := (isPlace_place hi).2.1
  have h2 := (isPlace_place hj).2.1
  rw [h] at h1
  omega
/-- few ones -/
theorem sum_none : ∀ (n x : Nat), x < 2 ^ n → (bitsOf n x).sum = 0 → x = 0
  | 0, x, h, _ => by simpa using h
  | n + 1, x, h, e => by
    unfold bitsOf at e
    rw [List.sum_cons] at e
    have := sum_none n (x / 2) (by rw [Nat.pow_succ] at h; omega) (by omega)
    omega
theorem sum_single : ∀ (n x : Nat), x < 2 ^ n → (bitsOf n x).sum = 1 → isPow x = true
  | 0, x, _, e => absurd e (by simp [bitsOf])
  | n + 1, x, h, e => by
    unfold bitsOf at e
    rw [List.sum_cons] at e
    have hlt : x / 2 < 2 ^ n := by rw [Nat.pow_succ] at h; omega
    rcases Nat.mod_two_eq_zero_or_one x with h2 | h2
    · obtain ⟨m, hm⟩ := isPow_iff.1 (sum_single n (x / 2) hlt (by omega))
      refine isPow_iff.2 ⟨m + 1, ?_⟩
      rw [Nat.pow_succ]
      omega
    · have := sum_none n (x / 2) hlt (by omega)
      exact isPow_iff.2 ⟨0, by omega⟩
theorem sum_mod (x : Nat) : (bitsOf 13 (x % 8192)).sum ≤ (bitsOf 16 x).sum := by
  have h1 := bitsOf_mod 13 x
  have h2 := bitsOf_add 13 3 x
  rw [show 2 ^ 13 = 8192 from rfl] at h1
  rw [show 16 = 13 + 3 from rfl, h1, h2]
  omega
/-- what differs and the word of it together have four ones at least -/
theorem four_ones {D : List Nat} {w : Nat} (hd : D ≠ []) (hp : ∀ i ∈ D, i < 5000) (hnd : D.Nodup) (hx : XS D % 8192 = w % 8192) (hpar : (D.length + (bitsOf 16 w).sum) % 2 = 0) :
    4 ≤ D.length + (bitsOf 16 w).sum := by
  have hsm := sum_mod w
  cases D with
  | nil => exact absurd rfl hd
  | cons i D =>
    have hi := hp i (List.mem_cons_self ..)
    have h3 := place_three (n := i) (by omega)
    have hlt := place_lt (n := i) (by omega)
    cases D with
    | nil =>
      have e : XS [i] = place i := Nat.xor_zero _
      rw [e, Nat.mod_eq_of_lt hlt] at hx
      rw [← hx] at hsm
      have n0 : (bitsOf 13 (place i)).sum ≠ 0 := fun h => by have := sum_none 13 _ hlt h; omega
      have n1 : (bitsOf 13 (place i)).sum ≠ 1 := fun h => by have := sum_single 13 _ hlt h; rw [h3.2] at this; exact absurd this (by decide)
      rw [List.length_singleton] at hpar ⊢
      omega
    | cons k D =>
      have hk := hp k (List.mem_cons_of_mem _ (List.mem_cons_self ..))
      have hlt2 := place_lt (n := k) (by omega)
      have hne : i ≠ k := fun e => (List.nodup_cons.1 hnd).1 (by rw [e]; exact List.mem_cons_self ..)
      cases D with
      | nil =>
        have e : XS [i, k] = place i ^^^ place k := by
          show place i ^^^ (place k ^^^ 0) = _
          rw [Nat.xor_zero]
        have hl : place i ^^^ place k < 8192 := Nat.xor_lt_two_pow (n := 13) hlt hlt2
        rw [e, Nat.mod_eq_of_lt hl] at hx
        rw [← hx] at hsm
        have n0 : (bitsOf 13 (place i ^^^ place k)).sum ≠ 0 := fun h => by
          have h0 := sum_none 13 _ hl h
          have := congrArg (· ^^^ place k) h0
          simp only [Nat.zero_xor, Nat.xor_assoc, Nat.xor_self, Nat.xor_zero] at this
          exact hne (place_inj (by omega) (by omega) this)
        rw [List.length_cons, List.length_singleton] at hpar ⊢
        omega
      | cons m D =>
        rw [List.length_cons, List.length_cons, List.length_cons] at hpar ⊢
        omega
theorem word_apart {a b : List Nat} (ha : a.length ≤ 600) (hb : b.length ≤ 600) : wordN a ^^^ wordN b < 16384 := by
  have t1 := wordN_top ha
  have t2 := wordN_top hb
  have := Nat.shiftRight_xor_distrib (a := wordN a) (b := wordN b) (i := 14)
  rw [Nat.shiftRight_eq_div_pow, Nat.shiftRight_eq_div_pow, Nat.shiftRight_eq_div_pow, show 2 ^ 14 = 16384 from rfl, t1, t2, Nat.xor_self] at this
  omega
/-- two texts and their words stand four bits apart -/
theorem apart {a b : List Nat} (ha : ∀ x ∈ a, x < 256) (hb : ∀ x ∈ b, x < 256) (hl : a.length = b.length) (hn : a.length ≤ 600) (hd : diffN a b ≠ []) :
    4 ≤ (diffN a b).length + (bitsOf 16 (wordN a ^^^ wordN b)).sum := by
  have hb' : flips a (upN (diffN a b)) = b := flips_diff ha hb hl
  have hp : ∀ i ∈ diffN a b, i < 8 * a.length := fun i hi => by have := (mem_diffN.1 hi).1; omega
  have h1 := wrong_turned (m := wordN a ^^^ wordN b) hn hp
  have h2 := single_turned (m := wordN a ^^^ wordN b) hn hp
  have e : wordN a ^^^ (wordN a ^^^ wordN b) = wordN b := by rw [← Nat.xor_assoc, Nat.xor_self, Nat.zero_xor]
  have hw := word_apart (a := a) (b := b) (by omega) (by omega)
  rw [hb', e, wrong_word (by omega)] at h1
  rw [hb', e, single_word (by omega), Nat.mod_eq_of_lt hw] at h2
  refine four_ones hd (fun i hi => by have := hp i hi; omega) (diffN_nodup a b) ?_ ?_
  · rw [xor_mod13] at h1
    generalize XS (diffN a b) % 8192 = x at h1 ⊢
    generalize (wordN a ^^^ wordN b) % 8192 = y at h1 ⊢
    have := congrArg (· ^^^ y) h1
    simp only [Nat.zero_xor, Nat.xor_assoc, Nat.xor_self, Nat.xor_zero] at this
    exact this.symm
  · unfold oddL par at h2
    generalize (bitsOf 16 (wordN a ^^^ wordN b)).sum = s at h2 ⊢
    generalize (diffN a b).length = d at h2 ⊢
    have e1 := Nat.mod_two_eq_zero_or_one d
    have e2 := Nat.mod_two_eq_zero_or_one s
    rcases e1 with e1 | e1 <;> rcases e2 with e2 | e2 <;> rw [e1, e2] at h2 <;> first | omega | exact absurd h2 (by decide)
end Go.Proofs.Ytalejedajkhkjaa.HamMath
