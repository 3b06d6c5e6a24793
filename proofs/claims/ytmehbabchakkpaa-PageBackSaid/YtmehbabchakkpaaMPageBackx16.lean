import Derived.Test.YtmehbabchakkpaaMPageBackx15
import Derived.Laws.Strings
namespace Go.Proofs.Ytmehbabchakkpaa.HamMath
open Go.RowKit CrcMath BitsMath LenMath
def wrongN (l : List Nat) (w : Nat) : Nat := (gx l (8 * l.length) ^^^ w) % 8192
def single (l : List Nat) (w : Nat) : Bool := go l (8 * l.length) != par (w % 16384)
theorem wrongN_lt (l : List Nat) (w : Nat) : wrongN l w < 8192 := Nat.mod_lt _ (by decide)
theorem xor_mod13 (a b : Nat) : (a ^^^ b) % 8192 = a % 8192 ^^^ b % 8192 := Nat.xor_mod_two_pow (n := 13)
theorem xor_mod14 (a b : Nat) : (a ^^^ b) % 16384 = a % 16384 ^^^ b % 16384 := Nat.xor_mod_two_pow (n := 14)
theorem chk_le (l : List Nat) : chk l ≤ 1 := by unfold chk; split <;> omega
theorem wordN_13 {l : List Nat} (h : l.length ≤ 600) : wordN l % 8192 = gx l (8 * l.length) := by
 have h1 := gx_lt l (8 * l.length) (by omega)
 have h2 := chk_le l
 unfold wordN
 omega
theorem wordN_14 {l : List Nat} (h : l.length ≤ 600) : wordN l % 16384 = gx l (8 * l.length) + 8192 * chk l := by
 have h1 := gx_lt l (8 * l.length) (by omega)
 have h2 := chk_le l
 unfold wordN
 omega
theorem wordN_top {l : List Nat} (h : l.length ≤ 600) : wordN l / 16384 = 3 := by
 have h1 := gx_lt l (8 * l.length) (by omega)
 have h2 := chk_le l
 unfold wordN
 omega
theorem wrong_word {l : List Nat} (h : l.length ≤ 600) : wrongN l (wordN l) = 0 := by
 have h1 := gx_lt l (8 * l.length) (by omega)
 unfold wrongN
 rw [xor_mod13, wordN_13 h, Nat.mod_eq_of_lt h1, Nat.xor_self]
theorem single_word {l : List Nat} (h : l.length ≤ 600) : single l (wordN l) = false := by
 have h1 := gx_lt l (8 * l.length) (by omega)
 unfold single
 rw [wordN_14 h]
 unfold chk
 by_cases e : (go l (8 * l.length) != par (gx l (8 * l.length))) = true
 ·rw [if_pos e]
  have e2 : gx l (8 * l.length) + 8192 * 1 = gx l (8 * l.length) ^^^ 2 ^ 13 := by
   have := Nat.two_pow_add_eq_or_of_lt (i := 13) (b := gx l (8 * l.length)) h1 1
   apply Nat.eq_of_testBit_eq
   intro i
   rw [show gx l (8 * l.length) + 8192 * 1 = 2 ^ 13 * 1 + gx l (8 * l.length) by omega, this, Nat.testBit_or, Nat.testBit_xor, show 2 ^ 13 * 1 = 2 ^ 13 by omega, Nat.testBit_two_pow]
   by_cases hi : 13 = i
   ·subst hi
    rw [Nat.testBit_lt_two_pow h1]
    rfl
   ·rw [decide_eq_false hi]
    simp
  rw [e2, par_xor, par_pow 13 (by decide)]
  revert e
  cases go l (8 * l.length) <;> cases par (gx l (8 * l.length)) <;> decide
 ·have e' : (go l (8 * l.length) != par (gx l (8 * l.length))) = false := by simpa using e
  rw [if_neg e, Nat.mul_zero, Nat.add_zero, e']
def XS : List Nat → Nat
 | [] => 0
 | i :: p => place i ^^^ XS p
def upN (p : List Nat) : List Int := p.map fun i : Nat => (i : Int)
theorem gx_flips : ∀ (p : List Nat) (l : List Nat) (M : Nat), M = 8 * l.length → (∀ i ∈ p, i < M) → gx (flips l (upN p)) M = gx l M ^^^ XS p
 | [], l, M, _, _ => (Nat.xor_zero _).symm
 | i :: p, l, M, hM, h => by
  have hi := h i (List.mem_cons_self ..)
  have ih := gx_flips p (flip1 l (i : Int)) M (by rw [flip1_length]; exact hM) (fun k hk => h k (List.mem_cons_of_mem _ hk))
  show gx (flips (flip1 l (i : Int)) (upN p)) M = _
  rw [ih, gx_flip (by omega), if_pos hi]
  show _ = gx l M ^^^ (place i ^^^ XS p)
  rw [Nat.xor_assoc]
def oddL (p : List Nat) : Bool := decide (p.length % 2 = 1)
theorem oddL_cons (i : Nat) (p : List Nat) : oddL (i :: p) = !oddL p := by
 unfold oddL
 rw [List.length_cons]
 by_cases h : p.length % 2 = 1
 ·rw [decide_eq_true h, decide_eq_false (by omega)]; rfl
 ·rw [decide_eq_false h, decide_eq_true (by omega)]; rfl
theorem go_flips : ∀ (p : List Nat) (l : List Nat) (M : Nat), M = 8 * l.length → (∀ i ∈ p, i < M) → go (flips l (upN p)) M = (go l M != oddL p)
 | [], l, M, _, _ => by
  show go l M = (go l M != oddL [])
  have : oddL [] = false := rfl
  rw [this, Bool.bne_false]
 | i :: p, l, M, hM, h => by
  have hi := h i (List.mem_cons_self ..)
  have ih := go_flips p (flip1 l (i : Int)) M (by rw [flip1_length]; exact hM) (fun k hk => h k (List.mem_cons_of_mem _ hk))
  show go (flips (flip1 l (i : Int)) (upN p)) M = _
  rw [ih, go_flip (by omega), if_pos hi, oddL_cons]
  cases go l M <;> cases oddL p <;> rfl
theorem flips_up_length (l : List Nat) (p : List Nat) : (flips l (upN p)).length = l.length := flips_length _ _
theorem wrong_turned {l p : List Nat} {m : Nat} (h : l.length ≤ 600) (hp : ∀ i ∈ p, i < 8 * l.length) : wrongN (flips l (upN p)) (wordN l ^^^ m) = (XS p ^^^ m) % 8192 := by
 have h1 := gx_lt l (8 * l.length) (by omega)
 have h0 := wrong_word h
 unfold wrongN at h0 ⊢
 rw [flips_up_length, gx_flips p l _ rfl hp]
 rw [xor_swap, xor_mod13 (gx l (8 * l.length) ^^^ wordN l), h0, Nat.zero_xor]
theorem single_turned {l p : List Nat} {m : Nat} (h : l.length ≤ 600) (hp : ∀ i ∈ p, i < 8 * l.length) : single (flips l (upN p)) (wordN l ^^^ m) = (oddL p != par (m % 16384)) := by
 have h0 := single_word h
 unfold single at h0 ⊢
 rw [flips_up_length, go_flips p l _ rfl hp, xor_mod14, par_xor]
 revert h0
 cases go l (8 * l.length) <;> cases par (wordN l % 16384) <;> cases oddL p <;> cases par (m % 16384) <;> decide
theorem place_three {n : Nat} (h : n ≤ 1048576) : 3 ≤ place n ∧ isPow (place n) = false := ⟨(isPlace_place h).2.2, (isPlace_place h).1⟩
theorem place_inj {i j : Nat} (hi : i ≤ 1048576) (hj : j ≤ 1048576) (h : place i = place j) : i = j := by
 have h1 := (isPlace_place hi).2.1
 have h2 := (isPlace_place hj).2.1
 rw [h] at h1
 omega
theorem sum_none : ∀ (n x : Nat), x < 2 ^ n → (bitsOf n x).sum = 0 → x = 0
 | 0, x, h, _ => by simpa using h
 | n + 1, x, h, e => by
  unfold bitsOf at e
  rw [List.sum_cons] at e
  have := sum_none n (x / 2) (by rw [Nat.pow_succ] at h; omega) (by omega)
  omega
theorem sum_single : ∀ (n x : Nat), x < 2 ^ n → (bitsOf n x).sum = 1 → isPow x = true
 | 0, x, _, e => absurd e (by simp [bitsOf])
 | n + 1, x, h, e => by
  unfold bitsOf at e
  rw [List.sum_cons] at e
  have hlt : x / 2 < 2 ^ n := by rw [Nat.pow_succ] at h; omega
  rcases Nat.mod_two_eq_zero_or_one x with h2 | h2
  ·obtain ⟨m, hm⟩ := isPow_iff.1 (sum_single n (x / 2) hlt (by omega))
   refine isPow_iff.2 ⟨m + 1, ?_⟩
   rw [Nat.pow_succ]
   omega
  ·have := sum_none n (x / 2) hlt (by omega)
   exact isPow_iff.2 ⟨0, by omega⟩
theorem sum_mod (x : Nat) : (bitsOf 13 (x % 8192)).sum ≤ (bitsOf 16 x).sum := by
 have h1 := bitsOf_mod 13 x
 have h2 := bitsOf_add 13 3 x
 rw [show 2 ^ 13 = 8192 from rfl] at h1
 rw [show 16 = 13 + 3 from rfl, h1, h2]
 omega
theorem four_ones {D : List Nat} {w : Nat} (hd : D ≠ []) (hp : ∀ i ∈ D, i < 5000) (hnd : D.Nodup) (hx : XS D % 8192 = w % 8192) (hpar : (D.length + (bitsOf 16 w).sum) % 2 = 0) :
  4 ≤ D.length + (bitsOf 16 w).sum := by
 have hsm := sum_mod w
 cases D with
 | nil => exact absurd rfl hd
 | cons i D =>
  have hi := hp i (List.mem_cons_self ..)
  have h3 := place_three (n := i) (by omega)
  have hlt := place_lt (n := i) (by omega)
  cases D with
  | nil =>
   have e : XS [i] = place i := Nat.xor_zero _
   rw [e, Nat.mod_eq_of_lt hlt] at hx
   rw [← hx] at hsm
   have n0 : (bitsOf 13 (place i)).sum ≠ 0 := fun h => by have := sum_none 13 _ hlt h; omega
   have n1 : (bitsOf 13 (place i)).sum ≠ 1 := fun h => by have := sum_single 13 _ hlt h; rw [h3.2] at this; exact absurd this (by decide)
   rw [List.length_singleton] at hpar ⊢
   omega
  | cons k D =>
   have hk := hp k (List.mem_cons_of_mem _ (List.mem_cons_self ..))
   have hlt2 := place_lt (n := k) (by omega)
   have hne : i ≠ k := fun e => (List.nodup_cons.1 hnd).1 (by rw [e]; exact List.mem_cons_self ..)
   cases D with
   | nil =>
    have e : XS [i, k] = place i ^^^ place k := by
     show place i ^^^ (place k ^^^ 0) = _
     rw [Nat.xor_zero]
    have hl : place i ^^^ place k < 8192 := Nat.xor_lt_two_pow (n := 13) hlt hlt2
    rw [e, Nat.mod_eq_of_lt hl] at hx
    rw [← hx] at hsm
    have n0 : (bitsOf 13 (place i ^^^ place k)).sum ≠ 0 := fun h => by
     have h0 := sum_none 13 _ hl h
     have := congrArg (· ^^^ place k) h0
     simp only [Nat.zero_xor, Nat.xor_assoc, Nat.xor_self, Nat.xor_zero] at this
     exact hne (place_inj (by omega) (by omega) this)
    rw [List.length_cons, List.length_singleton] at hpar ⊢
    omega
   | cons m D =>
    rw [List.length_cons, List.length_cons, List.length_cons] at hpar ⊢
    omega
theorem word_apart {a b : List Nat} (ha : a.length ≤ 600) (hb : b.length ≤ 600) : wordN a ^^^ wordN b < 16384 := by
 have t1 := wordN_top ha
 have t2 := wordN_top hb
 have := Nat.shiftRight_xor_distrib (a := wordN a) (b := wordN b) (i := 14)
 rw [Nat.shiftRight_eq_div_pow, Nat.shiftRight_eq_div_pow, Nat.shiftRight_eq_div_pow, show 2 ^ 14 = 16384 from rfl, t1, t2, Nat.xor_self] at this
 omega
theorem apart {a b : List Nat} (ha : ∀ x ∈ a, x < 256) (hb : ∀ x ∈ b, x < 256) (hl : a.length = b.length) (hn : a.length ≤ 600) (hd : diffN a b ≠ []) :
  4 ≤ (diffN a b).length + (bitsOf 16 (wordN a ^^^ wordN b)).sum := by
 have hb' : flips a (upN (diffN a b)) = b := flips_diff ha hb hl
 have hp : ∀ i ∈ diffN a b, i < 8 * a.length := fun i hi => by have := (mem_diffN.1 hi).1; omega
 have h1 := wrong_turned (m := wordN a ^^^ wordN b) hn hp
 have h2 := single_turned (m := wordN a ^^^ wordN b) hn hp
 have e : wordN a ^^^ (wordN a ^^^ wordN b) = wordN b := by rw [← Nat.xor_assoc, Nat.xor_self, Nat.zero_xor]
 have hw := word_apart (a := a) (b := b) (by omega) (by omega)
 rw [hb', e, wrong_word (by omega)] at h1
 rw [hb', e, single_word (by omega), Nat.mod_eq_of_lt hw] at h2
 refine four_ones hd (fun i hi => by have := hp i hi; omega) (diffN_nodup a b) ?_ ?_
 ·rw [xor_mod13] at h1
  generalize XS (diffN a b) % 8192 = x at h1 ⊢
  generalize (wordN a ^^^ wordN b) % 8192 = y at h1 ⊢
  have := congrArg (· ^^^ y) h1
  simp only [Nat.zero_xor, Nat.xor_assoc, Nat.xor_self, Nat.xor_zero] at this
  exact this.symm
 ·unfold oddL par at h2
  generalize (bitsOf 16 (wordN a ^^^ wordN b)).sum = s at h2 ⊢
  generalize (diffN a b).length = d at h2 ⊢
  have e1 := Nat.mod_two_eq_zero_or_one d
  have e2 := Nat.mod_two_eq_zero_or_one s
  rcases e1 with e1 | e1 <;> rcases e2 with e2 | e2 <;> rw [e1, e2] at h2 <;> first | omega | exact absurd h2 (by decide)
end Go.Proofs.Ytmehbabchakkpaa.HamMath
namespace Go.Proofs.Ytmehbabchakkpaa.PurePageBack
open Go.RowKit QPageBack YtmehbabchakkpaaW.PrintWords YtmehbabchakkpaaW.PrintLast YtmehbabchakkpaaW.PrintMore EvKit BitsKit CrcMath NatKit BitsMath LenMath HamMath
theorem tab_ones : ∀ b : Nat, b < 256 → bt (⟨#[0, 1, 1, 2, 1, 2, 2, 3, 1, 2, 2, 3, 2, 3, 3, 4, 1, 2, 2, 3, 2, 3, 3, 4, 2, 3, 3, 4, 3, 4, 4, 5, 1, 2, 2, 3, 2, 3, 3, 4, 2, 3, 3, 4, 3, 4, 4, 5, 2, 3, 3, 4, 3, 4, 4, 5, 3, 4, 4, 5, 4, 5, 5, 6, 1, 2, 2, 3, 2, 3, 3, 4, 2, 3, 3, 4, 3, 4, 4, 5, 2, 3, 3, 4, 3, 4, 4, 5, 3, 4, 4, 5, 4, 5, 5, 6, 2, 3, 3, 4, 3, 4, 4, 5, 3, 4, 4, 5, 4, 5, 5, 6, 3, 4, 4, 5, 4, 5, 5, 6, 4, 5, 5, 6, 5, 6, 6, 7, 1, 2, 2, 3, 2, 3, 3, 4, 2, 3, 3, 4, 3, 4, 4, 5, 2, 3, 3, 4, 3, 4, 4, 5, 3, 4, 4, 5, 4, 5, 5, 6, 2, 3, 3, 4, 3, 4, 4, 5, 3, 4, 4, 5, 4, 5, 5, 6, 3, 4, 4, 5, 4, 5, 5, 6, 4, 5, 5, 6, 5, 6, 6, 7, 2, 3, 3, 4, 3, 4, 4, 5, 3, 4, 4, 5, 4, 5, 5, 6, 3, 4, 4, 5, 4, 5, 5, 6, 4, 5, 5, 6, 5, 6, 6, 7, 3, 4, 4, 5, 4, 5, 5, 6, 4, 5, 5, 6, 5, 6, 6, 7, 4, 5, 5, 6, 5, 6, 6, 7, 5, 6, 6, 7, 6, 7, 7, 8]⟩ : ByteArray) (b : Int) = ((ones b : Nat) : Int) := by
 decide +kernel
theorem low_and {a : Nat} (n m : Nat) (hm : m = 2 ^ n - 1) (ha : a < 65536) (hm' : m < 65536) : Go.bits .and .u16 (a : Int) (m : Int) = ((a % 2 ^ n : Nat) : Int) := by
 rw [and_u16 ha hm', hm, Nat.and_two_pow_sub_one_eq_mod]
theorem odd_eq {a : Nat} (ha : a < 65536) : hamming_odd.f (a : Int) = some (par a) := by
 have e1 : Go.bits .and .u16 (a : Int) 255 = ((a % 256 : Nat) : Int) := low_and 8 255 (by decide) ha (by decide)
 have e2 : (a : Int) / 256 = ((a / 256 : Nat) : Int) := by omega
 have h1 := ones_le (a / 256)
 have h2 := ones_le (a % 256)
 have h3 : (Go.bits .and .i64 (((ones (a / 256) + ones (a % 256) : Nat) : Int)) 1 == 1) = par a := by
  have := and_i64 (a := ones (a / 256) + ones (a % 256)) (b := 1) (by omega) (by decide)
  rw [show ((1 : Nat) : Int) = 1 from rfl] at this
  rw [this, Nat.and_one_is_mod, par_ones]
  rcases Nat.mod_two_eq_zero_or_one (ones (a / 256) + ones (a % 256)) with h | h <;> rw [h] <;> rfl
 unfold hamming_odd.f bits_OnesCount16.f
 rw [e1, e2, if_pos (by omega), if_pos (by omega), if_pos (by omega), if_pos (by omega), tab_ones _ (by omega), tab_ones _ (by omega)]
 have e3 : (((ones (a / 256) : Nat) : Int) + ((ones (a % 256) : Nat) : Int)) % 256 = ((ones (a / 256) + ones (a % 256) : Nat) : Int) := by omega
 rw [e3, Option.bind_some, h3]
theorem or_bit {x : Nat} (n m : Nat) (hm : m = 2 ^ n) (hx : x < m) (h : m < 65536) : Go.bits .or .u16 (x : Int) (m : Int) = ((x + m : Nat) : Int) := by
 subst hm
 rw [or_u16 (by omega) h]
 have := Nat.two_pow_add_eq_or_of_lt hx 1
 rw [Nat.mul_one] at this
 rw [Nat.or_comm, ← this, Nat.add_comm]
theorem or_pad {x : Nat} (hx : x < 16384) : Go.bits .or .u16 (x : Int) 49152 = ((x + 49152 : Nat) : Int) := by
 have e : Go.bits .or .u16 (x : Int) ((49152 : Nat) : Int) = _ := or_u16 (a := x) (b := 49152) (by omega) (by omega)
 have h := Nat.two_pow_add_eq_or_of_lt (i := 14) (b := x) (by omega) 3
 have h3 : 2 ^ 14 * 3 = 49152 := by decide
 rw [h3] at h
 rw [Nat.or_comm, ← h, Nat.add_comm] at e
 exact e
theorem word_or1 {x : Nat} (hx : x < 8192) : Go.bits .or .u16 (Go.bits .or .u16 (x : Int) 8192) 49152 = ((x + 8192 * 1 + 49152 : Nat) : Int) := by
 have e : Go.bits .or .u16 (x : Int) ((8192 : Nat) : Int) = ((x + 8192 : Nat) : Int) := or_bit (x := x) 13 8192 (by decide) hx (by decide)
 have e' : Go.bits .or .u16 (x : Int) 8192 = ((x + 8192 : Nat) : Int) := e
 rw [e', or_pad (by omega)]
theorem word_or0 {x : Nat} (hx : x < 8192) : Go.bits .or .u16 (x : Int) 49152 = ((x + 8192 * 0 + 49152 : Nat) : Int) := by
 have e := or_pad (x := x) (by omega)
 rw [e]
theorem wordN_of {l : List Nat} {x : Nat} {o : Bool} (hx : gx l (8 * l.length) = x) (ho : go l (8 * l.length) = o) : wordN l = x + 8192 * (if o != par x then 1 else 0) + 49152 := by
 unfold wordN chk
 rw [hx, ho]
theorem word_ev {l : List Int} (hl : ∀ x ∈ l, 0 ≤ x ∧ x < 256) (hn : l.length ≤ 512) : Ev (fun k => hamming_Word.f k l) (((wordN (nats l) : Nat) : Int), 0) := by
 have hx := gx_lt (nats l) (8 * l.length) (by omega)
 have hlen := nats_length l
 have hw : ∀ x o, gx (nats l) (8 * l.length) = x → go (nats l) (8 * l.length) = o → wordN (nats l) = x + 8192 * (if o != par x then 1 else 0) + 49152 := fun x o h1 h2 => wordN_of (by rw [hlen]; exact h1) (by rw [hlen]; exact h2)
 have hw := hw _ _ rfl rfl
 refine Ev.congr (fun k => by rw [hamming_Word.f]) ?_
 refine Ev.neg (by omega) ?_
 refine Ev.bind (gather_ev hl (by omega)) ?_
 refine Ev.bindv (odd_eq (by omega)) ?_
 rw [hw]
 clear hw
 generalize gx (nats l) (8 * l.length) = x at hx ⊢
 generalize go (nats l) (8 * l.length) = o
 dsimp only
 cases hc : (o != par x)
 ·refine Ev.neg (by decide) (Ev.ret ?_)
  rw [word_or0 hx, if_neg (by decide)]
 ·refine Ev.pos rfl (Ev.ret ?_)
  rw [word_or1 hx, if_pos rfl]
theorem not_pad {w : Nat} (hw : w < 65536) : Go.bits .andNot .u16 (w : Int) 49152 = ((w % 16384 : Nat) : Int) := by
 have e := low_and (a := w) 14 16383 (by decide) hw (by decide)
 rw [show 2 ^ 14 = 16384 from rfl] at e
 rw [← e]
 rfl
def judgeN (l : List Nat) (w : Nat) : Int × Int × Int :=
 if single l w = false then (if wrongN l w = 0 then (0, 0, 0) else (3, 0, 0))
 else if wrongN l w = 0 ∨ isPow (wrongN l w) = true then (2, 0, 0)
 else if wrongN l w - 1 - len (wrongN l w) < 8 * l.length then (1, ((wrongN l w - 1 - len (wrongN l w) : Nat) : Int), 0) else (3, 0, 0)
theorem pow_none {p : Nat} (hp : p < 8192) : (Go.bits .and .i64 (p : Int) (wrap64 ((p : Int) - 1)) = 0) ↔ (p = 0 ∨ isPow p = true) := by
 rcases Nat.eq_zero_or_pos p with e | h0
 ·subst e
  refine ⟨fun _ => Or.inl rfl, fun _ => ?_⟩
  have e : wrap64 (((0 : Nat) : Int) - 1) = -1 := by rw [w64_id (by omega) (by omega)]; omega
  rw [e]
  decide +kernel
 ·rw [pow_test h0 (by omega)]
  exact ⟨fun h => Or.inr h, fun h => h.resolve_left (by omega)⟩
theorem place_far {p : Nat} (h0 : p ≠ 0) (hp : isPow p = false) (hlt : p < 8192) : IsPlace (p - 1 - len p) p := by
 have h3 : 3 ≤ p := by
  rcases Nat.lt_or_ge p 3 with h | h
  ·obtain rfl | rfl : p = 1 ∨ p = 2 := by omega
   ·exact absurd hp (by decide)
   ·exact absurd hp (by decide)
  ·exact h
 obtain ⟨n, hn⟩ := place_of hp h3
 have := hn.2.1
 have e : p - 1 - len p = n := by omega
 rw [e]
 exact hn
theorem judge_ev {l : List Int} (hl : ∀ x ∈ l, 0 ≤ x ∧ x < 256) (hn : l.length ≤ 512) {w : Nat} (hw : w < 65536) : Ev (fun k => hamming_Judge.f k l (w : Int)) (judgeN (nats l) w) := by
 have hlen := nats_length l
 have hx := gx_lt (nats l) (8 * l.length) (by omega)
 have hwr := wrongN_lt (nats l) w
 have e1 : wrap64 (Go.bits .and .u16 (Go.bits .xor .u16 ((gx (nats l) (8 * l.length) : Nat) : Int) (w : Int)) 8191) = ((wrongN (nats l) w : Nat) : Int) := by
  have hxl : gx (nats l) (8 * l.length) ^^^ w < 65536 := Nat.xor_lt_two_pow (n := 16) (by omega) (by omega)
  have e := low_and (a := gx (nats l) (8 * l.length) ^^^ w) 13 8191 (by decide) hxl (by decide)
  rw [show ((8191 : Nat) : Int) = 8191 from rfl, show 2 ^ 13 = 8192 from rfl] at e
  rw [xor_u16 (by omega) hw, e, w64_id (by omega) (by omega)]
  unfold wrongN
  rw [hlen]
 have e2 : (go (nats l) (8 * l.length) != par (w % 16384)) = single (nats l) w := by
  unfold single
  rw [hlen]
 refine Ev.congr (fun k => by rw [hamming_Judge.f]) ?_
 refine Ev.neg (by omega) ?_
 refine Ev.bind (gather_ev hl (by omega)) ?_
 rw [not_pad hw]
 refine Ev.bindv (odd_eq (by omega)) ?_
 rw [e1, e2]
 clear e1 e2
 unfold judgeN
 rw [hlen]
 generalize wrongN (nats l) w = p at hwr ⊢
 cases hs : single (nats l) w
 ·refine Ev.neg (by decide) ?_
  rw [if_pos rfl]
  refine Ev.step (fun k => hamming_Judge.j0.eq_2 ..) ?_
  refine Ev.ite (fun h => Ev.ret ?_) (fun h => ?_)
  ·rw [if_pos (by have := beq_iff_eq.1 h; omega)]
  ·refine Ev.neg (by decide) (Ev.ret ?_)
   rw [if_neg (fun e => h (by rw [e]; rfl))]
 ·refine Ev.pos rfl ?_
  rw [if_neg (by decide)]
  refine Ev.step (fun k => hamming_Judge.j0.eq_2 ..) ?_
  refine Ev.neg (by decide) (Ev.pos rfl ?_)
  refine Ev.ite (fun h => Ev.ret ?_) (fun h => ?_)
  ·rw [if_pos ((pow_none hwr).1 h)]
  ·have h' : ¬ (p = 0 ∨ isPow p = true) := fun e => h ((pow_none hwr).2 e)
   rw [if_neg h']
   have hpl := place_far (fun e => h' (Or.inl e)) (by simpa using fun e => h' (Or.inr e)) hwr
   refine Ev.bind (bit_place hpl (by omega)) (Ev.pos rfl ?_)
   rw [w64_id (x := 8 * (l.length : Int)) (by omega) (by omega)]
   refine Ev.ite (fun h2 => Ev.ret ?_) (fun h2 => Ev.ret ?_)
   ·rw [if_pos (by omega)]
   ·rw [if_neg (by omega)]
end Go.Proofs.Ytmehbabchakkpaa.PurePageBack
namespace Go.Proofs.Ytmehbabchakkpaa.PurePageBack
open Go.RowKit QPageBack YtmehbabchakkpaaW.PrintWords EvKit BitsKit CrcMath NatKit BitsMath LenMath HamMath
theorem judge_clean {l : List Nat} (h : l.length ≤ 600) : judgeN l (wordN l) = (0, 0, 0) := by
 unfold judgeN
 rw [if_pos (single_word h), if_pos (wrong_word h)]
theorem judge_data {l : List Nat} (h : l.length ≤ 600) {k : Nat} (hk : k < 8 * l.length) : judgeN (flips l (upN [k])) (wordN l) = (1, (k : Int), 0) := by
 have hp : ∀ i ∈ [k], i < 8 * l.length := fun i hi => by rw [List.mem_singleton.1 hi]; exact hk
 have h1 := wrong_turned (m := 0) h hp
 have h2 := single_turned (m := 0) h hp
 have hlt := place_lt (n := k) (by omega)
 have hpl := isPlace_place (n := k) (by omega)
 rw [Nat.xor_zero] at h1 h2
 have e1 : wrongN (flips l (upN [k])) (wordN l) = place k := by
  rw [h1, Nat.xor_zero]
  show (place k ^^^ 0) % 8192 = _
  rw [Nat.xor_zero, Nat.mod_eq_of_lt hlt]
 have e2 : single (flips l (upN [k])) (wordN l) = true := by
  rw [h2, show oddL [k] = true from rfl]
  decide
 unfold judgeN
 have hp2 := hpl.2.1
 have hne : ¬ (place k = 0 ∨ isPow (place k) = true) := by
  rintro (h | h)
  ·have := hpl.2.2
   omega
  ·rw [hpl.1] at h
   exact absurd h (by decide)
 rw [e1, e2, if_neg (by decide), if_neg hne, flips_up_length, if_pos (by omega)]
 have : place k - 1 - len (place k) = k := by omega
 rw [this]
theorem judge_word {l : List Nat} (h : l.length ≤ 600) {j : Nat} (hj : j < 16) : judgeN l (wordN l ^^^ 2 ^ j) = if 14 ≤ j then (0, 0, 0) else (2, 0, 0) := by
 have h1 := wrong_turned (l := l) (p := []) (m := 2 ^ j) h (fun i hi => absurd hi (by simp))
 have h2 := single_turned (l := l) (p := []) (m := 2 ^ j) h (fun i hi => absurd hi (by simp))
 have e1 : wrongN l (wordN l ^^^ 2 ^ j) = 2 ^ j % 8192 := by
  rw [show flips l (upN []) = l from rfl] at h1
  rw [h1]
  show (0 ^^^ 2 ^ j) % 8192 = _
  rw [Nat.zero_xor]
 have e2 : single l (wordN l ^^^ 2 ^ j) = par (2 ^ j % 16384) := by
  rw [show flips l (upN []) = l from rfl] at h2
  rw [h2, show oddL [] = false from rfl, Bool.false_bne]
 unfold judgeN
 rw [e1, e2]
 clear h1 h2 e1 e2
 have key : ∀ j : Nat, j < 16 → ∀ n : Nat, (if par (2 ^ j % 16384) = false then if 2 ^ j % 8192 = 0 then ((0, 0, 0) : Int × Int × Int) else (3, 0, 0) else if 2 ^ j % 8192 = 0 ∨ isPow (2 ^ j % 8192) = true then (2, 0, 0) else if 2 ^ j % 8192 - 1 - len (2 ^ j % 8192) < n then (1, ((2 ^ j % 8192 - 1 - len (2 ^ j % 8192) : Nat) : Int), 0) else (3, 0, 0)) = if 14 ≤ j then (0, 0, 0) else (2, 0, 0) := by
  intro j hj n
  have c1 : ∀ j : Nat, j < 16 → 14 ≤ j → par (2 ^ j % 16384) = false ∧ 2 ^ j % 8192 = 0 := by decide
  have c2 : ∀ j : Nat, j < 16 → ¬ 14 ≤ j → par (2 ^ j % 16384) = true ∧ (2 ^ j % 8192 = 0 ∨ isPow (2 ^ j % 8192) = true) := by decide
  by_cases h : 14 ≤ j
  ·obtain ⟨a, b⟩ := c1 j hj h
   rw [if_pos a, if_pos b, if_pos h]
  ·obtain ⟨a, b⟩ := c2 j hj h
   rw [if_neg (by rw [a]; decide), if_pos b, if_neg h]
 exact key j hj _
theorem judge_two {l p : List Nat} {m : Nat} (h : l.length ≤ 600) (hp : ∀ i ∈ p, i < 8 * l.length) (h1 : (XS p ^^^ m) % 8192 ≠ 0) (h2 : (oddL p != par (m % 16384)) = false) :
  judgeN (flips l (upN p)) (wordN l ^^^ m) = (3, 0, 0) := by
 unfold judgeN
 rw [wrong_turned h hp, single_turned h hp, if_pos h2, if_neg h1]
theorem pow_par : ∀ j : Nat, j < 14 → par (2 ^ j % 16384) = true := by decide
theorem pow_low : ∀ j : Nat, j < 14 → 2 ^ j % 8192 = 0 ∨ isPow (2 ^ j % 8192) = true := by decide
theorem judge_dd {l : List Nat} (h : l.length ≤ 600) {i k : Nat} (hi : i < 8 * l.length) (hk : k < 8 * l.length) (hne : i ≠ k) : judgeN (flips l (upN [i, k])) (wordN l) = (3, 0, 0) := by
 have h0 : wordN l = wordN l ^^^ 0 := (Nat.xor_zero _).symm
 rw [h0]
 refine judge_two h ?_ ?_ ?_
 ·intro z hz
  simp only [List.mem_cons, List.not_mem_nil, or_false] at hz
  omega
 ·have hl1 := place_lt (n := i) (by omega)
  have hl2 := place_lt (n := k) (by omega)
  show ((place i ^^^ (place k ^^^ 0)) ^^^ 0) % 8192 ≠ 0
  rw [Nat.xor_zero, Nat.xor_zero, Nat.mod_eq_of_lt (Nat.xor_lt_two_pow (n := 13) hl1 hl2)]
  intro h0
  have e := congrArg (· ^^^ place k) h0
  simp only [Nat.zero_xor, Nat.xor_assoc, Nat.xor_self, Nat.xor_zero] at e
  exact hne (place_inj (by omega) (by omega) e)
 ·rw [show oddL [i, k] = false from by simp [oddL]]
  decide
theorem judge_dw {l : List Nat} (h : l.length ≤ 600) {i j : Nat} (hi : i < 8 * l.length) (hj : j < 14) : judgeN (flips l (upN [i])) (wordN l ^^^ 2 ^ j) = (3, 0, 0) := by
 refine judge_two h ?_ ?_ ?_
 ·intro z hz
  rw [List.mem_singleton.1 hz]
  exact hi
 ·show ((place i ^^^ 0) ^^^ 2 ^ j) % 8192 ≠ 0
  rw [Nat.xor_zero]
  intro h0
  have hlt := place_lt (n := i) (by omega)
  have h3 := place_three (n := i) (by omega)
  rw [xor_mod13, Nat.mod_eq_of_lt hlt] at h0
  have e := congrArg (· ^^^ 2 ^ j % 8192) h0
  simp only [Nat.zero_xor, Nat.xor_assoc, Nat.xor_self, Nat.xor_zero] at e
  rcases pow_low j hj with h | h
  ·omega
  ·rw [← e, h3.2] at h
   exact absurd h (by decide)
 ·rw [pow_par j hj]
  rfl
theorem judge_ww {l : List Nat} (h : l.length ≤ 600) {i j : Nat} (hi : i < 14) (hj : j < 14) (hne : i ≠ j) : judgeN l (wordN l ^^^ (2 ^ i ^^^ 2 ^ j)) = (3, 0, 0) := by
 refine judge_two (p := []) h (fun z hz => absurd hz (by simp)) ?_ ?_
 ·show (0 ^^^ (2 ^ i ^^^ 2 ^ j)) % 8192 ≠ 0
  rw [Nat.zero_xor]
  have key : ∀ x : Nat, x < 14 → ∀ y : Nat, y < 14 → x ≠ y → (2 ^ x ^^^ 2 ^ y) % 8192 ≠ 0 := by decide +kernel
  exact key _ hi _ hj hne
 ·show (false != par ((2 ^ i ^^^ 2 ^ j) % 16384)) = false
  have key : ∀ x : Nat, x < 14 → ∀ y : Nat, y < 14 → par ((2 ^ x ^^^ 2 ^ y) % 16384) = false := by decide +kernel
  rw [key _ hi _ hj]
  rfl
end Go.Proofs.Ytmehbabchakkpaa.PurePageBack
namespace Go.Proofs.Ytmehbabchakkpaa.PurePageBack
open Go.RowKit QPageBack YtmehbabchakkpaaW.PrintWords YtmehbabchakkpaaW.PrintLast YtmehbabchakkpaaW.PrintMore EvKit BitsKit CrcMath NatKit BitsMath
theorem shl_one {r : Nat} (h : r < 8) : shl .u8 1 (r : Int) = ((2 ^ r : Nat) : Int) := by
 have : r = 0 ∨ r = 1 ∨ r = 2 ∨ r = 3 ∨ r = 4 ∨ r = 5 ∨ r = 6 ∨ r = 7 := by omega
 rcases this with rfl | rfl | rfl | rfl | rfl | rfl | rfl | rfl <;> decide
theorem flip_l0 {at_ : List Int} (ha : ∀ i ∈ at_, i ≤ 9223372036854775807) (hn : at_.length < 1000000) (d : Nat) : ∀ (i : Nat) (l : List Nat), i + d = at_.length → (∀ b ∈ l, b < 256) → l.length < 1000000 →
  Ev (fun k => bits_Flip.l0 k (ints l) at_ (at_.length : Int) (i : Int)) (ints (flips l (at_.drop i))) := by
 induction d with
 | zero =>
  intro i l hi hl hln
  refine Ev.step (fun k => bits_Flip.l0.eq_2 ..) ?_
  refine Ev.neg (by omega) (Ev.ret ?_)
  rw [List.drop_of_length_le (by omega)]
  rfl
 | succ d ih =>
  intro i l hi hl hln
  refine Ev.step (fun k => bits_Flip.l0.eq_2 ..) ?_
  refine Ev.pos (by omega) ?_
  refine Ev.pos (by omega) ?_
  refine Ev.pos (by omega) ?_
  have hmax := ha _ (rd_mem (l := at_) (i := (i : Int)) (by omega) (by omega))
  rw [drop_rd (l := at_) (i := i) (by omega), w64_succ (by omega)]
  have next := fun v => ih (i + 1) (flip1 l v) (by omega) (flip1_lt hl v) (by rw [flip1_length]; exact hln)
  generalize rd at_ (i : Int) = a at hmax ⊢
  have next := next a
  show Ev _ (ints (flips (flip1 l a) (at_.drop (i + 1))))
  have hself : ¬ (0 ≤ a ∧ a / 8 < (l.length : Int)) → flip1 l a = l := fun h => by unfold flip1; rw [if_neg h]
  refine Ev.ite (fun h0 => ?_) (fun h0 => ?_)
  ·obtain ⟨m, rfl⟩ := Int.eq_ofNat_of_zero_le h0
   have hw : wrap64 (Int.tdiv (m : Int) 8) = ((m / 8 : Nat) : Int) := by
    rw [Int.tdiv_eq_ediv_of_nonneg h0]
    exact w64_id (by omega) (by omega)
   have hs : IntKind.u64.wrap (Int.tmod (m : Int) 8) = ((m % 8 : Nat) : Int) := by
    rw [Int.tmod_eq_emod_of_nonneg h0]
    exact w_u64 _ (by omega) (by omega)
   rw [hw, hs, ints_length]
   clear hw hs
   refine Ev.ite (fun h1 => ?_) (fun h1 => ?_)
   ·refine Ev.pos (by omega) ?_
    refine Ev.pos (by omega) ?_
    have hlt : m / 8 < l.length := by omega
    have hb := hl _ (List.getElem_mem hlt)
    have hp : 2 ^ (m % 8) < 256 := Nat.pow_lt_pow_right (n := 8) (a := 2) (by decide) (Nat.mod_lt _ (by decide))
    rw [rd_ints_lt hlt, shl_one (Nat.mod_lt _ (by decide)), xor_u8 hb hp, Int.toNat_natCast, ints_set]
    have e : flip1 l (m : Int) = l.set (m / 8) (l[m / 8] ^^^ 2 ^ (m % 8)) := by
     unfold flip1
     rw [if_pos (by omega), Int.toNat_natCast, List.getD_eq_getElem?_getD, List.getElem?_eq_getElem hlt, Option.getD_some]
    rw [← e]
    exact next
   ·rw [hself (by omega)] at next ⊢
    exact next
  ·rw [hself (by omega)] at next ⊢
   exact next
theorem flip_ev {l at_ : List Int} (hl : ∀ x ∈ l, 0 ≤ x ∧ x < 256) (hln : l.length < 1000000) (ha : ∀ i ∈ at_, i ≤ 9223372036854775807) (hn : at_.length < 1000000) : Ev (fun k => bits_Flip.f k l at_) (ints (flips (nats l) at_)) := by
 refine Ev.congr (fun k => by rw [bits_Flip.f]) ?_
 refine Ev.bindv (a := l) ?_ ?_
 ·unfold slices_Clone_byte_byte.f
  rw [if_pos (by omega)]
 ·have := flip_l0 ha hn at_.length 0 (nats l) (by omega) (nats_lt hl) (by rw [nats_length]; exact hln)
  rw [ints_nats fun x hx => (hl x hx).1] at this
  exact this
end Go.Proofs.Ytmehbabchakkpaa.PurePageBack
namespace Go.Proofs.Ytmehbabchakkpaa.PurePageBack
open Go.RowKit QPageBack YtmehbabchakkpaaW.PrintWords YtmehbabchakkpaaW.PrintLast EvKit
theorem same_l0 (a b : List Int) (hl : a.length = b.length) (hb : a.length < 1000000000) (d : Nat) : ∀ i : Nat, i + d = a.length →
  Ev (fun k => r01_Same.l0 k a b (i : Int)) (decide (a.drop i = b.drop i)) := by
 induction d with
 | zero =>
  intro i hi
  refine Ev.step (fun k => r01_Same.l0.eq_2 ..) ?_
  refine Ev.neg (by omega) (Ev.ret ?_)
  rw [List.drop_of_length_le (by omega), List.drop_of_length_le (by omega)]
  rfl
 | succ d ih =>
  intro i hi
  refine Ev.step (fun k => r01_Same.l0.eq_2 ..) ?_
  refine Ev.pos (by omega) (Ev.pos (by omega) (Ev.pos (by omega) ?_))
  rw [drop_rd (l := a) (i := i) (by omega), drop_rd (l := b) (i := i) (by omega)]
  refine Ev.ite (fun h => ?_) (fun h => Ev.ret ?_)
  ·rw [w64_succ (by omega), h]
   refine Ev.eq (ih (i + 1) (by omega)) ?_
   simp
  ·simp [h]
theorem same_ev (a b : List Int) (hb : a.length < 1000000000) : Ev (fun k => r01_Same.f k a b) (decide (a = b)) := by
 refine Ev.congr (fun k => by rw [r01_Same.f]) ?_
 refine Ev.ite (fun h => ?_) (fun h => Ev.ret ?_)
 ·exact same_l0 a b (by omega) hb a.length 0 (by omega)
 ·have : a ≠ b := fun e => h (by rw [e])
  simp [this]
end Go.Proofs.Ytmehbabchakkpaa.PurePageBack
namespace Go.Proofs.Ytmehbabchakkpaa.ChunkMath
open Go.RowKit CrcMath BitsMath LenMath HamMath
def encW (l : List Nat) (w : Nat) : List Nat := l ++ [w % 256, w / 256]
theorem encW_length (l : List Nat) (w : Nat) : (encW l w).length = l.length + 2 := by
 unfold encW
 rw [List.length_append]
 rfl
theorem encW_lt {l : List Nat} {w : Nat} (h : ∀ b ∈ l, b < 256) (hw : w < 65536) : ∀ b ∈ encW l w, b < 256 := by
 intro b hb
 unfold encW at hb
 rcases List.mem_append.1 hb with hb | hb
 ·exact h b hb
 ·simp only [List.mem_cons, List.not_mem_nil, or_false] at hb
  omega
theorem encW_take (l : List Nat) (w : Nat) : (encW l w).take l.length = l := by
 unfold encW
 rw [List.take_left]
theorem encW_low (l : List Nat) (w : Nat) : (encW l w).getD l.length 0 = w % 256 := by
 unfold encW
 rw [List.getD_eq_getElem?_getD, List.getElem?_append_right (Nat.le_refl _), Nat.sub_self]
 rfl
theorem encW_high (l : List Nat) (w : Nat) : (encW l w).getD (l.length + 1) 0 = w / 256 := by
 unfold encW
 rw [List.getD_eq_getElem?_getD, List.getElem?_append_right (by omega), show l.length + 1 - l.length = 1 by omega]
 rfl
theorem flip_data {l : List Nat} {w i : Nat} (hi : i < 8 * l.length) : flip1 (encW l w) (i : Int) = encW (flip1 l (i : Int)) w := by
 have hq : i / 8 < l.length := by omega
 unfold flip1
 rw [if_pos (by rw [encW_length]; omega), if_pos (by omega), Int.toNat_natCast]
 unfold encW
 rw [List.set_append_left _ _ hq, List.getD_eq_getElem?_getD, List.getElem?_append_left hq, ← List.getD_eq_getElem?_getD]
theorem xor_byte (w j : Nat) : (w ^^^ 2 ^ j) % 256 = w % 256 ^^^ 2 ^ j % 256 := Nat.xor_mod_two_pow (n := 8)
theorem xor_top (w j : Nat) : (w ^^^ 2 ^ j) / 256 = w / 256 ^^^ 2 ^ j / 256 := by
 have := Nat.shiftRight_xor_distrib (a := w) (b := 2 ^ j) (i := 8)
 rwa [Nat.shiftRight_eq_div_pow, Nat.shiftRight_eq_div_pow, Nat.shiftRight_eq_div_pow] at this
theorem flip_word {l : List Nat} {w j : Nat} (hj : j < 16) : flip1 (encW l w) ((8 * l.length + j : Nat) : Int) = encW l (w ^^^ 2 ^ j) := by
 have hlen := encW_length l w
 have hq : (8 * l.length + j) / 8 = l.length + j / 8 := by omega
 have hr : (8 * l.length + j) % 8 = j % 8 := by omega
 unfold flip1
 rw [if_pos (by omega), Int.toNat_natCast, hq, hr]
 by_cases h8 : j < 8
 ·rw [show j / 8 = 0 by omega, Nat.add_zero, encW_low, show j % 8 = j by omega]
  have p1 : 2 ^ j % 256 = 2 ^ j := Nat.mod_eq_of_lt (Nat.pow_lt_pow_right (n := 8) (by decide) h8)
  have p2 : 2 ^ j / 256 = 0 := Nat.div_eq_of_lt (Nat.pow_lt_pow_right (n := 8) (by decide) h8)
  unfold encW
  rw [xor_byte, xor_top, p1, p2, Nat.xor_zero, List.set_append_right _ _ (Nat.le_refl _), Nat.sub_self]
  rfl
 ·rw [show j / 8 = 1 by omega, encW_high]
  have e : 2 ^ j = 256 * 2 ^ (j % 8) := by
   rw [show (256 : Nat) = 2 ^ 8 from rfl, ← Nat.pow_add]
   congr 1
   omega
  have p1 : 2 ^ j % 256 = 0 := by rw [e, Nat.mul_mod_right]
  have p2 : 2 ^ j / 256 = 2 ^ (j % 8) := by rw [e, Nat.mul_div_cancel_left _ (by decide)]
  unfold encW
  rw [xor_byte, xor_top, p1, p2, Nat.xor_zero, List.set_append_right _ _ (by omega), show l.length + 1 - l.length = 1 by omega]
  rfl
end Go.Proofs.Ytmehbabchakkpaa.ChunkMath
namespace Go.Proofs.Ytmehbabchakkpaa.PurePageBack
open Go.RowKit QPageBack YtmehbabchakkpaaW.PrintWords YtmehbabchakkpaaW.PrintLast YtmehbabchakkpaaW.PrintMore EvKit BitsKit CrcMath NatKit BitsMath LenMath HamMath ChunkMath
def encN (l : List Nat) : List Nat := encW l (wordN l)
theorem encode_ev {l : List Int} (hl : ∀ x ∈ l, 0 ≤ x ∧ x < 256) (h0 : 0 < l.length) (hn : l.length ≤ 512) : Ev (fun k => chunk_Encode.f k l) (ints (encN (nats l)), 0) := by
 have hw := wordN_lt (l := nats l) (by rw [nats_length]; omega)
 refine Ev.congr (fun k => by rw [chunk_Encode.f]) ?_
 refine Ev.neg (by omega) ?_
 rw [decide_eq_false (by omega)]
 refine Ev.step (fun k => chunk_Encode.j0.eq_2 ..) ?_
 refine Ev.neg (by decide) ?_
 refine Ev.bind (word_ev hl hn) (Ev.pos rfl ?_)
 generalize hww : wordN (nats l) = w at hw ⊢
 refine Ev.bindv rfl (Ev.pos (by rw [List.length_nil]; omega) (Ev.bindv rfl (Ev.bindv rfl (Ev.pos ?_ (Ev.ret ?_)))))
 ·rw [List.nil_append, List.length_cons, List.length_singleton]
  omega
 ·unfold encN encW
  rw [hww, List.nil_append]
  have e : ints (nats l ++ [w % 256, w / 256]) = l ++ [((w % 256 : Nat) : Int), ((w / 256 : Nat) : Int)] := by
   unfold ints
   rw [List.map_append]
   have h := ints_nats (l := l) fun x hx => (hl x hx).1
   unfold ints at h
   rw [h]
   rfl
  rw [e, show (w : Int) % 256 = ((w % 256 : Nat) : Int) from by omega, show (w : Int) / 256 % 256 = ((w / 256 : Nat) : Int) from by omega]
def decOf (d : List Nat) (j : Int × Int × Int) : List Int × Int × Int :=
 if j.1 = 0 then (ints d, 0, 0) else if j.1 = 1 then (ints (flips d [j.2.1]), 1, 0) else if j.1 = 2 then (ints d, 1, 0) else ([], 0, 14)
def decN (r : List Nat) : List Int × Int × Int :=
 if r.length < 3 ∨ 514 < r.length then ([], 0, 2) else decOf (r.take (r.length - 2)) (judgeN (r.take (r.length - 2)) (r.getD (r.length - 2) 0 + 256 * r.getD (r.length - 1) 0))
theorem or_word {a b : Nat} (ha : a < 256) (hb : b < 256) : Go.bits .or .u16 (IntKind.u16.wrap (a : Int)) (IntKind.u16.wrap (IntKind.u16.wrap (b : Int) * 256)) = ((a + 256 * b : Nat) : Int) := by
 rw [w_u16 (a : Int) (by omega) (by omega), w_u16 (b : Int) (by omega) (by omega), w_u16 _ (by omega) (by omega), show (b : Int) * 256 = ((256 * b : Nat) : Int) by omega, or_u16 (by omega) (by omega)]
 have := Nat.two_pow_add_eq_or_of_lt (i := 8) (b := a) (by omega) b
 rw [show 2 ^ 8 = 256 from rfl] at this
 rw [Nat.or_comm, ← this, Nat.add_comm]
theorem judgeN_states (l : List Nat) (w : Nat) : (judgeN l w).2.2 = 0 ∧ ((judgeN l w).1 = 0 ∨ (judgeN l w).1 = 1 ∨ (judgeN l w).1 = 2 ∨ (judgeN l w).1 = 3) ∧ (judgeN l w).2.1 ≤ 8192 := by
 have := wrongN_lt l w
 unfold judgeN
 split
 ·split
  ·exact ⟨rfl, Or.inl rfl, by show (0 : Int) ≤ 8192; omega⟩
  ·exact ⟨rfl, Or.inr (Or.inr (Or.inr rfl)), by show (0 : Int) ≤ 8192; omega⟩
 ·split
  ·exact ⟨rfl, Or.inr (Or.inr (Or.inl rfl)), by show (0 : Int) ≤ 8192; omega⟩
  ·split
   ·refine ⟨rfl, Or.inr (Or.inl rfl), ?_⟩
    show ((wrongN l w - 1 - len (wrongN l w) : Nat) : Int) ≤ 8192
    omega
   ·exact ⟨rfl, Or.inr (Or.inr (Or.inr rfl)), by show (0 : Int) ≤ 8192; omega⟩
theorem decode_ev {r : List Int} (hr : ∀ x ∈ r, 0 ≤ x ∧ x < 256) (hn : r.length < 1000000) : Ev (fun k => chunk_Decode.f k r) (decN (nats r)) := by
 have hlen := nats_length r
 have e1 : wrap64 ((r.length : Int) - 2) = (r.length : Int) - 2 := w64_id (by omega) (by omega)
 refine Ev.congr (fun k => by rw [chunk_Decode.f]) ?_
 rw [e1]
 clear e1
 unfold decN
 rw [hlen]
 have hj : Ev (fun k => chunk_Decode.j0 k r ((r.length : Int) - 2) true) ([], 0, 2) := Ev.step (fun k => chunk_Decode.j0.eq_2 ..) (Ev.pos rfl (Ev.ret rfl))
 refine Ev.ite (fun h => ?_) (fun h => ?_)
 ·rw [if_pos (by omega)]
  exact hj
 by_cases h512 : (r.length : Int) - 2 > 512
 ·rw [decide_eq_true h512, if_pos (by omega)]
  exact hj
 rw [decide_eq_false h512, if_neg (by omega)]
 clear hj
 obtain ⟨n, hn2⟩ : ∃ n, r.length = n + 2 := ⟨r.length - 2, by omega⟩
 have e2 : (r.length : Int) - 2 = (n : Int) := by omega
 rw [e2, hn2, show n + 2 - 2 = n by omega, show n + 2 - 1 = n + 1 by omega]
 refine Ev.step (fun k => chunk_Decode.j0.eq_2 ..) ?_
 refine Ev.neg (by decide) ?_
 try refine Ev.step (fun k => chunk_Decode.j1.eq_2 ..) ?_
 rw [w64_succ (by omega), Int.toNat_natCast]
 refine (Ev.pos (by omega) (Ev.pos (by omega) (Ev.pos (by omega) (Ev.pos (by omega) (Ev.pos (by omega) ?_)))))
 have b1 := hr _ (rd_mem (l := r) (i := (n : Int)) (by omega) (by omega))
 have b2 := hr _ (rd_mem (l := r) (i := ((n + 1 : Nat) : Int)) (by omega) (by omega))
 have r1 := rd_nats (l := r) (fun x hx => (hr x hx).1) n
 have r2 := rd_nats (l := r) (fun x hx => (hr x hx).1) (n + 1)
 rw [r1] at b1 ⊢
 rw [r2] at b2 ⊢
 rw [or_word (by omega) (by omega)]
 have hd : ∀ x ∈ r.take n, 0 ≤ x ∧ x < 256 := fun x hx => hr x (List.mem_of_mem_take hx)
 have hdl : (r.take n).length = n := by rw [List.length_take]; omega
 refine Ev.bind (judge_ev hd (by omega) (by omega)) ?_
 rw [nats_take]
 have hst := judgeN_states ((nats r).take n) ((nats r).getD n 0 + 256 * (nats r).getD (n + 1) 0)
 generalize judgeN ((nats r).take n) ((nats r).getD n 0 + 256 * (nats r).getD (n + 1) 0) = j at hst ⊢
 obtain ⟨s, b, e⟩ := j
 obtain ⟨h1, h2, h3⟩ := hst
 dsimp only at h1 h2 h3 ⊢
 refine Ev.pos h1 ?_
 try refine Ev.step (fun k => chunk_Decode.j2.eq_2 ..) ?_
 try rw [Int.toNat_natCast]
 unfold decOf
 have hf0 := flip_ev (l := r.take n) (at_ := []) hd (by omega) (by intro i hi; exact absurd hi (by simp)) (by simp)
 have hf1 := flip_ev (l := r.take n) (at_ := [b]) hd (by omega) (by intro i hi; rw [List.mem_singleton.1 hi]; omega) (by simp)
 rw [nats_take] at hf0 hf1
 dsimp only
 refine Ev.ite (fun hs => ?_) (fun hs => ?_)
 ·rw [if_pos hs]
  first | exact Ev.bind hf0 (Ev.ret rfl) | exact Ev.pos (by omega) (Ev.pos (by omega) (Ev.bind hf0 (Ev.ret rfl)))
 rw [if_neg hs]
 refine Ev.ite (fun hs => ?_) (fun hs => ?_)
 ·rw [if_pos hs]
  first | exact Ev.bind hf1 (Ev.ret rfl) | exact Ev.pos (by omega) (Ev.pos (by omega) (Ev.bind hf1 (Ev.ret rfl)))
 rw [if_neg hs]
 refine Ev.ite (fun hs => ?_) (fun hs => ?_)
 ·rw [if_pos hs]
  first | exact Ev.bind hf0 (Ev.ret rfl) | exact Ev.pos (by omega) (Ev.pos (by omega) (Ev.bind hf0 (Ev.ret rfl)))
 rw [if_neg hs]
 exact Ev.ret rfl
theorem decN_enc {l : List Nat} {w : Nat} (h0 : 0 < l.length) (hn : l.length ≤ 512) : decN (encW l w) = decOf l (judgeN l w) := by
 unfold decN
 rw [encW_length, if_neg (by omega), show l.length + 2 - 2 = l.length by omega, show l.length + 2 - 1 = l.length + 1 by omega, encW_take, encW_low, encW_high, show w % 256 + 256 * (w / 256) = w by omega]
end Go.Proofs.Ytmehbabchakkpaa.PurePageBack
namespace Go.Proofs.Ytmehbabchakkpaa.PurePageBack
open Go.RowKit QPageBack YtmehbabchakkpaaW.PrintWords YtmehbabchakkpaaW.PrintLast YtmehbabchakkpaaW.PrintMore EvKit BitsKit CrcMath NatKit BitsMath
theorem ones_eq {b : Nat} (hb : b < 256) : bits_OnesCount8.f (b : Int) = some ((ones b : Nat) : Int) := by
 unfold bits_OnesCount8.f
 rw [if_pos (by omega), if_pos (by omega)]
 congr 1
 rw [ones_table b hb]
 have key : ∀ b : Nat, b < 256 → bt (⟨#[0, 1, 1, 2, 1, 2, 2, 3, 1, 2, 2, 3, 2, 3, 3, 4, 1, 2, 2, 3, 2, 3, 3, 4, 2, 3, 3, 4, 3, 4, 4, 5, 1, 2, 2, 3, 2, 3, 3, 4, 2, 3, 3, 4, 3, 4, 4, 5, 2, 3, 3, 4, 3, 4, 4, 5, 3, 4, 4, 5, 4, 5, 5, 6, 1, 2, 2, 3, 2, 3, 3, 4, 2, 3, 3, 4, 3, 4, 4, 5, 2, 3, 3, 4, 3, 4, 4, 5, 3, 4, 4, 5, 4, 5, 5, 6, 2, 3, 3, 4, 3, 4, 4, 5, 3, 4, 4, 5, 4, 5, 5, 6, 3, 4, 4, 5, 4, 5, 5, 6, 4, 5, 5, 6, 5, 6, 6, 7, 1, 2, 2, 3, 2, 3, 3, 4, 2, 3, 3, 4, 3, 4, 4, 5, 2, 3, 3, 4, 3, 4, 4, 5, 3, 4, 4, 5, 4, 5, 5, 6, 2, 3, 3, 4, 3, 4, 4, 5, 3, 4, 4, 5, 4, 5, 5, 6, 3, 4, 4, 5, 4, 5, 5, 6, 4, 5, 5, 6, 5, 6, 6, 7, 2, 3, 3, 4, 3, 4, 4, 5, 3, 4, 4, 5, 4, 5, 5, 6, 3, 4, 4, 5, 4, 5, 5, 6, 4, 5, 5, 6, 5, 6, 6, 7, 3, 4, 4, 5, 4, 5, 5, 6, 4, 5, 5, 6, 5, 6, 6, 7, 4, 5, 5, 6, 5, 6, 6, 7, 5, 6, 6, 7, 6, 7, 7, 8]⟩ : ByteArray) (b : Int) = (([0, 1, 1, 2, 1, 2, 2, 3, 1, 2, 2, 3, 2, 3, 3, 4, 1, 2, 2, 3, 2, 3, 3, 4, 2, 3, 3, 4, 3, 4, 4, 5, 1, 2, 2, 3, 2, 3, 3, 4, 2, 3, 3, 4, 3, 4, 4, 5, 2, 3, 3, 4, 3, 4, 4, 5, 3, 4, 4, 5, 4, 5, 5, 6, 1, 2, 2, 3, 2, 3, 3, 4, 2, 3, 3, 4, 3, 4, 4, 5, 2, 3, 3, 4, 3, 4, 4, 5, 3, 4, 4, 5, 4, 5, 5, 6, 2, 3, 3, 4, 3, 4, 4, 5, 3, 4, 4, 5, 4, 5, 5, 6, 3, 4, 4, 5, 4, 5, 5, 6, 4, 5, 5, 6, 5, 6, 6, 7, 1, 2, 2, 3, 2, 3, 3, 4, 2, 3, 3, 4, 3, 4, 4, 5, 2, 3, 3, 4, 3, 4, 4, 5, 3, 4, 4, 5, 4, 5, 5, 6, 2, 3, 3, 4, 3, 4, 4, 5, 3, 4, 4, 5, 4, 5, 5, 6, 3, 4, 4, 5, 4, 5, 5, 6, 4, 5, 5, 6, 5, 6, 6, 7, 2, 3, 3, 4, 3, 4, 4, 5, 3, 4, 4, 5, 4, 5, 5, 6, 3, 4, 4, 5, 4, 5, 5, 6, 4, 5, 5, 6, 5, 6, 6, 7, 3, 4, 4, 5, 4, 5, 5, 6, 4, 5, 5, 6, 5, 6, 6, 7, 4, 5, 5, 6, 5, 6, 6, 7, 5, 6, 6, 7, 6, 7, 7, 8].getD b 0 : Nat) : Int) := by
  decide +kernel
 rw [key b hb]
 have h8 := ones_le b
 rw [ones_table b hb] at h8
 exact w64_id (by omega) (by omega)
theorem count_l0 {l : List Int} (hl : ∀ x ∈ l, 0 ≤ x ∧ x < 256) (hn : l.length < 1000000) (d : Nat) : ∀ (n i : Nat), i + d = l.length → n ≤ 8 * i → Ev (fun k => bits_Count.l0 k (n : Int) l (l.length : Int) (i : Int)) ((n + count ((nats l).drop i) : Nat) : Int) := by
 induction d with
 | zero =>
  intro n i hi h8
  refine Ev.step (fun k => bits_Count.l0.eq_2 ..) ?_
  refine Ev.neg (by omega) (Ev.ret ?_)
  rw [List.drop_of_length_le (by rw [nats_length]; omega)]
  rfl
 | succ d ih =>
  intro n i hi h8
  have hx := hl _ (rd_mem (l := l) (i := (i : Int)) (by omega) (by omega))
  have hr := rd_nats (l := l) (fun x hx => (hl x hx).1) i
  have hb : (nats l).getD i 0 < 256 := by omega
  have ho := ones_le ((nats l).getD i 0)
  refine Ev.step (fun k => bits_Count.l0.eq_2 ..) ?_
  refine Ev.pos (by omega) ?_
  refine Ev.pos (by omega) ?_
  refine Ev.pos (by omega) ?_
  rw [hr]
  refine Ev.bindv (ones_eq hb) ?_
  clear hr hx
  rw [w64_id (by omega) (by omega), w64_succ (by omega), ← Int.natCast_add]
  refine Ev.eq (ih _ (i + 1) (by omega) (by omega)) ?_
  have hj' : i < (nats l).length := by rw [nats_length]; omega
  rw [List.drop_eq_getElem_cons hj']
  have e : (nats l).getD i 0 = (nats l)[i] := by rw [List.getD_eq_getElem?_getD, List.getElem?_eq_getElem hj']; rfl
  rw [e]
  unfold count
  rw [List.map_cons, List.sum_cons, Nat.add_assoc]
theorem count_ev {l : List Int} (hl : ∀ x ∈ l, 0 ≤ x ∧ x < 256) (hn : l.length < 1000000) : Ev (fun k => bits_Count.f k l) ((count (nats l) : Nat) : Int) := by
 refine Ev.congr (fun k => by rw [bits_Count.f]) ?_
 refine Ev.eq (count_l0 hl hn l.length 0 0 (by omega) (by omega)) ?_
 simp
theorem zeros_ev {l : List Int} (hl : ∀ x ∈ l, 0 ≤ x ∧ x < 256) (hn : l.length < 1000000) : Ev (fun k => bits_Zeros.f k l) ((8 * l.length - count (nats l) : Nat) : Int) := by
 refine Ev.congr (fun k => by rw [bits_Zeros.f]) ?_
 refine Ev.bind (count_ev hl hn) (Ev.ret ?_)
 have := count_le (nats l)
 rw [nats_length] at this
 rw [w64_id (x := 8 * (l.length : Int)) (by omega) (by omega), w64_id (by omega) (by omega)]
 omega
end Go.Proofs.Ytmehbabchakkpaa.PurePageBack
namespace Go.Proofs.Ytmehbabchakkpaa.PurePageBack
open Go.RowKit QPageBack YtmehbabchakkpaaW.PrintWords YtmehbabchakkpaaW.PrintLast YtmehbabchakkpaaW.PrintMore EvKit PackMath TagMath CrcMath NatKit BitsMath ChunkMath
def encI (l : List Int) : List Int := ints (encN (nats l))
theorem encI_len (l : List Int) : (encI l).length = l.length + 2 := by
 unfold encI ints encN
 rw [List.length_map, encW_length, nats_length]
def cutG (b : List Int) (S i : Nat) : List Int := (b.take ((i + 1) * S)).drop (i * S)
theorem cutG_le (b : List Int) (S i : Nat) : (cutG b S i).length ≤ S := by
 unfold cutG
 rw [List.length_drop, List.length_take, Nat.succ_mul]
 omega
theorem cutG_len {b : List Int} {S i : Nat} (h : (i + 1) * S ≤ b.length) : (cutG b S i).length = S := by
 unfold cutG
 rw [List.length_drop, List.length_take, Nat.min_eq_left h, Nat.succ_mul]
 omega
def chunksP (b : List Int) (S i : Nat) : List Int := (List.range i).flatMap fun j => encI (cutG b S j)
theorem chunksP_succ (b : List Int) (S i : Nat) : chunksP b S (i + 1) = chunksP b S i ++ encI (cutG b S i) := by
 unfold chunksP
 rw [List.range_succ, List.flatMap_append]
 simp
theorem chunksP_le (b : List Int) {S : Nat} (hS : S ≤ 512) : ∀ i, (chunksP b S i).length ≤ 600 * i
 | 0 => Nat.le_refl _
 | i + 1 => by
  have := chunksP_le b hS i
  have h2 := cutG_le b S i
  rw [chunksP_succ, List.length_append, encI_len]
  omega
def tailP (b t : List Int) : List Int := encI (t ++ four (CrcMath.sum (nats (b ++ t)))) ++ [255]
def rawP (b : List Int) (S C : Nat) (t : List Int) : List Int := chunksP b S C ++ tailP b t
theorem wmul {i S : Nat} (h : i * S ≤ 100000) : wrap64 ((i : Int) * (S : Int)) = ((i * S : Nat) : Int) := by
 rw [← Int.natCast_mul]
 exact w64_id (by omega) (by omega)
theorem sub_byte {b c : List Int} (hb : ∀ x ∈ b, 0 ≤ x ∧ x < 256) (h : ∀ x ∈ c, x ∈ b) : ∀ x ∈ c, 0 ≤ x ∧ x < 256 := fun x hx => hb x (h x hx)
theorem cutG_byte {b : List Int} (hb : ∀ x ∈ b, 0 ≤ x ∧ x < 256) (S i : Nat) : ∀ x ∈ cutG b S i, 0 ≤ x ∧ x < 256 := sub_byte hb fun _ hx => List.mem_of_mem_take (List.mem_of_mem_drop hx)
theorem app_byte {a b : List Int} (ha : ∀ x ∈ a, 0 ≤ x ∧ x < 256) (hb : ∀ x ∈ b, 0 ≤ x ∧ x < 256) : ∀ x ∈ a ++ b, 0 ≤ x ∧ x < 256 := fun x hx => by
 rcases List.mem_append.1 hx with h | h
 ·exact ha x h
 ·exact hb x h
theorem page_l0 {b t : List Int} {S C : Nat} {q0 q1 q2 q5 q6 q7 : Int} (hb : ∀ x ∈ b, 0 ≤ x ∧ x < 256) (ht : ∀ x ∈ t, 0 ≤ x ∧ x < 256) (htl : t.length = 24) (hS0 : 4 ≤ S) (hS : S ≤ 512) (hC : C ≤ 16) (hl : b.length = C * S) (d : Nat) : ∀ i : Nat, i + d = C →
  Ev (fun k => page_Encode.l0 k b t (chunksP b S i) (C : Int) (i : Int) q0 q1 q2 (C : Int) (S : Int) q5 q6 q7) (rawP b S C t, 0) := by
 have hbl : b.length ≤ 8192 := by
  rw [hl]
  exact Nat.mul_le_mul hC hS
 induction d with
 | zero =>
  intro i hi
  have hlen := chunksP_le b hS i
  obtain rfl : i = C := by omega
  refine Ev.step (fun k => page_Encode.l0.eq_2 ..) ?_
  refine Ev.neg (by omega) ?_
  have hs := sum_ev (ls := [b, t]) (fun l hl => by
   rcases List.mem_cons.1 hl with rfl | hl
   ·exact hb
   ·rcases List.mem_cons.1 hl with rfl | hl
    ·exact ht
    ·cases hl) (by show 2 < 1000000000; decide) (fun l hl => by
   rcases List.mem_cons.1 hl with rfl | hl
   ·omega
   ·rcases List.mem_cons.1 hl with rfl | hl
    ·omega
    ·cases hl)
  have ef : [b, t].flatten = b ++ t := by simp
  rw [ef] at hs
  refine Ev.bind hs (Ev.bind (bytes_ev _) ?_)
  unfold rawP tailP
  generalize hn : four (CrcMath.sum (nats (b ++ t))) = f
  have hfl : f.length = 4 := by rw [← hn]; rfl
  have hfb : ∀ x ∈ f, 0 ≤ x ∧ x < 256 := by rw [← hn]; exact four_byte _
  refine Ev.pos (by omega) ?_
  refine Ev.bind (encode_ev (l := t ++ f) (app_byte ht hfb) (by rw [List.length_append]; omega) (by rw [List.length_append]; omega)) ?_
  have he : (encI (t ++ f)).length = 30 := by rw [encI_len, List.length_append]; omega
  refine Ev.pos (by show (chunksP b S i).length + (encI (t ++ f)).length < _; omega) (Ev.bindv rfl (Ev.pos ?_ (Ev.ret ?_)))
  ·show (chunksP b S i ++ encI (t ++ f)).length < _
   rw [List.length_append]
   omega
  ·show (chunksP b S i ++ encI (t ++ f) ++ [255], (0 : Int)) = _
   rw [List.append_assoc]
 | succ d ih =>
  intro i hi
  have h2 : (i + 1) * S ≤ C * S := Nat.mul_le_mul_right S (by omega)
  have h1 : i * S ≤ (i + 1) * S := Nat.mul_le_mul_right S (by omega)
  have hlen := chunksP_le b hS i
  have hcl := cutG_len (b := b) (S := S) (i := i) (by omega)
  have b1 : i * S ≤ 100000 := by omega
  have b2 : (i + 1) * S ≤ 100000 := by omega
  have b3 : i < 9000000000000000000 := by omega
  have e1 : wrap64 ((i : Int) * (S : Int)) = ((i * S : Nat) : Int) := wmul b1
  have e2 : wrap64 (wrap64 ((i : Int) + 1) * (S : Int)) = (((i + 1) * S : Nat) : Int) := by
   rw [w64_succ b3]
   exact wmul b2
  have e3 : wrap64 ((i : Int) + 1) = ((i + 1 : Nat) : Int) := w64_succ b3
  refine Ev.step (fun k => page_Encode.l0.eq_2 ..) ?_
  refine Ev.pos (by omega) ?_
  refine Ev.step (fun k => page_Encode.j3.eq_2 ..) ?_
  rw [e1, e2, e3, Int.toNat_natCast, Int.toNat_natCast]
  clear e1 e2 e3
  refine Ev.pos (by omega) (Ev.pos (by omega) (Ev.pos (by omega) ?_))
  refine Ev.bind (encode_ev (l := cutG b S i) (cutG_byte hb S i) (by omega) (by omega)) ?_
  have he := encI_len (cutG b S i)
  refine Ev.pos (by show (chunksP b S i).length + (encI (cutG b S i)).length < _; omega) ?_
  have e := ih (i + 1) (by omega)
  rw [chunksP_succ] at e
  exact e
end Go.Proofs.Ytmehbabchakkpaa.PurePageBack
namespace Go.Proofs.Ytmehbabchakkpaa.PurePageBack
open Go.RowKit QPageBack YtmehbabchakkpaaW.PrintWords YtmehbabchakkpaaW.PrintLast YtmehbabchakkpaaW.PrintMore EvKit PackMath TagMath CrcMath NatKit BitsMath ChunkMath
theorem tag_fits {a b c d : Int} (h : mayTag a b c d = true) : ∃ x, pkPut sizes [0, a, b, c, d, 0] = (x, 0) ∧ x.length = 24 ∧ ∀ y ∈ x, 0 ≤ y ∧ y < 256 := by
 simp only [mayTag, between, Bool.and_eq_true, decide_eq_true_eq] at h
 have hok : okSizes sizes = true := by decide
 have p2 : (256 : Int) ^ (2 : Int).toNat = 65536 := by decide
 have p1 : (256 : Int) ^ (1 : Int).toNat = 256 := by decide
 have p4 : (256 : Int) ^ (4 : Int).toNat = 4294967296 := by decide
 have p8 : (256 : Int) ^ (8 : Int).toNat = 18446744073709551616 := by decide
 have p5 : (256 : Int) ^ (5 : Int).toNat = 1099511627776 := by decide
 have f0 : pkFits 0 2 = true := by decide
 have f1 : pkFits a 1 = true := fits_iff.2 ⟨by decide, by decide, by omega, by omega, by rw [p1]; omega⟩
 have f2 : pkFits b 4 = true := fits_iff.2 ⟨by decide, by decide, by omega, by omega, by rw [p4]; omega⟩
 have f3 : pkFits c 8 = true := fits_iff.2 ⟨by decide, by decide, by omega, by omega, by rw [p8]; omega⟩
 have f4 : pkFits d 4 = true := fits_iff.2 ⟨by decide, by decide, by omega, by omega, by rw [p4]; omega⟩
 have f5 : pkFits 0 5 = true := by decide
 have e : ∃ x, putGo sizes [0, a, b, c, d, 0] = some x := by
  simp only [sizes, putGo, f0, f1, f2, f3, f4, f5, if_true]
  exact ⟨_, rfl⟩
 obtain ⟨x, hx⟩ := e
 have e2 : pkPut sizes [0, a, b, c, d, 0] = (x, 0) := by
  unfold pkPut
  rw [if_pos hok, hx]
  simp [endPut]
 obtain ⟨_, _, b3, b4, _⟩ := back_put e2
 have hs : sizes.sum = 24 := by decide
 exact ⟨x, e2, by omega, b3⟩
def encP (b : List Int) (a0 a1 a2 a3 a4 a5 a6 t0 t1 t2 t3 : Int) : List Int × Int :=
 if okG a0 a1 a2 a3 a4 a5 a6 ∧ mayTag t0 t1 t2 t3 = true ∧ (b.length : Int) = a3 * a4 then (rawP b a4.toNat a3.toNat (pkPut sizes [0, t0, t1, t2, t3, 0]).1, 0) else ([], 2)
theorem pe_ev {b : List Int} (hb : ∀ x ∈ b, 0 ≤ x ∧ x < 256) (a0 a1 a2 a3 a4 a5 a6 t0 t1 t2 t3 : Int) : Ev (fun k => page_Encode.f k a0 a1 a2 a3 a4 a5 a6 b t0 t1 t2 t3) (encP b a0 a1 a2 a3 a4 a5 a6 t0 t1 t2 t3) := by
 refine Ev.congr (fun k => by rw [page_Encode.f]) ?_
 refine Ev.bindv of_eq (Ev.bind (tput_ev t0 t1 t2 t3) ?_)
 dsimp only
 have hbad : ∀ (x : List Int) (q0 q1 q2 q3 q4 q5 q6 q7 : Int), ¬ (okG a0 a1 a2 a3 a4 a5 a6 ∧ mayTag t0 t1 t2 t3 = true ∧ (b.length : Int) = a3 * a4) → Ev (fun k => page_Encode.j0 k b x true q0 q1 q2 q3 q4 q5 q6 q7) (encP b a0 a1 a2 a3 a4 a5 a6 t0 t1 t2 t3) := fun x q0 q1 q2 q3 q4 q5 q6 q7 h => by
  refine Ev.step (fun k => page_Encode.j0.eq_2 ..) (Ev.pos rfl (Ev.ret ?_))
  unfold encP
  rw [if_neg h]
 by_cases hg : okG a0 a1 a2 a3 a4 a5 a6
 ·refine Ev.pos (decide_eq_true hg) ?_
  by_cases hm : mayTag t0 t1 t2 t3 = true
  ·obtain ⟨x, hx, hxl, hxb⟩ := tag_fits hm
   have hp : putTag t0 t1 t2 t3 = (x, 0) := by
    unfold putTag
    rw [if_pos hm, hx]
   rw [hp]
   refine Ev.pos rfl (Ev.bindv (data_eq hg) ?_)
   by_cases hl : (b.length : Int) = a3 * a4
   ·have e : ((b.length : Int) != a3 * a4) = false := bne_eq_false_iff_eq.2 hl
    rw [e]
    refine Ev.step (fun k => page_Encode.j0.eq_2 ..) (Ev.neg (by decide) ?_)
    refine Ev.step (fun k => page_Encode.j1.eq_2 ..) ?_
    unfold encP
    rw [if_pos ⟨hg, hm, hl⟩, hx]
    obtain ⟨h3, h4⟩ := okG_bounds hg
    obtain ⟨C, rfl⟩ := Int.eq_ofNat_of_zero_le (a := a3) (by omega)
    obtain ⟨S, rfl⟩ := Int.eq_ofNat_of_zero_le (a := a4) (by omega)
    rw [Int.toNat_natCast, Int.toNat_natCast]
    have hbl : b.length = C * S := by
     rw [← Int.natCast_mul] at hl
     exact_mod_cast hl
    exact page_l0 hb hxb hxl (by omega) (by omega) (by omega) hbl C 0 (by omega)
   ·have e : ((b.length : Int) != a3 * a4) = true := bne_iff_ne.2 hl
    rw [e]
    exact hbad _ _ _ _ _ _ _ _ _ (fun z => hl z.2.2)
  ·have hp : putTag t0 t1 t2 t3 = ([], 2) := by
    unfold putTag
    rw [if_neg hm]
   rw [hp]
   exact Ev.neg (by decide) (hbad _ _ _ _ _ _ _ _ _ (fun z => hm z.2.1))
 ·rw [decide_eq_false hg]
  exact Ev.neg (by decide) (hbad _ _ _ _ _ _ _ _ _ (fun z => hg z.1))
theorem page_awake_ev : Ev (fun k => l08_awake.f k) true := by
 refine Ev.congr (fun k => by rw [l08_awake.f]) ?_
 have hg : okG 1 2 4 1 4 1 1 := by decide
 have e : encP [1, 2, 3, 4] 1 2 4 1 4 1 1 1 0 0 0 = (rawP [1, 2, 3, 4] 4 1 (pkPut sizes [0, 1, 0, 0, 0, 0]).1, 0) := by
  unfold encP
  rw [if_pos ⟨hg, by decide, by decide⟩]
  rfl
 have hl : (rawP [1, 2, 3, 4] 4 1 (pkPut sizes [0, 1, 0, 0, 0, 0]).1).length = 37 := by decide +kernel
 have hr : rd (rawP [1, 2, 3, 4] 4 1 (pkPut sizes [0, 1, 0, 0, 0, 0]).1) 36 = 255 := by decide +kernel
 refine Ev.bind (pe_ev (b := [1, 2, 3, 4]) (by decide) 1 2 4 1 4 1 1 1 0 0 0) ?_
 rw [e]
 dsimp only
 rw [hl, hr]
 exact Ev.pos rfl (Ev.pos rfl (Ev.pos (by decide) (Ev.ret rfl)))
end Go.Proofs.Ytmehbabchakkpaa.PurePageBack
namespace Go.Proofs.Ytmehbabchakkpaa.PurePageBack
open Go.RowKit QPageBack YtmehbabchakkpaaW.PrintWords YtmehbabchakkpaaW.PrintLast YtmehbabchakkpaaW.PrintMore EvKit BitsKit CrcMath NatKit BitsMath LenMath HamMath ChunkMath
def allR (m : Nat) : Nat → List Int → List Int → Int → List Int × Int × Int
 | 0, _, out, fx => (out, fx, 0)
 | d + 1, L, out, fx => if (decN (nats (L.take m))).2.2 = 0 then allR m d (L.drop m) (out ++ (decN (nats (L.take m))).1) (wrap64 (fx + (decN (nats (L.take m))).2.1)) else ([], 0, (decN (nats (L.take m))).2.2)
theorem decN_size (r : List Nat) (h : (decN r).2.2 = 0) : 0 < (decN r).1.length ∧ (decN r).1.length ≤ r.length := by
 unfold decN at h ⊢
 split at h
 ·exact absurd h (by decide)
 ·rename_i hn
  rw [if_neg hn]
  have hl : (r.take (r.length - 2)).length = r.length - 2 := by rw [List.length_take]; omega
  unfold decOf at h ⊢
  split at h
  ·rename_i h1
   rw [if_pos h1]
   show 0 < (ints _).length ∧ (ints _).length ≤ _
   rw [ints_length, hl]
   omega
  ·rename_i h1
   rw [if_neg h1]
   split at h
   ·rename_i h2
    rw [if_pos h2]
    show 0 < (ints _).length ∧ (ints _).length ≤ _
    rw [ints_length, flips_length, hl]
    omega
   ·rename_i h2
    rw [if_neg h2]
    split at h
    ·rename_i h3
     rw [if_pos h3]
     show 0 < (ints _).length ∧ (ints _).length ≤ _
     rw [ints_length, hl]
     omega
    ·exact absurd h (by decide)
theorem allR_short (m : Nat) : ∀ (d : Nat) (L out : List Int) (fx : Int), L.length = d * m → (allR m d L out fx).1.length ≤ out.length + L.length := by
 intro d
 induction d with
 | zero => intro L out fx _; show out.length ≤ _; omega
 | succ d ih =>
  intro L out fx hl
  have hl1 : (L.drop m).length = d * m := by rw [List.length_drop, hl, Nat.succ_mul]; omega
  have hl2 : (L.take m).length ≤ m := by rw [List.length_take]; omega
  unfold allR
  split
  ·rename_i h
   have h1 := (decN_size _ h).2
   rw [nats_length] at h1
   have h2 := ih (L.drop m) (out ++ (decN (nats (L.take m))).1) (wrap64 (fx + (decN (nats (L.take m))).2.1)) hl1
   rw [List.length_append] at h2
   have h3 : L.length = m + d * m := by rw [hl, Nat.succ_mul]; omega
   omega
  ·exact Nat.zero_le _
theorem may_on {l : List Int} {m d : Nat} (hm : 3 ≤ m ∧ m ≤ 514) (hl : l.length = d * m) : chunk_may.f l ((m : Int) - 2) = some true := by
 unfold chunk_may.f
 rw [if_pos (by omega), if_pos (by omega), w64_id (x := (m : Int) - 2 + 2) (by omega) (by omega), show (m : Int) - 2 + 2 = (m : Int) by omega, if_neg (by omega), hl, show ((d * m : Nat) : Int) % (m : Int) = 0 by rw [Int.natCast_mul]; exact Int.mul_emod_left _ _]
 rfl
theorem bytes_take {L : List Int} (hL : ∀ x ∈ L, 0 ≤ x ∧ x < 256) (m : Nat) : ∀ x ∈ L.take m, 0 ≤ x ∧ x < 256 := fun x hx => hL x (List.mem_of_mem_take hx)
theorem bytes_drop {L : List Int} (hL : ∀ x ∈ L, 0 ≤ x ∧ x < 256) (m : Nat) : ∀ x ∈ L.drop m, 0 ≤ x ∧ x < 256 := fun x hx => hL x (List.mem_of_mem_drop hx)
theorem all_l0 {m : Nat} (hm : 3 ≤ m ∧ m ≤ 514) : ∀ (d : Nat) (L out : List Int) (fx : Int), L.length = d * m → (∀ x ∈ L, 0 ≤ x ∧ x < 256) → out.length + L.length ≤ 1000000 → Ev (fun k => chunk_All.l0 k L ((m : Int) - 2) out fx) (allR m d L out fx) := by
 intro d
 induction d with
 | zero =>
  intro L out fx hl _ _
  refine Ev.step (fun k => chunk_All.l0.eq_2 ..) ?_
  exact Ev.pos (by omega) (Ev.ret rfl)
 | succ d ih =>
  intro L out fx hl hb hs
  have h3 : L.length = m + d * m := by rw [hl, Nat.succ_mul]; omega
  have hl1 : (L.drop m).length = d * m := by rw [List.length_drop]; omega
  have hl2 : (L.take m).length = m := by rw [List.length_take]; omega
  refine Ev.step (fun k => chunk_All.l0.eq_2 ..) ?_
  rw [show ((m : Int) - 2 + 2).toNat = m by omega]
  refine Ev.neg (by omega) (Ev.bind (decode_ev (bytes_take hb m) (by omega)) ?_)
  unfold allR
  have hz := decN_size (nats (L.take m))
  rw [nats_length, hl2] at hz
  generalize decN (nats (L.take m)) = t at hz ⊢
  refine Ev.ite (fun h => ?_) (fun h => ?_)
  ·rw [if_pos h]
   have h4 := hz h
   refine Ev.pos h4.1 (Ev.pos (by omega) ?_)
   exact ih _ _ _ hl1 (bytes_drop hb m) (by rw [List.length_append]; omega)
  ·rw [if_neg h]
   exact Ev.ret rfl
theorem all_on {L : List Int} {m d : Nat} (hm : 3 ≤ m ∧ m ≤ 514) (hl : L.length = d * m) (hb : ∀ x ∈ L, 0 ≤ x ∧ x < 256) (hs : L.length ≤ 1000000) : Ev (fun k => chunk_All.f k L ((m : Int) - 2)) (allR m d L [] 0) := by
 refine Ev.congr (fun k => by rw [chunk_All.f]) ?_
 refine Ev.bindv (may_on hm hl) (Ev.pos rfl (Ev.pos ⟨by omega, by omega, ?_⟩ ?_))
 ·rw [show ((m : Int) - 2 + 2).toNat = m by omega, hl]
  exact Nat.mul_mod_left _ _
 ·exact all_l0 hm d L [] 0 hl hb (by rw [List.length_nil]; omega)
end Go.Proofs.Ytmehbabchakkpaa.PurePageBack
namespace Go.Proofs.Ytmehbabchakkpaa.PurePageBack
open Go.RowKit QPageBack YtmehbabchakkpaaW.PrintWords YtmehbabchakkpaaW.PrintLast YtmehbabchakkpaaW.PrintMore EvKit BitsKit CrcMath NatKit
theorem str_beq {a b : List Int} (ha : ∀ x ∈ a, 0 ≤ x ∧ x < 256) (hb : ∀ x ∈ b, 0 ≤ x ∧ x < 256) : ((strOfNums a).toList == (strOfNums b).toList) = decide (a = b) := by
 rw [Bool.eq_iff_iff, beq_iff_eq, decide_eq_true_eq, ByteArray.toList_eq, ByteArray.toList_eq]
 constructor
 ·intro h
  refine str_eq ha hb ?_
  have := Array.toList_inj.1 h
  cases ea : strOfNums a
  cases eb : strOfNums b
  rw [ea, eb] at this
  congr 1
 ·rintro rfl
  rfl
def ends (b : List Int) : Bool := decide (4 ≤ b.length) && decide (four (CrcMath.sum (nats (b.take (b.length - 4)))) = b.drop (b.length - 4))
theorem check_ev {b : List Int} (hb : ∀ x ∈ b, 0 ≤ x ∧ x < 256) (hn : b.length < 1000000) : Ev (fun k => crc_Check.f k b) (ends b) := by
 refine Ev.congr (fun k => by rw [crc_Check.f]) ?_
 have hw : wrap64 ((b.length : Int) - 4) = (b.length : Int) - 4 := w64_id (by omega) (by omega)
 rw [hw]
 clear hw
 refine Ev.ite (fun h => ?_) (fun h => Ev.ret ?_)
 ·refine Ev.pos (by omega) ?_
  refine Ev.pos (by omega) ?_
  rw [show ((b.length : Int) - 4).toNat = b.length - 4 from by omega]
  refine Ev.bind (sum_one (fun x hx => hb x (List.mem_of_mem_take hx)) (by rw [List.length_take]; omega)) ?_
  refine Ev.bind (bytes_ev _) (Ev.ret ?_)
  rw [str_beq (four_byte _) (fun x hx => hb x (List.mem_of_mem_drop hx))]
  unfold ends
  rw [decide_eq_true (show 4 ≤ b.length by omega), Bool.true_and]
 ·unfold ends
  rw [decide_eq_false (show ¬ 4 ≤ b.length by omega), Bool.false_and]
end Go.Proofs.Ytmehbabchakkpaa.PurePageBack
namespace Go.Proofs.Ytmehbabchakkpaa.PurePageBack
open Go.RowKit QPageBack YtmehbabchakkpaaW.PrintWords YtmehbabchakkpaaW.PrintLast YtmehbabchakkpaaW.PrintMore EvKit PackMath
theorem wraps_u64 (n : Int) (h₀ : 0 ≤ n) (h₁ : n < 2 ^ 64) : IntKind.u64.wrap n = n := w_u64 n h₀ (by simpa using h₁)
theorem or_byte {x b : Int} (h0 : 0 ≤ x) (h : x < 256 ^ 7) (b0 : 0 ≤ b) (b1 : b < 256) : Go.bits .or .u64 (IntKind.u64.wrap (x * 256)) (IntKind.u64.wrap b) = b + 256 * x := by
 have e : (256 : Int) ^ 7 = 72057594037927936 := by decide
 rw [e] at h
 rw [wraps_u64 (x * 256) (by omega) (by omega), wraps_u64 b (by omega) (by omega), bits_join .u64 64 (by decide) wraps_u64 8 (x * 256) b (by omega) (by omega) (by omega) b0 (by omega) (by omega)]
 omega
theorem pow7 {m : Nat} (h : m ≤ 7) : (256 : Int) ^ m ≤ 256 ^ 7 := by
 have : m = 0 ∨ m = 1 ∨ m = 2 ∨ m = 3 ∨ m = 4 ∨ m = 5 ∨ m = 6 ∨ m = 7 := by omega
 rcases this with rfl | rfl | rfl | rfl | rfl | rfl | rfl | rfl <;> decide
theorem take_succ_rd {b : List Int} {d : Nat} (h : d < b.length) : b.take (d + 1) = b.take d ++ [rd b (d : Int)] := by
 rw [List.take_succ_eq_append_getElem h, rd_nat h]
theorem take_l1 {b out l : List Int} {s len i : Int} {r : List Int × Int} (hb : ∀ x ∈ b, 0 ≤ x ∧ x < 256) (hs : s ≤ 8) (hsb : s ≤ (b.length : Int)) (d : Nat) : ∀ (x : Int) (m : Nat), (d : Int) + m = s → 0 ≤ x → x < 256 ^ m →
  Ev (fun k => (if unle (b.take d) + 256 ^ d * x > 4611686018427387904 then (some (([] : List Int), 11)) else (if out.length < 17592186044416 then (if 0 ≤ s then (if s ≤ (b.length : Int) then (pack_Take.l0 k (b.drop (s : Int).toNat) (out ++ [wrap64 (unle (b.take d) + 256 ^ d * x)]) l len (wrap64 (i + 1))) else (none)) else (none)) else (none)))) r →
  Ev (fun k => pack_Take.l1 k b out s x (wrap64 ((d : Int) - 1)) l len i) r := by
 induction d with
 | zero =>
  intro x m hm h0 h1 h
  rw [show wrap64 (((0 : Nat) : Int) - 1) = -1 from by rw [w64_id (by omega) (by omega)]; omega]
  refine Ev.step (fun k => pack_Take.l1.eq_2 ..) ?_
  refine Ev.neg (by omega) ?_
  simpa [unle] using h
 | succ d ih =>
  intro x m hm h0 h1 h
  rw [show wrap64 (((d + 1 : Nat) : Int) - 1) = (d : Int) from by rw [w64_id (by omega) (by omega)]; omega]
  refine Ev.step (fun k => pack_Take.l1.eq_2 ..) ?_
  refine Ev.pos (by omega) (Ev.pos (by omega) (Ev.pos (by omega) ?_))
  have hc := hb _ (rd_mem (l := b) (i := (d : Int)) (by omega) (by omega))
  have hx : x < 256 ^ 7 := Int.lt_of_lt_of_le h1 (pow7 (by omega))
  rw [or_byte h0 hx hc.1 hc.2]
  refine ih (rd b (d : Int) + 256 * x) (m + 1) (by omega) (by omega) (by rw [Int.pow_succ]; omega) ?_
  have e : unle (b.take (d + 1)) + 256 ^ (d + 1) * x = unle (b.take d) + 256 ^ d * (rd b (d : Int) + 256 * x) := by
   rw [take_succ_rd (by omega), unle_append, List.length_take, Nat.min_eq_left (by omega), Int.pow_succ]
   simp only [unle, Int.mul_add, Int.mul_assoc, Int.mul_zero, Int.add_zero, Int.add_assoc]
  rw [e] at h
  exact h
theorem take_l0 {l : List Int} (hok : okSizes l = true) (d : Nat) : ∀ (i : Nat) (b out : List Int), i + d = l.length → (∀ x ∈ b, 0 ≤ x ∧ x < 256) → (b.length : Int) = (l.drop i).sum → out.length ≤ i →
  Ev (fun k => pack_Take.l0 k b out l (l.length : Int) (i : Int)) (endTake out (takeGo (l.drop i) b)) := by
 have hk := okSizes_iff.1 hok
 induction d with
 | zero =>
  intro i b out hi hb hsum ho
  refine Ev.step (fun k => pack_Take.l0.eq_2 ..) ?_
  refine Ev.neg (by omega) (Ev.ret ?_)
  rw [List.drop_of_length_le (by omega)]
  simp [takeGo, endTake]
 | succ d ih =>
  intro i b out hi hb hsum ho
  refine Ev.step (fun k => pack_Take.l0.eq_2 ..) ?_
  refine Ev.pos (by omega) (Ev.pos (by omega) (Ev.pos (by omega) ?_))
  have hs := hk.2 _ (rd_mem (l := l) (i := (i : Int)) (by omega) (by omega))
  have hrest := sum_nonneg (l := l.drop (i + 1)) fun x hx => hk.2 x (List.mem_of_mem_drop hx)
  rw [drop_rd (l := l) (i := i) (by omega)] at hsum ⊢
  rw [List.sum_cons] at hsum
  generalize rd l (i : Int) = s at hs hsum ⊢
  have hd : wrap64 (s - 1) = wrap64 ((s.toNat : Int) - 1) := by rw [show (s.toNat : Int) = s by omega]
  rw [hd]
  refine take_l1 hb (by omega) (by omega) s.toNat 0 0 (by omega) (by omega) (by simp) ?_
  have hn := unle_nonneg (b.take s.toNat) fun x hx => hb x (List.mem_of_mem_take hx)
  rw [Int.mul_zero, Int.add_zero]
  refine Ev.ite (fun h => Ev.ret ?_) (fun h => ?_)
  ·have h' : ¬ unle (b.take s.toNat) ≤ 4611686018427387904 := by omega
   simp [takeGo, h', endTake]
  ·refine Ev.pos (by omega) (Ev.pos (by omega) (Ev.pos (by omega) ?_))
   rw [w64_succ (by omega), w64_id (by omega) (by omega)]
   refine Ev.eq (ih (i + 1) (b.drop s.toNat) (out ++ [unle (b.take s.toNat)]) (by omega) (fun x hx => hb x (List.mem_of_mem_drop hx)) (by rw [List.length_drop]; omega) (by simp; omega)) ?_
   have h' : unle (b.take s.toNat) ≤ 4611686018427387904 := by omega
   simp only [takeGo, h', if_true]
   cases takeGo (l.drop (i + 1)) (b.drop s.toNat) <;> simp [endTake]
theorem take_ev (l b : List Int) (hb : ∀ x ∈ b, 0 ≤ x ∧ x < 256) : Ev (fun k => pack_Take.f k l b) (pkTake l b) := by
 refine Ev.congr (fun k => by rw [pack_Take.f]) ?_
 refine Ev.bind (size_ev l) ?_
 refine Ev.ite (fun h => ?_) (fun h => ?_)
 ·have hok : okSizes l = true := by
   cases e : okSizes l
   ·simp [pkSize, e] at h
   ·rfl
  have e1 : pkSize l = (l.sum, true) := by simp [pkSize, hok]
  rw [e1]
  simp only [pkTake, hok, if_true]
  refine Ev.ite (fun h1 => Ev.ret ?_) (fun h1 => Ev.ite (fun h2 => Ev.ret ?_) (fun h2 => ?_))
  ·rw [if_pos h1]
  ·rw [if_neg h1, if_pos h2]
  ·rw [if_neg h1, if_neg h2]
   exact take_l0 hok l.length 0 b [] (by omega) hb (by simp; omega) (by simp)
 ·have hok : okSizes l = false := by
   cases e : okSizes l
   ·rfl
   ·simp [pkSize, e] at h
  refine Ev.ret ?_
  simp [pkTake, hok]
end Go.Proofs.Ytmehbabchakkpaa.PurePageBack
namespace Go.Proofs.Ytmehbabchakkpaa.TagMath
open Go.RowKit YtmehbabchakkpaaW.PrintWords
def ofList (l : List Int) : Int × Int × Int × Int × Int :=
 if rd l 0 = 0 ∧ rd l 5 = 0 ∧ mayTag (rd l 1) (rd l 2) (rd l 3) (rd l 4) = true then (rd l 1, rd l 2, rd l 3, rd l 4, 0) else (0, 0, 0, 0, 11)
def takeTag (b : List Int) : Int × Int × Int × Int × Int :=
 if (Go.Proofs.Ytmehbabchakkpaa.PackMath.pkTake sizes b).2 = 0 then ofList (Go.Proofs.Ytmehbabchakkpaa.PackMath.pkTake sizes b).1 else (0, 0, 0, 0, (Go.Proofs.Ytmehbabchakkpaa.PackMath.pkTake sizes b).2)
theorem six {b : List Int} (h : (Go.Proofs.Ytmehbabchakkpaa.PackMath.pkTake sizes b).2 = 0) : (Go.Proofs.Ytmehbabchakkpaa.PackMath.pkTake sizes b).1.length = 6 := by
 have e := Go.Proofs.Ytmehbabchakkpaa.PackMath.pkTake_ok (Prod.ext rfl h : Go.Proofs.Ytmehbabchakkpaa.PackMath.pkTake sizes b = ((Go.Proofs.Ytmehbabchakkpaa.PackMath.pkTake sizes b).1, 0))
 rw [Go.Proofs.Ytmehbabchakkpaa.PackMath.takeGo_length e.2.2]
 rfl
end Go.Proofs.Ytmehbabchakkpaa.TagMath
namespace Go.Proofs.Ytmehbabchakkpaa.PurePageBack
open Go.RowKit QPageBack YtmehbabchakkpaaW.PrintWords YtmehbabchakkpaaW.PrintLast YtmehbabchakkpaaW.PrintMore EvKit PackMath TagMath
theorem ttake_ev (b : List Int) (hb : ∀ x ∈ b, 0 ≤ x ∧ x < 256) : Ev (fun k => tag_Take.f k b) (takeTag b) := by
 have hbad : ∀ x y z v : Int, Ev (fun k => tag_Take.j0 k true x y z v) (0, 0, 0, 0, 11) := fun x y z v => Ev.step (fun _ => tag_Take.j0.eq_2 ..) (Ev.pos rfl (Ev.ret rfl))
 refine Ev.congr (fun k => by rw [tag_Take.f]) ?_
 refine Ev.bindv (a := sizes) rfl ?_
 refine Ev.bind (take_ev _ _ hb) ?_
 unfold takeTag
 refine Ev.ite (fun h => ?_) (fun h => Ev.ret ?_)
 ·rw [if_pos h]
  have h6 := six h
  generalize (pkTake sizes b).1 = l at h6 ⊢
  unfold ofList
  refine Ev.pos (by omega) ?_
  refine Ev.pos (by omega) ?_
  refine Ev.pos (by omega) ?_
  refine Ev.pos (by omega) ?_
  refine Ev.pos (by omega) ?_
  refine Ev.ite (fun h0 => ?_) (fun h0 => ?_)
  ·refine Ev.pos (by omega) ?_
   refine Ev.ite (fun h5 => ?_) (fun h5 => ?_)
   ·refine Ev.bindv (may_eq _ _ _ _) ?_
    cases hm : mayTag (rd l 1) (rd l 2) (rd l 3) (rd l 4) with
    | true =>
     rw [if_pos ⟨h0, h5, rfl⟩]
     exact Ev.step (fun _ => tag_Take.j0.eq_2 ..) (Ev.neg (by decide) (Ev.ret rfl))
    | false =>
     rw [if_neg fun h => by cases h.2.2]
     exact hbad _ _ _ _
   ·rw [if_neg fun h => h5 h.2.1]
    exact hbad _ _ _ _
  ·rw [if_neg fun h => h0 h.1]
   exact hbad _ _ _ _
 ·rw [if_neg h]
end Go.Proofs.Ytmehbabchakkpaa.PurePageBack
namespace Go.Proofs.Ytmehbabchakkpaa.PurePageBack
open Go.RowKit QPageBack YtmehbabchakkpaaW.PrintWords YtmehbabchakkpaaW.PrintLast YtmehbabchakkpaaW.PrintMore EvKit PackMath TagMath CrcMath NatKit BitsMath ChunkMath
theorem decN_len {r : List Nat} (h : (decN r).2.2 = 0) : (decN r).1.length = r.length - 2 := by
 unfold decN at h ⊢
 split at h
 ·exact absurd h (by decide)
 ·rename_i hn
  rw [if_neg hn]
  have hl : (r.take (r.length - 2)).length = r.length - 2 := by rw [List.length_take]; omega
  unfold decOf at h ⊢
  split at h
  ·rename_i h1
   rw [if_pos h1]
   show (ints _).length = _
   rw [ints_length, hl]
  ·rename_i h1
   rw [if_neg h1]
   split at h
   ·rename_i h2
    rw [if_pos h2]
    show (ints _).length = _
    rw [ints_length, flips_length, hl]
   ·rename_i h2
    rw [if_neg h2]
    split at h
    ·rename_i h3
     rw [if_pos h3]
     show (ints _).length = _
     rw [ints_length, hl]
    ·exact absurd h (by decide)
theorem decN_byte {r : List Nat} (h : ∀ x ∈ r, x < 256) : ∀ x ∈ (decN r).1, 0 ≤ x ∧ x < 256 := by
 have ht : ∀ x ∈ r.take (r.length - 2), x < 256 := fun x hx => h x (List.mem_of_mem_take hx)
 have hnil : ∀ x ∈ ([] : List Int), 0 ≤ x ∧ x < 256 := fun x hx => by cases hx
 unfold decN
 split
 ·exact hnil
 ·unfold decOf
  split
  ·exact ints_byte ht
  ·split
   ·exact ints_byte (flips_lt _ ht)
   ·split
    ·exact ints_byte ht
    ·exact hnil
theorem allR_byte {m : Nat} : ∀ (d : Nat) (L out : List Int) (fx : Int), (∀ x ∈ L, 0 ≤ x ∧ x < 256) → (∀ x ∈ out, 0 ≤ x ∧ x < 256) → ∀ x ∈ (allR m d L out fx).1, 0 ≤ x ∧ x < 256 := by
 intro d
 induction d with
 | zero => intro L out fx _ ho; exact ho
 | succ d ih =>
  intro L out fx hL ho
  unfold allR
  split
  ·exact ih _ _ _ (bytes_drop hL m) (app_byte ho (decN_byte (nats_lt (bytes_take hL m))))
  ·intro x hx
   cases hx
def decB (S C : Nat) (ch lab : List Int) : List Int × Int × Int × Int × Int × Int × Int :=
 if ((8 * lab.length - count (nats lab) : Nat) : Int) ≤ 20 then ([], 0, 0, 0, 0, 2, 0) else
 if (allR (S + 2) C ch [] 0).2.2 = 0 then
  if (decN (nats lab)).2.2 = 0 then
   if ends ((allR (S + 2) C ch [] 0).1 ++ (decN (nats lab)).1) = true then
    if (takeTag ((decN (nats lab)).1.take 24)).2.2.2.2 = 0 then ((allR (S + 2) C ch [] 0).1, (takeTag ((decN (nats lab)).1.take 24)).1, (takeTag ((decN (nats lab)).1.take 24)).2.1, (takeTag ((decN (nats lab)).1.take 24)).2.2.1, (takeTag ((decN (nats lab)).1.take 24)).2.2.2.1, if wrap64 ((allR (S + 2) C ch [] 0).2.1 + (decN (nats lab)).2.1) > 0 then 1 else 0, 0)
    else ([], 0, 0, 0, 0, 0, (takeTag ((decN (nats lab)).1.take 24)).2.2.2.2)
   else ([], 0, 0, 0, 0, 0, 12)
  else ([], 0, 0, 0, 0, 0, (decN (nats lab)).2.2)
 else ([], 0, 0, 0, 0, 0, (allR (S + 2) C ch [] 0).2.2)
def decP (raw : List Int) (a0 a1 a2 a3 a4 a5 a6 : Int) : List Int × Int × Int × Int × Int × Int × Int :=
 if okG a0 a1 a2 a3 a4 a5 a6 ∧ (raw.length : Int) = a3 * (a4 + 2) + 31 then decB a4.toNat a3.toNat (raw.take (raw.length - 31)) ((raw.take (raw.length - 1)).drop (raw.length - 31)) else ([], 0, 0, 0, 0, 0, 2)
theorem label_eq {a0 a1 a2 a3 a4 a5 a6 : Int} {n : Nat} {raw : List Int} (hn : n ≤ 100000) (h : n + 30 ≤ raw.length) : page_shape_label.f a0 a1 a2 a3 a4 a5 a6 (n : Int) raw = some ((raw.take (n + 30)).drop n) := by
 have e : wrap64 (wrap64 ((n : Int) + 28) + 2) = ((n + 30 : Nat) : Int) := by
  rw [w64_id (x := (n : Int) + 28) (by omega) (by omega), w64_id (by omega) (by omega)]
  omega
 unfold page_shape_label.f
 rw [e, Int.toNat_natCast, Int.toNat_natCast, if_pos (by omega), if_pos (by omega), if_pos (by omega)]
theorem chunks_eq {a0 a1 a2 a3 a4 a5 a6 : Int} {n : Nat} {raw : List Int} (h : n ≤ raw.length) : page_shape_chunks.f a0 a1 a2 a3 a4 a5 a6 (n : Int) raw = some (raw.take n) := by
 unfold page_shape_chunks.f
 rw [Int.toNat_natCast, if_pos (by omega), if_pos (by omega)]
theorem size_eq {a0 a1 a2 a3 a4 a5 a6 a7 : Int} (h : okG a0 a1 a2 a3 a4 a5 a6) : page_shape_size.f a0 a1 a2 a3 a4 a5 a6 a7 = some (a3 * (a4 + 2) + 31) := by
 unfold page_shape_size.f
 rw [raw_eq, if_pos h]
 rfl
theorem decB_ev {raw : List Int} (hb : ∀ x ∈ raw, 0 ≤ x ∧ x < 256) {S C : Nat} {q0 q1 q2 q5 q6 : Int} (hS0 : 4 ≤ S) (hS : S ≤ 512) (hC : C ≤ 16) (hl : raw.length = C * (S + 2) + 31) :
  Ev (fun k => page_Decode.j1 k raw 0 q0 q1 q2 (C : Int) (S : Int) q5 q6 ((C * (S + 2) : Nat) : Int)) (decB S C (raw.take (C * (S + 2))) ((raw.take (C * (S + 2) + 30)).drop (C * (S + 2)))) := by
 have hn : C * (S + 2) ≤ 10000 := Nat.le_trans (Nat.mul_le_mul hC (show S + 2 ≤ 514 by omega)) (by decide)
 have hcl : (raw.take (C * (S + 2))).length = C * (S + 2) := by rw [List.length_take]; omega
 have hll : ((raw.take (C * (S + 2) + 30)).drop (C * (S + 2))).length = 30 := by rw [List.length_drop, List.length_take]; omega
 have hcb := bytes_take hb (C * (S + 2))
 have hlb := bytes_drop (bytes_take hb (C * (S + 2) + 30)) (C * (S + 2))
 have hlab := label_eq (a0 := q0) (a1 := q1) (a2 := q2) (a3 := (C : Int)) (a4 := (S : Int)) (a5 := q5) (a6 := q6) (n := C * (S + 2)) (raw := raw) (by omega) (by omega)
 have ech := chunks_eq (a0 := q0) (a1 := q1) (a2 := q2) (a3 := (C : Int)) (a4 := (S : Int)) (a5 := q5) (a6 := q6) (n := C * (S + 2)) (raw := raw) (by omega)
 generalize (raw.take (C * (S + 2) + 30)).drop (C * (S + 2)) = lab at hll hlb hlab ⊢
 generalize raw.take (C * (S + 2)) = ch at hcl hcb ech ⊢
 have hz := zeros_ev hlb (by omega)
 have ha := all_on (L := ch) (m := S + 2) (d := C) ⟨by omega, by omega⟩ hcl hcb (by omega)
 rw [show ((S + 2 : Nat) : Int) - 2 = (S : Int) by omega] at ha
 have hal := allR_short (S + 2) C ch [] 0 hcl
 have hab := allR_byte (m := S + 2) C ch [] 0 hcb (fun x hx => by cases hx)
 have hd := decode_ev hlb (by omega)
 have hdl := decN_len (r := nats lab)
 have hdb := decN_byte (nats_lt hlb)
 rw [nats_length, hll] at hdl
 rw [List.length_nil, hcl] at hal
 refine Ev.step (fun k => page_Decode.j1.eq_2 ..) ?_
 refine Ev.bindv hlab (Ev.bind hz ?_)
 unfold decB
 refine Ev.ite (fun h => ?_) (fun h => ?_)
 ·rw [if_pos h]
  exact Ev.ret rfl
 rw [if_neg h]
 clear h hz
 refine Ev.step (fun k => page_Decode.j2.eq_2 ..) ?_
 refine Ev.bindv ech (Ev.bind ha ?_)
 clear ha ech
 generalize allR (S + 2) C ch [] 0 = A at hal hab ⊢
 refine Ev.ite (fun h => ?_) (fun h => ?_)
 ·rw [if_pos h]
  refine Ev.step (fun k => page_Decode.j3.eq_2 ..) ?_
  refine Ev.bindv hlab (Ev.bind hd ?_)
  clear hd hlab
  generalize decN (nats lab) = D at hdl hdb ⊢
  refine Ev.ite (fun h2 => ?_) (fun h2 => ?_)
  ·rw [if_pos h2]
   have hdl2 := hdl h2
   have hcheck := check_ev (b := A.1 ++ D.1) (app_byte hab hdb) (by rw [List.length_append]; omega)
   have htake := ttake_ev (D.1.take 24) (bytes_take hdb 24)
   refine Ev.step (fun k => page_Decode.j4.eq_2 ..) ?_
   refine Ev.bindv rfl (Ev.pos (by rw [List.length_nil]; omega) (Ev.bindv rfl ?_))
   rw [List.nil_append]
   refine Ev.pos (by omega) (Ev.bind hcheck ?_)
   refine Ev.ite (fun h3 => ?_) (fun h3 => ?_)
   ·rw [if_pos h3]
    refine Ev.step (fun k => page_Decode.j5.eq_2 ..) ?_
    refine Ev.pos (by omega) (Ev.bind htake ?_)
    generalize takeTag (D.1.take 24) = t
    refine Ev.ite (fun h4 => ?_) (fun h4 => ?_)
    ·rw [if_pos h4]
     refine Ev.ite (fun h5 => ?_) (fun h5 => ?_)
     ·rw [if_pos h5]
      exact Ev.ret rfl
     ·rw [if_neg h5]
      exact Ev.ret rfl
    ·rw [if_neg h4]
     exact Ev.ret rfl
   ·rw [if_neg h3]
    exact Ev.ret rfl
  ·rw [if_neg h2]
   exact Ev.ret rfl
 ·rw [if_neg h]
  exact Ev.ret rfl
theorem pdec_ev {raw : List Int} (hb : ∀ x ∈ raw, 0 ≤ x ∧ x < 256) (a0 a1 a2 a3 a4 a5 a6 : Int) : Ev (fun k => page_Decode.f k a0 a1 a2 a3 a4 a5 a6 raw) (decP raw a0 a1 a2 a3 a4 a5 a6) := by
 refine Ev.congr (fun k => by rw [page_Decode.f]) ?_
 refine Ev.bindv of_eq ?_
 dsimp only
 have hbad : ∀ (q0 q1 q2 q3 q4 q5 q6 q7 : Int), ¬ (okG a0 a1 a2 a3 a4 a5 a6 ∧ (raw.length : Int) = a3 * (a4 + 2) + 31) → Ev (fun k => page_Decode.j0 k raw 0 true q0 q1 q2 q3 q4 q5 q6 q7) (decP raw a0 a1 a2 a3 a4 a5 a6) := fun q0 q1 q2 q3 q4 q5 q6 q7 h => by
  refine Ev.step (fun k => page_Decode.j0.eq_2 ..) (Ev.pos rfl (Ev.ret ?_))
  unfold decP
  rw [if_neg h]
 by_cases hg : okG a0 a1 a2 a3 a4 a5 a6
 ·refine Ev.pos (decide_eq_true hg) (Ev.bindv (size_eq hg) ?_)
  by_cases hl : (raw.length : Int) = a3 * (a4 + 2) + 31
  ·have e : ((raw.length : Int) != a3 * (a4 + 2) + 31) = false := bne_eq_false_iff_eq.2 hl
   rw [e]
   refine Ev.step (fun k => page_Decode.j0.eq_2 ..) (Ev.neg (by decide) ?_)
   unfold decP
   rw [if_pos ⟨hg, hl⟩]
   obtain ⟨h3, h4⟩ := okG_bounds hg
   have hm := mul_bound h3 (y := a4 + 2) ⟨by omega, by omega⟩
   rw [w64_id (x := a4 + 2) (by omega) (by omega), w64_id (x := a3 * (a4 + 2)) (by omega) (by omega)]
   obtain ⟨C, rfl⟩ := Int.eq_ofNat_of_zero_le (a := a3) (by omega)
   obtain ⟨S, rfl⟩ := Int.eq_ofNat_of_zero_le (a := a4) (by omega)
   have en : (C : Int) * ((S : Int) + 2) = ((C * (S + 2) : Nat) : Int) := by rw [Int.natCast_mul, Int.natCast_add]; rfl
   rw [en] at hl ⊢
   have hl2 : raw.length = C * (S + 2) + 31 := by omega
   rw [Int.toNat_natCast, Int.toNat_natCast, show raw.length - 31 = C * (S + 2) by omega, show raw.length - 1 = C * (S + 2) + 30 by omega]
   exact decB_ev hb (by omega) (by omega) (by omega) hl2
  ·have e : ((raw.length : Int) != a3 * (a4 + 2) + 31) = true := bne_iff_ne.2 hl
   rw [e]
   exact hbad _ _ _ _ _ _ _ _ (fun z => hl z.2)
 ·rw [decide_eq_false hg]
  exact Ev.neg (by decide) (hbad _ _ _ _ _ _ _ _ (fun z => hg z.1))
def markP (raw : List Int) (a0 a1 a2 a3 a4 a5 a6 : Int) : Bool := decide (okG a0 a1 a2 a3 a4 a5 a6 ∧ (raw.length : Int) = a3 * (a4 + 2) + 31) && decide (((count (nats (raw.drop (raw.length - 1))) : Nat) : Int) < 4)
theorem mark_ev {raw : List Int} (hb : ∀ x ∈ raw, 0 ≤ x ∧ x < 256) (a0 a1 a2 a3 a4 a5 a6 : Int) : Ev (fun k => page_Marked.f k a0 a1 a2 a3 a4 a5 a6 raw) (markP raw a0 a1 a2 a3 a4 a5 a6) := by
 refine Ev.congr (fun k => by rw [page_Marked.f]) ?_
 refine Ev.bindv of_eq ?_
 dsimp only
 unfold markP
 by_cases hg : okG a0 a1 a2 a3 a4 a5 a6
 ·refine Ev.pos (decide_eq_true hg) (Ev.bindv (size_eq hg) ?_)
  by_cases hl : (raw.length : Int) = a3 * (a4 + 2) + 31
  ·obtain ⟨h3, h4⟩ := okG_bounds hg
   have hm := mul_bound h3 (y := a4 + 2) ⟨by omega, by omega⟩
   rw [decide_eq_true ⟨hg, hl⟩, w64_id (x := (raw.length : Int) - 1) (by omega) (by omega), show ((raw.length : Int) - 1).toNat = raw.length - 1 by omega]
   refine Ev.pos hl (Ev.pos (by omega) (Ev.pos (by omega) (Ev.bind (count_ev (bytes_drop hb _) (by rw [List.length_drop]; omega)) (Ev.ret ?_))))
   rw [Bool.true_and]
  ·rw [decide_eq_false (fun z => hl z.2)]
   exact Ev.neg hl (Ev.ret rfl)
 ·rw [decide_eq_false hg, decide_eq_false (fun z => hg z.1)]
  exact Ev.neg (by decide) (Ev.ret rfl)
end Go.Proofs.Ytmehbabchakkpaa.PurePageBack
namespace Go.Proofs.Ytmehbabchakkpaa.TurnMath
open Go.RowKit CrcMath NatKit BitsMath
def cat {α : Type} (g : Nat → List α) : Nat → Nat → List α
 | _, 0 => []
 | s, n + 1 => g s ++ cat g (s + 1) n
theorem cat_congr {α : Type} {g h : Nat → List α} : ∀ (n s : Nat), (∀ j, s ≤ j → j < s + n → g j = h j) → cat g s n = cat h s n
 | 0, _, _ => rfl
 | n + 1, s, hh => by
  show g s ++ cat g (s + 1) n = h s ++ cat h (s + 1) n
  rw [hh s (Nat.le_refl _) (by omega), cat_congr n (s + 1) fun j h1 h2 => hh j (by omega) (by omega)]
theorem cat_len {α : Type} {g : Nat → List α} {m : Nat} : ∀ (n s : Nat), (∀ j, s ≤ j → j < s + n → (g j).length = m) → (cat g s n).length = n * m
 | 0, _, _ => by rw [Nat.zero_mul]; rfl
 | n + 1, s, hh => by
  show (g s ++ cat g (s + 1) n).length = _
  rw [List.length_append, hh s (Nat.le_refl _) (by omega), cat_len n (s + 1) fun j h1 h2 => hh j (by omega) (by omega), Nat.succ_mul, Nat.add_comm]
theorem cat_app {α : Type} (g : Nat → List α) (k : Nat) : ∀ (n s : Nat), cat g s (n + k) = cat g s n ++ cat g (s + n) k
 | 0, s => by rw [Nat.zero_add]; rfl
 | n + 1, s => by
  rw [show n + 1 + k = (n + k) + 1 by omega]
  show g s ++ cat g (s + 1) (n + k) = (g s ++ cat g (s + 1) n) ++ _
  rw [cat_app g k n (s + 1), List.append_assoc, show s + 1 + n = s + (n + 1) by omega]
theorem cat_one {α : Type} (g : Nat → List α) (s : Nat) : cat g s 1 = g s := List.append_nil _
theorem cat_last {α : Type} (g : Nat → List α) (n : Nat) : cat g 0 (n + 1) = cat g 0 n ++ g n := by rw [cat_app, cat_one, Nat.zero_add]
theorem cat_all {α : Type} {P : α → Prop} {g : Nat → List α} : ∀ (n s : Nat), (∀ j, s ≤ j → j < s + n → ∀ x ∈ g j, P x) → ∀ x ∈ cat g s n, P x
 | 0, _, _ => fun x hx => by cases hx
 | n + 1, s, hh => fun x hx => by
  rcases List.mem_append.1 (show x ∈ g s ++ cat g (s + 1) n from hx) with hx | hx
  ·exact hh s (Nat.le_refl _) (by omega) x hx
  ·exact cat_all n (s + 1) (fun j h1 h2 => hh j (by omega) (by omega)) x hx
theorem flip1_left {a b : List Nat} {k : Nat} (h : k < 8 * a.length) : flip1 (a ++ b) (k : Int) = flip1 a (k : Int) ++ b := by
 have hq : k / 8 < a.length := by omega
 unfold flip1
 rw [if_pos (by rw [List.length_append]; omega), if_pos (by omega), Int.toNat_natCast, List.set_append_left _ _ hq, List.getD_eq_getElem?_getD, List.getElem?_append_left hq, ← List.getD_eq_getElem?_getD]
theorem flip1_right {a b : List Nat} {n k : Nat} (hn : a.length = n) (h : k < 8 * b.length) : flip1 (a ++ b) ((8 * n + k : Nat) : Int) = a ++ flip1 b (k : Int) := by
 subst hn
 have hq : (8 * a.length + k) / 8 = a.length + k / 8 := by omega
 have hr : (8 * a.length + k) % 8 = k % 8 := by omega
 unfold flip1
 rw [if_pos (by rw [List.length_append]; omega), if_pos (by omega), Int.toNat_natCast, Int.toNat_natCast, hq, hr, List.set_append_right _ _ (by omega), List.getD_eq_getElem?_getD, List.getElem?_append_right (by omega), Nat.add_sub_cancel_left, ← List.getD_eq_getElem?_getD]
theorem cat_flip {m k : Nat} : ∀ (n : Nat) {g h : Nat → List Nat} (s i : Nat) (rest : List Nat), i < n → (∀ j, s ≤ j → j < s + i → (g j).length = m) → k < 8 * (g (s + i)).length → h (s + i) = flip1 (g (s + i)) (k : Int) → (∀ j, j ≠ s + i → h j = g j) → flip1 (cat g s n ++ rest) ((8 * (i * m) + k : Nat) : Int) = cat h s n ++ rest
 | 0, _, _, _, _, _, hi, _, _, _, _ => absurd hi (Nat.not_lt_zero _)
 | n + 1, g, h, s, i, rest, hi, hm, hk, hh, ho => by
  show flip1 ((g s ++ cat g (s + 1) n) ++ rest) _ = (h s ++ cat h (s + 1) n) ++ rest
  rw [List.append_assoc, List.append_assoc]
  cases i with
  | zero =>
   rw [Nat.add_zero] at hk hh
   rw [Nat.zero_mul, Nat.mul_zero, Nat.zero_add, flip1_left hk, hh, cat_congr (g := g) (h := h) n (s + 1) fun j h1 _ => (ho j (by omega)).symm]
  | succ i =>
   have es : s + (i + 1) = s + 1 + i := by omega
   rw [es] at hk hh ho
   have hr : k < 8 * (cat g (s + 1) n ++ rest).length - 8 * (i * m) := by
    have hn : n = i + (n - i) := by omega
    rw [hn, cat_app, List.length_append, List.length_append, cat_len (m := m) i (s + 1) fun j h1 h2 => hm j (by omega) (by omega)]
    obtain ⟨z, hz⟩ : ∃ z, n - i = z + 1 := ⟨n - i - 1, by omega⟩
    rw [hz]
    show k < 8 * (i * m + (g (s + 1 + i) ++ cat g (s + 1 + i + 1) z).length + rest.length) - 8 * (i * m)
    rw [List.length_append]
    omega
   have hlen : i * m ≤ (cat g (s + 1) n ++ rest).length := by
    rw [show n = i + (n - i) by omega, cat_app, List.length_append, List.length_append, cat_len (m := m) i (s + 1) fun j h1 h2 => hm j (by omega) (by omega)]
    omega
   rw [show 8 * ((i + 1) * m) + k = 8 * m + (8 * (i * m) + k) by rw [Nat.succ_mul i m]; omega, flip1_right (hm s (Nat.le_refl _) (by omega)) (by omega), cat_flip n (s + 1) i rest (by omega) (fun j h1 h2 => hm j (by omega) (by omega)) hk hh ho, ho s (by omega)]
def turnB (g : List Nat) : Option Nat → List Nat
 | none => g
 | some k => flip1 g (k : Int)
theorem turnB_len (g : List Nat) (o : Option Nat) : (turnB g o).length = g.length := by
 cases o with
 | none => rfl
 | some k => exact flip1_length g k
theorem turnB_lt {g : List Nat} (h : ∀ b ∈ g, b < 256) (o : Option Nat) : ∀ b ∈ turnB g o, b < 256 := by
 cases o with
 | none => exact h
 | some k => exact flip1_lt h k
theorem ints_app (a b : List Nat) : ints (a ++ b) = ints a ++ ints b := List.map_append
end Go.Proofs.Ytmehbabchakkpaa.TurnMath
namespace Go.Proofs.Ytmehbabchakkpaa.BitsMath
open CrcMath
def near (d a b : Nat) : Prop := a ≤ b + d ∧ b ≤ a + d
theorem ones_turn : ∀ x : Nat, x < 256 → ∀ r : Nat, r < 8 → ones (x ^^^ 2 ^ r) ≤ ones x + 1 ∧ ones x ≤ ones (x ^^^ 2 ^ r) + 1 := by decide +kernel
theorem count_cons (x : Nat) (l : List Nat) : count (x :: l) = ones x + count l := by simp [count]
theorem count_app (a b : List Nat) : count (a ++ b) = count a + count b := by simp [count]
theorem count_set : ∀ (l : List Nat) (j v : Nat), (∀ h : j < l.length, near 1 (ones v) (ones l[j])) → near 1 (count (l.set j v)) (count l)
 | [], _, _, _ => ⟨by simp, by simp⟩
 | x :: l, 0, v, h => by
  have := h (by simp)
  simp only [List.getElem_cons_zero] at this
  unfold near at this ⊢
  rw [List.set_cons_zero, count_cons, count_cons]
  omega
 | x :: l, j + 1, v, h => by
  have := count_set l j v (fun hj => h (by rw [List.length_cons]; omega))
  unfold near at this ⊢
  rw [List.set_cons_succ, count_cons, count_cons]
  omega
theorem piece_turn {l : List Nat} (hl : ∀ b ∈ l, b < 256) (i : Int) (a b : Nat) : near 1 (count (((flip1 l i).take b).drop a)) (count ((l.take b).drop a)) := by
 unfold flip1
 split
 ·rename_i hi
  obtain ⟨n, rfl⟩ := Int.eq_ofNat_of_zero_le hi.1
  rw [Int.toNat_natCast]
  have hv : ∀ h : n / 8 < l.length, near 1 (ones (l.getD (n / 8) 0 ^^^ 2 ^ (n % 8))) (ones l[n / 8]) := fun h => by
   have e : l.getD (n / 8) 0 = l[n / 8] := by simp [h]
   rw [e]
   exact ones_turn _ (hl _ (List.getElem_mem h)) _ (Nat.mod_lt _ (by decide))
  generalize l.getD (n / 8) 0 ^^^ 2 ^ (n % 8) = v at hv
  generalize n / 8 = j at hv
  rw [List.take_set, List.drop_set]
  split
  ·exact ⟨by omega, by omega⟩
  ·rename_i hja
   refine count_set _ _ _ (fun h => ?_)
   rw [List.length_drop, List.length_take] at h
   rw [List.getElem_drop, List.getElem_take]
   have e : a + (j - a) = j := by omega
   have := hv (by omega)
   simp only [e]
   exact this
 ·exact ⟨by omega, by omega⟩
end Go.Proofs.Ytmehbabchakkpaa.BitsMath
