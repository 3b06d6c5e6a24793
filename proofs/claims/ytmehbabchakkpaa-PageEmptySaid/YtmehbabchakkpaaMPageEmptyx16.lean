import Derived.Test.YtmehbabchakkpaaMPageEmptyx15
import Derived.Laws.Strings
namespace Go.Proofs.Ytmehbabchakkpaa.HamMath
open Go.RowKit CrcMath BitsMath LenMath
def wrongN (l : List Nat) (w : Nat) : Nat := (gx l (8 * l.length) ^^^ w) % 8192
def single (l : List Nat) (w : Nat) : Bool := go l (8 * l.length) != par (w % 16384)
theorem wrongN_lt (l : List Nat) (w : Nat) : wrongN l w < 8192 := Nat.mod_lt _ (by decide)
theorem xor_mod13 (a b : Nat) : (a ^^^ b) % 8192 = a % 8192 ^^^ b % 8192 := Nat.xor_mod_two_pow (n := 13)
theorem xor_mod14 (a b : Nat) : (a ^^^ b) % 16384 = a % 16384 ^^^ b % 16384 := Nat.xor_mod_two_pow (n := 14)
theorem chk_le (l : List Nat) : chk l ≤ 1 := by unfold chk; split <;> omega
theorem wordN_13 {l : List Nat} (h : l.length ≤ 600) : wordN l % 8192 = gx l (8 * l.length) := by
 have h1 := gx_lt l (8 * l.length) (by omega)
 have h2 := chk_le l
 unfold wordN
 omega
theorem wordN_14 {l : List Nat} (h : l.length ≤ 600) : wordN l % 16384 = gx l (8 * l.length) + 8192 * chk l := by
 have h1 := gx_lt l (8 * l.length) (by omega)
 have h2 := chk_le l
 unfold wordN
 omega
theorem wordN_top {l : List Nat} (h : l.length ≤ 600) : wordN l / 16384 = 3 := by
 have h1 := gx_lt l (8 * l.length) (by omega)
 have h2 := chk_le l
 unfold wordN
 omega
theorem wrong_word {l : List Nat} (h : l.length ≤ 600) : wrongN l (wordN l) = 0 := by
 have h1 := gx_lt l (8 * l.length) (by omega)
 unfold wrongN
 rw [xor_mod13, wordN_13 h, Nat.mod_eq_of_lt h1, Nat.xor_self]
theorem single_word {l : List Nat} (h : l.length ≤ 600) : single l (wordN l) = false := by
 have h1 := gx_lt l (8 * l.length) (by omega)
 unfold single
 rw [wordN_14 h]
 unfold chk
 by_cases e : (go l (8 * l.length) != par (gx l (8 * l.length))) = true
 ·rw [if_pos e]
  have e2 : gx l (8 * l.length) + 8192 * 1 = gx l (8 * l.length) ^^^ 2 ^ 13 := by
   have := Nat.two_pow_add_eq_or_of_lt (i := 13) (b := gx l (8 * l.length)) h1 1
   apply Nat.eq_of_testBit_eq
   intro i
   rw [show gx l (8 * l.length) + 8192 * 1 = 2 ^ 13 * 1 + gx l (8 * l.length) by omega, this, Nat.testBit_or, Nat.testBit_xor, show 2 ^ 13 * 1 = 2 ^ 13 by omega, Nat.testBit_two_pow]
   by_cases hi : 13 = i
   ·subst hi
    rw [Nat.testBit_lt_two_pow h1]
    rfl
   ·rw [decide_eq_false hi]
    simp
  rw [e2, par_xor, par_pow 13 (by decide)]
  revert e
  cases go l (8 * l.length) <;> cases par (gx l (8 * l.length)) <;> decide
 ·have e' : (go l (8 * l.length) != par (gx l (8 * l.length))) = false := by simpa using e
  rw [if_neg e, Nat.mul_zero, Nat.add_zero, e']
def XS : List Nat → Nat
 | [] => 0
 | i :: p => place i ^^^ XS p
def upN (p : List Nat) : List Int := p.map fun i : Nat => (i : Int)
theorem gx_flips : ∀ (p : List Nat) (l : List Nat) (M : Nat), M = 8 * l.length → (∀ i ∈ p, i < M) → gx (flips l (upN p)) M = gx l M ^^^ XS p
 | [], l, M, _, _ => (Nat.xor_zero _).symm
 | i :: p, l, M, hM, h => by
  have hi := h i (List.mem_cons_self ..)
  have ih := gx_flips p (flip1 l (i : Int)) M (by rw [flip1_length]; exact hM) (fun k hk => h k (List.mem_cons_of_mem _ hk))
  show gx (flips (flip1 l (i : Int)) (upN p)) M = _
  rw [ih, gx_flip (by omega), if_pos hi]
  show _ = gx l M ^^^ (place i ^^^ XS p)
  rw [Nat.xor_assoc]
def oddL (p : List Nat) : Bool := decide (p.length % 2 = 1)
theorem oddL_cons (i : Nat) (p : List Nat) : oddL (i :: p) = !oddL p := by
 unfold oddL
 rw [List.length_cons]
 by_cases h : p.length % 2 = 1
 ·rw [decide_eq_true h, decide_eq_false (by omega)]; rfl
 ·rw [decide_eq_false h, decide_eq_true (by omega)]; rfl
theorem go_flips : ∀ (p : List Nat) (l : List Nat) (M : Nat), M = 8 * l.length → (∀ i ∈ p, i < M) → go (flips l (upN p)) M = (go l M != oddL p)
 | [], l, M, _, _ => by
  show go l M = (go l M != oddL [])
  have : oddL [] = false := rfl
  rw [this, Bool.bne_false]
 | i :: p, l, M, hM, h => by
  have hi := h i (List.mem_cons_self ..)
  have ih := go_flips p (flip1 l (i : Int)) M (by rw [flip1_length]; exact hM) (fun k hk => h k (List.mem_cons_of_mem _ hk))
  show go (flips (flip1 l (i : Int)) (upN p)) M = _
  rw [ih, go_flip (by omega), if_pos hi, oddL_cons]
  cases go l M <;> cases oddL p <;> rfl
theorem flips_up_length (l : List Nat) (p : List Nat) : (flips l (upN p)).length = l.length := flips_length _ _
theorem wrong_turned {l p : List Nat} {m : Nat} (h : l.length ≤ 600) (hp : ∀ i ∈ p, i < 8 * l.length) : wrongN (flips l (upN p)) (wordN l ^^^ m) = (XS p ^^^ m) % 8192 := by
 have h1 := gx_lt l (8 * l.length) (by omega)
 have h0 := wrong_word h
 unfold wrongN at h0 ⊢
 rw [flips_up_length, gx_flips p l _ rfl hp]
 rw [xor_swap, xor_mod13 (gx l (8 * l.length) ^^^ wordN l), h0, Nat.zero_xor]
theorem single_turned {l p : List Nat} {m : Nat} (h : l.length ≤ 600) (hp : ∀ i ∈ p, i < 8 * l.length) : single (flips l (upN p)) (wordN l ^^^ m) = (oddL p != par (m % 16384)) := by
 have h0 := single_word h
 unfold single at h0 ⊢
 rw [flips_up_length, go_flips p l _ rfl hp, xor_mod14, par_xor]
 revert h0
 cases go l (8 * l.length) <;> cases par (wordN l % 16384) <;> cases oddL p <;> cases par (m % 16384) <;> decide
theorem place_three {n : Nat} (h : n ≤ 1048576) : 3 ≤ place n ∧ isPow (place n) = false := ⟨(isPlace_place h).2.2, (isPlace_place h).1⟩
theorem place_inj {i j : Nat} (hi : i ≤ 1048576) (hj : j ≤ 1048576) (h : place i = place j) : i = j := by
 have h1 := (isPlace_place hi).2.1
 have h2 := (isPlace_place hj).2.1
 rw [h] at h1
 omega
theorem sum_none : ∀ (n x : Nat), x < 2 ^ n → (bitsOf n x).sum = 0 → x = 0
 | 0, x, h, _ => by simpa using h
 | n + 1, x, h, e => by
  unfold bitsOf at e
  rw [List.sum_cons] at e
  have := sum_none n (x / 2) (by rw [Nat.pow_succ] at h; omega) (by omega)
  omega
theorem sum_single : ∀ (n x : Nat), x < 2 ^ n → (bitsOf n x).sum = 1 → isPow x = true
 | 0, x, _, e => absurd e (by simp [bitsOf])
 | n + 1, x, h, e => by
  unfold bitsOf at e
  rw [List.sum_cons] at e
  have hlt : x / 2 < 2 ^ n := by rw [Nat.pow_succ] at h; omega
  rcases Nat.mod_two_eq_zero_or_one x with h2 | h2
  ·obtain ⟨m, hm⟩ := isPow_iff.1 (sum_single n (x / 2) hlt (by omega))
   refine isPow_iff.2 ⟨m + 1, ?_⟩
   rw [Nat.pow_succ]
   omega
  ·have := sum_none n (x / 2) hlt (by omega)
   exact isPow_iff.2 ⟨0, by omega⟩
theorem sum_mod (x : Nat) : (bitsOf 13 (x % 8192)).sum ≤ (bitsOf 16 x).sum := by
 have h1 := bitsOf_mod 13 x
 have h2 := bitsOf_add 13 3 x
 rw [show 2 ^ 13 = 8192 from rfl] at h1
 rw [show 16 = 13 + 3 from rfl, h1, h2]
 omega
theorem four_ones {D : List Nat} {w : Nat} (hd : D ≠ []) (hp : ∀ i ∈ D, i < 5000) (hnd : D.Nodup) (hx : XS D % 8192 = w % 8192) (hpar : (D.length + (bitsOf 16 w).sum) % 2 = 0) :
  4 ≤ D.length + (bitsOf 16 w).sum := by
 have hsm := sum_mod w
 cases D with
 | nil => exact absurd rfl hd
 | cons i D =>
  have hi := hp i (List.mem_cons_self ..)
  have h3 := place_three (n := i) (by omega)
  have hlt := place_lt (n := i) (by omega)
  cases D with
  | nil =>
   have e : XS [i] = place i := Nat.xor_zero _
   rw [e, Nat.mod_eq_of_lt hlt] at hx
   rw [← hx] at hsm
   have n0 : (bitsOf 13 (place i)).sum ≠ 0 := fun h => by have := sum_none 13 _ hlt h; omega
   have n1 : (bitsOf 13 (place i)).sum ≠ 1 := fun h => by have := sum_single 13 _ hlt h; rw [h3.2] at this; exact absurd this (by decide)
   rw [List.length_singleton] at hpar ⊢
   omega
  | cons k D =>
   have hk := hp k (List.mem_cons_of_mem _ (List.mem_cons_self ..))
   have hlt2 := place_lt (n := k) (by omega)
   have hne : i ≠ k := fun e => (List.nodup_cons.1 hnd).1 (by rw [e]; exact List.mem_cons_self ..)
   cases D with
   | nil =>
    have e : XS [i, k] = place i ^^^ place k := by
     show place i ^^^ (place k ^^^ 0) = _
     rw [Nat.xor_zero]
    have hl : place i ^^^ place k < 8192 := Nat.xor_lt_two_pow (n := 13) hlt hlt2
    rw [e, Nat.mod_eq_of_lt hl] at hx
    rw [← hx] at hsm
    have n0 : (bitsOf 13 (place i ^^^ place k)).sum ≠ 0 := fun h => by
     have h0 := sum_none 13 _ hl h
     have := congrArg (· ^^^ place k) h0
     simp only [Nat.zero_xor, Nat.xor_assoc, Nat.xor_self, Nat.xor_zero] at this
     exact hne (place_inj (by omega) (by omega) this)
    rw [List.length_cons, List.length_singleton] at hpar ⊢
    omega
   | cons m D =>
    rw [List.length_cons, List.length_cons, List.length_cons] at hpar ⊢
    omega
theorem word_apart {a b : List Nat} (ha : a.length ≤ 600) (hb : b.length ≤ 600) : wordN a ^^^ wordN b < 16384 := by
 have t1 := wordN_top ha
 have t2 := wordN_top hb
 have := Nat.shiftRight_xor_distrib (a := wordN a) (b := wordN b) (i := 14)
 rw [Nat.shiftRight_eq_div_pow, Nat.shiftRight_eq_div_pow, Nat.shiftRight_eq_div_pow, show 2 ^ 14 = 16384 from rfl, t1, t2, Nat.xor_self] at this
 omega
theorem apart {a b : List Nat} (ha : ∀ x ∈ a, x < 256) (hb : ∀ x ∈ b, x < 256) (hl : a.length = b.length) (hn : a.length ≤ 600) (hd : diffN a b ≠ []) :
  4 ≤ (diffN a b).length + (bitsOf 16 (wordN a ^^^ wordN b)).sum := by
 have hb' : flips a (upN (diffN a b)) = b := flips_diff ha hb hl
 have hp : ∀ i ∈ diffN a b, i < 8 * a.length := fun i hi => by have := (mem_diffN.1 hi).1; omega
 have h1 := wrong_turned (m := wordN a ^^^ wordN b) hn hp
 have h2 := single_turned (m := wordN a ^^^ wordN b) hn hp
 have e : wordN a ^^^ (wordN a ^^^ wordN b) = wordN b := by rw [← Nat.xor_assoc, Nat.xor_self, Nat.zero_xor]
 have hw := word_apart (a := a) (b := b) (by omega) (by omega)
 rw [hb', e, wrong_word (by omega)] at h1
 rw [hb', e, single_word (by omega), Nat.mod_eq_of_lt hw] at h2
 refine four_ones hd (fun i hi => by have := hp i hi; omega) (diffN_nodup a b) ?_ ?_
 ·rw [xor_mod13] at h1
  generalize XS (diffN a b) % 8192 = x at h1 ⊢
  generalize (wordN a ^^^ wordN b) % 8192 = y at h1 ⊢
  have := congrArg (· ^^^ y) h1
  simp only [Nat.zero_xor, Nat.xor_assoc, Nat.xor_self, Nat.xor_zero] at this
  exact this.symm
 ·unfold oddL par at h2
  generalize (bitsOf 16 (wordN a ^^^ wordN b)).sum = s at h2 ⊢
  generalize (diffN a b).length = d at h2 ⊢
  have e1 := Nat.mod_two_eq_zero_or_one d
  have e2 := Nat.mod_two_eq_zero_or_one s
  rcases e1 with e1 | e1 <;> rcases e2 with e2 | e2 <;> rw [e1, e2] at h2 <;> first | omega | exact absurd h2 (by decide)
end Go.Proofs.Ytmehbabchakkpaa.HamMath
namespace Go.Proofs.Ytmehbabchakkpaa.PurePageEmpty
open Go.RowKit QPageEmpty YtmehbabchakkpaaW.PrintWords YtmehbabchakkpaaW.PrintLast YtmehbabchakkpaaW.PrintMore EvKit BitsKit CrcMath NatKit BitsMath LenMath HamMath
theorem tab_ones : ∀ b : Nat, b < 256 → bt (⟨#[0, 1, 1, 2, 1, 2, 2, 3, 1, 2, 2, 3, 2, 3, 3, 4, 1, 2, 2, 3, 2, 3, 3, 4, 2, 3, 3, 4, 3, 4, 4, 5, 1, 2, 2, 3, 2, 3, 3, 4, 2, 3, 3, 4, 3, 4, 4, 5, 2, 3, 3, 4, 3, 4, 4, 5, 3, 4, 4, 5, 4, 5, 5, 6, 1, 2, 2, 3, 2, 3, 3, 4, 2, 3, 3, 4, 3, 4, 4, 5, 2, 3, 3, 4, 3, 4, 4, 5, 3, 4, 4, 5, 4, 5, 5, 6, 2, 3, 3, 4, 3, 4, 4, 5, 3, 4, 4, 5, 4, 5, 5, 6, 3, 4, 4, 5, 4, 5, 5, 6, 4, 5, 5, 6, 5, 6, 6, 7, 1, 2, 2, 3, 2, 3, 3, 4, 2, 3, 3, 4, 3, 4, 4, 5, 2, 3, 3, 4, 3, 4, 4, 5, 3, 4, 4, 5, 4, 5, 5, 6, 2, 3, 3, 4, 3, 4, 4, 5, 3, 4, 4, 5, 4, 5, 5, 6, 3, 4, 4, 5, 4, 5, 5, 6, 4, 5, 5, 6, 5, 6, 6, 7, 2, 3, 3, 4, 3, 4, 4, 5, 3, 4, 4, 5, 4, 5, 5, 6, 3, 4, 4, 5, 4, 5, 5, 6, 4, 5, 5, 6, 5, 6, 6, 7, 3, 4, 4, 5, 4, 5, 5, 6, 4, 5, 5, 6, 5, 6, 6, 7, 4, 5, 5, 6, 5, 6, 6, 7, 5, 6, 6, 7, 6, 7, 7, 8]⟩ : ByteArray) (b : Int) = ((ones b : Nat) : Int) := by
 decide +kernel
theorem low_and {a : Nat} (n m : Nat) (hm : m = 2 ^ n - 1) (ha : a < 65536) (hm' : m < 65536) : Go.bits .and .u16 (a : Int) (m : Int) = ((a % 2 ^ n : Nat) : Int) := by
 rw [and_u16 ha hm', hm, Nat.and_two_pow_sub_one_eq_mod]
theorem odd_eq {a : Nat} (ha : a < 65536) : hamming_odd.f (a : Int) = some (par a) := by
 have e1 : Go.bits .and .u16 (a : Int) 255 = ((a % 256 : Nat) : Int) := low_and 8 255 (by decide) ha (by decide)
 have e2 : (a : Int) / 256 = ((a / 256 : Nat) : Int) := by omega
 have h1 := ones_le (a / 256)
 have h2 := ones_le (a % 256)
 have h3 : (Go.bits .and .i64 (((ones (a / 256) + ones (a % 256) : Nat) : Int)) 1 == 1) = par a := by
  have := and_i64 (a := ones (a / 256) + ones (a % 256)) (b := 1) (by omega) (by decide)
  rw [show ((1 : Nat) : Int) = 1 from rfl] at this
  rw [this, Nat.and_one_is_mod, par_ones]
  rcases Nat.mod_two_eq_zero_or_one (ones (a / 256) + ones (a % 256)) with h | h <;> rw [h] <;> rfl
 unfold hamming_odd.f bits_OnesCount16.f
 rw [e1, e2, if_pos (by omega), if_pos (by omega), if_pos (by omega), if_pos (by omega), tab_ones _ (by omega), tab_ones _ (by omega)]
 have e3 : (((ones (a / 256) : Nat) : Int) + ((ones (a % 256) : Nat) : Int)) % 256 = ((ones (a / 256) + ones (a % 256) : Nat) : Int) := by omega
 rw [e3, Option.bind_some, h3]
theorem or_bit {x : Nat} (n m : Nat) (hm : m = 2 ^ n) (hx : x < m) (h : m < 65536) : Go.bits .or .u16 (x : Int) (m : Int) = ((x + m : Nat) : Int) := by
 subst hm
 rw [or_u16 (by omega) h]
 have := Nat.two_pow_add_eq_or_of_lt hx 1
 rw [Nat.mul_one] at this
 rw [Nat.or_comm, ← this, Nat.add_comm]
theorem or_pad {x : Nat} (hx : x < 16384) : Go.bits .or .u16 (x : Int) 49152 = ((x + 49152 : Nat) : Int) := by
 have e : Go.bits .or .u16 (x : Int) ((49152 : Nat) : Int) = _ := or_u16 (a := x) (b := 49152) (by omega) (by omega)
 have h := Nat.two_pow_add_eq_or_of_lt (i := 14) (b := x) (by omega) 3
 have h3 : 2 ^ 14 * 3 = 49152 := by decide
 rw [h3] at h
 rw [Nat.or_comm, ← h, Nat.add_comm] at e
 exact e
theorem word_or1 {x : Nat} (hx : x < 8192) : Go.bits .or .u16 (Go.bits .or .u16 (x : Int) 8192) 49152 = ((x + 8192 * 1 + 49152 : Nat) : Int) := by
 have e : Go.bits .or .u16 (x : Int) ((8192 : Nat) : Int) = ((x + 8192 : Nat) : Int) := or_bit (x := x) 13 8192 (by decide) hx (by decide)
 have e' : Go.bits .or .u16 (x : Int) 8192 = ((x + 8192 : Nat) : Int) := e
 rw [e', or_pad (by omega)]
theorem word_or0 {x : Nat} (hx : x < 8192) : Go.bits .or .u16 (x : Int) 49152 = ((x + 8192 * 0 + 49152 : Nat) : Int) := by
 have e := or_pad (x := x) (by omega)
 rw [e]
theorem wordN_of {l : List Nat} {x : Nat} {o : Bool} (hx : gx l (8 * l.length) = x) (ho : go l (8 * l.length) = o) : wordN l = x + 8192 * (if o != par x then 1 else 0) + 49152 := by
 unfold wordN chk
 rw [hx, ho]
theorem word_ev {l : List Int} (hl : ∀ x ∈ l, 0 ≤ x ∧ x < 256) (hn : l.length ≤ 512) : Ev (fun k => hamming_Word.f k l) (((wordN (nats l) : Nat) : Int), 0) := by
 have hx := gx_lt (nats l) (8 * l.length) (by omega)
 have hlen := nats_length l
 have hw : ∀ x o, gx (nats l) (8 * l.length) = x → go (nats l) (8 * l.length) = o → wordN (nats l) = x + 8192 * (if o != par x then 1 else 0) + 49152 := fun x o h1 h2 => wordN_of (by rw [hlen]; exact h1) (by rw [hlen]; exact h2)
 have hw := hw _ _ rfl rfl
 refine Ev.congr (fun k => by rw [hamming_Word.f]) ?_
 refine Ev.neg (by omega) ?_
 refine Ev.bind (gather_ev hl (by omega)) ?_
 refine Ev.bindv (odd_eq (by omega)) ?_
 rw [hw]
 clear hw
 generalize gx (nats l) (8 * l.length) = x at hx ⊢
 generalize go (nats l) (8 * l.length) = o
 dsimp only
 cases hc : (o != par x)
 ·refine Ev.neg (by decide) (Ev.ret ?_)
  rw [word_or0 hx, if_neg (by decide)]
 ·refine Ev.pos rfl (Ev.ret ?_)
  rw [word_or1 hx, if_pos rfl]
theorem not_pad {w : Nat} (hw : w < 65536) : Go.bits .andNot .u16 (w : Int) 49152 = ((w % 16384 : Nat) : Int) := by
 have e := low_and (a := w) 14 16383 (by decide) hw (by decide)
 rw [show 2 ^ 14 = 16384 from rfl] at e
 rw [← e]
 rfl
def judgeN (l : List Nat) (w : Nat) : Int × Int × Int :=
 if single l w = false then (if wrongN l w = 0 then (0, 0, 0) else (3, 0, 0))
 else if wrongN l w = 0 ∨ isPow (wrongN l w) = true then (2, 0, 0)
 else if wrongN l w - 1 - len (wrongN l w) < 8 * l.length then (1, ((wrongN l w - 1 - len (wrongN l w) : Nat) : Int), 0) else (3, 0, 0)
theorem pow_none {p : Nat} (hp : p < 8192) : (Go.bits .and .i64 (p : Int) (wrap64 ((p : Int) - 1)) = 0) ↔ (p = 0 ∨ isPow p = true) := by
 rcases Nat.eq_zero_or_pos p with e | h0
 ·subst e
  refine ⟨fun _ => Or.inl rfl, fun _ => ?_⟩
  have e : wrap64 (((0 : Nat) : Int) - 1) = -1 := by rw [w64_id (by omega) (by omega)]; omega
  rw [e]
  decide +kernel
 ·rw [pow_test h0 (by omega)]
  exact ⟨fun h => Or.inr h, fun h => h.resolve_left (by omega)⟩
theorem place_far {p : Nat} (h0 : p ≠ 0) (hp : isPow p = false) (hlt : p < 8192) : IsPlace (p - 1 - len p) p := by
 have h3 : 3 ≤ p := by
  rcases Nat.lt_or_ge p 3 with h | h
  ·obtain rfl | rfl : p = 1 ∨ p = 2 := by omega
   ·exact absurd hp (by decide)
   ·exact absurd hp (by decide)
  ·exact h
 obtain ⟨n, hn⟩ := place_of hp h3
 have := hn.2.1
 have e : p - 1 - len p = n := by omega
 rw [e]
 exact hn
theorem judge_ev {l : List Int} (hl : ∀ x ∈ l, 0 ≤ x ∧ x < 256) (hn : l.length ≤ 512) {w : Nat} (hw : w < 65536) : Ev (fun k => hamming_Judge.f k l (w : Int)) (judgeN (nats l) w) := by
 have hlen := nats_length l
 have hx := gx_lt (nats l) (8 * l.length) (by omega)
 have hwr := wrongN_lt (nats l) w
 have e1 : wrap64 (Go.bits .and .u16 (Go.bits .xor .u16 ((gx (nats l) (8 * l.length) : Nat) : Int) (w : Int)) 8191) = ((wrongN (nats l) w : Nat) : Int) := by
  have hxl : gx (nats l) (8 * l.length) ^^^ w < 65536 := Nat.xor_lt_two_pow (n := 16) (by omega) (by omega)
  have e := low_and (a := gx (nats l) (8 * l.length) ^^^ w) 13 8191 (by decide) hxl (by decide)
  rw [show ((8191 : Nat) : Int) = 8191 from rfl, show 2 ^ 13 = 8192 from rfl] at e
  rw [xor_u16 (by omega) hw, e, w64_id (by omega) (by omega)]
  unfold wrongN
  rw [hlen]
 have e2 : (go (nats l) (8 * l.length) != par (w % 16384)) = single (nats l) w := by
  unfold single
  rw [hlen]
 refine Ev.congr (fun k => by rw [hamming_Judge.f]) ?_
 refine Ev.neg (by omega) ?_
 refine Ev.bind (gather_ev hl (by omega)) ?_
 rw [not_pad hw]
 refine Ev.bindv (odd_eq (by omega)) ?_
 rw [e1, e2]
 clear e1 e2
 unfold judgeN
 rw [hlen]
 generalize wrongN (nats l) w = p at hwr ⊢
 cases hs : single (nats l) w
 ·refine Ev.neg (by decide) ?_
  rw [if_pos rfl]
  refine Ev.step (fun k => hamming_Judge.j0.eq_2 ..) ?_
  refine Ev.ite (fun h => Ev.ret ?_) (fun h => ?_)
  ·rw [if_pos (by have := beq_iff_eq.1 h; omega)]
  ·refine Ev.neg (by decide) (Ev.ret ?_)
   rw [if_neg (fun e => h (by rw [e]; rfl))]
 ·refine Ev.pos rfl ?_
  rw [if_neg (by decide)]
  refine Ev.step (fun k => hamming_Judge.j0.eq_2 ..) ?_
  refine Ev.neg (by decide) (Ev.pos rfl ?_)
  refine Ev.ite (fun h => Ev.ret ?_) (fun h => ?_)
  ·rw [if_pos ((pow_none hwr).1 h)]
  ·have h' : ¬ (p = 0 ∨ isPow p = true) := fun e => h ((pow_none hwr).2 e)
   rw [if_neg h']
   have hpl := place_far (fun e => h' (Or.inl e)) (by simpa using fun e => h' (Or.inr e)) hwr
   refine Ev.bind (bit_place hpl (by omega)) (Ev.pos rfl ?_)
   rw [w64_id (x := 8 * (l.length : Int)) (by omega) (by omega)]
   refine Ev.ite (fun h2 => Ev.ret ?_) (fun h2 => Ev.ret ?_)
   ·rw [if_pos (by omega)]
   ·rw [if_neg (by omega)]
end Go.Proofs.Ytmehbabchakkpaa.PurePageEmpty
namespace Go.Proofs.Ytmehbabchakkpaa.PurePageEmpty
open Go.RowKit QPageEmpty YtmehbabchakkpaaW.PrintWords EvKit BitsKit CrcMath NatKit BitsMath LenMath HamMath
end Go.Proofs.Ytmehbabchakkpaa.PurePageEmpty
namespace Go.Proofs.Ytmehbabchakkpaa.PurePageEmpty
open Go.RowKit QPageEmpty YtmehbabchakkpaaW.PrintWords YtmehbabchakkpaaW.PrintLast YtmehbabchakkpaaW.PrintMore EvKit BitsKit CrcMath NatKit BitsMath
theorem shl_one {r : Nat} (h : r < 8) : shl .u8 1 (r : Int) = ((2 ^ r : Nat) : Int) := by
 have : r = 0 ∨ r = 1 ∨ r = 2 ∨ r = 3 ∨ r = 4 ∨ r = 5 ∨ r = 6 ∨ r = 7 := by omega
 rcases this with rfl | rfl | rfl | rfl | rfl | rfl | rfl | rfl <;> decide
theorem flip_l0 {at_ : List Int} (ha : ∀ i ∈ at_, i ≤ 9223372036854775807) (hn : at_.length < 1000000) (d : Nat) : ∀ (i : Nat) (l : List Nat), i + d = at_.length → (∀ b ∈ l, b < 256) → l.length < 1000000 →
  Ev (fun k => bits_Flip.l0 k (ints l) at_ (at_.length : Int) (i : Int)) (ints (flips l (at_.drop i))) := by
 induction d with
 | zero =>
  intro i l hi hl hln
  refine Ev.step (fun k => bits_Flip.l0.eq_2 ..) ?_
  refine Ev.neg (by omega) (Ev.ret ?_)
  rw [List.drop_of_length_le (by omega)]
  rfl
 | succ d ih =>
  intro i l hi hl hln
  refine Ev.step (fun k => bits_Flip.l0.eq_2 ..) ?_
  refine Ev.pos (by omega) ?_
  refine Ev.pos (by omega) ?_
  refine Ev.pos (by omega) ?_
  have hmax := ha _ (rd_mem (l := at_) (i := (i : Int)) (by omega) (by omega))
  rw [drop_rd (l := at_) (i := i) (by omega), w64_succ (by omega)]
  have next := fun v => ih (i + 1) (flip1 l v) (by omega) (flip1_lt hl v) (by rw [flip1_length]; exact hln)
  generalize rd at_ (i : Int) = a at hmax ⊢
  have next := next a
  show Ev _ (ints (flips (flip1 l a) (at_.drop (i + 1))))
  have hself : ¬ (0 ≤ a ∧ a / 8 < (l.length : Int)) → flip1 l a = l := fun h => by unfold flip1; rw [if_neg h]
  refine Ev.ite (fun h0 => ?_) (fun h0 => ?_)
  ·obtain ⟨m, rfl⟩ := Int.eq_ofNat_of_zero_le h0
   have hw : wrap64 (Int.tdiv (m : Int) 8) = ((m / 8 : Nat) : Int) := by
    rw [Int.tdiv_eq_ediv_of_nonneg h0]
    exact w64_id (by omega) (by omega)
   have hs : IntKind.u64.wrap (Int.tmod (m : Int) 8) = ((m % 8 : Nat) : Int) := by
    rw [Int.tmod_eq_emod_of_nonneg h0]
    exact w_u64 _ (by omega) (by omega)
   rw [hw, hs, ints_length]
   clear hw hs
   refine Ev.ite (fun h1 => ?_) (fun h1 => ?_)
   ·refine Ev.pos (by omega) ?_
    refine Ev.pos (by omega) ?_
    have hlt : m / 8 < l.length := by omega
    have hb := hl _ (List.getElem_mem hlt)
    have hp : 2 ^ (m % 8) < 256 := Nat.pow_lt_pow_right (n := 8) (a := 2) (by decide) (Nat.mod_lt _ (by decide))
    rw [rd_ints_lt hlt, shl_one (Nat.mod_lt _ (by decide)), xor_u8 hb hp, Int.toNat_natCast, ints_set]
    have e : flip1 l (m : Int) = l.set (m / 8) (l[m / 8] ^^^ 2 ^ (m % 8)) := by
     unfold flip1
     rw [if_pos (by omega), Int.toNat_natCast, List.getD_eq_getElem?_getD, List.getElem?_eq_getElem hlt, Option.getD_some]
    rw [← e]
    exact next
   ·rw [hself (by omega)] at next ⊢
    exact next
  ·rw [hself (by omega)] at next ⊢
   exact next
theorem flip_ev {l at_ : List Int} (hl : ∀ x ∈ l, 0 ≤ x ∧ x < 256) (hln : l.length < 1000000) (ha : ∀ i ∈ at_, i ≤ 9223372036854775807) (hn : at_.length < 1000000) : Ev (fun k => bits_Flip.f k l at_) (ints (flips (nats l) at_)) := by
 refine Ev.congr (fun k => by rw [bits_Flip.f]) ?_
 refine Ev.bindv (a := l) ?_ ?_
 ·unfold slices_Clone_byte_byte.f
  rw [if_pos (by omega)]
 ·have := flip_l0 ha hn at_.length 0 (nats l) (by omega) (nats_lt hl) (by rw [nats_length]; exact hln)
  rw [ints_nats fun x hx => (hl x hx).1] at this
  exact this
end Go.Proofs.Ytmehbabchakkpaa.PurePageEmpty
namespace Go.Proofs.Ytmehbabchakkpaa.ChunkMath
open Go.RowKit CrcMath BitsMath LenMath HamMath
def encW (l : List Nat) (w : Nat) : List Nat := l ++ [w % 256, w / 256]
theorem encW_length (l : List Nat) (w : Nat) : (encW l w).length = l.length + 2 := by
 unfold encW
 rw [List.length_append]
 rfl
theorem encW_lt {l : List Nat} {w : Nat} (h : ∀ b ∈ l, b < 256) (hw : w < 65536) : ∀ b ∈ encW l w, b < 256 := by
 intro b hb
 unfold encW at hb
 rcases List.mem_append.1 hb with hb | hb
 ·exact h b hb
 ·simp only [List.mem_cons, List.not_mem_nil, or_false] at hb
  omega
end Go.Proofs.Ytmehbabchakkpaa.ChunkMath
namespace Go.Proofs.Ytmehbabchakkpaa.PurePageEmpty
open Go.RowKit QPageEmpty YtmehbabchakkpaaW.PrintWords YtmehbabchakkpaaW.PrintLast YtmehbabchakkpaaW.PrintMore EvKit BitsKit CrcMath NatKit BitsMath LenMath HamMath ChunkMath
def encN (l : List Nat) : List Nat := encW l (wordN l)
theorem encode_ev {l : List Int} (hl : ∀ x ∈ l, 0 ≤ x ∧ x < 256) (h0 : 0 < l.length) (hn : l.length ≤ 512) : Ev (fun k => chunk_Encode.f k l) (ints (encN (nats l)), 0) := by
 have hw := wordN_lt (l := nats l) (by rw [nats_length]; omega)
 refine Ev.congr (fun k => by rw [chunk_Encode.f]) ?_
 refine Ev.neg (by omega) ?_
 rw [decide_eq_false (by omega)]
 refine Ev.step (fun k => chunk_Encode.j0.eq_2 ..) ?_
 refine Ev.neg (by decide) ?_
 refine Ev.bind (word_ev hl hn) (Ev.pos rfl ?_)
 generalize hww : wordN (nats l) = w at hw ⊢
 refine Ev.bindv rfl (Ev.pos (by rw [List.length_nil]; omega) (Ev.bindv rfl (Ev.bindv rfl (Ev.pos ?_ (Ev.ret ?_)))))
 ·rw [List.nil_append, List.length_cons, List.length_singleton]
  omega
 ·unfold encN encW
  rw [hww, List.nil_append]
  have e : ints (nats l ++ [w % 256, w / 256]) = l ++ [((w % 256 : Nat) : Int), ((w / 256 : Nat) : Int)] := by
   unfold ints
   rw [List.map_append]
   have h := ints_nats (l := l) fun x hx => (hl x hx).1
   unfold ints at h
   rw [h]
   rfl
  rw [e, show (w : Int) % 256 = ((w % 256 : Nat) : Int) from by omega, show (w : Int) / 256 % 256 = ((w / 256 : Nat) : Int) from by omega]
def decOf (d : List Nat) (j : Int × Int × Int) : List Int × Int × Int :=
 if j.1 = 0 then (ints d, 0, 0) else if j.1 = 1 then (ints (flips d [j.2.1]), 1, 0) else if j.1 = 2 then (ints d, 1, 0) else ([], 0, 14)
def decN (r : List Nat) : List Int × Int × Int :=
 if r.length < 3 ∨ 514 < r.length then ([], 0, 2) else decOf (r.take (r.length - 2)) (judgeN (r.take (r.length - 2)) (r.getD (r.length - 2) 0 + 256 * r.getD (r.length - 1) 0))
theorem or_word {a b : Nat} (ha : a < 256) (hb : b < 256) : Go.bits .or .u16 (IntKind.u16.wrap (a : Int)) (IntKind.u16.wrap (IntKind.u16.wrap (b : Int) * 256)) = ((a + 256 * b : Nat) : Int) := by
 rw [w_u16 (a : Int) (by omega) (by omega), w_u16 (b : Int) (by omega) (by omega), w_u16 _ (by omega) (by omega), show (b : Int) * 256 = ((256 * b : Nat) : Int) by omega, or_u16 (by omega) (by omega)]
 have := Nat.two_pow_add_eq_or_of_lt (i := 8) (b := a) (by omega) b
 rw [show 2 ^ 8 = 256 from rfl] at this
 rw [Nat.or_comm, ← this, Nat.add_comm]
theorem judgeN_states (l : List Nat) (w : Nat) : (judgeN l w).2.2 = 0 ∧ ((judgeN l w).1 = 0 ∨ (judgeN l w).1 = 1 ∨ (judgeN l w).1 = 2 ∨ (judgeN l w).1 = 3) ∧ (judgeN l w).2.1 ≤ 8192 := by
 have := wrongN_lt l w
 unfold judgeN
 split
 ·split
  ·exact ⟨rfl, Or.inl rfl, by show (0 : Int) ≤ 8192; omega⟩
  ·exact ⟨rfl, Or.inr (Or.inr (Or.inr rfl)), by show (0 : Int) ≤ 8192; omega⟩
 ·split
  ·exact ⟨rfl, Or.inr (Or.inr (Or.inl rfl)), by show (0 : Int) ≤ 8192; omega⟩
  ·split
   ·refine ⟨rfl, Or.inr (Or.inl rfl), ?_⟩
    show ((wrongN l w - 1 - len (wrongN l w) : Nat) : Int) ≤ 8192
    omega
   ·exact ⟨rfl, Or.inr (Or.inr (Or.inr rfl)), by show (0 : Int) ≤ 8192; omega⟩
theorem decode_ev {r : List Int} (hr : ∀ x ∈ r, 0 ≤ x ∧ x < 256) (hn : r.length < 1000000) : Ev (fun k => chunk_Decode.f k r) (decN (nats r)) := by
 have hlen := nats_length r
 have e1 : wrap64 ((r.length : Int) - 2) = (r.length : Int) - 2 := w64_id (by omega) (by omega)
 refine Ev.congr (fun k => by rw [chunk_Decode.f]) ?_
 rw [e1]
 clear e1
 unfold decN
 rw [hlen]
 have hj : Ev (fun k => chunk_Decode.j0 k r ((r.length : Int) - 2) true) ([], 0, 2) := Ev.step (fun k => chunk_Decode.j0.eq_2 ..) (Ev.pos rfl (Ev.ret rfl))
 refine Ev.ite (fun h => ?_) (fun h => ?_)
 ·rw [if_pos (by omega)]
  exact hj
 by_cases h512 : (r.length : Int) - 2 > 512
 ·rw [decide_eq_true h512, if_pos (by omega)]
  exact hj
 rw [decide_eq_false h512, if_neg (by omega)]
 clear hj
 obtain ⟨n, hn2⟩ : ∃ n, r.length = n + 2 := ⟨r.length - 2, by omega⟩
 have e2 : (r.length : Int) - 2 = (n : Int) := by omega
 rw [e2, hn2, show n + 2 - 2 = n by omega, show n + 2 - 1 = n + 1 by omega]
 refine Ev.step (fun k => chunk_Decode.j0.eq_2 ..) ?_
 refine Ev.neg (by decide) ?_
 try refine Ev.step (fun k => chunk_Decode.j1.eq_2 ..) ?_
 rw [w64_succ (by omega), Int.toNat_natCast]
 refine (Ev.pos (by omega) (Ev.pos (by omega) (Ev.pos (by omega) (Ev.pos (by omega) (Ev.pos (by omega) ?_)))))
 have b1 := hr _ (rd_mem (l := r) (i := (n : Int)) (by omega) (by omega))
 have b2 := hr _ (rd_mem (l := r) (i := ((n + 1 : Nat) : Int)) (by omega) (by omega))
 have r1 := rd_nats (l := r) (fun x hx => (hr x hx).1) n
 have r2 := rd_nats (l := r) (fun x hx => (hr x hx).1) (n + 1)
 rw [r1] at b1 ⊢
 rw [r2] at b2 ⊢
 rw [or_word (by omega) (by omega)]
 have hd : ∀ x ∈ r.take n, 0 ≤ x ∧ x < 256 := fun x hx => hr x (List.mem_of_mem_take hx)
 have hdl : (r.take n).length = n := by rw [List.length_take]; omega
 refine Ev.bind (judge_ev hd (by omega) (by omega)) ?_
 rw [nats_take]
 have hst := judgeN_states ((nats r).take n) ((nats r).getD n 0 + 256 * (nats r).getD (n + 1) 0)
 generalize judgeN ((nats r).take n) ((nats r).getD n 0 + 256 * (nats r).getD (n + 1) 0) = j at hst ⊢
 obtain ⟨s, b, e⟩ := j
 obtain ⟨h1, h2, h3⟩ := hst
 dsimp only at h1 h2 h3 ⊢
 refine Ev.pos h1 ?_
 try refine Ev.step (fun k => chunk_Decode.j2.eq_2 ..) ?_
 try rw [Int.toNat_natCast]
 unfold decOf
 have hf0 := flip_ev (l := r.take n) (at_ := []) hd (by omega) (by intro i hi; exact absurd hi (by simp)) (by simp)
 have hf1 := flip_ev (l := r.take n) (at_ := [b]) hd (by omega) (by intro i hi; rw [List.mem_singleton.1 hi]; omega) (by simp)
 rw [nats_take] at hf0 hf1
 dsimp only
 refine Ev.ite (fun hs => ?_) (fun hs => ?_)
 ·rw [if_pos hs]
  first | exact Ev.bind hf0 (Ev.ret rfl) | exact Ev.pos (by omega) (Ev.pos (by omega) (Ev.bind hf0 (Ev.ret rfl)))
 rw [if_neg hs]
 refine Ev.ite (fun hs => ?_) (fun hs => ?_)
 ·rw [if_pos hs]
  first | exact Ev.bind hf1 (Ev.ret rfl) | exact Ev.pos (by omega) (Ev.pos (by omega) (Ev.bind hf1 (Ev.ret rfl)))
 rw [if_neg hs]
 refine Ev.ite (fun hs => ?_) (fun hs => ?_)
 ·rw [if_pos hs]
  first | exact Ev.bind hf0 (Ev.ret rfl) | exact Ev.pos (by omega) (Ev.pos (by omega) (Ev.bind hf0 (Ev.ret rfl)))
 rw [if_neg hs]
 exact Ev.ret rfl
end Go.Proofs.Ytmehbabchakkpaa.PurePageEmpty
namespace Go.Proofs.Ytmehbabchakkpaa.PurePageEmpty
open Go.RowKit QPageEmpty YtmehbabchakkpaaW.PrintWords YtmehbabchakkpaaW.PrintLast YtmehbabchakkpaaW.PrintMore EvKit BitsKit CrcMath NatKit BitsMath
theorem ones_eq {b : Nat} (hb : b < 256) : bits_OnesCount8.f (b : Int) = some ((ones b : Nat) : Int) := by
 unfold bits_OnesCount8.f
 rw [if_pos (by omega), if_pos (by omega)]
 congr 1
 rw [ones_table b hb]
 have key : ∀ b : Nat, b < 256 → bt (⟨#[0, 1, 1, 2, 1, 2, 2, 3, 1, 2, 2, 3, 2, 3, 3, 4, 1, 2, 2, 3, 2, 3, 3, 4, 2, 3, 3, 4, 3, 4, 4, 5, 1, 2, 2, 3, 2, 3, 3, 4, 2, 3, 3, 4, 3, 4, 4, 5, 2, 3, 3, 4, 3, 4, 4, 5, 3, 4, 4, 5, 4, 5, 5, 6, 1, 2, 2, 3, 2, 3, 3, 4, 2, 3, 3, 4, 3, 4, 4, 5, 2, 3, 3, 4, 3, 4, 4, 5, 3, 4, 4, 5, 4, 5, 5, 6, 2, 3, 3, 4, 3, 4, 4, 5, 3, 4, 4, 5, 4, 5, 5, 6, 3, 4, 4, 5, 4, 5, 5, 6, 4, 5, 5, 6, 5, 6, 6, 7, 1, 2, 2, 3, 2, 3, 3, 4, 2, 3, 3, 4, 3, 4, 4, 5, 2, 3, 3, 4, 3, 4, 4, 5, 3, 4, 4, 5, 4, 5, 5, 6, 2, 3, 3, 4, 3, 4, 4, 5, 3, 4, 4, 5, 4, 5, 5, 6, 3, 4, 4, 5, 4, 5, 5, 6, 4, 5, 5, 6, 5, 6, 6, 7, 2, 3, 3, 4, 3, 4, 4, 5, 3, 4, 4, 5, 4, 5, 5, 6, 3, 4, 4, 5, 4, 5, 5, 6, 4, 5, 5, 6, 5, 6, 6, 7, 3, 4, 4, 5, 4, 5, 5, 6, 4, 5, 5, 6, 5, 6, 6, 7, 4, 5, 5, 6, 5, 6, 6, 7, 5, 6, 6, 7, 6, 7, 7, 8]⟩ : ByteArray) (b : Int) = (([0, 1, 1, 2, 1, 2, 2, 3, 1, 2, 2, 3, 2, 3, 3, 4, 1, 2, 2, 3, 2, 3, 3, 4, 2, 3, 3, 4, 3, 4, 4, 5, 1, 2, 2, 3, 2, 3, 3, 4, 2, 3, 3, 4, 3, 4, 4, 5, 2, 3, 3, 4, 3, 4, 4, 5, 3, 4, 4, 5, 4, 5, 5, 6, 1, 2, 2, 3, 2, 3, 3, 4, 2, 3, 3, 4, 3, 4, 4, 5, 2, 3, 3, 4, 3, 4, 4, 5, 3, 4, 4, 5, 4, 5, 5, 6, 2, 3, 3, 4, 3, 4, 4, 5, 3, 4, 4, 5, 4, 5, 5, 6, 3, 4, 4, 5, 4, 5, 5, 6, 4, 5, 5, 6, 5, 6, 6, 7, 1, 2, 2, 3, 2, 3, 3, 4, 2, 3, 3, 4, 3, 4, 4, 5, 2, 3, 3, 4, 3, 4, 4, 5, 3, 4, 4, 5, 4, 5, 5, 6, 2, 3, 3, 4, 3, 4, 4, 5, 3, 4, 4, 5, 4, 5, 5, 6, 3, 4, 4, 5, 4, 5, 5, 6, 4, 5, 5, 6, 5, 6, 6, 7, 2, 3, 3, 4, 3, 4, 4, 5, 3, 4, 4, 5, 4, 5, 5, 6, 3, 4, 4, 5, 4, 5, 5, 6, 4, 5, 5, 6, 5, 6, 6, 7, 3, 4, 4, 5, 4, 5, 5, 6, 4, 5, 5, 6, 5, 6, 6, 7, 4, 5, 5, 6, 5, 6, 6, 7, 5, 6, 6, 7, 6, 7, 7, 8].getD b 0 : Nat) : Int) := by
  decide +kernel
 rw [key b hb]
 have h8 := ones_le b
 rw [ones_table b hb] at h8
 exact w64_id (by omega) (by omega)
theorem count_l0 {l : List Int} (hl : ∀ x ∈ l, 0 ≤ x ∧ x < 256) (hn : l.length < 1000000) (d : Nat) : ∀ (n i : Nat), i + d = l.length → n ≤ 8 * i → Ev (fun k => bits_Count.l0 k (n : Int) l (l.length : Int) (i : Int)) ((n + count ((nats l).drop i) : Nat) : Int) := by
 induction d with
 | zero =>
  intro n i hi h8
  refine Ev.step (fun k => bits_Count.l0.eq_2 ..) ?_
  refine Ev.neg (by omega) (Ev.ret ?_)
  rw [List.drop_of_length_le (by rw [nats_length]; omega)]
  rfl
 | succ d ih =>
  intro n i hi h8
  have hx := hl _ (rd_mem (l := l) (i := (i : Int)) (by omega) (by omega))
  have hr := rd_nats (l := l) (fun x hx => (hl x hx).1) i
  have hb : (nats l).getD i 0 < 256 := by omega
  have ho := ones_le ((nats l).getD i 0)
  refine Ev.step (fun k => bits_Count.l0.eq_2 ..) ?_
  refine Ev.pos (by omega) ?_
  refine Ev.pos (by omega) ?_
  refine Ev.pos (by omega) ?_
  rw [hr]
  refine Ev.bindv (ones_eq hb) ?_
  clear hr hx
  rw [w64_id (by omega) (by omega), w64_succ (by omega), ← Int.natCast_add]
  refine Ev.eq (ih _ (i + 1) (by omega) (by omega)) ?_
  have hj' : i < (nats l).length := by rw [nats_length]; omega
  rw [List.drop_eq_getElem_cons hj']
  have e : (nats l).getD i 0 = (nats l)[i] := by rw [List.getD_eq_getElem?_getD, List.getElem?_eq_getElem hj']; rfl
  rw [e]
  unfold count
  rw [List.map_cons, List.sum_cons, Nat.add_assoc]
theorem count_ev {l : List Int} (hl : ∀ x ∈ l, 0 ≤ x ∧ x < 256) (hn : l.length < 1000000) : Ev (fun k => bits_Count.f k l) ((count (nats l) : Nat) : Int) := by
 refine Ev.congr (fun k => by rw [bits_Count.f]) ?_
 refine Ev.eq (count_l0 hl hn l.length 0 0 (by omega) (by omega)) ?_
 simp
theorem zeros_ev {l : List Int} (hl : ∀ x ∈ l, 0 ≤ x ∧ x < 256) (hn : l.length < 1000000) : Ev (fun k => bits_Zeros.f k l) ((8 * l.length - count (nats l) : Nat) : Int) := by
 refine Ev.congr (fun k => by rw [bits_Zeros.f]) ?_
 refine Ev.bind (count_ev hl hn) (Ev.ret ?_)
 have := count_le (nats l)
 rw [nats_length] at this
 rw [w64_id (x := 8 * (l.length : Int)) (by omega) (by omega), w64_id (by omega) (by omega)]
 omega
end Go.Proofs.Ytmehbabchakkpaa.PurePageEmpty
namespace Go.Proofs.Ytmehbabchakkpaa.PurePageEmpty
open Go.RowKit QPageEmpty YtmehbabchakkpaaW.PrintWords YtmehbabchakkpaaW.PrintLast YtmehbabchakkpaaW.PrintMore EvKit PackMath TagMath CrcMath NatKit BitsMath ChunkMath
def encI (l : List Int) : List Int := ints (encN (nats l))
theorem encI_len (l : List Int) : (encI l).length = l.length + 2 := by
 unfold encI ints encN
 rw [List.length_map, encW_length, nats_length]
def cutG (b : List Int) (S i : Nat) : List Int := (b.take ((i + 1) * S)).drop (i * S)
theorem cutG_le (b : List Int) (S i : Nat) : (cutG b S i).length ≤ S := by
 unfold cutG
 rw [List.length_drop, List.length_take, Nat.succ_mul]
 omega
theorem cutG_len {b : List Int} {S i : Nat} (h : (i + 1) * S ≤ b.length) : (cutG b S i).length = S := by
 unfold cutG
 rw [List.length_drop, List.length_take, Nat.min_eq_left h, Nat.succ_mul]
 omega
def chunksP (b : List Int) (S i : Nat) : List Int := (List.range i).flatMap fun j => encI (cutG b S j)
theorem chunksP_succ (b : List Int) (S i : Nat) : chunksP b S (i + 1) = chunksP b S i ++ encI (cutG b S i) := by
 unfold chunksP
 rw [List.range_succ, List.flatMap_append]
 simp
theorem chunksP_le (b : List Int) {S : Nat} (hS : S ≤ 512) : ∀ i, (chunksP b S i).length ≤ 600 * i
 | 0 => Nat.le_refl _
 | i + 1 => by
  have := chunksP_le b hS i
  have h2 := cutG_le b S i
  rw [chunksP_succ, List.length_append, encI_len]
  omega
def tailP (b t : List Int) : List Int := encI (t ++ four (CrcMath.sum (nats (b ++ t)))) ++ [255]
def rawP (b : List Int) (S C : Nat) (t : List Int) : List Int := chunksP b S C ++ tailP b t
theorem wmul {i S : Nat} (h : i * S ≤ 100000) : wrap64 ((i : Int) * (S : Int)) = ((i * S : Nat) : Int) := by
 rw [← Int.natCast_mul]
 exact w64_id (by omega) (by omega)
theorem sub_byte {b c : List Int} (hb : ∀ x ∈ b, 0 ≤ x ∧ x < 256) (h : ∀ x ∈ c, x ∈ b) : ∀ x ∈ c, 0 ≤ x ∧ x < 256 := fun x hx => hb x (h x hx)
theorem cutG_byte {b : List Int} (hb : ∀ x ∈ b, 0 ≤ x ∧ x < 256) (S i : Nat) : ∀ x ∈ cutG b S i, 0 ≤ x ∧ x < 256 := sub_byte hb fun _ hx => List.mem_of_mem_take (List.mem_of_mem_drop hx)
theorem app_byte {a b : List Int} (ha : ∀ x ∈ a, 0 ≤ x ∧ x < 256) (hb : ∀ x ∈ b, 0 ≤ x ∧ x < 256) : ∀ x ∈ a ++ b, 0 ≤ x ∧ x < 256 := fun x hx => by
 rcases List.mem_append.1 hx with h | h
 ·exact ha x h
 ·exact hb x h
theorem page_l0 {b t : List Int} {S C : Nat} {q0 q1 q2 q5 q6 q7 : Int} (hb : ∀ x ∈ b, 0 ≤ x ∧ x < 256) (ht : ∀ x ∈ t, 0 ≤ x ∧ x < 256) (htl : t.length = 24) (hS0 : 4 ≤ S) (hS : S ≤ 512) (hC : C ≤ 16) (hl : b.length = C * S) (d : Nat) : ∀ i : Nat, i + d = C →
  Ev (fun k => page_Encode.l0 k b t (chunksP b S i) (C : Int) (i : Int) q0 q1 q2 (C : Int) (S : Int) q5 q6 q7) (rawP b S C t, 0) := by
 have hbl : b.length ≤ 8192 := by
  rw [hl]
  exact Nat.mul_le_mul hC hS
 induction d with
 | zero =>
  intro i hi
  have hlen := chunksP_le b hS i
  obtain rfl : i = C := by omega
  refine Ev.step (fun k => page_Encode.l0.eq_2 ..) ?_
  refine Ev.neg (by omega) ?_
  have hs := sum_ev (ls := [b, t]) (fun l hl => by
   rcases List.mem_cons.1 hl with rfl | hl
   ·exact hb
   ·rcases List.mem_cons.1 hl with rfl | hl
    ·exact ht
    ·cases hl) (by show 2 < 1000000000; decide) (fun l hl => by
   rcases List.mem_cons.1 hl with rfl | hl
   ·omega
   ·rcases List.mem_cons.1 hl with rfl | hl
    ·omega
    ·cases hl)
  have ef : [b, t].flatten = b ++ t := by simp
  rw [ef] at hs
  refine Ev.bind hs (Ev.bind (bytes_ev _) ?_)
  unfold rawP tailP
  generalize hn : four (CrcMath.sum (nats (b ++ t))) = f
  have hfl : f.length = 4 := by rw [← hn]; rfl
  have hfb : ∀ x ∈ f, 0 ≤ x ∧ x < 256 := by rw [← hn]; exact four_byte _
  refine Ev.pos (by omega) ?_
  refine Ev.bind (encode_ev (l := t ++ f) (app_byte ht hfb) (by rw [List.length_append]; omega) (by rw [List.length_append]; omega)) ?_
  have he : (encI (t ++ f)).length = 30 := by rw [encI_len, List.length_append]; omega
  refine Ev.pos (by show (chunksP b S i).length + (encI (t ++ f)).length < _; omega) (Ev.bindv rfl (Ev.pos ?_ (Ev.ret ?_)))
  ·show (chunksP b S i ++ encI (t ++ f)).length < _
   rw [List.length_append]
   omega
  ·show (chunksP b S i ++ encI (t ++ f) ++ [255], (0 : Int)) = _
   rw [List.append_assoc]
 | succ d ih =>
  intro i hi
  have h2 : (i + 1) * S ≤ C * S := Nat.mul_le_mul_right S (by omega)
  have h1 : i * S ≤ (i + 1) * S := Nat.mul_le_mul_right S (by omega)
  have hlen := chunksP_le b hS i
  have hcl := cutG_len (b := b) (S := S) (i := i) (by omega)
  have b1 : i * S ≤ 100000 := by omega
  have b2 : (i + 1) * S ≤ 100000 := by omega
  have b3 : i < 9000000000000000000 := by omega
  have e1 : wrap64 ((i : Int) * (S : Int)) = ((i * S : Nat) : Int) := wmul b1
  have e2 : wrap64 (wrap64 ((i : Int) + 1) * (S : Int)) = (((i + 1) * S : Nat) : Int) := by
   rw [w64_succ b3]
   exact wmul b2
  have e3 : wrap64 ((i : Int) + 1) = ((i + 1 : Nat) : Int) := w64_succ b3
  refine Ev.step (fun k => page_Encode.l0.eq_2 ..) ?_
  refine Ev.pos (by omega) ?_
  refine Ev.step (fun k => page_Encode.j3.eq_2 ..) ?_
  rw [e1, e2, e3, Int.toNat_natCast, Int.toNat_natCast]
  clear e1 e2 e3
  refine Ev.pos (by omega) (Ev.pos (by omega) (Ev.pos (by omega) ?_))
  refine Ev.bind (encode_ev (l := cutG b S i) (cutG_byte hb S i) (by omega) (by omega)) ?_
  have he := encI_len (cutG b S i)
  refine Ev.pos (by show (chunksP b S i).length + (encI (cutG b S i)).length < _; omega) ?_
  have e := ih (i + 1) (by omega)
  rw [chunksP_succ] at e
  exact e
end Go.Proofs.Ytmehbabchakkpaa.PurePageEmpty
namespace Go.Proofs.Ytmehbabchakkpaa.PurePageEmpty
open Go.RowKit QPageEmpty YtmehbabchakkpaaW.PrintWords YtmehbabchakkpaaW.PrintLast YtmehbabchakkpaaW.PrintMore EvKit PackMath TagMath CrcMath NatKit BitsMath ChunkMath
theorem tag_fits {a b c d : Int} (h : mayTag a b c d = true) : ∃ x, pkPut sizes [0, a, b, c, d, 0] = (x, 0) ∧ x.length = 24 ∧ ∀ y ∈ x, 0 ≤ y ∧ y < 256 := by
 simp only [mayTag, between, Bool.and_eq_true, decide_eq_true_eq] at h
 have hok : okSizes sizes = true := by decide
 have p2 : (256 : Int) ^ (2 : Int).toNat = 65536 := by decide
 have p1 : (256 : Int) ^ (1 : Int).toNat = 256 := by decide
 have p4 : (256 : Int) ^ (4 : Int).toNat = 4294967296 := by decide
 have p8 : (256 : Int) ^ (8 : Int).toNat = 18446744073709551616 := by decide
 have p5 : (256 : Int) ^ (5 : Int).toNat = 1099511627776 := by decide
 have f0 : pkFits 0 2 = true := by decide
 have f1 : pkFits a 1 = true := fits_iff.2 ⟨by decide, by decide, by omega, by omega, by rw [p1]; omega⟩
 have f2 : pkFits b 4 = true := fits_iff.2 ⟨by decide, by decide, by omega, by omega, by rw [p4]; omega⟩
 have f3 : pkFits c 8 = true := fits_iff.2 ⟨by decide, by decide, by omega, by omega, by rw [p8]; omega⟩
 have f4 : pkFits d 4 = true := fits_iff.2 ⟨by decide, by decide, by omega, by omega, by rw [p4]; omega⟩
 have f5 : pkFits 0 5 = true := by decide
 have e : ∃ x, putGo sizes [0, a, b, c, d, 0] = some x := by
  simp only [sizes, putGo, f0, f1, f2, f3, f4, f5, if_true]
  exact ⟨_, rfl⟩
 obtain ⟨x, hx⟩ := e
 have e2 : pkPut sizes [0, a, b, c, d, 0] = (x, 0) := by
  unfold pkPut
  rw [if_pos hok, hx]
  simp [endPut]
 obtain ⟨_, _, b3, b4, _⟩ := back_put e2
 have hs : sizes.sum = 24 := by decide
 exact ⟨x, e2, by omega, b3⟩
def encP (b : List Int) (a0 a1 a2 a3 a4 a5 a6 t0 t1 t2 t3 : Int) : List Int × Int :=
 if okG a0 a1 a2 a3 a4 a5 a6 ∧ mayTag t0 t1 t2 t3 = true ∧ (b.length : Int) = a3 * a4 then (rawP b a4.toNat a3.toNat (pkPut sizes [0, t0, t1, t2, t3, 0]).1, 0) else ([], 2)
theorem pe_ev {b : List Int} (hb : ∀ x ∈ b, 0 ≤ x ∧ x < 256) (a0 a1 a2 a3 a4 a5 a6 t0 t1 t2 t3 : Int) : Ev (fun k => page_Encode.f k a0 a1 a2 a3 a4 a5 a6 b t0 t1 t2 t3) (encP b a0 a1 a2 a3 a4 a5 a6 t0 t1 t2 t3) := by
 refine Ev.congr (fun k => by rw [page_Encode.f]) ?_
 refine Ev.bindv of_eq (Ev.bind (tput_ev t0 t1 t2 t3) ?_)
 dsimp only
 have hbad : ∀ (x : List Int) (q0 q1 q2 q3 q4 q5 q6 q7 : Int), ¬ (okG a0 a1 a2 a3 a4 a5 a6 ∧ mayTag t0 t1 t2 t3 = true ∧ (b.length : Int) = a3 * a4) → Ev (fun k => page_Encode.j0 k b x true q0 q1 q2 q3 q4 q5 q6 q7) (encP b a0 a1 a2 a3 a4 a5 a6 t0 t1 t2 t3) := fun x q0 q1 q2 q3 q4 q5 q6 q7 h => by
  refine Ev.step (fun k => page_Encode.j0.eq_2 ..) (Ev.pos rfl (Ev.ret ?_))
  unfold encP
  rw [if_neg h]
 by_cases hg : okG a0 a1 a2 a3 a4 a5 a6
 ·refine Ev.pos (decide_eq_true hg) ?_
  by_cases hm : mayTag t0 t1 t2 t3 = true
  ·obtain ⟨x, hx, hxl, hxb⟩ := tag_fits hm
   have hp : putTag t0 t1 t2 t3 = (x, 0) := by
    unfold putTag
    rw [if_pos hm, hx]
   rw [hp]
   refine Ev.pos rfl (Ev.bindv (data_eq hg) ?_)
   by_cases hl : (b.length : Int) = a3 * a4
   ·have e : ((b.length : Int) != a3 * a4) = false := bne_eq_false_iff_eq.2 hl
    rw [e]
    refine Ev.step (fun k => page_Encode.j0.eq_2 ..) (Ev.neg (by decide) ?_)
    refine Ev.step (fun k => page_Encode.j1.eq_2 ..) ?_
    unfold encP
    rw [if_pos ⟨hg, hm, hl⟩, hx]
    obtain ⟨h3, h4⟩ := okG_bounds hg
    obtain ⟨C, rfl⟩ := Int.eq_ofNat_of_zero_le (a := a3) (by omega)
    obtain ⟨S, rfl⟩ := Int.eq_ofNat_of_zero_le (a := a4) (by omega)
    rw [Int.toNat_natCast, Int.toNat_natCast]
    have hbl : b.length = C * S := by
     rw [← Int.natCast_mul] at hl
     exact_mod_cast hl
    exact page_l0 hb hxb hxl (by omega) (by omega) (by omega) hbl C 0 (by omega)
   ·have e : ((b.length : Int) != a3 * a4) = true := bne_iff_ne.2 hl
    rw [e]
    exact hbad _ _ _ _ _ _ _ _ _ (fun z => hl z.2.2)
  ·have hp : putTag t0 t1 t2 t3 = ([], 2) := by
    unfold putTag
    rw [if_neg hm]
   rw [hp]
   exact Ev.neg (by decide) (hbad _ _ _ _ _ _ _ _ _ (fun z => hm z.2.1))
 ·rw [decide_eq_false hg]
  exact Ev.neg (by decide) (hbad _ _ _ _ _ _ _ _ _ (fun z => hg z.1))
theorem page_awake_ev : Ev (fun k => l08_awake.f k) true := by
 refine Ev.congr (fun k => by rw [l08_awake.f]) ?_
 have hg : okG 1 2 4 1 4 1 1 := by decide
 have e : encP [1, 2, 3, 4] 1 2 4 1 4 1 1 1 0 0 0 = (rawP [1, 2, 3, 4] 4 1 (pkPut sizes [0, 1, 0, 0, 0, 0]).1, 0) := by
  unfold encP
  rw [if_pos ⟨hg, by decide, by decide⟩]
  rfl
 have hl : (rawP [1, 2, 3, 4] 4 1 (pkPut sizes [0, 1, 0, 0, 0, 0]).1).length = 37 := by decide +kernel
 have hr : rd (rawP [1, 2, 3, 4] 4 1 (pkPut sizes [0, 1, 0, 0, 0, 0]).1) 36 = 255 := by decide +kernel
 refine Ev.bind (pe_ev (b := [1, 2, 3, 4]) (by decide) 1 2 4 1 4 1 1 1 0 0 0) ?_
 rw [e]
 dsimp only
 rw [hl, hr]
 exact Ev.pos rfl (Ev.pos rfl (Ev.pos (by decide) (Ev.ret rfl)))
theorem erased_l0 (d : Nat) : ∀ i : Nat, i + d ≤ 10000 → Ev (fun k => page_Erased.l0 k (List.replicate i 255 ++ List.replicate d 0) ((i + d : Nat) : Int) (i : Int)) (List.replicate (i + d) 255) := by
 induction d with
 | zero =>
  intro i hi
  refine Ev.step (fun k => page_Erased.l0.eq_2 ..) ?_
  refine Ev.neg (by omega) (Ev.ret ?_)
  rw [List.replicate_zero, List.append_nil]
  rfl
 | succ d ih =>
  intro i hi
  refine Ev.step (fun k => page_Erased.l0.eq_2 ..) ?_
  have hl : (List.replicate i (255 : Int) ++ List.replicate (d + 1) 0).length = i + (d + 1) := by rw [List.length_append, List.length_replicate, List.length_replicate]
  refine Ev.pos (by omega) (Ev.pos (by omega) (Ev.pos (by omega) ?_))
  have hs : (List.replicate i (255 : Int) ++ List.replicate (d + 1) 0).set i 255 = List.replicate (i + 1) 255 ++ List.replicate d 0 := by
   have r1 : List.replicate (d + 1) (0 : Int) = 0 :: List.replicate d 0 := List.replicate_succ
   have r2 : List.replicate (i + 1) (255 : Int) = List.replicate i 255 ++ [255] := List.replicate_succ'
   rw [r1, r2, List.append_assoc]
   simp
  rw [Int.toNat_natCast, hs, w64_succ (by omega)]
  have e := ih (i + 1) (by omega)
  rw [show i + 1 + d = i + (d + 1) by omega] at e
  exact e
def rawN (a0 a1 a2 a3 a4 a5 a6 : Int) : Nat := if okG a0 a1 a2 a3 a4 a5 a6 then (a3 * (a4 + 2) + 31).toNat else 0
theorem rawN_le (a0 a1 a2 a3 a4 a5 a6 : Int) : rawN a0 a1 a2 a3 a4 a5 a6 ≤ 10000 := by
 unfold rawN
 split
 ·rename_i h
  obtain ⟨h3, h4⟩ := okG_bounds h
  have := mul_bound h3 (y := a4 + 2) ⟨by omega, by omega⟩
  omega
 ·decide
theorem rawN_eq (a0 a1 a2 a3 a4 a5 a6 : Int) : geom_Raw.f a0 a1 a2 a3 a4 a5 a6 = some ((rawN a0 a1 a2 a3 a4 a5 a6 : Nat) : Int) := by
 rw [raw_eq]
 unfold rawN
 split
 ·rename_i h
  obtain ⟨h3, h4⟩ := okG_bounds h
  have := mul_bound h3 (y := a4 + 2) ⟨by omega, by omega⟩
  congr 1
  omega
 ·rfl
theorem erased_ev (a0 a1 a2 a3 a4 a5 a6 : Int) : Ev (fun k => page_Erased.f k a0 a1 a2 a3 a4 a5 a6) (List.replicate (rawN a0 a1 a2 a3 a4 a5 a6) 255) := by
 refine Ev.congr (fun k => by rw [page_Erased.f]) ?_
 have hn := rawN_le a0 a1 a2 a3 a4 a5 a6
 refine Ev.bindv (rawN_eq ..) ?_
 generalize rawN a0 a1 a2 a3 a4 a5 a6 = n at hn
 rw [Int.toNat_natCast]
 refine Ev.pos (by omega) (Ev.pos (by omega) (Ev.bindv rfl ?_))
 rw [List.length_replicate]
 have e := erased_l0 n 0 (by omega)
 rw [Nat.zero_add] at e
 exact e
end Go.Proofs.Ytmehbabchakkpaa.PurePageEmpty
namespace Go.Proofs.Ytmehbabchakkpaa.PurePageEmpty
open Go.RowKit QPageEmpty YtmehbabchakkpaaW.PrintWords YtmehbabchakkpaaW.PrintLast YtmehbabchakkpaaW.PrintMore EvKit BitsKit CrcMath NatKit BitsMath LenMath HamMath ChunkMath
def allR (m : Nat) : Nat → List Int → List Int → Int → List Int × Int × Int
 | 0, _, out, fx => (out, fx, 0)
 | d + 1, L, out, fx => if (decN (nats (L.take m))).2.2 = 0 then allR m d (L.drop m) (out ++ (decN (nats (L.take m))).1) (wrap64 (fx + (decN (nats (L.take m))).2.1)) else ([], 0, (decN (nats (L.take m))).2.2)
theorem decN_size (r : List Nat) (h : (decN r).2.2 = 0) : 0 < (decN r).1.length ∧ (decN r).1.length ≤ r.length := by
 unfold decN at h ⊢
 split at h
 ·exact absurd h (by decide)
 ·rename_i hn
  rw [if_neg hn]
  have hl : (r.take (r.length - 2)).length = r.length - 2 := by rw [List.length_take]; omega
  unfold decOf at h ⊢
  split at h
  ·rename_i h1
   rw [if_pos h1]
   show 0 < (ints _).length ∧ (ints _).length ≤ _
   rw [ints_length, hl]
   omega
  ·rename_i h1
   rw [if_neg h1]
   split at h
   ·rename_i h2
    rw [if_pos h2]
    show 0 < (ints _).length ∧ (ints _).length ≤ _
    rw [ints_length, flips_length, hl]
    omega
   ·rename_i h2
    rw [if_neg h2]
    split at h
    ·rename_i h3
     rw [if_pos h3]
     show 0 < (ints _).length ∧ (ints _).length ≤ _
     rw [ints_length, hl]
     omega
    ·exact absurd h (by decide)
theorem allR_short (m : Nat) : ∀ (d : Nat) (L out : List Int) (fx : Int), L.length = d * m → (allR m d L out fx).1.length ≤ out.length + L.length := by
 intro d
 induction d with
 | zero => intro L out fx _; show out.length ≤ _; omega
 | succ d ih =>
  intro L out fx hl
  have hl1 : (L.drop m).length = d * m := by rw [List.length_drop, hl, Nat.succ_mul]; omega
  have hl2 : (L.take m).length ≤ m := by rw [List.length_take]; omega
  unfold allR
  split
  ·rename_i h
   have h1 := (decN_size _ h).2
   rw [nats_length] at h1
   have h2 := ih (L.drop m) (out ++ (decN (nats (L.take m))).1) (wrap64 (fx + (decN (nats (L.take m))).2.1)) hl1
   rw [List.length_append] at h2
   have h3 : L.length = m + d * m := by rw [hl, Nat.succ_mul]; omega
   omega
  ·exact Nat.zero_le _
theorem may_on {l : List Int} {m d : Nat} (hm : 3 ≤ m ∧ m ≤ 514) (hl : l.length = d * m) : chunk_may.f l ((m : Int) - 2) = some true := by
 unfold chunk_may.f
 rw [if_pos (by omega), if_pos (by omega), w64_id (x := (m : Int) - 2 + 2) (by omega) (by omega), show (m : Int) - 2 + 2 = (m : Int) by omega, if_neg (by omega), hl, show ((d * m : Nat) : Int) % (m : Int) = 0 by rw [Int.natCast_mul]; exact Int.mul_emod_left _ _]
 rfl
theorem bytes_take {L : List Int} (hL : ∀ x ∈ L, 0 ≤ x ∧ x < 256) (m : Nat) : ∀ x ∈ L.take m, 0 ≤ x ∧ x < 256 := fun x hx => hL x (List.mem_of_mem_take hx)
theorem bytes_drop {L : List Int} (hL : ∀ x ∈ L, 0 ≤ x ∧ x < 256) (m : Nat) : ∀ x ∈ L.drop m, 0 ≤ x ∧ x < 256 := fun x hx => hL x (List.mem_of_mem_drop hx)
theorem all_l0 {m : Nat} (hm : 3 ≤ m ∧ m ≤ 514) : ∀ (d : Nat) (L out : List Int) (fx : Int), L.length = d * m → (∀ x ∈ L, 0 ≤ x ∧ x < 256) → out.length + L.length ≤ 1000000 → Ev (fun k => chunk_All.l0 k L ((m : Int) - 2) out fx) (allR m d L out fx) := by
 intro d
 induction d with
 | zero =>
  intro L out fx hl _ _
  refine Ev.step (fun k => chunk_All.l0.eq_2 ..) ?_
  exact Ev.pos (by omega) (Ev.ret rfl)
 | succ d ih =>
  intro L out fx hl hb hs
  have h3 : L.length = m + d * m := by rw [hl, Nat.succ_mul]; omega
  have hl1 : (L.drop m).length = d * m := by rw [List.length_drop]; omega
  have hl2 : (L.take m).length = m := by rw [List.length_take]; omega
  refine Ev.step (fun k => chunk_All.l0.eq_2 ..) ?_
  rw [show ((m : Int) - 2 + 2).toNat = m by omega]
  refine Ev.neg (by omega) (Ev.bind (decode_ev (bytes_take hb m) (by omega)) ?_)
  unfold allR
  have hz := decN_size (nats (L.take m))
  rw [nats_length, hl2] at hz
  generalize decN (nats (L.take m)) = t at hz ⊢
  refine Ev.ite (fun h => ?_) (fun h => ?_)
  ·rw [if_pos h]
   have h4 := hz h
   refine Ev.pos h4.1 (Ev.pos (by omega) ?_)
   exact ih _ _ _ hl1 (bytes_drop hb m) (by rw [List.length_append]; omega)
  ·rw [if_neg h]
   exact Ev.ret rfl
theorem all_on {L : List Int} {m d : Nat} (hm : 3 ≤ m ∧ m ≤ 514) (hl : L.length = d * m) (hb : ∀ x ∈ L, 0 ≤ x ∧ x < 256) (hs : L.length ≤ 1000000) : Ev (fun k => chunk_All.f k L ((m : Int) - 2)) (allR m d L [] 0) := by
 refine Ev.congr (fun k => by rw [chunk_All.f]) ?_
 refine Ev.bindv (may_on hm hl) (Ev.pos rfl (Ev.pos ⟨by omega, by omega, ?_⟩ ?_))
 ·rw [show ((m : Int) - 2 + 2).toNat = m by omega, hl]
  exact Nat.mul_mod_left _ _
 ·exact all_l0 hm d L [] 0 hl hb (by rw [List.length_nil]; omega)
end Go.Proofs.Ytmehbabchakkpaa.PurePageEmpty
namespace Go.Proofs.Ytmehbabchakkpaa.PurePageEmpty
open Go.RowKit QPageEmpty YtmehbabchakkpaaW.PrintWords YtmehbabchakkpaaW.PrintLast YtmehbabchakkpaaW.PrintMore EvKit BitsKit CrcMath NatKit
theorem str_beq {a b : List Int} (ha : ∀ x ∈ a, 0 ≤ x ∧ x < 256) (hb : ∀ x ∈ b, 0 ≤ x ∧ x < 256) : ((strOfNums a).toList == (strOfNums b).toList) = decide (a = b) := by
 rw [Bool.eq_iff_iff, beq_iff_eq, decide_eq_true_eq, ByteArray.toList_eq, ByteArray.toList_eq]
 constructor
 ·intro h
  refine str_eq ha hb ?_
  have := Array.toList_inj.1 h
  cases ea : strOfNums a
  cases eb : strOfNums b
  rw [ea, eb] at this
  congr 1
 ·rintro rfl
  rfl
def ends (b : List Int) : Bool := decide (4 ≤ b.length) && decide (four (CrcMath.sum (nats (b.take (b.length - 4)))) = b.drop (b.length - 4))
theorem check_ev {b : List Int} (hb : ∀ x ∈ b, 0 ≤ x ∧ x < 256) (hn : b.length < 1000000) : Ev (fun k => crc_Check.f k b) (ends b) := by
 refine Ev.congr (fun k => by rw [crc_Check.f]) ?_
 have hw : wrap64 ((b.length : Int) - 4) = (b.length : Int) - 4 := w64_id (by omega) (by omega)
 rw [hw]
 clear hw
 refine Ev.ite (fun h => ?_) (fun h => Ev.ret ?_)
 ·refine Ev.pos (by omega) ?_
  refine Ev.pos (by omega) ?_
  rw [show ((b.length : Int) - 4).toNat = b.length - 4 from by omega]
  refine Ev.bind (sum_one (fun x hx => hb x (List.mem_of_mem_take hx)) (by rw [List.length_take]; omega)) ?_
  refine Ev.bind (bytes_ev _) (Ev.ret ?_)
  rw [str_beq (four_byte _) (fun x hx => hb x (List.mem_of_mem_drop hx))]
  unfold ends
  rw [decide_eq_true (show 4 ≤ b.length by omega), Bool.true_and]
 ·unfold ends
  rw [decide_eq_false (show ¬ 4 ≤ b.length by omega), Bool.false_and]
end Go.Proofs.Ytmehbabchakkpaa.PurePageEmpty
namespace Go.Proofs.Ytmehbabchakkpaa.PurePageEmpty
open Go.RowKit QPageEmpty YtmehbabchakkpaaW.PrintWords YtmehbabchakkpaaW.PrintLast YtmehbabchakkpaaW.PrintMore EvKit PackMath
theorem wraps_u64 (n : Int) (h₀ : 0 ≤ n) (h₁ : n < 2 ^ 64) : IntKind.u64.wrap n = n := w_u64 n h₀ (by simpa using h₁)
theorem or_byte {x b : Int} (h0 : 0 ≤ x) (h : x < 256 ^ 7) (b0 : 0 ≤ b) (b1 : b < 256) : Go.bits .or .u64 (IntKind.u64.wrap (x * 256)) (IntKind.u64.wrap b) = b + 256 * x := by
 have e : (256 : Int) ^ 7 = 72057594037927936 := by decide
 rw [e] at h
 rw [wraps_u64 (x * 256) (by omega) (by omega), wraps_u64 b (by omega) (by omega), bits_join .u64 64 (by decide) wraps_u64 8 (x * 256) b (by omega) (by omega) (by omega) b0 (by omega) (by omega)]
 omega
theorem pow7 {m : Nat} (h : m ≤ 7) : (256 : Int) ^ m ≤ 256 ^ 7 := by
 have : m = 0 ∨ m = 1 ∨ m = 2 ∨ m = 3 ∨ m = 4 ∨ m = 5 ∨ m = 6 ∨ m = 7 := by omega
 rcases this with rfl | rfl | rfl | rfl | rfl | rfl | rfl | rfl <;> decide
theorem take_succ_rd {b : List Int} {d : Nat} (h : d < b.length) : b.take (d + 1) = b.take d ++ [rd b (d : Int)] := by
 rw [List.take_succ_eq_append_getElem h, rd_nat h]
theorem take_l1 {b out l : List Int} {s len i : Int} {r : List Int × Int} (hb : ∀ x ∈ b, 0 ≤ x ∧ x < 256) (hs : s ≤ 8) (hsb : s ≤ (b.length : Int)) (d : Nat) : ∀ (x : Int) (m : Nat), (d : Int) + m = s → 0 ≤ x → x < 256 ^ m →
  Ev (fun k => (if unle (b.take d) + 256 ^ d * x > 4611686018427387904 then (some (([] : List Int), 11)) else (if out.length < 17592186044416 then (if 0 ≤ s then (if s ≤ (b.length : Int) then (pack_Take.l0 k (b.drop (s : Int).toNat) (out ++ [wrap64 (unle (b.take d) + 256 ^ d * x)]) l len (wrap64 (i + 1))) else (none)) else (none)) else (none)))) r →
  Ev (fun k => pack_Take.l1 k b out s x (wrap64 ((d : Int) - 1)) l len i) r := by
 induction d with
 | zero =>
  intro x m hm h0 h1 h
  rw [show wrap64 (((0 : Nat) : Int) - 1) = -1 from by rw [w64_id (by omega) (by omega)]; omega]
  refine Ev.step (fun k => pack_Take.l1.eq_2 ..) ?_
  refine Ev.neg (by omega) ?_
  simpa [unle] using h
 | succ d ih =>
  intro x m hm h0 h1 h
  rw [show wrap64 (((d + 1 : Nat) : Int) - 1) = (d : Int) from by rw [w64_id (by omega) (by omega)]; omega]
  refine Ev.step (fun k => pack_Take.l1.eq_2 ..) ?_
  refine Ev.pos (by omega) (Ev.pos (by omega) (Ev.pos (by omega) ?_))
  have hc := hb _ (rd_mem (l := b) (i := (d : Int)) (by omega) (by omega))
  have hx : x < 256 ^ 7 := Int.lt_of_lt_of_le h1 (pow7 (by omega))
  rw [or_byte h0 hx hc.1 hc.2]
  refine ih (rd b (d : Int) + 256 * x) (m + 1) (by omega) (by omega) (by rw [Int.pow_succ]; omega) ?_
  have e : unle (b.take (d + 1)) + 256 ^ (d + 1) * x = unle (b.take d) + 256 ^ d * (rd b (d : Int) + 256 * x) := by
   rw [take_succ_rd (by omega), unle_append, List.length_take, Nat.min_eq_left (by omega), Int.pow_succ]
   simp only [unle, Int.mul_add, Int.mul_assoc, Int.mul_zero, Int.add_zero, Int.add_assoc]
  rw [e] at h
  exact h
theorem take_l0 {l : List Int} (hok : okSizes l = true) (d : Nat) : ∀ (i : Nat) (b out : List Int), i + d = l.length → (∀ x ∈ b, 0 ≤ x ∧ x < 256) → (b.length : Int) = (l.drop i).sum → out.length ≤ i →
  Ev (fun k => pack_Take.l0 k b out l (l.length : Int) (i : Int)) (endTake out (takeGo (l.drop i) b)) := by
 have hk := okSizes_iff.1 hok
 induction d with
 | zero =>
  intro i b out hi hb hsum ho
  refine Ev.step (fun k => pack_Take.l0.eq_2 ..) ?_
  refine Ev.neg (by omega) (Ev.ret ?_)
  rw [List.drop_of_length_le (by omega)]
  simp [takeGo, endTake]
 | succ d ih =>
  intro i b out hi hb hsum ho
  refine Ev.step (fun k => pack_Take.l0.eq_2 ..) ?_
  refine Ev.pos (by omega) (Ev.pos (by omega) (Ev.pos (by omega) ?_))
  have hs := hk.2 _ (rd_mem (l := l) (i := (i : Int)) (by omega) (by omega))
  have hrest := sum_nonneg (l := l.drop (i + 1)) fun x hx => hk.2 x (List.mem_of_mem_drop hx)
  rw [drop_rd (l := l) (i := i) (by omega)] at hsum ⊢
  rw [List.sum_cons] at hsum
  generalize rd l (i : Int) = s at hs hsum ⊢
  have hd : wrap64 (s - 1) = wrap64 ((s.toNat : Int) - 1) := by rw [show (s.toNat : Int) = s by omega]
  rw [hd]
  refine take_l1 hb (by omega) (by omega) s.toNat 0 0 (by omega) (by omega) (by simp) ?_
  have hn := unle_nonneg (b.take s.toNat) fun x hx => hb x (List.mem_of_mem_take hx)
  rw [Int.mul_zero, Int.add_zero]
  refine Ev.ite (fun h => Ev.ret ?_) (fun h => ?_)
  ·have h' : ¬ unle (b.take s.toNat) ≤ 4611686018427387904 := by omega
   simp [takeGo, h', endTake]
  ·refine Ev.pos (by omega) (Ev.pos (by omega) (Ev.pos (by omega) ?_))
   rw [w64_succ (by omega), w64_id (by omega) (by omega)]
   refine Ev.eq (ih (i + 1) (b.drop s.toNat) (out ++ [unle (b.take s.toNat)]) (by omega) (fun x hx => hb x (List.mem_of_mem_drop hx)) (by rw [List.length_drop]; omega) (by simp; omega)) ?_
   have h' : unle (b.take s.toNat) ≤ 4611686018427387904 := by omega
   simp only [takeGo, h', if_true]
   cases takeGo (l.drop (i + 1)) (b.drop s.toNat) <;> simp [endTake]
theorem take_ev (l b : List Int) (hb : ∀ x ∈ b, 0 ≤ x ∧ x < 256) : Ev (fun k => pack_Take.f k l b) (pkTake l b) := by
 refine Ev.congr (fun k => by rw [pack_Take.f]) ?_
 refine Ev.bind (size_ev l) ?_
 refine Ev.ite (fun h => ?_) (fun h => ?_)
 ·have hok : okSizes l = true := by
   cases e : okSizes l
   ·simp [pkSize, e] at h
   ·rfl
  have e1 : pkSize l = (l.sum, true) := by simp [pkSize, hok]
  rw [e1]
  simp only [pkTake, hok, if_true]
  refine Ev.ite (fun h1 => Ev.ret ?_) (fun h1 => Ev.ite (fun h2 => Ev.ret ?_) (fun h2 => ?_))
  ·rw [if_pos h1]
  ·rw [if_neg h1, if_pos h2]
  ·rw [if_neg h1, if_neg h2]
   exact take_l0 hok l.length 0 b [] (by omega) hb (by simp; omega) (by simp)
 ·have hok : okSizes l = false := by
   cases e : okSizes l
   ·rfl
   ·simp [pkSize, e] at h
  refine Ev.ret ?_
  simp [pkTake, hok]
end Go.Proofs.Ytmehbabchakkpaa.PurePageEmpty
namespace Go.Proofs.Ytmehbabchakkpaa.TagMath
open Go.RowKit YtmehbabchakkpaaW.PrintWords
def ofList (l : List Int) : Int × Int × Int × Int × Int :=
 if rd l 0 = 0 ∧ rd l 5 = 0 ∧ mayTag (rd l 1) (rd l 2) (rd l 3) (rd l 4) = true then (rd l 1, rd l 2, rd l 3, rd l 4, 0) else (0, 0, 0, 0, 11)
def takeTag (b : List Int) : Int × Int × Int × Int × Int :=
 if (Go.Proofs.Ytmehbabchakkpaa.PackMath.pkTake sizes b).2 = 0 then ofList (Go.Proofs.Ytmehbabchakkpaa.PackMath.pkTake sizes b).1 else (0, 0, 0, 0, (Go.Proofs.Ytmehbabchakkpaa.PackMath.pkTake sizes b).2)
theorem six {b : List Int} (h : (Go.Proofs.Ytmehbabchakkpaa.PackMath.pkTake sizes b).2 = 0) : (Go.Proofs.Ytmehbabchakkpaa.PackMath.pkTake sizes b).1.length = 6 := by
 have e := Go.Proofs.Ytmehbabchakkpaa.PackMath.pkTake_ok (Prod.ext rfl h : Go.Proofs.Ytmehbabchakkpaa.PackMath.pkTake sizes b = ((Go.Proofs.Ytmehbabchakkpaa.PackMath.pkTake sizes b).1, 0))
 rw [Go.Proofs.Ytmehbabchakkpaa.PackMath.takeGo_length e.2.2]
 rfl
end Go.Proofs.Ytmehbabchakkpaa.TagMath
namespace Go.Proofs.Ytmehbabchakkpaa.PurePageEmpty
open Go.RowKit QPageEmpty YtmehbabchakkpaaW.PrintWords YtmehbabchakkpaaW.PrintLast YtmehbabchakkpaaW.PrintMore EvKit PackMath TagMath
theorem ttake_ev (b : List Int) (hb : ∀ x ∈ b, 0 ≤ x ∧ x < 256) : Ev (fun k => tag_Take.f k b) (takeTag b) := by
 have hbad : ∀ x y z v : Int, Ev (fun k => tag_Take.j0 k true x y z v) (0, 0, 0, 0, 11) := fun x y z v => Ev.step (fun _ => tag_Take.j0.eq_2 ..) (Ev.pos rfl (Ev.ret rfl))
 refine Ev.congr (fun k => by rw [tag_Take.f]) ?_
 refine Ev.bindv (a := sizes) rfl ?_
 refine Ev.bind (take_ev _ _ hb) ?_
 unfold takeTag
 refine Ev.ite (fun h => ?_) (fun h => Ev.ret ?_)
 ·rw [if_pos h]
  have h6 := six h
  generalize (pkTake sizes b).1 = l at h6 ⊢
  unfold ofList
  refine Ev.pos (by omega) ?_
  refine Ev.pos (by omega) ?_
  refine Ev.pos (by omega) ?_
  refine Ev.pos (by omega) ?_
  refine Ev.pos (by omega) ?_
  refine Ev.ite (fun h0 => ?_) (fun h0 => ?_)
  ·refine Ev.pos (by omega) ?_
   refine Ev.ite (fun h5 => ?_) (fun h5 => ?_)
   ·refine Ev.bindv (may_eq _ _ _ _) ?_
    cases hm : mayTag (rd l 1) (rd l 2) (rd l 3) (rd l 4) with
    | true =>
     rw [if_pos ⟨h0, h5, rfl⟩]
     exact Ev.step (fun _ => tag_Take.j0.eq_2 ..) (Ev.neg (by decide) (Ev.ret rfl))
    | false =>
     rw [if_neg fun h => by cases h.2.2]
     exact hbad _ _ _ _
   ·rw [if_neg fun h => h5 h.2.1]
    exact hbad _ _ _ _
  ·rw [if_neg fun h => h0 h.1]
   exact hbad _ _ _ _
 ·rw [if_neg h]
end Go.Proofs.Ytmehbabchakkpaa.PurePageEmpty
namespace Go.Proofs.Ytmehbabchakkpaa.PurePageEmpty
open Go.RowKit QPageEmpty YtmehbabchakkpaaW.PrintWords YtmehbabchakkpaaW.PrintLast YtmehbabchakkpaaW.PrintMore EvKit PackMath TagMath CrcMath NatKit BitsMath ChunkMath
theorem decN_len {r : List Nat} (h : (decN r).2.2 = 0) : (decN r).1.length = r.length - 2 := by
 unfold decN at h ⊢
 split at h
 ·exact absurd h (by decide)
 ·rename_i hn
  rw [if_neg hn]
  have hl : (r.take (r.length - 2)).length = r.length - 2 := by rw [List.length_take]; omega
  unfold decOf at h ⊢
  split at h
  ·rename_i h1
   rw [if_pos h1]
   show (ints _).length = _
   rw [ints_length, hl]
  ·rename_i h1
   rw [if_neg h1]
   split at h
   ·rename_i h2
    rw [if_pos h2]
    show (ints _).length = _
    rw [ints_length, flips_length, hl]
   ·rename_i h2
    rw [if_neg h2]
    split at h
    ·rename_i h3
     rw [if_pos h3]
     show (ints _).length = _
     rw [ints_length, hl]
    ·exact absurd h (by decide)
theorem decN_byte {r : List Nat} (h : ∀ x ∈ r, x < 256) : ∀ x ∈ (decN r).1, 0 ≤ x ∧ x < 256 := by
 have ht : ∀ x ∈ r.take (r.length - 2), x < 256 := fun x hx => h x (List.mem_of_mem_take hx)
 have hnil : ∀ x ∈ ([] : List Int), 0 ≤ x ∧ x < 256 := fun x hx => by cases hx
 unfold decN
 split
 ·exact hnil
 ·unfold decOf
  split
  ·exact ints_byte ht
  ·split
   ·exact ints_byte (flips_lt _ ht)
   ·split
    ·exact ints_byte ht
    ·exact hnil
theorem allR_byte {m : Nat} : ∀ (d : Nat) (L out : List Int) (fx : Int), (∀ x ∈ L, 0 ≤ x ∧ x < 256) → (∀ x ∈ out, 0 ≤ x ∧ x < 256) → ∀ x ∈ (allR m d L out fx).1, 0 ≤ x ∧ x < 256 := by
 intro d
 induction d with
 | zero => intro L out fx _ ho; exact ho
 | succ d ih =>
  intro L out fx hL ho
  unfold allR
  split
  ·exact ih _ _ _ (bytes_drop hL m) (app_byte ho (decN_byte (nats_lt (bytes_take hL m))))
  ·intro x hx
   cases hx
def decB (S C : Nat) (ch lab : List Int) : List Int × Int × Int × Int × Int × Int × Int :=
 if ((8 * lab.length - count (nats lab) : Nat) : Int) ≤ 20 then ([], 0, 0, 0, 0, 2, 0) else
 if (allR (S + 2) C ch [] 0).2.2 = 0 then
  if (decN (nats lab)).2.2 = 0 then
   if ends ((allR (S + 2) C ch [] 0).1 ++ (decN (nats lab)).1) = true then
    if (takeTag ((decN (nats lab)).1.take 24)).2.2.2.2 = 0 then ((allR (S + 2) C ch [] 0).1, (takeTag ((decN (nats lab)).1.take 24)).1, (takeTag ((decN (nats lab)).1.take 24)).2.1, (takeTag ((decN (nats lab)).1.take 24)).2.2.1, (takeTag ((decN (nats lab)).1.take 24)).2.2.2.1, if wrap64 ((allR (S + 2) C ch [] 0).2.1 + (decN (nats lab)).2.1) > 0 then 1 else 0, 0)
    else ([], 0, 0, 0, 0, 0, (takeTag ((decN (nats lab)).1.take 24)).2.2.2.2)
   else ([], 0, 0, 0, 0, 0, 12)
  else ([], 0, 0, 0, 0, 0, (decN (nats lab)).2.2)
 else ([], 0, 0, 0, 0, 0, (allR (S + 2) C ch [] 0).2.2)
def decP (raw : List Int) (a0 a1 a2 a3 a4 a5 a6 : Int) : List Int × Int × Int × Int × Int × Int × Int :=
 if okG a0 a1 a2 a3 a4 a5 a6 ∧ (raw.length : Int) = a3 * (a4 + 2) + 31 then decB a4.toNat a3.toNat (raw.take (raw.length - 31)) ((raw.take (raw.length - 1)).drop (raw.length - 31)) else ([], 0, 0, 0, 0, 0, 2)
theorem label_eq {a0 a1 a2 a3 a4 a5 a6 : Int} {n : Nat} {raw : List Int} (hn : n ≤ 100000) (h : n + 30 ≤ raw.length) : page_shape_label.f a0 a1 a2 a3 a4 a5 a6 (n : Int) raw = some ((raw.take (n + 30)).drop n) := by
 have e : wrap64 (wrap64 ((n : Int) + 28) + 2) = ((n + 30 : Nat) : Int) := by
  rw [w64_id (x := (n : Int) + 28) (by omega) (by omega), w64_id (by omega) (by omega)]
  omega
 unfold page_shape_label.f
 rw [e, Int.toNat_natCast, Int.toNat_natCast, if_pos (by omega), if_pos (by omega), if_pos (by omega)]
theorem chunks_eq {a0 a1 a2 a3 a4 a5 a6 : Int} {n : Nat} {raw : List Int} (h : n ≤ raw.length) : page_shape_chunks.f a0 a1 a2 a3 a4 a5 a6 (n : Int) raw = some (raw.take n) := by
 unfold page_shape_chunks.f
 rw [Int.toNat_natCast, if_pos (by omega), if_pos (by omega)]
theorem size_eq {a0 a1 a2 a3 a4 a5 a6 a7 : Int} (h : okG a0 a1 a2 a3 a4 a5 a6) : page_shape_size.f a0 a1 a2 a3 a4 a5 a6 a7 = some (a3 * (a4 + 2) + 31) := by
 unfold page_shape_size.f
 rw [raw_eq, if_pos h]
 rfl
theorem decB_ev {raw : List Int} (hb : ∀ x ∈ raw, 0 ≤ x ∧ x < 256) {S C : Nat} {q0 q1 q2 q5 q6 : Int} (hS0 : 4 ≤ S) (hS : S ≤ 512) (hC : C ≤ 16) (hl : raw.length = C * (S + 2) + 31) :
  Ev (fun k => page_Decode.j1 k raw 0 q0 q1 q2 (C : Int) (S : Int) q5 q6 ((C * (S + 2) : Nat) : Int)) (decB S C (raw.take (C * (S + 2))) ((raw.take (C * (S + 2) + 30)).drop (C * (S + 2)))) := by
 have hn : C * (S + 2) ≤ 10000 := Nat.le_trans (Nat.mul_le_mul hC (show S + 2 ≤ 514 by omega)) (by decide)
 have hcl : (raw.take (C * (S + 2))).length = C * (S + 2) := by rw [List.length_take]; omega
 have hll : ((raw.take (C * (S + 2) + 30)).drop (C * (S + 2))).length = 30 := by rw [List.length_drop, List.length_take]; omega
 have hcb := bytes_take hb (C * (S + 2))
 have hlb := bytes_drop (bytes_take hb (C * (S + 2) + 30)) (C * (S + 2))
 have hlab := label_eq (a0 := q0) (a1 := q1) (a2 := q2) (a3 := (C : Int)) (a4 := (S : Int)) (a5 := q5) (a6 := q6) (n := C * (S + 2)) (raw := raw) (by omega) (by omega)
 have ech := chunks_eq (a0 := q0) (a1 := q1) (a2 := q2) (a3 := (C : Int)) (a4 := (S : Int)) (a5 := q5) (a6 := q6) (n := C * (S + 2)) (raw := raw) (by omega)
 generalize (raw.take (C * (S + 2) + 30)).drop (C * (S + 2)) = lab at hll hlb hlab ⊢
 generalize raw.take (C * (S + 2)) = ch at hcl hcb ech ⊢
 have hz := zeros_ev hlb (by omega)
 have ha := all_on (L := ch) (m := S + 2) (d := C) ⟨by omega, by omega⟩ hcl hcb (by omega)
 rw [show ((S + 2 : Nat) : Int) - 2 = (S : Int) by omega] at ha
 have hal := allR_short (S + 2) C ch [] 0 hcl
 have hab := allR_byte (m := S + 2) C ch [] 0 hcb (fun x hx => by cases hx)
 have hd := decode_ev hlb (by omega)
 have hdl := decN_len (r := nats lab)
 have hdb := decN_byte (nats_lt hlb)
 rw [nats_length, hll] at hdl
 rw [List.length_nil, hcl] at hal
 refine Ev.step (fun k => page_Decode.j1.eq_2 ..) ?_
 refine Ev.bindv hlab (Ev.bind hz ?_)
 unfold decB
 refine Ev.ite (fun h => ?_) (fun h => ?_)
 ·rw [if_pos h]
  exact Ev.ret rfl
 rw [if_neg h]
 clear h hz
 refine Ev.step (fun k => page_Decode.j2.eq_2 ..) ?_
 refine Ev.bindv ech (Ev.bind ha ?_)
 clear ha ech
 generalize allR (S + 2) C ch [] 0 = A at hal hab ⊢
 refine Ev.ite (fun h => ?_) (fun h => ?_)
 ·rw [if_pos h]
  refine Ev.step (fun k => page_Decode.j3.eq_2 ..) ?_
  refine Ev.bindv hlab (Ev.bind hd ?_)
  clear hd hlab
  generalize decN (nats lab) = D at hdl hdb ⊢
  refine Ev.ite (fun h2 => ?_) (fun h2 => ?_)
  ·rw [if_pos h2]
   have hdl2 := hdl h2
   have hcheck := check_ev (b := A.1 ++ D.1) (app_byte hab hdb) (by rw [List.length_append]; omega)
   have htake := ttake_ev (D.1.take 24) (bytes_take hdb 24)
   refine Ev.step (fun k => page_Decode.j4.eq_2 ..) ?_
   refine Ev.bindv rfl (Ev.pos (by rw [List.length_nil]; omega) (Ev.bindv rfl ?_))
   rw [List.nil_append]
   refine Ev.pos (by omega) (Ev.bind hcheck ?_)
   refine Ev.ite (fun h3 => ?_) (fun h3 => ?_)
   ·rw [if_pos h3]
    refine Ev.step (fun k => page_Decode.j5.eq_2 ..) ?_
    refine Ev.pos (by omega) (Ev.bind htake ?_)
    generalize takeTag (D.1.take 24) = t
    refine Ev.ite (fun h4 => ?_) (fun h4 => ?_)
    ·rw [if_pos h4]
     refine Ev.ite (fun h5 => ?_) (fun h5 => ?_)
     ·rw [if_pos h5]
      exact Ev.ret rfl
     ·rw [if_neg h5]
      exact Ev.ret rfl
    ·rw [if_neg h4]
     exact Ev.ret rfl
   ·rw [if_neg h3]
    exact Ev.ret rfl
  ·rw [if_neg h2]
   exact Ev.ret rfl
 ·rw [if_neg h]
  exact Ev.ret rfl
theorem pdec_ev {raw : List Int} (hb : ∀ x ∈ raw, 0 ≤ x ∧ x < 256) (a0 a1 a2 a3 a4 a5 a6 : Int) : Ev (fun k => page_Decode.f k a0 a1 a2 a3 a4 a5 a6 raw) (decP raw a0 a1 a2 a3 a4 a5 a6) := by
 refine Ev.congr (fun k => by rw [page_Decode.f]) ?_
 refine Ev.bindv of_eq ?_
 dsimp only
 have hbad : ∀ (q0 q1 q2 q3 q4 q5 q6 q7 : Int), ¬ (okG a0 a1 a2 a3 a4 a5 a6 ∧ (raw.length : Int) = a3 * (a4 + 2) + 31) → Ev (fun k => page_Decode.j0 k raw 0 true q0 q1 q2 q3 q4 q5 q6 q7) (decP raw a0 a1 a2 a3 a4 a5 a6) := fun q0 q1 q2 q3 q4 q5 q6 q7 h => by
  refine Ev.step (fun k => page_Decode.j0.eq_2 ..) (Ev.pos rfl (Ev.ret ?_))
  unfold decP
  rw [if_neg h]
 by_cases hg : okG a0 a1 a2 a3 a4 a5 a6
 ·refine Ev.pos (decide_eq_true hg) (Ev.bindv (size_eq hg) ?_)
  by_cases hl : (raw.length : Int) = a3 * (a4 + 2) + 31
  ·have e : ((raw.length : Int) != a3 * (a4 + 2) + 31) = false := bne_eq_false_iff_eq.2 hl
   rw [e]
   refine Ev.step (fun k => page_Decode.j0.eq_2 ..) (Ev.neg (by decide) ?_)
   unfold decP
   rw [if_pos ⟨hg, hl⟩]
   obtain ⟨h3, h4⟩ := okG_bounds hg
   have hm := mul_bound h3 (y := a4 + 2) ⟨by omega, by omega⟩
   rw [w64_id (x := a4 + 2) (by omega) (by omega), w64_id (x := a3 * (a4 + 2)) (by omega) (by omega)]
   obtain ⟨C, rfl⟩ := Int.eq_ofNat_of_zero_le (a := a3) (by omega)
   obtain ⟨S, rfl⟩ := Int.eq_ofNat_of_zero_le (a := a4) (by omega)
   have en : (C : Int) * ((S : Int) + 2) = ((C * (S + 2) : Nat) : Int) := by rw [Int.natCast_mul, Int.natCast_add]; rfl
   rw [en] at hl ⊢
   have hl2 : raw.length = C * (S + 2) + 31 := by omega
   rw [Int.toNat_natCast, Int.toNat_natCast, show raw.length - 31 = C * (S + 2) by omega, show raw.length - 1 = C * (S + 2) + 30 by omega]
   exact decB_ev hb (by omega) (by omega) (by omega) hl2
  ·have e : ((raw.length : Int) != a3 * (a4 + 2) + 31) = true := bne_iff_ne.2 hl
   rw [e]
   exact hbad _ _ _ _ _ _ _ _ (fun z => hl z.2)
 ·rw [decide_eq_false hg]
  exact Ev.neg (by decide) (hbad _ _ _ _ _ _ _ _ (fun z => hg z.1))
def markP (raw : List Int) (a0 a1 a2 a3 a4 a5 a6 : Int) : Bool := decide (okG a0 a1 a2 a3 a4 a5 a6 ∧ (raw.length : Int) = a3 * (a4 + 2) + 31) && decide (((count (nats (raw.drop (raw.length - 1))) : Nat) : Int) < 4)
theorem mark_ev {raw : List Int} (hb : ∀ x ∈ raw, 0 ≤ x ∧ x < 256) (a0 a1 a2 a3 a4 a5 a6 : Int) : Ev (fun k => page_Marked.f k a0 a1 a2 a3 a4 a5 a6 raw) (markP raw a0 a1 a2 a3 a4 a5 a6) := by
 refine Ev.congr (fun k => by rw [page_Marked.f]) ?_
 refine Ev.bindv of_eq ?_
 dsimp only
 unfold markP
 by_cases hg : okG a0 a1 a2 a3 a4 a5 a6
 ·refine Ev.pos (decide_eq_true hg) (Ev.bindv (size_eq hg) ?_)
  by_cases hl : (raw.length : Int) = a3 * (a4 + 2) + 31
  ·obtain ⟨h3, h4⟩ := okG_bounds hg
   have hm := mul_bound h3 (y := a4 + 2) ⟨by omega, by omega⟩
   rw [decide_eq_true ⟨hg, hl⟩, w64_id (x := (raw.length : Int) - 1) (by omega) (by omega), show ((raw.length : Int) - 1).toNat = raw.length - 1 by omega]
   refine Ev.pos hl (Ev.pos (by omega) (Ev.pos (by omega) (Ev.bind (count_ev (bytes_drop hb _) (by rw [List.length_drop]; omega)) (Ev.ret ?_))))
   rw [Bool.true_and]
  ·rw [decide_eq_false (fun z => hl z.2)]
   exact Ev.neg hl (Ev.ret rfl)
 ·rw [decide_eq_false hg, decide_eq_false (fun z => hg z.1)]
  exact Ev.neg (by decide) (Ev.ret rfl)
end Go.Proofs.Ytmehbabchakkpaa.PurePageEmpty
namespace Go.Proofs.Ytmehbabchakkpaa.BitsMath
open CrcMath
def near (d a b : Nat) : Prop := a ≤ b + d ∧ b ≤ a + d
theorem ones_turn : ∀ x : Nat, x < 256 → ∀ r : Nat, r < 8 → ones (x ^^^ 2 ^ r) ≤ ones x + 1 ∧ ones x ≤ ones (x ^^^ 2 ^ r) + 1 := by decide +kernel
theorem count_cons (x : Nat) (l : List Nat) : count (x :: l) = ones x + count l := by simp [count]
theorem count_app (a b : List Nat) : count (a ++ b) = count a + count b := by simp [count]
theorem count_set : ∀ (l : List Nat) (j v : Nat), (∀ h : j < l.length, near 1 (ones v) (ones l[j])) → near 1 (count (l.set j v)) (count l)
 | [], _, _, _ => ⟨by simp, by simp⟩
 | x :: l, 0, v, h => by
  have := h (by simp)
  simp only [List.getElem_cons_zero] at this
  unfold near at this ⊢
  rw [List.set_cons_zero, count_cons, count_cons]
  omega
 | x :: l, j + 1, v, h => by
  have := count_set l j v (fun hj => h (by rw [List.length_cons]; omega))
  unfold near at this ⊢
  rw [List.set_cons_succ, count_cons, count_cons]
  omega
theorem piece_turn {l : List Nat} (hl : ∀ b ∈ l, b < 256) (i : Int) (a b : Nat) : near 1 (count (((flip1 l i).take b).drop a)) (count ((l.take b).drop a)) := by
 unfold flip1
 split
 ·rename_i hi
  obtain ⟨n, rfl⟩ := Int.eq_ofNat_of_zero_le hi.1
  rw [Int.toNat_natCast]
  have hv : ∀ h : n / 8 < l.length, near 1 (ones (l.getD (n / 8) 0 ^^^ 2 ^ (n % 8))) (ones l[n / 8]) := fun h => by
   have e : l.getD (n / 8) 0 = l[n / 8] := by simp [h]
   rw [e]
   exact ones_turn _ (hl _ (List.getElem_mem h)) _ (Nat.mod_lt _ (by decide))
  generalize l.getD (n / 8) 0 ^^^ 2 ^ (n % 8) = v at hv
  generalize n / 8 = j at hv
  rw [List.take_set, List.drop_set]
  split
  ·exact ⟨by omega, by omega⟩
  ·rename_i hja
   refine count_set _ _ _ (fun h => ?_)
   rw [List.length_drop, List.length_take] at h
   rw [List.getElem_drop, List.getElem_take]
   have e : a + (j - a) = j := by omega
   have := hv (by omega)
   simp only [e]
   exact this
 ·exact ⟨by omega, by omega⟩
theorem piece_turns (a b : Nat) : ∀ (at_ : List Int) {l : List Nat}, (∀ x ∈ l, x < 256) → near at_.length (count (((flips l at_).take b).drop a)) (count ((l.take b).drop a))
 | [], l, _ => ⟨by show count ((l.take b).drop a) ≤ _; omega, by show _ ≤ count ((l.take b).drop a) + _; omega⟩
 | i :: at_, l, hl => by
  have h1 := piece_turn hl i a b
  have h2 := piece_turns a b at_ (flip1_lt hl i)
  unfold near at h1 h2 ⊢
  rw [show flips l (i :: at_) = flips (flip1 l i) at_ from rfl, List.length_cons]
  omega
theorem count_full (n : Nat) : count (List.replicate n 255) = 8 * n := by
 unfold count
 rw [List.map_replicate, List.sum_replicate_nat, show ones 255 = 8 by decide]
 omega
end Go.Proofs.Ytmehbabchakkpaa.BitsMath
namespace Go.Proofs.Ytmehbabchakkpaa.Pure
open Go.RowKit QPageEmpty YtmehbabchakkpaaW.PrintWords YtmehbabchakkpaaW.PrintLast YtmehbabchakkpaaW.PrintMore EvKit PackMath TagMath CrcMath NatKit BitsMath LenMath HamMath ChunkMath PurePageEmpty
theorem encN_lt {l : List Nat} (hl : ∀ b ∈ l, b < 256) (hn : l.length ≤ 512) : ∀ b ∈ encN l, b < 256 := encW_lt hl (wordN_lt (by omega))
theorem chunksP_len {b : List Int} {S C : Nat} (h : b.length = C * S) : ∀ i, i ≤ C → (chunksP b S i).length = i * (S + 2)
 | 0, _ => by simp [chunksP]
 | i + 1, hi => by
  have h1 := chunksP_len h i (by omega)
  have h2 : (i + 1) * S ≤ C * S := Nat.mul_le_mul_right S hi
  rw [chunksP_succ, List.length_append, h1, encI_len, cutG_len (by omega), Nat.succ_mul]
theorem decB_empty {S C : Nat} {ch lab : List Int} (h : ((8 * lab.length - count (nats lab) : Nat) : Int) ≤ 20) : decB S C ch lab = ([], 0, 0, 0, 0, 2, 0) := by
 unfold decB
 rw [if_pos h]
theorem decB_full {S C : Nat} {ch lab : List Int} (h : ¬ ((8 * lab.length - count (nats lab) : Nat) : Int) ≤ 20) : (decB S C ch lab).2.2.2.2.2.1 ≠ 2 := by
 unfold decB
 rw [if_neg h]
 repeat' split
 all_goals first | decide | skip
 all_goals (dsimp only; first | decide | (split <;> decide))
theorem tag_zeros {a b c d : Int} {x : List Int} (h : (pkPut sizes [0, a, b, c, d, 0]).1 = x) (h2 : (pkPut sizes [0, a, b, c, d, 0]).2 = 0) : count (nats x) ≤ 136 := by
 have e := pkPut_ok (Prod.ext h h2 : pkPut sizes [0, a, b, c, d, 0] = (x, 0))
 have e2 := e.2
 simp only [sizes, putGo] at e2
 split at e2
 ·split at e2
  ·split at e2
   ·split at e2
    ·split at e2
     ·split at e2
      ·simp only [Option.map_some, Option.some.injEq] at e2
       subst e2
       have hc : ∀ l : List Int, count (nats l) ≤ 8 * l.length := fun l => by
        have := count_le (nats l)
        rwa [nats_length] at this
       have h1 := hc (le (1 : Int).toNat a)
       have h2 := hc (le (4 : Int).toNat b)
       have h3 := hc (le (8 : Int).toNat c)
       have h4 := hc (le (4 : Int).toNat d)
       rw [le_length] at h1 h2 h3 h4
       have z2 : count (nats (le (2 : Int).toNat 0)) = 0 := by decide
       have z5 : count (nats (le (5 : Int).toNat 0)) = 0 := by decide
       rw [nats_append, nats_append, nats_append, nats_append, nats_append, nats_append, count_app, count_app, count_app, count_app, count_app, count_app, z2, z5]
       have z0 : count (nats []) = 0 := rfl
       rw [z0]
       simp only [show (1 : Int).toNat = 1 from rfl, show (4 : Int).toNat = 4 from rfl, show (8 : Int).toNat = 8 from rfl] at h1 h2 h3 h4 ⊢
       omega
      ·simp at e2
     ·simp at e2
    ·simp at e2
   ·simp at e2
  ·simp at e2
 ·cases e2
theorem decP_at {raw : List Int} {a0 a1 a2 a3 a4 a5 a6 : Int} (hg : okG a0 a1 a2 a3 a4 a5 a6) (hl : (raw.length : Int) = a3 * (a4 + 2) + 31) : decP raw a0 a1 a2 a3 a4 a5 a6 = decB a4.toNat a3.toNat (raw.take (raw.length - 31)) ((raw.take (raw.length - 1)).drop (raw.length - 31)) := by
 unfold decP
 rw [if_pos ⟨hg, hl⟩]
theorem empty_l0 {l : List Int} {a0 a1 a2 a3 a4 a5 a6 t1 t2 t3 t4 : Int} {d : List Int} (hl : ∀ x ∈ l, 0 ≤ x ∧ x < 65536) (h10 : l.length ≤ 10) 
  (hend : Ev (fun k => l08_PageEmpty.l0 k (l.map fun x => x % (8 * (rawN a0 a1 a2 a3 a4 a5 a6 : Int))) l (l.length : Int) (l.length : Int) a0 a1 a2 a3 a4 a5 a6 d t1 t2 t3 t4) true) (hr0 : 0 < rawN a0 a1 a2 a3 a4 a5 a6) :
  ∀ (e i : Nat), i + e = l.length → Ev (fun k => l08_PageEmpty.l0 k ((l.take i).map fun x => x % (8 * (rawN a0 a1 a2 a3 a4 a5 a6 : Int))) l (l.length : Int) (i : Int) a0 a1 a2 a3 a4 a5 a6 d t1 t2 t3 t4) true := by
 intro e
 induction e with
 | zero =>
  intro i hi
  obtain rfl : i = l.length := by omega
  rw [List.take_length]
  exact hend
 | succ e ih =>
  intro i hi
  have hlt : i < l.length := by omega
  have hn := rawN_le a0 a1 a2 a3 a4 a5 a6
  have hx := hl _ (List.getElem_mem hlt)
  refine Ev.step (fun k => l08_PageEmpty.l0.eq_2 ..) (Ev.pos (by omega) ?_)
  refine Ev.step (fun k => l08_PageEmpty.j4.eq_2 ..) (Ev.pos (by omega) (Ev.pos (by omega) (Ev.bindv (rawN_eq ..) ?_)))
  have ew : wrap64 (8 * (rawN a0 a1 a2 a3 a4 a5 a6 : Int)) = 8 * (rawN a0 a1 a2 a3 a4 a5 a6 : Int) := w64_id (by omega) (by omega)
  rw [ew, rd_nat hlt, w64_id (x := l[i]) (by omega) (by omega), Int.tmod_eq_emod_of_nonneg hx.1, w64_succ (by omega)]
  refine Ev.neg (by omega) (Ev.pos (by rw [List.length_map, List.length_take]; omega) ?_)
  have e2 := ih (i + 1) (by omega)
  rw [List.take_succ_eq_append_getElem hlt, List.map_append] at e2
  exact e2
theorem PageEmpty : StmPageEmpty := by
 rintro ⟨a0, a1, a2, a3, a4, a5, a6⟩ ⟨d, t1, t2, t3, t4⟩ l H1 H2 H3 H4
 have hd : ∀ x ∈ d, 0 ≤ x ∧ x < 256 := fun x hx => wf_u8 (H2.1.2 x hx)
 have hl : ∀ x ∈ l, 0 ≤ x ∧ x < 65536 := fun x hx => wf_u16 (H4.2 x hx)
 clear H1 H2 H3 H4
 show ∃ k, l08_PageEmpty.f k a0 a1 a2 a3 a4 a5 a6 d t1 t2 t3 t4 l = some true
 refine Ev.rounds (Ev.congr (fun k => by rw [l08_PageEmpty.f]) ?_)
 refine Ev.bind page_awake_ev (Ev.pos rfl ?_)
 have hoff : Ev (fun k => l08_PageEmpty.j1 k l true a0 a1 a2 a3 a4 a5 a6 d t1 t2 t3 t4) true := by
  refine Ev.step (fun k => l08_PageEmpty.j1.eq_2 ..) ?_
  exact Ev.pos rfl (Ev.ret rfl)
 refine Ev.step (fun k => l08_PageEmpty.j0.eq_2 ..) ?_
 obtain ⟨b, hb⟩ : ∃ b, l08_Small.f a0 a1 a2 a3 a4 a5 a6 = some b := by
  unfold l08_Small.f
  split
  ·split
   ·split
    ·exact ⟨_, rfl⟩
    ·exact ⟨_, rfl⟩
   ·exact ⟨_, rfl⟩
  ·exact ⟨_, rfl⟩
 refine Ev.bindv hb (Ev.ite (fun _ => Ev.bindv check_eq ?_) (fun _ => hoff))
 by_cases hg : okG a0 a1 a2 a3 a4 a5 a6
 case neg =>
  rw [if_neg hg]
  exact Ev.neg (by decide) hoff
 rw [if_pos hg]
 refine Ev.pos rfl (Ev.ite (fun _ => hoff) (fun h200 => ?_))
 by_cases h10 : (l.length : Int) > 10
 ·rw [decide_eq_true h10]
  exact hoff
 rw [decide_eq_false h10]
 refine Ev.step (fun k => l08_PageEmpty.j1.eq_2 ..) (Ev.neg (by decide) ?_)
 refine Ev.step (fun k => l08_PageEmpty.j2.eq_2 ..) ?_
 obtain ⟨g3, g4⟩ := okG_bounds hg
 have gm := mul_bound g3 (y := a4 + 2) ⟨by omega, by omega⟩
 have hraw : (rawN a0 a1 a2 a3 a4 a5 a6 : Int) = a3 * (a4 + 2) + 31 := by
  unfold rawN
  rw [if_pos hg]
  omega
 have hrle := rawN_le a0 a1 a2 a3 a4 a5 a6
 refine empty_l0 hl (by omega) ?_ (by omega) l.length 0 (by omega)
 have her := erased_ev a0 a1 a2 a3 a4 a5 a6
 obtain ⟨n, hn⟩ : ∃ n, rawN a0 a1 a2 a3 a4 a5 a6 = n := ⟨_, rfl⟩
 rw [hn] at her hraw hrle ⊢
 clear hn
 obtain ⟨m, hm⟩ : ∃ m, (l.map fun x => x % (8 * (n : Int))) = m := ⟨_, rfl⟩
 rw [hm]
 have hml : m.length = l.length := by rw [← hm, List.length_map]
 have hmx : ∀ i ∈ m, i ≤ 9223372036854775807 := fun i hi => by
  rw [← hm] at hi
  obtain ⟨x, _, rfl⟩ := List.mem_map.1 hi
  have := Int.emod_lt_of_pos x (show (0 : Int) < 8 * (n : Int) by omega)
  omega
 clear hm
 have hrb : ∀ x ∈ List.replicate n (255 : Int), 0 ≤ x ∧ x < 256 := fun x hx => by
  obtain rfl := (List.mem_replicate.1 hx).2
  exact ⟨by decide, by decide⟩
 have hnr : nats (List.replicate n (255 : Int)) = List.replicate n 255 := by
  unfold nats
  rw [List.map_replicate]
  rfl
 have hfl := flip_ev (l := List.replicate n 255) (at_ := m) hrb (by rw [List.length_replicate]; omega) hmx (by omega)
 rw [hnr] at hfl
 have hf2 : ∀ x ∈ ints (flips (List.replicate n 255) m), 0 ≤ x ∧ x < 256 := ints_byte (flips_lt m (fun b hb => by
  obtain rfl := (List.mem_replicate.1 hb).2
  decide))
 have hlen : (ints (flips (List.replicate n 255) m)).length = n := by rw [ints_length, flips_length, List.length_replicate]
 have hdec := pdec_ev hf2 a0 a1 a2 a3 a4 a5 a6
 have hemp : decP (ints (flips (List.replicate n 255) m)) a0 a1 a2 a3 a4 a5 a6 = ([], 0, 0, 0, 0, 2, 0) := by
  rw [decP_at hg (by rw [hlen]; exact hraw), hlen]
  refine decB_empty ?_
  have hp := piece_turns (n - 31) (n - 1) m (l := List.replicate n 255) (fun b hb => by
   obtain rfl := (List.mem_replicate.1 hb).2
   decide)
  have hc : count (((List.replicate n 255).take (n - 1)).drop (n - 31)) = 240 := by
   rw [List.take_replicate, List.drop_replicate, count_full]
   omega
  rw [hc, hml] at hp
  rw [nats_drop, nats_take, nats_ints, List.length_drop, List.length_take, hlen]
  unfold near at hp
  omega
 rw [hemp] at hdec
 have hmark := mark_ev hrb a0 a1 a2 a3 a4 a5 a6
 have hno : markP (List.replicate n 255) a0 a1 a2 a3 a4 a5 a6 = false := by
  unfold markP
  rw [List.length_replicate, List.drop_replicate]
  have e : nats (List.replicate (n - (n - 1)) (255 : Int)) = List.replicate (n - (n - 1)) 255 := by
   unfold nats
   rw [List.map_replicate]
   rfl
  rw [e, count_full]
  have : ¬ ((8 * (n - (n - 1)) : Nat) : Int) < 4 := by omega
  rw [decide_eq_false this, Bool.and_false]
 rw [hno] at hmark
 refine Ev.step (fun k => l08_PageEmpty.l0.eq_2 ..) (Ev.neg (by omega) ?_)
 refine Ev.bind her (Ev.bind hfl (Ev.bind hdec (Ev.pos rfl (Ev.pos rfl (Ev.bind her (Ev.bind hmark (Ev.neg (by decide) ?_)))))))
 clear hdec hemp hfl hf2 hlen hmark hno her hnr hrb
 refine Ev.step (fun k => l08_PageEmpty.j5.eq_2 ..) ?_
 refine Ev.bind (pe_ev hd a0 a1 a2 a3 a4 a5 a6 t1 t2 t3 t4) ?_
 unfold encP
 split
 ·rename_i hc
  obtain ⟨_, hmay, hdl⟩ := hc
  refine Ev.pos rfl ?_
  refine Ev.step (fun k => l08_PageEmpty.j6.eq_2 ..) ?_
  obtain ⟨x, hx, hxl, hxb⟩ := tag_fits hmay
  have hz := tag_zeros (x := x) (by rw [hx]) (by rw [hx])
  rw [hx]
  dsimp only
  obtain ⟨C, rfl⟩ := Int.eq_ofNat_of_zero_le (a := a3) (by omega)
  obtain ⟨S, rfl⟩ := Int.eq_ofNat_of_zero_le (a := a4) (by omega)
  rw [Int.toNat_natCast, Int.toNat_natCast]
  have hdl2 : d.length = C * S := by
   rw [← Int.natCast_mul] at hdl
   exact_mod_cast hdl
  have en : (C : Int) * ((S : Int) + 2) = ((C * (S + 2) : Nat) : Int) := by rw [Int.natCast_mul, Int.natCast_add]; rfl
  rw [en] at hraw gm
  have hcb : ∀ y ∈ chunksP d S C, 0 ≤ y ∧ y < 256 := fun y hy => by
   unfold chunksP at hy
   obtain ⟨j, _, hy⟩ := List.mem_flatMap.1 hy
   exact ints_byte (encN_lt (nats_lt (cutG_byte hd S j)) (by rw [nats_length]; have := cutG_le d S j; omega)) y hy
  have hsum : ∀ y ∈ four (CrcMath.sum (nats (d ++ x))), 0 ≤ y ∧ y < 256 := four_byte _
  have hfl4 : (four (CrcMath.sum (nats (d ++ x)))).length = 4 := rfl
  obtain ⟨f, hf⟩ : ∃ f, four (CrcMath.sum (nats (d ++ x))) = f := ⟨_, rfl⟩
  have hcl : (chunksP d S C).length = C * (S + 2) := chunksP_len hdl2 C (Nat.le_refl _)
  have hraweq : rawP d S C x = chunksP d S C ++ (encI (x ++ f) ++ [255]) := by
   unfold rawP tailP
   rw [hf]
  rw [hf] at hsum hfl4
  have hel : (encI (x ++ f)).length = 30 := by rw [encI_len, List.length_append]; omega
  have heb : ∀ y ∈ encI (x ++ f), 0 ≤ y ∧ y < 256 := ints_byte (encN_lt (nats_lt (app_byte hxb hsum)) (by rw [nats_length, List.length_append]; omega))
  have hrb : ∀ y ∈ rawP d S C x, 0 ≤ y ∧ y < 256 := by
   rw [hraweq]
   exact app_byte hcb (app_byte heb (fun y hy => by rw [List.mem_singleton.1 hy]; exact ⟨by decide, by decide⟩))
  have hrl : (rawP d S C x).length = C * (S + 2) + 31 := by
   rw [hraweq, List.length_append, List.length_append, hcl, hel]
   rfl
  have hlab : ((nats (rawP d S C x)).take (C * (S + 2) + 30)).drop (C * (S + 2)) = nats (encI (x ++ f)) := by
   rw [← nats_take, ← nats_drop, hraweq, ← List.append_assoc, List.take_left' (by rw [List.length_append, hcl, hel]), List.drop_left' hcl]
  have hcnt : count (nats (encI (x ++ f))) ≤ 184 := by
   unfold encI
   rw [nats_ints]
   unfold encN encW
   rw [count_app, nats_append, count_app]
   have h1 := count_le (nats f)
   rw [nats_length, hfl4] at h1
   have h2 := count_le [wordN (nats x ++ nats f) % 256, wordN (nats x ++ nats f) / 256]
   simp only [List.length_cons, List.length_nil] at h2
   omega
  generalize hR : rawP d S C x = R at hrb hrl hlab
  have hfl := flip_ev (l := R) (at_ := m) hrb (by omega) hmx (by omega)
  have hf2 : ∀ y ∈ ints (flips (nats R) m), 0 ≤ y ∧ y < 256 := ints_byte (flips_lt m (nats_lt hrb))
  have hlen : (ints (flips (nats R) m)).length = C * (S + 2) + 31 := by rw [ints_length, flips_length, nats_length, hrl]
  have hdec := pdec_ev hf2 a0 a1 a2 (C : Int) (S : Int) a5 a6
  have hne : (decP (ints (flips (nats R) m)) a0 a1 a2 (C : Int) (S : Int) a5 a6).2.2.2.2.2.1 ≠ 2 := by
   rw [decP_at hg (by rw [hlen, en]; omega), hlen]
   refine decB_full ?_
   have hp := piece_turns (C * (S + 2)) (C * (S + 2) + 30) m (l := nats R) (nats_lt hrb)
   rw [hlab, hml] at hp
   rw [show C * (S + 2) + 31 - 31 = C * (S + 2) by omega, show C * (S + 2) + 31 - 1 = C * (S + 2) + 30 by omega, nats_drop, nats_take, nats_ints, List.length_drop, List.length_take, hlen]
   unfold near at hp
   omega
  refine Ev.bind hfl (Ev.bind hdec (Ev.ret ?_))
  exact bne_iff_ne.2 hne
 ·exact Ev.neg (by decide) (Ev.ret rfl)
end Go.Proofs.Ytmehbabchakkpaa.Pure
