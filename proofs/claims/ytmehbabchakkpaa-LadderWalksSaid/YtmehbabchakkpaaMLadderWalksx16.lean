import Derived.Test.YtmehbabchakkpaaMLadderWalksx15
namespace Go.Proofs.Ytmehbabchakkpaa.BitsMath
open CrcMath
def flip1 (l : List Nat) (i : Int) : List Nat := if 0 ≤ i ∧ i / 8 < (l.length : Int) then l.set (i.toNat / 8) (l.getD (i.toNat / 8) 0 ^^^ 2 ^ (i.toNat % 8)) else l
def flips (l : List Nat) (at_ : List Int) : List Nat := at_.foldl flip1 l
def ones (b : Nat) : Nat := (bitsOf 8 b).sum
def count (l : List Nat) : Nat := (l.map ones).sum
theorem flip1_length (l : List Nat) (i : Int) : (flip1 l i).length = l.length := by
 unfold flip1
 split
 ·exact List.length_set
 ·rfl
theorem flip1_lt {l : List Nat} (h : ∀ b ∈ l, b < 256) (i : Int) : ∀ b ∈ flip1 l i, b < 256 := by
 unfold flip1
 split
 ·intro b hb
  rcases List.mem_or_eq_of_mem_set hb with hb | rfl
  ·exact h b hb
  ·have h1 : 2 ^ (i.toNat % 8) < 2 ^ 8 := Nat.pow_lt_pow_right (by decide) (Nat.mod_lt _ (by decide))
   refine Nat.xor_lt_two_pow (n := 8) ?_ h1
   rw [List.getD_eq_getElem?_getD]
   cases e : l[i.toNat / 8]? with
   | none => decide
   | some x => exact h x (List.mem_of_getElem? e)
 ·exact h
theorem flips_length : ∀ (at_ : List Int) (l : List Nat), (flips l at_).length = l.length
 | [], _ => rfl
 | i :: at_, l => by
  show (flips (flip1 l i) at_).length = _
  rw [flips_length at_, flip1_length]
theorem flips_lt : ∀ (at_ : List Int) {l : List Nat}, (∀ b ∈ l, b < 256) → ∀ b ∈ flips l at_, b < 256
 | [], _, h => h
 | i :: at_, _, h => flips_lt at_ (flip1_lt h i)
theorem ones_le (b : Nat) : ones b ≤ 8 := by
 unfold ones
 simp only [bitsOf, List.sum_cons, List.sum_nil]
 omega
theorem count_le : ∀ l : List Nat, count l ≤ 8 * l.length
 | [] => Nat.le_refl _
 | b :: l => by
  have h1 := count_le l
  have h2 := ones_le b
  unfold count at h1 ⊢
  rw [List.map_cons, List.sum_cons, List.length_cons]
  omega
theorem ones_table : ∀ b : Nat, b < 256 → ones b = [0, 1, 1, 2, 1, 2, 2, 3, 1, 2, 2, 3, 2, 3, 3, 4, 1, 2, 2, 3, 2, 3, 3, 4, 2, 3, 3, 4, 3, 4, 4, 5, 1, 2, 2, 3, 2, 3, 3, 4, 2, 3, 3, 4, 3, 4, 4, 5, 2, 3, 3, 4, 3, 4, 4, 5, 3, 4, 4, 5, 4, 5, 5, 6, 1, 2, 2, 3, 2, 3, 3, 4, 2, 3, 3, 4, 3, 4, 4, 5, 2, 3, 3, 4, 3, 4, 4, 5, 3, 4, 4, 5, 4, 5, 5, 6, 2, 3, 3, 4, 3, 4, 4, 5, 3, 4, 4, 5, 4, 5, 5, 6, 3, 4, 4, 5, 4, 5, 5, 6, 4, 5, 5, 6, 5, 6, 6, 7, 1, 2, 2, 3, 2, 3, 3, 4, 2, 3, 3, 4, 3, 4, 4, 5, 2, 3, 3, 4, 3, 4, 4, 5, 3, 4, 4, 5, 4, 5, 5, 6, 2, 3, 3, 4, 3, 4, 4, 5, 3, 4, 4, 5, 4, 5, 5, 6, 3, 4, 4, 5, 4, 5, 5, 6, 4, 5, 5, 6, 5, 6, 6, 7, 2, 3, 3, 4, 3, 4, 4, 5, 3, 4, 4, 5, 4, 5, 5, 6, 3, 4, 4, 5, 4, 5, 5, 6, 4, 5, 5, 6, 5, 6, 6, 7, 3, 4, 4, 5, 4, 5, 5, 6, 4, 5, 5, 6, 5, 6, 6, 7, 4, 5, 5, 6, 5, 6, 6, 7, 5, 6, 6, 7, 6, 7, 7, 8].getD b 0 := by
 decide +kernel
end Go.Proofs.Ytmehbabchakkpaa.BitsMath
namespace Go.Proofs.Ytmehbabchakkpaa.BitsMath
open CrcMath
theorem bitAt_test (l : List Nat) (i : Nat) : bitAt l i = ((l.getD (i / 8) 0).testBit (i % 8)).toNat := by
 unfold bitAt
 rw [Nat.testBit_eq_decide_div_mod_eq]
 generalize l.getD (i / 8) 0 / 2 ^ (i % 8) = q
 rcases Nat.mod_two_eq_zero_or_one q with h | h <;> rw [h] <;> rfl
theorem bitAt_flip1 (l : List Nat) (i : Nat) (hi : i / 8 < l.length) (j : Nat) : bitAt (flip1 l (i : Int)) j = if i = j then 1 - bitAt l j else bitAt l j := by
 unfold flip1
 rw [if_pos (by omega), Int.toNat_natCast, bitAt_test, bitAt_test]
 rw [List.getD_eq_getElem?_getD (l := l.set _ _), List.getElem?_set]
 by_cases h1 : i / 8 = j / 8
 ·rw [if_pos h1, if_pos hi, Option.getD_some, Nat.testBit_xor, Nat.testBit_two_pow, h1]
  by_cases h2 : i % 8 = j % 8
  ·rw [if_pos (by omega), h2]
   cases (l.getD (j / 8) 0).testBit (j % 8) <;> simp
  ·rw [if_neg (by omega), decide_eq_false h2, Bool.xor_false]
 ·rw [if_neg h1, if_neg (fun h => h1 (by rw [h])), List.getD_eq_getElem?_getD]
theorem bitList_length (l : List Nat) : (bitList l).length = 8 * l.length := by simp [bitList]
theorem bitList_get {l : List Nat} {i : Nat} (h : i < 8 * l.length) : (bitList l)[i]? = some (bitAt l i) := by
 unfold bitList
 rw [List.getElem?_map, List.getElem?_range h]
 rfl
theorem bitList_flip1 (l : List Nat) (i : Nat) (hi : i / 8 < l.length) : bitList (flip1 l (i : Int)) = (bitList l).set i (1 - bitAt l i) := by
 apply List.ext_getElem?
 intro j
 rw [List.getElem?_set, bitList_length]
 by_cases hj : j < 8 * l.length
 ·rw [bitList_get (by rw [flip1_length]; exact hj), bitAt_flip1 l i hi j, bitList_get hj]
  by_cases h : i = j
  ·subst h
   rw [if_pos rfl, if_pos rfl, if_pos hj]
  ·rw [if_neg h, if_neg h]
 ·rw [List.getElem?_eq_none (by rw [bitList_length, flip1_length]; omega), if_neg (by omega), List.getElem?_eq_none (by rw [bitList_length]; omega)]
theorem sum_flatMap (l : List Nat) : (l.flatMap (bitsOf 8)).sum = count l := by
 induction l with
 | nil => rfl
 | cons b l ih =>
  rw [List.flatMap_cons, List.sum_append, ih]
  rfl
theorem count_bits (l : List Nat) : (bitList l).sum = count l := by rw [bitList_eq, sum_flatMap]
end Go.Proofs.Ytmehbabchakkpaa.BitsMath
namespace Go.Proofs.Ytmehbabchakkpaa.BitsMath
open CrcMath
theorem getD_lt {l : List Nat} (h : ∀ b ∈ l, b < 256) (i : Nat) : l.getD i 0 < 256 := by
 rw [List.getD_eq_getElem?_getD]
 cases e : l[i]? with
 | none => decide
 | some x => exact h x (List.mem_of_getElem? e)
def diffN (a b : List Nat) : List Nat := (List.range (8 * min a.length b.length)).filter fun i => bitAt a i ≠ bitAt b i
end Go.Proofs.Ytmehbabchakkpaa.BitsMath
namespace Go.Proofs.Ytmehbabchakkpaa.BitsMath
open Go.RowKit CrcMath
theorem bitAt_lt2 (l : List Nat) (i : Nat) : bitAt l i < 2 := Nat.mod_lt _ (by decide)
theorem bits_ext {a b : List Nat} (ha : ∀ x ∈ a, x < 256) (hb : ∀ x ∈ b, x < 256) (hl : a.length = b.length) (h : ∀ j, j < 8 * a.length → bitAt a j = bitAt b j) : a = b := by
 refine List.ext_getElem hl (fun i h1 h2 => ?_)
 have hai := ha _ (List.getElem_mem h1)
 have hbi := hb _ (List.getElem_mem h2)
 refine Nat.eq_of_testBit_eq (fun j => ?_)
 by_cases hj : j < 8
 ·have := h (8 * i + j) (by omega)
  rw [bitAt_test, bitAt_test, show (8 * i + j) / 8 = i by omega, show (8 * i + j) % 8 = j by omega, List.getD_eq_getElem?_getD, List.getD_eq_getElem?_getD, List.getElem?_eq_getElem h1, List.getElem?_eq_getElem h2, Option.getD_some, Option.getD_some] at this
  revert this
  cases a[i].testBit j <;> cases b[i].testBit j <;> decide
 ·have hp : 2 ^ 8 ≤ 2 ^ j := Nat.pow_le_pow_right (by decide) (by omega)
  rw [Nat.testBit_lt_two_pow (Nat.lt_of_lt_of_le hai hp), Nat.testBit_lt_two_pow (Nat.lt_of_lt_of_le hbi hp)]
theorem flips_bits : ∀ (p : List Nat) (l : List Nat), p.Nodup → (∀ i ∈ p, i / 8 < l.length) → ∀ j, bitAt (flips l (p.map fun i : Nat => (i : Int))) j = if j ∈ p then 1 - bitAt l j else bitAt l j
 | [], l, _, _, j => by simp [flips]
 | i :: p, l, hn, hp, j => by
  obtain ⟨hi, hn'⟩ := List.nodup_cons.1 hn
  have hil := hp i (List.mem_cons_self ..)
  have h := flips_bits p (flip1 l (i : Int)) hn' (fun k hk => by rw [flip1_length]; exact hp k (List.mem_cons_of_mem _ hk)) j
  show bitAt (flips (flip1 l (i : Int)) (p.map fun i : Nat => (i : Int))) j = _
  rw [h, bitAt_flip1 l i hil]
  by_cases e : i = j
  ·subst e
   rw [if_neg hi, if_pos rfl, if_pos (List.mem_cons_self ..)]
  ·rw [if_neg e]
   by_cases hj : j ∈ p
   ·rw [if_pos hj, if_pos (List.mem_cons_of_mem _ hj)]
   ·rw [if_neg hj, if_neg (fun hm => by
    rcases List.mem_cons.1 hm with hm | hm
    ·exact e hm.symm
    ·exact hj hm)]
theorem mem_diffN {a b : List Nat} {j : Nat} : j ∈ diffN a b ↔ j < 8 * min a.length b.length ∧ bitAt a j ≠ bitAt b j := by
 unfold diffN
 rw [List.mem_filter, List.mem_range]
 simp
theorem diffN_nodup (a b : List Nat) : (diffN a b).Nodup := List.Pairwise.filter _ List.nodup_range
theorem flips_diff {a b : List Nat} (ha : ∀ x ∈ a, x < 256) (hb : ∀ x ∈ b, x < 256) (hl : a.length = b.length) : flips a ((diffN a b).map fun i : Nat => (i : Int)) = b := by
 refine bits_ext (flips_lt _ ha) hb (by rw [flips_length]; exact hl) (fun j hj => ?_)
 rw [flips_length] at hj
 rw [flips_bits _ a (diffN_nodup a b) (fun i hi => by have := (mem_diffN.1 hi).1; omega) j]
 have h1 := bitAt_lt2 a j
 have h2 := bitAt_lt2 b j
 by_cases h : j ∈ diffN a b
 ·rw [if_pos h]
  have := (mem_diffN.1 h).2
  omega
 ·rw [if_neg h]
  by_cases e : bitAt a j = bitAt b j
  ·exact e
  ·exact absurd (mem_diffN.2 ⟨by omega, e⟩) h
end Go.Proofs.Ytmehbabchakkpaa.BitsMath
namespace Go.Proofs.Ytmehbabchakkpaa.HamMath
open Go.RowKit CrcMath BitsMath LenMath
def gx (l : List Nat) : Nat → Nat
 | 0 => 0
 | m + 1 => if bitAt l m = 1 then gx l m ^^^ place m else gx l m
def go (l : List Nat) : Nat → Bool
 | 0 => false
 | m + 1 => if bitAt l m = 1 then !go l m else go l m
theorem gx_succ (l : List Nat) (m : Nat) : gx l (m + 1) = if bitAt l m = 1 then gx l m ^^^ place m else gx l m := rfl
theorem go_succ (l : List Nat) (m : Nat) : go l (m + 1) = if bitAt l m = 1 then !go l m else go l m := rfl
theorem place_lt {n : Nat} (h : n ≤ 5000) : place n < 8192 := by
 obtain ⟨_, h2, _⟩ := isPlace_place (n := n) (by omega)
 have : place n < 4194304 := by
  by_cases hlt : place n < 4194304
  ·exact hlt
  ·exfalso
   have hp := len_add (p := 4194303) (by omega) (place n - 4194303)
   rw [show 4194303 + (place n - 4194303) = place n by omega] at hp
   have := len_le22 (p := 4194303) (by omega)
   omega
 have := len_le22 this
 omega
theorem gx_lt (l : List Nat) : ∀ m, m ≤ 5000 → gx l m < 8192
 | 0, _ => Nat.zero_lt_succ _
 | m + 1, h => by
  have ih := gx_lt l m (by omega)
  unfold gx
  split
  ·exact Nat.xor_lt_two_pow (n := 13) ih (place_lt (by omega))
  ·exact ih
theorem gx_flip {l : List Nat} {i : Nat} (hi : i / 8 < l.length) : ∀ m, gx (flip1 l (i : Int)) m = if i < m then gx l m ^^^ place i else gx l m
 | 0 => by rw [if_neg (by omega)]; rfl
 | m + 1 => by
  have ih := gx_flip hi m
  unfold gx
  rw [bitAt_flip1 l i hi, ih]
  have hb := bitAt_lt2 l m
  by_cases e : i = m
  ·subst e
   rw [if_pos rfl, if_neg (Nat.lt_irrefl _), if_pos (Nat.lt_succ_self _)]
   by_cases h1 : bitAt l i = 1
   ·rw [if_neg (show ¬ 1 - bitAt l i = 1 by omega), if_pos h1, Nat.xor_assoc, Nat.xor_self, Nat.xor_zero]
   ·rw [if_pos (show 1 - bitAt l i = 1 by omega), if_neg h1]
  ·rw [if_neg e]
   by_cases hlt : i < m
   ·rw [if_pos hlt, if_pos (show i < m + 1 by omega)]
    split
    ·rw [Nat.xor_assoc, Nat.xor_comm (place i), ← Nat.xor_assoc]
    ·rfl
   ·rw [if_neg hlt, if_neg (show ¬ i < m + 1 by omega)]
theorem go_flip {l : List Nat} {i : Nat} (hi : i / 8 < l.length) : ∀ m, go (flip1 l (i : Int)) m = if i < m then !go l m else go l m
 | 0 => by rw [if_neg (by omega)]; rfl
 | m + 1 => by
  have ih := go_flip hi m
  unfold go
  rw [bitAt_flip1 l i hi, ih]
  have hb := bitAt_lt2 l m
  by_cases e : i = m
  ·subst e
   rw [if_pos rfl, if_neg (Nat.lt_irrefl _), if_pos (Nat.lt_succ_self _)]
   by_cases h1 : bitAt l i = 1
   ·rw [if_neg (show ¬ 1 - bitAt l i = 1 by omega), if_pos h1, Bool.not_not]
   ·rw [if_pos (show 1 - bitAt l i = 1 by omega), if_neg h1]
  ·rw [if_neg e]
   by_cases hlt : i < m
   ·rw [if_pos hlt, if_pos (show i < m + 1 by omega)]
    split
    ·rfl
    ·rfl
   ·rw [if_neg hlt, if_neg (show ¬ i < m + 1 by omega)]
def par (x : Nat) : Bool := decide ((bitsOf 16 x).sum % 2 = 1)
theorem bitsOf_xor : ∀ n x y : Nat, (bitsOf n (x ^^^ y)).sum % 2 = ((bitsOf n x).sum + (bitsOf n y).sum) % 2
 | 0, _, _ => rfl
 | n + 1, x, y => by
  have ih := bitsOf_xor n (x / 2) (y / 2)
  have e : (x ^^^ y) / 2 = x / 2 ^^^ y / 2 := Nat.xor_div_two
  have h : (x ^^^ y) % 2 = (x % 2 + y % 2) % 2 := by
   have b : ∀ z : Nat, z % 2 = (z.testBit 0).toNat := fun z => by
    rw [Nat.toNat_testBit, Nat.pow_zero, Nat.div_one]
   rw [b x, b y, b (x ^^^ y), Nat.testBit_xor]
   cases x.testBit 0 <;> cases y.testBit 0 <;> decide
  unfold bitsOf
  rw [List.sum_cons, List.sum_cons, List.sum_cons, e]
  omega
theorem par_xor (x y : Nat) : par (x ^^^ y) = (par x != par y) := by
 have h := bitsOf_xor 16 x y
 unfold par
 rw [h]
 have a := Nat.mod_two_eq_zero_or_one (bitsOf 16 x).sum
 have b := Nat.mod_two_eq_zero_or_one (bitsOf 16 y).sum
 rw [Nat.add_mod]
 rcases a with a | a <;> rcases b with b | b <;> rw [a, b] <;> decide
theorem par_pow : ∀ j : Nat, j < 16 → par (2 ^ j) = true := by decide
theorem bitsOf_add : ∀ m n a : Nat, (bitsOf (m + n) a).sum = (bitsOf m a).sum + (bitsOf n (a / 2 ^ m)).sum
 | 0, n, a => by rw [Nat.zero_add, Nat.pow_zero, Nat.div_one]; simp [bitsOf]
 | m + 1, n, a => by
  have ih := bitsOf_add m n (a / 2)
  rw [Nat.div_div_eq_div_mul, ← Nat.pow_succ'] at ih
  rw [show m + 1 + n = (m + n) + 1 by omega]
  unfold bitsOf
  rw [List.sum_cons, ih]
  have e : (bitsOf (m + 1) a).sum = a % 2 + (bitsOf m (a / 2)).sum := rfl
  cases n with
  | zero => simp [bitsOf]
  | succ n =>
   show a % 2 + ((bitsOf m (a / 2)).sum + (bitsOf (n + 1) (a / 2 ^ (m + 1))).sum) = (a % 2 :: bitsOf m (a / 2)).sum + _
   rw [List.sum_cons, Nat.add_assoc]
   rfl
theorem bitsOf_mod : ∀ m a : Nat, bitsOf m (a % 2 ^ m) = bitsOf m a
 | 0, _ => rfl
 | m + 1, a => by
  have ih := bitsOf_mod m (a / 2)
  have e1 : a % 2 ^ (m + 1) / 2 = a / 2 % 2 ^ m := by
   rw [Nat.pow_succ']
   exact Nat.mod_mul_right_div_self ..
  have e2 : a % 2 ^ (m + 1) % 2 = a % 2 := by
   rw [Nat.pow_succ']
   exact Nat.mod_mul_right_mod ..
  unfold bitsOf
  rw [e1, e2, ih]
theorem par_ones {a : Nat} : par a = decide ((ones (a / 256) + ones (a % 256)) % 2 = 1) := by
 unfold par ones
 have h1 := bitsOf_add 8 8 a
 have h2 := bitsOf_mod 8 a
 rw [show 2 ^ 8 = 256 from rfl] at h1 h2
 rw [show 16 = 8 + 8 from rfl, h1, h2, Nat.add_comm]
def chk (l : List Nat) : Nat := if go l (8 * l.length) != par (gx l (8 * l.length)) then 1 else 0
def wordN (l : List Nat) : Nat := gx l (8 * l.length) + 8192 * chk l + 49152
end Go.Proofs.Ytmehbabchakkpaa.HamMath
namespace Go.Proofs.Ytmehbabchakkpaa.PureLadderWalks
open Go.RowKit QLadderWalks YtmehbabchakkpaaW.PrintWords YtmehbabchakkpaaW.PrintLast YtmehbabchakkpaaW.PrintMore EvKit BitsKit CrcMath NatKit BitsMath LenMath HamMath
theorem gbit_eq {b j : Nat} (hb : b < 256) : hamming_gather_gbit (b : Int) j = decide (b / 2 ^ j % 2 = 1) := by
 have e : (if j = 0 then (b : Int) else (b : Int) / 2 ^ j) = ((b / 2 ^ j : Nat) : Int) := by
  split
  ·rename_i h
   subst h
   rw [Nat.pow_zero, Nat.div_one]
  ·rw [Int.natCast_ediv, Int.natCast_pow]
   rfl
 have hlt : b / 2 ^ j < 256 := Nat.lt_of_le_of_lt (Nat.div_le_self _ _) hb
 unfold hamming_gather_gbit
 rw [e]
 generalize b / 2 ^ j = x at hlt ⊢
 have := and_u8 (a := x) (b := 1) hlt (by decide)
 rw [show ((1 : Nat) : Int) = 1 from rfl] at this
 rw [this, Nat.and_one_is_mod]
 by_cases h : x % 2 = 1
 ·rw [h, decide_eq_true rfl]
  rfl
 ·rw [decide_eq_false h]
  have : x % 2 = 0 := by omega
  rw [this]
  rfl
def placesAt (q : Nat) : List Int := [((place (8 * q) : Nat) : Int), ((place (8 * q + 1) : Nat) : Int), ((place (8 * q + 2) : Nat) : Int), ((place (8 * q + 3) : Nat) : Int), ((place (8 * q + 4) : Nat) : Int), ((place (8 * q + 5) : Nat) : Int), ((place (8 * q + 6) : Nat) : Int), ((place (8 * q + 7) : Nat) : Int)]
theorem placesAt_get (q j : Nat) (h : j < 8) : (placesAt q).getD j 0 = ((place (8 * q + j) : Nat) : Int) := by
 obtain rfl | rfl | rfl | rfl | rfl | rfl | rfl | rfl : j = 0 ∨ j = 1 ∨ j = 2 ∨ j = 3 ∨ j = 4 ∨ j = 5 ∨ j = 6 ∨ j = 7 := by omega
 all_goals rfl
theorem eightF_ev {q : Nat} (hq : q < 600) : Ev (fun k => hamming_gather_eightF k (q : Int)) (placesAt q) := by
 refine Ev.congr (fun k => by rw [hamming_gather_eightF]) ?_
 refine Ev.pos (by omega) ?_
 have e : ∀ j : Nat, j < 8 → Ev (fun k => hamming_Place.f k (8 * (q : Int) + (j : Int))) ((place (8 * q + j) : Nat) : Int) := by
  intro j hj
  have := place_is_ev (n := 8 * q + j) (by omega)
  rwa [show ((8 * q + j : Nat) : Int) = 8 * (q : Int) + (j : Int) by omega] at this
 have e0 : Ev (fun k => hamming_Place.f k (8 * (q : Int))) ((place (8 * q) : Nat) : Int) := by
  have := e 0 (by omega)
  rwa [show 8 * (q : Int) + ((0 : Nat) : Int) = 8 * (q : Int) by omega] at this
 refine Ev.bind e0 ?_
 refine Ev.bind (e 1 (by omega)) ?_
 refine Ev.bind (e 2 (by omega)) ?_
 refine Ev.bind (e 3 (by omega)) ?_
 refine Ev.bind (e 4 (by omega)) ?_
 refine Ev.bind (e 5 (by omega)) ?_
 refine Ev.bind (e 6 (by omega)) ?_
 exact Ev.bind (e 7 (by omega)) (Ev.ret rfl)
theorem gup_eq {l : List Nat} (hl : ∀ b ∈ l, b < 256) {q : Nat} (hq : q < l.length) (hn : l.length ≤ 600) : ∀ j : Nat, j ≤ 8 →
  hamming_gather_gup ((l.getD q 0 : Nat) : Int) (placesAt q) (((gx l (8 * q) : Nat) : Int), go l (8 * q)) j = (((gx l (8 * q + j) : Nat) : Int), go l (8 * q + j))
 | 0, _ => rfl
 | j + 1, hj => by
  have ih := gup_eq hl hq hn j (by omega)
  have hb := getD_lt hl q
  have hx := gx_lt l (8 * q + j) (by omega)
  have hp := place_lt (n := 8 * q + j) (by omega)
  have hbit : bitAt l (8 * q + j) = l.getD q 0 / 2 ^ j % 2 := by
   unfold bitAt
   rw [show (8 * q + j) / 8 = q by omega, show (8 * q + j) % 8 = j by omega]
  rw [← Nat.add_assoc]
  show hamming_gather_gst _ _ _ _ = _
  unfold hamming_gather_gst
  rw [ih, gbit_eq hb, placesAt_get q j (by omega)]
  rw [gx_succ, go_succ, hbit]
  by_cases h : l.getD q 0 / 2 ^ j % 2 = 1
  ·rw [decide_eq_true h, if_pos rfl, if_pos h, if_pos h, w_u16 _ (by omega) (by omega), xor_u16 (by omega) (by omega)]
  ·rw [decide_eq_false h, if_neg (by decide), if_neg h, if_neg h]
theorem gx_zero {l : List Nat} {q : Nat} (h : l.getD q 0 = 0) : ∀ j : Nat, j ≤ 8 → gx l (8 * q + j) = gx l (8 * q) ∧ go l (8 * q + j) = go l (8 * q)
 | 0, _ => ⟨rfl, rfl⟩
 | j + 1, hj => by
  have ih := gx_zero h j (by omega)
  have hbit : bitAt l (8 * q + j) = 0 := by
   unfold bitAt
   rw [show (8 * q + j) / 8 = q by omega, h, Nat.zero_div]
  rw [← Nat.add_assoc]
  rw [gx_succ, go_succ, hbit, if_neg (by decide), if_neg (by decide)]
  exact ih
theorem gather_l0 {l : List Int} (hl : ∀ x ∈ l, 0 ≤ x ∧ x < 256) (hn : l.length ≤ 600) (d : Nat) : ∀ q : Nat, q + d = l.length →
  Ev (fun k => hamming_gather.l0 k l ((gx (nats l) (8 * q) : Nat) : Int) (go (nats l) (8 * q)) (q : Int)) (((gx (nats l) (8 * l.length) : Nat) : Int), go (nats l) (8 * l.length)) := by
 induction d with
 | zero =>
  intro q hq
  refine Ev.step (fun k => hamming_gather.l0.eq_2 ..) ?_
  refine Ev.neg (by omega) (Ev.ret ?_)
  rw [show q = l.length by omega]
 | succ d ih =>
  intro q hq
  have hql : q < (nats l).length := by rw [nats_length]; omega
  have hr := rd_nats (l := l) (fun x hx => (hl x hx).1) q
  have next := ih (q + 1) (by omega)
  refine Ev.step (fun k => hamming_gather.l0.eq_2 ..) ?_
  refine Ev.pos (by omega) (Ev.pos (by omega) (Ev.pos (by omega) ?_))
  rw [hr, show (q : Int) + 1 = ((q + 1 : Nat) : Int) from rfl]
  refine Ev.ite (fun h0 => ?_) (fun _ => ?_)
  ·have hz := gx_zero (l := nats l) (q := q) (by omega) 8 (Nat.le_refl _)
   rw [show 8 * (q + 1) = 8 * q + 8 by omega, hz.1, hz.2] at next
   exact next
  ·refine Ev.bind (eightF_ev (q := q) (by omega)) ?_
   rw [gup_eq (nats_lt hl) hql (by rw [nats_length]; exact hn) 8 (Nat.le_refl _)]
   rw [show 8 * (q + 1) = 8 * q + 8 by omega] at next
   exact next
theorem gather_ev {l : List Int} (hl : ∀ x ∈ l, 0 ≤ x ∧ x < 256) (hn : l.length ≤ 600) : Ev (fun k => hamming_gather.f k l) (((gx (nats l) (8 * l.length) : Nat) : Int), go (nats l) (8 * l.length)) := by
 refine Ev.congr (fun k => by rw [hamming_gather.f]) ?_
 exact gather_l0 hl hn l.length 0 (by omega)
end Go.Proofs.Ytmehbabchakkpaa.PureLadderWalks
namespace Go.Proofs.Ytmehbabchakkpaa.HamMath
open Go.RowKit CrcMath BitsMath LenMath
def wrongN (l : List Nat) (w : Nat) : Nat := (gx l (8 * l.length) ^^^ w) % 8192
def single (l : List Nat) (w : Nat) : Bool := go l (8 * l.length) != par (w % 16384)
theorem wrongN_lt (l : List Nat) (w : Nat) : wrongN l w < 8192 := Nat.mod_lt _ (by decide)
theorem xor_mod13 (a b : Nat) : (a ^^^ b) % 8192 = a % 8192 ^^^ b % 8192 := Nat.xor_mod_two_pow (n := 13)
theorem xor_mod14 (a b : Nat) : (a ^^^ b) % 16384 = a % 16384 ^^^ b % 16384 := Nat.xor_mod_two_pow (n := 14)
theorem chk_le (l : List Nat) : chk l ≤ 1 := by unfold chk; split <;> omega
theorem wordN_13 {l : List Nat} (h : l.length ≤ 600) : wordN l % 8192 = gx l (8 * l.length) := by
 have h1 := gx_lt l (8 * l.length) (by omega)
 have h2 := chk_le l
 unfold wordN
 omega
theorem wordN_14 {l : List Nat} (h : l.length ≤ 600) : wordN l % 16384 = gx l (8 * l.length) + 8192 * chk l := by
 have h1 := gx_lt l (8 * l.length) (by omega)
 have h2 := chk_le l
 unfold wordN
 omega
theorem wordN_top {l : List Nat} (h : l.length ≤ 600) : wordN l / 16384 = 3 := by
 have h1 := gx_lt l (8 * l.length) (by omega)
 have h2 := chk_le l
 unfold wordN
 omega
theorem wrong_word {l : List Nat} (h : l.length ≤ 600) : wrongN l (wordN l) = 0 := by
 have h1 := gx_lt l (8 * l.length) (by omega)
 unfold wrongN
 rw [xor_mod13, wordN_13 h, Nat.mod_eq_of_lt h1, Nat.xor_self]
theorem single_word {l : List Nat} (h : l.length ≤ 600) : single l (wordN l) = false := by
 have h1 := gx_lt l (8 * l.length) (by omega)
 unfold single
 rw [wordN_14 h]
 unfold chk
 by_cases e : (go l (8 * l.length) != par (gx l (8 * l.length))) = true
 ·rw [if_pos e]
  have e2 : gx l (8 * l.length) + 8192 * 1 = gx l (8 * l.length) ^^^ 2 ^ 13 := by
   have := Nat.two_pow_add_eq_or_of_lt (i := 13) (b := gx l (8 * l.length)) h1 1
   apply Nat.eq_of_testBit_eq
   intro i
   rw [show gx l (8 * l.length) + 8192 * 1 = 2 ^ 13 * 1 + gx l (8 * l.length) by omega, this, Nat.testBit_or, Nat.testBit_xor, show 2 ^ 13 * 1 = 2 ^ 13 by omega, Nat.testBit_two_pow]
   by_cases hi : 13 = i
   ·subst hi
    rw [Nat.testBit_lt_two_pow h1]
    rfl
   ·rw [decide_eq_false hi]
    simp
  rw [e2, par_xor, par_pow 13 (by decide)]
  revert e
  cases go l (8 * l.length) <;> cases par (gx l (8 * l.length)) <;> decide
 ·have e' : (go l (8 * l.length) != par (gx l (8 * l.length))) = false := by simpa using e
  rw [if_neg e, Nat.mul_zero, Nat.add_zero, e']
def XS : List Nat → Nat
 | [] => 0
 | i :: p => place i ^^^ XS p
def upN (p : List Nat) : List Int := p.map fun i : Nat => (i : Int)
theorem gx_flips : ∀ (p : List Nat) (l : List Nat) (M : Nat), M = 8 * l.length → (∀ i ∈ p, i < M) → gx (flips l (upN p)) M = gx l M ^^^ XS p
 | [], l, M, _, _ => (Nat.xor_zero _).symm
 | i :: p, l, M, hM, h => by
  have hi := h i (List.mem_cons_self ..)
  have ih := gx_flips p (flip1 l (i : Int)) M (by rw [flip1_length]; exact hM) (fun k hk => h k (List.mem_cons_of_mem _ hk))
  show gx (flips (flip1 l (i : Int)) (upN p)) M = _
  rw [ih, gx_flip (by omega), if_pos hi]
  show _ = gx l M ^^^ (place i ^^^ XS p)
  rw [Nat.xor_assoc]
def oddL (p : List Nat) : Bool := decide (p.length % 2 = 1)
theorem oddL_cons (i : Nat) (p : List Nat) : oddL (i :: p) = !oddL p := by
 unfold oddL
 rw [List.length_cons]
 by_cases h : p.length % 2 = 1
 ·rw [decide_eq_true h, decide_eq_false (by omega)]; rfl
 ·rw [decide_eq_false h, decide_eq_true (by omega)]; rfl
theorem go_flips : ∀ (p : List Nat) (l : List Nat) (M : Nat), M = 8 * l.length → (∀ i ∈ p, i < M) → go (flips l (upN p)) M = (go l M != oddL p)
 | [], l, M, _, _ => by
  show go l M = (go l M != oddL [])
  have : oddL [] = false := rfl
  rw [this, Bool.bne_false]
 | i :: p, l, M, hM, h => by
  have hi := h i (List.mem_cons_self ..)
  have ih := go_flips p (flip1 l (i : Int)) M (by rw [flip1_length]; exact hM) (fun k hk => h k (List.mem_cons_of_mem _ hk))
  show go (flips (flip1 l (i : Int)) (upN p)) M = _
  rw [ih, go_flip (by omega), if_pos hi, oddL_cons]
  cases go l M <;> cases oddL p <;> rfl
theorem flips_up_length (l : List Nat) (p : List Nat) : (flips l (upN p)).length = l.length := flips_length _ _
theorem wrong_turned {l p : List Nat} {m : Nat} (h : l.length ≤ 600) (hp : ∀ i ∈ p, i < 8 * l.length) : wrongN (flips l (upN p)) (wordN l ^^^ m) = (XS p ^^^ m) % 8192 := by
 have h1 := gx_lt l (8 * l.length) (by omega)
 have h0 := wrong_word h
 unfold wrongN at h0 ⊢
 rw [flips_up_length, gx_flips p l _ rfl hp]
 rw [xor_swap, xor_mod13 (gx l (8 * l.length) ^^^ wordN l), h0, Nat.zero_xor]
theorem single_turned {l p : List Nat} {m : Nat} (h : l.length ≤ 600) (hp : ∀ i ∈ p, i < 8 * l.length) : single (flips l (upN p)) (wordN l ^^^ m) = (oddL p != par (m % 16384)) := by
 have h0 := single_word h
 unfold single at h0 ⊢
 rw [flips_up_length, go_flips p l _ rfl hp, xor_mod14, par_xor]
 revert h0
 cases go l (8 * l.length) <;> cases par (wordN l % 16384) <;> cases oddL p <;> cases par (m % 16384) <;> decide
theorem place_three {n : Nat} (h : n ≤ 1048576) : 3 ≤ place n ∧ isPow (place n) = false := ⟨(isPlace_place h).2.2, (isPlace_place h).1⟩
theorem place_inj {i j : Nat} (hi : i ≤ 1048576) (hj : j ≤ 1048576) (h : place i = place j) : i = j := by
 have h1 := (isPlace_place hi).2.1
 have h2 := (isPlace_place hj).2.1
 rw [h] at h1
 omega
theorem sum_none : ∀ (n x : Nat), x < 2 ^ n → (bitsOf n x).sum = 0 → x = 0
 | 0, x, h, _ => by simpa using h
 | n + 1, x, h, e => by
  unfold bitsOf at e
  rw [List.sum_cons] at e
  have := sum_none n (x / 2) (by rw [Nat.pow_succ] at h; omega) (by omega)
  omega
theorem sum_single : ∀ (n x : Nat), x < 2 ^ n → (bitsOf n x).sum = 1 → isPow x = true
 | 0, x, _, e => absurd e (by simp [bitsOf])
 | n + 1, x, h, e => by
  unfold bitsOf at e
  rw [List.sum_cons] at e
  have hlt : x / 2 < 2 ^ n := by rw [Nat.pow_succ] at h; omega
  rcases Nat.mod_two_eq_zero_or_one x with h2 | h2
  ·obtain ⟨m, hm⟩ := isPow_iff.1 (sum_single n (x / 2) hlt (by omega))
   refine isPow_iff.2 ⟨m + 1, ?_⟩
   rw [Nat.pow_succ]
   omega
  ·have := sum_none n (x / 2) hlt (by omega)
   exact isPow_iff.2 ⟨0, by omega⟩
theorem sum_mod (x : Nat) : (bitsOf 13 (x % 8192)).sum ≤ (bitsOf 16 x).sum := by
 have h1 := bitsOf_mod 13 x
 have h2 := bitsOf_add 13 3 x
 rw [show 2 ^ 13 = 8192 from rfl] at h1
 rw [show 16 = 13 + 3 from rfl, h1, h2]
 omega
theorem four_ones {D : List Nat} {w : Nat} (hd : D ≠ []) (hp : ∀ i ∈ D, i < 5000) (hnd : D.Nodup) (hx : XS D % 8192 = w % 8192) (hpar : (D.length + (bitsOf 16 w).sum) % 2 = 0) :
  4 ≤ D.length + (bitsOf 16 w).sum := by
 have hsm := sum_mod w
 cases D with
 | nil => exact absurd rfl hd
 | cons i D =>
  have hi := hp i (List.mem_cons_self ..)
  have h3 := place_three (n := i) (by omega)
  have hlt := place_lt (n := i) (by omega)
  cases D with
  | nil =>
   have e : XS [i] = place i := Nat.xor_zero _
   rw [e, Nat.mod_eq_of_lt hlt] at hx
   rw [← hx] at hsm
   have n0 : (bitsOf 13 (place i)).sum ≠ 0 := fun h => by have := sum_none 13 _ hlt h; omega
   have n1 : (bitsOf 13 (place i)).sum ≠ 1 := fun h => by have := sum_single 13 _ hlt h; rw [h3.2] at this; exact absurd this (by decide)
   rw [List.length_singleton] at hpar ⊢
   omega
  | cons k D =>
   have hk := hp k (List.mem_cons_of_mem _ (List.mem_cons_self ..))
   have hlt2 := place_lt (n := k) (by omega)
   have hne : i ≠ k := fun e => (List.nodup_cons.1 hnd).1 (by rw [e]; exact List.mem_cons_self ..)
   cases D with
   | nil =>
    have e : XS [i, k] = place i ^^^ place k := by
     show place i ^^^ (place k ^^^ 0) = _
     rw [Nat.xor_zero]
    have hl : place i ^^^ place k < 8192 := Nat.xor_lt_two_pow (n := 13) hlt hlt2
    rw [e, Nat.mod_eq_of_lt hl] at hx
    rw [← hx] at hsm
    have n0 : (bitsOf 13 (place i ^^^ place k)).sum ≠ 0 := fun h => by
     have h0 := sum_none 13 _ hl h
     have := congrArg (· ^^^ place k) h0
     simp only [Nat.zero_xor, Nat.xor_assoc, Nat.xor_self, Nat.xor_zero] at this
     exact hne (place_inj (by omega) (by omega) this)
    rw [List.length_cons, List.length_singleton] at hpar ⊢
    omega
   | cons m D =>
    rw [List.length_cons, List.length_cons, List.length_cons] at hpar ⊢
    omega
theorem word_apart {a b : List Nat} (ha : a.length ≤ 600) (hb : b.length ≤ 600) : wordN a ^^^ wordN b < 16384 := by
 have t1 := wordN_top ha
 have t2 := wordN_top hb
 have := Nat.shiftRight_xor_distrib (a := wordN a) (b := wordN b) (i := 14)
 rw [Nat.shiftRight_eq_div_pow, Nat.shiftRight_eq_div_pow, Nat.shiftRight_eq_div_pow, show 2 ^ 14 = 16384 from rfl, t1, t2, Nat.xor_self] at this
 omega
theorem apart {a b : List Nat} (ha : ∀ x ∈ a, x < 256) (hb : ∀ x ∈ b, x < 256) (hl : a.length = b.length) (hn : a.length ≤ 600) (hd : diffN a b ≠ []) :
  4 ≤ (diffN a b).length + (bitsOf 16 (wordN a ^^^ wordN b)).sum := by
 have hb' : flips a (upN (diffN a b)) = b := flips_diff ha hb hl
 have hp : ∀ i ∈ diffN a b, i < 8 * a.length := fun i hi => by have := (mem_diffN.1 hi).1; omega
 have h1 := wrong_turned (m := wordN a ^^^ wordN b) hn hp
 have h2 := single_turned (m := wordN a ^^^ wordN b) hn hp
 have e : wordN a ^^^ (wordN a ^^^ wordN b) = wordN b := by rw [← Nat.xor_assoc, Nat.xor_self, Nat.zero_xor]
 have hw := word_apart (a := a) (b := b) (by omega) (by omega)
 rw [hb', e, wrong_word (by omega)] at h1
 rw [hb', e, single_word (by omega), Nat.mod_eq_of_lt hw] at h2
 refine four_ones hd (fun i hi => by have := hp i hi; omega) (diffN_nodup a b) ?_ ?_
 ·rw [xor_mod13] at h1
  generalize XS (diffN a b) % 8192 = x at h1 ⊢
  generalize (wordN a ^^^ wordN b) % 8192 = y at h1 ⊢
  have := congrArg (· ^^^ y) h1
  simp only [Nat.zero_xor, Nat.xor_assoc, Nat.xor_self, Nat.xor_zero] at this
  exact this.symm
 ·unfold oddL par at h2
  generalize (bitsOf 16 (wordN a ^^^ wordN b)).sum = s at h2 ⊢
  generalize (diffN a b).length = d at h2 ⊢
  have e1 := Nat.mod_two_eq_zero_or_one d
  have e2 := Nat.mod_two_eq_zero_or_one s
  rcases e1 with e1 | e1 <;> rcases e2 with e2 | e2 <;> rw [e1, e2] at h2 <;> first | omega | exact absurd h2 (by decide)
end Go.Proofs.Ytmehbabchakkpaa.HamMath
namespace Go.Proofs.Ytmehbabchakkpaa.PureLadderWalks
open Go.RowKit QLadderWalks YtmehbabchakkpaaW.PrintWords YtmehbabchakkpaaW.PrintLast YtmehbabchakkpaaW.PrintMore EvKit BitsKit CrcMath NatKit BitsMath LenMath HamMath
theorem tab_ones : ∀ b : Nat, b < 256 → bt (⟨#[0, 1, 1, 2, 1, 2, 2, 3, 1, 2, 2, 3, 2, 3, 3, 4, 1, 2, 2, 3, 2, 3, 3, 4, 2, 3, 3, 4, 3, 4, 4, 5, 1, 2, 2, 3, 2, 3, 3, 4, 2, 3, 3, 4, 3, 4, 4, 5, 2, 3, 3, 4, 3, 4, 4, 5, 3, 4, 4, 5, 4, 5, 5, 6, 1, 2, 2, 3, 2, 3, 3, 4, 2, 3, 3, 4, 3, 4, 4, 5, 2, 3, 3, 4, 3, 4, 4, 5, 3, 4, 4, 5, 4, 5, 5, 6, 2, 3, 3, 4, 3, 4, 4, 5, 3, 4, 4, 5, 4, 5, 5, 6, 3, 4, 4, 5, 4, 5, 5, 6, 4, 5, 5, 6, 5, 6, 6, 7, 1, 2, 2, 3, 2, 3, 3, 4, 2, 3, 3, 4, 3, 4, 4, 5, 2, 3, 3, 4, 3, 4, 4, 5, 3, 4, 4, 5, 4, 5, 5, 6, 2, 3, 3, 4, 3, 4, 4, 5, 3, 4, 4, 5, 4, 5, 5, 6, 3, 4, 4, 5, 4, 5, 5, 6, 4, 5, 5, 6, 5, 6, 6, 7, 2, 3, 3, 4, 3, 4, 4, 5, 3, 4, 4, 5, 4, 5, 5, 6, 3, 4, 4, 5, 4, 5, 5, 6, 4, 5, 5, 6, 5, 6, 6, 7, 3, 4, 4, 5, 4, 5, 5, 6, 4, 5, 5, 6, 5, 6, 6, 7, 4, 5, 5, 6, 5, 6, 6, 7, 5, 6, 6, 7, 6, 7, 7, 8]⟩ : ByteArray) (b : Int) = ((ones b : Nat) : Int) := by
 decide +kernel
theorem low_and {a : Nat} (n m : Nat) (hm : m = 2 ^ n - 1) (ha : a < 65536) (hm' : m < 65536) : Go.bits .and .u16 (a : Int) (m : Int) = ((a % 2 ^ n : Nat) : Int) := by
 rw [and_u16 ha hm', hm, Nat.and_two_pow_sub_one_eq_mod]
theorem odd_eq {a : Nat} (ha : a < 65536) : hamming_odd.f (a : Int) = some (par a) := by
 have e1 : Go.bits .and .u16 (a : Int) 255 = ((a % 256 : Nat) : Int) := low_and 8 255 (by decide) ha (by decide)
 have e2 : (a : Int) / 256 = ((a / 256 : Nat) : Int) := by omega
 have h1 := ones_le (a / 256)
 have h2 := ones_le (a % 256)
 have h3 : (Go.bits .and .i64 (((ones (a / 256) + ones (a % 256) : Nat) : Int)) 1 == 1) = par a := by
  have := and_i64 (a := ones (a / 256) + ones (a % 256)) (b := 1) (by omega) (by decide)
  rw [show ((1 : Nat) : Int) = 1 from rfl] at this
  rw [this, Nat.and_one_is_mod, par_ones]
  rcases Nat.mod_two_eq_zero_or_one (ones (a / 256) + ones (a % 256)) with h | h <;> rw [h] <;> rfl
 unfold hamming_odd.f bits_OnesCount16.f
 rw [e1, e2, if_pos (by omega), if_pos (by omega), if_pos (by omega), if_pos (by omega), tab_ones _ (by omega), tab_ones _ (by omega)]
 have e3 : (((ones (a / 256) : Nat) : Int) + ((ones (a % 256) : Nat) : Int)) % 256 = ((ones (a / 256) + ones (a % 256) : Nat) : Int) := by omega
 rw [e3, Option.bind_some, h3]
theorem not_pad {w : Nat} (hw : w < 65536) : Go.bits .andNot .u16 (w : Int) 49152 = ((w % 16384 : Nat) : Int) := by
 have e := low_and (a := w) 14 16383 (by decide) hw (by decide)
 rw [show 2 ^ 14 = 16384 from rfl] at e
 rw [← e]
 rfl
def judgeN (l : List Nat) (w : Nat) : Int × Int × Int :=
 if single l w = false then (if wrongN l w = 0 then (0, 0, 0) else (3, 0, 0))
 else if wrongN l w = 0 ∨ isPow (wrongN l w) = true then (2, 0, 0)
 else if wrongN l w - 1 - len (wrongN l w) < 8 * l.length then (1, ((wrongN l w - 1 - len (wrongN l w) : Nat) : Int), 0) else (3, 0, 0)
theorem pow_none {p : Nat} (hp : p < 8192) : (Go.bits .and .i64 (p : Int) (wrap64 ((p : Int) - 1)) = 0) ↔ (p = 0 ∨ isPow p = true) := by
 rcases Nat.eq_zero_or_pos p with e | h0
 ·subst e
  refine ⟨fun _ => Or.inl rfl, fun _ => ?_⟩
  have e : wrap64 (((0 : Nat) : Int) - 1) = -1 := by rw [w64_id (by omega) (by omega)]; omega
  rw [e]
  decide +kernel
 ·rw [pow_test h0 (by omega)]
  exact ⟨fun h => Or.inr h, fun h => h.resolve_left (by omega)⟩
theorem place_far {p : Nat} (h0 : p ≠ 0) (hp : isPow p = false) (hlt : p < 8192) : IsPlace (p - 1 - len p) p := by
 have h3 : 3 ≤ p := by
  rcases Nat.lt_or_ge p 3 with h | h
  ·obtain rfl | rfl : p = 1 ∨ p = 2 := by omega
   ·exact absurd hp (by decide)
   ·exact absurd hp (by decide)
  ·exact h
 obtain ⟨n, hn⟩ := place_of hp h3
 have := hn.2.1
 have e : p - 1 - len p = n := by omega
 rw [e]
 exact hn
theorem judge_ev {l : List Int} (hl : ∀ x ∈ l, 0 ≤ x ∧ x < 256) (hn : l.length ≤ 512) {w : Nat} (hw : w < 65536) : Ev (fun k => hamming_Judge.f k l (w : Int)) (judgeN (nats l) w) := by
 have hlen := nats_length l
 have hx := gx_lt (nats l) (8 * l.length) (by omega)
 have hwr := wrongN_lt (nats l) w
 have e1 : wrap64 (Go.bits .and .u16 (Go.bits .xor .u16 ((gx (nats l) (8 * l.length) : Nat) : Int) (w : Int)) 8191) = ((wrongN (nats l) w : Nat) : Int) := by
  have hxl : gx (nats l) (8 * l.length) ^^^ w < 65536 := Nat.xor_lt_two_pow (n := 16) (by omega) (by omega)
  have e := low_and (a := gx (nats l) (8 * l.length) ^^^ w) 13 8191 (by decide) hxl (by decide)
  rw [show ((8191 : Nat) : Int) = 8191 from rfl, show 2 ^ 13 = 8192 from rfl] at e
  rw [xor_u16 (by omega) hw, e, w64_id (by omega) (by omega)]
  unfold wrongN
  rw [hlen]
 have e2 : (go (nats l) (8 * l.length) != par (w % 16384)) = single (nats l) w := by
  unfold single
  rw [hlen]
 refine Ev.congr (fun k => by rw [hamming_Judge.f]) ?_
 refine Ev.neg (by omega) ?_
 refine Ev.bind (gather_ev hl (by omega)) ?_
 rw [not_pad hw]
 refine Ev.bindv (odd_eq (by omega)) ?_
 rw [e1, e2]
 clear e1 e2
 unfold judgeN
 rw [hlen]
 generalize wrongN (nats l) w = p at hwr ⊢
 cases hs : single (nats l) w
 ·refine Ev.neg (by decide) ?_
  rw [if_pos rfl]
  refine Ev.step (fun k => hamming_Judge.j0.eq_2 ..) ?_
  refine Ev.ite (fun h => Ev.ret ?_) (fun h => ?_)
  ·rw [if_pos (by have := beq_iff_eq.1 h; omega)]
  ·refine Ev.neg (by decide) (Ev.ret ?_)
   rw [if_neg (fun e => h (by rw [e]; rfl))]
 ·refine Ev.pos rfl ?_
  rw [if_neg (by decide)]
  refine Ev.step (fun k => hamming_Judge.j0.eq_2 ..) ?_
  refine Ev.neg (by decide) (Ev.pos rfl ?_)
  refine Ev.ite (fun h => Ev.ret ?_) (fun h => ?_)
  ·rw [if_pos ((pow_none hwr).1 h)]
  ·have h' : ¬ (p = 0 ∨ isPow p = true) := fun e => h ((pow_none hwr).2 e)
   rw [if_neg h']
   have hpl := place_far (fun e => h' (Or.inl e)) (by simpa using fun e => h' (Or.inr e)) hwr
   refine Ev.bind (bit_place hpl (by omega)) (Ev.pos rfl ?_)
   rw [w64_id (x := 8 * (l.length : Int)) (by omega) (by omega)]
   refine Ev.ite (fun h2 => Ev.ret ?_) (fun h2 => Ev.ret ?_)
   ·rw [if_pos (by omega)]
   ·rw [if_neg (by omega)]
end Go.Proofs.Ytmehbabchakkpaa.PureLadderWalks
namespace Go.Proofs.Ytmehbabchakkpaa.PureLadderWalks
open Go.RowKit QLadderWalks YtmehbabchakkpaaW.PrintWords EvKit BitsKit CrcMath NatKit BitsMath LenMath HamMath
end Go.Proofs.Ytmehbabchakkpaa.PureLadderWalks
namespace Go.Proofs.Ytmehbabchakkpaa.PureLadderWalks
open Go.RowKit QLadderWalks YtmehbabchakkpaaW.PrintWords YtmehbabchakkpaaW.PrintLast YtmehbabchakkpaaW.PrintMore EvKit BitsKit CrcMath NatKit BitsMath
theorem shl_one {r : Nat} (h : r < 8) : shl .u8 1 (r : Int) = ((2 ^ r : Nat) : Int) := by
 have : r = 0 ∨ r = 1 ∨ r = 2 ∨ r = 3 ∨ r = 4 ∨ r = 5 ∨ r = 6 ∨ r = 7 := by omega
 rcases this with rfl | rfl | rfl | rfl | rfl | rfl | rfl | rfl <;> decide
theorem flip_l0 {at_ : List Int} (ha : ∀ i ∈ at_, i ≤ 9223372036854775807) (hn : at_.length < 1000000) (d : Nat) : ∀ (i : Nat) (l : List Nat), i + d = at_.length → (∀ b ∈ l, b < 256) → l.length < 1000000 →
  Ev (fun k => bits_Flip.l0 k (ints l) at_ (at_.length : Int) (i : Int)) (ints (flips l (at_.drop i))) := by
 induction d with
 | zero =>
  intro i l hi hl hln
  refine Ev.step (fun k => bits_Flip.l0.eq_2 ..) ?_
  refine Ev.neg (by omega) (Ev.ret ?_)
  rw [List.drop_of_length_le (by omega)]
  rfl
 | succ d ih =>
  intro i l hi hl hln
  refine Ev.step (fun k => bits_Flip.l0.eq_2 ..) ?_
  refine Ev.pos (by omega) ?_
  refine Ev.pos (by omega) ?_
  refine Ev.pos (by omega) ?_
  have hmax := ha _ (rd_mem (l := at_) (i := (i : Int)) (by omega) (by omega))
  rw [drop_rd (l := at_) (i := i) (by omega), w64_succ (by omega)]
  have next := fun v => ih (i + 1) (flip1 l v) (by omega) (flip1_lt hl v) (by rw [flip1_length]; exact hln)
  generalize rd at_ (i : Int) = a at hmax ⊢
  have next := next a
  show Ev _ (ints (flips (flip1 l a) (at_.drop (i + 1))))
  have hself : ¬ (0 ≤ a ∧ a / 8 < (l.length : Int)) → flip1 l a = l := fun h => by unfold flip1; rw [if_neg h]
  refine Ev.ite (fun h0 => ?_) (fun h0 => ?_)
  ·obtain ⟨m, rfl⟩ := Int.eq_ofNat_of_zero_le h0
   have hw : wrap64 (Int.tdiv (m : Int) 8) = ((m / 8 : Nat) : Int) := by
    rw [Int.tdiv_eq_ediv_of_nonneg h0]
    exact w64_id (by omega) (by omega)
   have hs : IntKind.u64.wrap (Int.tmod (m : Int) 8) = ((m % 8 : Nat) : Int) := by
    rw [Int.tmod_eq_emod_of_nonneg h0]
    exact w_u64 _ (by omega) (by omega)
   rw [hw, hs, ints_length]
   clear hw hs
   refine Ev.ite (fun h1 => ?_) (fun h1 => ?_)
   ·refine Ev.pos (by omega) ?_
    refine Ev.pos (by omega) ?_
    have hlt : m / 8 < l.length := by omega
    have hb := hl _ (List.getElem_mem hlt)
    have hp : 2 ^ (m % 8) < 256 := Nat.pow_lt_pow_right (n := 8) (a := 2) (by decide) (Nat.mod_lt _ (by decide))
    rw [rd_ints_lt hlt, shl_one (Nat.mod_lt _ (by decide)), xor_u8 hb hp, Int.toNat_natCast, ints_set]
    have e : flip1 l (m : Int) = l.set (m / 8) (l[m / 8] ^^^ 2 ^ (m % 8)) := by
     unfold flip1
     rw [if_pos (by omega), Int.toNat_natCast, List.getD_eq_getElem?_getD, List.getElem?_eq_getElem hlt, Option.getD_some]
    rw [← e]
    exact next
   ·rw [hself (by omega)] at next ⊢
    exact next
  ·rw [hself (by omega)] at next ⊢
   exact next
theorem flip_ev {l at_ : List Int} (hl : ∀ x ∈ l, 0 ≤ x ∧ x < 256) (hln : l.length < 1000000) (ha : ∀ i ∈ at_, i ≤ 9223372036854775807) (hn : at_.length < 1000000) : Ev (fun k => bits_Flip.f k l at_) (ints (flips (nats l) at_)) := by
 refine Ev.congr (fun k => by rw [bits_Flip.f]) ?_
 refine Ev.bindv (a := l) ?_ ?_
 ·unfold slices_Clone_byte_byte.f
  rw [if_pos (by omega)]
 ·have := flip_l0 ha hn at_.length 0 (nats l) (by omega) (nats_lt hl) (by rw [nats_length]; exact hln)
  rw [ints_nats fun x hx => (hl x hx).1] at this
  exact this
end Go.Proofs.Ytmehbabchakkpaa.PureLadderWalks
namespace Go.Proofs.Ytmehbabchakkpaa.PureLadderWalks
open Go.RowKit QLadderWalks YtmehbabchakkpaaW.PrintWords YtmehbabchakkpaaW.PrintLast EvKit
theorem same_l0 (a b : List Int) (hl : a.length = b.length) (hb : a.length < 1000000000) (d : Nat) : ∀ i : Nat, i + d = a.length →
  Ev (fun k => r01_Same.l0 k a b (i : Int)) (decide (a.drop i = b.drop i)) := by
 induction d with
 | zero =>
  intro i hi
  refine Ev.step (fun k => r01_Same.l0.eq_2 ..) ?_
  refine Ev.neg (by omega) (Ev.ret ?_)
  rw [List.drop_of_length_le (by omega), List.drop_of_length_le (by omega)]
  rfl
 | succ d ih =>
  intro i hi
  refine Ev.step (fun k => r01_Same.l0.eq_2 ..) ?_
  refine Ev.pos (by omega) (Ev.pos (by omega) (Ev.pos (by omega) ?_))
  rw [drop_rd (l := a) (i := i) (by omega), drop_rd (l := b) (i := i) (by omega)]
  refine Ev.ite (fun h => ?_) (fun h => Ev.ret ?_)
  ·rw [w64_succ (by omega), h]
   refine Ev.eq (ih (i + 1) (by omega)) ?_
   simp
  ·simp [h]
theorem same_ev (a b : List Int) (hb : a.length < 1000000000) : Ev (fun k => r01_Same.f k a b) (decide (a = b)) := by
 refine Ev.congr (fun k => by rw [r01_Same.f]) ?_
 refine Ev.ite (fun h => ?_) (fun h => Ev.ret ?_)
 ·exact same_l0 a b (by omega) hb a.length 0 (by omega)
 ·have : a ≠ b := fun e => h (by rw [e])
  simp [this]
end Go.Proofs.Ytmehbabchakkpaa.PureLadderWalks
namespace Go.Proofs.Ytmehbabchakkpaa.ChunkMath
open Go.RowKit CrcMath BitsMath LenMath HamMath
end Go.Proofs.Ytmehbabchakkpaa.ChunkMath
namespace Go.Proofs.Ytmehbabchakkpaa.PureLadderWalks
open Go.RowKit QLadderWalks YtmehbabchakkpaaW.PrintWords YtmehbabchakkpaaW.PrintLast YtmehbabchakkpaaW.PrintMore EvKit BitsKit CrcMath NatKit BitsMath LenMath HamMath ChunkMath
def decOf (d : List Nat) (j : Int × Int × Int) : List Int × Int × Int :=
 if j.1 = 0 then (ints d, 0, 0) else if j.1 = 1 then (ints (flips d [j.2.1]), 1, 0) else if j.1 = 2 then (ints d, 1, 0) else ([], 0, 14)
def decN (r : List Nat) : List Int × Int × Int :=
 if r.length < 3 ∨ 514 < r.length then ([], 0, 2) else decOf (r.take (r.length - 2)) (judgeN (r.take (r.length - 2)) (r.getD (r.length - 2) 0 + 256 * r.getD (r.length - 1) 0))
theorem or_word {a b : Nat} (ha : a < 256) (hb : b < 256) : Go.bits .or .u16 (IntKind.u16.wrap (a : Int)) (IntKind.u16.wrap (IntKind.u16.wrap (b : Int) * 256)) = ((a + 256 * b : Nat) : Int) := by
 rw [w_u16 (a : Int) (by omega) (by omega), w_u16 (b : Int) (by omega) (by omega), w_u16 _ (by omega) (by omega), show (b : Int) * 256 = ((256 * b : Nat) : Int) by omega, or_u16 (by omega) (by omega)]
 have := Nat.two_pow_add_eq_or_of_lt (i := 8) (b := a) (by omega) b
 rw [show 2 ^ 8 = 256 from rfl] at this
 rw [Nat.or_comm, ← this, Nat.add_comm]
theorem judgeN_states (l : List Nat) (w : Nat) : (judgeN l w).2.2 = 0 ∧ ((judgeN l w).1 = 0 ∨ (judgeN l w).1 = 1 ∨ (judgeN l w).1 = 2 ∨ (judgeN l w).1 = 3) ∧ (judgeN l w).2.1 ≤ 8192 := by
 have := wrongN_lt l w
 unfold judgeN
 split
 ·split
  ·exact ⟨rfl, Or.inl rfl, by show (0 : Int) ≤ 8192; omega⟩
  ·exact ⟨rfl, Or.inr (Or.inr (Or.inr rfl)), by show (0 : Int) ≤ 8192; omega⟩
 ·split
  ·exact ⟨rfl, Or.inr (Or.inr (Or.inl rfl)), by show (0 : Int) ≤ 8192; omega⟩
  ·split
   ·refine ⟨rfl, Or.inr (Or.inl rfl), ?_⟩
    show ((wrongN l w - 1 - len (wrongN l w) : Nat) : Int) ≤ 8192
    omega
   ·exact ⟨rfl, Or.inr (Or.inr (Or.inr rfl)), by show (0 : Int) ≤ 8192; omega⟩
theorem decode_ev {r : List Int} (hr : ∀ x ∈ r, 0 ≤ x ∧ x < 256) (hn : r.length < 1000000) : Ev (fun k => chunk_Decode.f k r) (decN (nats r)) := by
 have hlen := nats_length r
 have e1 : wrap64 ((r.length : Int) - 2) = (r.length : Int) - 2 := w64_id (by omega) (by omega)
 refine Ev.congr (fun k => by rw [chunk_Decode.f]) ?_
 rw [e1]
 clear e1
 unfold decN
 rw [hlen]
 have hj : Ev (fun k => chunk_Decode.j0 k r ((r.length : Int) - 2) true) ([], 0, 2) := Ev.step (fun k => chunk_Decode.j0.eq_2 ..) (Ev.pos rfl (Ev.ret rfl))
 refine Ev.ite (fun h => ?_) (fun h => ?_)
 ·rw [if_pos (by omega)]
  exact hj
 by_cases h512 : (r.length : Int) - 2 > 512
 ·rw [decide_eq_true h512, if_pos (by omega)]
  exact hj
 rw [decide_eq_false h512, if_neg (by omega)]
 clear hj
 obtain ⟨n, hn2⟩ : ∃ n, r.length = n + 2 := ⟨r.length - 2, by omega⟩
 have e2 : (r.length : Int) - 2 = (n : Int) := by omega
 rw [e2, hn2, show n + 2 - 2 = n by omega, show n + 2 - 1 = n + 1 by omega]
 refine Ev.step (fun k => chunk_Decode.j0.eq_2 ..) ?_
 refine Ev.neg (by decide) ?_
 try refine Ev.step (fun k => chunk_Decode.j1.eq_2 ..) ?_
 rw [w64_succ (by omega), Int.toNat_natCast]
 refine (Ev.pos (by omega) (Ev.pos (by omega) (Ev.pos (by omega) (Ev.pos (by omega) (Ev.pos (by omega) ?_)))))
 have b1 := hr _ (rd_mem (l := r) (i := (n : Int)) (by omega) (by omega))
 have b2 := hr _ (rd_mem (l := r) (i := ((n + 1 : Nat) : Int)) (by omega) (by omega))
 have r1 := rd_nats (l := r) (fun x hx => (hr x hx).1) n
 have r2 := rd_nats (l := r) (fun x hx => (hr x hx).1) (n + 1)
 rw [r1] at b1 ⊢
 rw [r2] at b2 ⊢
 rw [or_word (by omega) (by omega)]
 have hd : ∀ x ∈ r.take n, 0 ≤ x ∧ x < 256 := fun x hx => hr x (List.mem_of_mem_take hx)
 have hdl : (r.take n).length = n := by rw [List.length_take]; omega
 refine Ev.bind (judge_ev hd (by omega) (by omega)) ?_
 rw [nats_take]
 have hst := judgeN_states ((nats r).take n) ((nats r).getD n 0 + 256 * (nats r).getD (n + 1) 0)
 generalize judgeN ((nats r).take n) ((nats r).getD n 0 + 256 * (nats r).getD (n + 1) 0) = j at hst ⊢
 obtain ⟨s, b, e⟩ := j
 obtain ⟨h1, h2, h3⟩ := hst
 dsimp only at h1 h2 h3 ⊢
 refine Ev.pos h1 ?_
 try refine Ev.step (fun k => chunk_Decode.j2.eq_2 ..) ?_
 try rw [Int.toNat_natCast]
 unfold decOf
 have hf0 := flip_ev (l := r.take n) (at_ := []) hd (by omega) (by intro i hi; exact absurd hi (by simp)) (by simp)
 have hf1 := flip_ev (l := r.take n) (at_ := [b]) hd (by omega) (by intro i hi; rw [List.mem_singleton.1 hi]; omega) (by simp)
 rw [nats_take] at hf0 hf1
 dsimp only
 refine Ev.ite (fun hs => ?_) (fun hs => ?_)
 ·rw [if_pos hs]
  first | exact Ev.bind hf0 (Ev.ret rfl) | exact Ev.pos (by omega) (Ev.pos (by omega) (Ev.bind hf0 (Ev.ret rfl)))
 rw [if_neg hs]
 refine Ev.ite (fun hs => ?_) (fun hs => ?_)
 ·rw [if_pos hs]
  first | exact Ev.bind hf1 (Ev.ret rfl) | exact Ev.pos (by omega) (Ev.pos (by omega) (Ev.bind hf1 (Ev.ret rfl)))
 rw [if_neg hs]
 refine Ev.ite (fun hs => ?_) (fun hs => ?_)
 ·rw [if_pos hs]
  first | exact Ev.bind hf0 (Ev.ret rfl) | exact Ev.pos (by omega) (Ev.pos (by omega) (Ev.bind hf0 (Ev.ret rfl)))
 rw [if_neg hs]
 exact Ev.ret rfl
end Go.Proofs.Ytmehbabchakkpaa.PureLadderWalks
namespace Go.Proofs.Ytmehbabchakkpaa.PureLadderWalks
open Go.RowKit QLadderWalks YtmehbabchakkpaaW.PrintWords YtmehbabchakkpaaW.PrintLast YtmehbabchakkpaaW.PrintMore EvKit BitsKit CrcMath NatKit BitsMath
theorem ones_eq {b : Nat} (hb : b < 256) : bits_OnesCount8.f (b : Int) = some ((ones b : Nat) : Int) := by
 unfold bits_OnesCount8.f
 rw [if_pos (by omega), if_pos (by omega)]
 congr 1
 rw [ones_table b hb]
 have key : ∀ b : Nat, b < 256 → bt (⟨#[0, 1, 1, 2, 1, 2, 2, 3, 1, 2, 2, 3, 2, 3, 3, 4, 1, 2, 2, 3, 2, 3, 3, 4, 2, 3, 3, 4, 3, 4, 4, 5, 1, 2, 2, 3, 2, 3, 3, 4, 2, 3, 3, 4, 3, 4, 4, 5, 2, 3, 3, 4, 3, 4, 4, 5, 3, 4, 4, 5, 4, 5, 5, 6, 1, 2, 2, 3, 2, 3, 3, 4, 2, 3, 3, 4, 3, 4, 4, 5, 2, 3, 3, 4, 3, 4, 4, 5, 3, 4, 4, 5, 4, 5, 5, 6, 2, 3, 3, 4, 3, 4, 4, 5, 3, 4, 4, 5, 4, 5, 5, 6, 3, 4, 4, 5, 4, 5, 5, 6, 4, 5, 5, 6, 5, 6, 6, 7, 1, 2, 2, 3, 2, 3, 3, 4, 2, 3, 3, 4, 3, 4, 4, 5, 2, 3, 3, 4, 3, 4, 4, 5, 3, 4, 4, 5, 4, 5, 5, 6, 2, 3, 3, 4, 3, 4, 4, 5, 3, 4, 4, 5, 4, 5, 5, 6, 3, 4, 4, 5, 4, 5, 5, 6, 4, 5, 5, 6, 5, 6, 6, 7, 2, 3, 3, 4, 3, 4, 4, 5, 3, 4, 4, 5, 4, 5, 5, 6, 3, 4, 4, 5, 4, 5, 5, 6, 4, 5, 5, 6, 5, 6, 6, 7, 3, 4, 4, 5, 4, 5, 5, 6, 4, 5, 5, 6, 5, 6, 6, 7, 4, 5, 5, 6, 5, 6, 6, 7, 5, 6, 6, 7, 6, 7, 7, 8]⟩ : ByteArray) (b : Int) = (([0, 1, 1, 2, 1, 2, 2, 3, 1, 2, 2, 3, 2, 3, 3, 4, 1, 2, 2, 3, 2, 3, 3, 4, 2, 3, 3, 4, 3, 4, 4, 5, 1, 2, 2, 3, 2, 3, 3, 4, 2, 3, 3, 4, 3, 4, 4, 5, 2, 3, 3, 4, 3, 4, 4, 5, 3, 4, 4, 5, 4, 5, 5, 6, 1, 2, 2, 3, 2, 3, 3, 4, 2, 3, 3, 4, 3, 4, 4, 5, 2, 3, 3, 4, 3, 4, 4, 5, 3, 4, 4, 5, 4, 5, 5, 6, 2, 3, 3, 4, 3, 4, 4, 5, 3, 4, 4, 5, 4, 5, 5, 6, 3, 4, 4, 5, 4, 5, 5, 6, 4, 5, 5, 6, 5, 6, 6, 7, 1, 2, 2, 3, 2, 3, 3, 4, 2, 3, 3, 4, 3, 4, 4, 5, 2, 3, 3, 4, 3, 4, 4, 5, 3, 4, 4, 5, 4, 5, 5, 6, 2, 3, 3, 4, 3, 4, 4, 5, 3, 4, 4, 5, 4, 5, 5, 6, 3, 4, 4, 5, 4, 5, 5, 6, 4, 5, 5, 6, 5, 6, 6, 7, 2, 3, 3, 4, 3, 4, 4, 5, 3, 4, 4, 5, 4, 5, 5, 6, 3, 4, 4, 5, 4, 5, 5, 6, 4, 5, 5, 6, 5, 6, 6, 7, 3, 4, 4, 5, 4, 5, 5, 6, 4, 5, 5, 6, 5, 6, 6, 7, 4, 5, 5, 6, 5, 6, 6, 7, 5, 6, 6, 7, 6, 7, 7, 8].getD b 0 : Nat) : Int) := by
  decide +kernel
 rw [key b hb]
 have h8 := ones_le b
 rw [ones_table b hb] at h8
 exact w64_id (by omega) (by omega)
theorem count_l0 {l : List Int} (hl : ∀ x ∈ l, 0 ≤ x ∧ x < 256) (hn : l.length < 1000000) (d : Nat) : ∀ (n i : Nat), i + d = l.length → n ≤ 8 * i → Ev (fun k => bits_Count.l0 k (n : Int) l (l.length : Int) (i : Int)) ((n + count ((nats l).drop i) : Nat) : Int) := by
 induction d with
 | zero =>
  intro n i hi h8
  refine Ev.step (fun k => bits_Count.l0.eq_2 ..) ?_
  refine Ev.neg (by omega) (Ev.ret ?_)
  rw [List.drop_of_length_le (by rw [nats_length]; omega)]
  rfl
 | succ d ih =>
  intro n i hi h8
  have hx := hl _ (rd_mem (l := l) (i := (i : Int)) (by omega) (by omega))
  have hr := rd_nats (l := l) (fun x hx => (hl x hx).1) i
  have hb : (nats l).getD i 0 < 256 := by omega
  have ho := ones_le ((nats l).getD i 0)
  refine Ev.step (fun k => bits_Count.l0.eq_2 ..) ?_
  refine Ev.pos (by omega) ?_
  refine Ev.pos (by omega) ?_
  refine Ev.pos (by omega) ?_
  rw [hr]
  refine Ev.bindv (ones_eq hb) ?_
  clear hr hx
  rw [w64_id (by omega) (by omega), w64_succ (by omega), ← Int.natCast_add]
  refine Ev.eq (ih _ (i + 1) (by omega) (by omega)) ?_
  have hj' : i < (nats l).length := by rw [nats_length]; omega
  rw [List.drop_eq_getElem_cons hj']
  have e : (nats l).getD i 0 = (nats l)[i] := by rw [List.getD_eq_getElem?_getD, List.getElem?_eq_getElem hj']; rfl
  rw [e]
  unfold count
  rw [List.map_cons, List.sum_cons, Nat.add_assoc]
theorem count_ev {l : List Int} (hl : ∀ x ∈ l, 0 ≤ x ∧ x < 256) (hn : l.length < 1000000) : Ev (fun k => bits_Count.f k l) ((count (nats l) : Nat) : Int) := by
 refine Ev.congr (fun k => by rw [bits_Count.f]) ?_
 refine Ev.eq (count_l0 hl hn l.length 0 0 (by omega) (by omega)) ?_
 simp
theorem zeros_ev {l : List Int} (hl : ∀ x ∈ l, 0 ≤ x ∧ x < 256) (hn : l.length < 1000000) : Ev (fun k => bits_Zeros.f k l) ((8 * l.length - count (nats l) : Nat) : Int) := by
 refine Ev.congr (fun k => by rw [bits_Zeros.f]) ?_
 refine Ev.bind (count_ev hl hn) (Ev.ret ?_)
 have := count_le (nats l)
 rw [nats_length] at this
 rw [w64_id (x := 8 * (l.length : Int)) (by omega) (by omega), w64_id (by omega) (by omega)]
 omega
end Go.Proofs.Ytmehbabchakkpaa.PureLadderWalks
namespace Go.Proofs.Ytmehbabchakkpaa.PureLadderWalks
open Go.RowKit QLadderWalks YtmehbabchakkpaaW.PrintWords YtmehbabchakkpaaW.PrintLast YtmehbabchakkpaaW.PrintMore EvKit PackMath TagMath CrcMath NatKit BitsMath ChunkMath
theorem app_byte {a b : List Int} (ha : ∀ x ∈ a, 0 ≤ x ∧ x < 256) (hb : ∀ x ∈ b, 0 ≤ x ∧ x < 256) : ∀ x ∈ a ++ b, 0 ≤ x ∧ x < 256 := fun x hx => by
 rcases List.mem_append.1 hx with h | h
 ·exact ha x h
 ·exact hb x h
end Go.Proofs.Ytmehbabchakkpaa.PureLadderWalks
namespace Go.Proofs.Ytmehbabchakkpaa.PureLadderWalks
open Go.RowKit QLadderWalks YtmehbabchakkpaaW.PrintWords YtmehbabchakkpaaW.PrintLast YtmehbabchakkpaaW.PrintMore EvKit PackMath TagMath CrcMath NatKit BitsMath ChunkMath
theorem erased_l0 (d : Nat) : ∀ i : Nat, i + d ≤ 10000 → Ev (fun k => page_Erased.l0 k (List.replicate i 255 ++ List.replicate d 0) ((i + d : Nat) : Int) (i : Int)) (List.replicate (i + d) 255) := by
 induction d with
 | zero =>
  intro i hi
  refine Ev.step (fun k => page_Erased.l0.eq_2 ..) ?_
  refine Ev.neg (by omega) (Ev.ret ?_)
  rw [List.replicate_zero, List.append_nil]
  rfl
 | succ d ih =>
  intro i hi
  refine Ev.step (fun k => page_Erased.l0.eq_2 ..) ?_
  have hl : (List.replicate i (255 : Int) ++ List.replicate (d + 1) 0).length = i + (d + 1) := by rw [List.length_append, List.length_replicate, List.length_replicate]
  refine Ev.pos (by omega) (Ev.pos (by omega) (Ev.pos (by omega) ?_))
  have hs : (List.replicate i (255 : Int) ++ List.replicate (d + 1) 0).set i 255 = List.replicate (i + 1) 255 ++ List.replicate d 0 := by
   have r1 : List.replicate (d + 1) (0 : Int) = 0 :: List.replicate d 0 := List.replicate_succ
   have r2 : List.replicate (i + 1) (255 : Int) = List.replicate i 255 ++ [255] := List.replicate_succ'
   rw [r1, r2, List.append_assoc]
   simp
  rw [Int.toNat_natCast, hs, w64_succ (by omega)]
  have e := ih (i + 1) (by omega)
  rw [show i + 1 + d = i + (d + 1) by omega] at e
  exact e
def rawN (a0 a1 a2 a3 a4 a5 a6 : Int) : Nat := if okG a0 a1 a2 a3 a4 a5 a6 then (a3 * (a4 + 2) + 31).toNat else 0
theorem rawN_le (a0 a1 a2 a3 a4 a5 a6 : Int) : rawN a0 a1 a2 a3 a4 a5 a6 ≤ 10000 := by
 unfold rawN
 split
 ·rename_i h
  obtain ⟨h3, h4⟩ := okG_bounds h
  have := mul_bound h3 (y := a4 + 2) ⟨by omega, by omega⟩
  omega
 ·decide
theorem rawN_eq (a0 a1 a2 a3 a4 a5 a6 : Int) : geom_Raw.f a0 a1 a2 a3 a4 a5 a6 = some ((rawN a0 a1 a2 a3 a4 a5 a6 : Nat) : Int) := by
 rw [raw_eq]
 unfold rawN
 split
 ·rename_i h
  obtain ⟨h3, h4⟩ := okG_bounds h
  have := mul_bound h3 (y := a4 + 2) ⟨by omega, by omega⟩
  congr 1
  omega
 ·rfl
theorem erased_ev (a0 a1 a2 a3 a4 a5 a6 : Int) : Ev (fun k => page_Erased.f k a0 a1 a2 a3 a4 a5 a6) (List.replicate (rawN a0 a1 a2 a3 a4 a5 a6) 255) := by
 refine Ev.congr (fun k => by rw [page_Erased.f]) ?_
 have hn := rawN_le a0 a1 a2 a3 a4 a5 a6
 refine Ev.bindv (rawN_eq ..) ?_
 generalize rawN a0 a1 a2 a3 a4 a5 a6 = n at hn
 rw [Int.toNat_natCast]
 refine Ev.pos (by omega) (Ev.pos (by omega) (Ev.bindv rfl ?_))
 rw [List.length_replicate]
 have e := erased_l0 n 0 (by omega)
 rw [Nat.zero_add] at e
 exact e
end Go.Proofs.Ytmehbabchakkpaa.PureLadderWalks
namespace Go.Proofs.Ytmehbabchakkpaa.PureLadderWalks
open Go.RowKit QLadderWalks YtmehbabchakkpaaW.PrintWords YtmehbabchakkpaaW.PrintLast YtmehbabchakkpaaW.PrintMore EvKit BitsKit LenMath
theorem power_ev (n : Nat) : 0 < n → n < 4194304 → Ev (fun k => r05_Power.f k (n : Int)) (isPow n) := by
 induction n using Nat.strongRecOn with
 | _ n ih =>
  intro h0 hn
  refine Ev.congr (fun k => by rw [r05_Power.f]) ?_
  refine Ev.step (fun k => r05_Power.l0.eq_2 ..) ?_
  refine Ev.ite (fun h1 => ?_) (fun h1 => Ev.ret ?_)
  ·have hm : Int.tmod (n : Int) 2 = ((n % 2 : Nat) : Int) := rfl
   have hd : Int.tdiv (n : Int) 2 = ((n / 2 : Nat) : Int) := rfl
   rw [hm, hd, w64_id (by omega) (by omega)]
   refine Ev.ite (fun h2 => ?_) (fun h2 => Ev.ret ?_)
   ·refine Ev.eq ?_ (isPow_half (by omega) (by omega))
    exact Ev.congr (fun k => by rw [r05_Power.f]) (ih (n / 2) (by omega) (by omega) (by omega))
   ·rw [isPow_odd (by omega) (by omega), beq_eq_false_iff_ne]
    omega
  ·have : n = 1 := by omega
   subst this
   decide
def rowOk (out : List Int) : Prop := ∀ j : Nat, j < out.length → ∃ q : Nat, rd out (j : Int) = (q : Int) ∧ IsPlace j q
theorem places_l0 {n : Nat} (hn : n ≤ 5000) (d : Nat) : ∀ (p : Nat) (out : List Int), p + d = n + 30 → 3 ≤ p → out.length + len (p - 1) = p - 1 → out.length ≤ n → rowOk out →
  ∃ r : List Int, Ev (fun k => r05_Places.l0 k (n : Int) out (p : Int)) r ∧ rowOk r ∧ r.length = n := by
 induction d with
 | zero =>
  intro p out hd h3 ho hle _
  have := len_le22 (p := p - 1) (by omega)
  omega
 | succ d ih =>
  intro p out hd h3 ho hle hok
  have hs := len_succ (p := p - 1) (by omega)
  rw [show p - 1 + 1 = p by omega] at hs
  have hl := len_le22 (p := p - 1) (by omega)
  by_cases he : out.length < n
  ·by_cases hp : isPow p = true
   ·rw [if_pos hp] at hs
    obtain ⟨r, hr, h⟩ := ih (p + 1) out (by omega) (by omega) (by rw [show p + 1 - 1 = p by omega]; omega) hle hok
    refine ⟨r, ?_, h⟩
    refine Ev.step (fun k => r05_Places.l0.eq_2 ..) ?_
    refine Ev.pos (by omega) (Ev.bind (power_ev p (by omega) (by omega)) ?_)
    rw [w64_succ (by omega)]
    exact Ev.pos hp hr
   ·rw [if_neg hp] at hs
    obtain ⟨r, hr, h⟩ := ih (p + 1) (out ++ [(p : Int)]) (by omega) (by omega) (by rw [show p + 1 - 1 = p by omega, List.length_append, List.length_singleton]; omega) (by rw [List.length_append, List.length_singleton]; omega) (by
     intro j hj
     rw [List.length_append, List.length_singleton] at hj
     by_cases hjl : j < out.length
     ·obtain ⟨q, h1, h2⟩ := hok j hjl
      refine ⟨q, ?_, h2⟩
      rw [← h1, rd_nat hjl, rd_nat (by rw [List.length_append, List.length_singleton]; omega), List.getElem_append_left hjl]
     ·have : j = out.length := by omega
      subst this
      refine ⟨p, ?_, by simpa using hp, by omega, h3⟩
      rw [rd_nat (by rw [List.length_append, List.length_singleton]; omega), List.getElem_append_right (Nat.le_refl _)]
      simp)
    refine ⟨r, ?_, h⟩
    refine Ev.step (fun k => r05_Places.l0.eq_2 ..) ?_
    refine Ev.pos (by omega) (Ev.bind (power_ev p (by omega) (by omega)) ?_)
    rw [w64_succ (by omega)]
    exact Ev.neg hp (Ev.pos (by omega) hr)
  ·refine ⟨out, ?_, hok, by omega⟩
   refine Ev.step (fun k => r05_Places.l0.eq_2 ..) ?_
   exact Ev.neg (by omega) (Ev.ret rfl)
theorem places_ev {n : Nat} (hn : n ≤ 5000) : ∃ r : List Int, Ev (fun k => r05_Places.f k (n : Int)) r ∧ rowOk r ∧ r.length = n := by
 obtain ⟨r, hr, h⟩ := places_l0 hn (n + 27) 3 [] (by omega) (by omega) (by decide) (by simp) (fun j hj => absurd hj (by simp))
 refine ⟨r, ?_, h⟩
 exact Ev.congr (fun k => by rw [r05_Places.f]; rfl) hr
end Go.Proofs.Ytmehbabchakkpaa.PureLadderWalks
namespace Go.Proofs.Ytmehbabchakkpaa.PureLadderWalks
open Go.RowKit QLadderWalks YtmehbabchakkpaaW.PrintWords YtmehbabchakkpaaW.PrintLast YtmehbabchakkpaaW.PrintMore EvKit BitsKit CrcMath NatKit
theorem bit_l0 {i : Int} (h0 : 0 ≤ i) (d : Nat) : ∀ (n j : Nat), (j : Int) + d = i % 8 → n < 256 → Ev (fun k => r01_Bit.l0 k i (n : Int) (j : Int)) ((n / 2 ^ d % 2 : Nat) : Int) := by
 induction d with
 | zero =>
  intro n j hj hn
  refine Ev.step (fun k => r01_Bit.l0.eq_2 ..) ?_
  rw [Int.tmod_eq_emod_of_nonneg h0]
  refine Ev.neg (by omega) (Ev.ret ?_)
  rw [Int.tmod_eq_emod_of_nonneg (Int.natCast_nonneg _), Nat.pow_zero, Nat.div_one]
  omega
 | succ d ih =>
  intro n j hj hn
  refine Ev.step (fun k => r01_Bit.l0.eq_2 ..) ?_
  rw [Int.tmod_eq_emod_of_nonneg h0]
  refine Ev.pos (by omega) ?_
  rw [Int.tdiv_eq_ediv_of_nonneg (Int.natCast_nonneg _), w64_id (by omega) (by omega), w64_succ (by omega), show (n : Int) / 2 = ((n / 2 : Nat) : Int) from by omega]
  refine Ev.eq (ih (n / 2) (j + 1) (by omega) (by omega)) ?_
  rw [Nat.div_div_eq_div_mul, Nat.pow_succ, Nat.mul_comm (2 ^ d)]
def bitVal (l : List Int) (i : Int) : Int := if 0 ≤ i ∧ i / 8 < (l.length : Int) then ((bitAt (nats l) i.toNat : Nat) : Int) else -1
theorem bit_ev {l : List Int} (hl : ∀ x ∈ l, 0 ≤ x ∧ x < 256) {i : Int} (hi : i ≤ 9223372036854775807) : Ev (fun k => r01_Bit.f k l i) (bitVal l i) := by
 refine Ev.congr (fun k => by rw [r01_Bit.f]) ?_
 unfold bitVal
 refine Ev.ite (fun h => ?_) (fun h => ?_)
 ·refine Ev.step (fun k => r01_Bit.j0.eq_2 ..) ?_
  refine Ev.pos rfl (Ev.ret ?_)
  rw [if_neg (by omega)]
 ·have h0 : 0 ≤ i := by omega
  have hw : wrap64 (Int.tdiv i 8) = i / 8 := by rw [Int.tdiv_eq_ediv_of_nonneg h0]; exact w64_id (by omega) (by omega)
  rw [hw]
  refine Ev.step (fun k => r01_Bit.j0.eq_2 ..) ?_
  rw [hw]
  clear hw
  by_cases hin : i / 8 ≥ (l.length : Int)
  ·refine Ev.pos (decide_eq_true hin) (Ev.ret ?_)
   rw [if_neg (by omega)]
  ·refine Ev.neg (by rw [decide_eq_false hin]; decide) ?_
   refine Ev.pos (by omega) ?_
   refine Ev.pos (by omega) ?_
   rw [if_pos (by omega)]
   have hr := rd_nats (l := l) (fun x hx => (hl x hx).1) (i / 8).toNat
   have hb := hl _ (rd_mem (l := l) (i := i / 8) (by omega) (by omega))
   rw [show (((i / 8).toNat : Nat) : Int) = i / 8 from by omega] at hr
   rw [hr] at hb ⊢
   have hb2 : (nats l).getD (i / 8).toNat 0 < 256 := by omega
   rw [w64_id (by omega) (by omega)]
   refine Ev.eq (bit_l0 h0 (i.toNat % 8) _ 0 (by omega) hb2) ?_
   unfold bitAt
   rw [show (i / 8).toNat = i.toNat / 8 from by omega]
theorem list_l0 {l : List Int} (hl : ∀ x ∈ l, 0 ≤ x ∧ x < 256) (hn : l.length < 1000000) (d : Nat) : ∀ (i : Nat) (out : List Int), i + d = 8 * l.length → out = ints ((List.range i).map (bitAt (nats l))) →
  Ev (fun k => r01_List.l0 k l out (i : Int)) (ints (bitList (nats l))) := by
 have hw : wrap64 (8 * (l.length : Int)) = 8 * (l.length : Int) := w64_id (by omega) (by omega)
 induction d with
 | zero =>
  intro i out hi ho
  refine Ev.step (fun k => r01_List.l0.eq_2 ..) ?_
  rw [hw]
  refine Ev.neg (by clear hw; omega) (Ev.ret ?_)
  rw [ho]
  unfold bitList
  rw [nats_length, show i = 8 * l.length by clear hw; omega]
 | succ d ih =>
  intro i out hi ho
  refine Ev.step (fun k => r01_List.l0.eq_2 ..) ?_
  rw [hw]
  refine Ev.pos (by clear hw; omega) ?_
  refine Ev.bind (bit_ev hl (by clear hw; omega)) ?_
  have hlen : out.length = i := by rw [ho]; simp [ints]
  have hlim : out.length < 17592186044416 := by clear hw; omega
  refine Ev.pos hlim ?_
  rw [w64_succ (by clear hw; omega)]
  refine ih (i + 1) _ (by clear hw; omega) ?_
  rw [ho, List.range_succ, List.map_append]
  unfold ints
  rw [List.map_append]
  congr 1
  unfold bitVal
  rw [if_pos (by clear hw; omega), Int.toNat_natCast]
  rfl
theorem list_ev {l : List Int} (hl : ∀ x ∈ l, 0 ≤ x ∧ x < 256) (hn : l.length < 1000000) : Ev (fun k => r01_List.f k l) (ints (bitList (nats l))) := by
 refine Ev.congr (fun k => by rw [r01_List.f]) ?_
 exact list_l0 hl hn (8 * l.length) 0 [] (by omega) rfl
end Go.Proofs.Ytmehbabchakkpaa.PureLadderWalks
namespace Go.Proofs.Ytmehbabchakkpaa.PureLadderWalks
open Go.RowKit QLadderWalks YtmehbabchakkpaaW.PrintWords YtmehbabchakkpaaW.PrintLast YtmehbabchakkpaaW.PrintMore EvKit BitsKit CrcMath NatKit BitsMath LenMath HamMath
theorem rxor_l0 (d : Nat) : ∀ (a b n s i : Nat), i + d = 13 → s * 2 ^ d = 8192 → n < s → a < 8192 → b < 8192 →
  Ev (fun k => r05_xor.l0 k (a : Int) (b : Int) (n : Int) (s : Int) (i : Int)) ((n + s * ((a ^^^ b) % 2 ^ d) : Nat) : Int) := by
 induction d with
 | zero =>
  intro a b n s i hi hs hn ha hb
  refine Ev.step (fun k => r05_xor.l0.eq_2 ..) ?_
  refine Ev.neg (by omega) (Ev.ret ?_)
  rw [Nat.pow_zero, Nat.mod_one, Nat.mul_zero, Nat.add_zero]
 | succ d ih =>
  intro a b n s i hi hs hn ha hb
  have hs2 : s * 2 * 2 ^ d = 8192 := by rw [Nat.mul_assoc, ← Nat.pow_succ']; exact hs
  have hsl : s * 2 ≤ 8192 := by
   rw [← hs2]
   exact Nat.le_mul_of_pos_right _ (Nat.two_pow_pos d)
  have e : (a ^^^ b) % 2 ^ (d + 1) = (a % 2 + b % 2) % 2 + 2 * ((a / 2 ^^^ b / 2) % 2 ^ d) := by
   rw [Nat.pow_succ', Nat.mod_mul, xor_mod2, xor_div2]
  rw [e]
  clear e hs
  have ma : Int.tmod (a : Int) 2 = ((a % 2 : Nat) : Int) := rfl
  have mb : Int.tmod (b : Int) 2 = ((b % 2 : Nat) : Int) := rfl
  have da : wrap64 (Int.tdiv (a : Int) 2) = ((a / 2 : Nat) : Int) := by
   rw [show Int.tdiv (a : Int) 2 = ((a / 2 : Nat) : Int) from rfl]
   exact w64_id (by omega) (by omega)
  have db : wrap64 (Int.tdiv (b : Int) 2) = ((b / 2 : Nat) : Int) := by
   rw [show Int.tdiv (b : Int) 2 = ((b / 2 : Nat) : Int) from rfl]
   exact w64_id (by omega) (by omega)
  have d2 : wrap64 ((s : Int) * 2) = ((s * 2 : Nat) : Int) := by
   rw [w64_id (by omega) (by omega)]
   omega
  have dn : wrap64 ((n : Int) + (s : Int)) = ((n + s : Nat) : Int) := by
   rw [w64_id (by omega) (by omega)]
   omega
  refine Ev.step (fun k => r05_xor.l0.eq_2 ..) ?_
  refine Ev.pos (by omega) ?_
  rw [ma, mb, da, db, d2, dn, w64_succ (by omega)]
  clear ma mb da db d2 dn
  have ih0 := ih (a / 2) (b / 2) n (s * 2) (i + 1) (by omega) hs2 (by omega) (by omega) (by omega)
  have ih1 := ih (a / 2) (b / 2) (n + s) (s * 2) (i + 1) (by omega) hs2 (by omega) (by omega) (by omega)
  generalize (a / 2 ^^^ b / 2) % 2 ^ d = x at ih0 ih1 ⊢
  refine Ev.ite (fun h => Ev.eq ih0 ?_) (fun h => Ev.eq ih1 ?_)
  ·rw [show (a % 2 + b % 2) % 2 = 0 by omega, Nat.zero_add, Nat.mul_assoc]
  ·rw [show (a % 2 + b % 2) % 2 = 1 by omega, Nat.mul_add, Nat.mul_one, Nat.mul_assoc, Nat.add_assoc]
theorem rxor_ev {a b : Nat} (ha : a < 8192) (hb : b < 8192) : Ev (fun k => r05_xor.f k (a : Int) (b : Int)) ((a ^^^ b : Nat) : Int) := by
 refine Ev.congr (fun k => by rw [r05_xor.f]) ?_
 refine Ev.eq (rxor_l0 13 a b 0 1 0 (by omega) (by decide) (by decide) ha hb) ?_
 rw [Nat.mod_eq_of_lt (Nat.xor_lt_two_pow (n := 13) ha hb), Nat.zero_add, Nat.one_mul]
theorem sum_bits_zero : ∀ n : Nat, (bitsOf n 0).sum = 0
 | 0 => rfl
 | n + 1 => by
  unfold bitsOf
  rw [List.sum_cons]
  exact (congrArg (0 + ·) (sum_bits_zero n))
theorem sum_bits_le : ∀ n x : Nat, (bitsOf n x).sum ≤ n
 | 0, _ => Nat.le_refl _
 | n + 1, x => by
  have := sum_bits_le n (x / 2)
  unfold bitsOf
  rw [List.sum_cons]
  omega
theorem rones_l0 (n : Nat) : ∀ (x c : Nat), n ≤ 16 → x < 2 ^ n → c + n ≤ 1000000 → Ev (fun k => r05_ones.l0 k (x : Int) (c : Int)) ((c + (bitsOf n x).sum : Nat) : Int) := by
 induction n with
 | zero =>
  intro x c _ hx _
  have : x = 0 := by simpa using hx
  subst this
  refine Ev.step (fun k => r05_ones.l0.eq_2 ..) ?_
  exact Ev.neg (by decide) (Ev.ret rfl)
 | succ n ih =>
  intro x c hn hx hc
  have hp : 2 ^ (n + 1) ≤ 2 ^ 16 := Nat.pow_le_pow_right (by decide) hn
  have hx2 : x < 65536 := Nat.lt_of_lt_of_le hx hp
  have hx3 : x / 2 < 2 ^ n := by rw [Nat.pow_succ] at hx; omega
  clear hx hp
  refine Ev.step (fun k => r05_ones.l0.eq_2 ..) ?_
  by_cases h0 : x = 0
  ·subst h0
   refine Ev.neg (by decide) (Ev.ret ?_)
   rw [sum_bits_zero]
   rfl
  ·refine Ev.pos (by omega) ?_
   have da : wrap64 (Int.tdiv (x : Int) 2) = ((x / 2 : Nat) : Int) := by
    rw [show Int.tdiv (x : Int) 2 = ((x / 2 : Nat) : Int) from rfl]
    exact w64_id (by omega) (by omega)
   have db : wrap64 ((c : Int) + Int.tmod (x : Int) 2) = ((c + x % 2 : Nat) : Int) := by
    rw [show Int.tmod (x : Int) 2 = ((x % 2 : Nat) : Int) from rfl, w64_id (by omega) (by omega)]
    omega
   rw [da, db]
   clear da db
   refine Ev.eq (ih (x / 2) (c + x % 2) (by omega) hx3 (by omega)) ?_
   rw [show bitsOf (n + 1) x = x % 2 :: bitsOf n (x / 2) from rfl, List.sum_cons, Nat.add_assoc]
theorem rones_ev {x : Nat} (hx : x < 65536) : Ev (fun k => r05_ones.f k (x : Int)) (((bitsOf 16 x).sum : Nat) : Int) := by
 refine Ev.congr (fun k => by rw [r05_ones.f]) ?_
 refine Ev.eq (rones_l0 16 x 0 (by omega) hx (by omega)) ?_
 rw [Nat.zero_add]
def cn (l : List Nat) : Nat → Nat
 | 0 => 0
 | m + 1 => if bitAt l m = 1 then cn l m + 1 else cn l m
theorem cn_succ (l : List Nat) (m : Nat) : cn l (m + 1) = if bitAt l m = 1 then cn l m + 1 else cn l m := rfl
theorem cn_le (l : List Nat) : ∀ m, cn l m ≤ m
 | 0 => Nat.le_refl _
 | m + 1 => by
  have := cn_le l m
  rw [cn_succ]
  split <;> omega
theorem go_cn (l : List Nat) : ∀ m, go l m = decide (cn l m % 2 = 1)
 | 0 => rfl
 | m + 1 => by
  have ih := go_cn l m
  rw [cn_succ, go_succ, ih]
  split
  ·by_cases h : cn l m % 2 = 1
   ·rw [decide_eq_true h, decide_eq_false (by omega)]
    rfl
   ·rw [decide_eq_false h, decide_eq_true (by omega)]
    rfl
  ·rfl
theorem row_place {r : List Int} {n j : Nat} (hn : n ≤ 5000) (hok : rowOk r) (hl : r.length = n) (hj : j < n) : rd r (j : Int) = ((place j : Nat) : Int) := by
 obtain ⟨q, hq, hp⟩ := hok j (by omega)
 rw [hq, place_same hp (isPlace_place (by omega))]
theorem rgather_l0 {l : List Nat} {r : List Int} (hn : l.length ≤ 600) (hok : rowOk r) (hl : r.length = 8 * l.length) (d : Nat) : ∀ i : Nat, i + d = 8 * l.length →
  Ev (fun k => r05_gather.l0 k (ints (bitList l)) r ((gx l i : Nat) : Int) ((cn l i : Nat) : Int) (i : Int)) (((gx l (8 * l.length) : Nat) : Int), ((cn l (8 * l.length) : Nat) : Int)) := by
 induction d with
 | zero =>
  intro i hi
  refine Ev.step (fun k => r05_gather.l0.eq_2 ..) ?_
  rw [ints_length, bitList_length]
  refine Ev.neg (by omega) (Ev.ret ?_)
  rw [show i = 8 * l.length by omega]
 | succ d ih =>
  intro i hi
  have next := ih (i + 1) (by omega)
  have hg := gx_lt l i (by omega)
  have hc := cn_le l i
  have hp := place_lt (n := i) (by omega)
  have hrd := row_place (j := i) (by omega) hok hl (by omega)
  have hbit : rd (ints (bitList l)) (i : Int) = ((bitAt l i : Nat) : Int) := by
   rw [rd_ints, List.getD_eq_getElem?_getD, bitList_get (by omega), Option.getD_some]
  rw [gx_succ, cn_succ] at next
  refine Ev.step (fun k => r05_gather.l0.eq_2 ..) ?_
  rw [ints_length, bitList_length, hl, hbit, hrd, w64_succ (by omega), w64_succ (by omega)]
  clear hbit hrd
  refine Ev.pos (by omega) (Ev.pos (by omega) ?_)
  refine Ev.ite (fun h => ?_) (fun h => ?_)
  ·rw [if_pos (by omega), if_pos (by omega)] at next
   refine Ev.pos (by omega) (Ev.bind (rxor_ev hg hp) ?_)
   exact next
  ·rw [if_neg (by omega), if_neg (by omega)] at next
   exact next
theorem rgather_ev {l : List Int} (hb : ∀ x ∈ l, 0 ≤ x ∧ x < 256) (hn : l.length ≤ 600) : Ev (fun k => r05_gather.f k l) (((gx (nats l) (8 * (nats l).length) : Nat) : Int), ((cn (nats l) (8 * (nats l).length) : Nat) : Int)) := by
 have hlen := nats_length l
 refine Ev.congr (fun k => by rw [r05_gather.f]) ?_
 refine Ev.bind (list_ev hb (by omega)) ?_
 rw [ints_length, bitList_length]
 obtain ⟨r, hr, hok, hl⟩ := places_ev (n := 8 * (nats l).length) (by omega)
 refine Ev.bind hr ?_
 exact rgather_l0 (by omega) hok hl (8 * (nats l).length) 0 (by omega)
theorem odd_sum {l : List Nat} {x : Nat} (m : Nat) : decide ((cn l m + (bitsOf 16 x).sum) % 2 = 1) = (go l m != par x) := by
 rw [go_cn]
 unfold par
 have e1 := Nat.mod_two_eq_zero_or_one (cn l m)
 have e2 := Nat.mod_two_eq_zero_or_one (bitsOf 16 x).sum
 rcases e1 with e1 | e1 <;> rcases e2 with e2 | e2 <;> rw [Nat.add_mod, e1, e2] <;> decide
theorem search_hit {r : List Int} {N p k0 : Nat} (hN : N ≤ 5000) (hok : rowOk r) (hl : r.length = N) (hk : k0 < N) (hp : place k0 = p) (d : Nat) : ∀ i : Nat, i + d = k0 →
  Ev (fun k => r05_Judge.l0 k (p : Int) r (i : Int)) (1, (k0 : Int)) := by
 induction d with
 | zero =>
  intro i hi
  refine Ev.step (fun k => r05_Judge.l0.eq_2 ..) ?_
  have hrd := row_place (j := i) hN hok hl (by omega)
  rw [hrd]
  have : i = k0 := by omega
  subst this
  exact Ev.pos (by omega) (Ev.pos (by omega) (Ev.pos (by rw [hp]) (Ev.ret rfl)))
 | succ d ih =>
  intro i hi
  refine Ev.step (fun k => r05_Judge.l0.eq_2 ..) ?_
  have hrd := row_place (j := i) hN hok hl (by omega)
  rw [hrd, w64_succ (by omega)]
  refine Ev.pos (by omega) (Ev.pos (by omega) (Ev.neg (fun h => ?_) (ih (i + 1) (by omega))))
  have := place_inj (i := i) (j := k0) (by omega) (by omega) (by omega)
  omega
theorem search_miss {r : List Int} {N p : Nat} (hN : N ≤ 5000) (hok : rowOk r) (hl : r.length = N) (hp : ∀ j, j < N → place j ≠ p) (d : Nat) : ∀ i : Nat, i + d = N →
  Ev (fun k => r05_Judge.l0 k (p : Int) r (i : Int)) (3, 0) := by
 induction d with
 | zero =>
  intro i hi
  refine Ev.step (fun k => r05_Judge.l0.eq_2 ..) ?_
  exact Ev.neg (by omega) (Ev.ret rfl)
 | succ d ih =>
  intro i hi
  refine Ev.step (fun k => r05_Judge.l0.eq_2 ..) ?_
  have hrd := row_place (j := i) hN hok hl (by omega)
  have hne := hp i (by omega)
  rw [hrd, w64_succ (by omega)]
  exact Ev.pos (by omega) (Ev.pos (by omega) (Ev.neg (by omega) (ih (i + 1) (by omega))))
theorem rjudge_j1 {l : List Int} (hn : l.length ≤ 512) {p : Nat} (hp : p < 8192) :
  Ev (fun k => r05_Judge.j1 k l (p : Int) (decide (p = 0 ∨ isPow p = true))) (if p = 0 ∨ isPow p = true then (2, 0) else if p - 1 - len p < 8 * l.length then (1, ((p - 1 - len p : Nat) : Int)) else (3, 0)) := by
 refine Ev.step (fun k => r05_Judge.j1.eq_2 ..) ?_
 by_cases h : p = 0 ∨ isPow p = true
 ·rw [decide_eq_true h, if_pos h]
  exact Ev.pos rfl (Ev.ret rfl)
 ·rw [decide_eq_false h, if_neg h]
  refine Ev.neg (by decide) ?_
  rw [w64_id (x := 8 * (l.length : Int)) (by omega) (by omega), show 8 * (l.length : Int) = ((8 * l.length : Nat) : Int) by omega]
  obtain ⟨r, hr, hok, hl⟩ := places_ev (n := 8 * l.length) (by omega)
  refine Ev.bind hr ?_
  have hpl := place_far (fun e => h (Or.inl e)) (by simpa using fun e => h (Or.inr e)) hp
  have h2 := hpl.2.1
  have hk : p - 1 - len p ≤ 1048576 := by omega
  have he := place_same (isPlace_place hk) hpl
  by_cases hlt : p - 1 - len p < 8 * l.length
  ·rw [if_pos hlt]
   exact search_hit (by omega) hok hl hlt he _ 0 (Nat.zero_add _)
  ·rw [if_neg hlt]
   refine search_miss (N := 8 * l.length) (by omega) hok hl (fun j hj e => ?_) _ 0 (Nat.zero_add _)
   have := place_inj (i := j) (j := p - 1 - len p) (by omega) hk (by omega)
   omega
theorem rjudge_ev {l : List Int} (hb : ∀ x ∈ l, 0 ≤ x ∧ x < 256) (hn : l.length ≤ 512) {w : Nat} (_ : w < 65536) : Ev (fun k => r05_Judge.f k l (w : Int)) ((judgeN (nats l) w).1, (judgeN (nats l) w).2.1) := by
 have hlen := nats_length l
 have hg := gx_lt (nats l) (8 * (nats l).length) (by omega)
 have hc := cn_le (nats l) (8 * (nats l).length)
 have hs := sum_bits_le 16 (w % 16384)
 have ho := odd_sum (l := nats l) (x := w % 16384) (8 * (nats l).length)
 have hwr := wrongN_lt (nats l) w
 refine Ev.congr (fun k => by rw [r05_Judge.f]) ?_
 refine Ev.bind (rgather_ev hb (by omega)) ?_
 rw [show Int.tmod (w : Int) 8192 = ((w % 8192 : Nat) : Int) from rfl, show Int.tmod (w : Int) 16384 = ((w % 16384 : Nat) : Int) from rfl]
 refine Ev.bind (rxor_ev hg (by omega)) ?_
 refine Ev.bind (rones_ev (by omega)) ?_
 have e1 : gx (nats l) (8 * (nats l).length) ^^^ w % 8192 = wrongN (nats l) w := by
  unfold wrongN
  rw [xor_mod13, Nat.mod_eq_of_lt hg]
 have e2 : (go (nats l) (8 * (nats l).length) != par (w % 16384)) = single (nats l) w := rfl
 rw [e2] at ho
 rw [e1]
 unfold judgeN
 rw [← ho, hlen] at *
 clear e1 e2 ho
 generalize wrongN (nats l) w = p at hwr ⊢
 generalize cn (nats l) (8 * l.length) = c at hc ⊢
 generalize (bitsOf 16 (w % 16384)).sum = s at hs ⊢
 dsimp only
 have e : Int.tmod (wrap64 ((c : Int) + (s : Int))) 2 = (((c + s) % 2 : Nat) : Int) := by
  rw [w64_id (by omega) (by omega)]
  rfl
 rw [e]
 clear e
 by_cases h : (c + s) % 2 = 1
 ·rw [decide_eq_true h]
  refine Ev.pos (by omega) ?_
  rw [h, show (((1 : Nat) : Int) == 1) = true from rfl, if_neg (by decide)]
  refine Ev.step (fun k => r05_Judge.j0.eq_2 ..) ?_
  refine Ev.neg (by decide) (Ev.pos rfl ?_)
  have hj := rjudge_j1 hn hwr
  have fin : (if p = 0 ∨ isPow p = true then ((2, 0) : Int × Int) else if p - 1 - len p < 8 * l.length then (1, ((p - 1 - len p : Nat) : Int)) else (3, 0)) = ((if p = 0 ∨ isPow p = true then ((2, 0, 0) : Int × Int × Int) else if p - 1 - len p < 8 * l.length then (1, ((p - 1 - len p : Nat) : Int), 0) else (3, 0, 0)).1, (if p = 0 ∨ isPow p = true then ((2, 0, 0) : Int × Int × Int) else if p - 1 - len p < 8 * l.length then (1, ((p - 1 - len p : Nat) : Int), 0) else (3, 0, 0)).2.1) := by
   split
   ·rfl
   ·split <;> rfl
  refine Ev.eq (?_ : Ev _ _) fin
  by_cases h0 : p = 0
  ·subst h0
   exact Ev.pos rfl hj
  ·refine Ev.neg (by omega) (Ev.bind (power_ev p (by omega) (by omega)) ?_)
   have : decide (p = 0 ∨ isPow p = true) = isPow p := by
    cases hp : isPow p
    ·exact decide_eq_false (by simp [h0])
    ·exact decide_eq_true (Or.inr rfl)
   rw [this] at hj
   exact hj
 ·rw [decide_eq_false h]
  refine Ev.neg (by omega) ?_
  rw [show (c + s) % 2 = 0 by omega, show (((0 : Nat) : Int) == 1) = false from rfl, if_pos rfl]
  refine Ev.step (fun k => r05_Judge.j0.eq_2 ..) ?_
  refine Ev.ite (fun h => Ev.ret ?_) (fun h => Ev.neg (by decide) (Ev.ret ?_))
  ·rw [if_pos (by have := beq_iff_eq.1 h; omega)]
  ·rw [if_neg (fun e => h (by rw [e]; rfl))]
end Go.Proofs.Ytmehbabchakkpaa.PureLadderWalks
namespace Go.Proofs.Ytmehbabchakkpaa.PureLadderWalks
open Go.RowKit QLadderWalks YtmehbabchakkpaaW.PrintWords YtmehbabchakkpaaW.PrintLast YtmehbabchakkpaaW.PrintMore EvKit BitsKit CrcMath NatKit BitsMath
theorem of_l1 {l : List Nat} {out : List Int} {q : Nat} {r : List Int} (hq : q < l.length) (hl : ∀ b ∈ l, b < 256) (hln : l.length < 1000000) (ho : out.length < 140737488355328)
  (h : Ev (fun k => r01_Of.l0 k (ints (bitList l)) (out ++ [((l[q] : Nat) : Int)]) (wrap64 ((8 * q : Nat) + 8))) r) (d : Nat) :
  ∀ (k' : Int), k' + 1 = d → d ≤ 8 → Ev (fun k => r01_Of.l1 k (ints (bitList l)) out ((8 * q : Nat) : Int) ((l[q] / 2 ^ d : Nat) : Int) k') r := by
 have hb := hl _ (List.getElem_mem hq)
 induction d with
 | zero =>
  intro k' hk hd
  refine Ev.step (fun k => r01_Of.l1.eq_2 ..) ?_
  refine Ev.neg (by omega) ?_
  refine Ev.pos ho ?_
  rw [Nat.pow_zero, Nat.div_one, show ((l[q] : Nat) : Int) % 256 = ((l[q] : Nat) : Int) from by omega]
  exact h
 | succ d ih =>
  intro k' hk hd
  have hk' : k' = (d : Int) := by omega
  subst hk'
  have hw : wrap64 (((8 * q : Nat) : Int) + (d : Int)) = ((8 * q + d : Nat) : Int) := by
   rw [← Int.natCast_add]
   exact w64_id (by omega) (by omega)
  have hlt : 8 * q + d < 8 * l.length := by omega
  have hbit : rd (ints (bitList l)) ((8 * q + d : Nat) : Int) = ((l[q] / 2 ^ d % 2 : Nat) : Int) := by
   rw [rd_ints, List.getD_eq_getElem?_getD, bitList_get hlt, Option.getD_some]
   unfold bitAt
   rw [show (8 * q + d) / 8 = q by omega, show (8 * q + d) % 8 = d by omega, List.getD_eq_getElem?_getD, List.getElem?_eq_getElem hq, Option.getD_some]
  have hdiv : l[q] / 2 ^ (d + 1) = l[q] / 2 ^ d / 2 := by rw [Nat.pow_succ, Nat.div_div_eq_div_mul]
  have hdl : l[q] / 2 ^ d ≤ l[q] := Nat.div_le_self _ _
  have next := ih ((d : Int) - 1) (by omega) (by omega)
  refine Ev.step (fun k => r01_Of.l1.eq_2 ..) ?_
  refine Ev.pos (by omega) ?_
  rw [hw, hbit, hdiv, ints_length, bitList_length]
  clear hw hbit hdiv
  refine Ev.pos (by omega) ?_
  refine Ev.pos (by omega) ?_
  generalize l[q] / 2 ^ d = x at hdl next ⊢
  rw [w64_id (x := 2 * ((x / 2 : Nat) : Int)) (by omega) (by omega), w64_id (x := 2 * ((x / 2 : Nat) : Int) + ((x % 2 : Nat) : Int)) (by omega) (by omega), w64_id (x := (d : Int) - 1) (by omega) (by omega), show 2 * ((x / 2 : Nat) : Int) + ((x % 2 : Nat) : Int) = (x : Int) from by omega]
  exact next
theorem of_l0 {l : List Nat} (hl : ∀ b ∈ l, b < 256) (hln : l.length < 1000000) (d : Nat) : ∀ (q : Nat), q + d = l.length → Ev (fun k => r01_Of.l0 k (ints (bitList l)) (ints (l.take q)) ((8 * q : Nat) : Int)) (ints l) := by
 induction d with
 | zero =>
  intro q hq
  refine Ev.step (fun k => r01_Of.l0.eq_2 ..) ?_
  rw [ints_length, bitList_length, w64_id (by omega) (by omega)]
  refine Ev.neg (by omega) (Ev.ret ?_)
  rw [List.take_of_length_le (by omega)]
 | succ d ih =>
  intro q hq
  refine Ev.step (fun k => r01_Of.l0.eq_2 ..) ?_
  rw [ints_length, bitList_length, w64_id (by omega) (by omega)]
  refine Ev.pos (by omega) ?_
  have hql : q < l.length := by omega
  have hb := hl _ (List.getElem_mem hql)
  have e0 : ((l[q] / 2 ^ 8 : Nat) : Int) = 0 := by rw [Nat.div_eq_of_lt (by simpa using hb)]; rfl
  have := of_l1 (out := ints (l.take q)) (r := ints l) hql hl hln (by rw [ints_length, List.length_take]; omega) ?_ 8 7 (by decide) (by decide)
  ·rw [e0] at this
   exact this
  ·have e1 : wrap64 (((8 * q : Nat) : Int) + 8) = ((8 * (q + 1) : Nat) : Int) := by rw [w64_id (by omega) (by omega)]; omega
   rw [e1]
   have e2 : ints (l.take q) ++ [((l[q] : Nat) : Int)] = ints (l.take (q + 1)) := by
    rw [List.take_succ_eq_append_getElem hql]
    unfold ints
    rw [List.map_append]
    rfl
   rw [e2]
   exact ih (q + 1) (by omega)
theorem of_ev {l : List Nat} (hl : ∀ b ∈ l, b < 256) (hln : l.length < 1000000) : Ev (fun k => r01_Of.f k (ints (bitList l))) (ints l) := by
 refine Ev.congr (fun k => by rw [r01_Of.f]) ?_
 exact of_l0 hl hln l.length 0 (by omega)
end Go.Proofs.Ytmehbabchakkpaa.PureLadderWalks
namespace Go.Proofs.Ytmehbabchakkpaa.PureLadderWalks
open Go.RowKit QLadderWalks YtmehbabchakkpaaW.PrintWords YtmehbabchakkpaaW.PrintLast YtmehbabchakkpaaW.PrintMore EvKit BitsKit CrcMath NatKit BitsMath
theorem rflip_l0 {at_ : List Int} (hn : at_.length < 1000000) (d : Nat) : ∀ (i : Nat) (l : List Nat), i + d = at_.length → (∀ b ∈ l, b < 256) → l.length < 1000000 →
  Ev (fun k => r01_Flip.l0 k at_ (ints (bitList l)) (i : Int)) (ints (flips l (at_.drop i))) := by
 induction d with
 | zero =>
  intro i l hi hl hln
  refine Ev.step (fun k => r01_Flip.l0.eq_2 ..) ?_
  refine Ev.neg (by omega) ?_
  refine Ev.bind (of_ev hl hln) (Ev.ret ?_)
  rw [List.drop_of_length_le (by omega)]
  rfl
 | succ d ih =>
  intro i l hi hl hln
  refine Ev.step (fun k => r01_Flip.l0.eq_2 ..) ?_
  refine Ev.pos (by omega) ?_
  refine Ev.pos (by omega) ?_
  rw [drop_rd (l := at_) (i := i) (by omega), w64_succ (by omega), ints_length, bitList_length]
  have next := fun v => ih (i + 1) (flip1 l v) (by omega) (flip1_lt hl v) (by rw [flip1_length]; exact hln)
  generalize rd at_ (i : Int) = a
  have next := next a
  show Ev _ (ints (flips (flip1 l a) (at_.drop (i + 1))))
  have hself : ¬ (0 ≤ a ∧ a / 8 < (l.length : Int)) → flip1 l a = l := fun h => by unfold flip1; rw [if_neg h]
  refine Ev.ite (fun h0 => ?_) (fun h0 => ?_)
  ·obtain ⟨m, rfl⟩ := Int.eq_ofNat_of_zero_le h0
   refine Ev.ite (fun h1 => ?_) (fun h1 => ?_)
   ·refine Ev.pos h0 ?_
    have hm : m < 8 * l.length := by omega
    have hb2 : bitAt l m < 2 := Nat.mod_lt _ (by decide)
    have hbit : rd (ints (bitList l)) (m : Int) = ((bitAt l m : Nat) : Int) := by
     rw [rd_ints, List.getD_eq_getElem?_getD, bitList_get hm, Option.getD_some]
    rw [hbit, w64_id (by omega) (by omega), Int.toNat_natCast, show (1 : Int) - ((bitAt l m : Nat) : Int) = ((1 - bitAt l m : Nat) : Int) from by omega, ints_set, ← bitList_flip1 l m (by omega)]
    exact next
   ·rw [hself (by omega)] at next ⊢
    exact next
  ·rw [hself (by omega)] at next ⊢
   exact next
theorem rflip_ev {l at_ : List Int} (hl : ∀ x ∈ l, 0 ≤ x ∧ x < 256) (hln : l.length < 1000000) (hn : at_.length < 1000000) : Ev (fun k => r01_Flip.f k l at_) (ints (flips (nats l) at_)) := by
 refine Ev.congr (fun k => by rw [r01_Flip.f]) ?_
 refine Ev.bind (list_ev hl hln) ?_
 exact rflip_l0 hn at_.length 0 (nats l) (by omega) (nats_lt hl) (by rw [nats_length]; exact hln)
theorem rzeros_l0 (bs : List Nat) (hb : ∀ x ∈ bs, x < 2) (hn : bs.length < 100000000) (d : Nat) : ∀ (n i : Nat), i + d = bs.length → n ≤ i →
  Ev (fun k => r01_Zeros.l0 k (n : Int) (ints bs) (i : Int)) (((n + (bs.length - i) : Nat) : Int) - (((bs.drop i).sum : Nat) : Int)) := by
 induction d with
 | zero =>
  intro n i hi hni
  refine Ev.step (fun k => r01_Zeros.l0.eq_2 ..) ?_
  rw [ints_length]
  refine Ev.neg (by omega) (Ev.ret ?_)
  rw [List.drop_of_length_le (by omega), List.sum_nil]
  omega
 | succ d ih =>
  intro n i hi hni
  have hil : i < bs.length := by omega
  have hx : bs[i] < 2 := hb _ (List.getElem_mem hil)
  refine Ev.step (fun k => r01_Zeros.l0.eq_2 ..) ?_
  rw [ints_length]
  refine Ev.pos (by omega) ?_
  refine Ev.pos (by omega) ?_
  rw [rd_ints_lt hil, List.drop_eq_getElem_cons hil, List.sum_cons]
  have next := fun m => ih m (i + 1) (by omega)
  generalize bs[i] = x at hx ⊢
  rw [w64_id (x := (n : Int) + 1) (by omega) (by omega), w64_id (by omega) (by omega), w64_succ (by omega), show (n : Int) + 1 - (x : Int) = ((n + 1 - x : Nat) : Int) from by omega]
  refine Ev.eq (next (n + 1 - x) (by omega)) ?_
  omega
theorem rzeros_ev {l : List Int} (hl : ∀ x ∈ l, 0 ≤ x ∧ x < 256) (hln : l.length < 1000000) : Ev (fun k => r01_Zeros.f k l) ((8 * l.length - count (nats l) : Nat) : Int) := by
 refine Ev.congr (fun k => by rw [r01_Zeros.f]) ?_
 refine Ev.bind (list_ev hl hln) ?_
 have hlen : (bitList (nats l)).length = 8 * l.length := by rw [bitList_length, nats_length]
 refine Ev.eq (rzeros_l0 (bitList (nats l)) (fun x hx => ?_) (by omega) (bitList (nats l)).length 0 0 (by omega) (by omega)) ?_
 ·obtain ⟨i, _, rfl⟩ := List.mem_map.1 hx
  exact Nat.mod_lt _ (by decide)
 ·rw [List.drop_zero, count_bits, hlen]
  have := count_le (nats l)
  rw [nats_length] at this
  omega
end Go.Proofs.Ytmehbabchakkpaa.PureLadderWalks
namespace Go.Proofs.Ytmehbabchakkpaa.PureLadderWalks
open Go.RowKit QLadderWalks YtmehbabchakkpaaW.PrintWords YtmehbabchakkpaaW.PrintLast YtmehbabchakkpaaW.PrintMore EvKit BitsKit CrcMath NatKit BitsMath LenMath HamMath ChunkMath
theorem rdecode_ev {r : List Int} (hr : ∀ x ∈ r, 0 ≤ x ∧ x < 256) (hn : r.length < 1000000) : Ev (fun k => r06_Decode.f k r) (decN (nats r)) := by
 have hlen := nats_length r
 have e1 : wrap64 ((r.length : Int) - 2) = (r.length : Int) - 2 := w64_id (by omega) (by omega)
 refine Ev.congr (fun k => by rw [r06_Decode.f]) ?_
 rw [e1]
 clear e1
 unfold decN
 rw [hlen]
 have hj : Ev (fun k => r06_Decode.j0 k r ((r.length : Int) - 2) true) ([], 0, 2) := Ev.step (fun k => r06_Decode.j0.eq_2 ..) (Ev.pos rfl (Ev.ret rfl))
 refine Ev.ite (fun h => ?_) (fun h => ?_)
 ·rw [if_pos (by omega)]
  exact hj
 by_cases h512 : (r.length : Int) - 2 > 512
 ·rw [decide_eq_true h512, if_pos (by omega)]
  exact hj
 rw [decide_eq_false h512, if_neg (by omega)]
 clear hj
 obtain ⟨n, hn2⟩ : ∃ n, r.length = n + 2 := ⟨r.length - 2, by omega⟩
 have e2 : (r.length : Int) - 2 = (n : Int) := by omega
 rw [e2, hn2, show n + 2 - 2 = n by omega, show n + 2 - 1 = n + 1 by omega]
 refine Ev.step (fun k => r06_Decode.j0.eq_2 ..) (Ev.neg (by decide) ?_)
 refine Ev.step (fun k => r06_Decode.j1.eq_2 ..) ?_
 rw [w64_succ (by omega), Int.toNat_natCast]
 refine Ev.pos (by omega) (Ev.pos (by omega) (Ev.pos (by omega) (Ev.pos (by omega) (Ev.pos (by omega) ?_))))
 have b1 := hr _ (rd_mem (l := r) (i := (n : Int)) (by omega) (by omega))
 have b2 := hr _ (rd_mem (l := r) (i := ((n + 1 : Nat) : Int)) (by omega) (by omega))
 have r1 := rd_nats (l := r) (fun x hx => (hr x hx).1) n
 have r2 := rd_nats (l := r) (fun x hx => (hr x hx).1) (n + 1)
 rw [r1] at b1 ⊢
 rw [r2] at b2 ⊢
 have hd : ∀ x ∈ r.take n, 0 ≤ x ∧ x < 256 := fun x hx => hr x (List.mem_of_mem_take hx)
 have hdl : (r.take n).length = n := by rw [List.length_take]; omega
 have ew : wrap64 (wrap64 (((nats r).getD n 0 : Nat) : Int) + wrap64 (256 * wrap64 (((nats r).getD (n + 1) 0 : Nat) : Int))) = (((nats r).getD n 0 + 256 * (nats r).getD (n + 1) 0 : Nat) : Int) := by
  rw [w64_id (x := (((nats r).getD n 0 : Nat) : Int)) (by omega) (by omega), w64_id (x := (((nats r).getD (n + 1) 0 : Nat) : Int)) (by omega) (by omega), w64_id (x := 256 * (((nats r).getD (n + 1) 0 : Nat) : Int)) (by omega) (by omega), w64_id (by omega) (by omega)]
  omega
 rw [ew]
 clear ew
 refine Ev.bind (rjudge_ev hd (by omega) (by omega)) ?_
 rw [nats_take]
 have hst := judgeN_states ((nats r).take n) ((nats r).getD n 0 + 256 * (nats r).getD (n + 1) 0)
 generalize judgeN ((nats r).take n) ((nats r).getD n 0 + 256 * (nats r).getD (n + 1) 0) = j at hst ⊢
 obtain ⟨s, b, e⟩ := j
 obtain ⟨h1, h2, h3⟩ := hst
 dsimp only at h1 h2 h3 ⊢
 have hdd : ints ((nats r).take n) = r.take n := by rw [← nats_take]; exact ints_nats fun x hx => (hd x hx).1
 have hf1 := rflip_ev (l := r.take n) (at_ := [b]) hd (by omega) (by simp)
 rw [nats_take] at hf1
 unfold decOf
 rw [hdd]
 dsimp only
 rcases h2 with rfl | rfl | rfl | rfl
 ·exact Ev.neg (by decide) (Ev.step (fun k => r06_Decode.j2.eq_2 ..) (Ev.neg (by decide) (Ev.step (fun k => r06_Decode.j3.eq_2 ..) (Ev.neg (by decide) (Ev.pos (by omega) (Ev.pos (by omega) (Ev.ret rfl)))))))
 ·exact Ev.neg (by decide) (Ev.step (fun k => r06_Decode.j2.eq_2 ..) (Ev.pos rfl (Ev.pos (by omega) (Ev.pos (by omega) (Ev.bind hf1 (Ev.ret rfl))))))
 ·exact Ev.neg (by decide) (Ev.step (fun k => r06_Decode.j2.eq_2 ..) (Ev.neg (by decide) (Ev.step (fun k => r06_Decode.j3.eq_2 ..) (Ev.pos rfl (Ev.pos (by omega) (Ev.pos (by omega) (Ev.ret rfl)))))))
 ·exact Ev.pos rfl (Ev.ret rfl)
end Go.Proofs.Ytmehbabchakkpaa.PureLadderWalks
