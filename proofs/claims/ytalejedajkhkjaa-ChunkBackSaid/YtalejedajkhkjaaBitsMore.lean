/-
  Plain laws on bits of bytes: lists that have the same bits are the same; turned twice is not turned; what two have.
-/
import Derived.Test.YtalejedajkhkjaaBitsMath
namespace Go.Proofs.Ytalejedajkhkjaa.BitsMath
open Go.RowKit Go.Proofs.Ytalejedajkhkjaa.CrcMath
theorem bitAt_lt2 (l : List Nat) (i : Nat) : bitAt l i < 2 := Nat.mod_lt _ (by decide)
theorem bits_ext {a b : List Nat} (ha : ∀ x ∈ a, x < 256) (hb : ∀ x ∈ b, x < 256) (hl : a.length = b.length) (h : ∀ j, j < 8 * a.length → bitAt a j = bitAt b j) : a = b := by
  refine List.ext_getElem hl (fun i h1 h2 => ?_)
  have hai := ha _ (List.getElem_mem h1)
  have hbi := hb _ (List.getElem_mem h2)
  refine Nat.eq_of_testBit_eq (fun j => ?_)
  by_cases hj : j < 8
  · have := h (8 * i + j) (by omega)
    rw [bitAt_test, bitAt_test, show (8 * i + j) / 8 = i by omega, show (8 * i + j) % 8 = j by omega, List.getD_eq_getElem?_getD, List.getD_eq_getElem?_getD, List.getElem?_eq_getElem h1, List.getElem?_eq_getElem h2, Option.getD_some, Option.getD_some] at this
    revert this
    cases a[i].testBit j <;> cases b[i].testBit j <;> decide
  · have hp : 2 ^ 8 ≤ 2 ^ j := Nat.pow_le_pow_right (by decide) (by omega)
    rw [Nat.testBit_lt_two_pow (Nat.lt_of_lt_of_le hai hp), Nat.testBit_lt_two_pow (Nat.lt_of_lt_of_le hbi hp)]
theorem flip1_off (l : List Nat) (i : Int) (h : ¬ (0 ≤ i ∧ i / 8 < (l.length : Int))) : flip1 l i = l := by
  unfold flip1
  rw [if_neg h]
theorem flip1_twice {l : List Nat} (hl : ∀ b ∈ l, b < 256) (i : Int) : flip1 (flip1 l i) i = l := by
  by_cases h : 0 ≤ i ∧ i / 8 < (l.length : Int)
  · obtain ⟨m, rfl⟩ := Int.eq_ofNat_of_zero_le h.1
    refine bits_ext (flip1_lt (flip1_lt hl _) _) hl (by rw [flip1_length, flip1_length]) (fun j hj => ?_)
    rw [bitAt_flip1 _ m (by rw [flip1_length]; omega), bitAt_flip1 _ m (by omega)]
    have := bitAt_lt2 l j
    split <;> omega
  · rw [flip1_off l i h, flip1_off l i h]
theorem flip1_comm {l : List Nat} (hl : ∀ b ∈ l, b < 256) (i k : Int) : flip1 (flip1 l i) k = flip1 (flip1 l k) i := by
  by_cases h : 0 ≤ i ∧ i / 8 < (l.length : Int)
  · by_cases h' : 0 ≤ k ∧ k / 8 < (l.length : Int)
    · obtain ⟨m, rfl⟩ := Int.eq_ofNat_of_zero_le h.1
      obtain ⟨n, rfl⟩ := Int.eq_ofNat_of_zero_le h'.1
      refine bits_ext (flip1_lt (flip1_lt hl _) _) (flip1_lt (flip1_lt hl _) _) (by rw [flip1_length, flip1_length, flip1_length, flip1_length]) (fun j hj => ?_)
      rw [bitAt_flip1 _ n (by rw [flip1_length]; omega), bitAt_flip1 _ m (by omega), bitAt_flip1 _ m (by rw [flip1_length]; omega), bitAt_flip1 _ n (by omega)]
      split <;> split <;> rfl
    · rw [flip1_off l k h', flip1_off (flip1 l i) k (by rw [flip1_length]; exact h')]
  · rw [flip1_off l i h, flip1_off (flip1 l k) i (by rw [flip1_length]; exact h)]
theorem flips_flip1 : ∀ (p : List Int) {l : List Nat}, (∀ b ∈ l, b < 256) → ∀ i : Int, flip1 (flips l p) i = flips (flip1 l i) p
  | [], _, _, _ => rfl
  | k :: p, l, hl, i => by
    show flip1 (flips (flip1 l k) p) i = flips (flip1 (flip1 l i) k) p
    rw [flips_flip1 p (flip1_lt hl k) i, flip1_comm hl k i]
theorem flips_twice : ∀ (p : List Int) {l : List Nat}, (∀ b ∈ l, b < 256) → flips (flips l p) p = l
  | [], _, _ => rfl
  | k :: p, l, hl => by
    show flips (flip1 (flips (flip1 l k) p) k) p = l
    rw [flips_flip1 p (flip1_lt hl k) k, flip1_twice hl k]
    exact flips_twice p hl
theorem flips_bits : ∀ (p : List Nat) (l : List Nat), p.Nodup → (∀ i ∈ p, i / 8 < l.length) → ∀ j, bitAt (flips l (p.map fun i : Nat => (i : Int))) j = if j ∈ p then 1 - bitAt l j else bitAt l j
  | [], l, _, _, j => by simp [flips]
  | i :: p, l, hn, hp, j => by
    obtain ⟨hi, hn'⟩ := List.nodup_cons.1 hn
    have hil := hp i (List.mem_cons_self ..)
    have h := flips_bits p (flip1 l (i : Int)) hn' (fun k hk => by rw [flip1_length]; exact hp k (List.mem_cons_of_mem _ hk)) j
    show bitAt (flips (flip1 l (i : Int)) (p.map fun i : Nat => (i : Int))) j = _
    rw [h, bitAt_flip1 l i hil]
    by_cases e : i = j
    · subst e
      rw [if_neg hi, if_pos rfl, if_pos (List.mem_cons_self ..)]
    · rw [if_neg e]
      by_cases hj : j ∈ p
      · rw [if_pos hj, if_pos (List.mem_cons_of_mem _ hj)]
      · rw [if_neg hj, if_neg (fun hm => by
          rcases List.mem_cons.1 hm with hm | hm
          · exact e hm.symm
          · exact hj hm)]
theorem mem_diffN {a b : List Nat} {j : Nat} : j ∈ diffN a b ↔ j < 8 * min a.length b.length ∧ bitAt a j ≠ bitAt b j := by
  unfold diffN
  rw [List.mem_filter, List.mem_range]
  simp
theorem diffN_nodup (a b : List Nat) : (diffN a b).Nodup := List.Pairwise.filter _ List.nodup_range
theorem flips_diff {a b : List Nat} (ha : ∀ x ∈ a, x < 256) (hb : ∀ x ∈ b, x < 256) (hl : a.length = b.length) : flips a ((diffN a b).map fun i : Nat => (i : Int)) = b := by
  refine bits_ext (flips_lt _ ha) hb (by rw [flips_length]; exact hl) (fun j hj => ?_)
  rw [flips_length] at hj
  rw [flips_bits _ a (diffN_nodup a b) (fun i hi => by have := (mem_diffN.1 hi).1; omega) j]
  have h1 := bitAt_lt2 a j
  have h2 := bitAt_lt2 b j
  by_cases h : j ∈ diffN a b
  · rw [if_pos h]
    have := (mem_diffN.1 h).2
    omega
  · rw [if_neg h]
    by_cases e : bitAt a j = bitAt b j
    · exact e
    · exact absurd (mem_diffN.2 ⟨by omega, e⟩) h
theorem count_mono : ∀ (a t : List Nat), a.length ≤ t.length → (∀ i, i < a.length → ones (t.getD i 0) ≤ ones (a.getD i 0)) → count t ≤ count a + 8 * (t.length - a.length)
  | [], t, _, _ => by
    have := count_le t
    simpa [count] using this
  | x :: a, [], h, _ => absurd h (by simp)
  | x :: a, y :: t, h, hp => by
    have h0 : ones y ≤ ones x := hp 0 (by simp)
    have ih := count_mono a t (by simpa using h) (fun i hi => by simpa using hp (i + 1) (by simpa using hi))
    unfold count at ih ⊢
    rw [List.map_cons, List.map_cons, List.sum_cons, List.sum_cons, List.length_cons, List.length_cons]
    omega
theorem bitsOf_and : ∀ (n x y : Nat), (bitsOf n (x &&& y)).sum ≤ (bitsOf n x).sum
  | 0, _, _ => Nat.le_refl _
  | n + 1, x, y => by
    have ih := bitsOf_and n (x / 2) (y / 2)
    unfold bitsOf
    rw [List.sum_cons, List.sum_cons, Nat.and_div_two]
    have : (x &&& y) % 2 ≤ x % 2 := by
      have e : ∀ z : Nat, z % 2 = (z.testBit 0).toNat := fun z => by
        rw [Nat.toNat_testBit, Nat.pow_zero, Nat.div_one]
      rw [e x, e (x &&& y), Nat.testBit_and]
      cases x.testBit 0 <;> cases y.testBit 0 <;> decide
    omega
theorem ones_and (x y : Nat) : ones (x &&& y) ≤ ones x := bitsOf_and 8 x y
theorem andN_comm {a b : List Nat} (ha : ∀ x ∈ a, x < 256) (hb : ∀ x ∈ b, x < 256) : andN a b = andN b a := by
  refine bits_ext (andN_lt ha hb) (andN_lt hb ha) (by rw [andN_length, andN_length]; omega) (fun j hj => ?_)
  rw [andN_length] at hj
  rw [bitAt_andN hj, bitAt_andN (by omega), Nat.mul_comm (bitAt b j)]
  split <;> split <;> first | rfl | omega
theorem andN_assoc {a b c : List Nat} (ha : ∀ x ∈ a, x < 256) (hb : ∀ x ∈ b, x < 256) (hc : ∀ x ∈ c, x < 256) : andN (andN a b) c = andN a (andN b c) := by
  refine bits_ext (andN_lt (andN_lt ha hb) hc) (andN_lt ha (andN_lt hb hc)) (by rw [andN_length, andN_length, andN_length, andN_length]; omega) (fun j hj => ?_)
  rw [andN_length, andN_length] at hj
  rw [bitAt_andN (a := andN a b) (b := c) (by rw [andN_length]; exact hj), bitAt_andN (a := a) (b := andN b c) (by rw [andN_length]; omega), andN_length, andN_length]
  by_cases h1 : j < 8 * max a.length b.length
  · rw [bitAt_andN (a := a) (b := b) h1]
    by_cases h2 : j < 8 * max b.length c.length
    · rw [bitAt_andN (a := b) (b := c) h2]
      (repeat' split) <;> first | rfl | omega | exact Nat.mul_assoc _ _ _
    · (repeat' split) <;> first | rfl | omega
  · rw [if_pos (by omega)]
    by_cases h2 : j < 8 * max b.length c.length
    · rw [bitAt_andN (a := b) (b := c) h2]
      (repeat' split) <;> first | rfl | omega
    · omega
theorem andN_left {a b : List Nat} (ha : ∀ x ∈ a, x < 256) (hb : ∀ x ∈ b, x < 256) : andN (andN a b) a = andN a b := by
  refine bits_ext (andN_lt (andN_lt ha hb) ha) (andN_lt ha hb) (by rw [andN_length, andN_length]; omega) (fun j hj => ?_)
  rw [andN_length, andN_length] at hj
  have h1 : j < 8 * max a.length b.length := by omega
  rw [bitAt_andN (a := andN a b) (b := a) (by rw [andN_length]; exact hj), andN_length, bitAt_andN (a := a) (b := b) h1]
  have h2 := bitAt_lt2 a j
  have h3 := bitAt_lt2 b j
  have h4 : bitAt a j = 0 ∨ bitAt a j = 1 := by omega
  have h5 : bitAt b j = 0 ∨ bitAt b j = 1 := by omega
  (repeat' split) <;> first | rfl | omega | (rcases h4 with e | e <;> rcases h5 with e' | e' <;> rw [e, e'])  | (rcases h4 with e | e <;> rw [e])
theorem andN_self {a : List Nat} (ha : ∀ x ∈ a, x < 256) : andN a a = a := by
  refine bits_ext (andN_lt ha ha) ha (by rw [andN_length]; omega) (fun j hj => ?_)
  rw [andN_length] at hj
  rw [bitAt_andN hj, if_neg (by omega), if_neg (by omega)]
  have h2 := bitAt_lt2 a j
  have h4 : bitAt a j = 0 ∨ bitAt a j = 1 := by omega
  rcases h4 with e | e <;> rw [e]
end Go.Proofs.Ytalejedajkhkjaa.BitsMath
