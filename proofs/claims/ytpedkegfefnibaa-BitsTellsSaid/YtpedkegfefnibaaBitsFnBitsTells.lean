/-
  What the program's package bits comes to: a bit, bits turned, ones counted.
-/
import Derived.Test.YtpedkegfefnibaaRefBitBitsTells
namespace Go.Proofs.Ytpedkegfefnibaa.BitsMath
open Go.Proofs.Ytpedkegfefnibaa.CrcMath
/-- a bit turned, if there is one -/
def flip1 (l : List Nat) (i : Int) : List Nat := if 0 ≤ i ∧ i / 8 < (l.length : Int) then l.set (i.toNat / 8) (l.getD (i.toNat / 8) 0 ^^^ 2 ^ (i.toNat % 8)) else l
def flips (l : List Nat) (at_ : List Int) : List Nat := at_.foldl flip1 l
def ones (b : Nat) : Nat := (bitsOf 8 b).sum
def count (l : List Nat) : Nat := (l.map ones).sum
theorem flip1_length (l : List Nat) (i : Int) : (flip1 l i).length = l.length := by
  unfold flip1
  split
  · exact List.length_set
  · rfl
theorem flip1_lt {l : List Nat} (h : ∀ b ∈ l, b < 256) (i : Int) : ∀ b ∈ flip1 l i, b < 256 := by
  unfold flip1
  split
  · intro b hb
    rcases List.mem_or_eq_of_mem_set hb with hb | rfl
    · exact h b hb
    · have h1 : 2 ^ (i.toNat % 8) < 2 ^ 8 := Nat.pow_lt_pow_right (by decide) (Nat.mod_lt _ (by decide))
      refine Nat.xor_lt_two_pow (n := 8) ?_ h1
      rw [List.getD_eq_getElem?_getD]
      cases e : l[i.toNat / 8]? with
      | none => decide
      | some x => exact h x (List.mem_of_getElem? e)
  · exact h
theorem flips_length : ∀ (at_ : List Int) (l : List Nat), (flips l at_).length = l.length
  | [], _ => rfl
  | i :: at_, l => by
    show (flips (flip1 l i) at_).length = _
    rw [flips_length at_, flip1_length]
theorem flips_lt : ∀ (at_ : List Int) {l : List Nat}, (∀ b ∈ l, b < 256) → ∀ b ∈ flips l at_, b < 256
  | [], _, h => h
  | i :: at_, _, h => flips_lt at_ (flip1_lt h i)
theorem ones_le (b : Nat) : ones b ≤ 8 := by
  unfold ones
  simp only [bitsOf, List.sum_cons, List.sum_nil]
  omega
theorem count_le : ∀ l : List Nat, count l ≤ 8 * l.length
  | [] => Nat.le_refl _
  | b :: l => by
    have h1 := count_le l
    have h2 := ones_le b
    unfold count at h1 ⊢
    rw [List.map_cons, List.sum_cons, List.length_cons]
    omega
/-- the table of ones -/
theorem ones_table : ∀ b : Nat, b < 256 → ones b = [0, 1, 1, 2, 1, 2, 2, 3, 1, 2, 2, 3, 2, 3, 3, 4, 1, 2, 2, 3, 2, 3, 3, 4, 2, 3, 3, 4, 3, 4, 4, 5, 1, 2, 2, 3, 2, 3, 3, 4, 2, 3, 3, 4, 3, 4, 4, 5, 2, 3, 3, 4, 3, 4, 4, 5, 3, 4, 4, 5, 4, 5, 5, 6, 1, 2, 2, 3, 2, 3, 3, 4, 2, 3, 3, 4, 3, 4, 4, 5, 2, 3, 3, 4, 3, 4, 4, 5, 3, 4, 4, 5, 4, 5, 5, 6, 2, 3, 3, 4, 3, 4, 4, 5, 3, 4, 4, 5, 4, 5, 5, 6, 3, 4, 4, 5, 4, 5, 5, 6, 4, 5, 5, 6, 5, 6, 6, 7, 1, 2, 2, 3, 2, 3, 3, 4, 2, 3, 3, 4, 3, 4, 4, 5, 2, 3, 3, 4, 3, 4, 4, 5, 3, 4, 4, 5, 4, 5, 5, 6, 2, 3, 3, 4, 3, 4, 4, 5, 3, 4, 4, 5, 4, 5, 5, 6, 3, 4, 4, 5, 4, 5, 5, 6, 4, 5, 5, 6, 5, 6, 6, 7, 2, 3, 3, 4, 3, 4, 4, 5, 3, 4, 4, 5, 4, 5, 5, 6, 3, 4, 4, 5, 4, 5, 5, 6, 4, 5, 5, 6, 5, 6, 6, 7, 3, 4, 4, 5, 4, 5, 5, 6, 4, 5, 5, 6, 5, 6, 6, 7, 4, 5, 5, 6, 5, 6, 6, 7, 5, 6, 6, 7, 6, 7, 7, 8].getD b 0 := by
  decide +kernel
end Go.Proofs.Ytpedkegfefnibaa.BitsMath
namespace Go.Proofs.Ytpedkegfefnibaa.PureBitsTells
open Go.RowKit Go.Proofs.Ytpedkegfefnibaa.QBitsTells Go.Proofs.YtpedkegfefnibaaW.PrintWords Go.Proofs.YtpedkegfefnibaaW.PrintLast Go.Proofs.YtpedkegfefnibaaW.PrintMore Go.Proofs.Ytpedkegfefnibaa.EvKit Go.Proofs.Ytpedkegfefnibaa.BitsKit Go.Proofs.Ytpedkegfefnibaa.CrcMath Go.Proofs.Ytpedkegfefnibaa.NatKit Go.Proofs.Ytpedkegfefnibaa.BitsMath

theorem ones_eq {b : Nat} (hb : b < 256) : bits_OnesCount8.f (b : Int) = some ((ones b : Nat) : Int) := by
  unfold bits_OnesCount8.f
  rw [if_pos (by omega), if_pos (by omega)]
  congr 1
  rw [ones_table b hb]
  have key : ∀ b : Nat, b < 256 → bt (⟨#[0, 1, 1, 2, 1, 2, 2, 3, 1, 2, 2, 3, 2, 3, 3, 4, 1, 2, 2, 3, 2, 3, 3, 4, 2, 3, 3, 4, 3, 4, 4, 5, 1, 2, 2, 3, 2, 3, 3, 4, 2, 3, 3, 4, 3, 4, 4, 5, 2, 3, 3, 4, 3, 4, 4, 5, 3, 4, 4, 5, 4, 5, 5, 6, 1, 2, 2, 3, 2, 3, 3, 4, 2, 3, 3, 4, 3, 4, 4, 5, 2, 3, 3, 4, 3, 4, 4, 5, 3, 4, 4, 5, 4, 5, 5, 6, 2, 3, 3, 4, 3, 4, 4, 5, 3, 4, 4, 5, 4, 5, 5, 6, 3, 4, 4, 5, 4, 5, 5, 6, 4, 5, 5, 6, 5, 6, 6, 7, 1, 2, 2, 3, 2, 3, 3, 4, 2, 3, 3, 4, 3, 4, 4, 5, 2, 3, 3, 4, 3, 4, 4, 5, 3, 4, 4, 5, 4, 5, 5, 6, 2, 3, 3, 4, 3, 4, 4, 5, 3, 4, 4, 5, 4, 5, 5, 6, 3, 4, 4, 5, 4, 5, 5, 6, 4, 5, 5, 6, 5, 6, 6, 7, 2, 3, 3, 4, 3, 4, 4, 5, 3, 4, 4, 5, 4, 5, 5, 6, 3, 4, 4, 5, 4, 5, 5, 6, 4, 5, 5, 6, 5, 6, 6, 7, 3, 4, 4, 5, 4, 5, 5, 6, 4, 5, 5, 6, 5, 6, 6, 7, 4, 5, 5, 6, 5, 6, 6, 7, 5, 6, 6, 7, 6, 7, 7, 8]⟩ : ByteArray) (b : Int) = (([0, 1, 1, 2, 1, 2, 2, 3, 1, 2, 2, 3, 2, 3, 3, 4, 1, 2, 2, 3, 2, 3, 3, 4, 2, 3, 3, 4, 3, 4, 4, 5, 1, 2, 2, 3, 2, 3, 3, 4, 2, 3, 3, 4, 3, 4, 4, 5, 2, 3, 3, 4, 3, 4, 4, 5, 3, 4, 4, 5, 4, 5, 5, 6, 1, 2, 2, 3, 2, 3, 3, 4, 2, 3, 3, 4, 3, 4, 4, 5, 2, 3, 3, 4, 3, 4, 4, 5, 3, 4, 4, 5, 4, 5, 5, 6, 2, 3, 3, 4, 3, 4, 4, 5, 3, 4, 4, 5, 4, 5, 5, 6, 3, 4, 4, 5, 4, 5, 5, 6, 4, 5, 5, 6, 5, 6, 6, 7, 1, 2, 2, 3, 2, 3, 3, 4, 2, 3, 3, 4, 3, 4, 4, 5, 2, 3, 3, 4, 3, 4, 4, 5, 3, 4, 4, 5, 4, 5, 5, 6, 2, 3, 3, 4, 3, 4, 4, 5, 3, 4, 4, 5, 4, 5, 5, 6, 3, 4, 4, 5, 4, 5, 5, 6, 4, 5, 5, 6, 5, 6, 6, 7, 2, 3, 3, 4, 3, 4, 4, 5, 3, 4, 4, 5, 4, 5, 5, 6, 3, 4, 4, 5, 4, 5, 5, 6, 4, 5, 5, 6, 5, 6, 6, 7, 3, 4, 4, 5, 4, 5, 5, 6, 4, 5, 5, 6, 5, 6, 6, 7, 4, 5, 5, 6, 5, 6, 6, 7, 5, 6, 6, 7, 6, 7, 7, 8].getD b 0 : Nat) : Int) := by
    decide +kernel
  rw [key b hb]
  have h8 := ones_le b
  rw [ones_table b hb] at h8
  exact w64_id (by omega) (by omega)
theorem count_l0 {l : List Int} (hl : ∀ x ∈ l, 0 ≤ x ∧ x < 256) (hn : l.length < 1000000) (d : Nat) : ∀ (n i : Nat), i + d = l.length → n ≤ 8 * i → Ev (fun k => bits_Count.l0 k (n : Int) l (l.length : Int) (i : Int)) ((n + count ((nats l).drop i) : Nat) : Int) := by
  induction d with
  | zero =>
    intro n i hi h8
    refine Ev.step (fun k => bits_Count.l0.eq_2 ..) ?_
    refine Ev.neg (by omega) (Ev.ret ?_)
    rw [List.drop_of_length_le (by rw [nats_length]; omega)]
    rfl
  | succ d ih =>
    intro n i hi h8
    have hx := hl _ (rd_mem (l := l) (i := (i : Int)) (by omega) (by omega))
    have hr := rd_nats (l := l) (fun x hx => (hl x hx).1) i
    have hb : (nats l).getD i 0 < 256 := by omega
    have ho := ones_le ((nats l).getD i 0)
    refine Ev.step (fun k => bits_Count.l0.eq_2 ..) ?_
    refine Ev.pos (by omega) ?_
    refine Ev.pos (by omega) ?_
    refine Ev.pos (by omega) ?_
    rw [hr]
    refine Ev.bindv (ones_eq hb) ?_
    clear hr hx
    rw [w64_id (by omega) (by omega), w64_succ (by omega), ← Int.natCast_add]
    refine Ev.eq (ih _ (i + 1) (by omega) (by omega)) ?_
    have hj' : i < (nats l).length := by rw [nats_length]; omega
    rw [List.drop_eq_getElem_cons hj']
    have e : (nats l).getD i 0 = (nats l)[i] := by rw [List.getD_eq_getElem?_getD, List.getElem?_eq_getElem hj']; rfl
    rw [e]
    unfold count
    rw [List.map_cons, List.sum_cons, Nat.add_assoc]
theorem count_ev {l : List Int} (hl : ∀ x ∈ l, 0 ≤ x ∧ x < 256) (hn : l.length < 1000000) : Ev (fun k => bits_Count.f k l) ((count (nats l) : Nat) : Int) := by
  refine Ev.congr (fun k => by rw [bits_Count.f]) ?_
  refine Ev.eq (count_l0 hl hn l.length 0 0 (by omega) (by omega)) ?_
  simp
theorem zeros_ev {l : List Int} (hl : ∀ x ∈ l, 0 ≤ x ∧ x < 256) (hn : l.length < 1000000) : Ev (fun k => bits_Zeros.f k l) ((8 * l.length - count (nats l) : Nat) : Int) := by
  refine Ev.congr (fun k => by rw [bits_Zeros.f]) ?_
  refine Ev.bind (count_ev hl hn) (Ev.ret ?_)
  have := count_le (nats l)
  rw [nats_length] at this
  rw [w64_id (x := 8 * (l.length : Int)) (by omega) (by omega), w64_id (by omega) (by omega)]
  omega
end Go.Proofs.Ytpedkegfefnibaa.PureBitsTells
