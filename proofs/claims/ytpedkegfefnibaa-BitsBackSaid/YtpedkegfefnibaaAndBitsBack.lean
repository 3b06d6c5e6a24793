/-
  What bits.And comes to.
-/
import Derived.Test.YtpedkegfefnibaaBitsMath
import Derived.Test.YtpedkegfefnibaaNatKit
import Derived.Test.YtpedkegfefnibaaQBitsBackx
namespace Go.Proofs.Ytpedkegfefnibaa.PureBitsBack
open Go.RowKit Go.Proofs.Ytpedkegfefnibaa.QBitsBack Go.Proofs.YtpedkegfefnibaaW.PrintWords Go.Proofs.YtpedkegfefnibaaW.PrintLast Go.Proofs.YtpedkegfefnibaaW.PrintMore Go.Proofs.Ytpedkegfefnibaa.EvKit Go.Proofs.Ytpedkegfefnibaa.BitsKit Go.Proofs.Ytpedkegfefnibaa.CrcMath Go.Proofs.Ytpedkegfefnibaa.NatKit Go.Proofs.Ytpedkegfefnibaa.BitsMath
theorem and_l0 {b : List Int} (hb : ∀ x ∈ b, 0 ≤ x ∧ x < 256) (hbn : b.length < 1000000) (d : Nat) : ∀ (i : Nat) (l : List Nat), i + d = b.length → b.length ≤ l.length → (∀ x ∈ l, x < 256) →
    Ev (fun k => bits_And.l0 k (ints l) b (b.length : Int) (i : Int)) (ints ((List.range l.length).map fun j => if i ≤ j ∧ j < b.length then l.getD j 0 &&& (nats b).getD j 0 else l.getD j 0)) := by
  induction d with
  | zero =>
    intro i l hi hbl hl
    refine Ev.step (fun k => bits_And.l0.eq_2 ..) ?_
    refine Ev.neg (by omega) (Ev.ret ?_)
    congr 1
    apply List.ext_getElem?
    intro j
    by_cases hj : j < l.length
    · rw [List.getElem?_map, List.getElem?_range hj, Option.map_some, if_neg (by omega), List.getD_eq_getElem?_getD, List.getElem?_eq_getElem hj]
      rfl
    · rw [List.getElem?_eq_none (by omega), List.getElem?_eq_none (by simp; omega)]
  | succ d ih =>
    intro i l hi hbl hl
    have hil : i < l.length := by omega
    have hx := hl _ (List.getElem_mem hil)
    have hy := hb _ (rd_mem (l := b) (i := (i : Int)) (by omega) (by omega))
    have hr := rd_nats (l := b) (fun x hx => (hb x hx).1) i
    refine Ev.step (fun k => bits_And.l0.eq_2 ..) ?_
    refine Ev.pos (by omega) ?_
    refine Ev.pos (by omega) ?_
    refine Ev.pos (by omega) ?_
    rw [ints_length]
    refine Ev.pos (by omega) ?_
    rw [hr] at hy ⊢
    clear hr
    rw [rd_ints_lt hil, and_u8 hx (by omega), Int.toNat_natCast, ints_set, w64_succ (by omega)]
    refine Ev.eq (ih (i + 1) _ (by omega) (by rw [List.length_set]; omega) ?_) ?_
    · intro x hx'
      rcases List.mem_or_eq_of_mem_set hx' with h | rfl
      · exact hl x h
      · exact Nat.lt_of_le_of_lt Nat.and_le_left hx
    · rw [List.length_set]
      congr 1
      refine List.map_congr_left fun j hj => ?_
      have hj := List.mem_range.1 hj
      have hg : (l.set i (l[i] &&& (nats b).getD i 0)).getD j 0 = if i = j then l[i] &&& (nats b).getD i 0 else l.getD j 0 := by
        rw [List.getD_eq_getElem?_getD, List.getElem?_set]
        by_cases h : i = j
        · rw [if_pos h, if_pos h, if_pos hil]
          rfl
        · rw [if_neg h, if_neg h, List.getD_eq_getElem?_getD]
      rw [hg]
      by_cases h : i = j
      · subst h
        rw [if_pos rfl, if_neg (by omega), if_pos (by omega), List.getD_eq_getElem?_getD (l := l), List.getElem?_eq_getElem hil]
        rfl
      · rw [if_neg h]
        by_cases h2 : i + 1 ≤ j ∧ j < b.length
        · rw [if_pos h2, if_pos (by omega)]
        · rw [if_neg h2, if_neg (by omega)]
theorem and_g {a b : List Int} (ha : ∀ x ∈ a, 0 ≤ x ∧ x < 256) (hb : ∀ x ∈ b, 0 ≤ x ∧ x < 256) (han : a.length < 1000000) (h : b.length ≤ a.length) : Ev (fun k => bits_And.g k a b) (ints (andW (nats a) (nats b))) := by
  refine Ev.congr (fun k => by rw [bits_And.g]) ?_
  refine Ev.bindv (a := a) ?_ ?_
  · unfold slices_Clone_byte_byte.f
    rw [if_pos (by omega)]
  · have := and_l0 hb (by omega) b.length 0 (nats a) (by omega) (by rw [nats_length]; exact h) (nats_lt ha)
    rw [ints_nats fun x hx => (ha x hx).1] at this
    refine Ev.eq this ?_
    unfold andW
    rw [nats_length, nats_length]
    congr 1
    refine List.map_congr_left fun j _ => ?_
    by_cases hj : j < b.length
    · rw [if_pos ⟨Nat.zero_le _, hj⟩, if_pos hj]
    · rw [if_neg (fun h => hj h.2), if_neg hj]
theorem and_ev {a b : List Int} (ha : ∀ x ∈ a, 0 ≤ x ∧ x < 256) (hb : ∀ x ∈ b, 0 ≤ x ∧ x < 256) (han : a.length < 1000000) (hbn : b.length < 1000000) : Ev (fun k => bits_And.f k a b) (ints (andN (nats a) (nats b))) := by
  refine Ev.congr (fun k => by rw [bits_And.f]) ?_
  unfold andN
  rw [nats_length, nats_length]
  refine Ev.ite (fun h => ?_) (fun h => ?_)
  · rw [if_pos h]
    exact and_g hb ha hbn (by omega)
  · rw [if_neg h]
    exact and_g ha hb han (by omega)
end Go.Proofs.Ytpedkegfefnibaa.PureBitsBack
