/-
  The document's product and difference of bits.
-/
import Derived.Test.YtpedkegfefnibaaRefBitBitsTwo
import Derived.Test.YtpedkegfefnibaaRefOfBitsTwo
import Derived.Test.YtpedkegfefnibaaBitsMath
namespace Go.Proofs.Ytpedkegfefnibaa.PureBitsTwo
open Go.RowKit Go.Proofs.Ytpedkegfefnibaa.QBitsTwo Go.Proofs.YtpedkegfefnibaaW.PrintWords Go.Proofs.YtpedkegfefnibaaW.PrintLast Go.Proofs.YtpedkegfefnibaaW.PrintMore Go.Proofs.Ytpedkegfefnibaa.EvKit Go.Proofs.Ytpedkegfefnibaa.BitsKit Go.Proofs.Ytpedkegfefnibaa.CrcMath Go.Proofs.Ytpedkegfefnibaa.NatKit Go.Proofs.Ytpedkegfefnibaa.BitsMath

theorem rd_bits {l : List Nat} {i : Nat} (h : i < 8 * l.length) : rd (ints (bitList l)) (i : Int) = ((bitAt l i : Nat) : Int) := by
  rw [rd_ints, List.getD_eq_getElem?_getD, bitList_get h, Option.getD_some]
theorem take_bits {l : List Nat} {i : Nat} (h : i < 8 * l.length) : ints ((bitList l).take i) ++ [((bitAt l i : Nat) : Int)] = ints ((bitList l).take (i + 1)) := by
  rw [List.take_add_one, bitList_get h]
  unfold ints
  rw [List.map_append]
  rfl
theorem bitAt_lt (l : List Nat) (i : Nat) : bitAt l i < 2 := Nat.mod_lt _ (by decide)
theorem rand_j1 {a b : List Nat} {i : Nat} {r : List Int} (han : a.length < 1000000) (hbn : b.length < 1000000) (h : i < 8 * max a.length b.length)
    (next : Ev (fun k => incunableref01_And.l0 k (ints (bitList a)) (ints (bitList b)) (ints ((bitList (andN a b)).take (i + 1))) ((i + 1 : Nat) : Int)) r) :
    Ev (fun k => incunableref01_And.j1 k (ints (bitList a)) (ints (bitList b)) (ints ((bitList (andN a b)).take i)) (i : Int) true) r := by
  have hT : i < 8 * (andN a b).length := by rw [andN_length]; exact h
  have hv := bitAt_andN h
  have hlen : (ints ((bitList (andN a b)).take i)).length < 17592186044416 := by
    rw [ints_length, List.length_take]
    omega
  have e := take_bits hT
  refine Ev.step (fun k => incunableref01_And.j1.eq_2 ..) ?_
  refine Ev.pos rfl ?_
  rw [ints_length, bitList_length, ints_length, bitList_length]
  have ha2 := bitAt_lt a i
  have hb2 := bitAt_lt b i
  refine Ev.ite (fun h1 => ?_) (fun h1 => ?_)
  · refine Ev.pos (by omega) (Ev.pos (by omega) (Ev.pos hlen ?_))
    rw [rd_bits (by omega), w64_succ (by omega)]
    rw [if_pos (by omega)] at hv
    rw [hv] at e
    rw [e]
    exact next
  · refine Ev.ite (fun h2 => ?_) (fun h2 => ?_)
    · refine Ev.pos (by omega) (Ev.pos (by omega) (Ev.pos hlen ?_))
      rw [rd_bits (by omega), w64_succ (by omega)]
      rw [if_neg (by omega), if_pos (by omega)] at hv
      rw [hv] at e
      rw [e]
      exact next
    · refine Ev.pos (by omega) (Ev.pos (by omega) (Ev.pos (by omega) (Ev.pos hlen ?_)))
      rw [rd_bits (by omega), rd_bits (by omega), w64_succ (by omega)]
      rw [if_neg (by omega), if_neg (by omega)] at hv
      rw [hv] at e
      have hm : bitAt a i * bitAt b i ≤ 1 * 1 := Nat.mul_le_mul (by omega) (by omega)
      rw [← Int.natCast_mul, w64_id (by omega) (by omega), e]
      exact next
theorem rand_l0 {a b : List Nat} (ha : ∀ x ∈ a, x < 256) (hb : ∀ x ∈ b, x < 256) (han : a.length < 1000000) (hbn : b.length < 1000000) (d : Nat) : ∀ (i : Nat), i + d = 8 * max a.length b.length →
    Ev (fun k => incunableref01_And.l0 k (ints (bitList a)) (ints (bitList b)) (ints ((bitList (andN a b)).take i)) (i : Int)) (ints (andN a b)) := by
  induction d with
  | zero =>
    intro i hi
    refine Ev.step (fun k => incunableref01_And.l0.eq_2 ..) ?_
    rw [ints_length, bitList_length, ints_length, bitList_length]
    refine Ev.neg (by omega) ?_
    rw [decide_eq_false (by omega)]
    refine Ev.step (fun k => incunableref01_And.j1.eq_2 ..) ?_
    refine Ev.neg (by decide) ?_
    rw [List.take_of_length_le (by rw [bitList_length, andN_length]; omega)]
    exact Ev.bind (of_ev (andN_lt ha hb) (by rw [andN_length]; omega)) (Ev.ret rfl)
  | succ d ih =>
    intro i hi
    have next := rand_j1 (a := a) (b := b) (i := i) han hbn (by omega) (ih (i + 1) (by omega))
    refine Ev.step (fun k => incunableref01_And.l0.eq_2 ..) ?_
    rw [ints_length, bitList_length, ints_length, bitList_length]
    refine Ev.ite (fun _ => next) (fun h1 => ?_)
    rw [decide_eq_true (by omega)]
    exact next
theorem rand_ev {a b : List Int} (ha : ∀ x ∈ a, 0 ≤ x ∧ x < 256) (hb : ∀ x ∈ b, 0 ≤ x ∧ x < 256) (han : a.length < 1000000) (hbn : b.length < 1000000) : Ev (fun k => incunableref01_And.f k a b) (ints (andN (nats a) (nats b))) := by
  refine Ev.congr (fun k => by rw [incunableref01_And.f]) ?_
  refine Ev.bind (list_ev ha han) (Ev.bind (list_ev hb hbn) ?_)
  exact rand_l0 (nats_lt ha) (nats_lt hb) (by rw [nats_length]; exact han) (by rw [nats_length]; exact hbn) (8 * max (nats a).length (nats b).length) 0 (by omega)
theorem rdiff_l0 {a b : List Nat} (han : a.length < 1000000) (hbn : b.length < 1000000) (d : Nat) : ∀ (i : Nat), i + d = 8 * min a.length b.length →
    Ev (fun k => incunableref01_Diff.l0 k (ints (bitList a)) (ints (bitList b)) (ints ((List.range i).filter fun i => bitAt a i ≠ bitAt b i)) (i : Int)) (ints (diffN a b)) := by
  induction d with
  | zero =>
    intro i hi
    have hend : Ev (fun k => incunableref01_Diff.j1 k (ints (bitList a)) (ints (bitList b)) (ints ((List.range i).filter fun i => bitAt a i ≠ bitAt b i)) (i : Int) false) (ints (diffN a b)) := by
      refine Ev.step (fun k => incunableref01_Diff.j1.eq_2 ..) ?_
      refine Ev.neg (by decide) (Ev.ret ?_)
      have : i = 8 * min a.length b.length := by omega
      rw [this]
      rfl
    refine Ev.step (fun k => incunableref01_Diff.l0.eq_2 ..) ?_
    rw [ints_length, bitList_length, ints_length, bitList_length]
    refine Ev.ite (fun h1 => ?_) (fun h1 => hend)
    rw [decide_eq_false (by omega)]
    exact hend
  | succ d ih =>
    intro i hi
    have next := ih (i + 1) (by omega)
    have hlen : (ints ((List.range i).filter fun i => bitAt a i ≠ bitAt b i)).length < 17592186044416 := by
      rw [ints_length]
      have := List.length_filter_le (fun i => bitAt a i ≠ bitAt b i) (List.range i)
      rw [List.length_range] at this
      omega
    rw [List.range_succ, List.filter_append] at next
    refine Ev.step (fun k => incunableref01_Diff.l0.eq_2 ..) ?_
    rw [ints_length, bitList_length, ints_length, bitList_length]
    refine Ev.pos (by omega) ?_
    rw [decide_eq_true (by omega)]
    refine Ev.step (fun k => incunableref01_Diff.j1.eq_2 ..) ?_
    rw [ints_length, bitList_length, ints_length, bitList_length]
    refine Ev.pos rfl (Ev.pos (by omega) (Ev.pos (by omega) (Ev.pos (by omega) ?_)))
    rw [rd_bits (by omega), rd_bits (by omega), w64_succ (by omega)]
    refine Ev.ite (fun h1 => ?_) (fun h1 => Ev.pos hlen ?_)
    · have h1' : bitAt a i = bitAt b i := by omega
      rw [List.filter_cons_of_neg (by simp [h1']), List.filter_nil, List.append_nil] at next
      exact next
    · have h1' : bitAt a i ≠ bitAt b i := by omega
      rw [List.filter_cons_of_pos (by simp [h1']), List.filter_nil] at next
      have e : ints (((List.range i).filter fun i => bitAt a i ≠ bitAt b i) ++ [i]) = ints ((List.range i).filter fun i => bitAt a i ≠ bitAt b i) ++ [(i : Int)] := by
        unfold ints
        rw [List.map_append]
        rfl
      rw [e] at next
      exact next
theorem rdiff_ev {a b : List Int} (ha : ∀ x ∈ a, 0 ≤ x ∧ x < 256) (hb : ∀ x ∈ b, 0 ≤ x ∧ x < 256) (han : a.length < 1000000) (hbn : b.length < 1000000) : Ev (fun k => incunableref01_Diff.f k a b) (ints (diffN (nats a) (nats b))) := by
  refine Ev.congr (fun k => by rw [incunableref01_Diff.f]) ?_
  refine Ev.bind (list_ev ha han) (Ev.bind (list_ev hb hbn) ?_)
  exact rdiff_l0 (by rw [nats_length]; exact han) (by rw [nats_length]; exact hbn) (8 * min (nats a).length (nats b).length) 0 (by omega)
end Go.Proofs.Ytpedkegfefnibaa.PureBitsTwo
