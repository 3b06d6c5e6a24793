/-
  What hamming.gather comes to: the places of the set bits, put together, and whether they are odd in number.
-/
import Derived.Test.YtalejedajkhkjaaPlaceChunkBack
import Derived.Test.YtalejedajkhkjaaHamMath
import Derived.Test.YtalejedajkhkjaaNatKit
namespace Go.Proofs.Ytalejedajkhkjaa.PureChunkBack
open Go.RowKit Go.Proofs.Ytalejedajkhkjaa.QChunkBack Go.Proofs.YtalejedajkhkjaaW.PrintWords Go.Proofs.YtalejedajkhkjaaW.PrintLast Go.Proofs.YtalejedajkhkjaaW.PrintMore Go.Proofs.Ytalejedajkhkjaa.EvKit Go.Proofs.Ytalejedajkhkjaa.BitsKit Go.Proofs.Ytalejedajkhkjaa.CrcMath Go.Proofs.Ytalejedajkhkjaa.NatKit Go.Proofs.Ytalejedajkhkjaa.BitsMath Go.Proofs.Ytalejedajkhkjaa.LenMath Go.Proofs.Ytalejedajkhkjaa.HamMath
theorem gbit_eq {b j : Nat} (hb : b < 256) : hamming_gather_gbit (b : Int) j = decide (b / 2 ^ j % 2 = 1) := by
  have e : (if j = 0 then (b : Int) else (b : Int) / 2 ^ j) = ((b / 2 ^ j : Nat) : Int) := by
    split
    · rename_i h
      subst h
      rw [Nat.pow_zero, Nat.div_one]
    · rw [Int.natCast_ediv, Int.natCast_pow]
      rfl
  have hlt : b / 2 ^ j < 256 := Nat.lt_of_le_of_lt (Nat.div_le_self _ _) hb
  unfold hamming_gather_gbit
  rw [e]
  generalize b / 2 ^ j = x at hlt ⊢
  have := and_u8 (a := x) (b := 1) hlt (by decide)
  rw [show ((1 : Nat) : Int) = 1 from rfl] at this
  rw [this, Nat.and_one_is_mod]
  by_cases h : x % 2 = 1
  · rw [h, decide_eq_true rfl]
    rfl
  · rw [decide_eq_false h]
    have : x % 2 = 0 := by omega
    rw [this]
    rfl
def placesAt (q : Nat) : List Int := [((place (8 * q) : Nat) : Int), ((place (8 * q + 1) : Nat) : Int), ((place (8 * q + 2) : Nat) : Int), ((place (8 * q + 3) : Nat) : Int), ((place (8 * q + 4) : Nat) : Int), ((place (8 * q + 5) : Nat) : Int), ((place (8 * q + 6) : Nat) : Int), ((place (8 * q + 7) : Nat) : Int)]
theorem placesAt_get (q j : Nat) (h : j < 8) : (placesAt q).getD j 0 = ((place (8 * q + j) : Nat) : Int) := by
  obtain rfl | rfl | rfl | rfl | rfl | rfl | rfl | rfl : j = 0 ∨ j = 1 ∨ j = 2 ∨ j = 3 ∨ j = 4 ∨ j = 5 ∨ j = 6 ∨ j = 7 := by omega
  all_goals rfl
theorem eightF_ev {q : Nat} (hq : q < 600) : Ev (fun k => hamming_gather_eightF k (q : Int)) (placesAt q) := by
  refine Ev.congr (fun k => by rw [hamming_gather_eightF]) ?_
  refine Ev.pos (by omega) ?_
  have e : ∀ j : Nat, j < 8 → Ev (fun k => hamming_Place.f k (8 * (q : Int) + (j : Int))) ((place (8 * q + j) : Nat) : Int) := by
    intro j hj
    have := place_is_ev (n := 8 * q + j) (by omega)
    rwa [show ((8 * q + j : Nat) : Int) = 8 * (q : Int) + (j : Int) by omega] at this
  have e0 : Ev (fun k => hamming_Place.f k (8 * (q : Int))) ((place (8 * q) : Nat) : Int) := by
    have := e 0 (by omega)
    rwa [show 8 * (q : Int) + ((0 : Nat) : Int) = 8 * (q : Int) by omega] at this
  refine Ev.bind e0 ?_
  refine Ev.bind (e 1 (by omega)) ?_
  refine Ev.bind (e 2 (by omega)) ?_
  refine Ev.bind (e 3 (by omega)) ?_
  refine Ev.bind (e 4 (by omega)) ?_
  refine Ev.bind (e 5 (by omega)) ?_
  refine Ev.bind (e 6 (by omega)) ?_
  exact Ev.bind (e 7 (by omega)) (Ev.ret rfl)
theorem gup_eq {l : List Nat} (hl : ∀ b ∈ l, b < 256) {q : Nat} (hq : q < l.length) (hn : l.length ≤ 600) : ∀ j : Nat, j ≤ 8 →
    hamming_gather_gup ((l.getD q 0 : Nat) : Int) (placesAt q) (((gx l (8 * q) : Nat) : Int), go l (8 * q)) j = (((gx l (8 * q + j) : Nat) : Int), go l (8 * q + j))
  | 0, _ => rfl
  | j + 1, hj => by
    have ih := gup_eq hl hq hn j (by omega)
    have hb := getD_lt hl q
    have hx := gx_lt l (8 * q + j) (by omega)
    have hp := place_lt (n := 8 * q + j) (by omega)
    have hbit : bitAt l (8 * q + j) = l.getD q 0 / 2 ^ j % 2 := by
      unfold bitAt
      rw [show (8 * q + j) / 8 = q by omega, show (8 * q + j) % 8 = j by omega]
    rw [← Nat.add_assoc]
    show hamming_gather_gst _ _ _ _ = _
    unfold hamming_gather_gst
    rw [ih, gbit_eq hb, placesAt_get q j (by omega)]
    rw [gx_succ, go_succ, hbit]
    by_cases h : l.getD q 0 / 2 ^ j % 2 = 1
    · rw [decide_eq_true h, if_pos rfl, if_pos h, if_pos h, w_u16 _ (by omega) (by omega), xor_u16 (by omega) (by omega)]
    · rw [decide_eq_false h, if_neg (by decide), if_neg h, if_neg h]
theorem gx_zero {l : List Nat} {q : Nat} (h : l.getD q 0 = 0) : ∀ j : Nat, j ≤ 8 → gx l (8 * q + j) = gx l (8 * q) ∧ go l (8 * q + j) = go l (8 * q)
  | 0, _ => ⟨rfl, rfl⟩
  | j + 1, hj => by
    have ih := gx_zero h j (by omega)
    have hbit : bitAt l (8 * q + j) = 0 := by
      unfold bitAt
      rw [show (8 * q + j) / 8 = q by omega, h, Nat.zero_div]
    rw [← Nat.add_assoc]
    rw [gx_succ, go_succ, hbit, if_neg (by decide), if_neg (by decide)]
    exact ih
theorem gather_l0 {l : List Int} (hl : ∀ x ∈ l, 0 ≤ x ∧ x < 256) (hn : l.length ≤ 600) (d : Nat) : ∀ q : Nat, q + d = l.length →
    Ev (fun k => hamming_gather.l0 k l ((gx (nats l) (8 * q) : Nat) : Int) (go (nats l) (8 * q)) (q : Int)) (((gx (nats l) (8 * l.length) : Nat) : Int), go (nats l) (8 * l.length)) := by
  induction d with
  | zero =>
    intro q hq
    refine Ev.step (fun k => hamming_gather.l0.eq_2 ..) ?_
    refine Ev.neg (by omega) (Ev.ret ?_)
    rw [show q = l.length by omega]
  | succ d ih =>
    intro q hq
    have hql : q < (nats l).length := by rw [nats_length]; omega
    have hr := rd_nats (l := l) (fun x hx => (hl x hx).1) q
    have next := ih (q + 1) (by omega)
    refine Ev.step (fun k => hamming_gather.l0.eq_2 ..) ?_
    refine Ev.pos (by omega) (Ev.pos (by omega) (Ev.pos (by omega) ?_))
    rw [hr, show (q : Int) + 1 = ((q + 1 : Nat) : Int) from rfl]
    refine Ev.ite (fun h0 => ?_) (fun _ => ?_)
    · have hz := gx_zero (l := nats l) (q := q) (by omega) 8 (Nat.le_refl _)
      rw [show 8 * (q + 1) = 8 * q + 8 by omega, hz.1, hz.2] at next
      exact next
    · refine Ev.bind (eightF_ev (q := q) (by omega)) ?_
      rw [gup_eq (nats_lt hl) hql (by rw [nats_length]; exact hn) 8 (Nat.le_refl _)]
      rw [show 8 * (q + 1) = 8 * q + 8 by omega] at next
      exact next
theorem gather_ev {l : List Int} (hl : ∀ x ∈ l, 0 ≤ x ∧ x < 256) (hn : l.length ≤ 600) : Ev (fun k => hamming_gather.f k l) (((gx (nats l) (8 * l.length) : Nat) : Int), go (nats l) (8 * l.length)) := by
  refine Ev.congr (fun k => by rw [hamming_gather.f]) ?_
  exact gather_l0 hl hn l.length 0 (by omega)
end Go.Proofs.Ytalejedajkhkjaa.PureChunkBack
