/-
  The document's bits back to bytes, turned, and counted.
-/
import Derived.Test.YtpedkegfefnibaaFlipBitsTells
namespace Go.Proofs.Ytpedkegfefnibaa.PureBitsTells
open Go.RowKit Go.Proofs.Ytpedkegfefnibaa.QBitsTells Go.Proofs.YtpedkegfefnibaaW.PrintWords Go.Proofs.YtpedkegfefnibaaW.PrintLast Go.Proofs.YtpedkegfefnibaaW.PrintMore Go.Proofs.Ytpedkegfefnibaa.EvKit Go.Proofs.Ytpedkegfefnibaa.BitsKit Go.Proofs.Ytpedkegfefnibaa.CrcMath Go.Proofs.Ytpedkegfefnibaa.NatKit Go.Proofs.Ytpedkegfefnibaa.BitsMath

theorem of_l1 {l : List Nat} {out : List Int} {q : Nat} {r : List Int} (hq : q < l.length) (hl : ∀ b ∈ l, b < 256) (hln : l.length < 1000000) (ho : out.length < 140737488355328)
    (h : Ev (fun k => incunableref01_Of.l0 k (ints (bitList l)) (out ++ [((l[q] : Nat) : Int)]) (wrap64 ((8 * q : Nat) + 8))) r) (d : Nat) :
    ∀ (k' : Int), k' + 1 = d → d ≤ 8 → Ev (fun k => incunableref01_Of.l1 k (ints (bitList l)) out ((8 * q : Nat) : Int) ((l[q] / 2 ^ d : Nat) : Int) k') r := by
  have hb := hl _ (List.getElem_mem hq)
  induction d with
  | zero =>
    intro k' hk hd
    refine Ev.step (fun k => incunableref01_Of.l1.eq_2 ..) ?_
    refine Ev.neg (by omega) ?_
    refine Ev.pos ho ?_
    rw [Nat.pow_zero, Nat.div_one, show ((l[q] : Nat) : Int) % 256 = ((l[q] : Nat) : Int) from by omega]
    exact h
  | succ d ih =>
    intro k' hk hd
    have hk' : k' = (d : Int) := by omega
    subst hk'
    have hw : wrap64 (((8 * q : Nat) : Int) + (d : Int)) = ((8 * q + d : Nat) : Int) := by
      rw [← Int.natCast_add]
      exact w64_id (by omega) (by omega)
    have hlt : 8 * q + d < 8 * l.length := by omega
    have hbit : rd (ints (bitList l)) ((8 * q + d : Nat) : Int) = ((l[q] / 2 ^ d % 2 : Nat) : Int) := by
      rw [rd_ints, List.getD_eq_getElem?_getD, bitList_get hlt, Option.getD_some]
      unfold bitAt
      rw [show (8 * q + d) / 8 = q by omega, show (8 * q + d) % 8 = d by omega, List.getD_eq_getElem?_getD, List.getElem?_eq_getElem hq, Option.getD_some]
    have hdiv : l[q] / 2 ^ (d + 1) = l[q] / 2 ^ d / 2 := by rw [Nat.pow_succ, Nat.div_div_eq_div_mul]
    have hdl : l[q] / 2 ^ d ≤ l[q] := Nat.div_le_self _ _
    have next := ih ((d : Int) - 1) (by omega) (by omega)
    refine Ev.step (fun k => incunableref01_Of.l1.eq_2 ..) ?_
    refine Ev.pos (by omega) ?_
    rw [hw, hbit, hdiv, ints_length, bitList_length]
    clear hw hbit hdiv
    refine Ev.pos (by omega) ?_
    refine Ev.pos (by omega) ?_
    generalize l[q] / 2 ^ d = x at hdl next ⊢
    rw [w64_id (x := 2 * ((x / 2 : Nat) : Int)) (by omega) (by omega), w64_id (x := 2 * ((x / 2 : Nat) : Int) + ((x % 2 : Nat) : Int)) (by omega) (by omega), w64_id (x := (d : Int) - 1) (by omega) (by omega), show 2 * ((x / 2 : Nat) : Int) + ((x % 2 : Nat) : Int) = (x : Int) from by omega]
    exact next
theorem of_l0 {l : List Nat} (hl : ∀ b ∈ l, b < 256) (hln : l.length < 1000000) (d : Nat) : ∀ (q : Nat), q + d = l.length → Ev (fun k => incunableref01_Of.l0 k (ints (bitList l)) (ints (l.take q)) ((8 * q : Nat) : Int)) (ints l) := by
  induction d with
  | zero =>
    intro q hq
    refine Ev.step (fun k => incunableref01_Of.l0.eq_2 ..) ?_
    rw [ints_length, bitList_length, w64_id (by omega) (by omega)]
    refine Ev.neg (by omega) (Ev.ret ?_)
    rw [List.take_of_length_le (by omega)]
  | succ d ih =>
    intro q hq
    refine Ev.step (fun k => incunableref01_Of.l0.eq_2 ..) ?_
    rw [ints_length, bitList_length, w64_id (by omega) (by omega)]
    refine Ev.pos (by omega) ?_
    have hql : q < l.length := by omega
    have hb := hl _ (List.getElem_mem hql)
    have e0 : ((l[q] / 2 ^ 8 : Nat) : Int) = 0 := by rw [Nat.div_eq_of_lt (by simpa using hb)]; rfl
    have := of_l1 (out := ints (l.take q)) (r := ints l) hql hl hln (by rw [ints_length, List.length_take]; omega) ?_ 8 7 (by decide) (by decide)
    · rw [e0] at this
      exact this
    · have e1 : wrap64 (((8 * q : Nat) : Int) + 8) = ((8 * (q + 1) : Nat) : Int) := by rw [w64_id (by omega) (by omega)]; omega
      rw [e1]
      have e2 : ints (l.take q) ++ [((l[q] : Nat) : Int)] = ints (l.take (q + 1)) := by
        rw [List.take_succ_eq_append_getElem hql]
        unfold ints
        rw [List.map_append]
        rfl
      rw [e2]
      exact ih (q + 1) (by omega)
theorem of_ev {l : List Nat} (hl : ∀ b ∈ l, b < 256) (hln : l.length < 1000000) : Ev (fun k => incunableref01_Of.f k (ints (bitList l))) (ints l) := by
  refine Ev.congr (fun k => by rw [incunableref01_Of.f]) ?_
  exact of_l0 hl hln l.length 0 (by omega)
theorem rflip_l0 {at_ : List Int} (hn : at_.length < 1000000) (d : Nat) : ∀ (i : Nat) (l : List Nat), i + d = at_.length → (∀ b ∈ l, b < 256) → l.length < 1000000 →
    Ev (fun k => incunableref01_Flip.l0 k at_ (ints (bitList l)) (i : Int)) (ints (flips l (at_.drop i))) := by
  induction d with
  | zero =>
    intro i l hi hl hln
    refine Ev.step (fun k => incunableref01_Flip.l0.eq_2 ..) ?_
    refine Ev.neg (by omega) ?_
    refine Ev.bind (of_ev hl hln) (Ev.ret ?_)
    rw [List.drop_of_length_le (by omega)]
    rfl
  | succ d ih =>
    intro i l hi hl hln
    refine Ev.step (fun k => incunableref01_Flip.l0.eq_2 ..) ?_
    refine Ev.pos (by omega) ?_
    refine Ev.pos (by omega) ?_
    rw [drop_rd (l := at_) (i := i) (by omega), w64_succ (by omega), ints_length, bitList_length]
    have next := fun v => ih (i + 1) (flip1 l v) (by omega) (flip1_lt hl v) (by rw [flip1_length]; exact hln)
    generalize rd at_ (i : Int) = a
    have next := next a
    show Ev _ (ints (flips (flip1 l a) (at_.drop (i + 1))))
    have hself : ¬ (0 ≤ a ∧ a / 8 < (l.length : Int)) → flip1 l a = l := fun h => by unfold flip1; rw [if_neg h]
    refine Ev.ite (fun h0 => ?_) (fun h0 => ?_)
    · obtain ⟨m, rfl⟩ := Int.eq_ofNat_of_zero_le h0
      refine Ev.ite (fun h1 => ?_) (fun h1 => ?_)
      · refine Ev.pos h0 ?_
        have hm : m < 8 * l.length := by omega
        have hb2 : bitAt l m < 2 := Nat.mod_lt _ (by decide)
        have hbit : rd (ints (bitList l)) (m : Int) = ((bitAt l m : Nat) : Int) := by
          rw [rd_ints, List.getD_eq_getElem?_getD, bitList_get hm, Option.getD_some]
        rw [hbit, w64_id (by omega) (by omega), Int.toNat_natCast, show (1 : Int) - ((bitAt l m : Nat) : Int) = ((1 - bitAt l m : Nat) : Int) from by omega, ints_set, ← bitList_flip1 l m (by omega)]
        exact next
      · rw [hself (by omega)] at next ⊢
        exact next
    · rw [hself (by omega)] at next ⊢
      exact next
theorem rflip_ev {l at_ : List Int} (hl : ∀ x ∈ l, 0 ≤ x ∧ x < 256) (hln : l.length < 1000000) (hn : at_.length < 1000000) : Ev (fun k => incunableref01_Flip.f k l at_) (ints (flips (nats l) at_)) := by
  refine Ev.congr (fun k => by rw [incunableref01_Flip.f]) ?_
  refine Ev.bind (list_ev hl hln) ?_
  exact rflip_l0 hn at_.length 0 (nats l) (by omega) (nats_lt hl) (by rw [nats_length]; exact hln)
theorem rzeros_l0 (bs : List Nat) (hb : ∀ x ∈ bs, x < 2) (hn : bs.length < 100000000) (d : Nat) : ∀ (n i : Nat), i + d = bs.length → n ≤ i →
    Ev (fun k => incunableref01_Zeros.l0 k (n : Int) (ints bs) (i : Int)) (((n + (bs.length - i) : Nat) : Int) - (((bs.drop i).sum : Nat) : Int)) := by
  induction d with
  | zero =>
    intro n i hi hni
    refine Ev.step (fun k => incunableref01_Zeros.l0.eq_2 ..) ?_
    rw [ints_length]
    refine Ev.neg (by omega) (Ev.ret ?_)
    rw [List.drop_of_length_le (by omega), List.sum_nil]
    omega
  | succ d ih =>
    intro n i hi hni
    have hil : i < bs.length := by omega
    have hx : bs[i] < 2 := hb _ (List.getElem_mem hil)
    refine Ev.step (fun k => incunableref01_Zeros.l0.eq_2 ..) ?_
    rw [ints_length]
    refine Ev.pos (by omega) ?_
    refine Ev.pos (by omega) ?_
    rw [rd_ints_lt hil, List.drop_eq_getElem_cons hil, List.sum_cons]
    have next := fun m => ih m (i + 1) (by omega)
    generalize bs[i] = x at hx ⊢
    rw [w64_id (x := (n : Int) + 1) (by omega) (by omega), w64_id (by omega) (by omega), w64_succ (by omega), show (n : Int) + 1 - (x : Int) = ((n + 1 - x : Nat) : Int) from by omega]
    refine Ev.eq (next (n + 1 - x) (by omega)) ?_
    omega
theorem rzeros_ev {l : List Int} (hl : ∀ x ∈ l, 0 ≤ x ∧ x < 256) (hln : l.length < 1000000) : Ev (fun k => incunableref01_Zeros.f k l) ((8 * l.length - count (nats l) : Nat) : Int) := by
  refine Ev.congr (fun k => by rw [incunableref01_Zeros.f]) ?_
  refine Ev.bind (list_ev hl hln) ?_
  have hlen : (bitList (nats l)).length = 8 * l.length := by rw [bitList_length, nats_length]
  refine Ev.eq (rzeros_l0 (bitList (nats l)) (fun x hx => ?_) (by omega) (bitList (nats l)).length 0 0 (by omega) (by omega)) ?_
  · obtain ⟨i, _, rfl⟩ := List.mem_map.1 hx
    exact Nat.mod_lt _ (by decide)
  · rw [List.drop_zero, count_bits, hlen]
    have := count_le (nats l)
    rw [nats_length] at this
    omega
end Go.Proofs.Ytpedkegfefnibaa.PureBitsTells
