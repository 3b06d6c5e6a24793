/-
  The document's bits back to bytes.
-/
import Derived.Test.YtpedkegfefnibaaRefBitBitsTwo
import Derived.Test.YtpedkegfefnibaaBitsMath
namespace Go.Proofs.Ytpedkegfefnibaa.PureBitsTwo
open Go.RowKit Go.Proofs.Ytpedkegfefnibaa.QBitsTwo Go.Proofs.YtpedkegfefnibaaW.PrintWords Go.Proofs.YtpedkegfefnibaaW.PrintLast Go.Proofs.YtpedkegfefnibaaW.PrintMore Go.Proofs.Ytpedkegfefnibaa.EvKit Go.Proofs.Ytpedkegfefnibaa.BitsKit Go.Proofs.Ytpedkegfefnibaa.CrcMath Go.Proofs.Ytpedkegfefnibaa.NatKit Go.Proofs.Ytpedkegfefnibaa.BitsMath

theorem of_l1 {l : List Nat} {out : List Int} {q : Nat} {r : List Int} (hq : q < l.length) (hl : ∀ b ∈ l, b < 256) (hln : l.length < 1000000) (ho : out.length < 140737488355328)
    (h : Ev (fun k => incunableref01_Of.l0 k (ints (bitList l)) (out ++ [((l[q] : Nat) : Int)]) (wrap64 ((8 * q : Nat) + 8))) r) (d : Nat) :
    ∀ (k' : Int), k' + 1 = d → d ≤ 8 → Ev (fun k => incunableref01_Of.l1 k (ints (bitList l)) out ((8 * q : Nat) : Int) ((l[q] / 2 ^ d : Nat) : Int) k') r := by
  have hb := hl _ (List.getElem_mem hq)
  induction d with
  | zero =>
    intro k' hk hd
    refine Ev.step (fun k => incunableref01_Of.l1.eq_2 ..) ?_
    refine Ev.neg (by omega) ?_
    refine Ev.pos ho ?_
    rw [Nat.pow_zero, Nat.div_one, show ((l[q] : Nat) : Int) % 256 = ((l[q] : Nat) : Int) from by omega]
    exact h
  | succ d ih =>
    intro k' hk hd
    have hk' : k' = (d : Int) := by omega
    subst hk'
    have hw : wrap64 (((8 * q : Nat) : Int) + (d : Int)) = ((8 * q + d : Nat) : Int) := by
      rw [← Int.natCast_add]
      exact w64_id (by omega) (by omega)
    have hlt : 8 * q + d < 8 * l.length := by omega
    have hbit : rd (ints (bitList l)) ((8 * q + d : Nat) : Int) = ((l[q] / 2 ^ d % 2 : Nat) : Int) := by
      rw [rd_ints, List.getD_eq_getElem?_getD, bitList_get hlt, Option.getD_some]
      unfold bitAt
      rw [show (8 * q + d) / 8 = q by omega, show (8 * q + d) % 8 = d by omega, List.getD_eq_getElem?_getD, List.getElem?_eq_getElem hq, Option.getD_some]
    have hdiv : l[q] / 2 ^ (d + 1) = l[q] / 2 ^ d / 2 := by rw [Nat.pow_succ, Nat.div_div_eq_div_mul]
    have hdl : l[q] / 2 ^ d ≤ l[q] := Nat.div_le_self _ _
    have next := ih ((d : Int) - 1) (by omega) (by omega)
    refine Ev.step (fun k => incunableref01_Of.l1.eq_2 ..) ?_
    refine Ev.pos (by omega) ?_
    rw [hw, hbit, hdiv, ints_length, bitList_length]
    clear hw hbit hdiv
    refine Ev.pos (by omega) ?_
    refine Ev.pos (by omega) ?_
    generalize l[q] / 2 ^ d = x at hdl next ⊢
    rw [w64_id (x := 2 * ((x / 2 : Nat) : Int)) (by omega) (by omega), w64_id (x := 2 * ((x / 2 : Nat) : Int) + ((x % 2 : Nat) : Int)) (by omega) (by omega), w64_id (x := (d : Int) - 1) (by omega) (by omega), show 2 * ((x / 2 : Nat) : Int) + ((x % 2 : Nat) : Int) = (x : Int) from by omega]
    exact next
theorem of_l0 {l : List Nat} (hl : ∀ b ∈ l, b < 256) (hln : l.length < 1000000) (d : Nat) : ∀ (q : Nat), q + d = l.length → Ev (fun k => incunableref01_Of.l0 k (ints (bitList l)) (ints (l.take q)) ((8 * q : Nat) : Int)) (ints l) := by
  induction d with
  | zero =>
    intro q hq
    refine Ev.step (fun k => incunableref01_Of.l0.eq_2 ..) ?_
    rw [ints_length, bitList_length, w64_id (by omega) (by omega)]
    refine Ev.neg (by omega) (Ev.ret ?_)
    rw [List.take_of_length_le (by omega)]
  | succ d ih =>
    intro q hq
    refine Ev.step (fun k => incunableref01_Of.l0.eq_2 ..) ?_
    rw [ints_length, bitList_length, w64_id (by omega) (by omega)]
    refine Ev.pos (by omega) ?_
    have hql : q < l.length := by omega
    have hb := hl _ (List.getElem_mem hql)
    have e0 : ((l[q] / 2 ^ 8 : Nat) : Int) = 0 := by rw [Nat.div_eq_of_lt (by simpa using hb)]; rfl
    have := of_l1 (out := ints (l.take q)) (r := ints l) hql hl hln (by rw [ints_length, List.length_take]; omega) ?_ 8 7 (by decide) (by decide)
    · rw [e0] at this
      exact this
    · have e1 : wrap64 (((8 * q : Nat) : Int) + 8) = ((8 * (q + 1) : Nat) : Int) := by rw [w64_id (by omega) (by omega)]; omega
      rw [e1]
      have e2 : ints (l.take q) ++ [((l[q] : Nat) : Int)] = ints (l.take (q + 1)) := by
        rw [List.take_succ_eq_append_getElem hql]
        unfold ints
        rw [List.map_append]
        rfl
      rw [e2]
      exact ih (q + 1) (by omega)
theorem of_ev {l : List Nat} (hl : ∀ b ∈ l, b < 256) (hln : l.length < 1000000) : Ev (fun k => incunableref01_Of.f k (ints (bitList l))) (ints l) := by
  refine Ev.congr (fun k => by rw [incunableref01_Of.f]) ?_
  exact of_l0 hl hln l.length 0 (by omega)
end Go.Proofs.Ytpedkegfefnibaa.PureBitsTwo
