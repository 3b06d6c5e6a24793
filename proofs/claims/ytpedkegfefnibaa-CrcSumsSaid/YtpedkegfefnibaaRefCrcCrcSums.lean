/-
  What the document's checksum and its bytes come to.
-/
import Derived.Test.YtpedkegfefnibaaRefBitCrcSums
import Derived.Test.YtpedkegfefnibaaCrcFnCrcSums
namespace Go.Proofs.Ytpedkegfefnibaa.PureCrcSums
open Go.RowKit Go.Proofs.Ytpedkegfefnibaa.QCrcSums Go.Proofs.YtpedkegfefnibaaW.PrintWords Go.Proofs.YtpedkegfefnibaaW.PrintLast Go.Proofs.YtpedkegfefnibaaW.PrintMore Go.Proofs.Ytpedkegfefnibaa.EvKit Go.Proofs.Ytpedkegfefnibaa.BitsKit Go.Proofs.Ytpedkegfefnibaa.CrcMath Go.Proofs.Ytpedkegfefnibaa.NatKit

theorem rsum_l0 (bs : List Nat) (hb : ∀ x ∈ bs, x < 2) (hn : bs.length < 100000000) (d : Nat) : ∀ (c i : Nat), c < 4294967296 → i + d = bs.length →
    Ev (fun k => incunableref02_Sum.l0 k (c : Int) (ints bs) (i : Int)) ((4294967295 ^^^ (bs.drop i).foldl bitStep c : Nat) : Int) := by
  have hl : (ints bs).length = bs.length := List.length_map _
  induction d with
  | zero =>
    intro c i hc hi
    refine Ev.step (fun k => incunableref02_Sum.l0.eq_2 ..) ?_
    refine Ev.neg (by omega) (Ev.ret ?_)
    rw [List.drop_of_length_le (by omega), List.foldl_nil, ← not_xor hc]
    omega
  | succ d ih =>
    intro c i hc hi
    have hil : i < bs.length := by omega
    have hx : bs[i] < 2 := hb _ (List.getElem_mem hil)
    refine Ev.step (fun k => incunableref02_Sum.l0.eq_2 ..) ?_
    refine Ev.pos (by omega) ?_
    refine Ev.pos (by omega) ?_
    rw [rd_ints, List.getD_eq_getElem?_getD, List.getElem?_eq_getElem hil, Option.getD_some, List.drop_eq_getElem_cons hil, List.foldl_cons]
    rw [Int.tmod_eq_emod_of_nonneg (Int.natCast_nonneg _), Int.tdiv_eq_ediv_of_nonneg (Int.natCast_nonneg _), w64_id (by omega) (by omega), w64_succ (by omega), show (c : Int) / 2 % 4294967296 = ((c / 2 : Nat) : Int) from by omega]
    have next := ih (bitStep c bs[i]) (i + 1) (bitStep_lt hc) (by omega)
    generalize bs[i] = x at hx next ⊢
    refine Ev.ite (fun h => ?_) (fun h => ?_)
    · have h' : c % 2 = x := by omega
      have e : bitStep c x = c / 2 := by unfold bitStep; rw [if_pos h', Nat.xor_zero]
      rw [e] at next ⊢
      exact next
    · have h' : ¬ c % 2 = x := by omega
      have e : bitStep c x = c / 2 ^^^ 3988292384 := by unfold bitStep; rw [if_neg h']
      have e2 : Go.bits .xor .u32 ((c / 2 : Nat) : Int) 3988292384 = ((c / 2 ^^^ 3988292384 : Nat) : Int) := xor_u32 (by omega) (by decide)
      rw [e] at next ⊢
      rw [e2]
      exact next
theorem bitAt_lt (l : List Nat) (i : Nat) : bitAt l i < 2 := Nat.mod_lt _ (by decide)
theorem rsum_ev {l : List Int} (hl : ∀ x ∈ l, 0 ≤ x ∧ x < 256) (hn : l.length < 1000000) : Ev (fun k => incunableref02_Sum.f k l) ((CrcMath.sum (nats l) : Nat) : Int) := by
  refine Ev.congr (fun k => by rw [incunableref02_Sum.f]) ?_
  refine Ev.bind (list_ev hl hn) ?_
  refine Ev.eq (rsum_l0 (bitList (nats l)) (fun x hx => ?_) ?_ (bitList (nats l)).length 4294967295 0 (by decide) (by omega)) ?_
  · obtain ⟨i, _, rfl⟩ := List.mem_map.1 hx
    exact bitAt_lt _ _
  · unfold bitList
    rw [List.length_map, List.length_range, nats_length]
    omega
  · unfold CrcMath.sum
    rw [run_bitList _ (nats_lt hl), List.drop_zero]
theorem rbytes_eq (n : Nat) : incunableref02_Bytes.f (n : Int) = some (four n) := by
  unfold incunableref02_Bytes.f four
  simp only [Int.tmod_eq_emod_of_nonneg (Int.natCast_nonneg n), Int.tdiv_eq_ediv_of_nonneg (Int.natCast_nonneg n)]
  congr 1
  simp only [List.cons.injEq, and_true]
  omega
end Go.Proofs.Ytpedkegfefnibaa.PureCrcSums
