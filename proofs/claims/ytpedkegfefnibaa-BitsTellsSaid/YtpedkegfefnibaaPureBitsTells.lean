/-
  BitsTells: any bytes' bits, turned and counted, are the document's. Conditions: the law's own.
-/
import Derived.Test.YtpedkegfefnibaaStmBitsTells
import Derived.Test.YtpedkegfefnibaaBitsAwakeBitsTells
import Derived.Test.YtpedkegfefnibaaRefFlipBitsTells
import Derived.Test.YtpedkegfefnibaaGetBitsTells
namespace Go.Proofs.Ytpedkegfefnibaa.Pure
open Go.RowKit Go.Proofs.Ytpedkegfefnibaa.QBitsTells Go.Proofs.YtpedkegfefnibaaW.PrintWords Go.Proofs.YtpedkegfefnibaaW.PrintLast Go.Proofs.YtpedkegfefnibaaW.PrintMore Go.Proofs.Ytpedkegfefnibaa.EvKit Go.Proofs.Ytpedkegfefnibaa.CrcMath Go.Proofs.Ytpedkegfefnibaa.NatKit Go.Proofs.Ytpedkegfefnibaa.BitsMath Go.Proofs.Ytpedkegfefnibaa.PureBitsTells
theorem tells_j0 {b at_ : List Int} {i : Int} (hb : ∀ x ∈ b, 0 ≤ x ∧ x < 256) (ha : ∀ x ∈ at_, x ≤ 9223372036854775807) (hi : i ≤ 9223372036854775807) (hl : b.length ≤ 500) (hn : at_.length ≤ 100) :
    Ev (fun k => incunablelaw01_BitsTells.j0 k b at_ i false) true := by
  refine Ev.step (fun k => incunablelaw01_BitsTells.j0.eq_2 ..) ?_
  refine Ev.neg (by decide) ?_
  refine Ev.bindv (get_eq hb hi) ?_
  refine Ev.bind (bit_ev hb hi) ?_
  refine Ev.pos (by simp) ?_
  refine Ev.bind (flip_ev hb (by omega) ha (by omega)) ?_
  refine Ev.bind (rflip_ev hb (by omega) (by omega)) ?_
  refine Ev.bind (same_ev _ _ (by rw [ints_length, flips_length, nats_length]; omega)) ?_
  refine Ev.pos (by simp) ?_
  refine Ev.bind (zeros_ev hb (by omega)) ?_
  refine Ev.bind (rzeros_ev hb (by omega)) ?_
  refine Ev.pos rfl ?_
  refine Ev.bind (count_ev hb (by omega)) (Ev.ret ?_)
  have := count_le (nats b)
  rw [nats_length] at this
  rw [w64_id (x := 8 * (b.length : Int)) (by omega) (by omega), w64_id (by omega) (by omega)]
  rw [beq_iff_eq]
  omega
theorem BitsTells : StmBitsTells := by
  intro b at_ i _ hb0 _ ha0 hi0
  have hb : ∀ x ∈ b, 0 ≤ x ∧ x < 256 := fun x hx => wf_u8 (hb0.2 x hx)
  have ha : ∀ x ∈ at_, x ≤ 9223372036854775807 := fun x hx => (wf_i64 (ha0.2 x hx)).2
  have hi := (wf_i64 hi0).2
  refine Ev.rounds (Ev.congr (fun k => by rw [incunablelaw01_BitsTells.f]) ?_)
  refine Ev.bind bits_awake_ev (Ev.pos rfl ?_)
  refine Ev.bind (many_ev _ (by simp)) ?_
  have hj : Ev (fun k => incunablelaw01_BitsTells.j0 k b at_ i true) true := by
    refine Ev.step (fun k => incunablelaw01_BitsTells.j0.eq_2 ..) ?_
    exact Ev.pos rfl (Ev.ret rfl)
  refine Ev.ite (fun _ => hj) (fun hm => ?_)
  have hl : b.length ≤ 500 := by
    simp at hm
    omega
  by_cases hn : (at_.length : Int) > 100
  · rw [decide_eq_true hn]
    exact hj
  · rw [decide_eq_false hn]
    exact tells_j0 hb ha hi hl (by omega)
end Go.Proofs.Ytpedkegfefnibaa.Pure
