/-
  BitsTwo: two byte strings' product and difference are the document's. Conditions: the law's own.
-/
import Derived.Test.YtpedkegfefnibaaStmBitsTwo
import Derived.Test.YtpedkegfefnibaaBitsAwakeBitsTwo
import Derived.Test.YtpedkegfefnibaaAndBitsTwo
import Derived.Test.YtpedkegfefnibaaDiffBitsTwo
import Derived.Test.YtpedkegfefnibaaRefAndBitsTwo
import Derived.Test.YtpedkegfefnibaaIntsBitsTwo
namespace Go.Proofs.Ytpedkegfefnibaa.Pure
open Go.RowKit Go.Proofs.Ytpedkegfefnibaa.QBitsTwo Go.Proofs.YtpedkegfefnibaaW.PrintWords Go.Proofs.YtpedkegfefnibaaW.PrintLast Go.Proofs.YtpedkegfefnibaaW.PrintMore Go.Proofs.Ytpedkegfefnibaa.EvKit Go.Proofs.Ytpedkegfefnibaa.CrcMath Go.Proofs.Ytpedkegfefnibaa.NatKit Go.Proofs.Ytpedkegfefnibaa.BitsMath Go.Proofs.Ytpedkegfefnibaa.PureBitsTwo
theorem diffN_le (a b : List Nat) : (diffN a b).length ≤ 8 * min a.length b.length := by
  unfold diffN
  refine Nat.le_trans (List.length_filter_le _ _) ?_
  rw [List.length_range]
  exact Nat.le_refl _
theorem BitsTwo : StmBitsTwo := by
  intro a b _ ha0 _ hb0
  have ha : ∀ x ∈ a, 0 ≤ x ∧ x < 256 := fun x hx => wf_u8 (ha0.2 x hx)
  have hb : ∀ x ∈ b, 0 ≤ x ∧ x < 256 := fun x hx => wf_u8 (hb0.2 x hx)
  refine Ev.rounds (Ev.congr (fun k => by rw [incunablelaw01_BitsTwo.f]) ?_)
  refine Ev.bind bits_awake_ev (Ev.pos rfl ?_)
  refine Ev.bind (many_ev _ (by simp)) ?_
  refine Ev.ite (fun _ => Ev.ret rfl) (fun hm => ?_)
  have hl : a.length ≤ 500 ∧ b.length ≤ 500 := by
    simp at hm
    omega
  refine Ev.bind (and_ev ha hb (by omega) (by omega)) ?_
  refine Ev.bind (rand_ev ha hb (by omega) (by omega)) ?_
  refine Ev.bind (same_ev _ _ (by rw [ints_length, andN_length, nats_length, nats_length]; omega)) ?_
  refine Ev.pos (by simp) ?_
  refine Ev.bind (diff_ev ha hb (by omega) (by omega)) ?_
  refine Ev.bind (rdiff_ev ha hb (by omega) (by omega)) ?_
  have hd := diffN_le (nats a) (nats b)
  rw [nats_length, nats_length] at hd
  refine Ev.bind (ints_ev _ _ (by rw [ints_length]; omega)) (Ev.ret ?_)
  simp
end Go.Proofs.Ytpedkegfefnibaa.Pure
