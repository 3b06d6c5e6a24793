/-
  CrcSums: any bytes have the document's checksum, and end with theirs just if the document says so. Conditions: the law's own.
-/
import Derived.Test.YtpedkegfefnibaaStmCrcSums
import Derived.Test.YtpedkegfefnibaaCrcAwakeCrcSums
import Derived.Test.YtpedkegfefnibaaCrcCheckCrcSums
import Derived.Test.YtpedkegfefnibaaRefCrcCrcSums
import Derived.Test.YtpedkegfefnibaaSameCrcSums
namespace Go.Proofs.Ytpedkegfefnibaa.Pure
open Go.RowKit Go.Proofs.Ytpedkegfefnibaa.QCrcSums Go.Proofs.YtpedkegfefnibaaW.PrintWords Go.Proofs.YtpedkegfefnibaaW.PrintLast Go.Proofs.YtpedkegfefnibaaW.PrintMore Go.Proofs.Ytpedkegfefnibaa.EvKit Go.Proofs.Ytpedkegfefnibaa.CrcMath Go.Proofs.Ytpedkegfefnibaa.NatKit Go.Proofs.Ytpedkegfefnibaa.PureCrcSums
theorem CrcSums : StmCrcSums := by
  intro b n _ hb0 hn0
  have hb : ∀ x ∈ b, 0 ≤ x ∧ x < 256 := fun x hx => wf_u8 (hb0.2 x hx)
  have hn := wf_u32 hn0
  obtain ⟨m, rfl⟩ := Int.eq_ofNat_of_zero_le hn.1
  clear hb0 hn0
  refine Ev.rounds (Ev.congr (fun k => by rw [incunablelaw02_CrcSums.f]) ?_)
  refine Ev.bind crc_awake_ev (Ev.pos rfl ?_)
  refine Ev.ite (fun _ => Ev.ret rfl) (fun h => ?_)
  have hl : b.length ≤ 1000 := by omega
  have hw : wrap64 ((b.length : Int) - 4) = (b.length : Int) - 4 := w64_id (by omega) (by omega)
  refine Ev.bind (sum_one hb (by omega)) ?_
  refine Ev.bind (rsum_ev hb (by omega)) ?_
  refine Ev.pos rfl ?_
  refine Ev.bind (bytes_ev m) ?_
  refine Ev.bindv (rbytes_eq m) ?_
  refine Ev.bind (same_ev _ _ (by simp [four])) ?_
  refine Ev.pos (by simp) ?_
  refine Ev.bind (check_ev hb (by omega)) ?_
  rw [hw]
  clear hw
  refine Ev.ite (fun h4 => ?_) (fun h4 => Ev.ret ?_)
  · have hm : mx ((b.length : Int) - 4) 0 = (b.length : Int) - 4 := by unfold mx; rw [if_neg (by omega)]
    rw [hm]
    clear hm
    refine Ev.pos (by omega) ?_
    refine Ev.pos (by omega) ?_
    rw [show ((b.length : Int) - 4).toNat = b.length - 4 from by omega]
    refine Ev.bind (rsum_ev (fun x hx => hb x (List.mem_of_mem_take hx)) (by rw [List.length_take]; omega)) ?_
    refine Ev.bindv (rbytes_eq _) ?_
    refine Ev.bind (same_ev _ _ (by simp [four])) (Ev.ret ?_)
    unfold ends
    rw [decide_eq_true (show 4 ≤ b.length by omega), Bool.true_and]
    simp
  · unfold ends
    rw [decide_eq_false (show ¬ 4 ≤ b.length by omega), Bool.false_and]
    rfl
end Go.Proofs.Ytpedkegfefnibaa.Pure
