/-
  What crc.Check comes to: do bytes end with their checksum.
-/
import Derived.Test.YtpabehkdedhncaaCrcFnBadBack
import Derived.Laws.Strings
namespace Go.Proofs.Ytpabehkdedhncaa.PureBadBack
open Go.RowKit Go.Proofs.Ytpabehkdedhncaa.QBadBack Go.Proofs.YtpabehkdedhncaaW.PrintWords Go.Proofs.YtpabehkdedhncaaW.PrintLast Go.Proofs.YtpabehkdedhncaaW.PrintMore Go.Proofs.Ytpabehkdedhncaa.EvKit Go.Proofs.Ytpabehkdedhncaa.BitsKit Go.Proofs.Ytpabehkdedhncaa.CrcMath Go.Proofs.Ytpabehkdedhncaa.NatKit

theorem str_beq {a b : List Int} (ha : ∀ x ∈ a, 0 ≤ x ∧ x < 256) (hb : ∀ x ∈ b, 0 ≤ x ∧ x < 256) : ((strOfNums a).toList == (strOfNums b).toList) = decide (a = b) := by
  rw [Bool.eq_iff_iff, beq_iff_eq, decide_eq_true_eq, ByteArray.toList_eq, ByteArray.toList_eq]
  constructor
  · intro h
    refine str_eq ha hb ?_
    have := Array.toList_inj.1 h
    cases ea : strOfNums a
    cases eb : strOfNums b
    rw [ea, eb] at this
    congr 1
  · rintro rfl
    rfl
def ends (b : List Int) : Bool := decide (4 ≤ b.length) && decide (four (CrcMath.sum (nats (b.take (b.length - 4)))) = b.drop (b.length - 4))
theorem check_ev {b : List Int} (hb : ∀ x ∈ b, 0 ≤ x ∧ x < 256) (hn : b.length < 1000000) : Ev (fun k => crc_Check.f k b) (ends b) := by
  refine Ev.congr (fun k => by rw [crc_Check.f]) ?_
  have hw : wrap64 ((b.length : Int) - 4) = (b.length : Int) - 4 := w64_id (by omega) (by omega)
  rw [hw]
  clear hw
  refine Ev.ite (fun h => ?_) (fun h => Ev.ret ?_)
  · refine Ev.pos (by omega) ?_
    refine Ev.pos (by omega) ?_
    rw [show ((b.length : Int) - 4).toNat = b.length - 4 from by omega]
    refine Ev.bind (sum_one (fun x hx => hb x (List.mem_of_mem_take hx)) (by rw [List.length_take]; omega)) ?_
    refine Ev.bind (bytes_ev _) (Ev.ret ?_)
    rw [str_beq (four_byte _) (fun x hx => hb x (List.mem_of_mem_drop hx))]
    unfold ends
    rw [decide_eq_true (show 4 ≤ b.length by omega), Bool.true_and]
  · unfold ends
    rw [decide_eq_false (show ¬ 4 ≤ b.length by omega), Bool.false_and]
end Go.Proofs.Ytpabehkdedhncaa.PureBadBack
