/-
  The law's hand-made example of package crc.
-/
import Derived.Test.YtpedkegfefnibaaCrcFnCrcParts
namespace Go.Proofs.Ytpedkegfefnibaa.PureCrcParts
open Go.RowKit Go.Proofs.Ytpedkegfefnibaa.QCrcParts Go.Proofs.YtpedkegfefnibaaW.PrintWords Go.Proofs.YtpedkegfefnibaaW.PrintLast Go.Proofs.YtpedkegfefnibaaW.PrintMore Go.Proofs.Ytpedkegfefnibaa.EvKit Go.Proofs.Ytpedkegfefnibaa.CrcMath Go.Proofs.Ytpedkegfefnibaa.NatKit
theorem crc_awake_ev : Ev (fun k => incunablelaw02_awake.f k) true := by
  refine Ev.congr (fun k => by rw [incunablelaw02_awake.f]) ?_
  refine Ev.bind (sum_ev (ls := [[49, 50, 51, 52], [53, 54, 55, 56, 57]]) ?_ (by decide) (by decide)) (Ev.ret ?_)
  · intro l hl x hx
    simp only [List.mem_cons, List.not_mem_nil, or_false] at hl
    rcases hl with rfl | rfl
    · simp only [List.mem_cons, List.not_mem_nil, or_false] at hx
      omega
    · simp only [List.mem_cons, List.not_mem_nil, or_false] at hx
      omega
  · have e : CrcMath.sum (nats [[49, 50, 51, 52], [53, 54, 55, 56, 57]].flatten) = 3421780262 := by decide +kernel
    rw [e]
    rfl
end Go.Proofs.Ytpedkegfefnibaa.PureCrcParts
