/-
  The law's hand-made example of package pack.
-/
import Derived.Test.YtpedkegfefnibaaPackPutPackPuts
import Derived.Test.YtpedkegfefnibaaSamePackPuts
namespace Go.Proofs.Ytpedkegfefnibaa.PurePackPuts
open Go.RowKit Go.Proofs.Ytpedkegfefnibaa.PPackPuts Go.Proofs.YtpedkegfefnibaaW.PrintWords Go.Proofs.YtpedkegfefnibaaW.PrintLast Go.Proofs.Ytpedkegfefnibaa.EvKit Go.Proofs.Ytpedkegfefnibaa.PackMath

theorem pack_awake_ev : Ev (fun k => incunablelaw03_awake.f k) true := by
  refine Ev.congr (fun k => by rw [incunablelaw03_awake.f]) ?_
  refine Ev.bind (put_ev [2] [300]) ?_
  have e : pkPut [2] [300] = ([44, 1], 0) := by decide
  rw [e]
  refine Ev.pos rfl (Ev.bind (same_ev [44, 1] [44, 1] (by decide)) (Ev.ret ?_))
  rfl
end Go.Proofs.Ytpedkegfefnibaa.PurePackPuts
