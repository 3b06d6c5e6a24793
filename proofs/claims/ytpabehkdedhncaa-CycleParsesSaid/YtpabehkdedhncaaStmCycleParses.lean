/-
  The pure statement of the law CycleParses: what is to be proved of the printed functions.
-/
import Derived.Test.YtpabehkdedhncaaQCycleParsesx3
namespace Go.Proofs.Ytpabehkdedhncaa.Pure
open Go.RowKit Go.Proofs.Ytpabehkdedhncaa.QCycleParses Go.Proofs.YtpabehkdedhncaaW.PrintWords
def StmCycleParses : Prop := ∀ (a0 : ByteArray), (a0.size ≤ 140737488351232) → ∃ k, incunablelaw10_CycleParses.f k a0 = some true
end Go.Proofs.Ytpabehkdedhncaa.Pure
