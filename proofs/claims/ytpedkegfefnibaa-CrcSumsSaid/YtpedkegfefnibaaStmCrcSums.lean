/-
  The pure statement of the law CrcSums: what is to be proved of the printed functions.
-/
import Derived.Test.YtpedkegfefnibaaQCrcSumsx4
namespace Go.Proofs.Ytpedkegfefnibaa.Pure
open Go.RowKit Go.Proofs.Ytpedkegfefnibaa.QCrcSums Go.Proofs.YtpedkegfefnibaaW.PrintWords
def StmCrcSums : Prop := ∀ (l0 : List Int) (a1 : Int), (l0.length * 1 ≤ 140737488351232) → ((fun xs : List Int => xs.length ≤ maxLen ∧ ∀ x ∈ xs, (fun a : Int => (Lit.int .u8 a).wf = true) x) l0) → ((Lit.int .u32 a1).wf = true) → ∃ k, incunablelaw02_CrcSums.f k l0 a1 = some true
end Go.Proofs.Ytpedkegfefnibaa.Pure
