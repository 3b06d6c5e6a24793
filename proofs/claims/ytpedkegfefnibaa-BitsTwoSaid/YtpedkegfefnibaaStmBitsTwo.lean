/-
  The pure statement of the law BitsTwo: what is to be proved of the printed functions.
-/
import Derived.Test.YtpedkegfefnibaaQBitsTwox4
namespace Go.Proofs.Ytpedkegfefnibaa.Pure
open Go.RowKit Go.Proofs.Ytpedkegfefnibaa.QBitsTwo Go.Proofs.YtpedkegfefnibaaW.PrintWords
def StmBitsTwo : Prop := ∀ (l0 : List Int) (l1 : List Int), (l0.length * 1 ≤ 140737488351232) → ((fun xs : List Int => xs.length ≤ maxLen ∧ ∀ x ∈ xs, (fun a : Int => (Lit.int .u8 a).wf = true) x) l0) → (l1.length * 1 ≤ 140737488351232) → ((fun xs : List Int => xs.length ≤ maxLen ∧ ∀ x ∈ xs, (fun a : Int => (Lit.int .u8 a).wf = true) x) l1) → ∃ k, incunablelaw01_BitsTwo.f k l0 l1 = some true
end Go.Proofs.Ytpedkegfefnibaa.Pure
