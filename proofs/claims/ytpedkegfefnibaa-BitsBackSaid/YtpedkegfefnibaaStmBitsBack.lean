/-
  The pure statement of the law BitsBack: what is to be proved of the printed functions.
-/
import Derived.Test.YtpedkegfefnibaaQBitsBackx2
namespace Go.Proofs.Ytpedkegfefnibaa.Pure
open Go.RowKit Go.Proofs.Ytpedkegfefnibaa.QBitsBack Go.Proofs.YtpedkegfefnibaaW.PrintWords
def StmBitsBack : Prop := ∀ (l0 : List Int) (l1 : List Int) (l2 : List Int), (l0.length * 1 ≤ 140737488351232) → ((fun xs : List Int => xs.length ≤ maxLen ∧ ∀ x ∈ xs, (fun a : Int => (Lit.int .u8 a).wf = true) x) l0) → (l1.length * 1 ≤ 140737488351232) → ((fun xs : List Int => xs.length ≤ maxLen ∧ ∀ x ∈ xs, (fun a : Int => (Lit.int .u8 a).wf = true) x) l1) → (l2.length * 8 ≤ 140737488351232) → ((fun xs : List Int => xs.length ≤ maxLen ∧ ∀ x ∈ xs, (fun a : Int => (Lit.int .i64 a).wf = true) x) l2) → ∃ k, incunablelaw01_BitsBack.f k l0 l1 l2 = some true
end Go.Proofs.Ytpedkegfefnibaa.Pure
