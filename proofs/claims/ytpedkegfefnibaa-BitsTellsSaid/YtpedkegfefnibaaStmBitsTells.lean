/-
  The pure statement of the law BitsTells: what is to be proved of the printed functions.
-/
import Derived.Test.YtpedkegfefnibaaQBitsTellsx3
namespace Go.Proofs.Ytpedkegfefnibaa.Pure
open Go.RowKit Go.Proofs.Ytpedkegfefnibaa.QBitsTells Go.Proofs.YtpedkegfefnibaaW.PrintWords
def StmBitsTells : Prop := ∀ (l0 : List Int) (l1 : List Int) (a2 : Int), (l0.length * 1 ≤ 140737488351232) → ((fun xs : List Int => xs.length ≤ maxLen ∧ ∀ x ∈ xs, (fun a : Int => (Lit.int .u8 a).wf = true) x) l0) → (l1.length * 8 ≤ 140737488351232) → ((fun xs : List Int => xs.length ≤ maxLen ∧ ∀ x ∈ xs, (fun a : Int => (Lit.int .i64 a).wf = true) x) l1) → ((Lit.int .i64 a2).wf = true) → ∃ k, incunablelaw01_BitsTells.f k l0 l1 a2 = some true
end Go.Proofs.Ytpedkegfefnibaa.Pure
