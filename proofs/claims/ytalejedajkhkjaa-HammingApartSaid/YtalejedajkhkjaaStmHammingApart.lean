/-
  The pure statement of the law HammingApart: what is to be proved of the printed functions.
-/
import Derived.Test.YtalejedajkhkjaaQHammingApartx3
namespace Go.Proofs.Ytalejedajkhkjaa.Pure
open Go.RowKit Go.Proofs.Ytalejedajkhkjaa.QHammingApart Go.Proofs.YtalejedajkhkjaaW.PrintWords
def StmHammingApart : Prop := ∀ (l0 : List Int) (l1 : List Int), (l0.length * 1 ≤ 140737488351232) → ((fun xs : List Int => xs.length ≤ maxLen ∧ ∀ x ∈ xs, (fun a : Int => (Lit.int .u8 a).wf = true) x) l0) → (l1.length * 1 ≤ 140737488351232) → ((fun xs : List Int => xs.length ≤ maxLen ∧ ∀ x ∈ xs, (fun a : Int => (Lit.int .u8 a).wf = true) x) l1) → ∃ k, incunablelaw05_HammingApart.f k l0 l1 = some true
end Go.Proofs.Ytalejedajkhkjaa.Pure
