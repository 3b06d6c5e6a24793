/-
  The pure statement of the law HammingWords: what is to be proved of the printed functions.
-/
import Derived.Test.YtalejedajkhkjaaQHammingWordsx4
namespace Go.Proofs.Ytalejedajkhkjaa.Pure
open Go.RowKit Go.Proofs.Ytalejedajkhkjaa.QHammingWords Go.Proofs.YtalejedajkhkjaaW.PrintWords
def StmHammingWords : Prop := ∀ (l0 : List Int) (a1 : Int), (l0.length * 1 ≤ 140737488351232) → ((fun xs : List Int => xs.length ≤ maxLen ∧ ∀ x ∈ xs, (fun a : Int => (Lit.int .u8 a).wf = true) x) l0) → ((Lit.int .u16 a1).wf = true) → ∃ k, incunablelaw05_HammingWords.f k l0 a1 = some true
end Go.Proofs.Ytalejedajkhkjaa.Pure
