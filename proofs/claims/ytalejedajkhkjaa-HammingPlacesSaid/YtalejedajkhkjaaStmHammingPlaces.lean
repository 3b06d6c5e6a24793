/-
  The pure statement of the law HammingPlaces: what is to be proved of the printed functions.
-/
import Derived.Test.YtalejedajkhkjaaQHammingPlacesx2
namespace Go.Proofs.Ytalejedajkhkjaa.Pure
open Go.RowKit Go.Proofs.Ytalejedajkhkjaa.QHammingPlaces Go.Proofs.YtalejedajkhkjaaW.PrintWords
def StmHammingPlaces : Prop := ∀ (a0 : Int) (a1 : Int), ((Lit.int .i64 a0).wf = true) → ((Lit.int .i64 a1).wf = true) → ∃ k, incunablelaw05_HammingPlaces.f k a0 a1 = some true
end Go.Proofs.Ytalejedajkhkjaa.Pure
