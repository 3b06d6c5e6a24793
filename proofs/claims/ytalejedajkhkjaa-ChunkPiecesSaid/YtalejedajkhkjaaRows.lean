/-
  No cell of these rows narrows 'for every input' (looked for: loops, veiled, ifaces, maps, wideKeys, modest, calm, conditions, laid).
  DERIVED. THE GIVEN ROWS OF THIS SEAT. 9 by the template 'for every input the law returns true; each argument reads behind the call as it read before'; 0 by the template 'total and deterministic' (their statements: YtalejedajkhkjaaTotals.lean).
  GIVEN WITH THE SEED: the statements are not yours to turn. If you find one false, say at which input.
  Laid BY PROGRAM, IN A SANDBOX (cutbox-rows.mjs): the forced cells as the released guide's own fill.sh prints them over the translation 864bcb6bff561d29… (all of the seat's roots in one cut). By AI agents, Wed Nov 11 2026. No macro, syntax, notation, axiom, sorry.
-/
import Derived.Test.YtalejedajkhkjaaChecked
import GoSem.Claim
import GoSem.ClaimJoined
import GoSem.ClaimMapViews
import Derived.JoinedTies
import Derived.KernelRfl
namespace Go.Proofs.Ytalejedajkhkjaa
/- THE CELL 'sum', in the pinned program and in every row, IS THE sha256 OF THE DUMP (.gsa) THAT YtalejedajkhkjaaProg.lean LOADS. Nothing in Lean hashes anything: it is a label: what it is worth is what the hold of that sum in a sandbox is worth. -/
noncomputable def Try.pinned : Pinned := { name := "ytalejedajkhkjaa", sum := "864bcb6bff561d29920d22e770a783765565166267c470a8fb978f85eb1b5189", checked := Try.checked }
namespace Rows
def none {H : Type} : Left H := { results := [], args := [] }

/-- 'incunablelaw05.HammingPlaces': WHATEVER THE INPUT: true; the input reads as it did. -/
def hammingPlacesSpec : ChangeSpec := { name := "hammingPlaces", fn := fun _ => fun
  | [d1, d2] => { results := [.lit (.bool true)], args := [d1, d2] }
  | _ => none }
def hammingPlacesRow : OpenClaim := { program := "ytalejedajkhkjaa", sum := "864bcb6bff561d29920d22e770a783765565166267c470a8fb978f85eb1b5189", func := "incunable/incunablelaw05.HammingPlaces", spec := "hammingPlaces", apart := false }
def HammingPlacesSaid : Prop := hammingPlacesRow.holds Try.pinned (OpenSpec.ofChange hammingPlacesSpec)

/-- ITS FALSE NEIGHBOUR: 'it returns false'. Refute it at one input. -/
def hammingPlacesWrong : ChangeSpec := { name := "hammingPlaces", fn := fun _ => fun
  | [d1, d2] => { results := [.lit (.bool false)], args := [d1, d2] }
  | _ => none }
def HammingPlacesWrongFalsely : Prop := hammingPlacesRow.holds Try.pinned (OpenSpec.ofChange hammingPlacesWrong)

/-- 'incunablelaw05.HammingApart': WHATEVER THE INPUT: true; the input reads as it did. -/
def hammingApartSpec : ChangeSpec := { name := "hammingApart", fn := fun _ => fun
  | [d1, d2] => { results := [.lit (.bool true)], args := [d1, d2] }
  | _ => none }
def hammingApartRow : OpenClaim := { program := "ytalejedajkhkjaa", sum := "864bcb6bff561d29920d22e770a783765565166267c470a8fb978f85eb1b5189", func := "incunable/incunablelaw05.HammingApart", spec := "hammingApart", apart := false }
def HammingApartSaid : Prop := hammingApartRow.holds Try.pinned (OpenSpec.ofChange hammingApartSpec)

/-- ITS FALSE NEIGHBOUR: 'it returns false'. Refute it at one input. -/
def hammingApartWrong : ChangeSpec := { name := "hammingApart", fn := fun _ => fun
  | [d1, d2] => { results := [.lit (.bool false)], args := [d1, d2] }
  | _ => none }
def HammingApartWrongFalsely : Prop := hammingApartRow.holds Try.pinned (OpenSpec.ofChange hammingApartWrong)

/-- 'incunablelaw05.HammingWords': WHATEVER THE INPUT: true; the input reads as it did. -/
def hammingWordsSpec : ChangeSpec := { name := "hammingWords", fn := fun _ => fun
  | [d1, d2] => { results := [.lit (.bool true)], args := [d1, d2] }
  | _ => none }
def hammingWordsRow : OpenClaim := { program := "ytalejedajkhkjaa", sum := "864bcb6bff561d29920d22e770a783765565166267c470a8fb978f85eb1b5189", func := "incunable/incunablelaw05.HammingWords", spec := "hammingWords", apart := false }
def HammingWordsSaid : Prop := hammingWordsRow.holds Try.pinned (OpenSpec.ofChange hammingWordsSpec)

/-- ITS FALSE NEIGHBOUR: 'it returns false'. Refute it at one input. -/
def hammingWordsWrong : ChangeSpec := { name := "hammingWords", fn := fun _ => fun
  | [d1, d2] => { results := [.lit (.bool false)], args := [d1, d2] }
  | _ => none }
def HammingWordsWrongFalsely : Prop := hammingWordsRow.holds Try.pinned (OpenSpec.ofChange hammingWordsWrong)

/-- 'incunablelaw05.HammingOne': WHATEVER THE INPUT: true; the input reads as it did. -/
def hammingOneSpec : ChangeSpec := { name := "hammingOne", fn := fun _ => fun
  | [d1, d2] => { results := [.lit (.bool true)], args := [d1, d2] }
  | _ => none }
def hammingOneRow : OpenClaim := { program := "ytalejedajkhkjaa", sum := "864bcb6bff561d29920d22e770a783765565166267c470a8fb978f85eb1b5189", func := "incunable/incunablelaw05.HammingOne", spec := "hammingOne", apart := false }
def HammingOneSaid : Prop := hammingOneRow.holds Try.pinned (OpenSpec.ofChange hammingOneSpec)

/-- ITS FALSE NEIGHBOUR: 'it returns false'. Refute it at one input. -/
def hammingOneWrong : ChangeSpec := { name := "hammingOne", fn := fun _ => fun
  | [d1, d2] => { results := [.lit (.bool false)], args := [d1, d2] }
  | _ => none }
def HammingOneWrongFalsely : Prop := hammingOneRow.holds Try.pinned (OpenSpec.ofChange hammingOneWrong)

/-- 'incunablelaw05.HammingTwo': WHATEVER THE INPUT: true; the input reads as it did. -/
def hammingTwoSpec : ChangeSpec := { name := "hammingTwo", fn := fun _ => fun
  | [d1, d2] => { results := [.lit (.bool true)], args := [d1, d2] }
  | _ => none }
def hammingTwoRow : OpenClaim := { program := "ytalejedajkhkjaa", sum := "864bcb6bff561d29920d22e770a783765565166267c470a8fb978f85eb1b5189", func := "incunable/incunablelaw05.HammingTwo", spec := "hammingTwo", apart := false }
def HammingTwoSaid : Prop := hammingTwoRow.holds Try.pinned (OpenSpec.ofChange hammingTwoSpec)

/-- ITS FALSE NEIGHBOUR: 'it returns false'. Refute it at one input. -/
def hammingTwoWrong : ChangeSpec := { name := "hammingTwo", fn := fun _ => fun
  | [d1, d2] => { results := [.lit (.bool false)], args := [d1, d2] }
  | _ => none }
def HammingTwoWrongFalsely : Prop := hammingTwoRow.holds Try.pinned (OpenSpec.ofChange hammingTwoWrong)

/-- 'incunablelaw06.ChunkCodes': WHATEVER THE INPUT: true; the input reads as it did. -/
def chunkCodesSpec : ChangeSpec := { name := "chunkCodes", fn := fun _ => fun
  | [d1, d2] => { results := [.lit (.bool true)], args := [d1, d2] }
  | _ => none }
def chunkCodesRow : OpenClaim := { program := "ytalejedajkhkjaa", sum := "864bcb6bff561d29920d22e770a783765565166267c470a8fb978f85eb1b5189", func := "incunable/incunablelaw06.ChunkCodes", spec := "chunkCodes", apart := false }
def ChunkCodesSaid : Prop := chunkCodesRow.holds Try.pinned (OpenSpec.ofChange chunkCodesSpec)

/-- ITS FALSE NEIGHBOUR: 'it returns false'. Refute it at one input. -/
def chunkCodesWrong : ChangeSpec := { name := "chunkCodes", fn := fun _ => fun
  | [d1, d2] => { results := [.lit (.bool false)], args := [d1, d2] }
  | _ => none }
def ChunkCodesWrongFalsely : Prop := chunkCodesRow.holds Try.pinned (OpenSpec.ofChange chunkCodesWrong)

/-- 'incunablelaw06.ChunkBack': WHATEVER THE INPUT: true; the input reads as it did. -/
def chunkBackSpec : ChangeSpec := { name := "chunkBack", fn := fun _ => fun
  | [d1, d2] => { results := [.lit (.bool true)], args := [d1, d2] }
  | _ => none }
def chunkBackRow : OpenClaim := { program := "ytalejedajkhkjaa", sum := "864bcb6bff561d29920d22e770a783765565166267c470a8fb978f85eb1b5189", func := "incunable/incunablelaw06.ChunkBack", spec := "chunkBack", apart := false }
def ChunkBackSaid : Prop := chunkBackRow.holds Try.pinned (OpenSpec.ofChange chunkBackSpec)

/-- ITS FALSE NEIGHBOUR: 'it returns false'. Refute it at one input. -/
def chunkBackWrong : ChangeSpec := { name := "chunkBack", fn := fun _ => fun
  | [d1, d2] => { results := [.lit (.bool false)], args := [d1, d2] }
  | _ => none }
def ChunkBackWrongFalsely : Prop := chunkBackRow.holds Try.pinned (OpenSpec.ofChange chunkBackWrong)

/-- 'incunablelaw06.ChunkAll': WHATEVER THE INPUT: true; the input reads as it did. -/
def chunkAllSpec : ChangeSpec := { name := "chunkAll", fn := fun _ => fun
  | [d1, d2] => { results := [.lit (.bool true)], args := [d1, d2] }
  | _ => none }
def chunkAllRow : OpenClaim := { program := "ytalejedajkhkjaa", sum := "864bcb6bff561d29920d22e770a783765565166267c470a8fb978f85eb1b5189", func := "incunable/incunablelaw06.ChunkAll", spec := "chunkAll", unfollowed := true, recurses := true, apart := false }
def ChunkAllSaid : Prop := chunkAllRow.holds Try.pinned (OpenSpec.ofChange chunkAllSpec)

/-- ITS FALSE NEIGHBOUR: 'it returns false'. Refute it at one input. -/
def chunkAllWrong : ChangeSpec := { name := "chunkAll", fn := fun _ => fun
  | [d1, d2] => { results := [.lit (.bool false)], args := [d1, d2] }
  | _ => none }
def ChunkAllWrongFalsely : Prop := chunkAllRow.holds Try.pinned (OpenSpec.ofChange chunkAllWrong)

/-- 'incunablelaw06.ChunkPieces': WHATEVER THE INPUT: true; the input reads as it did. -/
def chunkPiecesSpec : ChangeSpec := { name := "chunkPieces", fn := fun _ => fun
  | [d1, d2] => { results := [.lit (.bool true)], args := [d1, d2] }
  | _ => none }
def chunkPiecesRow : OpenClaim := { program := "ytalejedajkhkjaa", sum := "864bcb6bff561d29920d22e770a783765565166267c470a8fb978f85eb1b5189", func := "incunable/incunablelaw06.ChunkPieces", spec := "chunkPieces", unfollowed := true, recurses := true, apart := false }
def ChunkPiecesSaid : Prop := chunkPiecesRow.holds Try.pinned (OpenSpec.ofChange chunkPiecesSpec)

/-- ITS FALSE NEIGHBOUR: 'it returns false'. Refute it at one input. -/
def chunkPiecesWrong : ChangeSpec := { name := "chunkPieces", fn := fun _ => fun
  | [d1, d2] => { results := [.lit (.bool false)], args := [d1, d2] }
  | _ => none }
def ChunkPiecesWrongFalsely : Prop := chunkPiecesRow.holds Try.pinned (OpenSpec.ofChange chunkPiecesWrong)

/- THE SECOND FORM. 'bulk': how many values and letters a reading holds, each counted each time it is reached (what is shared counts as often as it is met; a slice's spare places count too). A statement '..UptoSaid' is the law's where the arguments, and the package variables that the reading takes, are together of bulk at most 1048576: NARROWER than '..Said'. Prove '..Said' where nothing that the law and all that it calls make is longer than what came in: it says more and counts as full. Else prove '..UptoSaid'. A law counts once. -/
mutual
def uptoBulk {H : Type} : DataW H → Nat
  | .lit (.string bytes) => bytes.length + 1
  | .lit _ => 1
  | .nil => 1
  | .ptr d => uptoBulk d + 1
  | .slice elems spare => uptoBulkAll elems + uptoBulkAll spare + 1
  | .agg parts => uptoBulkAll parts + 1
  | .iface _ d => uptoBulk d + 1
  | .map entries => uptoBulkEntries entries + 1
  | .held _ => 1
def uptoBulkAll {H : Type} : List (DataW H) → Nat
  | [] => 0
  | d :: r => uptoBulk d + uptoBulkAll r
def uptoBulkEntries {H : Type} : List (Lit × DataW H) → Nat
  | [] => 0
  | x :: r => uptoBulkEntry x + uptoBulkEntries r
def uptoBulkEntry {H : Type} : Lit × DataW H → Nat
  | (.string bytes, d) => bytes.length + uptoBulk d + 1
  | (_, d) => uptoBulk d + 1
 end
def uptoSmall : (H : Type) → List (DataW H) → Bool := fun _ ds => decide (uptoBulkAll ds ≤ 1048576)
def OpenSpec.upto (s : _root_.Go.ChangeSpec) : _root_.Go.OpenSpec := { _root_.Go.OpenSpec.ofChange s with cond := some uptoSmall }

/-- 'incunablelaw05.HammingPlaces', WHERE WHAT IT READS IS OF BULK AT MOST 1048576: true; the input reads as it did. -/
def hammingPlacesUptoRow : OpenClaim := { program := "ytalejedajkhkjaa", sum := "864bcb6bff561d29920d22e770a783765565166267c470a8fb978f85eb1b5189", func := "incunable/incunablelaw05.HammingPlaces", spec := "hammingPlaces", apart := false, narrowed := true }
def HammingPlacesUptoSaid : Prop := hammingPlacesUptoRow.holds Try.pinned (OpenSpec.upto hammingPlacesSpec)

/-- 'incunablelaw05.HammingApart', WHERE WHAT IT READS IS OF BULK AT MOST 1048576: true; the input reads as it did. -/
def hammingApartUptoRow : OpenClaim := { program := "ytalejedajkhkjaa", sum := "864bcb6bff561d29920d22e770a783765565166267c470a8fb978f85eb1b5189", func := "incunable/incunablelaw05.HammingApart", spec := "hammingApart", apart := false, narrowed := true }
def HammingApartUptoSaid : Prop := hammingApartUptoRow.holds Try.pinned (OpenSpec.upto hammingApartSpec)

/-- 'incunablelaw05.HammingWords', WHERE WHAT IT READS IS OF BULK AT MOST 1048576: true; the input reads as it did. -/
def hammingWordsUptoRow : OpenClaim := { program := "ytalejedajkhkjaa", sum := "864bcb6bff561d29920d22e770a783765565166267c470a8fb978f85eb1b5189", func := "incunable/incunablelaw05.HammingWords", spec := "hammingWords", apart := false, narrowed := true }
def HammingWordsUptoSaid : Prop := hammingWordsUptoRow.holds Try.pinned (OpenSpec.upto hammingWordsSpec)

/-- 'incunablelaw05.HammingOne', WHERE WHAT IT READS IS OF BULK AT MOST 1048576: true; the input reads as it did. -/
def hammingOneUptoRow : OpenClaim := { program := "ytalejedajkhkjaa", sum := "864bcb6bff561d29920d22e770a783765565166267c470a8fb978f85eb1b5189", func := "incunable/incunablelaw05.HammingOne", spec := "hammingOne", apart := false, narrowed := true }
def HammingOneUptoSaid : Prop := hammingOneUptoRow.holds Try.pinned (OpenSpec.upto hammingOneSpec)

/-- 'incunablelaw05.HammingTwo', WHERE WHAT IT READS IS OF BULK AT MOST 1048576: true; the input reads as it did. -/
def hammingTwoUptoRow : OpenClaim := { program := "ytalejedajkhkjaa", sum := "864bcb6bff561d29920d22e770a783765565166267c470a8fb978f85eb1b5189", func := "incunable/incunablelaw05.HammingTwo", spec := "hammingTwo", apart := false, narrowed := true }
def HammingTwoUptoSaid : Prop := hammingTwoUptoRow.holds Try.pinned (OpenSpec.upto hammingTwoSpec)

/-- 'incunablelaw06.ChunkCodes', WHERE WHAT IT READS IS OF BULK AT MOST 1048576: true; the input reads as it did. -/
def chunkCodesUptoRow : OpenClaim := { program := "ytalejedajkhkjaa", sum := "864bcb6bff561d29920d22e770a783765565166267c470a8fb978f85eb1b5189", func := "incunable/incunablelaw06.ChunkCodes", spec := "chunkCodes", apart := false, narrowed := true }
def ChunkCodesUptoSaid : Prop := chunkCodesUptoRow.holds Try.pinned (OpenSpec.upto chunkCodesSpec)

/-- 'incunablelaw06.ChunkBack', WHERE WHAT IT READS IS OF BULK AT MOST 1048576: true; the input reads as it did. -/
def chunkBackUptoRow : OpenClaim := { program := "ytalejedajkhkjaa", sum := "864bcb6bff561d29920d22e770a783765565166267c470a8fb978f85eb1b5189", func := "incunable/incunablelaw06.ChunkBack", spec := "chunkBack", apart := false, narrowed := true }
def ChunkBackUptoSaid : Prop := chunkBackUptoRow.holds Try.pinned (OpenSpec.upto chunkBackSpec)

/-- 'incunablelaw06.ChunkAll', WHERE WHAT IT READS IS OF BULK AT MOST 1048576: true; the input reads as it did. -/
def chunkAllUptoRow : OpenClaim := { program := "ytalejedajkhkjaa", sum := "864bcb6bff561d29920d22e770a783765565166267c470a8fb978f85eb1b5189", func := "incunable/incunablelaw06.ChunkAll", spec := "chunkAll", unfollowed := true, recurses := true, apart := false, narrowed := true }
def ChunkAllUptoSaid : Prop := chunkAllUptoRow.holds Try.pinned (OpenSpec.upto chunkAllSpec)

/-- 'incunablelaw06.ChunkPieces', WHERE WHAT IT READS IS OF BULK AT MOST 1048576: true; the input reads as it did. -/
def chunkPiecesUptoRow : OpenClaim := { program := "ytalejedajkhkjaa", sum := "864bcb6bff561d29920d22e770a783765565166267c470a8fb978f85eb1b5189", func := "incunable/incunablelaw06.ChunkPieces", spec := "chunkPieces", unfollowed := true, recurses := true, apart := false, narrowed := true }
def ChunkPiecesUptoSaid : Prop := chunkPiecesUptoRow.holds Try.pinned (OpenSpec.upto chunkPiecesSpec)

end Rows
end Go.Proofs.Ytalejedajkhkjaa
