/-
  No cell of these rows narrows 'for every input' (looked for: loops, veiled, ifaces, maps, wideKeys, modest, calm, conditions, laid).
  DERIVED. THE GIVEN ROWS OF THIS SEAT. 9 by the template 'for every input the law returns true; each argument reads behind the call as it read before'; 0 by the template 'total and deterministic' (their statements: YtmehbabchakkpaaTotals.lean).
  GIVEN WITH THE SEED: the statements are not yours to turn. If you find one false, say at which input.
  Laid BY PROGRAM, IN A SANDBOX (cutbox-rows.mjs): the forced cells as the released guide's own fill.sh prints them over the translation 0b38d0fd0a5aa05c… (all of the seat's roots in one cut). By AI agents, Wed Nov 11 2026. No macro, syntax, notation, axiom, sorry.
-/
import Derived.Test.YtmehbabchakkpaaChecked
import GoSem.Claim
import GoSem.ClaimJoined
import GoSem.ClaimMapViews
import Derived.JoinedTies
import Derived.KernelRfl
namespace Go.Proofs.Ytmehbabchakkpaa
/- THE CELL 'sum', in the pinned program and in every row, IS THE sha256 OF THE DUMP (.gsa) THAT YtmehbabchakkpaaProg.lean LOADS. Nothing in Lean hashes anything: it is a label: what it is worth is what the hold of that sum in a sandbox is worth. -/
noncomputable def Try.pinned : Pinned := { name := "ytmehbabchakkpaa", sum := "0b38d0fd0a5aa05c05da92379e53f757634710423168458484988c5b3e9edd62", checked := Try.checked }
namespace Rows
def none {H : Type} : Left H := { results := [], args := [] }

/-- 'incunablelaw08.PageEncodes': WHATEVER THE INPUT: true; the input reads as it did. -/
def pageEncodesSpec : ChangeSpec := { name := "pageEncodes", fn := fun _ => fun
  | [d1, d2, d3] => { results := [.lit (.bool true)], args := [d1, d2, d3] }
  | _ => none }
def pageEncodesRow : OpenClaim := { program := "ytmehbabchakkpaa", sum := "0b38d0fd0a5aa05c05da92379e53f757634710423168458484988c5b3e9edd62", func := "incunable/incunablelaw08.PageEncodes", spec := "pageEncodes", apart := false }
def PageEncodesSaid : Prop := pageEncodesRow.holds Try.pinned (OpenSpec.ofChange pageEncodesSpec)

/-- ITS FALSE NEIGHBOUR: 'it returns false'. Refute it at one input. -/
def pageEncodesWrong : ChangeSpec := { name := "pageEncodes", fn := fun _ => fun
  | [d1, d2, d3] => { results := [.lit (.bool false)], args := [d1, d2, d3] }
  | _ => none }
def PageEncodesWrongFalsely : Prop := pageEncodesRow.holds Try.pinned (OpenSpec.ofChange pageEncodesWrong)

/-- 'incunablelaw09.LadderClimbs': WHATEVER THE INPUT: true; the input reads as it did. -/
def ladderClimbsSpec : ChangeSpec := { name := "ladderClimbs", fn := fun _ => fun
  | [d1, d2] => { results := [.lit (.bool true)], args := [d1, d2] }
  | _ => none }
def ladderClimbsRow : OpenClaim := { program := "ytmehbabchakkpaa", sum := "0b38d0fd0a5aa05c05da92379e53f757634710423168458484988c5b3e9edd62", func := "incunable/incunablelaw09.LadderClimbs", spec := "ladderClimbs", unfollowed := true, recurses := true, apart := false }
def LadderClimbsSaid : Prop := ladderClimbsRow.holds Try.pinned (OpenSpec.ofChange ladderClimbsSpec)

/-- ITS FALSE NEIGHBOUR: 'it returns false'. Refute it at one input. -/
def ladderClimbsWrong : ChangeSpec := { name := "ladderClimbs", fn := fun _ => fun
  | [d1, d2] => { results := [.lit (.bool false)], args := [d1, d2] }
  | _ => none }
def LadderClimbsWrongFalsely : Prop := ladderClimbsRow.holds Try.pinned (OpenSpec.ofChange ladderClimbsWrong)

/-- 'incunablelaw09.LadderWalks': WHATEVER THE INPUT: true; the input reads as it did. -/
def ladderWalksSpec : ChangeSpec := { name := "ladderWalks", fn := fun _ => fun
  | [d1, d2, d3] => { results := [.lit (.bool true)], args := [d1, d2, d3] }
  | _ => none }
def ladderWalksRow : OpenClaim := { program := "ytmehbabchakkpaa", sum := "0b38d0fd0a5aa05c05da92379e53f757634710423168458484988c5b3e9edd62", func := "incunable/incunablelaw09.LadderWalks", spec := "ladderWalks", unfollowed := true, recurses := true, apart := false }
def LadderWalksSaid : Prop := ladderWalksRow.holds Try.pinned (OpenSpec.ofChange ladderWalksSpec)

/-- ITS FALSE NEIGHBOUR: 'it returns false'. Refute it at one input. -/
def ladderWalksWrong : ChangeSpec := { name := "ladderWalks", fn := fun _ => fun
  | [d1, d2, d3] => { results := [.lit (.bool false)], args := [d1, d2, d3] }
  | _ => none }
def LadderWalksWrongFalsely : Prop := ladderWalksRow.holds Try.pinned (OpenSpec.ofChange ladderWalksWrong)

/-- 'incunablelaw09.LadderFits': WHATEVER THE INPUT: true; the input reads as it did. -/
def ladderFitsSpec : ChangeSpec := { name := "ladderFits", fn := fun _ => fun
  | [d1, d2, d3] => { results := [.lit (.bool true)], args := [d1, d2, d3] }
  | _ => none }
def ladderFitsRow : OpenClaim := { program := "ytmehbabchakkpaa", sum := "0b38d0fd0a5aa05c05da92379e53f757634710423168458484988c5b3e9edd62", func := "incunable/incunablelaw09.LadderFits", spec := "ladderFits", unfollowed := true, recurses := true, apart := false }
def LadderFitsSaid : Prop := ladderFitsRow.holds Try.pinned (OpenSpec.ofChange ladderFitsSpec)

/-- ITS FALSE NEIGHBOUR: 'it returns false'. Refute it at one input. -/
def ladderFitsWrong : ChangeSpec := { name := "ladderFits", fn := fun _ => fun
  | [d1, d2, d3] => { results := [.lit (.bool false)], args := [d1, d2, d3] }
  | _ => none }
def LadderFitsWrongFalsely : Prop := ladderFitsRow.holds Try.pinned (OpenSpec.ofChange ladderFitsWrong)

/-- 'incunablelaw09.LadderSame': WHATEVER THE INPUT: true; the input reads as it did. -/
def ladderSameSpec : ChangeSpec := { name := "ladderSame", fn := fun _ => fun
  | [d1, d2, d3] => { results := [.lit (.bool true)], args := [d1, d2, d3] }
  | _ => none }
def ladderSameRow : OpenClaim := { program := "ytmehbabchakkpaa", sum := "0b38d0fd0a5aa05c05da92379e53f757634710423168458484988c5b3e9edd62", func := "incunable/incunablelaw09.LadderSame", spec := "ladderSame", unfollowed := true, recurses := true, apart := false }
def LadderSameSaid : Prop := ladderSameRow.holds Try.pinned (OpenSpec.ofChange ladderSameSpec)

/-- ITS FALSE NEIGHBOUR: 'it returns false'. Refute it at one input. -/
def ladderSameWrong : ChangeSpec := { name := "ladderSame", fn := fun _ => fun
  | [d1, d2, d3] => { results := [.lit (.bool false)], args := [d1, d2, d3] }
  | _ => none }
def LadderSameWrongFalsely : Prop := ladderSameRow.holds Try.pinned (OpenSpec.ofChange ladderSameWrong)

/-- 'incunablelaw08.PageDecodes': WHATEVER THE INPUT: true; the input reads as it did. -/
def pageDecodesSpec : ChangeSpec := { name := "pageDecodes", fn := fun _ => fun
  | [d1, d2] => { results := [.lit (.bool true)], args := [d1, d2] }
  | _ => none }
def pageDecodesRow : OpenClaim := { program := "ytmehbabchakkpaa", sum := "0b38d0fd0a5aa05c05da92379e53f757634710423168458484988c5b3e9edd62", func := "incunable/incunablelaw08.PageDecodes", spec := "pageDecodes", unfollowed := true, recurses := true, apart := false }
def PageDecodesSaid : Prop := pageDecodesRow.holds Try.pinned (OpenSpec.ofChange pageDecodesSpec)

/-- ITS FALSE NEIGHBOUR: 'it returns false'. Refute it at one input. -/
def pageDecodesWrong : ChangeSpec := { name := "pageDecodes", fn := fun _ => fun
  | [d1, d2] => { results := [.lit (.bool false)], args := [d1, d2] }
  | _ => none }
def PageDecodesWrongFalsely : Prop := pageDecodesRow.holds Try.pinned (OpenSpec.ofChange pageDecodesWrong)

/-- 'incunablelaw08.PageBack': WHATEVER THE INPUT: true; the input reads as it did. -/
def pageBackSpec : ChangeSpec := { name := "pageBack", fn := fun _ => fun
  | [d1, d2, d3] => { results := [.lit (.bool true)], args := [d1, d2, d3] }
  | _ => none }
def pageBackRow : OpenClaim := { program := "ytmehbabchakkpaa", sum := "0b38d0fd0a5aa05c05da92379e53f757634710423168458484988c5b3e9edd62", func := "incunable/incunablelaw08.PageBack", spec := "pageBack", unfollowed := true, recurses := true, apart := false }
def PageBackSaid : Prop := pageBackRow.holds Try.pinned (OpenSpec.ofChange pageBackSpec)

/-- ITS FALSE NEIGHBOUR: 'it returns false'. Refute it at one input. -/
def pageBackWrong : ChangeSpec := { name := "pageBack", fn := fun _ => fun
  | [d1, d2, d3] => { results := [.lit (.bool false)], args := [d1, d2, d3] }
  | _ => none }
def PageBackWrongFalsely : Prop := pageBackRow.holds Try.pinned (OpenSpec.ofChange pageBackWrong)

/-- 'incunablelaw08.PageMarks': WHATEVER THE INPUT: true; the input reads as it did. -/
def pageMarksSpec : ChangeSpec := { name := "pageMarks", fn := fun _ => fun
  | [d1, d2, d3] => { results := [.lit (.bool true)], args := [d1, d2, d3] }
  | _ => none }
def pageMarksRow : OpenClaim := { program := "ytmehbabchakkpaa", sum := "0b38d0fd0a5aa05c05da92379e53f757634710423168458484988c5b3e9edd62", func := "incunable/incunablelaw08.PageMarks", spec := "pageMarks", unfollowed := true, recurses := true, apart := false }
def PageMarksSaid : Prop := pageMarksRow.holds Try.pinned (OpenSpec.ofChange pageMarksSpec)

/-- ITS FALSE NEIGHBOUR: 'it returns false'. Refute it at one input. -/
def pageMarksWrong : ChangeSpec := { name := "pageMarks", fn := fun _ => fun
  | [d1, d2, d3] => { results := [.lit (.bool false)], args := [d1, d2, d3] }
  | _ => none }
def PageMarksWrongFalsely : Prop := pageMarksRow.holds Try.pinned (OpenSpec.ofChange pageMarksWrong)

/-- 'incunablelaw08.PageEmpty': WHATEVER THE INPUT: true; the input reads as it did. -/
def pageEmptySpec : ChangeSpec := { name := "pageEmpty", fn := fun _ => fun
  | [d1, d2, d3] => { results := [.lit (.bool true)], args := [d1, d2, d3] }
  | _ => none }
def pageEmptyRow : OpenClaim := { program := "ytmehbabchakkpaa", sum := "0b38d0fd0a5aa05c05da92379e53f757634710423168458484988c5b3e9edd62", func := "incunable/incunablelaw08.PageEmpty", spec := "pageEmpty", unfollowed := true, recurses := true, apart := false }
def PageEmptySaid : Prop := pageEmptyRow.holds Try.pinned (OpenSpec.ofChange pageEmptySpec)

/-- ITS FALSE NEIGHBOUR: 'it returns false'. Refute it at one input. -/
def pageEmptyWrong : ChangeSpec := { name := "pageEmpty", fn := fun _ => fun
  | [d1, d2, d3] => { results := [.lit (.bool false)], args := [d1, d2, d3] }
  | _ => none }
def PageEmptyWrongFalsely : Prop := pageEmptyRow.holds Try.pinned (OpenSpec.ofChange pageEmptyWrong)

/- THE SECOND FORM. 'bulk': how many values and letters a reading holds, each counted each time it is reached (what is shared counts as often as it is met; a slice's spare places count too). A statement '..UptoSaid' is the law's where the arguments, and the package variables that the reading takes, are together of bulk at most 1048576: NARROWER than '..Said'. Prove '..Said' where nothing that the law and all that it calls make is longer than what came in: it says more and counts as full. Else prove '..UptoSaid'. A law counts once. -/
mutual
def uptoBulk {H : Type} : DataW H → Nat
  | .lit (.string bytes) => bytes.length + 1
  | .lit _ => 1
  | .nil => 1
  | .ptr d => uptoBulk d + 1
  | .slice elems spare => uptoBulkAll elems + uptoBulkAll spare + 1
  | .agg parts => uptoBulkAll parts + 1
  | .iface _ d => uptoBulk d + 1
  | .map entries => uptoBulkEntries entries + 1
  | .held _ => 1
def uptoBulkAll {H : Type} : List (DataW H) → Nat
  | [] => 0
  | d :: r => uptoBulk d + uptoBulkAll r
def uptoBulkEntries {H : Type} : List (Lit × DataW H) → Nat
  | [] => 0
  | x :: r => uptoBulkEntry x + uptoBulkEntries r
def uptoBulkEntry {H : Type} : Lit × DataW H → Nat
  | (.string bytes, d) => bytes.length + uptoBulk d + 1
  | (_, d) => uptoBulk d + 1
 end
def uptoSmall : (H : Type) → List (DataW H) → Bool := fun _ ds => decide (uptoBulkAll ds ≤ 1048576)
def OpenSpec.upto (s : _root_.Go.ChangeSpec) : _root_.Go.OpenSpec := { _root_.Go.OpenSpec.ofChange s with cond := some uptoSmall }

/-- 'incunablelaw08.PageEncodes', WHERE WHAT IT READS IS OF BULK AT MOST 1048576: true; the input reads as it did. -/
def pageEncodesUptoRow : OpenClaim := { program := "ytmehbabchakkpaa", sum := "0b38d0fd0a5aa05c05da92379e53f757634710423168458484988c5b3e9edd62", func := "incunable/incunablelaw08.PageEncodes", spec := "pageEncodes", apart := false, narrowed := true }
def PageEncodesUptoSaid : Prop := pageEncodesUptoRow.holds Try.pinned (OpenSpec.upto pageEncodesSpec)

/-- 'incunablelaw09.LadderClimbs', WHERE WHAT IT READS IS OF BULK AT MOST 1048576: true; the input reads as it did. -/
def ladderClimbsUptoRow : OpenClaim := { program := "ytmehbabchakkpaa", sum := "0b38d0fd0a5aa05c05da92379e53f757634710423168458484988c5b3e9edd62", func := "incunable/incunablelaw09.LadderClimbs", spec := "ladderClimbs", unfollowed := true, recurses := true, apart := false, narrowed := true }
def LadderClimbsUptoSaid : Prop := ladderClimbsUptoRow.holds Try.pinned (OpenSpec.upto ladderClimbsSpec)

/-- 'incunablelaw09.LadderWalks', WHERE WHAT IT READS IS OF BULK AT MOST 1048576: true; the input reads as it did. -/
def ladderWalksUptoRow : OpenClaim := { program := "ytmehbabchakkpaa", sum := "0b38d0fd0a5aa05c05da92379e53f757634710423168458484988c5b3e9edd62", func := "incunable/incunablelaw09.LadderWalks", spec := "ladderWalks", unfollowed := true, recurses := true, apart := false, narrowed := true }
def LadderWalksUptoSaid : Prop := ladderWalksUptoRow.holds Try.pinned (OpenSpec.upto ladderWalksSpec)

/-- 'incunablelaw09.LadderFits', WHERE WHAT IT READS IS OF BULK AT MOST 1048576: true; the input reads as it did. -/
def ladderFitsUptoRow : OpenClaim := { program := "ytmehbabchakkpaa", sum := "0b38d0fd0a5aa05c05da92379e53f757634710423168458484988c5b3e9edd62", func := "incunable/incunablelaw09.LadderFits", spec := "ladderFits", unfollowed := true, recurses := true, apart := false, narrowed := true }
def LadderFitsUptoSaid : Prop := ladderFitsUptoRow.holds Try.pinned (OpenSpec.upto ladderFitsSpec)

/-- 'incunablelaw09.LadderSame', WHERE WHAT IT READS IS OF BULK AT MOST 1048576: true; the input reads as it did. -/
def ladderSameUptoRow : OpenClaim := { program := "ytmehbabchakkpaa", sum := "0b38d0fd0a5aa05c05da92379e53f757634710423168458484988c5b3e9edd62", func := "incunable/incunablelaw09.LadderSame", spec := "ladderSame", unfollowed := true, recurses := true, apart := false, narrowed := true }
def LadderSameUptoSaid : Prop := ladderSameUptoRow.holds Try.pinned (OpenSpec.upto ladderSameSpec)

/-- 'incunablelaw08.PageDecodes', WHERE WHAT IT READS IS OF BULK AT MOST 1048576: true; the input reads as it did. -/
def pageDecodesUptoRow : OpenClaim := { program := "ytmehbabchakkpaa", sum := "0b38d0fd0a5aa05c05da92379e53f757634710423168458484988c5b3e9edd62", func := "incunable/incunablelaw08.PageDecodes", spec := "pageDecodes", unfollowed := true, recurses := true, apart := false, narrowed := true }
def PageDecodesUptoSaid : Prop := pageDecodesUptoRow.holds Try.pinned (OpenSpec.upto pageDecodesSpec)

/-- 'incunablelaw08.PageBack', WHERE WHAT IT READS IS OF BULK AT MOST 1048576: true; the input reads as it did. -/
def pageBackUptoRow : OpenClaim := { program := "ytmehbabchakkpaa", sum := "0b38d0fd0a5aa05c05da92379e53f757634710423168458484988c5b3e9edd62", func := "incunable/incunablelaw08.PageBack", spec := "pageBack", unfollowed := true, recurses := true, apart := false, narrowed := true }
def PageBackUptoSaid : Prop := pageBackUptoRow.holds Try.pinned (OpenSpec.upto pageBackSpec)

/-- 'incunablelaw08.PageMarks', WHERE WHAT IT READS IS OF BULK AT MOST 1048576: true; the input reads as it did. -/
def pageMarksUptoRow : OpenClaim := { program := "ytmehbabchakkpaa", sum := "0b38d0fd0a5aa05c05da92379e53f757634710423168458484988c5b3e9edd62", func := "incunable/incunablelaw08.PageMarks", spec := "pageMarks", unfollowed := true, recurses := true, apart := false, narrowed := true }
def PageMarksUptoSaid : Prop := pageMarksUptoRow.holds Try.pinned (OpenSpec.upto pageMarksSpec)

/-- 'incunablelaw08.PageEmpty', WHERE WHAT IT READS IS OF BULK AT MOST 1048576: true; the input reads as it did. -/
def pageEmptyUptoRow : OpenClaim := { program := "ytmehbabchakkpaa", sum := "0b38d0fd0a5aa05c05da92379e53f757634710423168458484988c5b3e9edd62", func := "incunable/incunablelaw08.PageEmpty", spec := "pageEmpty", unfollowed := true, recurses := true, apart := false, narrowed := true }
def PageEmptyUptoSaid : Prop := pageEmptyUptoRow.holds Try.pinned (OpenSpec.upto pageEmptySpec)

end Rows
end Go.Proofs.Ytmehbabchakkpaa
