/-
  No cell of these rows narrows 'for every input' (looked for: loops, veiled, ifaces, maps, wideKeys, modest, calm, conditions, laid).
  DERIVED. THE GIVEN ROWS OF THIS SEAT. 3 by the template 'for every input the law returns true; each argument reads behind the call as it read before'; 0 by the template 'total and deterministic' (their statements: YtlhjnhjghjdeeaaTotals.lean).
  GIVEN WITH THE SEED: the statements are not yours to turn. If you find one false, say at which input.
  Laid BY PROGRAM, IN A SANDBOX (cutbox-rows.mjs): the forced cells as the released guide's own fill.sh prints them over the translation 272410435987a358… (all of the seat's roots in one cut). By AI agents, Wed Nov 11 2026. No macro, syntax, notation, axiom, sorry.
-/
import Derived.Test.YtlhjnhjghjdeeaaChecked
import GoSem.Claim
import GoSem.ClaimJoined
import GoSem.ClaimMapViews
import Derived.JoinedTies
import Derived.KernelRfl
namespace Go.Proofs.Ytlhjnhjghjdeeaa
/- THE CELL 'sum', in the pinned program and in every row, IS THE sha256 OF THE DUMP (.gsa) THAT YtlhjnhjghjdeeaaProg.lean LOADS. Nothing in Lean hashes anything: it is a label: what it is worth is what the hold of that sum in a sandbox is worth. -/
noncomputable def Try.pinned : Pinned := { name := "ytlhjnhjghjdeeaa", sum := "272410435987a3589140ef2d5d357d2045b25ecf70bfbd22c891fb5d24f27a7b", checked := Try.checked }
namespace Rows
def none {H : Type} : Left H := { results := [], args := [] }

/-- 'incunablelaw13.ArrayTwice': WHATEVER THE INPUT: true; the input reads as it did. -/
def arrayTwiceSpec : ChangeSpec := { name := "arrayTwice", fn := fun _ => fun
  | [d1, d2, d3] => { results := [.lit (.bool true)], args := [d1, d2, d3] }
  | _ => none }
def arrayTwiceRow : OpenClaim := { program := "ytlhjnhjghjdeeaa", sum := "272410435987a3589140ef2d5d357d2045b25ecf70bfbd22c891fb5d24f27a7b", func := "incunable/incunablelaw13.ArrayTwice", spec := "arrayTwice", unfollowed := true, recurses := true, apart := false }
def ArrayTwiceSaid : Prop := arrayTwiceRow.holds Try.pinned (OpenSpec.ofChange arrayTwiceSpec)

/-- ITS FALSE NEIGHBOUR: 'it returns false'. Refute it at one input. -/
def arrayTwiceWrong : ChangeSpec := { name := "arrayTwice", fn := fun _ => fun
  | [d1, d2, d3] => { results := [.lit (.bool false)], args := [d1, d2, d3] }
  | _ => none }
def ArrayTwiceWrongFalsely : Prop := arrayTwiceRow.holds Try.pinned (OpenSpec.ofChange arrayTwiceWrong)

/-- 'incunablelaw13.ArrayPlays': WHATEVER THE INPUT: true; the input reads as it did. -/
def arrayPlaysSpec : ChangeSpec := { name := "arrayPlays", fn := fun _ => fun
  | [d1, d2, d3] => { results := [.lit (.bool true)], args := [d1, d2, d3] }
  | _ => none }
def arrayPlaysRow : OpenClaim := { program := "ytlhjnhjghjdeeaa", sum := "272410435987a3589140ef2d5d357d2045b25ecf70bfbd22c891fb5d24f27a7b", func := "incunable/incunablelaw13.ArrayPlays", spec := "arrayPlays", unfollowed := true, recurses := true, apart := false }
def ArrayPlaysSaid : Prop := arrayPlaysRow.holds Try.pinned (OpenSpec.ofChange arrayPlaysSpec)

/-- ITS FALSE NEIGHBOUR: 'it returns false'. Refute it at one input. -/
def arrayPlaysWrong : ChangeSpec := { name := "arrayPlays", fn := fun _ => fun
  | [d1, d2, d3] => { results := [.lit (.bool false)], args := [d1, d2, d3] }
  | _ => none }
def ArrayPlaysWrongFalsely : Prop := arrayPlaysRow.holds Try.pinned (OpenSpec.ofChange arrayPlaysWrong)

/-- 'incunablelaw13.ArrayFits': WHATEVER THE INPUT: true; the input reads as it did. -/
def arrayFitsSpec : ChangeSpec := { name := "arrayFits", fn := fun _ => fun
  | [d1, d2, d3] => { results := [.lit (.bool true)], args := [d1, d2, d3] }
  | _ => none }
def arrayFitsRow : OpenClaim := { program := "ytlhjnhjghjdeeaa", sum := "272410435987a3589140ef2d5d357d2045b25ecf70bfbd22c891fb5d24f27a7b", func := "incunable/incunablelaw13.ArrayFits", spec := "arrayFits", unfollowed := true, recurses := true, apart := false }
def ArrayFitsSaid : Prop := arrayFitsRow.holds Try.pinned (OpenSpec.ofChange arrayFitsSpec)

/-- ITS FALSE NEIGHBOUR: 'it returns false'. Refute it at one input. -/
def arrayFitsWrong : ChangeSpec := { name := "arrayFits", fn := fun _ => fun
  | [d1, d2, d3] => { results := [.lit (.bool false)], args := [d1, d2, d3] }
  | _ => none }
def ArrayFitsWrongFalsely : Prop := arrayFitsRow.holds Try.pinned (OpenSpec.ofChange arrayFitsWrong)

/- THE SECOND FORM. 'bulk': how many values and letters a reading holds, each counted each time it is reached (what is shared counts as often as it is met; a slice's spare places count too). A statement '..UptoSaid' is the law's where the arguments, and the package variables that the reading takes, are together of bulk at most 1048576: NARROWER than '..Said'. Prove '..Said' where nothing that the law and all that it calls make is longer than what came in: it says more and counts as full. Else prove '..UptoSaid'. A law counts once. -/
mutual
def uptoBulk {H : Type} : DataW H → Nat
  | .lit (.string bytes) => bytes.length + 1
  | .lit _ => 1
  | .nil => 1
  | .ptr d => uptoBulk d + 1
  | .slice elems spare => uptoBulkAll elems + uptoBulkAll spare + 1
  | .agg parts => uptoBulkAll parts + 1
  | .iface _ d => uptoBulk d + 1
  | .map entries => uptoBulkEntries entries + 1
  | .held _ => 1
def uptoBulkAll {H : Type} : List (DataW H) → Nat
  | [] => 0
  | d :: r => uptoBulk d + uptoBulkAll r
def uptoBulkEntries {H : Type} : List (Lit × DataW H) → Nat
  | [] => 0
  | x :: r => uptoBulkEntry x + uptoBulkEntries r
def uptoBulkEntry {H : Type} : Lit × DataW H → Nat
  | (.string bytes, d) => bytes.length + uptoBulk d + 1
  | (_, d) => uptoBulk d + 1
 end
def uptoSmall : (H : Type) → List (DataW H) → Bool := fun _ ds => decide (uptoBulkAll ds ≤ 1048576)
def OpenSpec.upto (s : _root_.Go.ChangeSpec) : _root_.Go.OpenSpec := { _root_.Go.OpenSpec.ofChange s with cond := some uptoSmall }

/-- 'incunablelaw13.ArrayTwice', WHERE WHAT IT READS IS OF BULK AT MOST 1048576: true; the input reads as it did. -/
def arrayTwiceUptoRow : OpenClaim := { program := "ytlhjnhjghjdeeaa", sum := "272410435987a3589140ef2d5d357d2045b25ecf70bfbd22c891fb5d24f27a7b", func := "incunable/incunablelaw13.ArrayTwice", spec := "arrayTwice", unfollowed := true, recurses := true, apart := false, narrowed := true }
def ArrayTwiceUptoSaid : Prop := arrayTwiceUptoRow.holds Try.pinned (OpenSpec.upto arrayTwiceSpec)

/-- 'incunablelaw13.ArrayPlays', WHERE WHAT IT READS IS OF BULK AT MOST 1048576: true; the input reads as it did. -/
def arrayPlaysUptoRow : OpenClaim := { program := "ytlhjnhjghjdeeaa", sum := "272410435987a3589140ef2d5d357d2045b25ecf70bfbd22c891fb5d24f27a7b", func := "incunable/incunablelaw13.ArrayPlays", spec := "arrayPlays", unfollowed := true, recurses := true, apart := false, narrowed := true }
def ArrayPlaysUptoSaid : Prop := arrayPlaysUptoRow.holds Try.pinned (OpenSpec.upto arrayPlaysSpec)

/-- 'incunablelaw13.ArrayFits', WHERE WHAT IT READS IS OF BULK AT MOST 1048576: true; the input reads as it did. -/
def arrayFitsUptoRow : OpenClaim := { program := "ytlhjnhjghjdeeaa", sum := "272410435987a3589140ef2d5d357d2045b25ecf70bfbd22c891fb5d24f27a7b", func := "incunable/incunablelaw13.ArrayFits", spec := "arrayFits", unfollowed := true, recurses := true, apart := false, narrowed := true }
def ArrayFitsUptoSaid : Prop := arrayFitsUptoRow.holds Try.pinned (OpenSpec.upto arrayFitsSpec)

end Rows
end Go.Proofs.Ytlhjnhjghjdeeaa
