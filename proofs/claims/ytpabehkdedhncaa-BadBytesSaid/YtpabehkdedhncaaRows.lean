/-
  No cell of these rows narrows 'for every input' (looked for: loops, veiled, ifaces, maps, wideKeys, modest, calm, conditions, laid).
  DERIVED. THE GIVEN ROWS OF THIS SEAT. 11 by the template 'for every input the law returns true; each argument reads behind the call as it read before'; 0 by the template 'total and deterministic' (their statements: YtpabehkdedhncaaTotals.lean).
  GIVEN WITH THE SEED: the statements are not yours to turn. If you find one false, say at which input.
  Laid BY PROGRAM, IN A SANDBOX (cutbox-rows.mjs): the forced cells as the released guide's own fill.sh prints them over the translation f350cae1fa33874e… (all of the seat's roots in one cut). By AI agents, Wed Nov 11 2026. No macro, syntax, notation, axiom, sorry.
-/
import Derived.Test.YtpabehkdedhncaaChecked
import GoSem.Claim
import GoSem.ClaimJoined
import GoSem.ClaimMapViews
import Derived.JoinedTies
import Derived.KernelRfl
namespace Go.Proofs.Ytpabehkdedhncaa
/- THE CELL 'sum', in the pinned program and in every row, IS THE sha256 OF THE DUMP (.gsa) THAT YtpabehkdedhncaaProg.lean LOADS. Nothing in Lean hashes anything: it is a label: what it is worth is what the hold of that sum in a sandbox is worth. -/
noncomputable def Try.pinned : Pinned := { name := "ytpabehkdedhncaa", sum := "f350cae1fa33874ea013036a46eb7fe21988faf514f93c800b90d1f0d5d17c0c", checked := Try.checked }
namespace Rows
def none {H : Type} : Left H := { results := [], args := [] }

/-- 'incunablelaw25.BadJoins': WHATEVER THE INPUT: true; the input reads as it did. -/
def badJoinsSpec : ChangeSpec := { name := "badJoins", fn := fun _ => fun
  | [d1, d2, d3] => { results := [.lit (.bool true)], args := [d1, d2, d3] }
  | _ => none }
def badJoinsRow : OpenClaim := { program := "ytpabehkdedhncaa", sum := "f350cae1fa33874ea013036a46eb7fe21988faf514f93c800b90d1f0d5d17c0c", func := "incunable/incunablelaw25.BadJoins", spec := "badJoins", apart := false }
def BadJoinsSaid : Prop := badJoinsRow.holds Try.pinned (OpenSpec.ofChange badJoinsSpec)

/-- ITS FALSE NEIGHBOUR: 'it returns false'. Refute it at one input. -/
def badJoinsWrong : ChangeSpec := { name := "badJoins", fn := fun _ => fun
  | [d1, d2, d3] => { results := [.lit (.bool false)], args := [d1, d2, d3] }
  | _ => none }
def BadJoinsWrongFalsely : Prop := badJoinsRow.holds Try.pinned (OpenSpec.ofChange badJoinsWrong)

/-- 'incunablelaw07.TagLatest': WHATEVER THE INPUT: true; the input reads as it did. -/
def tagLatestSpec : ChangeSpec := { name := "tagLatest", fn := fun _ => fun
  | [d] => { results := [.lit (.bool true)], args := [d] }
  | _ => none }
def tagLatestRow : OpenClaim := { program := "ytpabehkdedhncaa", sum := "f350cae1fa33874ea013036a46eb7fe21988faf514f93c800b90d1f0d5d17c0c", func := "incunable/incunablelaw07.TagLatest", spec := "tagLatest", apart := false }
def TagLatestSaid : Prop := tagLatestRow.holds Try.pinned (OpenSpec.ofChange tagLatestSpec)

/-- ITS FALSE NEIGHBOUR: 'it returns false'. Refute it at one input. -/
def tagLatestWrong : ChangeSpec := { name := "tagLatest", fn := fun _ => fun
  | [d] => { results := [.lit (.bool false)], args := [d] }
  | _ => none }
def TagLatestWrongFalsely : Prop := tagLatestRow.holds Try.pinned (OpenSpec.ofChange tagLatestWrong)

/-- 'incunablelaw07.TagParts': WHATEVER THE INPUT: true; the input reads as it did. -/
def tagPartsSpec : ChangeSpec := { name := "tagParts", fn := fun _ => fun
  | [d1, d2] => { results := [.lit (.bool true)], args := [d1, d2] }
  | _ => none }
def tagPartsRow : OpenClaim := { program := "ytpabehkdedhncaa", sum := "f350cae1fa33874ea013036a46eb7fe21988faf514f93c800b90d1f0d5d17c0c", func := "incunable/incunablelaw07.TagParts", spec := "tagParts", apart := false }
def TagPartsSaid : Prop := tagPartsRow.holds Try.pinned (OpenSpec.ofChange tagPartsSpec)

/-- ITS FALSE NEIGHBOUR: 'it returns false'. Refute it at one input. -/
def tagPartsWrong : ChangeSpec := { name := "tagParts", fn := fun _ => fun
  | [d1, d2] => { results := [.lit (.bool false)], args := [d1, d2] }
  | _ => none }
def TagPartsWrongFalsely : Prop := tagPartsRow.holds Try.pinned (OpenSpec.ofChange tagPartsWrong)

/-- 'incunablelaw10.CycleTexts': WHATEVER THE INPUT: true; the input reads as it did. -/
def cycleTextsSpec : ChangeSpec := { name := "cycleTexts", fn := fun _ => fun
  | [d1, d2, d3] => { results := [.lit (.bool true)], args := [d1, d2, d3] }
  | _ => none }
def cycleTextsRow : OpenClaim := { program := "ytpabehkdedhncaa", sum := "f350cae1fa33874ea013036a46eb7fe21988faf514f93c800b90d1f0d5d17c0c", func := "incunable/incunablelaw10.CycleTexts", spec := "cycleTexts", inPlace := ["internal/abi.NoEscape"], apart := false }
def CycleTextsSaid : Prop := cycleTextsRow.holds Try.pinned (OpenSpec.ofChange cycleTextsSpec)

/-- ITS FALSE NEIGHBOUR: 'it returns false'. Refute it at one input. -/
def cycleTextsWrong : ChangeSpec := { name := "cycleTexts", fn := fun _ => fun
  | [d1, d2, d3] => { results := [.lit (.bool false)], args := [d1, d2, d3] }
  | _ => none }
def CycleTextsWrongFalsely : Prop := cycleTextsRow.holds Try.pinned (OpenSpec.ofChange cycleTextsWrong)

/-- 'incunablelaw10.CycleParses': WHATEVER THE INPUT: true; the input reads as it did. -/
def cycleParsesSpec : ChangeSpec := { name := "cycleParses", fn := fun _ => fun
  | [d] => { results := [.lit (.bool true)], args := [d] }
  | _ => none }
def cycleParsesRow : OpenClaim := { program := "ytpabehkdedhncaa", sum := "f350cae1fa33874ea013036a46eb7fe21988faf514f93c800b90d1f0d5d17c0c", func := "incunable/incunablelaw10.CycleParses", spec := "cycleParses", inPlace := ["internal/abi.NoEscape", "internal/bytealg.IndexByteString"], apart := false }
def CycleParsesSaid : Prop := cycleParsesRow.holds Try.pinned (OpenSpec.ofChange cycleParsesSpec)

/-- ITS FALSE NEIGHBOUR: 'it returns false'. Refute it at one input. -/
def cycleParsesWrong : ChangeSpec := { name := "cycleParses", fn := fun _ => fun
  | [d] => { results := [.lit (.bool false)], args := [d] }
  | _ => none }
def CycleParsesWrongFalsely : Prop := cycleParsesRow.holds Try.pinned (OpenSpec.ofChange cycleParsesWrong)

/-- 'incunablelaw10.CycleBack': WHATEVER THE INPUT: true; the input reads as it did. -/
def cycleBackSpec : ChangeSpec := { name := "cycleBack", fn := fun _ => fun
  | [d1, d2] => { results := [.lit (.bool true)], args := [d1, d2] }
  | _ => none }
def cycleBackRow : OpenClaim := { program := "ytpabehkdedhncaa", sum := "f350cae1fa33874ea013036a46eb7fe21988faf514f93c800b90d1f0d5d17c0c", func := "incunable/incunablelaw10.CycleBack", spec := "cycleBack", inPlace := ["internal/abi.NoEscape", "internal/bytealg.IndexByteString"], apart := false }
def CycleBackSaid : Prop := cycleBackRow.holds Try.pinned (OpenSpec.ofChange cycleBackSpec)

/-- ITS FALSE NEIGHBOUR: 'it returns false'. Refute it at one input. -/
def cycleBackWrong : ChangeSpec := { name := "cycleBack", fn := fun _ => fun
  | [d1, d2] => { results := [.lit (.bool false)], args := [d1, d2] }
  | _ => none }
def CycleBackWrongFalsely : Prop := cycleBackRow.holds Try.pinned (OpenSpec.ofChange cycleBackWrong)

/-- 'incunablelaw10.CycleParts': WHATEVER THE INPUT: true; the input reads as it did. -/
def cyclePartsSpec : ChangeSpec := { name := "cycleParts", fn := fun _ => fun
  | [d1, d2] => { results := [.lit (.bool true)], args := [d1, d2] }
  | _ => none }
def cyclePartsRow : OpenClaim := { program := "ytpabehkdedhncaa", sum := "f350cae1fa33874ea013036a46eb7fe21988faf514f93c800b90d1f0d5d17c0c", func := "incunable/incunablelaw10.CycleParts", spec := "cycleParts", inPlace := ["internal/abi.NoEscape", "internal/bytealg.IndexByteString"], apart := false }
def CyclePartsSaid : Prop := cyclePartsRow.holds Try.pinned (OpenSpec.ofChange cyclePartsSpec)

/-- ITS FALSE NEIGHBOUR: 'it returns false'. Refute it at one input. -/
def cyclePartsWrong : ChangeSpec := { name := "cycleParts", fn := fun _ => fun
  | [d1, d2] => { results := [.lit (.bool false)], args := [d1, d2] }
  | _ => none }
def CyclePartsWrongFalsely : Prop := cyclePartsRow.holds Try.pinned (OpenSpec.ofChange cyclePartsWrong)

/-- 'incunablelaw07.TagBytes': WHATEVER THE INPUT: true; the input reads as it did. -/
def tagBytesSpec : ChangeSpec := { name := "tagBytes", fn := fun _ => fun
  | [d1, d2] => { results := [.lit (.bool true)], args := [d1, d2] }
  | _ => none }
def tagBytesRow : OpenClaim := { program := "ytpabehkdedhncaa", sum := "f350cae1fa33874ea013036a46eb7fe21988faf514f93c800b90d1f0d5d17c0c", func := "incunable/incunablelaw07.TagBytes", spec := "tagBytes", apart := false }
def TagBytesSaid : Prop := tagBytesRow.holds Try.pinned (OpenSpec.ofChange tagBytesSpec)

/-- ITS FALSE NEIGHBOUR: 'it returns false'. Refute it at one input. -/
def tagBytesWrong : ChangeSpec := { name := "tagBytes", fn := fun _ => fun
  | [d1, d2] => { results := [.lit (.bool false)], args := [d1, d2] }
  | _ => none }
def TagBytesWrongFalsely : Prop := tagBytesRow.holds Try.pinned (OpenSpec.ofChange tagBytesWrong)

/-- 'incunablelaw07.TagBack': WHATEVER THE INPUT: true; the input reads as it did. -/
def tagBackSpec : ChangeSpec := { name := "tagBack", fn := fun _ => fun
  | [d1, d2] => { results := [.lit (.bool true)], args := [d1, d2] }
  | _ => none }
def tagBackRow : OpenClaim := { program := "ytpabehkdedhncaa", sum := "f350cae1fa33874ea013036a46eb7fe21988faf514f93c800b90d1f0d5d17c0c", func := "incunable/incunablelaw07.TagBack", spec := "tagBack", apart := false }
def TagBackSaid : Prop := tagBackRow.holds Try.pinned (OpenSpec.ofChange tagBackSpec)

/-- ITS FALSE NEIGHBOUR: 'it returns false'. Refute it at one input. -/
def tagBackWrong : ChangeSpec := { name := "tagBack", fn := fun _ => fun
  | [d1, d2] => { results := [.lit (.bool false)], args := [d1, d2] }
  | _ => none }
def TagBackWrongFalsely : Prop := tagBackRow.holds Try.pinned (OpenSpec.ofChange tagBackWrong)

/-- 'incunablelaw25.BadBytes': WHATEVER THE INPUT: true; the input reads as it did. -/
def badBytesSpec : ChangeSpec := { name := "badBytes", fn := fun _ => fun
  | [d1, d2] => { results := [.lit (.bool true)], args := [d1, d2] }
  | _ => none }
def badBytesRow : OpenClaim := { program := "ytpabehkdedhncaa", sum := "f350cae1fa33874ea013036a46eb7fe21988faf514f93c800b90d1f0d5d17c0c", func := "incunable/incunablelaw25.BadBytes", spec := "badBytes", apart := false }
def BadBytesSaid : Prop := badBytesRow.holds Try.pinned (OpenSpec.ofChange badBytesSpec)

/-- ITS FALSE NEIGHBOUR: 'it returns false'. Refute it at one input. -/
def badBytesWrong : ChangeSpec := { name := "badBytes", fn := fun _ => fun
  | [d1, d2] => { results := [.lit (.bool false)], args := [d1, d2] }
  | _ => none }
def BadBytesWrongFalsely : Prop := badBytesRow.holds Try.pinned (OpenSpec.ofChange badBytesWrong)

/-- 'incunablelaw25.BadBack': WHATEVER THE INPUT: true; the input reads as it did. -/
def badBackSpec : ChangeSpec := { name := "badBack", fn := fun _ => fun
  | [d1, d2, d3] => { results := [.lit (.bool true)], args := [d1, d2, d3] }
  | _ => none }
def badBackRow : OpenClaim := { program := "ytpabehkdedhncaa", sum := "f350cae1fa33874ea013036a46eb7fe21988faf514f93c800b90d1f0d5d17c0c", func := "incunable/incunablelaw25.BadBack", spec := "badBack", apart := false }
def BadBackSaid : Prop := badBackRow.holds Try.pinned (OpenSpec.ofChange badBackSpec)

/-- ITS FALSE NEIGHBOUR: 'it returns false'. Refute it at one input. -/
def badBackWrong : ChangeSpec := { name := "badBack", fn := fun _ => fun
  | [d1, d2, d3] => { results := [.lit (.bool false)], args := [d1, d2, d3] }
  | _ => none }
def BadBackWrongFalsely : Prop := badBackRow.holds Try.pinned (OpenSpec.ofChange badBackWrong)

/- THE SECOND FORM. 'bulk': how many values and letters a reading holds, each counted each time it is reached (what is shared counts as often as it is met; a slice's spare places count too). A statement '..UptoSaid' is the law's where the arguments, and the package variables that the reading takes, are together of bulk at most 1048576: NARROWER than '..Said'. Prove '..Said' where nothing that the law and all that it calls make is longer than what came in: it says more and counts as full. Else prove '..UptoSaid'. A law counts once. -/
mutual
def uptoBulk {H : Type} : DataW H → Nat
  | .lit (.string bytes) => bytes.length + 1
  | .lit _ => 1
  | .nil => 1
  | .ptr d => uptoBulk d + 1
  | .slice elems spare => uptoBulkAll elems + uptoBulkAll spare + 1
  | .agg parts => uptoBulkAll parts + 1
  | .iface _ d => uptoBulk d + 1
  | .map entries => uptoBulkEntries entries + 1
  | .held _ => 1
def uptoBulkAll {H : Type} : List (DataW H) → Nat
  | [] => 0
  | d :: r => uptoBulk d + uptoBulkAll r
def uptoBulkEntries {H : Type} : List (Lit × DataW H) → Nat
  | [] => 0
  | x :: r => uptoBulkEntry x + uptoBulkEntries r
def uptoBulkEntry {H : Type} : Lit × DataW H → Nat
  | (.string bytes, d) => bytes.length + uptoBulk d + 1
  | (_, d) => uptoBulk d + 1
 end
def uptoSmall : (H : Type) → List (DataW H) → Bool := fun _ ds => decide (uptoBulkAll ds ≤ 1048576)
def OpenSpec.upto (s : _root_.Go.ChangeSpec) : _root_.Go.OpenSpec := { _root_.Go.OpenSpec.ofChange s with cond := some uptoSmall }

/-- 'incunablelaw25.BadJoins', WHERE WHAT IT READS IS OF BULK AT MOST 1048576: true; the input reads as it did. -/
def badJoinsUptoRow : OpenClaim := { program := "ytpabehkdedhncaa", sum := "f350cae1fa33874ea013036a46eb7fe21988faf514f93c800b90d1f0d5d17c0c", func := "incunable/incunablelaw25.BadJoins", spec := "badJoins", apart := false, narrowed := true }
def BadJoinsUptoSaid : Prop := badJoinsUptoRow.holds Try.pinned (OpenSpec.upto badJoinsSpec)

/-- 'incunablelaw07.TagLatest', WHERE WHAT IT READS IS OF BULK AT MOST 1048576: true; the input reads as it did. -/
def tagLatestUptoRow : OpenClaim := { program := "ytpabehkdedhncaa", sum := "f350cae1fa33874ea013036a46eb7fe21988faf514f93c800b90d1f0d5d17c0c", func := "incunable/incunablelaw07.TagLatest", spec := "tagLatest", apart := false, narrowed := true }
def TagLatestUptoSaid : Prop := tagLatestUptoRow.holds Try.pinned (OpenSpec.upto tagLatestSpec)

/-- 'incunablelaw07.TagParts', WHERE WHAT IT READS IS OF BULK AT MOST 1048576: true; the input reads as it did. -/
def tagPartsUptoRow : OpenClaim := { program := "ytpabehkdedhncaa", sum := "f350cae1fa33874ea013036a46eb7fe21988faf514f93c800b90d1f0d5d17c0c", func := "incunable/incunablelaw07.TagParts", spec := "tagParts", apart := false, narrowed := true }
def TagPartsUptoSaid : Prop := tagPartsUptoRow.holds Try.pinned (OpenSpec.upto tagPartsSpec)

/-- 'incunablelaw10.CycleTexts', WHERE WHAT IT READS IS OF BULK AT MOST 1048576: true; the input reads as it did. -/
def cycleTextsUptoRow : OpenClaim := { program := "ytpabehkdedhncaa", sum := "f350cae1fa33874ea013036a46eb7fe21988faf514f93c800b90d1f0d5d17c0c", func := "incunable/incunablelaw10.CycleTexts", spec := "cycleTexts", inPlace := ["internal/abi.NoEscape"], apart := false, narrowed := true }
def CycleTextsUptoSaid : Prop := cycleTextsUptoRow.holds Try.pinned (OpenSpec.upto cycleTextsSpec)

/-- 'incunablelaw10.CycleParses', WHERE WHAT IT READS IS OF BULK AT MOST 1048576: true; the input reads as it did. -/
def cycleParsesUptoRow : OpenClaim := { program := "ytpabehkdedhncaa", sum := "f350cae1fa33874ea013036a46eb7fe21988faf514f93c800b90d1f0d5d17c0c", func := "incunable/incunablelaw10.CycleParses", spec := "cycleParses", inPlace := ["internal/abi.NoEscape", "internal/bytealg.IndexByteString"], apart := false, narrowed := true }
def CycleParsesUptoSaid : Prop := cycleParsesUptoRow.holds Try.pinned (OpenSpec.upto cycleParsesSpec)

/-- 'incunablelaw10.CycleBack', WHERE WHAT IT READS IS OF BULK AT MOST 1048576: true; the input reads as it did. -/
def cycleBackUptoRow : OpenClaim := { program := "ytpabehkdedhncaa", sum := "f350cae1fa33874ea013036a46eb7fe21988faf514f93c800b90d1f0d5d17c0c", func := "incunable/incunablelaw10.CycleBack", spec := "cycleBack", inPlace := ["internal/abi.NoEscape", "internal/bytealg.IndexByteString"], apart := false, narrowed := true }
def CycleBackUptoSaid : Prop := cycleBackUptoRow.holds Try.pinned (OpenSpec.upto cycleBackSpec)

/-- 'incunablelaw10.CycleParts', WHERE WHAT IT READS IS OF BULK AT MOST 1048576: true; the input reads as it did. -/
def cyclePartsUptoRow : OpenClaim := { program := "ytpabehkdedhncaa", sum := "f350cae1fa33874ea013036a46eb7fe21988faf514f93c800b90d1f0d5d17c0c", func := "incunable/incunablelaw10.CycleParts", spec := "cycleParts", inPlace := ["internal/abi.NoEscape", "internal/bytealg.IndexByteString"], apart := false, narrowed := true }
def CyclePartsUptoSaid : Prop := cyclePartsUptoRow.holds Try.pinned (OpenSpec.upto cyclePartsSpec)

/-- 'incunablelaw07.TagBytes', WHERE WHAT IT READS IS OF BULK AT MOST 1048576: true; the input reads as it did. -/
def tagBytesUptoRow : OpenClaim := { program := "ytpabehkdedhncaa", sum := "f350cae1fa33874ea013036a46eb7fe21988faf514f93c800b90d1f0d5d17c0c", func := "incunable/incunablelaw07.TagBytes", spec := "tagBytes", apart := false, narrowed := true }
def TagBytesUptoSaid : Prop := tagBytesUptoRow.holds Try.pinned (OpenSpec.upto tagBytesSpec)

/-- 'incunablelaw07.TagBack', WHERE WHAT IT READS IS OF BULK AT MOST 1048576: true; the input reads as it did. -/
def tagBackUptoRow : OpenClaim := { program := "ytpabehkdedhncaa", sum := "f350cae1fa33874ea013036a46eb7fe21988faf514f93c800b90d1f0d5d17c0c", func := "incunable/incunablelaw07.TagBack", spec := "tagBack", apart := false, narrowed := true }
def TagBackUptoSaid : Prop := tagBackUptoRow.holds Try.pinned (OpenSpec.upto tagBackSpec)

/-- 'incunablelaw25.BadBytes', WHERE WHAT IT READS IS OF BULK AT MOST 1048576: true; the input reads as it did. -/
def badBytesUptoRow : OpenClaim := { program := "ytpabehkdedhncaa", sum := "f350cae1fa33874ea013036a46eb7fe21988faf514f93c800b90d1f0d5d17c0c", func := "incunable/incunablelaw25.BadBytes", spec := "badBytes", apart := false, narrowed := true }
def BadBytesUptoSaid : Prop := badBytesUptoRow.holds Try.pinned (OpenSpec.upto badBytesSpec)

/-- 'incunablelaw25.BadBack', WHERE WHAT IT READS IS OF BULK AT MOST 1048576: true; the input reads as it did. -/
def badBackUptoRow : OpenClaim := { program := "ytpabehkdedhncaa", sum := "f350cae1fa33874ea013036a46eb7fe21988faf514f93c800b90d1f0d5d17c0c", func := "incunable/incunablelaw25.BadBack", spec := "badBack", apart := false, narrowed := true }
def BadBackUptoSaid : Prop := badBackUptoRow.holds Try.pinned (OpenSpec.upto badBackSpec)

end Rows
end Go.Proofs.Ytpabehkdedhncaa
