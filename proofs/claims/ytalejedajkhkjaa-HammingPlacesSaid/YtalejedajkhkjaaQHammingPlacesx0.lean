-- Written by my program pp.py for this claim
import Derived.Test.YtalejedajkhkjaaProg
import Derived.Below
import Derived.Deep.Draws
import Derived.Deep.AppendLies
import Derived.Maps.AppendAt
import Derived.OwnWalk
import Derived.Laws.BytesArg
import Derived.Laws.MakeOwn
import Derived.Laws.OwnMore
import Derived.Deep.OwnRows
import Derived.Tactics
import Derived.Lib.ConvBytes
import Derived.Laws.Slices
import Derived.WalkKit
import Derived.KernelRfl
import Derived.RowKit3
import Derived.Deep.LoopGhost
import Derived.Deep.QuietTactic
import Derived.BigQuiet
import Derived.WideLaws
import Derived.Deep.DeepCutAuto
import Derived.Deep.CutBlock
import Derived.Deep.RegionHeld3
import Derived.Laws.Rows
import Derived.Lib.AppendStr
import Derived.ArgAppend
import Derived.Laws.IdiomCopy
import Derived.OrdersHeld
import Derived.Laws.BitsLemmas
import Derived.RowKit
import Derived.WalkSpells
import Derived.Lib.SliceRun
import Derived.Lib.BufferMore
import Derived.Test.YtalejedajkhkjaaWWords
import Derived.Test.YtalejedajkhkjaaWLast
import Derived.Test.YtalejedajkhkjaaWTab
import Derived.Test.YtalejedajkhkjaaWFour
import Derived.Test.YtalejedajkhkjaaWQPut
import Derived.Test.YtalejedajkhkjaaWApart
import Derived.Test.YtalejedajkhkjaaWArr
import Derived.Test.YtalejedajkhkjaaWZeros
import Derived.Test.YtalejedajkhkjaaWFoot
import Derived.Test.YtalejedajkhkjaaWKept
import Derived.Test.YtalejedajkhkjaaWShare
import Derived.Test.YtalejedajkhkjaaWN
import Derived.Test.YtalejedajkhkjaaWFootNe
import Derived.Test.YtalejedajkhkjaaWAt
import Derived.Test.YtalejedajkhkjaaWEqStruct
import Derived.Test.YtalejedajkhkjaaWRepsOne
import Derived.Test.YtalejedajkhkjaaWInv
import Derived.Test.YtalejedajkhkjaaWInvWords
import Derived.Test.YtalejedajkhkjaaWGuard
import Derived.Test.YtalejedajkhkjaaWNEv
import Derived.Test.YtalejedajkhkjaaWMore
namespace Go.Proofs.Ytalejedajkhkjaa.QHammingPlaces
open Go.RowKit Go.Proofs.YtalejedajkhkjaaW.PrintWords Go.Proofs.YtalejedajkhkjaaW.PrintLast Go.Proofs.YtalejedajkhkjaaW.PrintMore
attribute [local go_sem] max2_int min2_int max_two min_two max_three min_three max_four min_four   -- for this text's walks alone
set_option linter.unusedVariables false
set_option linter.unusedSimpArgs false



def errW : Option Int → Value
  | none => .nilIface
  | some c => .iface 0 (.int .i64 c)
theorem errW_none : errW none = .nilIface := rfl
theorem errW_some (c : Int) : errW (some c) = .iface 0 (.int .i64 c) := rfl

theorem info3 : (Try.prog.info? 3).map (fun i => (i.zero, i.size, i.bytes)) = some (some (.int .i64 0), 1, 8) := by kernel_rfl
-- the values' own types

end Go.Proofs.Ytalejedajkhkjaa.QHammingPlaces
