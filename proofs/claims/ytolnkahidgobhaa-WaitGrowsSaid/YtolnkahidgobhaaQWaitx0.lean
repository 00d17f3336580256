/- Functions of the program as plain functions, and the walks that show it. Written by the session's own program pp.py. -/
import Derived.Test.YtolnkahidgobhaaProg
import Derived.Below
import Derived.Deep.Draws
import Derived.Deep.AppendLies
import Derived.Maps.AppendAt
import Derived.OwnWalk
import Derived.Laws.BytesArg
import Derived.Laws.MakeOwn
import Derived.Laws.OwnMore
import Derived.Deep.OwnRows
import Derived.Tactics
import Derived.Lib.ConvBytes
import Derived.Laws.Slices
import Derived.WalkKit
import Derived.KernelRfl
import Derived.RowKit3
import Derived.Deep.LoopGhost
import Derived.Deep.QuietTactic
import Derived.BigQuiet
import Derived.WideLaws
import Derived.Deep.DeepCutAuto
import Derived.Deep.CutBlock
import Derived.Deep.RegionHeld3
import Derived.Laws.Rows
import Derived.Lib.AppendStr
import Derived.ArgAppend
import Derived.Laws.IdiomCopy
import Derived.OrdersHeld
import Derived.Laws.BitsLemmas
import Derived.RowKit
import Derived.Test.YtolnkahidgobhaaWWords
import Derived.Test.YtolnkahidgobhaaWLast
import Derived.Test.YtolnkahidgobhaaWTab
import Derived.Test.YtolnkahidgobhaaWFour
import Derived.Test.YtolnkahidgobhaaWQPut
import Derived.Test.YtolnkahidgobhaaWApart
import Derived.Test.YtolnkahidgobhaaWArr
import Derived.Test.YtolnkahidgobhaaWZeros
import Derived.Test.YtolnkahidgobhaaWFoot
import Derived.Test.YtolnkahidgobhaaWKept
import Derived.Test.YtolnkahidgobhaaWShare
import Derived.Test.YtolnkahidgobhaaWN
import Derived.Test.YtolnkahidgobhaaWFootNe
import Derived.Test.YtolnkahidgobhaaWAt
import Derived.Test.YtolnkahidgobhaaWEqStruct
import Derived.Test.YtolnkahidgobhaaWRepsOne
import Derived.Test.YtolnkahidgobhaaWInv
import Derived.Test.YtolnkahidgobhaaWInvWords
import Derived.Test.YtolnkahidgobhaaWGuard
import Derived.Test.YtolnkahidgobhaaWNEv
import Derived.Test.YtolnkahidgobhaaWMore
namespace Go.Proofs.Ytolnkahidgobhaa.QWait
open Go.RowKit Go.Proofs.YtolnkahidgobhaaW.PrintWords Go.Proofs.YtolnkahidgobhaaW.PrintLast Go.Proofs.YtolnkahidgobhaaW.PrintMore
attribute [local go_sem] max2_int min2_int max_two min_two max_three min_three max_four min_four   -- for this text's walks alone
set_option linter.unusedVariables false
set_option linter.unusedSimpArgs false



def errW : Option Int → Value
  | none => .nilIface
  | some c => .iface 0 (.int .i64 c)
theorem errW_none : errW none = .nilIface := rfl
theorem errW_some (c : Int) : errW (some c) = .iface 0 (.int .i64 c) := rfl

-- the values' own types

end Go.Proofs.Ytolnkahidgobhaa.QWait
