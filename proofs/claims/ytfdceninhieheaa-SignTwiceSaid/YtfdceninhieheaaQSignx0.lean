/- Functions of the program as plain functions, and the walks that show it. Written by the session's own program pp.py. -/
import Derived.Test.YtfdceninhieheaaProg
import Derived.Below
import Derived.Deep.Draws
import Derived.Deep.AppendLies
import Derived.Maps.AppendAt
import Derived.OwnWalk
import Derived.Laws.BytesArg
import Derived.Laws.MakeOwn
import Derived.Laws.OwnMore
import Derived.Deep.OwnRows
import Derived.Tactics
import Derived.Lib.ConvBytes
import Derived.Laws.Slices
import Derived.WalkKit
import Derived.KernelRfl
import Derived.RowKit3
import Derived.Deep.LoopGhost
import Derived.Deep.QuietTactic
import Derived.BigQuiet
import Derived.WideLaws
import Derived.Deep.DeepCutAuto
import Derived.Deep.CutBlock
import Derived.Deep.RegionHeld3
import Derived.Laws.Rows
import Derived.Lib.AppendStr
import Derived.ArgAppend
import Derived.Laws.IdiomCopy
import Derived.OrdersHeld
import Derived.Laws.BitsLemmas
import Derived.RowKit
import Derived.Test.YtfdceninhieheaaWWords
import Derived.Test.YtfdceninhieheaaWLast
import Derived.Test.YtfdceninhieheaaWTab
import Derived.Test.YtfdceninhieheaaWFour
import Derived.Test.YtfdceninhieheaaWQPut
import Derived.Test.YtfdceninhieheaaWApart
import Derived.Test.YtfdceninhieheaaWArr
import Derived.Test.YtfdceninhieheaaWZeros
import Derived.Test.YtfdceninhieheaaWFoot
import Derived.Test.YtfdceninhieheaaWKept
import Derived.Test.YtfdceninhieheaaWShare
import Derived.Test.YtfdceninhieheaaWN
import Derived.Test.YtfdceninhieheaaWFootNe
import Derived.Test.YtfdceninhieheaaWAt
import Derived.Test.YtfdceninhieheaaWEqStruct
import Derived.Test.YtfdceninhieheaaWRepsOne
import Derived.Test.YtfdceninhieheaaWInv
import Derived.Test.YtfdceninhieheaaWInvWords
import Derived.Test.YtfdceninhieheaaWGuard
import Derived.Test.YtfdceninhieheaaWNEv
import Derived.Test.YtfdceninhieheaaWMore
namespace Go.Proofs.Ytfdceninhieheaa.QSign
open Go.RowKit Go.Proofs.YtfdceninhieheaaW.PrintWords Go.Proofs.YtfdceninhieheaaW.PrintLast Go.Proofs.YtfdceninhieheaaW.PrintMore
attribute [local go_sem] max2_int min2_int max_two min_two max_three min_three max_four min_four   -- for this text's walks alone
set_option linter.unusedVariables false
set_option linter.unusedSimpArgs false



def errW : Option Int → Value
  | none => .nilIface
  | some c => .iface 0 (.int .i64 c)
theorem errW_none : errW none = .nilIface := rfl
theorem errW_some (c : Int) : errW (some c) = .iface 0 (.int .i64 c) := rfl

theorem info5 : (Try.prog.info? 5).map (fun i => (i.zero, i.size, i.bytes)) = some (some (.int .u8 0), 1, 1) := by kernel_rfl
-- the values' own types

end Go.Proofs.Ytfdceninhieheaa.QSign
