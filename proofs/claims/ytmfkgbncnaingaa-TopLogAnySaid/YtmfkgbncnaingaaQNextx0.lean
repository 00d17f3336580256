/- Functions of the program as plain functions, and the walks that show it. Written by the session's own program pp.py. -/
import Derived.Test.YtmfkgbncnaingaaProg
import Derived.Below
import Derived.Deep.Draws
import Derived.Deep.AppendLies
import Derived.Maps.AppendAt
import Derived.OwnWalk
import Derived.Laws.BytesArg
import Derived.Laws.MakeOwn
import Derived.Laws.OwnMore
import Derived.Deep.OwnRows
import Derived.Tactics
import Derived.Lib.ConvBytes
import Derived.Laws.Slices
import Derived.WalkKit
import Derived.KernelRfl
import Derived.RowKit3
import Derived.Deep.LoopGhost
import Derived.Deep.QuietTactic
import Derived.BigQuiet
import Derived.WideLaws
import Derived.Deep.DeepCutAuto
import Derived.Deep.CutBlock
import Derived.Deep.RegionHeld3
import Derived.Laws.Rows
import Derived.Lib.AppendStr
import Derived.ArgAppend
import Derived.Laws.IdiomCopy
import Derived.OrdersHeld
import Derived.Laws.BitsLemmas
import Derived.RowKit
import Derived.Laws.Cover1
import Derived.Test.YtmfkgbncnaingaaWWords
import Derived.Test.YtmfkgbncnaingaaWLast
import Derived.Test.YtmfkgbncnaingaaWTab
import Derived.Test.YtmfkgbncnaingaaWFour
import Derived.Test.YtmfkgbncnaingaaWQPut
import Derived.Test.YtmfkgbncnaingaaWApart
import Derived.Test.YtmfkgbncnaingaaWArr
import Derived.Test.YtmfkgbncnaingaaWZeros
import Derived.Test.YtmfkgbncnaingaaWFoot
import Derived.Test.YtmfkgbncnaingaaWKept
import Derived.Test.YtmfkgbncnaingaaWShare
import Derived.Test.YtmfkgbncnaingaaWN
import Derived.Test.YtmfkgbncnaingaaWFootNe
import Derived.Test.YtmfkgbncnaingaaWAt
import Derived.Test.YtmfkgbncnaingaaWEqStruct
import Derived.Test.YtmfkgbncnaingaaWRepsOne
import Derived.Test.YtmfkgbncnaingaaWInv
import Derived.Test.YtmfkgbncnaingaaWInvWords
import Derived.Test.YtmfkgbncnaingaaWGuard
import Derived.Test.YtmfkgbncnaingaaWNEv
import Derived.Test.YtmfkgbncnaingaaWMore
namespace Go.Proofs.Ytmfkgbncnaingaa.QNext
open Go.RowKit Go.Proofs.YtmfkgbncnaingaaW.PrintWords Go.Proofs.YtmfkgbncnaingaaW.PrintLast Go.Proofs.YtmfkgbncnaingaaW.PrintMore
attribute [local go_sem] max2_int min2_int max_two min_two max_three min_three max_four min_four   -- for this text's walks alone
set_option linter.unusedVariables false
set_option linter.unusedSimpArgs false



def errW : Option Int → Value
  | none => .nilIface
  | some c => .iface 0 (.int .i64 c)
theorem errW_none : errW none = .nilIface := rfl
theorem errW_some (c : Int) : errW (some c) = .iface 0 (.int .i64 c) := rfl

theorem info5 : (Try.prog.info? 5).map (fun i => (i.zero, i.size, i.bytes)) = some (some (.int .u8 0), 1, 1) := by kernel_rfl
-- the values' own types

end Go.Proofs.Ytmfkgbncnaingaa.QNext
