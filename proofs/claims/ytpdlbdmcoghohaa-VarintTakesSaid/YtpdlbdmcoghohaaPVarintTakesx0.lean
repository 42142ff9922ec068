-- written by a program of this claim's session, a turned copy of the print (it also takes a label): Lean checks it
import Derived.Test.YtpdlbdmcoghohaaProg
import Derived.Below
import Derived.Deep.Draws
import Derived.Deep.AppendLies
import Derived.Maps.AppendAt
import Derived.OwnWalk
import Derived.Laws.BytesArg
import Derived.Laws.MakeOwn
import Derived.Laws.OwnMore
import Derived.Deep.OwnRows
import Derived.Tactics
import Derived.Lib.ConvBytes
import Derived.Laws.Slices
import Derived.WalkKit
import Derived.KernelRfl
import Derived.RowKit3
import Derived.Deep.LoopGhost
import Derived.Deep.QuietTactic
import Derived.BigQuiet
import Derived.WideLaws
import Derived.Deep.DeepCutAuto
import Derived.Deep.CutBlock
import Derived.Deep.RegionHeld3
import Derived.Laws.Rows
import Derived.Lib.AppendStr
import Derived.ArgAppend
import Derived.Laws.IdiomCopy
import Derived.OrdersHeld
import Derived.Laws.BitsLemmas
import Derived.RowKit
import Derived.Test.YtpdlbdmcoghohaaWWords
import Derived.Test.YtpdlbdmcoghohaaWLast
import Derived.Test.YtpdlbdmcoghohaaWTab
import Derived.Test.YtpdlbdmcoghohaaWFour
import Derived.Test.YtpdlbdmcoghohaaWQPut
import Derived.Test.YtpdlbdmcoghohaaWApart
import Derived.Test.YtpdlbdmcoghohaaWArr
import Derived.Test.YtpdlbdmcoghohaaWZeros
import Derived.Test.YtpdlbdmcoghohaaWFoot
import Derived.Test.YtpdlbdmcoghohaaWKept
import Derived.Test.YtpdlbdmcoghohaaWShare
import Derived.Test.YtpdlbdmcoghohaaWN
import Derived.Test.YtpdlbdmcoghohaaWFootNe
import Derived.Test.YtpdlbdmcoghohaaWAt
import Derived.Test.YtpdlbdmcoghohaaWEqStruct
import Derived.Test.YtpdlbdmcoghohaaWRepsOne
import Derived.Test.YtpdlbdmcoghohaaWInv
import Derived.Test.YtpdlbdmcoghohaaWInvWords
import Derived.Test.YtpdlbdmcoghohaaWGuard
import Derived.Test.YtpdlbdmcoghohaaWNEv
import Derived.Test.YtpdlbdmcoghohaaWMore
namespace Go.Proofs.Ytpdlbdmcoghohaa.PVarintTakes
open Go.RowKit Go.Proofs.YtpdlbdmcoghohaaW.PrintWords Go.Proofs.YtpdlbdmcoghohaaW.PrintLast Go.Proofs.YtpdlbdmcoghohaaW.PrintMore
attribute [local go_sem] max2_int min2_int max_two min_two max_three min_three max_four min_four   -- for this text's walks alone
set_option linter.unusedVariables false
set_option linter.unusedSimpArgs false



def errW : Option Int → Value
  | none => .nilIface
  | some c => .iface 0 (.int .i64 c)
theorem errW_none : errW none = .nilIface := rfl
theorem errW_some (c : Int) : errW (some c) = .iface 0 (.int .i64 c) := rfl

theorem info5 : (Try.prog.info? 5).map (fun i => (i.zero, i.size, i.bytes)) = some (some (.int .u8 0), 1, 1) := by kernel_rfl
-- the values' own types

end Go.Proofs.Ytpdlbdmcoghohaa.PVarintTakes
