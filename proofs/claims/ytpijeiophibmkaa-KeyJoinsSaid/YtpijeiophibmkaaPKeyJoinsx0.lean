-- written by a program of this claim's session, a turned copy of the print (it also takes a label): Lean checks it
import Derived.Test.YtpijeiophibmkaaProg
import Derived.Below
import Derived.Deep.Draws
import Derived.Deep.AppendLies
import Derived.Maps.AppendAt
import Derived.OwnWalk
import Derived.Laws.BytesArg
import Derived.Laws.MakeOwn
import Derived.Laws.OwnMore
import Derived.Deep.OwnRows
import Derived.Tactics
import Derived.Lib.ConvBytes
import Derived.Laws.Slices
import Derived.WalkKit
import Derived.KernelRfl
import Derived.RowKit3
import Derived.Deep.LoopGhost
import Derived.Deep.QuietTactic
import Derived.BigQuiet
import Derived.WideLaws
import Derived.Deep.DeepCutAuto
import Derived.Deep.CutBlock
import Derived.Deep.RegionHeld3
import Derived.Laws.Rows
import Derived.Lib.AppendStr
import Derived.ArgAppend
import Derived.Laws.IdiomCopy
import Derived.OrdersHeld
import Derived.Laws.BitsLemmas
import Derived.RowKit
import Derived.Test.YtpijeiophibmkaaWWords
import Derived.Test.YtpijeiophibmkaaWLast
import Derived.Test.YtpijeiophibmkaaWTab
import Derived.Test.YtpijeiophibmkaaWFour
import Derived.Test.YtpijeiophibmkaaWQPut
import Derived.Test.YtpijeiophibmkaaWApart
import Derived.Test.YtpijeiophibmkaaWArr
import Derived.Test.YtpijeiophibmkaaWZeros
import Derived.Test.YtpijeiophibmkaaWFoot
import Derived.Test.YtpijeiophibmkaaWKept
import Derived.Test.YtpijeiophibmkaaWShare
import Derived.Test.YtpijeiophibmkaaWN
import Derived.Test.YtpijeiophibmkaaWFootNe
import Derived.Test.YtpijeiophibmkaaWAt
import Derived.Test.YtpijeiophibmkaaWEqStruct
import Derived.Test.YtpijeiophibmkaaWRepsOne
import Derived.Test.YtpijeiophibmkaaWInv
import Derived.Test.YtpijeiophibmkaaWInvWords
import Derived.Test.YtpijeiophibmkaaWGuard
import Derived.Test.YtpijeiophibmkaaWNEv
import Derived.Test.YtpijeiophibmkaaWMore
namespace Go.Proofs.Ytpijeiophibmkaa.PKeyJoins
open Go.RowKit Go.Proofs.YtpijeiophibmkaaW.PrintWords Go.Proofs.YtpijeiophibmkaaW.PrintLast Go.Proofs.YtpijeiophibmkaaW.PrintMore
attribute [local go_sem] max2_int min2_int max_two min_two max_three min_three max_four min_four   -- for this text's walks alone
set_option linter.unusedVariables false
set_option linter.unusedSimpArgs false



def errW : Option Int → Value
  | none => .nilIface
  | some c => .iface 0 (.int .i64 c)
theorem errW_none : errW none = .nilIface := rfl
theorem errW_some (c : Int) : errW (some c) = .iface 0 (.int .i64 c) := rfl

theorem info5 : (Try.prog.info? 5).map (fun i => (i.zero, i.size, i.bytes)) = some (some (.int .u8 0), 1, 1) := by kernel_rfl
-- the values' own types

end Go.Proofs.Ytpijeiophibmkaa.PKeyJoins
