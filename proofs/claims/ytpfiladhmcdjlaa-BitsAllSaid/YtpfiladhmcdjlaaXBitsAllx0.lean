-- Written by a program of this session (wip/tools)
import Derived.Test.YtpfiladhmcdjlaaProg
import Derived.Below
import Derived.Deep.Draws
import Derived.Deep.AppendLies
import Derived.Maps.AppendAt
import Derived.OwnWalk
import Derived.Laws.BytesArg
import Derived.Laws.MakeOwn
import Derived.Laws.OwnMore
import Derived.Deep.OwnRows
import Derived.Tactics
import Derived.Lib.ConvBytes
import Derived.Laws.Slices
import Derived.WalkKit
import Derived.KernelRfl
import Derived.RowKit3
import Derived.Deep.LoopGhost
import Derived.Deep.QuietTactic
import Derived.BigQuiet
import Derived.WideLaws
import Derived.Deep.DeepCutAuto
import Derived.Deep.CutBlock
import Derived.Deep.RegionHeld3
import Derived.Laws.Rows
import Derived.Lib.AppendStr
import Derived.ArgAppend
import Derived.Laws.IdiomCopy
import Derived.OrdersHeld
import Derived.Laws.BitsLemmas
import Derived.RowKit
import Derived.Test.YtpfiladhmcdjlaaSu
import Derived.Test.YtpfiladhmcdjlaaWWords
import Derived.Test.YtpfiladhmcdjlaaWLast
import Derived.Test.YtpfiladhmcdjlaaWTab
import Derived.Test.YtpfiladhmcdjlaaWFour
import Derived.Test.YtpfiladhmcdjlaaWQPut
import Derived.Test.YtpfiladhmcdjlaaWApart
import Derived.Test.YtpfiladhmcdjlaaWArr
import Derived.Test.YtpfiladhmcdjlaaWZeros
import Derived.Test.YtpfiladhmcdjlaaWFoot
import Derived.Test.YtpfiladhmcdjlaaWKept
import Derived.Test.YtpfiladhmcdjlaaWShare
import Derived.Test.YtpfiladhmcdjlaaWN
import Derived.Test.YtpfiladhmcdjlaaWFootNe
import Derived.Test.YtpfiladhmcdjlaaWAt
import Derived.Test.YtpfiladhmcdjlaaWEqStruct
import Derived.Test.YtpfiladhmcdjlaaWRepsOne
import Derived.Test.YtpfiladhmcdjlaaWInv
import Derived.Test.YtpfiladhmcdjlaaWInvWords
import Derived.Test.YtpfiladhmcdjlaaWGuard
import Derived.Test.YtpfiladhmcdjlaaWNEv
import Derived.Test.YtpfiladhmcdjlaaWMore
namespace Go.Proofs.Ytpfiladhmcdjlaa.XBitsAll
open Go.RowKit Go.Proofs.YtpfiladhmcdjlaaW.PrintWords Go.Proofs.YtpfiladhmcdjlaaW.PrintLast Go.Proofs.YtpfiladhmcdjlaaW.PrintMore
attribute [local go_sem] max2_int min2_int max_two min_two max_three min_three max_four min_four   -- for this text's walks alone
set_option linter.unusedVariables false
set_option linter.unusedSimpArgs false



def errW : Option Int → Value
  | none => .nilIface
  | some c => .iface 0 (.int .i64 c)
theorem errW_none : errW none = .nilIface := rfl
theorem errW_some (c : Int) : errW (some c) = .iface 0 (.int .i64 c) := rfl

theorem info3 : (Try.prog.info? 3).map (fun i => (i.zero, i.size, i.bytes)) = some (some (.int .i64 0), 1, 8) := by kernel_rfl
-- the values' own types

end Go.Proofs.Ytpfiladhmcdjlaa.XBitsAll
