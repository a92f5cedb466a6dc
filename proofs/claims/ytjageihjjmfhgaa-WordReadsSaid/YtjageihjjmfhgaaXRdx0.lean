-- Written by a program of this session (wip/tools)
import Derived.Test.YtjageihjjmfhgaaProg
import Derived.Below
import Derived.Deep.Draws
import Derived.Deep.AppendLies
import Derived.Maps.AppendAt
import Derived.OwnWalk
import Derived.Laws.BytesArg
import Derived.Laws.MakeOwn
import Derived.Laws.OwnMore
import Derived.Deep.OwnRows
import Derived.Tactics
import Derived.Lib.ConvBytes
import Derived.Laws.Slices
import Derived.WalkKit
import Derived.KernelRfl
import Derived.RowKit3
import Derived.Deep.LoopGhost
import Derived.Deep.QuietTactic
import Derived.BigQuiet
import Derived.WideLaws
import Derived.Deep.DeepCutAuto
import Derived.Deep.CutBlock
import Derived.Deep.RegionHeld3
import Derived.Laws.Rows
import Derived.Lib.AppendStr
import Derived.ArgAppend
import Derived.Laws.IdiomCopy
import Derived.OrdersHeld
import Derived.Laws.BitsLemmas
import Derived.RowKit
import Derived.Test.YtjageihjjmfhgaaWWords
import Derived.Test.YtjageihjjmfhgaaWLast
import Derived.Test.YtjageihjjmfhgaaWTab
import Derived.Test.YtjageihjjmfhgaaWFour
import Derived.Test.YtjageihjjmfhgaaWQPut
import Derived.Test.YtjageihjjmfhgaaWApart
import Derived.Test.YtjageihjjmfhgaaWArr
import Derived.Test.YtjageihjjmfhgaaWZeros
import Derived.Test.YtjageihjjmfhgaaWFoot
import Derived.Test.YtjageihjjmfhgaaWKept
import Derived.Test.YtjageihjjmfhgaaWShare
import Derived.Test.YtjageihjjmfhgaaWN
import Derived.Test.YtjageihjjmfhgaaWFootNe
import Derived.Test.YtjageihjjmfhgaaWAt
import Derived.Test.YtjageihjjmfhgaaWEqStruct
import Derived.Test.YtjageihjjmfhgaaWRepsOne
import Derived.Test.YtjageihjjmfhgaaWInv
import Derived.Test.YtjageihjjmfhgaaWInvWords
import Derived.Test.YtjageihjjmfhgaaWGuard
import Derived.Test.YtjageihjjmfhgaaWNEv
import Derived.Test.YtjageihjjmfhgaaWMore
namespace Go.Proofs.Ytjageihjjmfhgaa.XRd
open Go.RowKit Go.Proofs.YtjageihjjmfhgaaW.PrintWords Go.Proofs.YtjageihjjmfhgaaW.PrintLast Go.Proofs.YtjageihjjmfhgaaW.PrintMore
attribute [local go_sem] max2_int min2_int max_two min_two max_three min_three max_four min_four   -- for this text's walks alone
set_option linter.unusedVariables false
set_option linter.unusedSimpArgs false



def errW : Option Int → Value
  | none => .nilIface
  | some c => .iface 0 (.int .i64 c)
theorem errW_none : errW none = .nilIface := rfl
theorem errW_some (c : Int) : errW (some c) = .iface 0 (.int .i64 c) := rfl

-- the values' own types

end Go.Proofs.Ytjageihjjmfhgaa.XRd
