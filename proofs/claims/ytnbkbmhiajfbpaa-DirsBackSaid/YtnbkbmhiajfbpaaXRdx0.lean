-- Written by a program of this session (wip/tools)
import Derived.Test.YtnbkbmhiajfbpaaProg
import Derived.Below
import Derived.Deep.Draws
import Derived.Deep.AppendLies
import Derived.Maps.AppendAt
import Derived.OwnWalk
import Derived.Laws.BytesArg
import Derived.Laws.MakeOwn
import Derived.Laws.OwnMore
import Derived.Deep.OwnRows
import Derived.Tactics
import Derived.Lib.ConvBytes
import Derived.Laws.Slices
import Derived.WalkKit
import Derived.KernelRfl
import Derived.RowKit3
import Derived.Deep.LoopGhost
import Derived.Deep.QuietTactic
import Derived.BigQuiet
import Derived.WideLaws
import Derived.Deep.DeepCutAuto
import Derived.Deep.CutBlock
import Derived.Deep.RegionHeld3
import Derived.Laws.Rows
import Derived.Lib.AppendStr
import Derived.ArgAppend
import Derived.Laws.IdiomCopy
import Derived.OrdersHeld
import Derived.Laws.BitsLemmas
import Derived.RowKit
import Derived.Test.YtnbkbmhiajfbpaaWWords
import Derived.Test.YtnbkbmhiajfbpaaWLast
import Derived.Test.YtnbkbmhiajfbpaaWTab
import Derived.Test.YtnbkbmhiajfbpaaWFour
import Derived.Test.YtnbkbmhiajfbpaaWQPut
import Derived.Test.YtnbkbmhiajfbpaaWApart
import Derived.Test.YtnbkbmhiajfbpaaWArr
import Derived.Test.YtnbkbmhiajfbpaaWZeros
import Derived.Test.YtnbkbmhiajfbpaaWFoot
import Derived.Test.YtnbkbmhiajfbpaaWKept
import Derived.Test.YtnbkbmhiajfbpaaWShare
import Derived.Test.YtnbkbmhiajfbpaaWN
import Derived.Test.YtnbkbmhiajfbpaaWFootNe
import Derived.Test.YtnbkbmhiajfbpaaWAt
import Derived.Test.YtnbkbmhiajfbpaaWEqStruct
import Derived.Test.YtnbkbmhiajfbpaaWRepsOne
import Derived.Test.YtnbkbmhiajfbpaaWInv
import Derived.Test.YtnbkbmhiajfbpaaWInvWords
import Derived.Test.YtnbkbmhiajfbpaaWGuard
import Derived.Test.YtnbkbmhiajfbpaaWNEv
import Derived.Test.YtnbkbmhiajfbpaaWMore
namespace Go.Proofs.Ytnbkbmhiajfbpaa.XRd
open Go.RowKit Go.Proofs.YtnbkbmhiajfbpaaW.PrintWords Go.Proofs.YtnbkbmhiajfbpaaW.PrintLast Go.Proofs.YtnbkbmhiajfbpaaW.PrintMore
attribute [local go_sem] max2_int min2_int max_two min_two max_three min_three max_four min_four   -- for this text's walks alone
set_option linter.unusedVariables false
set_option linter.unusedSimpArgs false



def errW : Option Int → Value
  | none => .nilIface
  | some c => .iface 0 (.int .i64 c)
theorem errW_none : errW none = .nilIface := rfl
theorem errW_some (c : Int) : errW (some c) = .iface 0 (.int .i64 c) := rfl

-- the values' own types

end Go.Proofs.Ytnbkbmhiajfbpaa.XRd
