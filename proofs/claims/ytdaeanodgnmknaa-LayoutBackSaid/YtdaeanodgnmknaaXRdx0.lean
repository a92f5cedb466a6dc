-- Written by a program of this session (wip/tools)
import Derived.Test.YtdaeanodgnmknaaProg
import Derived.Below
import Derived.Deep.Draws
import Derived.Deep.AppendLies
import Derived.Maps.AppendAt
import Derived.OwnWalk
import Derived.Laws.BytesArg
import Derived.Laws.MakeOwn
import Derived.Laws.OwnMore
import Derived.Deep.OwnRows
import Derived.Tactics
import Derived.Lib.ConvBytes
import Derived.Laws.Slices
import Derived.WalkKit
import Derived.KernelRfl
import Derived.RowKit3
import Derived.Deep.LoopGhost
import Derived.Deep.QuietTactic
import Derived.BigQuiet
import Derived.WideLaws
import Derived.Deep.DeepCutAuto
import Derived.Deep.CutBlock
import Derived.Deep.RegionHeld3
import Derived.Laws.Rows
import Derived.Lib.AppendStr
import Derived.ArgAppend
import Derived.Laws.IdiomCopy
import Derived.OrdersHeld
import Derived.Laws.BitsLemmas
import Derived.RowKit
import Derived.Test.YtdaeanodgnmknaaWWords
import Derived.Test.YtdaeanodgnmknaaWLast
import Derived.Test.YtdaeanodgnmknaaWTab
import Derived.Test.YtdaeanodgnmknaaWFour
import Derived.Test.YtdaeanodgnmknaaWQPut
import Derived.Test.YtdaeanodgnmknaaWApart
import Derived.Test.YtdaeanodgnmknaaWArr
import Derived.Test.YtdaeanodgnmknaaWZeros
import Derived.Test.YtdaeanodgnmknaaWFoot
import Derived.Test.YtdaeanodgnmknaaWKept
import Derived.Test.YtdaeanodgnmknaaWShare
import Derived.Test.YtdaeanodgnmknaaWN
import Derived.Test.YtdaeanodgnmknaaWFootNe
import Derived.Test.YtdaeanodgnmknaaWAt
import Derived.Test.YtdaeanodgnmknaaWEqStruct
import Derived.Test.YtdaeanodgnmknaaWRepsOne
import Derived.Test.YtdaeanodgnmknaaWInv
import Derived.Test.YtdaeanodgnmknaaWInvWords
import Derived.Test.YtdaeanodgnmknaaWGuard
import Derived.Test.YtdaeanodgnmknaaWNEv
import Derived.Test.YtdaeanodgnmknaaWMore
namespace Go.Proofs.Ytdaeanodgnmknaa.XRd
open Go.RowKit Go.Proofs.YtdaeanodgnmknaaW.PrintWords Go.Proofs.YtdaeanodgnmknaaW.PrintLast Go.Proofs.YtdaeanodgnmknaaW.PrintMore
attribute [local go_sem] max2_int min2_int max_two min_two max_three min_three max_four min_four   -- for this text's walks alone
set_option linter.unusedVariables false
set_option linter.unusedSimpArgs false



def errW : Option Int → Value
  | none => .nilIface
  | some c => .iface 0 (.int .i64 c)
theorem errW_none : errW none = .nilIface := rfl
theorem errW_some (c : Int) : errW (some c) = .iface 0 (.int .i64 c) := rfl

-- the values' own types

end Go.Proofs.Ytdaeanodgnmknaa.XRd
