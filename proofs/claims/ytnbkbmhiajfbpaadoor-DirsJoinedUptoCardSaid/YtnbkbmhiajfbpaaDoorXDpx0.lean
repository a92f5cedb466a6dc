-- Written by a program of this session (wip/tools)
import Derived.Test.YtnbkbmhiajfbpaaDoorProg
import Derived.Below
import Derived.Deep.Draws
import Derived.Deep.AppendLies
import Derived.Maps.AppendAt
import Derived.OwnWalk
import Derived.Laws.BytesArg
import Derived.Laws.MakeOwn
import Derived.Laws.OwnMore
import Derived.Deep.OwnRows
import Derived.Tactics
import Derived.Lib.ConvBytes
import Derived.Laws.Slices
import Derived.WalkKit
import Derived.KernelRfl
import Derived.RowKit3
import Derived.Deep.LoopGhost
import Derived.Deep.QuietTactic
import Derived.BigQuiet
import Derived.WideLaws
import Derived.Deep.DeepCutAuto
import Derived.Deep.CutBlock
import Derived.Deep.RegionHeld3
import Derived.Laws.Rows
import Derived.Lib.AppendStr
import Derived.ArgAppend
import Derived.Laws.IdiomCopy
import Derived.OrdersHeld
import Derived.Laws.BitsLemmas
import Derived.RowKit
import Derived.Test.YtnbkbmhiajfbpaaDoorWWords
import Derived.Test.YtnbkbmhiajfbpaaDoorWLast
import Derived.Test.YtnbkbmhiajfbpaaDoorWTab
import Derived.Test.YtnbkbmhiajfbpaaDoorWFour
import Derived.Test.YtnbkbmhiajfbpaaDoorWQPut
import Derived.Test.YtnbkbmhiajfbpaaDoorWApart
import Derived.Test.YtnbkbmhiajfbpaaDoorWArr
import Derived.Test.YtnbkbmhiajfbpaaDoorWZeros
import Derived.Test.YtnbkbmhiajfbpaaDoorWFoot
import Derived.Test.YtnbkbmhiajfbpaaDoorWKept
import Derived.Test.YtnbkbmhiajfbpaaDoorWShare
import Derived.Test.YtnbkbmhiajfbpaaDoorWN
import Derived.Test.YtnbkbmhiajfbpaaDoorWFootNe
import Derived.Test.YtnbkbmhiajfbpaaDoorWAt
import Derived.Test.YtnbkbmhiajfbpaaDoorWEqStruct
import Derived.Test.YtnbkbmhiajfbpaaDoorWRepsOne
import Derived.Test.YtnbkbmhiajfbpaaDoorWInv
import Derived.Test.YtnbkbmhiajfbpaaDoorWInvWords
import Derived.Test.YtnbkbmhiajfbpaaDoorWGuard
import Derived.Test.YtnbkbmhiajfbpaaDoorWNEv
import Derived.Test.YtnbkbmhiajfbpaaDoorWMore
namespace Go.Proofs.YtnbkbmhiajfbpaaDoor.XDp
open Go.RowKit Go.Proofs.YtnbkbmhiajfbpaaDoorW.PrintWords Go.Proofs.YtnbkbmhiajfbpaaDoorW.PrintLast Go.Proofs.YtnbkbmhiajfbpaaDoorW.PrintMore
attribute [local go_sem] max2_int min2_int max_two min_two max_three min_three max_four min_four   -- for this text's walks alone
set_option linter.unusedVariables false
set_option linter.unusedSimpArgs false



def errW : Option Int → Value
  | none => .nilIface
  | some c => .iface 0 (.int .i64 c)
theorem errW_none : errW none = .nilIface := rfl
theorem errW_some (c : Int) : errW (some c) = .iface 0 (.int .i64 c) := rfl

theorem info9 : (Tryd.prog.info? 9).map (fun i => (i.zero, i.size, i.bytes)) = some (some (.string ⟨#[]⟩), 1, 16) := by kernel_rfl
-- the values' own types

end Go.Proofs.YtnbkbmhiajfbpaaDoor.XDp
