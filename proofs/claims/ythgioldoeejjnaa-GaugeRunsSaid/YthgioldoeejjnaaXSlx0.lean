-- Written by a program of this session (wip/tools)
import Derived.Test.YthgioldoeejjnaaProg
import Derived.Below
import Derived.Deep.Draws
import Derived.Deep.AppendLies
import Derived.Maps.AppendAt
import Derived.OwnWalk
import Derived.Laws.BytesArg
import Derived.Laws.MakeOwn
import Derived.Laws.OwnMore
import Derived.Deep.OwnRows
import Derived.Tactics
import Derived.Lib.ConvBytes
import Derived.Laws.Slices
import Derived.WalkKit
import Derived.KernelRfl
import Derived.RowKit3
import Derived.Deep.LoopGhost
import Derived.Deep.QuietTactic
import Derived.BigQuiet
import Derived.WideLaws
import Derived.Deep.DeepCutAuto
import Derived.Deep.CutBlock
import Derived.Deep.RegionHeld3
import Derived.Laws.Rows
import Derived.Lib.AppendStr
import Derived.ArgAppend
import Derived.Laws.IdiomCopy
import Derived.OrdersHeld
import Derived.Laws.BitsLemmas
import Derived.RowKit
import Derived.Test.YthgioldoeejjnaaWWords
import Derived.Test.YthgioldoeejjnaaWLast
import Derived.Test.YthgioldoeejjnaaWTab
import Derived.Test.YthgioldoeejjnaaWFour
import Derived.Test.YthgioldoeejjnaaWQPut
import Derived.Test.YthgioldoeejjnaaWApart
import Derived.Test.YthgioldoeejjnaaWArr
import Derived.Test.YthgioldoeejjnaaWZeros
import Derived.Test.YthgioldoeejjnaaWFoot
import Derived.Test.YthgioldoeejjnaaWKept
import Derived.Test.YthgioldoeejjnaaWShare
import Derived.Test.YthgioldoeejjnaaWN
import Derived.Test.YthgioldoeejjnaaWFootNe
import Derived.Test.YthgioldoeejjnaaWAt
import Derived.Test.YthgioldoeejjnaaWEqStruct
import Derived.Test.YthgioldoeejjnaaWRepsOne
import Derived.Test.YthgioldoeejjnaaWInv
import Derived.Test.YthgioldoeejjnaaWInvWords
import Derived.Test.YthgioldoeejjnaaWGuard
import Derived.Test.YthgioldoeejjnaaWNEv
import Derived.Test.YthgioldoeejjnaaWMore
namespace Go.Proofs.Ythgioldoeejjnaa.XSl
open Go.RowKit Go.Proofs.YthgioldoeejjnaaW.PrintWords Go.Proofs.YthgioldoeejjnaaW.PrintLast Go.Proofs.YthgioldoeejjnaaW.PrintMore
attribute [local go_sem] max2_int min2_int max_two min_two max_three min_three max_four min_four   -- for this text's walks alone
set_option linter.unusedVariables false
set_option linter.unusedSimpArgs false



def errW : Option Int → Value
  | none => .nilIface
  | some c => .iface 0 (.int .i64 c)
theorem errW_none : errW none = .nilIface := rfl
theorem errW_some (c : Int) : errW (some c) = .iface 0 (.int .i64 c) := rfl

theorem info3 : (Try.prog.info? 3).map (fun i => (i.zero, i.size, i.bytes)) = some (some (.int .i64 0), 1, 8) := by kernel_rfl
theorem info22 : (Try.prog.info? 22).map (fun i => (i.zero, i.size, i.bytes)) = some (some (.int .u64 0), 1, 8) := by kernel_rfl
-- the values' own types

end Go.Proofs.Ythgioldoeejjnaa.XSl
