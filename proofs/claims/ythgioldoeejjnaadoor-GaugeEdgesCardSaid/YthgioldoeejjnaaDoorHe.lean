/- gauge: what this seat needs of the gauge. -/
import Derived.Test.YthgioldoeejjnaaDoorHd
import Derived.Test.YthgioldoeejjnaaDoorWMore
namespace Go.Proofs.YthgioldoeejjnaaDoor.Gf
open Go.RowKit Go.Proofs.YthgioldoeejjnaaDoorW.PrintWords Go.Proofs.YthgioldoeejjnaaDoorW.PrintLast Go.Proofs.YthgioldoeejjnaaDoorW.PrintMore
attribute [local go_sem] max2_int min2_int max_two min_two
set_option linter.unusedVariables false
set_option linter.unusedSimpArgs false
theorem run_from (a : Int) (W : World) : (callFunc 19 #[.int .u64 a]).run Tryd.prog W = .ok (.value (.float .f64 a.toNat)) W := by rfl
def hundred : Nat := 4636737291354636288
def clampH (h : Int) : Int := min (max h 0) 100
theorem float_call (a : Int) (w : World) : Calls Tryd.prog 28 #[.int .u64 a] w fun e w' => e = .returned (.float .f64 a.toNat) ∧ w' = w := by
  have hf := run_from
  go_enter Tryd.func28, Tryd.ntmps28
  go_wp2
  go_ret
  exact ⟨rfl, rfl⟩

end Go.Proofs.YthgioldoeejjnaaDoor.Gf
