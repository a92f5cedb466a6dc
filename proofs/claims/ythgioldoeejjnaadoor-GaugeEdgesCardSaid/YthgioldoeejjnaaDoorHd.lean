/- gauge: what this seat needs of the gauge. -/
import Derived.Test.YthgioldoeejjnaaDoorHc
namespace Go.Proofs.YthgioldoeejjnaaDoor.Gf
open Go.RowKit Go.Proofs.YthgioldoeejjnaaDoorW.PrintWords Go.Proofs.YthgioldoeejjnaaDoorW.PrintLast
set_option linter.unusedVariables false
set_option linter.unusedSimpArgs false
theorem run_all (op : BinOp) (hop : op = .add ∨ op = .sub ∨ op = .mul ∨ op = .quo) :
    ∃ (Q : Nat → Nat → World → Nat) (M : Nat → Nat → Nat), (∀ x y W, (binOp op 26 (.float .f64 x) (.float .f64 y)).run Tryd.prog W = .ok (.float .f64 (Q x y W)) (W.drewN (M x y))) ∧ (∀ x y W, Res (floatBits op .f64 x y) (Q x y W)) := by
  have h := fun x y => run_op (P := Tryd.prog) op hop 26 x y
  exact ⟨fun x y => Classical.choose (h x y), fun x y => Classical.choose (Classical.choose_spec (h x y)), fun x y W => (Classical.choose_spec (Classical.choose_spec (h x y)) W).1, fun x y W => (Classical.choose_spec (Classical.choose_spec (h x y)) W).2⟩

abbrev fi (n : Int) : Nat := floatOfInt .f64 n
def FillS (a b : Int) : Nat := canonO (floatBits .quo .f64 (fi a) (fi b))
def one : Nat := 4607182418800017408
theorem Fill_call (a b : Int) (w : World) : Calls Tryd.prog 5 #[.int .i64 a, .int .i64 b] w fun e w' => e = .returned (.int .u64 (FillS a b)) ∧ Drawn0 w w' := by
  go_enter Tryd.func5, Tryd.ntmps5
  go_wp2_with (first | (go_at_call 17; refine (whole_call _ _).mono ?_; rintro e w' ⟨rfl, rfl⟩) | (go_at_call 16; refine (over_call _ _ _).mono ?_; rintro e w' ⟨z, m, rfl, rfl, hz⟩; have HZ := Lib.hid (canon_res hz); clear hz) | (go_at_call 15; refine (told_call _ _).mono ?_; rintro e w' ⟨rfl, rfl⟩))
  go_ret
  exact ⟨by rw [HZ.out]; rfl, ⟨⟨m, rfl⟩⟩⟩

end Go.Proofs.YthgioldoeejjnaaDoor.Gf
