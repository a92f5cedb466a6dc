/- gauge: what this seat needs of the gauge. -/
import Derived.Test.YthgioldoeejjnaaDoorHf
namespace Go.Proofs.YthgioldoeejjnaaDoor.Gf
open Go.RowKit Go.Proofs.YthgioldoeejjnaaDoorW.PrintWords Go.Proofs.YthgioldoeejjnaaDoorW.PrintLast
set_option linter.unusedVariables false
set_option linter.unusedSimpArgs false
def isn (x : Nat) : Bool := (FloatKind.f64.format.read x).isNaN
theorem canon_isn (x : Nat) : canon x = if isn x then 9221120237041090561 else x := rfl
theorem order_self (x : Nat) : FloatKind.f64.format.order x x = if isn x then none else some .eq := by
  unfold isn Ieee.Format.order
  cases h : FloatKind.f64.format.read x with
  | nan s f => rfl
  | infinity s => simp [Ieee.Datum.order, Ieee.Datum.isNaN]
  | number s m i => simp [Ieee.Datum.order, Ieee.Datum.isNaN]
theorem ne_self (x : Nat) : (FloatKind.f64.format.order x x != some Ordering.eq) = isn x := by
  rw [order_self]
  cases isn x <;> rfl
theorem run_bits (b : Nat) (W : World) : (callFunc 7 #[.float .f64 b]).run Tryd.prog W = .ok (.value (.int .u64 b)) W := by rfl
theorem run_whole (n : Int) (W : World) : (convert 3 26 (.int .i64 n)).run Tryd.prog W = .ok (.float .f64 (floatOfInt .f64 n)) W := by rfl

theorem IsNaN_call (x : Nat) (w : World) : Calls Tryd.prog 22 #[.float .f64 x] w fun e w' => e = .returned (.bool (isn x)) ∧ w' = w := by
  have h := ne_self x
  go_enter Tryd.func22, Tryd.ntmps22
  go_wp2
  go_ret
  exact ⟨rfl, rfl⟩

theorem told_call (x : Nat) (w : World) : Calls Tryd.prog 15 #[.float .f64 x] w fun e w' => e = .returned (.int .u64 (canon x)) ∧ w' = w := by
  have hb := run_bits x
  cases hx : isn x with
  | true =>
    rw [canon_isn, hx]
    go_enter Tryd.func15, Tryd.ntmps15
    go_wp2_with (first | (go_at_call 22; refine (IsNaN_call x _).mono ?_; rintro e w' ⟨rfl, rfl⟩))
    go_ret
    exact ⟨rfl, rfl⟩
  | false =>
    rw [canon_isn, hx]
    go_enter Tryd.func15, Tryd.ntmps15
    go_wp2_with (first | (go_at_call 22; refine (IsNaN_call x _).mono ?_; rintro e w' ⟨rfl, rfl⟩))
    go_ret
    exact ⟨rfl, rfl⟩

theorem over_call (x y : Nat) (w : World) : Calls Tryd.prog 16 #[.float .f64 x, .float .f64 y] w fun e w' => ∃ z m, e = .returned (.float .f64 z) ∧ w' = w.drewN m ∧ Res (floatBits .quo .f64 x y) z := by
  obtain ⟨q, m, hq⟩ := run_op (P := Tryd.prog) .quo (by simp) 26 x y
  have h1 := fun W => (hq W).1
  have H2 := Lib.hid (fun W => (hq W).2)
  clear hq
  go_enter Tryd.func16, Tryd.ntmps16
  go_wp2
  go_ret
  exact ⟨_, m, rfl, rfl, H2.out _⟩

theorem whole_call (n : Int) (w : World) : Calls Tryd.prog 17 #[.int .i64 n] w fun e w' => e = .returned (.float .f64 (floatOfInt .f64 n)) ∧ w' = w := by
  have h := run_whole n
  go_enter Tryd.func17, Tryd.ntmps17
  go_wp2
  go_ret
  exact ⟨rfl, rfl⟩
end Go.Proofs.YthgioldoeejjnaaDoor.Gf
