/- gauge: what this seat needs of the gauge. -/
import Derived.Test.YthgioldoeejjnaaDoorHz
import Derived.Test.YthgioldoeejjnaaDoorHo
import Derived.Laws.BitsAllLaws
import Derived.Test.YthgioldoeejjnaaDoorWMore
namespace Go.Proofs.YthgioldoeejjnaaDoor.Gf
open Go.RowKit Go.Proofs.YthgioldoeejjnaaDoorW.PrintWords Go.Proofs.YthgioldoeejjnaaDoorW.PrintLast
set_option linter.unusedVariables false
set_option linter.unusedSimpArgs false
theorem abs_bits (x : Nat) (hx : x < 18446744073709551616) : (bits .andNot .u64 (x : Int) 9223372036854775808).toNat = rung x := by
  have h := u64_andNot_nat x 9223372036854775808 hx (by decide)
  rw [show ((9223372036854775808 : Nat) : Int) = 9223372036854775808 from rfl] at h
  rw [h, Int.toNat_natCast, show 18446744073709551615 - 9223372036854775808 = 2 ^ 63 - 1 by decide, Nat.and_two_pow_sub_one_eq_mod]
  rfl
theorem Abs_call (x : Nat) (w : World) (hx : x < 18446744073709551616) : Calls Tryd.prog 21 #[.float .f64 x] w fun e w' => e = .returned (.float .f64 (rung x)) ∧ w' = w := by
  have hb := run_bits x
  have hf := run_from
  go_enter Tryd.func21, Tryd.ntmps21
  go_wp2
  go_ret
  exact ⟨by rw [← abs_bits x hx]; rfl, rfl⟩

theorem order_max (x : Nat) : (F64.order (rung x) 9218868437227405311 == some Ordering.gt) = isi x := by
  have hr := rung_lt x
  unfold isi
  by_cases hn : isn (rung x) = true
  · have h1 : F64.order (rung x) 9218868437227405311 = none := by
      unfold Ieee.Format.order
      unfold isn at hn
      cases h : F64.read (rung x) with
      | nan s f => rfl
      | infinity s => rw [show FloatKind.f64.format.read (rung x) = _ from h] at hn; cases hn
      | number s m i => rw [show FloatKind.f64.format.read (rung x) = _ from h] at hn; cases hn
    rw [h1]
    rw [isn_key] at hn
    have h2 := of_decide_eq_true hn
    rw [show rung (rung x) = rung x by unfold rung; omega] at h2
    rw [decide_eq_false (by omega)]
    rfl
  · have hn1 : isn (rung x) = false := by simpa using hn
    have h1 := order_key (rung x) 9218868437227405311 hn1 (by decide)
    rw [show F64.order (rung x) 9218868437227405311 = _ from h1]
    rw [isn_key, show rung (rung x) = rung x by unfold rung; omega] at hn1
    have h2 := of_decide_eq_false hn1
    have k1 : key (rung x) = rung x := by
      unfold key neg
      rw [show rung x / 9223372036854775808 = 0 by omega, show rung (rung x) = rung x by unfold rung; omega]
      rfl
    have k2 : key 9218868437227405311 = 9218868437227405311 := by decide
    rw [k1, k2]
    by_cases h : rung x = 9218868437227405312
    · rw [h]; rfl
    · rw [decide_eq_false h]
      by_cases h3 : (rung x : Int) = 9218868437227405311
      · rw [h3]; rfl
      · rw [show compare (rung x : Int) 9218868437227405311 = .lt by simp [compare, compareOfLessAndEq]; omega]
        rfl

theorem IsInf_call (x : Nat) (w : World) (hx : x < 18446744073709551616) : Calls Tryd.prog 23 #[.float .f64 x, .int .i64 0] w fun e w' => e = .returned (.bool (isi x)) ∧ w' = w := by
  have h := order_max x
  go_enter Tryd.func23, Tryd.ntmps23
  go_wp2_with (first | (go_at_call 21; refine (Abs_call _ _ hx).mono ?_; rintro e w' ⟨rfl, rfl⟩))
  go_ret
  exact ⟨rfl, rfl⟩
end Go.Proofs.YthgioldoeejjnaaDoor.Gf
