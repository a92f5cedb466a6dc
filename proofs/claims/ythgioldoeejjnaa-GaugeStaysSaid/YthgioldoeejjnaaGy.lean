/- GaugeStays: for all gauges a, b: a finite gauge that follows another finite one by nothing (gauge.Smooth) stays. Conditions: none beyond those of the row. -/
import Derived.Test.YthgioldoeejjnaaGz
import Derived.Test.YthgioldoeejjnaaGo
import Derived.Laws.BitsAllLaws
import Derived.Test.YthgioldoeejjnaaWMore
namespace Go.Proofs.Ythgioldoeejjnaa.Gf
open Go.RowKit Go.Proofs.YthgioldoeejjnaaW.PrintWords Go.Proofs.YthgioldoeejjnaaW.PrintLast
set_option linter.unusedVariables false
set_option linter.unusedSimpArgs false

theorem abs_bits (x : Nat) (hx : x < 18446744073709551616) : (bits .andNot .u64 (x : Int) 9223372036854775808).toNat = rung x := by
  have h := u64_andNot_nat x 9223372036854775808 hx (by decide)
  rw [show ((9223372036854775808 : Nat) : Int) = 9223372036854775808 from rfl] at h
  rw [h, Int.toNat_natCast, show 18446744073709551615 - 9223372036854775808 = 2 ^ 63 - 1 by decide, Nat.and_two_pow_sub_one_eq_mod]
  rfl
theorem Abs_call (x : Nat) (w : World) (hx : x < 18446744073709551616) : Calls Try.prog 34 #[.float .f64 x] w fun e w' => e = .returned (.float .f64 (rung x)) ∧ w' = w := by
  have hb := run_bits x
  have hf := run_from
  go_enter Try.func34, Try.ntmps34
  go_wp2
  go_ret
  exact ⟨by rw [← abs_bits x hx]; rfl, rfl⟩

theorem order_max (x : Nat) : (F64.order (rung x) 9218868437227405311 == some Ordering.gt) = isi x := by
  have hr := rung_lt x
  unfold isi
  by_cases hn : isn (rung x) = true
  · have h1 : F64.order (rung x) 9218868437227405311 = none := by
      unfold Ieee.Format.order
      unfold isn at hn
      cases h : F64.read (rung x) with
      | nan s f => rfl
      | infinity s => rw [show FloatKind.f64.format.read (rung x) = _ from h] at hn; cases hn
      | number s m i => rw [show FloatKind.f64.format.read (rung x) = _ from h] at hn; cases hn
    rw [h1]
    rw [isn_key] at hn
    have h2 := of_decide_eq_true hn
    rw [show rung (rung x) = rung x by unfold rung; omega] at h2
    rw [decide_eq_false (by omega)]
    rfl
  · have hn1 : isn (rung x) = false := by simpa using hn
    have h1 := order_key (rung x) 9218868437227405311 hn1 (by decide)
    rw [show F64.order (rung x) 9218868437227405311 = _ from h1]
    rw [isn_key, show rung (rung x) = rung x by unfold rung; omega] at hn1
    have h2 := of_decide_eq_false hn1
    have k1 : key (rung x) = rung x := by
      unfold key neg
      rw [show rung x / 9223372036854775808 = 0 by omega, show rung (rung x) = rung x by unfold rung; omega]
      rfl
    have k2 : key 9218868437227405311 = 9218868437227405311 := by decide
    rw [k1, k2]
    by_cases h : rung x = 9218868437227405312
    · rw [h]; rfl
    · rw [decide_eq_false h]
      by_cases h3 : (rung x : Int) = 9218868437227405311
      · rw [h3]; rfl
      · rw [show compare (rung x : Int) 9218868437227405311 = .lt by simp [compare, compareOfLessAndEq]; omega]
        rfl

theorem IsInf_call (x : Nat) (w : World) (hx : x < 18446744073709551616) : Calls Try.prog 15 #[.float .f64 x, .int .i64 0] w fun e w' => e = .returned (.bool (isi x)) ∧ w' = w := by
  have h := order_max x
  go_enter Try.func15, Try.ntmps15
  go_wp2_with (first | (go_at_call 34; refine (Abs_call _ _ hx).mono ?_; rintro e w' ⟨rfl, rfl⟩))
  go_ret
  exact ⟨rfl, rfl⟩
/-- What Smooth tells, whatever the world. -/
structure Gives (a b h : Int) (r : Nat) : Prop where out : ∀ w : World, Calls Try.prog 16 #[.int .u64 a, .int .u64 b, .int .i64 h] w fun e w' => e = .returned (.int .u64 r) ∧ Drawn0 w w'
structure GivesR (a b h : Int) (r : Nat) : Prop where out : ∀ w : World, Calls Try.prog 17 #[.int .u64 a, .int .u64 b, .int .i64 h] w fun e w' => e = .returned (.int .u64 r) ∧ Drawn0 w w'
theorem gives (a b h : Int) (r : Nat) (e : SmoothS a b h = r) : Gives a b h r := ⟨fun w => by rw [← e]; exact Smooth_call a b h w⟩
theorem givesR (a b h : Int) (r : Nat) (e : SmoothS a b h = r) : GivesR a b h r := ⟨fun w => by rw [← e]; exact SmoothR_call a b h w⟩

set_option maxHeartbeats 4000000 in
theorem GaugeStays_walk (a b : Int) (w : World) (ha : (Lit.int .u64 a).wf = true) (hb : (Lit.int .u64 b).wf = true) :
    Calls Try.prog 4 #[.int .u64 a, .int .u64 b] w fun e w' => e = .returned (.bool true) ∧ Below w.heap.size w w' := by
  have hf := run_from
  have ha1 := u64_bd ha
  have hb1 := u64_bd hb
  have HA := Lib.hid (show a.toNat < 18446744073709551616 by omega)
  clear ha hb ha1 hb1
  obtain ⟨S0, hS0⟩ : ∃ z, SmoothS a b 0 = z := ⟨_, rfl⟩
  obtain ⟨S1, hS1⟩ : ∃ z, SmoothS a b 100 = z := ⟨_, rfl⟩
  have K0 := gives a b 0 S0 hS0
  have K9 := gives a b (-9) S0 (by rw [← hS0]; rfl)
  have K1 := gives a b 100 S1 hS1
  have K2 := gives a b 1000 S1 (by rw [← hS1]; rfl)
  have KR := givesR a b 0 S0 hS0
  have HS0 := Lib.hid hS0
  clear hS0 hS1
  cases hna : isn a.toNat
  · cases hia : isi a.toNat
    · cases hnb : isn b.toNat
      · have hfa : rung a.toNat < 9218868437227405312 := by
          rw [isn_key] at hna
          have h1 := of_decide_eq_false hna
          have h2 := of_decide_eq_false hia
          omega
        obtain ⟨r, hr, _⟩ := sub_fin b.toNat a.toNat hnb hfa
        have hrl : r < 18446744073709551616 := by have := floatBits_wf hr; simpa [Lit.wf, FloatKind.format, Ieee.Format.width] using this
        have HR := Lib.hid hrl
        have hsub : ∀ W, (binOp .sub 26 (.float .f64 b.toNat) (.float .f64 a.toNat)).run Try.prog W = .ok (.float .f64 r) W := fun W => run_float_arith W .sub _ .f64 _ _ r hr
        have HRR := Lib.hid hr
        clear hr hrl hfa
        cases hir : isi r
        · have hst := stays a b r hna hia hnb HRR.out hir
          rw [HS0.out] at hst
          go_enter Try.func4, Try.ntmps4
          go_wp2_with (first
            | (go_at_call 14; refine (IsNaN_call _ _).mono ?_; rintro e w' ⟨rfl, rfl⟩)
            | (go_at_call 15; refine (IsInf_call _ _ (by first | exact HA.out | exact HR.out)).mono ?_; rintro e w' ⟨rfl, rfl⟩)
            | (go_at_call 16; first | ((with_reducible refine (K0.out _).mono ?_); rintro e w' ⟨rfl, ⟨n1, rfl⟩⟩) | ((with_reducible refine (K9.out _).mono ?_); rintro e w' ⟨rfl, ⟨n1, rfl⟩⟩) | ((with_reducible refine (K1.out _).mono ?_); rintro e w' ⟨rfl, ⟨n1, rfl⟩⟩) | ((with_reducible refine (K2.out _).mono ?_); rintro e w' ⟨rfl, ⟨n1, rfl⟩⟩))
            | (go_at_call 17; refine (KR.out _).mono ?_; rintro e w' ⟨rfl, ⟨n1, rfl⟩⟩))
          go_ret
          exact ⟨rfl, by repeat (first | exact Below.refl _ _ | apply pw_below_drewN)⟩
        · go_enter Try.func4, Try.ntmps4
          go_wp2_with (first
            | (go_at_call 14; refine (IsNaN_call _ _).mono ?_; rintro e w' ⟨rfl, rfl⟩)
            | (go_at_call 15; refine (IsInf_call _ _ (by first | exact HA.out | exact HR.out)).mono ?_; rintro e w' ⟨rfl, rfl⟩)
            | (go_at_call 16; first | ((with_reducible refine (K0.out _).mono ?_); rintro e w' ⟨rfl, ⟨n1, rfl⟩⟩) | ((with_reducible refine (K9.out _).mono ?_); rintro e w' ⟨rfl, ⟨n1, rfl⟩⟩) | ((with_reducible refine (K1.out _).mono ?_); rintro e w' ⟨rfl, ⟨n1, rfl⟩⟩) | ((with_reducible refine (K2.out _).mono ?_); rintro e w' ⟨rfl, ⟨n1, rfl⟩⟩))
            | (go_at_call 17; refine (KR.out _).mono ?_; rintro e w' ⟨rfl, ⟨n1, rfl⟩⟩))
          go_ret
          exact ⟨rfl, by repeat (first | exact Below.refl _ _ | apply pw_below_drewN)⟩
      · go_enter Try.func4, Try.ntmps4
        go_wp2_with (first
          | (go_at_call 14; refine (IsNaN_call _ _).mono ?_; rintro e w' ⟨rfl, rfl⟩)
          | (go_at_call 15; refine (IsInf_call _ _ (by first | exact HA.out | exact HR.out)).mono ?_; rintro e w' ⟨rfl, rfl⟩)
          | (go_at_call 16; first | ((with_reducible refine (K0.out _).mono ?_); rintro e w' ⟨rfl, ⟨n1, rfl⟩⟩) | ((with_reducible refine (K9.out _).mono ?_); rintro e w' ⟨rfl, ⟨n1, rfl⟩⟩) | ((with_reducible refine (K1.out _).mono ?_); rintro e w' ⟨rfl, ⟨n1, rfl⟩⟩) | ((with_reducible refine (K2.out _).mono ?_); rintro e w' ⟨rfl, ⟨n1, rfl⟩⟩))
          | (go_at_call 17; refine (KR.out _).mono ?_; rintro e w' ⟨rfl, ⟨n1, rfl⟩⟩))
        go_ret
        exact ⟨rfl, by repeat (first | exact Below.refl _ _ | apply pw_below_drewN)⟩
    · go_enter Try.func4, Try.ntmps4
      go_wp2_with (first
        | (go_at_call 14; refine (IsNaN_call _ _).mono ?_; rintro e w' ⟨rfl, rfl⟩)
        | (go_at_call 15; refine (IsInf_call _ _ (by first | exact HA.out | exact HR.out)).mono ?_; rintro e w' ⟨rfl, rfl⟩)
        | (go_at_call 16; first | ((with_reducible refine (K0.out _).mono ?_); rintro e w' ⟨rfl, ⟨n1, rfl⟩⟩) | ((with_reducible refine (K9.out _).mono ?_); rintro e w' ⟨rfl, ⟨n1, rfl⟩⟩) | ((with_reducible refine (K1.out _).mono ?_); rintro e w' ⟨rfl, ⟨n1, rfl⟩⟩) | ((with_reducible refine (K2.out _).mono ?_); rintro e w' ⟨rfl, ⟨n1, rfl⟩⟩))
        | (go_at_call 17; refine (KR.out _).mono ?_; rintro e w' ⟨rfl, ⟨n1, rfl⟩⟩))
      go_ret
      exact ⟨rfl, by repeat (first | exact Below.refl _ _ | apply pw_below_drewN)⟩
  · go_enter Try.func4, Try.ntmps4
    go_wp2_with (first
      | (go_at_call 14; refine (IsNaN_call _ _).mono ?_; rintro e w' ⟨rfl, rfl⟩)
      | (go_at_call 15; refine (IsInf_call _ _ (by first | exact HA.out | exact HR.out)).mono ?_; rintro e w' ⟨rfl, rfl⟩)
      | (go_at_call 16; first | ((with_reducible refine (K0.out _).mono ?_); rintro e w' ⟨rfl, ⟨n1, rfl⟩⟩) | ((with_reducible refine (K9.out _).mono ?_); rintro e w' ⟨rfl, ⟨n1, rfl⟩⟩) | ((with_reducible refine (K1.out _).mono ?_); rintro e w' ⟨rfl, ⟨n1, rfl⟩⟩) | ((with_reducible refine (K2.out _).mono ?_); rintro e w' ⟨rfl, ⟨n1, rfl⟩⟩))
      | (go_at_call 17; refine (KR.out _).mono ?_; rintro e w' ⟨rfl, ⟨n1, rfl⟩⟩))
    go_ret
    exact ⟨rfl, by repeat (first | exact Below.refl _ _ | apply pw_below_drewN)⟩
end Go.Proofs.Ythgioldoeejjnaa.Gf
