/- gauge: what this seat needs of the gauge. -/
import Derived.Test.YthgioldoeejjnaaDoorHk
import Derived.Test.YthgioldoeejjnaaDoorHe
namespace Go.Proofs.YthgioldoeejjnaaDoor.Gf
open Go.RowKit Go.Proofs.YthgioldoeejjnaaDoorW.PrintWords Go.Proofs.YthgioldoeejjnaaDoorW.PrintLast
set_option linter.unusedVariables false
set_option linter.unusedSimpArgs false
/-- A gauge's rank among all. -/
def rank (x : Nat) : Int := if isn x then -18446744073709551616 else if neg x then -(rung x : Int) - 1 else (rung x : Int)
def ordS (x y : Nat) : Int := if rank x < rank y then -1 else if rank y < rank x then 1 else 0

theorem u64_bd {a : Int} (h : (Lit.int .u64 a).wf = true) : 0 ≤ a ∧ a < 18446744073709551616 := by
  simp [Lit.wf, IntKind.min, IntKind.max, IntKind.bits, IntKind.signed] at h
  omega

theorem Signbit_call (x : Nat) (w : World) (hx : x < 18446744073709551616) : Calls Tryd.prog 20 #[.float .f64 x] w fun e w' => e = .returned (.bool (neg x)) ∧ w' = w := by
  have hb := run_bits x
  have hn : neg x = decide (9223372036854775808 ≤ x) := by
    unfold neg
    by_cases h : 9223372036854775808 ≤ x
    · rw [decide_eq_true h, show x / 9223372036854775808 = 1 by omega]; rfl
    · rw [decide_eq_false h, show x / 9223372036854775808 = 0 by omega]; rfl
  rw [hn]
  clear hn
  by_cases h : 9223372036854775808 ≤ x
  · have hw : wrap64 (x : Int) < 0 := by unfold wrap64; omega
    rw [decide_eq_true h]
    clear h
    go_enter Tryd.func20, Tryd.ntmps20
    go_wp2
    go_ret
    exact ⟨rfl, rfl⟩
  · have hw : ¬ wrap64 (x : Int) < 0 := by unfold wrap64; omega
    rw [decide_eq_false h]
    clear h
    go_enter Tryd.func20, Tryd.ntmps20
    go_wp2
    go_ret
    exact ⟨rfl, rfl⟩

theorem rung_lt (x : Nat) : rung x < 9223372036854775808 := Nat.mod_lt _ (by decide)
theorem rank_lo (x : Nat) (h : isn x = false) : -9223372036854775809 ≤ rank x := by
  have := rung_lt x
  unfold rank
  rw [h]
  cases neg x <;> simp <;> omega
theorem rank_nan (x : Nat) (h : isn x = true) : rank x = -18446744073709551616 := by unfold rank; rw [h]; rfl
theorem rank_num (x : Nat) (h : isn x = false) : rank x = if neg x then -(rung x : Int) - 1 else (rung x : Int) := by unfold rank; rw [h]; rfl
theorem rank_of_key {x y : Nat} (hx : isn x = false) (hy : isn y = false) (h : key x < key y) : rank x < rank y := by
  rw [rank_num x hx, rank_num y hy]
  unfold key at h
  cases h1 : neg x <;> cases h2 : neg y <;> rw [h1, h2] at h <;> simp at h ⊢ <;> omega
theorem rank_same {x y : Nat} (hx : isn x = false) (hy : isn y = false) (h : key x = key y) (hn : neg x = neg y) : rank x = rank y := by
  rw [rank_num x hx, rank_num y hy]
  unfold key at h
  rw [hn] at h ⊢
  cases neg y <;> simp at h ⊢ <;> omega
theorem rank_zero {x y : Nat} (hx : isn x = false) (hy : isn y = false) (h : key x = key y) (hn : neg x = true) (hm : neg y = false) : rank x < rank y := by
  rw [rank_num x hx, rank_num y hy]
  unfold key at h
  rw [hn, hm] at h ⊢
  simp at h ⊢
  omega
theorem ord_lt {x y : Nat} (h : rank x < rank y) : ordS x y = -1 := by unfold ordS; rw [if_pos h]
theorem ord_gt {x y : Nat} (h : rank y < rank x) : ordS x y = 1 := by unfold ordS; rw [if_neg (by omega), if_pos h]
theorem ord_eq {x y : Nat} (h : rank x = rank y) : ordS x y = 0 := by unfold ordS; rw [if_neg (by omega), if_neg (by omega)]

set_option maxHeartbeats 4000000 in
theorem Order_call (a b : Int) (w : World) (ha : (Lit.int .u64 a).wf = true) (hb : (Lit.int .u64 b).wf = true) :
    Calls Tryd.prog 12 #[.int .u64 a, .int .u64 b] w fun e w' => e = .returned (.int .i64 (ordS a.toNat b.toNat)) ∧ w' = w := by
  have hf := run_from
  have ha1 := u64_bd ha
  have hb1 := u64_bd hb
  have HX := Lib.hid (show a.toNat < 18446744073709551616 by omega)
  have HY := Lib.hid (show b.toNat < 18446744073709551616 by omega)
  clear ha hb ha1 hb1
  obtain ⟨x, hx⟩ : ∃ x, a.toNat = x := ⟨_, rfl⟩
  obtain ⟨y, hy⟩ : ∃ y, b.toNat = y := ⟨_, rfl⟩
  rw [hx] at HX
  rw [hy] at HY
  rw [hx, hy]
  cases hn : isn x
  · cases hm : isn y
    · have ho := order_key x y hn hm
      rcases Int.lt_trichotomy (key x) (key y) with hk | hk | hk
      · rw [ord_lt (rank_of_key hn hm hk)]
        rw [show compare (key x) (key y) = Ordering.lt by simp [compare, compareOfLessAndEq, hk]] at ho
        clear hk
        go_enter Tryd.func12, Tryd.ntmps12
        go_wp2_with (first | (go_at_call 22; refine (IsNaN_call _ _).mono ?_; rintro e w' ⟨rfl, rfl⟩) | (go_at_call 20; refine (Signbit_call _ _ (by first | exact HX.out | exact HY.out)).mono ?_; rintro e w' ⟨rfl, rfl⟩))
        go_ret
        exact ⟨rfl, rfl⟩
      · rw [show compare (key x) (key y) = Ordering.eq by simp [compare, compareOfLessAndEq, hk]] at ho
        cases h1 : neg x
        · cases h2 : neg y
          · rw [ord_eq (rank_same hn hm hk (h1.trans h2.symm))]
            clear hk
            go_enter Tryd.func12, Tryd.ntmps12
            go_wp2_with (first | (go_at_call 22; refine (IsNaN_call _ _).mono ?_; rintro e w' ⟨rfl, rfl⟩) | (go_at_call 20; refine (Signbit_call _ _ (by first | exact HX.out | exact HY.out)).mono ?_; rintro e w' ⟨rfl, rfl⟩))
            go_ret
            exact ⟨rfl, rfl⟩
          · rw [ord_gt (rank_zero hm hn hk.symm h2 h1)]
            clear hk
            go_enter Tryd.func12, Tryd.ntmps12
            go_wp2_with (first | (go_at_call 22; refine (IsNaN_call _ _).mono ?_; rintro e w' ⟨rfl, rfl⟩) | (go_at_call 20; refine (Signbit_call _ _ (by first | exact HX.out | exact HY.out)).mono ?_; rintro e w' ⟨rfl, rfl⟩))
            go_ret
            exact ⟨rfl, rfl⟩
        · cases h2 : neg y
          · rw [ord_lt (rank_zero hn hm hk h1 h2)]
            clear hk
            go_enter Tryd.func12, Tryd.ntmps12
            go_wp2_with (first | (go_at_call 22; refine (IsNaN_call _ _).mono ?_; rintro e w' ⟨rfl, rfl⟩) | (go_at_call 20; refine (Signbit_call _ _ (by first | exact HX.out | exact HY.out)).mono ?_; rintro e w' ⟨rfl, rfl⟩))
            go_ret
            exact ⟨rfl, rfl⟩
          · rw [ord_eq (rank_same hn hm hk (h1.trans h2.symm))]
            clear hk
            go_enter Tryd.func12, Tryd.ntmps12
            go_wp2_with (first | (go_at_call 22; refine (IsNaN_call _ _).mono ?_; rintro e w' ⟨rfl, rfl⟩) | (go_at_call 20; refine (Signbit_call _ _ (by first | exact HX.out | exact HY.out)).mono ?_; rintro e w' ⟨rfl, rfl⟩))
            go_ret
            exact ⟨rfl, rfl⟩
      · rw [ord_gt (rank_of_key hm hn hk)]
        rw [show compare (key x) (key y) = Ordering.gt by simp [compare, compareOfLessAndEq, show ¬ key x < key y by omega, show ¬ key x = key y by omega]] at ho
        clear hk
        go_enter Tryd.func12, Tryd.ntmps12
        go_wp2_with (first | (go_at_call 22; refine (IsNaN_call _ _).mono ?_; rintro e w' ⟨rfl, rfl⟩) | (go_at_call 20; refine (Signbit_call _ _ (by first | exact HX.out | exact HY.out)).mono ?_; rintro e w' ⟨rfl, rfl⟩))
        go_ret
        exact ⟨rfl, rfl⟩
    · rw [ord_gt (by have := rank_nan y hm; have := rank_lo x hn; omega)]
      go_enter Tryd.func12, Tryd.ntmps12
      go_wp2_with (first | (go_at_call 22; refine (IsNaN_call _ _).mono ?_; rintro e w' ⟨rfl, rfl⟩) | (go_at_call 20; refine (Signbit_call _ _ (by first | exact HX.out | exact HY.out)).mono ?_; rintro e w' ⟨rfl, rfl⟩))
      go_ret
      exact ⟨rfl, rfl⟩
  · cases hm : isn y
    · rw [ord_lt (by have := rank_nan x hn; have := rank_lo y hm; omega)]
      go_enter Tryd.func12, Tryd.ntmps12
      go_wp2_with (first | (go_at_call 22; refine (IsNaN_call _ _).mono ?_; rintro e w' ⟨rfl, rfl⟩) | (go_at_call 20; refine (Signbit_call _ _ (by first | exact HX.out | exact HY.out)).mono ?_; rintro e w' ⟨rfl, rfl⟩))
      go_ret
      exact ⟨rfl, rfl⟩
    · rw [ord_eq (by rw [rank_nan x hn, rank_nan y hm])]
      go_enter Tryd.func12, Tryd.ntmps12
      go_wp2_with (first | (go_at_call 22; refine (IsNaN_call _ _).mono ?_; rintro e w' ⟨rfl, rfl⟩) | (go_at_call 20; refine (Signbit_call _ _ (by first | exact HX.out | exact HY.out)).mono ?_; rintro e w' ⟨rfl, rfl⟩))
      go_ret
      exact ⟨rfl, rfl⟩
end Go.Proofs.YthgioldoeejjnaaDoor.Gf
