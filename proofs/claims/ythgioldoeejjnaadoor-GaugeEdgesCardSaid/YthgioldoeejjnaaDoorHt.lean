/- gauge: the reference's order and best. -/
import Derived.Test.YthgioldoeejjnaaDoorHr
import Derived.Test.YthgioldoeejjnaaDoorHb
import Derived.Laws.BitsAllLaws
namespace Go.Proofs.YthgioldoeejjnaaDoor.Gf
open Go.RowKit Go.Proofs.YthgioldoeejjnaaDoorW.PrintWords Go.Proofs.YthgioldoeejjnaaDoorW.PrintLast
set_option linter.unusedVariables false
set_option linter.unusedSimpArgs false

theorem xor_max (g : Nat) (h : g < 18446744073709551616) : 18446744073709551615 ^^^ g = 18446744073709551615 - g := by
  have h2 : g < 2 ^ 64 := h
  rw [show (18446744073709551615 : Nat) = 2 ^ 64 - 1 by decide, show 2 ^ 64 - 1 - g = 2 ^ 64 - (g + 1) by omega]
  apply Nat.eq_of_testBit_eq
  intro i
  rw [Nat.testBit_xor, Nat.testBit_two_pow_sub_one, Nat.testBit_two_pow_sub_succ h2]
  by_cases hi : i < 64
  · rw [decide_eq_true hi]; simp
  · rw [decide_eq_false hi, Nat.testBit_lt_two_pow (Nat.lt_of_lt_of_le h2 (Nat.pow_le_pow_right (by omega) (by omega)))]; rfl
theorem or_top (g : Nat) (h : g < 9223372036854775808) : g ||| 9223372036854775808 = 9223372036854775808 + g := by
  have := Nat.two_pow_add_eq_or_of_lt (i := 63) h 1
  rw [Nat.or_comm]
  rw [show (9223372036854775808 : Nat) = 2 ^ 63 * 1 by decide]
  exact this.symm

/-- The reference's rank. -/
def rankR (g : Nat) : Nat := if isn g then 0 else if neg g then 18446744073709551615 - g else 9223372036854775808 + g

theorem rankR_call (g : Int) (w : World) (h0 : 0 ≤ g) (hg : g.toNat < 18446744073709551616) :
    Calls Tryd.prog 27 #[.int .u64 g] w fun e w' => e = .returned (.int .u64 (rankR g.toNat : Nat)) ∧ w' = w := by
  have hne := ne_self g.toNat
  have hsb := sign_bit g hg h0
  unfold rankR
  cases hn : isn g.toNat
  · rw [hn] at hne
    have hq : neg g.toNat = true ∨ neg g.toNat = false := by cases neg g.toNat <;> simp
    rcases hq with hng | hng
    · rw [hng] at hsb ⊢
      have hx : bits .xor .u64 18446744073709551615 g = ((18446744073709551615 - g.toNat : Nat) : Int) := by
        have := u64_xor_nat 18446744073709551615 g.toNat (by decide) hg
        rw [xor_max _ hg, show ((g.toNat : Nat) : Int) = g by omega] at this
        exact this
      have HX := Lib.hid hx
      clear hng hn hx
      go_enter Tryd.func27, Tryd.ntmps27
      go_wp2_with (first
        | (go_at_call 28; refine (float_call _ _).mono ?_; rintro e w' ⟨rfl, rfl⟩))
      go_ret
      exact ⟨congrArg (fun z => Ending.returned (.int .u64 z)) HX.out, rfl⟩
    · rw [hng] at hsb ⊢
      have hx : bits .or .u64 g 9223372036854775808 = ((9223372036854775808 + g.toNat : Nat) : Int) := by
        have hlt : g.toNat < 9223372036854775808 := by
          unfold neg at hng
          rw [beq_eq_false_iff_ne] at hng
          omega
        have := u64_or_nat g.toNat 9223372036854775808 hg (by decide)
        rw [or_top _ hlt, show ((g.toNat : Nat) : Int) = g by omega] at this
        exact this
      have HX := Lib.hid hx
      clear hng hn hx
      go_enter Tryd.func27, Tryd.ntmps27
      go_wp2_with (first
        | (go_at_call 28; refine (float_call _ _).mono ?_; rintro e w' ⟨rfl, rfl⟩))
      go_ret
      exact ⟨congrArg (fun z => Ending.returned (.int .u64 z)) (HX.out.trans (by omega)), rfl⟩
  · rw [hn] at hne
    clear hn
    go_enter Tryd.func27, Tryd.ntmps27
    go_wp2_with (first
      | (go_at_call 28; refine (float_call _ _).mono ?_; rintro e w' ⟨rfl, rfl⟩))
    go_ret
    exact ⟨rfl, rfl⟩

theorem rankR_lt (x y : Nat) (hx : x < 18446744073709551616) (hy : y < 18446744073709551616) : rankR x < rankR y ↔ rank x < rank y := by
  have nb : ∀ z, z < 18446744073709551616 → (neg z = true → rung z = z - 9223372036854775808 ∧ 9223372036854775808 ≤ z) ∧ (neg z = false → rung z = z ∧ z < 9223372036854775808) := by
    intro z hz
    unfold neg rung
    constructor
    · intro h; rw [beq_iff_eq] at h; omega
    · intro h; rw [beq_eq_false_iff_ne] at h; omega
  have fb : ∀ z, isn z = false → rung z ≤ 9218868437227405312 := by
    intro z h
    rw [isn_key] at h
    have := of_decide_eq_false h
    omega
  obtain ⟨x1, x2⟩ := nb x hx
  obtain ⟨y1, y2⟩ := nb y hy
  have x3 := fb x
  have y3 := fb y
  unfold rankR rank
  cases hnx : isn x <;> cases hny : isn y <;> cases hgx : neg x <;> cases hgy : neg y <;> simp [hnx, hny, hgx, hgy] at x1 x2 y1 y2 x3 y3 ⊢ <;> omega

theorem OrderR_call (a b : Int) (w : World) (ha : (Lit.int .u64 a).wf = true) (hb : (Lit.int .u64 b).wf = true) :
    Calls Tryd.prog 13 #[.int .u64 a, .int .u64 b] w fun e w' => e = .returned (.int .i64 (ordS a.toNat b.toNat)) ∧ w' = w := by
  have ha1 := u64_bd ha
  have hb1 := u64_bd hb
  have HX := Lib.hid (show 0 ≤ a ∧ a.toNat < 18446744073709551616 by omega)
  have HY := Lib.hid (show 0 ≤ b ∧ b.toNat < 18446744073709551616 by omega)
  clear ha hb ha1 hb1
  have k1 := rankR_lt a.toNat b.toNat HX.out.2 HY.out.2
  have k2 := rankR_lt b.toNat a.toNat HY.out.2 HX.out.2
  unfold ordS
  rcases Nat.lt_trichotomy (rankR a.toNat) (rankR b.toNat) with h | h | h
  · rw [if_pos (k1.1 h)]
    clear k1 k2
    go_enter Tryd.func13, Tryd.ntmps13
    go_wp2_with (first
      | (go_at_call 27; refine (rankR_call _ _ (by first | exact HX.out.1 | exact HY.out.1) (by first | exact HX.out.2 | exact HY.out.2)).mono ?_; rintro e w' ⟨rfl, rfl⟩))
    go_ret
    exact ⟨rfl, rfl⟩
  · rw [if_neg (fun q => by have := k1.2 q; omega), if_neg (fun q => by have := k2.2 q; omega)]
    have hn1 : ¬ rankR a.toNat < rankR b.toNat := by omega
    have hn2 : ¬ rankR b.toNat < rankR a.toNat := by omega
    clear k1 k2 h
    go_enter Tryd.func13, Tryd.ntmps13
    go_wp2_with (first
      | (go_at_call 27; refine (rankR_call _ _ (by first | exact HX.out.1 | exact HY.out.1) (by first | exact HX.out.2 | exact HY.out.2)).mono ?_; rintro e w' ⟨rfl, rfl⟩))
    go_ret
    exact ⟨rfl, rfl⟩
  · rw [if_neg (fun q => by have := k1.2 q; omega), if_pos (k2.1 h)]
    have hn1 : ¬ rankR a.toNat < rankR b.toNat := by omega
    clear k1 k2
    go_enter Tryd.func13, Tryd.ntmps13
    go_wp2_with (first
      | (go_at_call 27; refine (rankR_call _ _ (by first | exact HX.out.1 | exact HY.out.1) (by first | exact HX.out.2 | exact HY.out.2)).mono ?_; rintro e w' ⟨rfl, rfl⟩))
    go_ret
    exact ⟨rfl, rfl⟩

set_option maxHeartbeats 4000000 in
theorem BestR_call (A : Option Addr) (c : Nat) (l : List Int) (w : World) (hC : Kd.C (Kd.int .u64) w A l.length l) (hl : l.length ≤ 140737488355328) (hF : ∀ x ∈ l, (Lit.int .u64 x).wf = true) :
    Calls Tryd.prog 11 #[.slice A l.length c] w fun e w' => e = .returned (.tuple #[.int .i64 (bestP l l.length : Nat), .bool (decide (0 < l.length))]) ∧ w' = w := by
  have HC := Lib.hid hC
  have HL := Lib.hid hl
  have HF := Lib.hid hF
  clear hC hl hF
  go_enter Tryd.func11, Tryd.ntmps11
  go_wp2_with (fail)
  go_loopg [4, 9] l.length (fun kq v4 v9 W => ∃ (i : Nat), v9 = .int .i64 i ∧ v4 = .int .i64 (bestP l i : Nat) ∧ Aside0 (i + kq = l.length) ∧ Aside0 (W = w))
  case atStart => exact ⟨0, rfl, rfl, ⟨by omega⟩, ⟨rfl⟩⟩
  case round =>
    obtain ⟨i, rfl, rfl, hk, hww⟩ := hrel
    obtain rfl := hww.out
    clear hww
    by_cases hi : i < l.length
    · have hib : decide (i < l.length) = true := decide_eq_true hi
      have hbl := bestP_lt l i (by omega) (by omega)
      have hbb : decide (bestP l i < l.length) = true := decide_eq_true hbl
      obtain ⟨ad, rfl, hx⟩ := Kd.at_int HC.out (i : Int) (by omega) (by omega)
      obtain ⟨ad2, e2, hy⟩ := Kd.at_int HC.out (bestP l i : Nat) (by omega) (by omega)
      cases e2
      simp only [Int.toNat_natCast] at hx hy
      have W1 := Lib.hid (HF.out _ (rd_mem hi))
      have W2 := Lib.hid (HF.out _ (rd_mem hbl))
      have HI := Lib.hid hi
      have hs1 : wrap64 ((i : Int) + 1) = ((i + 1 : Nat) : Int) := by unfold wrap64; have := HL.out; omega
      clear hi
      by_cases ho : 0 < ordS (rd l (i : Int)).toNat (rd l (bestP l i : Nat)).toNat
      · have HO := Lib.hid ho
        go_wp2_with (first | (go_at_call 13; refine (OrderR_call _ _ _ W1.out W2.out).mono ?_; rintro e w' ⟨rfl, rfl⟩))
        go_roundg (l.length - (i + 1))
        case measure => have := hk.out; have := HI.out; omega
        case rel => exact ⟨i + 1, congrArg _ hs1, by rw [bestP, if_pos HO.out], ⟨by have := HI.out; omega⟩, ⟨rfl⟩⟩
      · have HO := Lib.hid ho
        go_wp2_with (first | (go_at_call 13; refine (OrderR_call _ _ _ W1.out W2.out).mono ?_; rintro e w' ⟨rfl, rfl⟩))
        go_roundg (l.length - (i + 1))
        case measure => have := hk.out; have := HI.out; omega
        case rel => exact ⟨i + 1, congrArg _ hs1, by rw [bestP, if_neg (by have := HO.out; omega)], ⟨by have := HI.out; omega⟩, ⟨rfl⟩⟩
    · have hib : decide (i < l.length) = false := decide_eq_false hi
      have hil : i = l.length := by have := hk.out; omega
      have HIL := Lib.hid hil
      clear hi hil
      go_wp2
      go_ret2
      exact ⟨by rw [HIL.out]; rfl, rfl⟩
end Go.Proofs.YthgioldoeejjnaaDoor.Gf
