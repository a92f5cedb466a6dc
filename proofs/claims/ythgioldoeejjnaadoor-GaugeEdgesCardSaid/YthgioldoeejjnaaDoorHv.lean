/- gauge: what a float is in its least units; how it is cut, turned into a whole number, and held against one. -/
import Derived.Test.YthgioldoeejjnaaDoorHz
namespace Go.Proofs.YthgioldoeejjnaaDoor.Gf
open Go.RowKit Go.Proofs.YthgioldoeejjnaaDoorW.PrintWords Go.Proofs.YthgioldoeejjnaaDoorW.PrintLast
set_option linter.unusedVariables false
set_option linter.unusedSimpArgs false

/-- The unit's count in one. -/
def e74 : Nat := 1074
def UN : Nat := 2 ^ e74
theorem UN_pos : 0 < UN := Nat.two_pow_pos _

theorem pow_split (a b : Nat) (h : a ≤ b) : (2 : Nat) ^ b = 2 ^ a * 2 ^ (b - a) := by rw [← Nat.pow_add]; congr 1; omega

theorem min_fin (e m k : Nat) (hk2 : k = (e + 1) * 4503599627370496 + m) (hk : k < 9218868437227405312) : min (e * 4503599627370496 + (4503599627370496 + m)) 9218868437227405312 = k := by omega
/-- Whatever has a rung's value is written as that rung. -/
theorem near_any (s : Bool) (mag c k : Nat) (hk : k < 9218868437227405312) (hv : mag * 2 ^ c = valR k) : F64.nearest s mag (-1074 + (c : Int)) = wordR s k := by
  unfold Ieee.Format.nearest
  rw [show F64.fractionBits = 52 from rfl, show F64.leastPlace = -1074 from rfl, show F64.binade = 4503599627370496 from rfl, show F64.infRung = 9218868437227405312 from rfl]
  have hc := Nat.two_pow_pos c
  by_cases h0 : k = 0
  · subst h0
    rw [valR_zero] at hv
    have hm : mag = 0 := by
      rcases Nat.mul_eq_zero.1 hv with h | h
      · exact h
      · omega
    rw [if_pos hm]
    exact word_eq s 0
  · have hvk : valR k ≠ 0 := by have := valR_lt (show 0 < k by omega); rw [valR_zero] at this; omega
    have hm : mag ≠ 0 := by
      intro e
      rw [e, Nat.zero_mul] at hv
      exact hvk hv.symm
    rw [if_neg hm]
    dsimp only
    have hlog : (mag * 2 ^ c).log2 = mag.log2 + c := by
      rw [Nat.log2_eq_iff (by rw [hv]; exact hvk)]
      obtain ⟨l1, l2⟩ := (Nat.log2_eq_iff hm).1 rfl
      rw [Nat.pow_add, show mag.log2 + c + 1 = (mag.log2 + 1) + c by omega, Nat.pow_add]
      exact ⟨Nat.mul_le_mul_right _ l1, Nat.mul_lt_mul_of_pos_right l2 hc⟩
    by_cases h1 : k < 4503599627370496
    · have e1 : valR k = k := by
        unfold valR magR plcR
        rw [if_pos h1, if_pos h1]
        omega
      rw [e1] at hv
      have hl : k.log2 < 52 := by
        rw [Nat.log2_lt h0]
        exact h1
      rw [hv] at hlog
      rw [show max (-1074 + (c : Int) + (mag.log2 : Int) - (52 : Nat)) (-1074) = -1074 by omega, show ((-1074 : Int) + (c : Int) - -1074).toNat = c by omega, show ((-1074 : Int) - (-1074 + (c : Int))).toNat = 0 by omega, Nat.shiftLeft_eq, hv]
      have := cut_exact k 0 s (by omega)
      rw [Nat.pow_zero, Nat.mul_one] at this
      rw [this, word_eq, show ((-1074 : Int) - -1074).toNat = 0 from rfl, Nat.zero_mul, Nat.zero_add, Nat.min_eq_left (by omega)]
    · obtain ⟨e, he⟩ : ∃ e, plcR k = e := ⟨_, rfl⟩
      have he2 : k / 4503599627370496 = e + 1 := by
        unfold plcR at he
        rw [if_neg h1] at he
        omega
      have e1 : valR k = (4503599627370496 + k % 4503599627370496) * 2 ^ e := by
        unfold valR magR
        rw [if_neg h1, he]
      have hmm : k % 4503599627370496 < 4503599627370496 := Nat.mod_lt _ (by decide)
      have hk2 : k = (e + 1) * 4503599627370496 + k % 4503599627370496 := by omega
      generalize k % 4503599627370496 = m at *
      have hl : ((4503599627370496 + m) * 2 ^ e).log2 = 52 + e := by
        rw [Nat.log2_eq_iff (by have := Nat.two_pow_pos e; exact Nat.mul_ne_zero (by omega) (by omega))]
        have hp := Nat.two_pow_pos e
        rw [Nat.pow_add, Nat.pow_add, Nat.pow_add]
        constructor
        · exact Nat.mul_le_mul_right _ (by omega)
        · rw [Nat.mul_assoc, Nat.mul_comm (2 ^ e), ← Nat.mul_assoc]
          exact Nat.mul_lt_mul_of_pos_right (by omega) hp
      rw [e1] at hv
      rw [hv, hl] at hlog
      rw [show max (-1074 + (c : Int) + (mag.log2 : Int) - (52 : Nat)) (-1074) = -1074 + (e : Int) by omega, show ((-1074 + (e : Int)) - -1074).toNat = e by omega]
      have hcut : Ieee.Toward.even.cut s (mag <<< ((-1074 : Int) + (c : Int) - (-1074 + (e : Int))).toNat) ((-1074 + (e : Int)) - (-1074 + (c : Int))).toNat = 4503599627370496 + m := by
        by_cases hce : e ≤ c
        · rw [show ((-1074 + (e : Int)) - (-1074 + (c : Int))).toNat = 0 by omega, show ((-1074 : Int) + (c : Int) - (-1074 + (e : Int))).toNat = c - e by omega, Nat.shiftLeft_eq]
          have hq : mag * 2 ^ (c - e) = 4503599627370496 + m := by
            rw [pow_split e c hce, Nat.mul_comm (2 ^ e), ← Nat.mul_assoc] at hv
            exact Nat.eq_of_mul_eq_mul_right (Nat.two_pow_pos e) hv
          rw [hq]
          have := cut_exact (4503599627370496 + m) 0 s (by omega)
          rw [Nat.pow_zero, Nat.mul_one] at this
          exact this
        · rw [show ((-1074 + (e : Int)) - (-1074 + (c : Int))).toNat = e - c by omega, show ((-1074 : Int) + (c : Int) - (-1074 + (e : Int))).toNat = 0 by omega, Nat.shiftLeft_zero]
          have hq : mag = (4503599627370496 + m) * 2 ^ (e - c) := by
            rw [pow_split c e (by omega), Nat.mul_comm (2 ^ c), ← Nat.mul_assoc] at hv
            exact Nat.eq_of_mul_eq_mul_right hc hv
          rw [hq] at hlog ⊢
          exact cut_exact _ _ s (by omega)
      rw [hcut, word_eq]
      exact congrArg _ (min_fin e m k hk2 hk)

/-- What has few digits is some rung's value. -/
theorem valR_rep (m q : Nat) (hm : m < 9007199254740992) (hq : q ≤ 1100) : ∃ k, k < 9218868437227405312 ∧ valR k = m * 2 ^ q := by
  by_cases h0 : m = 0
  · exact ⟨0, by omega, by rw [h0, valR_zero, Nat.zero_mul]⟩
  · obtain ⟨L, hL⟩ : ∃ L, m.log2 = L := ⟨_, rfl⟩
    obtain ⟨l1, l2⟩ := (Nat.log2_eq_iff h0).1 hL
    have hL2 : L ≤ 52 := by
      have : m.log2 < 53 := by rw [Nat.log2_lt h0]; exact hm
      omega
    by_cases hs : q + L < 52
    · have hlt : m * 2 ^ q < 4503599627370496 := by
        have h1 : m * 2 ^ q < 2 ^ (L + 1) * 2 ^ q := Nat.mul_lt_mul_of_pos_right l2 (Nat.two_pow_pos q)
        rw [← Nat.pow_add] at h1
        have h2 : 2 ^ (L + 1 + q) ≤ 2 ^ 52 := Nat.pow_le_pow_right (by omega) (by omega)
        exact Nat.lt_of_lt_of_le h1 h2
      refine ⟨m * 2 ^ q, by omega, ?_⟩
      generalize m * 2 ^ q = k at *
      unfold valR magR plcR
      rw [if_pos hlt, if_pos hlt]
      omega
    · obtain ⟨e, he⟩ : ∃ e, e = q + L - 52 := ⟨_, rfl⟩
      have hM1 : 4503599627370496 ≤ m * 2 ^ (52 - L) := by
        have h1 : 2 ^ L * 2 ^ (52 - L) ≤ m * 2 ^ (52 - L) := Nat.mul_le_mul_right _ l1
        rw [← Nat.pow_add, show L + (52 - L) = 52 by omega] at h1
        exact h1
      have hM2 : m * 2 ^ (52 - L) < 9007199254740992 := by
        have h1 : m * 2 ^ (52 - L) < 2 ^ (L + 1) * 2 ^ (52 - L) := Nat.mul_lt_mul_of_pos_right l2 (Nat.two_pow_pos _)
        rw [← Nat.pow_add, show L + 1 + (52 - L) = 53 by omega] at h1
        exact h1
      have hval : m * 2 ^ (52 - L) * 2 ^ e = m * 2 ^ q := by
        rw [Nat.mul_assoc, ← Nat.pow_add]
        congr 2
        omega
      rw [← hval]
      generalize m * 2 ^ (52 - L) = M at *
      refine ⟨(e + 1) * 4503599627370496 + (M - 4503599627370496), by omega, ?_⟩
      have d1 : ((e + 1) * 4503599627370496 + (M - 4503599627370496)) / 4503599627370496 = e + 1 := by omega
      have d2 : ((e + 1) * 4503599627370496 + (M - 4503599627370496)) % 4503599627370496 = M - 4503599627370496 := by omega
      have d3 : ¬ ((e + 1) * 4503599627370496 + (M - 4503599627370496)) < 4503599627370496 := by omega
      unfold valR magR plcR
      rw [if_neg d3, if_neg d3, d1, d2]
      rw [show 4503599627370496 + (M - 4503599627370496) = M by omega, show e + 1 - 1 = e by omega]

/-- How a value is made whole. -/
def evenU (V : Nat) : Nat := V / UN + (UN < 2 * (V % UN) || (UN == 2 * (V % UN) && V / UN % 2 == 1)).toNat
def wayU (way : Ieee.Toward) (V : Nat) : Nat := match way with | .even => evenU V | _ => V / UN

theorem cut_unit (way : Ieee.Toward) (hw : way = .even ∨ way = .zero) (s : Bool) (m p : Nat) :
    way.cut s (m <<< ((-1074 + (p : Int)).toNat)) (-(-1074 + (p : Int))).toNat = wayU way (m * 2 ^ p) := by
  by_cases hp : 1074 ≤ p
  · rw [show (-1074 + (p : Int)).toNat = p - 1074 by omega, show (-(-1074 + (p : Int))).toNat = 0 by omega, Nat.shiftLeft_eq]
    have hv : m * 2 ^ p = m * 2 ^ (p - 1074) * UN := by
      rw [pow_split e74 p hp, Nat.mul_comm (2 ^ e74), ← Nat.mul_assoc]; rfl
    rw [hv]
    generalize m * 2 ^ (p - 1074) = n
    have e1 : n * UN / UN = n := Nat.mul_div_cancel _ UN_pos
    have e2 : n * UN % UN = 0 := Nat.mul_mod_left _ _
    unfold Ieee.Toward.cut wayU evenU
    rw [e1, e2, Nat.min_eq_left (Nat.zero_le _)]
    have hup := UN_pos
    have b1 : (decide (UN < 2 * 0) || (UN == 2 * 0 && n % 2 == 1)) = false := by
      rw [decide_eq_false (by omega), show (UN == 2 * 0) = false by rw [beq_eq_false_iff_ne]; omega]
      rfl
    rcases hw with rfl | rfl
    · dsimp only
      rw [b1, show (1 : Nat) <<< 0 = 1 from rfl, Nat.div_one, Nat.mod_one]
      rfl
    · dsimp only
      rw [show (1 : Nat) <<< 0 = 1 from rfl, Nat.div_one]
      rfl
  · rw [show (-1074 + (p : Int)).toNat = 0 by omega, show (-(-1074 + (p : Int))).toNat = 1074 - p by omega, Nat.shiftLeft_zero]
    obtain ⟨d, hd⟩ : ∃ d, d = 1074 - p := ⟨_, rfl⟩
    rw [← hd]
    have hU : UN = 2 ^ d * 2 ^ p := by unfold UN; rw [← Nat.pow_add, show e74 = d + p by unfold e74; omega]
    have hpp := Nat.two_pow_pos p
    have hdp := Nat.two_pow_pos d
    have q1 : m * 2 ^ p / UN = m / 2 ^ d := by rw [hU, Nat.mul_comm (2 ^ d), ← Nat.div_div_eq_div_mul, Nat.mul_div_cancel _ hpp]
    have q2 : m * 2 ^ p % UN = m % 2 ^ d * 2 ^ p := by rw [hU, Nat.mul_mod_mul_right]
    have q3 : (UN < 2 * (m * 2 ^ p % UN)) ↔ 2 ^ d < 2 * (m % 2 ^ d) := by
      rw [q2, hU, ← Nat.mul_assoc]
      exact Nat.mul_lt_mul_right hpp
    have q4 : (UN = 2 * (m * 2 ^ p % UN)) ↔ 2 ^ d = 2 * (m % 2 ^ d) := by
      rw [q2, hU, ← Nat.mul_assoc]
      exact Nat.mul_left_inj (by omega)
    have hev : evenU (m * 2 ^ p) = m / 2 ^ d + (decide (2 ^ d < 2 * (m % 2 ^ d)) || (2 ^ d == 2 * (m % 2 ^ d) && m / 2 ^ d % 2 == 1)).toNat := by
      unfold evenU
      rw [q1, show decide (UN < 2 * (m * 2 ^ p % UN)) = decide (2 ^ d < 2 * (m % 2 ^ d)) by rw [decide_eq_decide]; exact q3,
        show (UN == 2 * (m * 2 ^ p % UN)) = (2 ^ d == 2 * (m % 2 ^ d)) by rw [Bool.eq_iff_iff, beq_iff_eq, beq_iff_eq]; exact q4]
    have hsm : wayU way (m * 2 ^ p) = m / 2 ^ d + (match way with | .even => (decide (2 ^ d < 2 * (m % 2 ^ d)) || (2 ^ d == 2 * (m % 2 ^ d) && m / 2 ^ d % 2 == 1)) | _ => false).toNat := by
      unfold wayU
      rcases hw with rfl | rfl
      · exact hev
      · exact q1
    rw [hsm]
    unfold Ieee.Toward.cut
    by_cases hlg : d ≤ m.log2 + 2
    · rw [Nat.min_eq_left hlg, Nat.one_shiftLeft]
      rcases hw with rfl | rfl <;> rfl
    · rw [Nat.min_eq_right (by omega), Nat.one_shiftLeft]
      have hml : m < 2 ^ (m.log2 + 1) := by
        by_cases h0 : m = 0
        · subst h0; decide
        · exact ((Nat.log2_eq_iff h0).1 rfl).2
      have hp2 : 2 ^ (m.log2 + 2) = 2 * 2 ^ (m.log2 + 1) := by rw [show m.log2 + 2 = m.log2 + 1 + 1 by omega, Nat.pow_succ, Nat.mul_comm]
      have hge : 2 ^ (m.log2 + 2) ≤ 2 ^ d := Nat.pow_le_pow_right (by omega) (by omega)
      generalize 2 ^ (m.log2 + 2) = g at *
      generalize 2 ^ (m.log2 + 1) = g' at *
      have a1 : m / g = 0 := Nat.div_eq_of_lt (by omega)
      have a2 : m % g = m := Nat.mod_eq_of_lt (by omega)
      have a3 : m / 2 ^ d = 0 := Nat.div_eq_of_lt (by omega)
      have a4 : m % 2 ^ d = m := Nat.mod_eq_of_lt (by omega)
      generalize 2 ^ d = h at *
      rcases hw with rfl | rfl
      · dsimp only
        rw [a1, a2, a3, a4, decide_eq_false (show ¬ g < 2 * m by omega), decide_eq_false (show ¬ h < 2 * m by omega), show (g == 2 * m) = false by rw [beq_eq_false_iff_ne]; omega, show (h == 2 * m) = false by rw [beq_eq_false_iff_ne]; omega]
      · dsimp only
        rw [a1, a3]
end Go.Proofs.YthgioldoeejjnaaDoor.Gf
