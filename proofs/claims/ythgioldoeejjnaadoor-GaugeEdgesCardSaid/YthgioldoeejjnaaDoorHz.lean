/- gauge: what this seat needs of the gauge. -/
import Derived.Test.YthgioldoeejjnaaDoorHk
import Derived.Test.YthgioldoeejjnaaDoorHe
namespace Go.Proofs.YthgioldoeejjnaaDoor.Gf
open Go.RowKit Go.Proofs.YthgioldoeejjnaaDoorW.PrintWords Go.Proofs.YthgioldoeejjnaaDoorW.PrintLast
set_option linter.unusedVariables false
set_option linter.unusedSimpArgs false
abbrev F64 : Ieee.Format := FloatKind.f64.format
def isi (x : Nat) : Bool := decide (rung x = 9218868437227405312)
def wordR (s : Bool) (k : Nat) : Nat := if s then 9223372036854775808 + k else k
theorem word_eq (s : Bool) (k : Nat) : F64.word s k = wordR s k := by
  unfold Ieee.Format.word wordR
  rw [show F64.signWeight = 9223372036854775808 from rfl]
theorem rung_word (s : Bool) (k : Nat) (h : k < 9223372036854775808) : rung (wordR s k) = k := by
  unfold rung wordR
  cases s <;> simp <;> omega
theorem neg_word (s : Bool) (k : Nat) (h : k < 9223372036854775808) : neg (wordR s k) = s := by
  unfold neg wordR
  cases s
  · rw [if_neg (by simp)]
    rw [show k / 9223372036854775808 = 0 by omega]; rfl
  · rw [if_pos rfl]
    rw [show (9223372036854775808 + k) / 9223372036854775808 = 1 by omega]; rfl
theorem key_word (s : Bool) (k : Nat) (h : k < 9223372036854775808) : key (wordR s k) = if s then -(k : Int) else (k : Int) := by
  unfold key
  rw [rung_word s k h, neg_word s k h]

theorem near_le (s : Bool) (m : Nat) (p : Int) : ∃ k, k ≤ 9218868437227405312 ∧ F64.nearest s m p = wordR s k := by
  unfold Ieee.Format.nearest
  split
  · exact ⟨0, by omega, word_eq s 0⟩
  · refine ⟨_, ?_, word_eq s _⟩
    exact Nat.min_le_right _ _
theorem near_isn (s : Bool) (m : Nat) (p : Int) : isn (F64.nearest s m p) = false := by
  obtain ⟨k, hk, e⟩ := near_le s m p
  rw [e, isn_key, rung_word s k (by omega)]
  simp
  omega

theorem cut_exact (m e : Nat) (s : Bool) (he : e ≤ (m * 2 ^ e).log2 + 2) : Ieee.Toward.even.cut s (m * 2 ^ e) e = m := by
  unfold Ieee.Toward.cut
  rw [Nat.min_eq_left he, Nat.one_shiftLeft]
  have hp := Nat.two_pow_pos e
  dsimp only
  rw [Nat.mul_div_cancel _ hp, Nat.mul_mod_left]
  rw [show (decide (2 ^ e < 2 * 0) || (2 ^ e == 2 * 0 && m % 2 == 1)) = false by
    rw [decide_eq_false (by omega), show (2 ^ e == 2 * 0) = false by simp [beq_eq_false_iff_ne]]
    rfl]
  rfl

/-- A rung's number is written as that rung. -/
theorem near_valR (s : Bool) (k : Nat) (hk : k < 9218868437227405312) : F64.nearest s (valR k) (-1074) = wordR s k := by
  unfold Ieee.Format.nearest
  rw [show F64.fractionBits = 52 from rfl, show F64.leastPlace = -1074 from rfl, show F64.binade = 4503599627370496 from rfl, show F64.infRung = 9218868437227405312 from rfl]
  by_cases h0 : k = 0
  · subst h0
    rw [valR_zero, if_pos rfl]
    exact word_eq s 0
  · have hv : valR k ≠ 0 := by have := valR_lt (show 0 < k by omega); omega
    rw [if_neg hv]
    dsimp only
    by_cases h1 : k < 4503599627370496
    · have e1 : valR k = k := by
        unfold valR magR plcR
        rw [if_pos h1, if_pos h1]
        omega
      have hl : k.log2 < 52 := by
        rw [Nat.log2_lt h0]
        exact h1
      rw [e1, show max (-1074 + (k.log2 : Int) - (52 : Nat)) (-1074) = -1074 by omega, show (((-1074 : Int) - -1074).toNat) = 0 by rfl, Nat.shiftLeft_zero]
      have := cut_exact k 0 s (by omega)
      rw [Nat.pow_zero, Nat.mul_one] at this
      rw [this, word_eq, Nat.zero_mul, Nat.zero_add, Nat.min_eq_left (by omega)]
    · obtain ⟨e, he⟩ : ∃ e, plcR k = e := ⟨_, rfl⟩
      have he2 : k / 4503599627370496 = e + 1 := by
        unfold plcR at he
        rw [if_neg h1] at he
        omega
      have e1 : valR k = (4503599627370496 + k % 4503599627370496) * 2 ^ e := by
        unfold valR magR
        rw [if_neg h1, he]
      have hm : k % 4503599627370496 < 4503599627370496 := Nat.mod_lt _ (by decide)
      have hk2 : k = (e + 1) * 4503599627370496 + k % 4503599627370496 := by omega
      generalize k % 4503599627370496 = m at *
      have hl : ((4503599627370496 + m) * 2 ^ e).log2 = 52 + e := by
        rw [Nat.log2_eq_iff (by have := Nat.two_pow_pos e; exact Nat.mul_ne_zero (by omega) (by omega))]
        have hp := Nat.two_pow_pos e
        rw [Nat.pow_add, Nat.pow_add, Nat.pow_add]
        constructor
        · exact Nat.mul_le_mul_right _ (by omega)
        · rw [Nat.mul_assoc, Nat.mul_comm (2 ^ e), ← Nat.mul_assoc]
          exact Nat.mul_lt_mul_of_pos_right (by omega) hp
      rw [e1, hl, show max (-1074 + ((52 + e : Nat) : Int) - (52 : Nat)) (-1074) = -1074 + (e : Int) by omega, show ((-1074 : Int) - (-1074 + (e : Int))).toNat = 0 by omega, show ((-1074 + (e : Int)) - -1074).toNat = e by omega, Nat.shiftLeft_zero, cut_exact _ e s (by rw [hl]; omega), word_eq]
      congr 1
      omega

theorem signed_natAbs (s : Bool) (m u : Nat) : (Ieee.signed s m u).natAbs = m * 2 ^ u := by
  unfold Ieee.signed
  rw [Nat.shiftLeft_eq]
  cases s
  · rw [if_neg (by simp)]; omega
  · rw [if_pos rfl]; omega

/-- Nought put to a finite float. -/
theorem add_zero_key (a z : Nat) (ha : rung a < 9218868437227405312) (hz : rung z = 0) : ∃ r, floatBits .add .f64 a z = some r ∧ isn r = false ∧ key r = key a := by
  unfold floatBits
  change ∃ r, F64.add a z = some r ∧ _
  unfold Ieee.Format.add
  rw [show F64.read a = _ from read_key a, show F64.read z = _ from read_key z, if_pos ha, hz, if_pos (by decide)]
  rw [show magR 0 = 0 from rfl, show plcR 0 = 0 from rfl]
  unfold Ieee.Datum.sum
  dsimp only
  rw [show min (-1074 + (plcR (rung a) : Int)) (-1074 + ((0 : Nat) : Int)) = -1074 by omega, show (-1074 + (plcR (rung a) : Int) - -1074).toNat = plcR (rung a) by omega]
  rw [show Ieee.signed (neg z) 0 (-1074 + ((0 : Nat) : Int) - -1074).toNat = 0 by unfold Ieee.signed; cases neg z <;> rfl, Int.add_zero]
  rw [Option.map_some]
  refine ⟨_, rfl, ?_⟩
  rw [signed_natAbs, show magR (rung a) * 2 ^ plcR (rung a) = valR (rung a) from rfl]
  refine ⟨near_isn _ _ _, ?_⟩
  have hw : ∀ s, F64.write (.number s (valR (rung a)) (-1074)) = wordR s (rung a) := fun s => near_valR s _ ha
  rw [hw, key_word _ _ (by omega)]
  unfold key
  by_cases h0 : rung a = 0
  · rw [h0]
    cases neg a <;> (split <;> simp)
  · have hv : valR (rung a) ≠ 0 := by have := valR_lt (show 0 < rung a by omega); omega
    have hsg : Ieee.signed (neg a) (magR (rung a)) (plcR (rung a)) = if neg a then -(valR (rung a) : Int) else (valR (rung a) : Int) := by
      unfold Ieee.signed valR
      rw [Nat.shiftLeft_eq]
    rw [hsg]
    cases neg a
    · simp only [Bool.false_eq_true, if_false]
      rw [if_neg (show ¬ (valR (rung a) : Int) = 0 by omega), decide_eq_false (show ¬ (valR (rung a) : Int) < 0 by omega)]
      rfl
    · simp only [if_true]
      rw [if_neg (show ¬ -(valR (rung a) : Int) = 0 by omega), decide_eq_true (show -(valR (rung a) : Int) < 0 by omega)]
      rfl

/-- A finite float by nought. -/
theorem mul_zero_rung (d : Nat) (hd : rung d < 9218868437227405312) : ∃ r, floatBits .mul .f64 d 0 = some r ∧ rung r = 0 := by
  unfold floatBits
  change ∃ r, F64.mul d 0 = some r ∧ _
  unfold Ieee.Format.mul
  rw [show F64.read d = _ from read_key d, if_pos hd, show F64.read 0 = .number false 0 (-1074) by decide]
  unfold Ieee.Datum.product
  dsimp only
  rw [Nat.mul_zero, Option.map_some]
  refine ⟨_, rfl, ?_⟩
  unfold Ieee.Format.write Ieee.Format.nearest
  dsimp only
  rw [if_pos rfl, word_eq, rung_word _ _ (by decide)]

theorem sub_fin (b a : Nat) (hb : isn b = false) (ha : rung a < 9218868437227405312) : ∃ r, floatBits .sub .f64 b a = some r ∧ isn r = false := by
  unfold floatBits
  change ∃ r, F64.sub b a = some r ∧ _
  unfold Ieee.Format.sub
  rw [isn_key] at hb
  have hb1 := of_decide_eq_false hb
  rw [show F64.read a = _ from read_key a, show F64.read b = _ from read_key b, if_pos ha]
  by_cases h : rung b < 9218868437227405312
  · rw [if_pos h]
    unfold Ieee.Datum.opposite Ieee.Datum.sum
    dsimp only
    rw [Option.map_some]
    exact ⟨_, rfl, near_isn _ _ _⟩
  · rw [if_neg h, if_pos (by omega)]
    unfold Ieee.Datum.opposite Ieee.Datum.sum
    dsimp only
    rw [Option.map_some]
    refine ⟨_, rfl, ?_⟩
    unfold Ieee.Format.write
    dsimp only
    rw [word_eq, show F64.infRung = 9218868437227405312 from rfl, isn_key, rung_word _ _ (by decide)]
    rfl

end Go.Proofs.YthgioldoeejjnaaDoor.Gf
