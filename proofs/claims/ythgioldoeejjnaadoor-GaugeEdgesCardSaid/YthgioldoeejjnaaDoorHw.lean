/- gauge: a float that is no less than nought, made whole; what is left of it. -/
import Derived.Test.YthgioldoeejjnaaDoorHv
import Derived.Test.YthgioldoeejjnaaDoorHo
namespace Go.Proofs.YthgioldoeejjnaaDoor.Gf
open Go.RowKit Go.Proofs.YthgioldoeejjnaaDoorW.PrintWords Go.Proofs.YthgioldoeejjnaaDoorW.PrintLast
set_option linter.unusedVariables false
set_option linter.unusedSimpArgs false

/-- A finite float that is no less than nought. -/
structure Fin (x : Nat) : Prop where
  ng : neg x = false
  lt : rung x < 9218868437227405312
/-- In its least units. -/
def val (x : Nat) : Nat := valR (rung x)
/-- Below 2 ^ 53. -/
structure Small (x : Nat) : Prop extends Fin x where
  sm : val x < 9007199254740992 * UN

theorem Fin.isn {x : Nat} (h : Fin x) : isn x = false := by rw [isn_key, decide_eq_false (by have := h.lt; omega)]
theorem Fin.read {x : Nat} (h : Fin x) : F64.read x = .number false (magR (rung x)) (-1074 + (plcR (rung x) : Int)) := by
  rw [show F64.read x = _ from read_key x, if_pos h.lt, h.ng]
theorem Fin.key {x : Nat} (h : Fin x) : key x = rung x := by unfold Gf.key; rw [h.ng]; rfl
theorem Fin.order {x y : Nat} (h : Fin x) (k : Fin y) : F64.order x y = some (compare (val x) (val y)) := by
  rw [show F64.order x y = _ from order_key x y h.isn k.isn, h.key, k.key]
  obtain ⟨h1, h2⟩ := valR_cmp (rung x) (rung y)
  have e1 : (rung x : Int) < (rung y : Int) ↔ val x < val y := by unfold val; rw [h1]; omega
  have e2 : (rung x : Int) = (rung y : Int) ↔ val x = val y := by unfold val; rw [h2]; omega
  simp only [compare, compareOfLessAndEq, e1, e2]
theorem fin_word (k : Nat) (h : k < 9218868437227405312) : Fin (wordR false k) ∧ val (wordR false k) = valR k := by
  have hr := rung_word false k (by omega)
  exact ⟨⟨neg_word false k (by omega), by rw [hr]; exact h⟩, by unfold val; rw [hr]⟩

theorem UN_log (V : Nat) (h : V < 9007199254740992 * UN) : V / UN < 9007199254740992 := (Nat.div_lt_iff_lt_mul UN_pos).2 h

theorem mag_lt (r : Nat) : magR r < 9007199254740992 := by
  unfold magR
  split
  · omega
  · have := Nat.mod_lt r (show 4503599627370496 > 0 by decide)
    omega

/-- Cut towards nought. -/
theorem Small.cut {x : Nat} (h : Small x) : floatToIntVal .f64 x .i64 = some ((val x / UN : Nat) : Int) := by
  unfold floatToIntVal
  have hu := UN_log _ h.sm
  have hrd : FloatKind.f64.decode x = .number false (magR (rung x)) (-1074 + (plcR (rung x) : Int)) := h.toFin.read
  have hti : (FloatKind.f64.decode x).toInt .zero = some ((val x / UN : Nat) : Int) := by
    rw [hrd]
    unfold Ieee.Datum.toInt Ieee.Datum.integral
    dsimp only
    rw [cut_unit .zero (.inr rfl)]
    unfold Ieee.signed wayU
    rw [Nat.shiftLeft_zero]
    rfl
  rw [hti]
  generalize val x / UN = q at *
  dsimp only
  rw [if_pos ⟨by simp [IntKind.min, IntKind.bits, IntKind.signed] <;> omega, by simp [IntKind.max, IntKind.bits, IntKind.signed]; omega⟩]

theorem whole_word (n : Nat) (h : n < 9007199254740992) : ∃ k, k < 9218868437227405312 ∧ valR k = n * UN ∧ F64.nearest false n 0 = wordR false k := by
  obtain ⟨k, hk, hv⟩ := valR_rep n e74 h (by unfold e74; omega)
  refine ⟨k, hk, hv, ?_⟩
  have := near_any false n e74 k hk hv.symm
  rw [show (-1074 + (e74 : Int)) = 0 by unfold e74; omega] at this
  exact this

theorem Small.even_lt {x : Nat} (h : Small x) : evenU (val x) < 9007199254740992 := by
  have hu := UN_log _ h.sm
  have hup := UN_pos
  have hmod := Nat.mod_lt (val x) hup
  have hb : ∀ b : Bool, b.toNat ≤ 1 := by intro b; cases b <;> decide
  unfold evenU
  by_cases hp : 1074 ≤ plcR (rung x)
  · have e : val x % UN = 0 := by
      unfold val valR
      rw [pow_split e74 _ hp, Nat.mul_comm (2 ^ e74), ← Nat.mul_assoc]
      exact Nat.mul_mod_left _ _
    rw [e, decide_eq_false (by omega), show (UN == 2 * 0) = false by rw [beq_eq_false_iff_ne]; omega]
    simp
    omega
  · have hlt : val x < 4503599627370496 * UN := by
      have h1 : val x < 9007199254740992 * 2 ^ plcR (rung x) := Nat.mul_lt_mul_of_pos_right (mag_lt _) (Nat.two_pow_pos _)
      have h2 : 2 ^ plcR (rung x) * 2 ≤ UN := by
        rw [← Nat.pow_succ]
        exact Nat.pow_le_pow_right (by omega) (by unfold e74; omega)
      generalize 2 ^ plcR (rung x) = q at *
      omega
    have hd : val x / UN < 4503599627370496 := (Nat.div_lt_iff_lt_mul hup).2 hlt
    have := hb (decide (UN < 2 * (val x % UN)) || UN == 2 * (val x % UN) && val x / UN % 2 == 1)
    omega

/-- Made whole, to the nearest; then a whole number. -/
theorem Small.round {x : Nat} (h : Small x) : Small (FloatKind.f64.encode ((FloatKind.f64.decode x).integral .even)) ∧ val (FloatKind.f64.encode ((FloatKind.f64.decode x).integral .even)) = evenU (val x) * UN := by
  have he := h.even_lt
  have hrd : FloatKind.f64.decode x = .number false (magR (rung x)) (-1074 + (plcR (rung x) : Int)) := h.toFin.read
  rw [hrd]
  unfold Ieee.Datum.integral
  dsimp only
  rw [cut_unit .even (.inl rfl)]
  unfold wayU
  dsimp only
  rw [show magR (rung x) * 2 ^ plcR (rung x) = val x from rfl]
  obtain ⟨k, hk, hv, hw⟩ := whole_word _ he
  have e : FloatKind.f64.encode (.number false (evenU (val x)) 0) = wordR false k := hw
  rw [e]
  obtain ⟨hf, hval⟩ := fin_word k hk
  rw [hv] at hval
  refine ⟨⟨hf, ?_⟩, hval⟩
  rw [hval]
  exact Nat.mul_lt_mul_of_pos_right he UN_pos

theorem fi_word (n : Nat) (h : n < 9007199254740992) : Fin (fi n) ∧ val (fi n) = n * UN := by
  obtain ⟨k, hk, hv, hw⟩ := whole_word n h
  have e : fi n = wordR false k := by
    rw [← hw]
    unfold fi floatOfInt FloatKind.nearest
    have hneg : decide ((n : Int) < 0) = false := decide_eq_false (by omega)
    change F64.write (.number (decide ((n : Int) < 0)) (n : Int).natAbs 0) = _
    rw [hneg]
    rfl
  rw [e]
  obtain ⟨hf, hval⟩ := fin_word k hk
  exact ⟨hf, by rw [hval, hv]⟩

theorem signed_pos (m u : Nat) : Ieee.signed false m u = ((m * 2 ^ u : Nat) : Int) := by
  unfold Ieee.signed
  rw [Nat.shiftLeft_eq]
  rfl
theorem signed_neg (m u : Nat) : Ieee.signed true m u = -((m * 2 ^ u : Nat) : Int) := by
  unfold Ieee.signed
  rw [Nat.shiftLeft_eq]
  rfl

/-- What a float is above its whole. -/
theorem Small.rest {x : Nat} (h : Small x) : ∃ z, floatBits .sub .f64 x (fi (val x / UN : Nat)) = some z ∧ Fin z ∧ val z = val x % UN := by
  obtain ⟨hn, hnv⟩ := fi_word _ (UN_log _ h.sm)
  generalize fi ((val x / UN : Nat) : Int) = y at *
  unfold floatBits
  change ∃ z, F64.sub x y = some z ∧ _
  unfold Ieee.Format.sub
  rw [h.toFin.read, hn.read]
  unfold Ieee.Datum.opposite Ieee.Datum.sum
  dsimp only
  rw [Option.map_some]
  refine ⟨_, rfl, ?_⟩
  obtain ⟨a, ha⟩ : ∃ a, plcR (rung x) = a := ⟨_, rfl⟩
  obtain ⟨b, hb⟩ : ∃ b, plcR (rung y) = b := ⟨_, rfl⟩
  have hvx : val x = magR (rung x) * 2 ^ a := by rw [← ha]; rfl
  have hvy : val y = magR (rung y) * 2 ^ b := by rw [← hb]; rfl
  rw [ha, hb]
  obtain ⟨c, hc⟩ : ∃ c, c = min a b := ⟨_, rfl⟩
  rw [show min (-1074 + (a : Int)) (-1074 + (b : Int)) = -1074 + (c : Int) by omega, show (-1074 + (a : Int) - (-1074 + (c : Int))).toNat = a - c by omega, show (-1074 + (b : Int) - (-1074 + (c : Int))).toNat = b - c by omega]
  rw [signed_pos, show (!false) = true from rfl, signed_neg]
  have e1 : magR (rung x) * 2 ^ (a - c) * 2 ^ c = val x := by rw [hvx, Nat.mul_assoc, ← Nat.pow_add]; congr 2; omega
  have e2 : magR (rung y) * 2 ^ (b - c) * 2 ^ c = val y := by rw [hvy, Nat.mul_assoc, ← Nat.pow_add]; congr 2; omega
  have hcp := Nat.two_pow_pos c
  have hle : val y ≤ val x := by rw [hnv]; exact Nat.div_mul_le_self _ _
  have hle2 : magR (rung y) * 2 ^ (b - c) ≤ magR (rung x) * 2 ^ (a - c) := by
    refine Nat.le_of_mul_le_mul_right ?_ hcp
    rw [e1, e2]
    exact hle
  obtain ⟨D, hD⟩ : ∃ D, magR (rung x) * 2 ^ (a - c) = magR (rung y) * 2 ^ (b - c) + D := ⟨_, (Nat.add_sub_cancel' hle2).symm⟩
  have hDv : D * 2 ^ c = val x % UN := by
    have h1 : val x = val y + D * 2 ^ c := by rw [← e1, ← e2, hD, Nat.add_mul]
    have h2 := Nat.div_add_mod (val x) UN
    rw [hnv] at h1
    rw [Nat.mul_comm] at h2
    omega
  rw [hD]
  generalize magR (rung y) * 2 ^ (b - c) = Y at *
  rw [show (((Y + D : Nat) : Int) + -(Y : Int)) = (D : Int) by omega, show ((D : Int)).natAbs = D by omega]
  -- the rest has few digits
  obtain ⟨k, hk, hkv⟩ : ∃ k, k < 9218868437227405312 ∧ valR k = val x % UN := by
    by_cases hp : 1074 ≤ a
    · refine ⟨0, by omega, ?_⟩
      rw [valR_zero, hvx, pow_split e74 _ hp, Nat.mul_comm (2 ^ e74), ← Nat.mul_assoc]
      exact (Nat.mul_mod_left _ _).symm
    · obtain ⟨k, hk, hkv⟩ := valR_rep (magR (rung x) % 2 ^ (1074 - a)) a (Nat.lt_of_le_of_lt (Nat.mod_le _ _) (mag_lt _)) (by omega)
      refine ⟨k, hk, ?_⟩
      rw [hkv, hvx, show UN = 2 ^ (1074 - a) * 2 ^ a by unfold UN; rw [← Nat.pow_add, show e74 = 1074 - a + a by unfold e74; omega], Nat.mul_mod_mul_right]
  have hnr : ∀ s, F64.nearest s D (-1074 + (c : Int)) = wordR s k := fun s => near_any s D c k hk (by rw [hDv, hkv])
  have hs : (if (D : Int) = 0 then (false && true) else decide ((D : Int) < 0)) = false := by
    split
    · rfl
    · exact decide_eq_false (by omega)
  unfold Ieee.Format.write
  dsimp only
  rw [hs, hnr]
  obtain ⟨hf, hval⟩ := fin_word k hk
  exact ⟨hf, by rw [hval, hkv]⟩

def half : Nat := 4602678819172646912
def big : Nat := 4845873199050653696
theorem half_fin : Fin half := ⟨by decide, by decide⟩
theorem big_fin : Fin big := ⟨by decide, by decide⟩
theorem valR_mk (e : Nat) : valR ((e + 1) * 4503599627370496) = 4503599627370496 * 2 ^ e := by
  unfold valR magR plcR
  rw [if_neg (by omega), if_neg (by omega), show (e + 1) * 4503599627370496 / 4503599627370496 = e + 1 by omega, show (e + 1) * 4503599627370496 % 4503599627370496 = 0 by omega]
  rfl
def e21 : Nat := 1021
def e75 : Nat := 1075
theorem half_val : val half * 2 = UN := by
  have h : rung half = (e21 + 1) * 4503599627370496 := by decide
  unfold val
  rw [h, valR_mk, show (4503599627370496 : Nat) = 2 ^ 52 by decide, ← Nat.pow_add, ← Nat.pow_succ, show (52 + e21).succ = e74 from rfl]
  unfold UN
  rfl
theorem big_val : val big = 9007199254740992 * UN := by
  have h : rung big = (e75 + 1) * 4503599627370496 := by decide
  unfold val UN
  rw [h, valR_mk, show (4503599627370496 : Nat) = 2 ^ 52 by decide, show (9007199254740992 : Nat) = 2 ^ 53 by decide, ← Nat.pow_add, ← Nat.pow_add, show 52 + e75 = 53 + e74 from rfl]

/-- A thousand times a finite one. -/
def thou : Nat := 4652007308841189376
theorem mul_thou (f : Nat) (h : Fin f) : ∃ r, floatBits .mul .f64 f thou = some r ∧ neg r = false ∧ rung r ≤ 9218868437227405312 := by
  unfold floatBits
  change ∃ r, F64.mul f thou = some r ∧ _
  unfold Ieee.Format.mul
  rw [h.read, show F64.read thou = .number false 8796093022208000 (-43) by decide]
  unfold Ieee.Datum.product
  dsimp only
  rw [Option.map_some]
  obtain ⟨k, hk, hw⟩ := near_le false (magR (rung f) * 8796093022208000) (-1074 + (plcR (rung f) : Int) + -43)
  refine ⟨_, rfl, ?_⟩
  have e : F64.write (.number (false ^^ false) (magR (rung f) * 8796093022208000) (-1074 + (plcR (rung f) : Int) + -43)) = wordR false k := hw
  rw [e]
  exact ⟨neg_word false k (by omega), by rw [rung_word false k (by omega)]; exact hk⟩
end Go.Proofs.YthgioldoeejjnaaDoor.Gf
