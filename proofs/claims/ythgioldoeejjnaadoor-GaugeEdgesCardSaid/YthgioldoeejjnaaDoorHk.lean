/- gauge: what this seat needs of the gauge. -/
import Derived.Test.YthgioldoeejjnaaDoorHc
namespace Go.Proofs.YthgioldoeejjnaaDoor.Gf
open Go.RowKit Go.Proofs.YthgioldoeejjnaaDoorW.PrintWords Go.Proofs.YthgioldoeejjnaaDoorW.PrintLast
set_option linter.unusedVariables false
set_option linter.unusedSimpArgs false
def neg (x : Nat) : Bool := x / 9223372036854775808 % 2 == 1
def rung (x : Nat) : Nat := x % 9223372036854775808
/-- A rung's sign put to it. -/
def key (x : Nat) : Int := if neg x then -(rung x : Int) else (rung x : Int)
/-- A rung's number, and its place above the least. -/
def magR (r : Nat) : Nat := if r < 4503599627370496 then r else 4503599627370496 + r % 4503599627370496
def plcR (r : Nat) : Nat := if r < 4503599627370496 then 0 else r / 4503599627370496 - 1
def valR (r : Nat) : Nat := magR r * 2 ^ plcR r

theorem valR_step (r : Nat) : valR r < valR (r + 1) := by
  unfold valR magR plcR
  by_cases h : r + 1 < 4503599627370496
  · rw [if_pos (by omega), if_pos (by omega), if_pos h, if_pos h]
    omega
  · by_cases h2 : r < 4503599627370496
    · have : r = 4503599627370495 := by omega
      subst this
      decide
    · rw [if_neg h2, if_neg h2, if_neg h, if_neg h]
      have hp : 0 < 2 ^ (r / 4503599627370496 - 1) := Nat.two_pow_pos _
      by_cases h3 : (r + 1) % 4503599627370496 = 0
      · have h4 : r % 4503599627370496 = 4503599627370495 := by omega
        have h5 : (r + 1) / 4503599627370496 - 1 = r / 4503599627370496 - 1 + 1 := by omega
        rw [h3, h4, h5, Nat.pow_succ]
        generalize 2 ^ (r / 4503599627370496 - 1) = p at *
        omega
      · have h4 : (r + 1) % 4503599627370496 = r % 4503599627370496 + 1 := by omega
        have h5 : (r + 1) / 4503599627370496 - 1 = r / 4503599627370496 - 1 := by omega
        rw [h4, h5]
        exact Nat.mul_lt_mul_of_pos_right (by omega) hp
theorem valR_lt {a b : Nat} (h : a < b) : valR a < valR b := by
  induction b with
  | zero => omega
  | succ b ih =>
    by_cases hab : a = b
    · subst hab; exact valR_step a
    · exact Nat.lt_trans (ih (by omega)) (valR_step b)
theorem valR_zero : valR 0 = 0 := by decide
theorem valR_cmp (a b : Nat) : (valR a < valR b ↔ a < b) ∧ (valR a = valR b ↔ a = b) := by
  rcases Nat.lt_trichotomy a b with h | h | h
  · have := valR_lt h; omega
  · subst h; omega
  · have := valR_lt h; omega

theorem read_key (x : Nat) : FloatKind.f64.format.read x =
    if rung x < 9218868437227405312 then .number (neg x) (magR (rung x)) (-1074 + (plcR (rung x) : Int)) else if rung x = 9218868437227405312 then .infinity (neg x) else .nan (neg x) (rung x - 9218868437227405312) := by
  unfold Ieee.Format.read
  rw [show FloatKind.f64.format.signWeight = 9223372036854775808 from rfl, show FloatKind.f64.format.binade = 4503599627370496 from rfl, show FloatKind.f64.format.infRung = 9218868437227405312 from rfl, show FloatKind.f64.format.leastPlace = -1074 from rfl]
  dsimp only
  unfold magR plcR
  change (if rung x < 4503599627370496 then _ else _) = _
  by_cases h1 : rung x < 4503599627370496
  · rw [if_pos h1, if_pos (by omega), if_pos h1, if_pos h1]
    rfl
  · rw [if_neg h1, if_neg h1, if_neg h1]
    rfl

theorem isn_key (x : Nat) : isn x = decide (9218868437227405312 < rung x) := by
  unfold isn
  rw [read_key]
  split
  · rw [decide_eq_false (by omega)]; rfl
  · split
    · rw [decide_eq_false (by omega)]; rfl
    · rw [decide_eq_true (by omega)]; rfl

theorem signed_cmp (s t : Bool) (m n a b : Nat) :
    compare (Ieee.signed s m (a - min a b)) (Ieee.signed t n (b - min a b)) = compare (if s then -((m * 2 ^ a : Nat) : Int) else ((m * 2 ^ a : Nat) : Int)) (if t then -((n * 2 ^ b : Nat) : Int) else ((n * 2 ^ b : Nat) : Int)) := by
  have e1 : m * 2 ^ a = (m * 2 ^ (a - min a b)) * 2 ^ min a b := by rw [Nat.mul_assoc, ← Nat.pow_add]; congr 2; omega
  have e2 : n * 2 ^ b = (n * 2 ^ (b - min a b)) * 2 ^ min a b := by rw [Nat.mul_assoc, ← Nat.pow_add]; congr 2; omega
  rw [e1, e2]
  unfold Ieee.signed
  rw [Nat.shiftLeft_eq, Nat.shiftLeft_eq]
  have hp : (0 : Int) < ((2 ^ min a b : Nat) : Int) := by have := Nat.two_pow_pos (min a b); omega
  generalize m * 2 ^ (a - min a b) = M
  generalize n * 2 ^ (b - min a b) = N
  generalize 2 ^ min a b = p at *
  have key : ∀ u v : Int, compare u v = compare (u * (p : Int)) (v * (p : Int)) := by
    intro u v
    have h1 : u < v ↔ u * (p : Int) < v * (p : Int) := ⟨fun h => Int.mul_lt_mul_of_pos_right h hp, fun h => Int.lt_of_mul_lt_mul_right h (Int.le_of_lt hp)⟩
    have h2 : u = v ↔ u * (p : Int) = v * (p : Int) := ⟨fun h => by rw [h], fun h => Int.eq_of_mul_eq_mul_right (by omega) h⟩
    simp only [compare, compareOfLessAndEq, h1, h2]
  rw [key]
  congr 1 <;> split <;> simp [Int.natCast_mul, Int.neg_mul]

def sg (s : Bool) (n : Nat) : Int := if s then -(n : Int) else (n : Int)
theorem sg_cmp (s t : Bool) (a b : Nat) : compare (sg s (valR a)) (sg t (valR b)) = compare (sg s a) (sg t b) := by
  obtain ⟨h1, h2⟩ := valR_cmp a b
  obtain ⟨h3, h4⟩ := valR_cmp 0 a
  obtain ⟨h5, h6⟩ := valR_cmp 0 b
  obtain ⟨h7, _⟩ := valR_cmp b a
  rw [valR_zero] at h3 h4 h5 h6
  have e1 : sg s (valR a) < sg t (valR b) ↔ sg s a < sg t b := by
    unfold sg
    cases s <;> cases t <;> simp <;> omega
  have e2 : sg s (valR a) = sg t (valR b) ↔ sg s a = sg t b := by
    unfold sg
    cases s <;> cases t <;> simp <;> omega
  simp only [compare, compareOfLessAndEq, e1, e2]

theorem order_key (x y : Nat) (hx : isn x = false) (hy : isn y = false) : FloatKind.f64.format.order x y = some (compare (key x) (key y)) := by
  rw [isn_key] at hx hy
  have hx1 := of_decide_eq_false hx
  have hy1 := of_decide_eq_false hy
  unfold Ieee.Format.order
  rw [read_key x, read_key y]
  have kx : key x = sg (neg x) (rung x) := rfl
  have ky : key y = sg (neg y) (rung y) := rfl
  rw [kx, ky]
  generalize rung x = a at *
  generalize rung y = b at *
  generalize neg x = s
  generalize neg y = t
  by_cases ha : a < 9218868437227405312
  · rw [if_pos ha]
    by_cases hb : b < 9218868437227405312
    · rw [if_pos hb]
      simp only [Ieee.Datum.order]
      rw [← sg_cmp]
      have := signed_cmp s t (magR a) (magR b) (plcR a) (plcR b)
      rw [show ((-1074 + (plcR a : Int)) - min (-1074 + (plcR a : Int)) (-1074 + (plcR b : Int))).toNat = plcR a - min (plcR a) (plcR b) by omega, show ((-1074 + (plcR b : Int)) - min (-1074 + (plcR a : Int)) (-1074 + (plcR b : Int))).toNat = plcR b - min (plcR a) (plcR b) by omega, this]
      rfl
    · have hb2 : b = 9218868437227405312 := by omega
      rw [if_neg hb, if_pos hb2]
      simp only [Ieee.Datum.order]
      subst hb2
      congr 1
      cases t
      · have h : sg s a < sg false 9218868437227405312 := by unfold sg; cases s <;> simp <;> omega
        simp [compare, compareOfLessAndEq, h]
      · have h : ¬ sg s a < sg true 9218868437227405312 := by unfold sg; cases s <;> simp <;> omega
        have h2 : ¬ sg s a = sg true 9218868437227405312 := by unfold sg; cases s <;> simp <;> omega
        simp only [compare, compareOfLessAndEq, if_neg h, if_neg h2, if_true]
  · have ha2 : a = 9218868437227405312 := by omega
    rw [if_neg ha, if_pos ha2]
    subst ha2
    by_cases hb : b < 9218868437227405312
    · rw [if_pos hb]
      simp only [Ieee.Datum.order]
      congr 1
      cases s
      · have h : ¬ sg false 9218868437227405312 < sg t b := by unfold sg; cases t <;> simp <;> omega
        have h2 : ¬ sg false 9218868437227405312 = sg t b := by unfold sg; cases t <;> simp <;> omega
        simp only [compare, compareOfLessAndEq, if_neg h, if_neg h2, Bool.false_eq_true, if_false]
      · have h : sg true 9218868437227405312 < sg t b := by unfold sg; cases t <;> simp <;> omega
        simp only [compare, compareOfLessAndEq, if_pos h, if_true]
    · have hb2 : b = 9218868437227405312 := by omega
      rw [if_neg hb, if_pos hb2]
      subst hb2
      simp only [Ieee.Datum.order]
      cases s <;> cases t <;> decide
end Go.Proofs.YthgioldoeejjnaaDoor.Gf
