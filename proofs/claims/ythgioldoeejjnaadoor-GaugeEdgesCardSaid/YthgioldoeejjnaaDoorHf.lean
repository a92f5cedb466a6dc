/- gauge: what this seat needs of the gauge. -/
import Derived.Test.YthgioldoeejjnaaDoorProg
import Derived.Laws.FloatArith
import Derived.Laws.Externs
import Derived.WalkLawsBesides
import Derived.Tactics2
import Derived.WalkKit
import Derived.KernelRfl
import Derived.Lib.Hide
import Derived.Test.YthgioldoeejjnaaDoorWWords
import Derived.Test.YthgioldoeejjnaaDoorWLast
namespace Go.Proofs.YthgioldoeejjnaaDoor.Gf
open Go.RowKit Go.Proofs.YthgioldoeejjnaaDoorW.PrintWords Go.Proofs.YthgioldoeejjnaaDoorW.PrintLast
set_option linter.unusedVariables false
set_option linter.unusedSimpArgs false
/-- Bits that are no number. -/
def NaN (b : Nat) : Prop := ∃ s f, FloatKind.f64.format.read b = .nan s f

/-- z is what an operation gave: the one answer; or, where there is none, some NaN. -/
def Res (o : Option Nat) (z : Nat) : Prop :=
  match o with
  | some r => z = r
  | none => NaN z

theorem read_big (w : Nat) (h : 9218868437227405312 < w % 9223372036854775808) : NaN w := by
  unfold NaN Ieee.Format.read
  rw [show FloatKind.f64.format.signWeight = 9223372036854775808 from rfl, show FloatKind.f64.format.binade = 4503599627370496 from rfl, show FloatKind.f64.format.infRung = 9218868437227405312 from rfl]
  dsimp only
  rw [if_neg (by omega), if_neg (by omega), if_neg (by omega)]
  exact ⟨_, _, rfl⟩
theorem nan_word (t : Nat) : NaN ((t % 2) * 2 ^ 63 + 0x7ff0000000000000 + 1 + (t / 2) % (2 ^ 52 - 1)) := by
  apply read_big
  have h2 : t / 2 % (2 ^ 52 - 1) < 4503599627370495 := Nat.mod_lt _ (by decide)
  generalize t / 2 % (2 ^ 52 - 1) = r at *
  rcases (show t % 2 = 0 ∨ t % 2 = 1 by omega) with h | h <;> rw [h] <;> omega

theorem ask_nan {P : Program} (x y : Nat) (W : World) : ∃ z, (choose (.nanBits .f64 x y) >>= fun b => (pure (.float .f64 b) : Sem Value)).run P W = .ok (.float .f64 z) W.drew ∧ NaN z := by
  refine ⟨(Question.nanBits .f64 x y).cut (W.tape W.drawn (Question.nanBits .f64 x y)), ?_, nan_word _⟩
  have hf : (Question.nanBits .f64 x y).forced = false := rfl
  simp [hf, go_sem]

theorem run_none {P : Program} (op : BinOp) (hop : op = .add ∨ op = .sub ∨ op = .mul ∨ op = .quo) (t : TypeId) (x y : Nat) (h : floatBits op .f64 x y = none) :
    ∃ q : World → Nat, ∀ W, (binOp op t (.float .f64 x) (.float .f64 y)).run P W = .ok (.float .f64 (q W)) W.drew ∧ NaN (q W) := by
  have : ∀ W, ∃ z, (binOp op t (.float .f64 x) (.float .f64 y)).run P W = .ok (.float .f64 z) W.drew ∧ NaN z := by
    intro W
    unfold floatBits at h
    have hf : (Question.nanBits .f64 x y).forced = false := rfl
    refine ⟨(Question.nanBits .f64 x y).cut (W.tape W.drawn (Question.nanBits .f64 x y)), ?_, nan_word _⟩
    rcases hop with rfl | rfl | rfl | rfl <;> simp only at h <;> simp [binOp, Op.floatArith, h, hf]
  exact ⟨fun W => Classical.choose (this W), fun W => Classical.choose_spec (this W)⟩

/-- What an operation on floats gives, at every world: one number and the world as it was; or some NaN, and one draw. -/
theorem run_op {P : Program} (op : BinOp) (hop : op = .add ∨ op = .sub ∨ op = .mul ∨ op = .quo) (t : TypeId) (x y : Nat) :
    ∃ (q : World → Nat) (m : Nat), ∀ W, (binOp op t (.float .f64 x) (.float .f64 y)).run P W = .ok (.float .f64 (q W)) (W.drewN m) ∧ Res (floatBits op .f64 x y) (q W) := by
  cases h : floatBits op .f64 x y with
  | some r => exact ⟨fun _ => r, 0, fun W => ⟨run_float_arith W op t .f64 x y r h, rfl⟩⟩
  | none =>
    obtain ⟨q, hq⟩ := run_none (P := P) op hop t x y h
    exact ⟨q, 1, hq⟩

/-- One form of all NaNs. -/
def canon (b : Nat) : Nat := if (FloatKind.f64.format.read b).isNaN then 9221120237041090561 else b
def canonO (o : Option Nat) : Nat := match o with | some r => canon r | none => 9221120237041090561
theorem canon_res {o : Option Nat} {z : Nat} (h : Res o z) : canon z = canonO o := by
  cases o with
  | some r => rw [show z = r from h]; rfl
  | none =>
    obtain ⟨s, f, hr⟩ := h
    unfold canon canonO
    rw [hr]
    rfl

/-- The operations, where an operand may be no number. -/
def fop (op : BinOp) (a b : Option Nat) : Option Nat := a.bind fun x => b.bind fun y => floatBits op .f64 x y
theorem res_fop {op : BinOp} (hop : op = .add ∨ op = .sub ∨ op = .mul ∨ op = .quo) {a b : Option Nat} {x y z : Nat} (ha : Res a x) (hb : Res b y) (hz : Res (floatBits op .f64 x y) z) : Res (fop op a b) z := by
  have hx : NaN x → floatBits op .f64 x y = none := by
    rintro ⟨s, f, h⟩
    unfold floatBits
    rcases hop with rfl | rfl | rfl | rfl <;> simp [Ieee.Format.add, Ieee.Format.sub, Ieee.Format.mul, Ieee.Format.div, h, Ieee.Datum.sum, Ieee.Datum.product, Ieee.Datum.quotient]
  have hy : NaN y → floatBits op .f64 x y = none := by
    rintro ⟨s, f, h⟩
    unfold floatBits
    rcases hop with rfl | rfl | rfl | rfl <;> simp only [Ieee.Format.add, Ieee.Format.sub, Ieee.Format.mul, Ieee.Format.div, h] <;> cases FloatKind.f64.format.read x <;> rfl
  cases a with
  | none => rw [hx ha] at hz; exact hz
  | some a =>
    obtain rfl : x = a := ha
    cases b with
    | none => rw [hy hb] at hz; exact hz
    | some b =>
      obtain rfl : y = b := hb
      exact hz
end Go.Proofs.YthgioldoeejjnaaDoor.Gf
