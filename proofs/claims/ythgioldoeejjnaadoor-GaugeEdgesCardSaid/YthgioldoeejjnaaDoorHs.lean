/- gauge: what this seat needs of the gauge. -/
import Derived.Test.YthgioldoeejjnaaDoorHe
import Derived.Deep.LoopGhost
namespace Go.Proofs.YthgioldoeejjnaaDoor.Gf
open Go.RowKit Go.Proofs.YthgioldoeejjnaaDoorW.PrintWords Go.Proofs.YthgioldoeejjnaaDoorW.PrintLast
set_option linter.unusedVariables false
set_option linter.unusedSimpArgs false
/-- A sum, in order. -/
def sumF (f : Int → Option Nat) (l : List Int) : Option Nat := l.foldl (fun s x => fop .add s (f x)) (some 0)
theorem sumF_next (f : Int → Option Nat) (l : List Int) (i : Nat) (h : i < l.length) : sumF f (l.take (i + 1)) = fop .add (sumF f (l.take i)) (f (rd l (i : Int))) := by
  rw [List.take_succ_eq_append_getElem h]
  unfold sumF
  rw [List.foldl_append]
  unfold rd
  rw [Int.toNat_natCast, List.getD_eq_getElem?_getD, List.getElem?_eq_getElem h]
  rfl

set_option maxHeartbeats 4000000 in
theorem sumWhole_call (A : Option Addr) (c : Nat) (l : List Int) (w : World) (hC : Kd.C (Kd.int .i64) w A l.length l) (hl : l.length ≤ 140737488355328) :
    Calls Tryd.prog 18 #[.slice A l.length c, .func (.func 17) #[] #[]] w fun e w' => ∃ z, e = .returned (.float .f64 z) ∧ Res (sumF (fun x => some (fi x)) l) z ∧ Drawn0 w w' := by
  have HC := Lib.hid hC
  have HL := Lib.hid hl
  clear hC hl
  obtain ⟨Q, M, hQ, hR⟩ := run_all .add (by simp)
  have HR := Lib.hid hR
  clear hR
  go_enter Tryd.func18, Tryd.ntmps18
  go_wp2_with (fail)
  go_loopg [5, 10] l.length (fun kq v5 v10 w' => ∃ (i s : Nat), v10 = .int .i64 i ∧ v5 = .float .f64 s ∧ Aside0 (i + kq = l.length) ∧ Aside0 (Res (sumF (fun x => some (fi x)) (l.take i)) s) ∧ Drawn0 w w')
  case atStart => exact ⟨0, 0, rfl, rfl, ⟨by omega⟩, ⟨rfl⟩, Drawn0.refl w⟩
  case round =>
    obtain ⟨i, s, rfl, rfl, hk, hs, hD⟩ := hrel
    obtain ⟨nd, rfl⟩ := hD.out
    clear hD
    by_cases hi : i < l.length
    · have hib : decide (i < l.length) = true := decide_eq_true hi
      obtain ⟨ad, rfl, hx⟩ := Kd.at_int (Kd.C_below HC.out (pw_below_drewN (Below.refl _ _) nd)) (i : Int) (by omega) (by omega)
      simp only [Int.toNat_natCast] at hx
      have HI := Lib.hid hi
      clear hi
      go_wp2_with (first | (go_at_call 17; refine (whole_call _ _).mono ?_; rintro e w' ⟨rfl, rfl⟩))
      go_roundg (l.length - (i + 1))
      case measure => have := hk.out; have := HI.out; omega
      case rel =>
        have hs1 : wrap64 ((i : Int) + 1) = ((i + 1 : Nat) : Int) := by unfold wrap64; have := HI.out; have := HL.out; omega
        refine ⟨i + 1, _, congrArg _ hs1, rfl, ⟨by have := HI.out; omega⟩, ⟨?_⟩, ⟨⟨_, rfl⟩⟩⟩
        rw [sumF_next _ _ _ HI.out]
        exact res_fop (by simp) hs.out (b := some _) rfl (HR.out _ _ _)
    · have hib : decide (i < l.length) = false := decide_eq_false hi
      have hil : i = l.length := by have := hk.out; omega
      have HIL := Lib.hid hil
      clear hi hil
      go_wp2
      go_ret
      exact ⟨_, rfl, by have := hs.out; rwa [HIL.out, List.take_length] at this, ⟨⟨_, rfl⟩⟩⟩

end Go.Proofs.YthgioldoeejjnaaDoor.Gf
