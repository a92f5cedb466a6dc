/- gauge: sums of floats over rows, the program's and the reference's. -/
import Derived.Test.YthgioldoeejjnaaGe
import Derived.Deep.LoopGhost
namespace Go.Proofs.Ythgioldoeejjnaa.Gf
open Go.RowKit Go.Proofs.YthgioldoeejjnaaW.PrintWords Go.Proofs.YthgioldoeejjnaaW.PrintLast
set_option linter.unusedVariables false
set_option linter.unusedSimpArgs false

/-- A sum, in order. -/
def sumF (f : Int → Option Nat) (l : List Int) : Option Nat := l.foldl (fun s x => fop .add s (f x)) (some 0)
theorem sumF_next (f : Int → Option Nat) (l : List Int) (i : Nat) (h : i < l.length) : sumF f (l.take (i + 1)) = fop .add (sumF f (l.take i)) (f (rd l (i : Int))) := by
  rw [List.take_succ_eq_append_getElem h]
  unfold sumF
  rw [List.foldl_append]
  unfold rd
  rw [Int.toNat_natCast, List.getD_eq_getElem?_getD, List.getElem?_eq_getElem h]
  rfl

set_option maxHeartbeats 4000000 in
theorem sumFrom_call (A : Option Addr) (c : Nat) (l : List Int) (w : World) (hC : Kd.C (Kd.int .u64) w A l.length l) (hl : l.length ≤ 140737488355328) :
    Calls Try.prog 38 #[.slice A l.length c, .func (.func 13) #[] #[]] w fun e w' => ∃ z, e = .returned (.float .f64 z) ∧ Res (sumF (fun x => some x.toNat) l) z ∧ Drawn0 w w' := by
  have HC := Lib.hid hC
  have HL := Lib.hid hl
  clear hC hl
  have hf := run_from
  obtain ⟨Q, M, hQ, hR⟩ := run_all .add (by simp)
  have HR := Lib.hid hR
  clear hR
  go_enter Try.func38, Try.ntmps38
  go_wp2_with (fail)
  go_loopg [5, 10] l.length (fun kq v5 v10 w' => ∃ (i s : Nat), v10 = .int .i64 i ∧ v5 = .float .f64 s ∧ Aside0 (i + kq = l.length) ∧ Aside0 (Res (sumF (fun x => some x.toNat) (l.take i)) s) ∧ Drawn0 w w')
  case atStart => exact ⟨0, 0, rfl, rfl, ⟨by omega⟩, ⟨rfl⟩, Drawn0.refl w⟩
  case round =>
    obtain ⟨i, s, rfl, rfl, hk, hs, hD⟩ := hrel
    obtain ⟨nd, rfl⟩ := hD.out
    clear hD
    by_cases hi : i < l.length
    · have hib : decide (i < l.length) = true := decide_eq_true hi
      obtain ⟨ad, rfl, hx⟩ := Kd.at_int (Kd.C_below HC.out (pw_below_drewN (Below.refl _ _) nd)) (i : Int) (by omega) (by omega)
      simp only [Int.toNat_natCast] at hx
      have HI := Lib.hid hi
      clear hi
      go_wp2_with (first | fail)
      go_roundg (l.length - (i + 1))
      case measure => have := hk.out; have := HI.out; omega
      case rel =>
        have hs1 : wrap64 ((i : Int) + 1) = ((i + 1 : Nat) : Int) := by unfold wrap64; have := HI.out; have := HL.out; omega
        refine ⟨i + 1, _, congrArg _ hs1, rfl, ⟨by have := HI.out; omega⟩, ⟨?_⟩, ⟨⟨_, rfl⟩⟩⟩
        rw [sumF_next _ _ _ HI.out]
        exact res_fop (by simp) hs.out (b := some _) rfl (HR.out _ _ _)
    · have hib : decide (i < l.length) = false := decide_eq_false hi
      have hil : i = l.length := by have := hk.out; omega
      have HIL := Lib.hid hil
      clear hi hil
      go_wp2
      go_ret
      exact ⟨_, rfl, by have := hs.out; rwa [HIL.out, List.take_length] at this, ⟨⟨_, rfl⟩⟩⟩

set_option maxHeartbeats 4000000 in
theorem sumWhole_call (A : Option Addr) (c : Nat) (l : List Int) (w : World) (hC : Kd.C (Kd.int .i64) w A l.length l) (hl : l.length ≤ 140737488355328) :
    Calls Try.prog 40 #[.slice A l.length c, .func (.func 32) #[] #[]] w fun e w' => ∃ z, e = .returned (.float .f64 z) ∧ Res (sumF (fun x => some (fi x)) l) z ∧ Drawn0 w w' := by
  have HC := Lib.hid hC
  have HL := Lib.hid hl
  clear hC hl
  obtain ⟨Q, M, hQ, hR⟩ := run_all .add (by simp)
  have HR := Lib.hid hR
  clear hR
  go_enter Try.func40, Try.ntmps40
  go_wp2_with (fail)
  go_loopg [5, 10] l.length (fun kq v5 v10 w' => ∃ (i s : Nat), v10 = .int .i64 i ∧ v5 = .float .f64 s ∧ Aside0 (i + kq = l.length) ∧ Aside0 (Res (sumF (fun x => some (fi x)) (l.take i)) s) ∧ Drawn0 w w')
  case atStart => exact ⟨0, 0, rfl, rfl, ⟨by omega⟩, ⟨rfl⟩, Drawn0.refl w⟩
  case round =>
    obtain ⟨i, s, rfl, rfl, hk, hs, hD⟩ := hrel
    obtain ⟨nd, rfl⟩ := hD.out
    clear hD
    by_cases hi : i < l.length
    · have hib : decide (i < l.length) = true := decide_eq_true hi
      obtain ⟨ad, rfl, hx⟩ := Kd.at_int (Kd.C_below HC.out (pw_below_drewN (Below.refl _ _) nd)) (i : Int) (by omega) (by omega)
      simp only [Int.toNat_natCast] at hx
      have HI := Lib.hid hi
      clear hi
      go_wp2_with (first | (go_at_call 32; refine (whole_call _ _).mono ?_; rintro e w' ⟨rfl, rfl⟩))
      go_roundg (l.length - (i + 1))
      case measure => have := hk.out; have := HI.out; omega
      case rel =>
        have hs1 : wrap64 ((i : Int) + 1) = ((i + 1 : Nat) : Int) := by unfold wrap64; have := HI.out; have := HL.out; omega
        refine ⟨i + 1, _, congrArg _ hs1, rfl, ⟨by have := HI.out; omega⟩, ⟨?_⟩, ⟨⟨_, rfl⟩⟩⟩
        rw [sumF_next _ _ _ HI.out]
        exact res_fop (by simp) hs.out (b := some _) rfl (HR.out _ _ _)
    · have hib : decide (i < l.length) = false := decide_eq_false hi
      have hil : i = l.length := by have := hk.out; omega
      have HIL := Lib.hid hil
      clear hi hil
      go_wp2
      go_ret
      exact ⟨_, rfl, by have := hs.out; rwa [HIL.out, List.take_length] at this, ⟨⟨_, rfl⟩⟩⟩

set_option maxHeartbeats 4000000 in
theorem sumR_call (A : Option Addr) (c : Nat) (l : List Int) (w : World) (hC : Kd.C (Kd.int .i64) w A l.length l) (hl : l.length ≤ 140737488355328) :
    Calls Try.prog 41 #[.slice A l.length c] w fun e w' => ∃ z, e = .returned (.float .f64 z) ∧ Res (sumF (fun x => some (fi x)) l) z ∧ Drawn0 w w' := by
  have HC := Lib.hid hC
  have HL := Lib.hid hl
  clear hC hl
  have hw := run_whole
  obtain ⟨Q, M, hQ, hR⟩ := run_all .add (by simp)
  have HR := Lib.hid hR
  clear hR
  go_enter Try.func41, Try.ntmps41
  go_wp2_with (fail)
  go_loopg [3, 8] l.length (fun kq v3 v8 w' => ∃ (i s : Nat), v8 = .int .i64 i ∧ v3 = .float .f64 s ∧ Aside0 (i + kq = l.length) ∧ Aside0 (Res (sumF (fun x => some (fi x)) (l.take i)) s) ∧ Drawn0 w w')
  case atStart => exact ⟨0, 0, rfl, rfl, ⟨by omega⟩, ⟨rfl⟩, Drawn0.refl w⟩
  case round =>
    obtain ⟨i, s, rfl, rfl, hk, hs, hD⟩ := hrel
    obtain ⟨nd, rfl⟩ := hD.out
    clear hD
    by_cases hi : i < l.length
    · have hib : decide (i < l.length) = true := decide_eq_true hi
      obtain ⟨ad, rfl, hx⟩ := Kd.at_int (Kd.C_below HC.out (pw_below_drewN (Below.refl _ _) nd)) (i : Int) (by omega) (by omega)
      simp only [Int.toNat_natCast] at hx
      have HI := Lib.hid hi
      clear hi
      go_wp2_with (first | fail)
      go_roundg (l.length - (i + 1))
      case measure => have := hk.out; have := HI.out; omega
      case rel =>
        have hs1 : wrap64 ((i : Int) + 1) = ((i + 1 : Nat) : Int) := by unfold wrap64; have := HI.out; have := HL.out; omega
        refine ⟨i + 1, _, congrArg _ hs1, rfl, ⟨by have := HI.out; omega⟩, ⟨?_⟩, ⟨⟨_, rfl⟩⟩⟩
        rw [sumF_next _ _ _ HI.out]
        exact res_fop (by simp) hs.out (b := some _) rfl (HR.out _ _ _)
    · have hib : decide (i < l.length) = false := decide_eq_false hi
      have hil : i = l.length := by have := hk.out; omega
      have HIL := Lib.hid hil
      clear hi hil
      go_wp2
      go_ret
      exact ⟨_, rfl, by have := hs.out; rwa [HIL.out, List.take_length] at this, ⟨⟨_, rfl⟩⟩⟩

/-- How far a gauge lies from a mean, squared. -/
def farF (m : Option Nat) (x : Int) : Option Nat := fop .mul (fop .sub (some x.toNat) m) (fop .sub (some x.toNat) m)
theorem far_call (x : Int) (b mz : Nat) (m : Option Nat) (w : World) (hm : Res m mz) (hb : w.cell? ⟨b, 0, none⟩ = some (.float .f64 mz)) :
    Calls Try.prog 39 #[.int .u64 x, .pointer (some ⟨b, 0, none⟩)] w fun e w' => ∃ z, e = .returned (.float .f64 z) ∧ Res (farF m x) z ∧ Drawn0 w w' := by
  have hf := run_from
  obtain ⟨Q1, M1, hQ1, hR1⟩ := run_all .sub (by simp)
  obtain ⟨Q2, M2, hQ2, hR2⟩ := run_all .mul (by simp)
  have HR1 := Lib.hid hR1
  have HR2 := Lib.hid hR2
  have HM := Lib.hid hm
  clear hR1 hR2 hm
  go_enter Try.func39, Try.ntmps39
  go_wp2
  go_region_held (fun X => X.cell? ⟨b, 0, none⟩ = some (.float .f64 mz)) (go_keep) (fail)
  go_wp2
  go_ret
  refine ⟨_, rfl, ?_, ⟨⟨_, rfl⟩⟩⟩
  have h1 := fun W => res_fop (op := .sub) (by simp) (a := some x.toNat) rfl HM.out (HR1.out x.toNat mz W)
  exact res_fop (by simp) (h1 _) (h1 _) (HR2.out _ _ _)

set_option maxHeartbeats 4000000 in
theorem sumFar_call (A : Option Addr) (c : Nat) (l : List Int) (b mz : Nat) (m : Option Nat) (hm : Res m mz) (w : World) (hC : Kd.C (Kd.int .u64) w A l.length l) (hl : l.length ≤ 140737488355328) (hb : w.cell? ⟨b, 0, none⟩ = some (.float .f64 mz)) :
    Calls Try.prog 38 #[.slice A l.length c, .func (.func 39) #[] #[.pointer (some ⟨b, 0, none⟩)]] w fun e w' => ∃ z, e = .returned (.float .f64 z) ∧ Res (sumF (farF m) l) z ∧ Drawn0 w w' := by
  have HC := Lib.hid hC
  have HL := Lib.hid hl
  have HM := Lib.hid hm
  clear hC hl hm
  obtain ⟨Q, M, hQ, hR⟩ := run_all .add (by simp)
  have HR := Lib.hid hR
  clear hR
  go_enter Try.func38, Try.ntmps38
  go_wp2_with (fail)
  go_loopg [5, 10] l.length (fun kq v5 v10 w' => ∃ (i s : Nat), v10 = .int .i64 i ∧ v5 = .float .f64 s ∧ Aside0 (i + kq = l.length) ∧ Aside0 (Res (sumF (farF m) (l.take i)) s) ∧ Drawn0 w w')
  case atStart => exact ⟨0, 0, rfl, rfl, ⟨by omega⟩, ⟨rfl⟩, Drawn0.refl w⟩
  case round =>
    obtain ⟨i, s, rfl, rfl, hk, hs, hD⟩ := hrel
    obtain ⟨nd, rfl⟩ := hD.out
    clear hD
    by_cases hi : i < l.length
    · have hib : decide (i < l.length) = true := decide_eq_true hi
      obtain ⟨ad, rfl, hx⟩ := Kd.at_int (Kd.C_below HC.out (pw_below_drewN (Below.refl _ _) nd)) (i : Int) (by omega) (by omega)
      simp only [Int.toNat_natCast] at hx
      have HI := Lib.hid hi
      clear hi
      go_wp2_with (first | (go_at_call 39; refine (far_call _ b mz m _ HM.out (by simpa using hb)).mono ?_; rintro e w' ⟨z, rfl, hz, ⟨n1, rfl⟩⟩; have HZ := Lib.hid hz; clear hz))
      go_roundg (l.length - (i + 1))
      case measure => have := hk.out; have := HI.out; omega
      case rel =>
        have hs1 : wrap64 ((i : Int) + 1) = ((i + 1 : Nat) : Int) := by unfold wrap64; have := HI.out; have := HL.out; omega
        refine ⟨i + 1, _, congrArg _ hs1, rfl, ⟨by have := HI.out; omega⟩, ⟨?_⟩, ⟨⟨_, rfl⟩⟩⟩
        rw [sumF_next _ _ _ HI.out]
        exact res_fop (by simp) hs.out HZ.out (HR.out _ _ _)
    · have hib : decide (i < l.length) = false := decide_eq_false hi
      have hil : i = l.length := by have := hk.out; omega
      have HIL := Lib.hid hil
      clear hi hil
      go_wp2
      go_ret
      exact ⟨_, rfl, by have := hs.out; rwa [HIL.out, List.take_length] at this, ⟨⟨_, rfl⟩⟩⟩

end Go.Proofs.Ythgioldoeejjnaa.Gf
