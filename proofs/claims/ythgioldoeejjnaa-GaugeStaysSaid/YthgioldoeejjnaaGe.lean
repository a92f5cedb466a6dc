/- gauge: Smooth, the program's and the reference's. -/
import Derived.Test.YthgioldoeejjnaaGd
import Derived.Test.YthgioldoeejjnaaWMore
namespace Go.Proofs.Ythgioldoeejjnaa.Gf
open Go.RowKit Go.Proofs.YthgioldoeejjnaaW.PrintWords Go.Proofs.YthgioldoeejjnaaW.PrintLast Go.Proofs.YthgioldoeejjnaaW.PrintMore
attribute [local go_sem] max2_int min2_int max_two min_two
set_option linter.unusedVariables false
set_option linter.unusedSimpArgs false

theorem run_from (a : Int) (W : World) : (callFunc 13 #[.int .u64 a]).run Try.prog W = .ok (.value (.float .f64 a.toNat)) W := by rfl
def hundred : Nat := 4636737291354636288
def clampH (h : Int) : Int := min (max h 0) 100
/-- A gauge that follows another one. -/
def SmoothS (a b h : Int) : Nat := canonO (fop .add (some a.toNat) (fop .mul (floatBits .sub .f64 b.toNat a.toNat) (floatBits .quo .f64 (fi (clampH h)) hundred)))

theorem float_call (a : Int) (w : World) : Calls Try.prog 35 #[.int .u64 a] w fun e w' => e = .returned (.float .f64 a.toNat) ∧ w' = w := by
  have hf := run_from
  go_enter Try.func35, Try.ntmps35
  go_wp2
  go_ret
  exact ⟨rfl, rfl⟩

theorem Smooth_call (a b h : Int) (w : World) : Calls Try.prog 16 #[.int .u64 a, .int .u64 b, .int .i64 h] w fun e w' => e = .returned (.int .u64 (SmoothS a b h)) ∧ Drawn0 w w' := by
  have hf := run_from
  have hw := run_whole
  obtain ⟨Q, M, hQ, hR⟩ := run_all .add (by simp)
  obtain ⟨Q1, M1, hQ1, hR1⟩ := run_all .sub (by simp)
  obtain ⟨Q2, M2, hQ2, hR2⟩ := run_all .mul (by simp)
  obtain ⟨Q3, M3, hQ3, hR3⟩ := run_all .quo (by simp)
  have HR := Lib.hid hR
  have HR1 := Lib.hid hR1
  have HR2 := Lib.hid hR2
  have HR3 := Lib.hid hR3
  clear hR hR1 hR2 hR3
  rcases (show h < 0 ∨ (0 ≤ h ∧ h ≤ 100) ∨ 100 < h by omega) with hh | ⟨hh, hh2⟩ | hh
  · have hc : clampH h = 0 := by unfold clampH; omega
    have n2 : ¬ 100 < h := by omega
    have n3 : ¬ 100 < (0 : Int) := by decide
    have n4 : h < 100 := by omega
    unfold SmoothS
    rw [hc]
    clear hc
    go_enter Try.func16, Try.ntmps16
    go_wp2_with (first | (go_at_call 32; refine (whole_call _ _).mono ?_; rintro e w' ⟨rfl, rfl⟩) | (go_at_call 31; refine (over_call _ _ _).mono ?_; rintro e w' ⟨z, m, rfl, rfl, hz⟩; have HZ := Lib.hid hz; clear hz) | (go_at_call 30; refine (told_call _ _).mono ?_; rintro e w' ⟨rfl, rfl⟩))
    go_ret
    refine ⟨congrArg (fun n : Nat => Ending.returned (.int .u64 (n : Int))) (canon_res ?_), ⟨⟨_, rfl⟩⟩⟩
    exact res_fop (by simp) (a := some _) rfl (res_fop (by simp) (HR1.out _ _ _) HZ.out (HR2.out _ _ _)) (HR.out _ _ _)
  · have hc : clampH h = h := by unfold clampH; omega
    have n1 : ¬ h < 0 := by omega
    have n2 : ¬ 100 < h := by omega
    unfold SmoothS
    rw [hc]
    clear hc
    go_enter Try.func16, Try.ntmps16
    go_wp2_with (first | (go_at_call 32; refine (whole_call _ _).mono ?_; rintro e w' ⟨rfl, rfl⟩) | (go_at_call 31; refine (over_call _ _ _).mono ?_; rintro e w' ⟨z, m, rfl, rfl, hz⟩; have HZ := Lib.hid hz; clear hz) | (go_at_call 30; refine (told_call _ _).mono ?_; rintro e w' ⟨rfl, rfl⟩))
    go_ret
    refine ⟨congrArg (fun n : Nat => Ending.returned (.int .u64 (n : Int))) (canon_res ?_), ⟨⟨_, rfl⟩⟩⟩
    exact res_fop (by simp) (a := some _) rfl (res_fop (by simp) (HR1.out _ _ _) HZ.out (HR2.out _ _ _)) (HR.out _ _ _)
  · have hc : clampH h = 100 := by unfold clampH; omega
    have n1 : ¬ h < 0 := by omega
    have n3 : ¬ (100 : Int) < 0 := by decide
    unfold SmoothS
    rw [hc]
    clear hc
    go_enter Try.func16, Try.ntmps16
    go_wp2_with (first | (go_at_call 32; refine (whole_call _ _).mono ?_; rintro e w' ⟨rfl, rfl⟩) | (go_at_call 31; refine (over_call _ _ _).mono ?_; rintro e w' ⟨z, m, rfl, rfl, hz⟩; have HZ := Lib.hid hz; clear hz) | (go_at_call 30; refine (told_call _ _).mono ?_; rintro e w' ⟨rfl, rfl⟩))
    go_ret
    refine ⟨congrArg (fun n : Nat => Ending.returned (.int .u64 (n : Int))) (canon_res ?_), ⟨⟨_, rfl⟩⟩⟩
    exact res_fop (by simp) (a := some _) rfl (res_fop (by simp) (HR1.out _ _ _) HZ.out (HR2.out _ _ _)) (HR.out _ _ _)

theorem SmoothR_call (a b h : Int) (w : World) : Calls Try.prog 17 #[.int .u64 a, .int .u64 b, .int .i64 h] w fun e w' => e = .returned (.int .u64 (SmoothS a b h)) ∧ Drawn0 w w' := by
  have hf := run_from
  have hw := run_whole
  obtain ⟨Q, M, hQ, hR⟩ := run_all .add (by simp)
  obtain ⟨Q1, M1, hQ1, hR1⟩ := run_all .sub (by simp)
  obtain ⟨Q2, M2, hQ2, hR2⟩ := run_all .mul (by simp)
  obtain ⟨Q3, M3, hQ3, hR3⟩ := run_all .quo (by simp)
  have HR := Lib.hid hR
  have HR1 := Lib.hid hR1
  have HR2 := Lib.hid hR2
  have HR3 := Lib.hid hR3
  clear hR hR1 hR2 hR3
  rcases (show h < 0 ∨ h = 0 ∨ (0 < h ∧ h < 100) ∨ h = 100 ∨ 100 < h by omega) with hh | rfl | ⟨hh, hh2⟩ | rfl | hh
  · have hc : clampH h = 0 := by unfold clampH; omega
    have n1 : h < 100 := by omega
    have n2 : ¬ 0 < h := by omega
    unfold SmoothS
    rw [hc]
    clear hc
    go_enter Try.func17, Try.ntmps17
    go_wp2_with (first | (go_at_call 35; refine (float_call _ _).mono ?_; rintro e w' ⟨rfl, rfl⟩) | (go_at_call 33; refine (bits_call _ _).mono ?_; rintro e w' ⟨rfl, rfl⟩))
    go_ret
    refine ⟨congrArg (fun n : Nat => Ending.returned (.int .u64 (n : Int))) (canon_res ?_), ⟨⟨_, rfl⟩⟩⟩
    exact res_fop (by simp) (a := some _) rfl (res_fop (by simp) (HR1.out _ _ _) (HR3.out _ _ _) (HR2.out _ _ _)) (HR.out _ _ _)
  · have hc : clampH 0 = 0 := by unfold clampH; omega
    unfold SmoothS
    rw [hc]
    clear hc
    go_enter Try.func17, Try.ntmps17
    go_wp2_with (first | (go_at_call 35; refine (float_call _ _).mono ?_; rintro e w' ⟨rfl, rfl⟩) | (go_at_call 33; refine (bits_call _ _).mono ?_; rintro e w' ⟨rfl, rfl⟩))
    go_ret
    refine ⟨congrArg (fun n : Nat => Ending.returned (.int .u64 (n : Int))) (canon_res ?_), ⟨⟨_, rfl⟩⟩⟩
    exact res_fop (by simp) (a := some _) rfl (res_fop (by simp) (HR1.out _ _ _) (HR3.out _ _ _) (HR2.out _ _ _)) (HR.out _ _ _)
  · have hc : clampH h = h := by unfold clampH; omega
    unfold SmoothS
    rw [hc]
    clear hc
    go_enter Try.func17, Try.ntmps17
    go_wp2_with (first | (go_at_call 35; refine (float_call _ _).mono ?_; rintro e w' ⟨rfl, rfl⟩) | (go_at_call 33; refine (bits_call _ _).mono ?_; rintro e w' ⟨rfl, rfl⟩))
    go_ret
    refine ⟨congrArg (fun n : Nat => Ending.returned (.int .u64 (n : Int))) (canon_res ?_), ⟨⟨_, rfl⟩⟩⟩
    exact res_fop (by simp) (a := some _) rfl (res_fop (by simp) (HR1.out _ _ _) (HR3.out _ _ _) (HR2.out _ _ _)) (HR.out _ _ _)
  · have hc : clampH 100 = 100 := by unfold clampH; omega
    unfold SmoothS
    rw [hc]
    clear hc
    go_enter Try.func17, Try.ntmps17
    go_wp2_with (first | (go_at_call 35; refine (float_call _ _).mono ?_; rintro e w' ⟨rfl, rfl⟩) | (go_at_call 33; refine (bits_call _ _).mono ?_; rintro e w' ⟨rfl, rfl⟩))
    go_ret
    refine ⟨congrArg (fun n : Nat => Ending.returned (.int .u64 (n : Int))) (canon_res ?_), ⟨⟨_, rfl⟩⟩⟩
    exact res_fop (by simp) (a := some _) rfl (res_fop (by simp) (HR1.out _ _ _) (HR3.out _ _ _) (HR2.out _ _ _)) (HR.out _ _ _)
  · have hc : clampH h = 100 := by unfold clampH; omega
    have n1 : ¬ h < 100 := by omega
    unfold SmoothS
    rw [hc]
    clear hc
    go_enter Try.func17, Try.ntmps17
    go_wp2_with (first | (go_at_call 35; refine (float_call _ _).mono ?_; rintro e w' ⟨rfl, rfl⟩) | (go_at_call 33; refine (bits_call _ _).mono ?_; rintro e w' ⟨rfl, rfl⟩))
    go_ret
    refine ⟨congrArg (fun n : Nat => Ending.returned (.int .u64 (n : Int))) (canon_res ?_), ⟨⟨_, rfl⟩⟩⟩
    exact res_fop (by simp) (a := some _) rfl (res_fop (by simp) (HR1.out _ _ _) (HR3.out _ _ _) (HR2.out _ _ _)) (HR.out _ _ _)
end Go.Proofs.Ythgioldoeejjnaa.Gf
