/- GaugeFills: for all numbers used, total, inodes, dirs: how full something is (gauge.Fill) and how good a group is (gauge.Score) are to the bit what the reference tells, and one of four is a quarter. Conditions: none beyond those of the row. -/
import Derived.Test.YthgioldoeejjnaaGc
namespace Go.Proofs.Ythgioldoeejjnaa.Gf
open Go.RowKit Go.Proofs.YthgioldoeejjnaaW.PrintWords Go.Proofs.YthgioldoeejjnaaW.PrintLast
set_option linter.unusedVariables false
set_option linter.unusedSimpArgs false

theorem run_all (op : BinOp) (hop : op = .add ∨ op = .sub ∨ op = .mul ∨ op = .quo) :
    ∃ (Q : Nat → Nat → World → Nat) (M : Nat → Nat → Nat), (∀ x y W, (binOp op 26 (.float .f64 x) (.float .f64 y)).run Try.prog W = .ok (.float .f64 (Q x y W)) (W.drewN (M x y))) ∧ (∀ x y W, Res (floatBits op .f64 x y) (Q x y W)) := by
  have h := fun x y => run_op (P := Try.prog) op hop 26 x y
  exact ⟨fun x y => Classical.choose (h x y), fun x y => Classical.choose (Classical.choose_spec (h x y)), fun x y W => (Classical.choose_spec (Classical.choose_spec (h x y)) W).1, fun x y W => (Classical.choose_spec (Classical.choose_spec (h x y)) W).2⟩

abbrev fi (n : Int) : Nat := floatOfInt .f64 n
def FillS (a b : Int) : Nat := canonO (floatBits .quo .f64 (fi a) (fi b))
def one : Nat := 4607182418800017408
def ScoreS (a b c d : Int) : Nat := canonO (fop .add (floatBits .quo .f64 (fi a) (fi b)) (fop .quo (some (fi c)) (floatBits .add .f64 (fi d) one)))

theorem Fill_call (a b : Int) (w : World) : Calls Try.prog 8 #[.int .i64 a, .int .i64 b] w fun e w' => e = .returned (.int .u64 (FillS a b)) ∧ Drawn0 w w' := by
  go_enter Try.func8, Try.ntmps8
  go_wp2_with (first | (go_at_call 32; refine (whole_call _ _).mono ?_; rintro e w' ⟨rfl, rfl⟩) | (go_at_call 31; refine (over_call _ _ _).mono ?_; rintro e w' ⟨z, m, rfl, rfl, hz⟩; have HZ := Lib.hid (canon_res hz); clear hz) | (go_at_call 30; refine (told_call _ _).mono ?_; rintro e w' ⟨rfl, rfl⟩))
  go_ret
  exact ⟨by rw [HZ.out]; rfl, ⟨⟨m, rfl⟩⟩⟩

theorem FillR_call (a b : Int) (w : World) : Calls Try.prog 9 #[.int .i64 a, .int .i64 b] w fun e w' => e = .returned (.int .u64 (FillS a b)) ∧ Drawn0 w w' := by
  have hw := run_whole
  obtain ⟨Q, M, hQ, hR⟩ := run_all .quo (by simp)
  have HR := Lib.hid hR
  clear hR
  go_enter Try.func9, Try.ntmps9
  go_wp2_with (first | (go_at_call 33; refine (bits_call _ _).mono ?_; rintro e w' ⟨rfl, rfl⟩))
  go_ret
  exact ⟨by rw [canon_res (HR.out _ _ _)]; rfl, ⟨⟨_, rfl⟩⟩⟩

theorem Score_call (a b c d : Int) (w : World) : Calls Try.prog 10 #[.int .i64 a, .int .i64 b, .int .i64 c, .int .i64 d] w fun e w' => e = .returned (.int .u64 (ScoreS a b c d)) ∧ Drawn0 w w' := by
  obtain ⟨Q, M, hQ, hR⟩ := run_all .add (by simp)
  have HR := Lib.hid hR
  clear hR
  go_enter Try.func10, Try.ntmps10
  go_wp2_with (first | (go_at_call 32; refine (whole_call _ _).mono ?_; rintro e w' ⟨rfl, rfl⟩) | (go_at_call 31; refine (over_call _ _ _).mono ?_; rintro e w' ⟨z, m, rfl, rfl, hz⟩; have HZ := Lib.hid hz; clear hz) | (go_at_call 30; refine (told_call _ _).mono ?_; rintro e w' ⟨rfl, rfl⟩))
  go_ret
  rename_i z1 m1 HZ1
  refine ⟨congrArg (fun n : Nat => Ending.returned (.int .u64 (n : Int))) (canon_res ?_), ⟨⟨_, rfl⟩⟩⟩
  exact res_fop (by simp) HZ1.out (res_fop (by simp) (a := some _) rfl (HR.out _ _ _) HZ.out) (HR.out _ _ _)

theorem ScoreR_call (a b c d : Int) (w : World) : Calls Try.prog 11 #[.int .i64 a, .int .i64 b, .int .i64 c, .int .i64 d] w fun e w' => e = .returned (.int .u64 (ScoreS a b c d)) ∧ Drawn0 w w' := by
  have hw := run_whole
  obtain ⟨Q, M, hQ, hR⟩ := run_all .quo (by simp)
  obtain ⟨Q1, M1, hQ1, hR1⟩ := run_all .add (by simp)
  have HR := Lib.hid hR
  have HR1 := Lib.hid hR1
  clear hR hR1
  go_enter Try.func11, Try.ntmps11
  go_wp2_with (first | (go_at_call 33; refine (bits_call _ _).mono ?_; rintro e w' ⟨rfl, rfl⟩))
  go_ret
  refine ⟨congrArg (fun n : Nat => Ending.returned (.int .u64 (n : Int))) (canon_res ?_), ⟨⟨_, rfl⟩⟩⟩
  exact res_fop (by simp) (HR.out _ _ _) (res_fop (by simp) (a := some _) rfl (HR1.out _ _ _) (HR.out _ _ _)) (HR1.out _ _ _)

theorem fill14 : FillS 1 4 = 4598175219545276416 := by decide +kernel

theorem GaugeFills_walk (a b c d : Int) (w : World) (ha : (Lit.int .i64 a).wf = true) (hb : (Lit.int .i64 b).wf = true) (hc : (Lit.int .i64 c).wf = true) (hd : (Lit.int .i64 d).wf = true) :
    Calls Try.prog 3 #[.int .i64 a, .int .i64 b, .int .i64 c, .int .i64 d] w fun e w' => e = .returned (.bool true) ∧ Below w.heap.size w w' := by
  clear ha hb hc hd
  have hbits := run_bits
  have h14 := fill14
  go_enter Try.func3, Try.ntmps3
  go_wp2_with (first | (go_at_call 8; refine (Fill_call _ _ _).mono ?_; rintro e w' ⟨rfl, ⟨n, rfl⟩⟩) | (go_at_call 9; refine (FillR_call _ _ _).mono ?_; rintro e w' ⟨rfl, ⟨n, rfl⟩⟩) | (go_at_call 10; refine (Score_call _ _ _ _ _).mono ?_; rintro e w' ⟨rfl, ⟨n, rfl⟩⟩) | (go_at_call 11; refine (ScoreR_call _ _ _ _ _).mono ?_; rintro e w' ⟨rfl, ⟨n, rfl⟩⟩))
  go_ret
  exact ⟨rfl, by repeat (first | exact Below.refl _ _ | apply pw_below_drewN)⟩
end Go.Proofs.Ythgioldoeejjnaa.Gf
