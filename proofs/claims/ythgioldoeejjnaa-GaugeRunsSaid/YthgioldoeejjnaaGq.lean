/- GaugeRuns: for every row of whole numbers l: the mean of stretches (gauge.Mean) and how far they lie in pieces (gauge.Broken) are to the bit what the reference tells, and the row stays. Conditions: none beyond those of the row. -/
import Derived.Test.YthgioldoeejjnaaGs
import Derived.Test.YthgioldoeejjnaaXSlx
import Derived.Test.YthgioldoeejjnaaWMore
namespace Go.Proofs.Ythgioldoeejjnaa.Gf
open Go.RowKit Go.Proofs.Ythgioldoeejjnaa.XSl Go.Proofs.YthgioldoeejjnaaW.PrintWords Go.Proofs.YthgioldoeejjnaaW.PrintLast Go.Proofs.YthgioldoeejjnaaW.PrintMore
attribute [local go_sem] max2_int min2_int max_two min_two
set_option linter.unusedVariables false
set_option linter.unusedSimpArgs false

/-- The greatest of the first so many; 0 of none. -/
def maxP (l : List Int) : Nat → Int
  | 0 => 0
  | i + 1 => if i = 0 then rd l 0 else if maxP l i < rd l (i : Int) then rd l (i : Int) else maxP l i
theorem maxP_one (l : List Int) : maxP l 1 = rd l 0 := rfl
theorem maxP_next (l : List Int) (i : Nat) (h : 0 < i) : maxP l (i + 1) = if maxP l i < rd l (i : Int) then rd l (i : Int) else maxP l i := by
  rw [maxP, if_neg (by omega)]
abbrev sumI (l : List Int) : Option Nat := sumF (fun x => some (fi x)) l
def MeanS (l : List Int) : Nat := canonO (fop .quo (sumI l) (some (fi l.length)))
def BrokenS (l : List Int) : Nat := canonO (fop .sub (some one) (fop .quo (some (fi (maxP l l.length))) (sumI l)))

theorem Mean_call (A : Option Addr) (c : Nat) (l : List Int) (w : World) (hC : Kd.C (Kd.int .i64) w A l.length l) (hl : l.length ≤ 140737488355328) :
    Calls Try.prog 25 #[.slice A l.length c] w fun e w' => e = .returned (.int .u64 (MeanS l)) ∧ Drawn0 w w' := by
  have HSF := Lib.hid (sumWhole_call A c l w hC hl)
  clear hC hl
  go_enter Try.func25, Try.ntmps25
  go_wp2_with (first
    | (go_at_call 40; refine HSF.out.mono ?_; clear HSF; rintro e w' ⟨zs, rfl, hs, ⟨n1, rfl⟩⟩; have HS := Lib.hid hs; clear hs)
    | (go_at_call 32; refine (whole_call _ _).mono ?_; rintro e w' ⟨rfl, rfl⟩)
    | (go_at_call 31; refine (over_call _ _ _).mono ?_; rintro e w3 ⟨z, m, rfl, rfl, hz⟩; have HZ := Lib.hid hz; clear hz)
    | (go_at_call 30; refine (told_call _ _).mono ?_; rintro e w' ⟨rfl, rfl⟩))
  go_ret
  refine ⟨congrArg (fun n : Nat => Ending.returned (.int .u64 (n : Int))) (canon_res ?_), ⟨⟨_, rfl⟩⟩⟩
  exact res_fop (by simp) HS.out (b := some _) rfl HZ.out

theorem MeanR_call (A : Option Addr) (c : Nat) (l : List Int) (w : World) (hC : Kd.C (Kd.int .i64) w A l.length l) (hl : l.length ≤ 140737488355328) :
    Calls Try.prog 26 #[.slice A l.length c] w fun e w' => e = .returned (.int .u64 (MeanS l)) ∧ Drawn0 w w' := by
  have HSF := Lib.hid (sumR_call A c l w hC hl)
  have hw := run_whole
  obtain ⟨Q, M, hQ, hR⟩ := run_all .quo (by simp)
  have HR := Lib.hid hR
  clear hC hl hR
  go_enter Try.func26, Try.ntmps26
  go_wp2_with (first
    | (go_at_call 41; refine HSF.out.mono ?_; clear HSF; rintro e w' ⟨zs, rfl, hs, ⟨n1, rfl⟩⟩; have HS := Lib.hid hs; clear hs)
    | (go_at_call 33; refine (bits_call _ _).mono ?_; rintro e w' ⟨rfl, rfl⟩))
  go_ret
  refine ⟨congrArg (fun n : Nat => Ending.returned (.int .u64 (n : Int))) (canon_res ?_), ⟨⟨_, rfl⟩⟩⟩
  exact res_fop (by simp) HS.out (b := some _) rfl (HR.out _ _ _)

set_option maxHeartbeats 4000000 in
theorem Max_call (A : Option Addr) (c : Nat) (l : List Int) (w : World) (hC : Kd.C (Kd.int .i64) w A l.length l) (hl : l.length ≤ 140737488355328) (h0 : 0 < l.length) :
    Calls Try.prog 42 #[.slice A l.length c] w fun e w' => e = .returned (.int .i64 (maxP l l.length)) ∧ w' = w := by
  have HC := Lib.hid hC
  have HL := Lib.hid hl
  have H0 := Lib.hid h0
  obtain ⟨ad, rfl, hx0⟩ := Kd.at_int hC 0 (by omega) (by omega)
  rw [show ad.add (0 : Int).toNat = ad by simp [Addr.add]] at hx0
  have hne : ¬ (l.length : Int) < 1 := by omega
  have hne2 : ¬ l = [] := by intro e; rw [e] at h0; simp at h0
  clear hC hl
  go_enter Try.func42, Try.ntmps42
  go_wp2_with (fail)
  go_loopg [3, 4] l.length (fun kq v3 v4 w' => ∃ (i : Nat), v4 = .int .i64 i ∧ v3 = .int .i64 (maxP l i) ∧ Aside0 (i + kq = l.length + 1) ∧ Aside0 (0 < i ∧ i ≤ l.length) ∧ Aside0 (w' = w))
  case atStart => exact ⟨1, rfl, rfl, ⟨by omega⟩, ⟨by have := H0.out; omega⟩, ⟨rfl⟩⟩
  case round =>
    obtain ⟨i, rfl, rfl, hk, hp, hww⟩ := hrel
    obtain rfl := hww.out
    clear hww
    by_cases hi : i < l.length
    · have hib : decide (i < l.length) = true := decide_eq_true hi
      obtain ⟨ad2, e2, hx⟩ := Kd.at_int HC.out (i : Int) (by omega) (by omega)
      cases e2
      simp only [Int.toNat_natCast] at hx
      have HI := Lib.hid hi
      have HN := Lib.hid (maxP_next l i hp.out.1)
      have hs1 : wrap64 ((i : Int) + 1) = ((i + 1 : Nat) : Int) := by unfold wrap64; have := HL.out; omega
      clear hi
      by_cases hm : maxP l i < rd l (i : Int)
      · go_wp2
        go_roundg (l.length - i)
        case measure => have := hk.out; have := HI.out; omega
        case rel =>
          exact ⟨i + 1, (by first | exact congrArg _ hs1 | rfl), by rw [HN.out, if_pos (by omega)], ⟨by have := HI.out; omega⟩, ⟨by have := HI.out; omega⟩, ⟨rfl⟩⟩
      · go_wp2
        go_roundg (l.length - i)
        case measure => have := hk.out; have := HI.out; omega
        case rel =>
          exact ⟨i + 1, (by first | exact congrArg _ hs1 | rfl), by rw [HN.out, if_neg (by omega)], ⟨by have := HI.out; omega⟩, ⟨by have := HI.out; omega⟩, ⟨rfl⟩⟩
    · have hib : decide (i < l.length) = false := decide_eq_false hi
      have hil : i = l.length := by have := hp.out; omega
      have HIL := Lib.hid hil
      clear hi hil
      go_wp2
      go_ret
      exact ⟨by rw [← HIL.out]; rfl, rfl⟩

theorem Broken_call (A : Option Addr) (c : Nat) (l : List Int) (w : World) (hC : Kd.C (Kd.int .i64) w A l.length l) (hl : l.length ≤ 140737488355328) :
    Calls Try.prog 27 #[.slice A l.length c] w fun e w' => e = .returned (.int .u64 (BrokenS l)) ∧ Drawn0 w w' := by
  have HSF := Lib.hid (sumWhole_call A c l w hC hl)
  obtain ⟨Q, M, hQ, hR⟩ := run_all .sub (by simp)
  have HR := Lib.hid hR
  clear hR
  by_cases h0 : 0 < l.length
  · have HMX := Lib.hid (Max_call A c l w hC hl h0)
    have hlb : decide (0 < l.length) = true := decide_eq_true h0
    clear hC hl
    go_enter Try.func27, Try.ntmps27
    go_wp2_with (first
      | (go_at_call 42; refine HMX.out.mono ?_; clear HMX; rintro e w' ⟨rfl, rfl⟩)
      | (go_at_call 40; refine HSF.out.mono ?_; clear HSF; rintro e w' ⟨zs, rfl, hs, ⟨n1, rfl⟩⟩; have HS := Lib.hid hs; clear hs)
      | (go_at_call 32; refine (whole_call _ _).mono ?_; rintro e w' ⟨rfl, rfl⟩)
      | (go_at_call 31; refine (over_call _ _ _).mono ?_; rintro e w3 ⟨z, m, rfl, rfl, hz⟩; have HZ := Lib.hid hz; clear hz)
      | (go_at_call 30; refine (told_call _ _).mono ?_; rintro e w' ⟨rfl, rfl⟩))
    go_ret
    refine ⟨congrArg (fun n : Nat => Ending.returned (.int .u64 (n : Int))) (canon_res ?_), ⟨⟨_, rfl⟩⟩⟩
    exact res_fop (by simp) (a := some _) rfl (res_fop (by simp) (a := some _) rfl HS.out HZ.out) (HR.out _ _ _)
  · have hnil : l = [] := List.eq_nil_of_length_eq_zero (by omega)
    subst hnil
    clear hC hl
    go_enter Try.func27, Try.ntmps27
    go_wp2_with (first
      | (go_at_call 40; refine HSF.out.mono ?_; clear HSF; rintro e w' ⟨zs, rfl, hs, ⟨n1, rfl⟩⟩; have HS := Lib.hid hs; clear hs)
      | (go_at_call 32; refine (whole_call _ _).mono ?_; rintro e w' ⟨rfl, rfl⟩)
      | (go_at_call 31; refine (over_call _ _ _).mono ?_; rintro e w3 ⟨z, m, rfl, rfl, hz⟩; have HZ := Lib.hid hz; clear hz)
      | (go_at_call 30; refine (told_call _ _).mono ?_; rintro e w' ⟨rfl, rfl⟩))
    go_ret
    refine ⟨congrArg (fun n : Nat => Ending.returned (.int .u64 (n : Int))) (canon_res ?_), ⟨⟨_, rfl⟩⟩⟩
    exact res_fop (by simp) (a := some _) rfl (res_fop (by simp) (a := some _) rfl HS.out HZ.out) (HR.out _ _ _)

set_option maxHeartbeats 4000000 in
theorem BrokenR_call (A : Option Addr) (c : Nat) (l : List Int) (w : World) (hC : Kd.C (Kd.int .i64) w A l.length l) (hl : l.length ≤ 140737488355328) :
    Calls Try.prog 28 #[.slice A l.length c] w fun e w' => e = .returned (.int .u64 (BrokenS l)) ∧ Drawn0 w w' := by
  have HSF := Lib.hid (sumR_call A c l w hC hl)
  have hw := run_whole
  obtain ⟨Q, M, hQ, hR⟩ := run_all .sub (by simp)
  obtain ⟨Q3, M3, hQ3, hR3⟩ := run_all .quo (by simp)
  have HR := Lib.hid hR
  have HR3 := Lib.hid hR3
  have HC := Lib.hid hC
  have HL := Lib.hid hl
  clear hC hl hR hR3
  go_enter Try.func28, Try.ntmps28
  go_wp2_with (fail)
  go_loopg [3, 9] l.length (fun kq v3 v9 w' => ∃ (i : Nat), v9 = .int .i64 i ∧ v3 = .int .i64 (maxP l i) ∧ Aside0 (i + kq = l.length) ∧ Aside0 (w' = w))
  case atStart => exact ⟨0, rfl, rfl, ⟨by omega⟩, ⟨rfl⟩⟩
  case round =>
    obtain ⟨i, rfl, rfl, hk, hww⟩ := hrel
    obtain rfl := hww.out
    clear hww
    by_cases hi : i < l.length
    · have hib : decide (i < l.length) = true := decide_eq_true hi
      obtain ⟨ad, rfl, hx⟩ := Kd.at_int HC.out (i : Int) (by omega) (by omega)
      simp only [Int.toNat_natCast] at hx
      have HI := Lib.hid hi
      have hs1 : wrap64 ((i : Int) + 1) = ((i + 1 : Nat) : Int) := by unfold wrap64; have := HL.out; omega
      clear hi
      by_cases h0 : i = 0
      · subst h0
        rw [show ad.add 0 = ad by simp [Addr.add]] at hx
        go_wp2
        go_roundg (l.length - 1)
        case measure => have := hk.out; have := HI.out; omega
        case rel => exact ⟨1, (by first | exact congrArg _ hs1 | rfl), rfl, ⟨by have := HI.out; omega⟩, ⟨rfl⟩⟩
      · have HN := Lib.hid (maxP_next l i (by omega))
        have hz : ((i : Int) == 0) = false := by simp [h0]
        by_cases hm : maxP l i < rd l (i : Int)
        · go_wp2
          go_roundg (l.length - (i + 1))
          case measure => have := hk.out; have := HI.out; omega
          case rel => exact ⟨i + 1, (by first | exact congrArg _ hs1 | rfl), by rw [HN.out, if_pos (by omega)], ⟨by have := HI.out; omega⟩, ⟨rfl⟩⟩
        · go_wp2
          go_roundg (l.length - (i + 1))
          case measure => have := hk.out; have := HI.out; omega
          case rel => exact ⟨i + 1, (by first | exact congrArg _ hs1 | rfl), by rw [HN.out, if_neg (by omega)], ⟨by have := HI.out; omega⟩, ⟨rfl⟩⟩
    · have hib : decide (i < l.length) = false := decide_eq_false hi
      have hil : i = l.length := by have := hk.out; omega
      subst hil
      clear hi
      go_wp2_with (first
        | (go_at_call 41; refine HSF.out.mono ?_; clear HSF; rintro e w' ⟨zs, rfl, hs, ⟨n1, rfl⟩⟩; have HS := Lib.hid hs; clear hs)
        | (go_at_call 33; refine (bits_call _ _).mono ?_; rintro e w' ⟨rfl, rfl⟩))
      go_ret
      refine ⟨congrArg (fun n : Nat => Ending.returned (.int .u64 (n : Int))) (canon_res ?_), ⟨⟨_, rfl⟩⟩⟩
      exact res_fop (by simp) (a := some _) rfl (res_fop (by simp) (a := some _) rfl HS.out (HR3.out _ _ _)) (HR.out _ _ _)

theorem eq_self_i (l : List Int) (hl : l.length ≤ 140737488355328) : slices_Equal_int_int.f (l.length + 1) l l = some true := by
  unfold slices_Equal_int_int.f
  rw [if_pos rfl]
  have : ∀ (d k i : Nat), i + d = l.length → d < k → slices_Equal_int_int.l0 k l l (l.length : Int) (i : Int) = some true := by
    intro d
    induction d with
    | zero =>
      intro k i hi hk
      obtain ⟨k, rfl⟩ : ∃ m, k = m + 1 := ⟨k - 1, by omega⟩
      simp only [slices_Equal_int_int.l0]
      rw [if_neg (by omega)]
    | succ d ih =>
      intro k i hi hk
      obtain ⟨k, rfl⟩ : ∃ m, k = m + 1 := ⟨k - 1, by omega⟩
      simp only [slices_Equal_int_int.l0]
      rw [if_pos (by omega), if_pos (by omega), if_pos (by omega), if_pos (by omega), if_pos trivial, show wrap64 ((i : Int) + 1) = ((i + 1 : Nat) : Int) by unfold wrap64; omega]
      exact ih k (i + 1) (by omega) (by omega)
  exact this l.length (l.length + 1) 0 (by omega) (by omega)

set_option maxHeartbeats 4000000 in
theorem GaugeRuns_walk (A : Option Addr) (c : Nat) (l : List Int) (w : World) (hC : Kd.C (Kd.int .i64) w A l.length l) (hc : l.length ≤ c) (hl : l.length * 8 ≤ 140737488351232) (hF : ∀ x ∈ l, (Lit.int .i64 x).wf = true) :
    Calls Try.prog 7 #[.slice A l.length c] w fun e w' => e = .returned (.bool true) ∧ Below w.heap.size w w' := by
  have HC := Lib.hid hC
  have Hc := Lib.hid hc
  have HL := Lib.hid hl
  have hcl : slices_Clone_int_int.f l = some l := by unfold slices_Clone_int_int.f; rw [if_pos (by omega)]
  have HCL := Lib.hid hcl
  have HB := Lib.hid (Below.refl w.heap.size w)
  have HES := Lib.hid (eq_self_i l (by omega))
  clear hC hc hl hF hcl
  go_enter Try.func7, Try.ntmps7
  go_wp2_with (first
    | (go_at_call 24; refine (slices_Clone_int_int.calls A c l l w HC.out Hc.out HCL.out).mono ?_; clear HCL; rintro e w1 ⟨gv, rfl, hR1, hB1⟩; obtain ⟨Ag, cg, rfl, hcg, hCg⟩ := Kd.R_reads hR1; have n0_ := Lib.hid (below_then HB.out HB.out.size hB1); have HCG := Lib.hid hCg; have Hcg := Lib.hid hcg; clear hR1 hB1 hcg hCg HB; have HB := n0_; have HB1 := Lib.hid (Below.refl w1.heap.size w1); clear n0_)
    | (go_at_call 25; refine (Mean_call Ag cg l _ (Kd.C_below HCG.out (by repeat (first | exact HB1.out | apply pw_below_drewN))) (by have := HL.out; omega)).mono ?_; rintro e w2 ⟨rfl, ⟨n1, rfl⟩⟩)
    | (go_at_call 26; refine (MeanR_call A c l _ (Kd.C_below HC.out (by repeat (first | exact HB.out | apply pw_below_drewN))) (by have := HL.out; omega)).mono ?_; rintro e w2 ⟨rfl, ⟨n1, rfl⟩⟩)
    | (go_at_call 27; refine (Broken_call Ag cg l _ (Kd.C_below HCG.out (by repeat (first | exact HB1.out | apply pw_below_drewN))) (by have := HL.out; omega)).mono ?_; rintro e w2 ⟨rfl, ⟨n1, rfl⟩⟩)
    | (go_at_call 28; refine (BrokenR_call A c l _ (Kd.C_below HC.out (by repeat (first | exact HB.out | apply pw_below_drewN))) (by have := HL.out; omega)).mono ?_; rintro e w2 ⟨rfl, ⟨n1, rfl⟩⟩)
    | (go_at_call 29; refine (slices_Equal_int_int.calls _ Ag cg l A c l true _ (Kd.C_below HCG.out (by repeat (first | exact HB1.out | apply pw_below_drewN))) Hcg.out (Kd.C_below HC.out (by repeat (first | exact HB.out | apply pw_below_drewN))) Hc.out HES.out).mono ?_; rintro e w2 ⟨rfl, hD⟩; obtain ⟨nd, rfl⟩ := hD.out; clear hD))
  go_ret
  exact ⟨rfl, by repeat (first | exact HB.out | apply pw_below_drewN)⟩
end Go.Proofs.Ythgioldoeejjnaa.Gf
