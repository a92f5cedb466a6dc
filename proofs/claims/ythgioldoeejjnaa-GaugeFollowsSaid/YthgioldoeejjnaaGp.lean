/- GaugeFollows: for all gauges a, b, every number h and every row of gauges l: a gauge that follows another one (gauge.Smooth) and how far gauges lie apart (gauge.Spread) are to the bit what the reference tells, and the row stays. Conditions: none beyond those of the row. -/
import Derived.Test.YthgioldoeejjnaaGs
import Derived.Test.YthgioldoeejjnaaXSlx
namespace Go.Proofs.Ythgioldoeejjnaa.Gf
open Go.RowKit Go.Proofs.Ythgioldoeejjnaa.XSl Go.Proofs.YthgioldoeejjnaaW.PrintWords Go.Proofs.YthgioldoeejjnaaW.PrintLast
set_option linter.unusedVariables false
set_option linter.unusedSimpArgs false

theorem eq_self_u (l : List Int) (hl : l.length ≤ 140737488355328) : slices_Equal_uint64_uint64.f (l.length + 1) l l = some true := by
  unfold slices_Equal_uint64_uint64.f
  rw [if_pos rfl]
  have : ∀ (d k i : Nat), i + d = l.length → d < k → slices_Equal_uint64_uint64.l0 k l l (l.length : Int) (i : Int) = some true := by
    intro d
    induction d with
    | zero =>
      intro k i hi hk
      obtain ⟨k, rfl⟩ : ∃ m, k = m + 1 := ⟨k - 1, by omega⟩
      simp only [slices_Equal_uint64_uint64.l0]
      rw [if_neg (by omega)]
    | succ d ih =>
      intro k i hi hk
      obtain ⟨k, rfl⟩ : ∃ m, k = m + 1 := ⟨k - 1, by omega⟩
      simp only [slices_Equal_uint64_uint64.l0]
      rw [if_pos (by omega), if_pos (by omega), if_pos (by omega), if_pos (by omega), if_pos trivial, show wrap64 ((i : Int) + 1) = ((i + 1 : Nat) : Int) by unfold wrap64; omega]
      exact ih k (i + 1) (by omega) (by omega)
  exact this l.length (l.length + 1) 0 (by omega) (by omega)

/-- The mean of gauges; how far they lie apart. -/
def meanF (l : List Int) : Option Nat := fop .quo (sumF (fun x => some x.toNat) l) (some (fi l.length))
def SpreadS (l : List Int) : Nat := canonO (fop .quo (sumF (farF (meanF l)) l) (some (fi l.length)))

set_option maxHeartbeats 4000000 in
theorem Spread_call (A : Option Addr) (c : Nat) (l : List Int) (w : World) (hC : Kd.C (Kd.int .u64) w A l.length l) (hl : l.length ≤ 140737488355328) :
    Calls Try.prog 21 #[.slice A l.length c] w fun e w' => e = .returned (.int .u64 (SpreadS l)) ∧ Below w.heap.size w w' := by
  have hsf : ∀ (a : Addr) (x : Nat) (m : Mode) (W : World), (store a (.float .f64 x) m).run Try.prog W = stored Try.prog W a (.float .f64 x) m := fun a x m W => run_store Try.prog W a _ m rfl
  have hmf : ∀ (fn : Fn) (first cap : Array Value) (w : World), (Instr.makeFunc fn first cap).run Try.prog w = .ok (.func fn first cap) w := fun _ _ _ _ => rfl
  have HC := Lib.hid hC
  have HL := Lib.hid hl
  have HB := Lib.hid (Below.refl w.heap.size w)
  have HSF := Lib.hid (fun (W : World) (h : Kd.C (Kd.int .u64) W A l.length l) => sumFrom_call A c l W h hl)
  clear hC hl
  go_enter Try.func21, Try.ntmps21
  go_wp2_with (first
    | (go_at_call 32; refine (whole_call _ _).mono ?_; rintro e w' ⟨rfl, rfl⟩)
    | (go_at_call 38; refine (HSF.out _ HC.out).mono ?_; clear HSF; rintro e w' ⟨zs, rfl, hs, ⟨n1, rfl⟩⟩; have HS := Lib.hid hs; have n0_ := Lib.hid (pw_below_drewN HB.out n1); clear hs HB; have HB := n0_; clear n0_)
    | (go_at_call 38; refine (sumFar_call A c l _ z (meanF l) (res_fop (by simp) HS.out (b := some _) rfl HZ.out) _ (Kd.C_below HC.out (below_alloc HB.out _)) HL.out (by simp)).mono ?_; rintro e w4 ⟨zt, rfl, ht, ⟨n2, rfl⟩⟩; have HT := Lib.hid ht; have n0_ := Lib.hid (pw_below_drewN (below_alloc HB.out (.cells #[.float .f64 z] 26)) n2); clear ht HB; have HB := n0_; clear n0_)
    | (go_at_call 31; refine (over_call _ _ _).mono ?_; rintro e w3 ⟨z, m, rfl, hw3, hz⟩; have n0_ := pw_below_drewN HB.out m; rw [← hw3] at n0_; have HZ := Lib.hid hz; have n1_ := Lib.hid n0_; clear hz hw3 HB n0_; have HB := n1_; clear n1_)
    | (go_at_call 30; refine (told_call _ _).mono ?_; rintro e w' ⟨rfl, rfl⟩))
  go_ret
  refine ⟨congrArg (fun n : Nat => Ending.returned (.int .u64 (n : Int))) (canon_res ?_), by repeat (first | exact HB.out | apply below_alloc | apply pw_below_drewN)⟩
  exact res_fop (by simp) HT.out (b := some _) rfl HZ.out

set_option maxHeartbeats 4000000 in
theorem SpreadR_call (A : Option Addr) (c : Nat) (l : List Int) (w : World) (hC : Kd.C (Kd.int .u64) w A l.length l) (hl : l.length ≤ 140737488355328) :
    Calls Try.prog 22 #[.slice A l.length c] w fun e w' => e = .returned (.int .u64 (SpreadS l)) ∧ Below w.heap.size w w' := by
  have hw := run_whole
  obtain ⟨Q, M, hQ, hR⟩ := run_all .add (by simp)
  obtain ⟨Q1, M1, hQ1, hR1⟩ := run_all .sub (by simp)
  obtain ⟨Q2, M2, hQ2, hR2⟩ := run_all .mul (by simp)
  obtain ⟨Q3, M3, hQ3, hR3⟩ := run_all .quo (by simp)
  have HR := Lib.hid hR
  have HR1 := Lib.hid hR1
  have HR2 := Lib.hid hR2
  have HR3 := Lib.hid hR3
  have HC := Lib.hid hC
  have HL := Lib.hid hl
  clear hC hl hR hR1 hR2 hR3
  go_enter Try.func22, Try.ntmps22
  go_wp2_with (fail)
  go_loopg [3, 13] l.length (fun kq v3 v13 w' => ∃ (i s : Nat), v13 = .int .i64 i ∧ v3 = .float .f64 s ∧ Aside0 (i + kq = l.length) ∧ Aside0 (Res (sumF (fun x => some x.toNat) (l.take i)) s) ∧ Drawn0 w w')
  case atStart => exact ⟨0, 0, rfl, rfl, ⟨by omega⟩, ⟨rfl⟩, Drawn0.refl w⟩
  case round =>
    obtain ⟨i, s, rfl, rfl, hk, hs, hD⟩ := hrel
    obtain ⟨nd, rfl⟩ := hD.out
    clear hD
    by_cases hi : i < l.length
    · have hib : decide (i < l.length) = true := decide_eq_true hi
      obtain ⟨ad, rfl, hx⟩ := Kd.at_int (Kd.C_below HC.out (pw_below_drewN (Below.refl _ _) nd)) (i : Int) (by omega) (by omega)
      simp only [Int.toNat_natCast] at hx
      have HI := Lib.hid hi
      clear hi
      go_wp2_with (first | (go_at_call 35; refine (float_call _ _).mono ?_; rintro e w' ⟨rfl, rfl⟩))
      go_roundg (l.length - (i + 1))
      case measure => have := hk.out; have := HI.out; omega
      case rel =>
        have hs1 : wrap64 ((i : Int) + 1) = ((i + 1 : Nat) : Int) := by unfold wrap64; have := HI.out; have := HL.out; omega
        refine ⟨i + 1, _, congrArg _ hs1, rfl, ⟨by have := HI.out; omega⟩, ⟨?_⟩, ⟨⟨_, rfl⟩⟩⟩
        rw [sumF_next _ _ _ HI.out]
        exact res_fop (by simp) hs.out (b := some _) rfl (HR.out _ _ _)
    · have hib : decide (i < l.length) = false := decide_eq_false hi
      have hil : i = l.length := by have := hk.out; omega
      have hs2 : Res (sumF (fun x => some x.toNat) l) s := by have := hs.out; rwa [hil, List.take_length] at this
      have hmean := fun W => res_fop (op := .quo) (by simp) hs2 (b := some (fi l.length)) rfl (HR3.out s (fi l.length) W)
      have HM := Lib.hid hmean
      clear hi hil hs2 hmean hs
      go_wp2_with (fail)
      have hm1 := HM.out (w.drewN nd)
      change Res (meanF l) _ at hm1
      generalize Q3 s (floatOfInt .f64 (l.length : Int)) (w.drewN nd) = mz at *
      have HM1 := Lib.hid hm1
      clear hm1 HM
      obtain ⟨n2, hn2⟩ : ∃ n, n = nd + M3 s (floatOfInt .f64 (l.length : Int)) := ⟨_, rfl⟩
      rw [← hn2]
      clear hn2
      go_loopg [7, 29] l.length (fun kq v7 v29 w' => ∃ (i s : Nat), v29 = .int .i64 i ∧ v7 = .float .f64 s ∧ Aside0 (i + kq = l.length) ∧ Aside0 (Res (sumF (farF (meanF l)) (l.take i)) s) ∧ Drawn0 w w')
      case atStart => exact ⟨0, 0, rfl, rfl, ⟨by omega⟩, ⟨rfl⟩, ⟨⟨n2, rfl⟩⟩⟩
      case round =>
        obtain ⟨i2, s2, rfl, rfl, hk2, hs2, hD⟩ := hrel
        obtain ⟨nd2, rfl⟩ := hD.out
        clear hD
        by_cases hi2 : i2 < l.length
        · have hib2 : decide (i2 < l.length) = true := decide_eq_true hi2
          obtain ⟨ad, rfl, hx⟩ := Kd.at_int (Kd.C_below HC.out (pw_below_drewN (Below.refl _ _) nd2)) (i2 : Int) (by omega) (by omega)
          simp only [Int.toNat_natCast] at hx
          have HI := Lib.hid hi2
          clear hi2
          go_wp2_with (first | (go_at_call 35; refine (float_call _ _).mono ?_; rintro e w' ⟨rfl, rfl⟩))
          go_roundg (l.length - (i2 + 1))
          case measure => have := hk2.out; have := HI.out; omega
          case rel =>
            have hs1 : wrap64 ((i2 : Int) + 1) = ((i2 + 1 : Nat) : Int) := by unfold wrap64; have := HI.out; have := HL.out; omega
            refine ⟨i2 + 1, _, congrArg _ hs1, rfl, ⟨by have := HI.out; omega⟩, ⟨?_⟩, ⟨⟨_, rfl⟩⟩⟩
            rw [sumF_next _ _ _ HI.out]
            have h1 := fun W => res_fop (op := .sub) (by simp) (a := some (rd l (i2 : Int)).toNat) rfl HM1.out (HR1.out (rd l (i2 : Int)).toNat mz W)
            exact res_fop (by simp) hs2.out (res_fop (by simp) (h1 _) (h1 _) (HR2.out _ _ _)) (HR.out _ _ _)
        · have hib2 : decide (i2 < l.length) = false := decide_eq_false hi2
          have hil : i2 = l.length := by have := hk2.out; omega
          have hs3 : Res (sumF (farF (meanF l)) l) s2 := by have := hs2.out; rwa [hil, List.take_length] at this
          have HS := Lib.hid hs3
          clear hi2 hil hs3 hs2
          go_wp2_with (first | (go_at_call 33; refine (bits_call _ _).mono ?_; rintro e w' ⟨rfl, rfl⟩))
          go_ret
          refine ⟨congrArg (fun n : Nat => Ending.returned (.int .u64 (n : Int))) (canon_res ?_), by repeat (first | exact Below.refl _ _ | apply pw_below_drewN)⟩
          exact res_fop (by simp) HS.out (b := some _) rfl (HR3.out _ _ _)

set_option maxHeartbeats 4000000 in
theorem GaugeFollows_walk (a b h : Int) (A : Option Addr) (c : Nat) (l : List Int) (w : World) (ha : (Lit.int .u64 a).wf = true) (hb : (Lit.int .u64 b).wf = true) (hh : (Lit.int .i64 h).wf = true)
    (hC : Kd.C (Kd.int .u64) w A l.length l) (hc : l.length ≤ c) (hl : l.length * 8 ≤ 140737488351232) (hF : ∀ x ∈ l, (Lit.int .u64 x).wf = true) :
    Calls Try.prog 6 #[.int .u64 a, .int .u64 b, .int .i64 h, .slice A l.length c] w fun e w' => e = .returned (.bool true) ∧ Below w.heap.size w w' := by
  have HC := Lib.hid hC
  have Hc := Lib.hid hc
  have HL := Lib.hid hl
  have hcl : slices_Clone_uint64_uint64.f l = some l := by unfold slices_Clone_uint64_uint64.f; rw [if_pos (by omega)]
  have HCL := Lib.hid hcl
  have HB := Lib.hid (Below.refl w.heap.size w)
  have HES := Lib.hid (eq_self_u l (by omega))
  clear hC hc hl hF ha hb hh hcl
  go_enter Try.func6, Try.ntmps6
  go_wp2_with (first
    | (go_at_call 20; refine (slices_Clone_uint64_uint64.calls A c l l w HC.out Hc.out HCL.out).mono ?_; clear HCL; rintro e w1 ⟨gv, rfl, hR1, hB1⟩; obtain ⟨Ag, cg, rfl, hcg, hCg⟩ := Kd.R_reads hR1; have n0_ := Lib.hid (below_then HB.out HB.out.size hB1); have HCG := Lib.hid hCg; have Hcg := Lib.hid hcg; clear hR1 hB1 hcg hCg HB; have HB := n0_; have HB1 := Lib.hid (Below.refl w1.heap.size w1); clear n0_)
    | (go_at_call 16; refine (Smooth_call _ _ _ _).mono ?_; rintro e w2 ⟨rfl, ⟨n1, rfl⟩⟩)
    | (go_at_call 17; refine (SmoothR_call _ _ _ _).mono ?_; rintro e w2 ⟨rfl, ⟨n1, rfl⟩⟩)
    | (go_at_call 21; refine (Spread_call Ag cg l _ (Kd.C_below HCG.out (by repeat (first | exact HB1.out | apply pw_below_drewN))) (by have := HL.out; omega)).mono ?_; rintro e w2 ⟨rfl, hb2⟩; (first | have n0_ := Lib.hid (below_then HB.out HB.out.size hb2) | have n0_ := Lib.hid (below_then (pw_below_drewN HB.out _) HB.out.size hb2)); (first | have n1_ := Lib.hid (below_then HB1.out HB1.out.size hb2) | have n1_ := Lib.hid (below_then (pw_below_drewN HB1.out _) HB1.out.size hb2)); clear HB HB1 hb2; have HB := n0_; have HB1 := n1_; clear n0_ n1_)
    | (go_at_call 22; refine (SpreadR_call A c l _ (Kd.C_below HC.out (by repeat (first | exact HB.out | apply pw_below_drewN))) (by have := HL.out; omega)).mono ?_; rintro e w2 ⟨rfl, hb2⟩; (first | have n0_ := Lib.hid (below_then HB.out HB.out.size hb2) | have n0_ := Lib.hid (below_then (pw_below_drewN HB.out _) HB.out.size hb2)); (first | have n1_ := Lib.hid (below_then HB1.out HB1.out.size hb2) | have n1_ := Lib.hid (below_then (pw_below_drewN HB1.out _) HB1.out.size hb2)); clear HB HB1 hb2; have HB := n0_; have HB1 := n1_; clear n0_ n1_)
    | (go_at_call 23; refine (slices_Equal_uint64_uint64.calls _ Ag cg l A c l true _ (Kd.C_below HCG.out (by repeat (first | exact HB1.out | apply pw_below_drewN))) Hcg.out (Kd.C_below HC.out (by repeat (first | exact HB.out | apply pw_below_drewN))) Hc.out HES.out).mono ?_; rintro e w2 ⟨rfl, hD⟩; obtain ⟨nd, rfl⟩ := hD.out; clear hD))
  go_ret
  exact ⟨rfl, by repeat (first | exact HB.out | apply pw_below_drewN)⟩
end Go.Proofs.Ythgioldoeejjnaa.Gf
