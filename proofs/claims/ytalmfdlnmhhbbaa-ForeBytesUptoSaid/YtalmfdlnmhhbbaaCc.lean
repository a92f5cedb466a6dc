/- Written by a program of this session. slices.Grow of nil, slices.Concat, fore.Bytes: the bytes of an image. -/
import Derived.Test.YtalmfdlnmhhbbaaAp
import Derived.Test.YtalmfdlnmhhbbaaSm
namespace Go.Proofs.Ytalmfdlnmhhbbaa.Sp
open Go Go.RowKit Go.Shelf Go.Proofs Go.Proofs.Ytalmfdlnmhhbbaa.Ap Go.Proofs.Ytalmfdlnmhhbbaa.XFb Go.Proofs.YtalmfdlnmhhbbaaW.PrintWords Go.Proofs.YtalmfdlnmhhbbaaW.PrintLast Go.Proofs.YtalmfdlnmhhbbaaW.PrintMore
set_option linter.unusedVariables false
set_option linter.unusedSimpArgs false
theorem infou8 : (Try.prog.info? 5).map (fun i => (i.zero, i.size, i.bytes)) = some (some (.int .u8 0), 1, 1) := by kernel_rfl

set_option maxRecDepth 100000 in
set_option maxHeartbeats 4000000 in
theorem grow_nil (W : World) (m : Nat) (hm : m ≤ 1000000000000) :
    Calls Try.prog 17 #[.slice none 0 0, .int .i64 (m : Int)] W fun e W' => ∃ v, e = .returned v ∧ Kd.R (Kd.int .u8) 5 W' W.heap.size (fun _ => True) v [] ∧ Below W.heap.size W W' := by
  refine (callsIn_wide (n := 1)).1 ?_
  refine callsIn_of_wp Try.func17 rfl trivial ?_ rfl
  simp only [Try.ntmps17, List.size_toArray, List.length_cons, List.length_nil, Nat.reduceAdd, Nat.reduceSub, Array.replicate_succ, Array.replicate_zero, List.push_toArray, List.append_toArray, List.nil_append, List.cons_append]
  have t1 : decide ((m : Int) < 0) = false := decide_eq_false (by omega)
  by_cases h0 : 0 < m
  · have t2 : decide ((0 : Int) < (m : Int)) = true := decide_eq_true (by omega)
    have e1 : wrap64 ((m : Int) - 0) = (m : Int) := by unfold wrap64; omega
    have hrun := run_append_zeros (P := Try.prog) (W := W) 22 3 22 5 .u8 (.int .u8 0) 1 Try.underlying22 Try.underlying3 infou8 rfl m h0 (by omega) (by omega)
    have hge := grownCap_ge W m 0 5
    have hle := grownCap_le_maxLen W m 0 5 (by simp only [maxLen]; omega)
    generalize grownCap W m 0 5 = cap at *
    clear e1
    gi_wp2_with (gi_at_builtin; refine wpListIn_append_run _ rfl _ _ _ rfl _ _ rfl rfl _ _ hrun ?_)
    go_ret
    refine ⟨_, rfl, ?_, ?_⟩
    · refine Kd.R_of_own (h1 := fun _ => rfl) (World.ownsRow_made W.drew _ cap (by simp) hle ?_) (fun _ _ => trivial)
      simp only [Array.size_append, size_zeroCells, Value.cells]
      simp; omega
    · exact below_alloc (below_drew (Below.refl _ _)) _
  · obtain rfl : m = 0 := by omega
    gi_wp2
    go_ret
    exact ⟨_, rfl, Kd.R_nil _ _ _ _ _, Below.refl _ _⟩

theorem flat_take (xs : List (List Int)) (i : Nat) (h : i < xs.length) : (xs.take (i + 1)).flatten = (xs.take i).flatten ++ xs.getD i [] := by
  rw [List.take_add_one, List.getElem?_eq_getElem h, List.flatten_append]
  simp [List.getD_eq_getElem?_getD, h]
theorem flat_le (xs : List (List Int)) : ∀ i, (xs.take i).flatten.length ≤ xs.flatten.length := fun i => by
  have := congrArg (fun l : List (List Int) => l.flatten.length) (List.take_append_drop i xs)
  simp only [List.flatten_append, List.length_append] at this
  omega
set_option maxRecDepth 100000 in
set_option maxHeartbeats 4000000 in
theorem concat_ok (W : World) (A : Option Addr) (c : Nat) (xs : List (List Int)) (hA : Kd.C (Kd.slice 5 (Kd.int .u8)) W A xs.length xs) (hl : xs.length ≤ 1000000000000) (hf : xs.flatten.length ≤ 1000000000000) :
    Calls Try.prog 14 #[.slice A xs.length c] W fun e W' => ∃ v, e = .returned v ∧ Kd.R (Kd.int .u8) 5 W' W.heap.size (fun _ => True) v xs.flatten ∧ Below W.heap.size W W' := by
  have HA := Aside0.mk hA
  clear hA
  refine (callsIn_wide (n := 1)).1 ?_
  refine callsIn_of_wp Try.func14 rfl trivial ?_ rfl
  simp only [Try.ntmps14, List.size_toArray, List.length_cons, List.length_nil, Nat.reduceAdd, Nat.reduceSub, Array.replicate_succ, Array.replicate_zero, List.push_toArray, List.append_toArray, List.nil_append, List.cons_append]
  gi_wp2
  gi_loopw [3, 11] (fun v3 v11 w' => ∃ i : Nat, v3 = .int .i64 ((xs.take i).flatten.length : Int) ∧ v11 = .int .i64 (i : Int) ∧ i ≤ xs.length ∧ w' = W) (fun _ v11 _ => xs.length - (intOf v11).toNat)
  case atStart => exact ⟨0, rfl, rfl, Nat.zero_le _, rfl⟩
  case round =>
    obtain ⟨i, rfl, rfl, hi, hw⟩ := hrel
    rw [hw]
    clear hw wr
    by_cases hlt : i < xs.length
    · have t1 : decide ((i : Int) < (xs.length : Int)) = true := decide_eq_true (by omega)
      obtain ⟨ad, A0, a0, rfl, ca, la, ra⟩ := at_rows HA.out i hlt
      have hft := flat_take xs i hlt
      have hfl := flat_le xs (i + 1)
      rw [hft, List.length_append] at hfl
      have RA := Aside0.mk ra
      clear ra
      have hft2 : (xs.take (i + 1)).flatten.length = (xs.take i).flatten.length + (xs.getD i []).length := by rw [hft, List.length_append]
      have HFT := Aside0.mk hft2
      clear hft hft2
      generalize hN : (xs.take i).flatten.length = N at *
      generalize xs.getD i [] = x at *
      clear hN
      have e1 : wrap64 ((N : Int) + (x.length : Int)) = ((N + x.length : Nat) : Int) := (IntWalk.wrap64_in _ (by omega)).trans (by omega)
      have t2 : decide (((N + x.length : Nat) : Int) < 0) = false := decide_eq_false (by omega)
      have E1 := Aside0.mk e1
      clear hfl hf la
      gi_wp2
      clear e1 t2
      refine ⟨⟨i + 1, ?_, by simp, by omega, trivial⟩, by simp [intOf]; omega⟩
      rw [HFT.out]
      first | rfl | rw [E1.out]
    · have t1 : decide ((i : Int) < (xs.length : Int)) = false := decide_eq_false (by omega)
      obtain rfl : i = xs.length := by omega
      rw [List.take_length]
      obtain ⟨M, hM⟩ : ∃ M, xs.flatten.length = M := ⟨_, rfl⟩
      rw [hM]
      rw [hM] at hf
      have HF := Aside0.mk hf
      have HM := Aside0.mk hM
      clear hf hM hi hlt
      gi_wp2_with (refine ⟨trivial, ?_⟩; gi_at_call 17; refine (callsIn_wide.2 (grow_nil _ M HF.out)).mono ?_; rintro e w1 ⟨v1, rfl, hr1, hb1⟩; have HR1 := Aside0.mk hr1; have HB1 := Aside0.mk hb1; clear hr1 hb1)
      gi_loopw [6, 27] (fun v6 v27 w' => ∃ i : Nat, v27 = .int .i64 (i : Int) ∧ i ≤ xs.length ∧ Aside0 (Kd.R (Kd.int .u8) 5 w' W.heap.size (fun _ => True) v6 (xs.take i).flatten) ∧ Aside0 (Below W.heap.size W w')) (fun _ v27 _ => xs.length - (intOf v27).toNat)
      case atStart => exact ⟨0, rfl, Nat.zero_le _, HR1, HB1⟩
      case round =>
        obtain ⟨i, rfl, hi, HR, HB⟩ := hrel
        by_cases hlt : i < xs.length
        · have t1 : decide ((i : Int) < (xs.length : Int)) = true := decide_eq_true (by omega)
          obtain ⟨ad, A0, a0, rfl, ca, la, ra⟩ := at_rows (Kd.C_below HA.out HB.out) i hlt
          have hft := flat_take xs i hlt
          have hfl := flat_le xs (i + 1)
          rw [hft, List.length_append] at hfl
          have hfh := HF.out
          rw [HM.out] at hfl
          obtain ⟨v2, w2, hrun, hr2, hg2, _⟩ := run_append_bytes (P := Try.prog) (W := wr) W.heap.size 22 22 5 .u8 0 1 Try.underlying22 infou8 (by omega) u6 (xs.take i).flatten (fun _ => True) (fun _ _ => trivial) HR.out A0 a0 (xs.getD i []) ra HB.out.size (by omega)
          rw [← hft] at hr2
          have HR2 := Aside0.mk hr2
          have HB2 := Aside0.mk (Below.grown HB.out hg2 HB.out.size (fun k hk => Kd.R_base HR.out k hk))
          clear hr2 hg2 hft hfl hfh ra la
          generalize xs.getD i [] = x at *
          gi_wp2_with (gi_at_builtin; refine wpListIn_append_run _ rfl _ _ _ rfl _ _ rfl rfl _ _ hrun ?_)
          exact ⟨⟨i + 1, by simp, by omega, HR2, HB2⟩, by simp [intOf]; omega⟩
        · have t1 : decide ((i : Int) < (xs.length : Int)) = false := decide_eq_false (by omega)
          obtain rfl : i = xs.length := by omega
          gi_wp2
          go_ret
          have hR := HR.out
          rw [List.take_length] at hR
          exact ⟨_, rfl, hR, HB.out⟩
set_option maxRecDepth 100000 in
set_option maxHeartbeats 4000000 in
theorem bytes_ok (W : World) (A : Option Addr) (c : Nat) (xs : List (List Int)) (hA : Kd.C (Kd.slice 5 (Kd.int .u8)) W A xs.length xs) (hl : xs.length ≤ 1000000000000) (hf : xs.flatten.length ≤ 1000000000000) :
    Calls Try.prog 9 #[.slice A xs.length c] W fun e W' => ∃ v, e = .returned v ∧ Kd.R (Kd.int .u8) 5 W' W.heap.size (fun _ => True) v xs.flatten ∧ Below W.heap.size W W' := by
  refine (callsIn_wide (n := 1)).1 ?_
  refine callsIn_of_wp Try.func9 rfl trivial ?_ rfl
  simp only [Try.ntmps9, List.size_toArray, List.length_cons, List.length_nil, Nat.reduceAdd, Nat.reduceSub, Array.replicate_succ, Array.replicate_zero, List.push_toArray, List.append_toArray, List.nil_append, List.cons_append]
  have HA := Aside0.mk hA
  have HF := Aside0.mk hf
  clear hA hf
  gi_wp2_with (refine ⟨trivial, ?_⟩; gi_at_call 14; refine (callsIn_wide.2 (concat_ok _ A c xs HA.out hl HF.out)).mono ?_; rintro e w1 ⟨v1, rfl, hr1, hb1⟩; have HR1 := Aside0.mk hr1; have HB1 := Aside0.mk hb1; clear hr1 hb1)
  go_ret
  exact ⟨_, rfl, HR1.out, HB1.out⟩
end Go.Proofs.Ytalmfdlnmhhbbaa.Sp
