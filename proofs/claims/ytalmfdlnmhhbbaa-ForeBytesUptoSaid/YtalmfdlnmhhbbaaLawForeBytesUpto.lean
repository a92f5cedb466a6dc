-- Written by a program of this session (wip/tools/rowu.py)
import Derived.Test.YtalmfdlnmhhbbaaRows
import Derived.Test.YtalmfdlnmhhbbaaFl
import Derived.Test.YtalmfdlnmhhbbaaOpB
import Derived.WalkKit
import Derived.ProofKit
import Derived.OpenShut
import Derived.ShutString
import Derived.ChangeOld
import Derived.Below
import Derived.Deep.DeepHandedRow
import Derived.Lay
import Derived.LaidMore
import Derived.MakeChecks
namespace Go.Proofs.Ytalmfdlnmhhbbaa.foreBytesUpto
open Go.ChangeShapes Go.WideShapes Go.ChangeAt Go.RowKit Go.Proofs.YtalmfdlnmhhbbaaW.PrintWords
open Go.ChangeMaps (open_string shut_string)
set_option linter.unusedVariables false
set_option linter.unusedSimpArgs false
theorem own : ownKnob Try.prog.godebug = none := by kernel_rfl
theorem laidOut : laidOutB Try.prog = true := by kernel_rfl
theorem laid_met (os : Os) : laidMetH Try.prog Rows.foreBytesUptoRow.laid ((World.laidAll Try.prog os Rows.foreBytesUptoRow.laid).forCall (fun _ _ => 0) ⟨#[], #[.slice none 0 0, .slice none 0 0], []⟩).memory := by
  rw [MakeChecks.laidMetH_plain _ _ _ (by kernel_rfl)]
  exact laidMet_laidAll _ (by kernel_rfl) (by kernel_rfl)
theorem okw (os : Os) : Input.okWideB Try.prog ((World.laidAll Try.prog os Rows.foreBytesUptoRow.laid).forCall (fun _ _ => 0) ⟨#[], #[.slice none 0 0, .slice none 0 0], []⟩) 3 ⟨#[], #[.slice none 0 0, .slice none 0 0], []⟩ = true := by kernel_rfl
theorem reads (os : Os) {H : Type} (enc : TypeId × Value → H) : ∃ ds places, DataW.whole enc Try.prog ((World.laidAll Try.prog os Rows.foreBytesUptoRow.laid).forCall (fun _ _ => 0) ⟨#[], #[Value.slice none 0 0, Value.slice none 0 0], []⟩).memory Try.f3.params.toList Rows.foreBytesSpec.vars false #[Value.slice none 0 0, Value.slice none 0 0].toList 8 = some (ds, [], places) ∧ Rows.uptoSmall H ds = true :=
  ⟨[.nil, .nil], [], by kernel_rfl, by kernel_rfl⟩
set_option maxRecDepth 100000 in
theorem lifted (os : Os) (started : os.Started) (H : Type) (enc : TypeId × Value → H) (F : Stop.Interp) :
    ReturnsInHanded {} Try.checked os 3 .any ((Rows.OpenSpec.upto Rows.foreBytesSpec).preRow enc Try.prog Try.f3 Rows.foreBytesUptoRow.domain false Rows.foreBytesUptoRow.laid) (((Rows.OpenSpec.upto Rows.foreBytesSpec).at F).post enc Try.prog Try.f3 false true false false) := by
  obtain ⟨ds0, places, hx, hx2⟩ := reads os enc
  refine returnsInHanded_of_row (C := Try.checked) (s := Rows.OpenSpec.upto Rows.foreBytesSpec) own started (by kernel_rfl) Try.func3
    ⟨World.laidAll Try.prog os Rows.foreBytesUptoRow.laid, fun _ _ => 0, ⟨#[], #[.slice none 0 0, .slice none 0 0], []⟩, World.laidAll_os _ _ _, World.shaped_of_ZipB (by kernel_rfl) (by kernel_rfl), rfl, (Input.okWide_of_okWideB (okw os)).2,
      OpenSpec.preRow_of_cond 8 hx (by kernel_rfl) (fun k hk => by cases hk; simpa using hx2) (by kernel_rfl) (laid_met os), by
        simp only [Assume.holds]
        exact ⟨by simp, by simp, fun _ => Modest.zero, by simp, by simp⟩⟩ ?_
  intro W base args ds gs before hval0 hW _ hcond _ _ _ _
  have hk := hcond _ rfl
  have hval : ∀ (j : Nat) t v, Try.f3.params[j]? = some t → args[j]? = some v → Value.okWide Try.prog W .any base t v := hval0
  have hW' := hW
  obtain ⟨p, q, hA0, hV, rfl, hfz, hnd⟩ := hW
  have hA : DataW.TrodAll enc Try.prog W 0 (fun _ => true) true Try.f3.params.toList args.toList ds p := hA0
  rw [Try.params3] at hA hval
  obtain ⟨v0, vs0, d0, ds0, p0, q0, hargs, rfl, rfl, h0, r0⟩ := trodAll_cons hA
  obtain ⟨v1, vs1, d1, ds1, p1, q1, rfl, rfl, rfl, h1, r1⟩ := trodAll_cons r0
  obtain ⟨rfl, rfl, rfl⟩ := trodAll_nil r1
  obtain rfl : args = #[v0, v1] := by cases args; simp_all
  obtain ⟨rfl, rfl⟩ := trodVars_none hV
  have hsm := Open.small hk
  simp only [List.cons_append, List.nil_append, List.append_nil, Rows.uptoBulkAll] at hsm
  obtain ⟨a0, len0, cap0, rfl⟩ := okWide_slice Try.underlying22 (hval 0 22 v0 rfl rfl)
  have k0 := h0
  have lt0 : ∀ x ∈ p0, x.block < W.heap.size := by obtain ⟨m, hm⟩ := k0; exact DataW.trod_lt m _ _ _ hm
  obtain ⟨l0, C0, M0, F0, B0⟩ : ∃ l, Kd.C (Kd.int .u8) W a0 len0 l ∧ len0 ≤ cap0 ∧ (∀ x ∈ l, (fun x : Int => (Lit.int .u8 x).wf = true) x) ∧ (l.map (fun _ : Int => 1)).sum + 1 ≤ Rows.uptoBulk d0 := by
    obtain ⟨fuel, hf⟩ := h0
    obtain ⟨l, A, c, hcs, h1, _, h2, h3, h4⟩ := Open.opensB_row (m := fun _ : Int => 1) Try.underlying22 (by kernel_rfl) (Open.opensB_int Try.underlying5) hf
    simp [Value.cells] at hcs
    obtain ⟨rfl, rfl, rfl⟩ := hcs
    exact ⟨l, h2, h1, h3, h4⟩
  obtain rfl : l0.length = len0 := C0.1
  obtain ⟨a1, len1, cap1, rfl⟩ := okWide_slice Try.underlying23 (hval 1 23 v1 rfl rfl)
  have k1 := h1
  have lt1 : ∀ x ∈ p1, x.block < W.heap.size := by obtain ⟨m, hm⟩ := k1; exact DataW.trod_lt m _ _ _ hm
  obtain ⟨l1, C1, M1, F1, B1⟩ : ∃ l, Kd.C (Kd.slice 5 (Kd.int .u8)) W a1 len1 l ∧ len1 ≤ cap1 ∧ (∀ x ∈ l, (fun l : List Int => ∀ x ∈ l, (Lit.int .u8 x).wf = true) x) ∧ (l.map (fun l : List Int => (l.map fun _ => 1).sum + 1)).sum + 1 ≤ Rows.uptoBulk d1 := by
    obtain ⟨fuel, hf⟩ := h1
    obtain ⟨l, A, c, hcs, h1, _, h2, h3, h4⟩ := Open.opensB_row (m := fun l : List Int => (l.map fun _ => 1).sum + 1) Try.underlying23 (by kernel_rfl) (Open.opensB_slice Try.underlying22 (by kernel_rfl) (Open.opensB_int Try.underlying5)) hf
    simp [Value.cells] at hcs
    obtain ⟨rfl, rfl, rfl⟩ := hcs
    exact ⟨l, h2, h1, h3, h4⟩
  obtain rfl : l1.length = len1 := C1.1
  clear hA0 hval0
  refine (Sp.ForeBytes_row a0 cap0 l0 a1 cap1 l1 W C0 M0 F0 (by omega) C1 M1 F1 (by omega)).mono fun e W' ⟨he, bel⟩ => ?_
  subst he
  show ∃ v, Ending.returned (Value.bool true) = .returned v ∧ Rows.foreBytesSpec.post enc Try.prog Try.f3 false true false false W _ v W'
  exact ⟨_, rfl, _, _, _, [], _, [], hW', trodAll_mk1 (shut_bool Try.underlying4 _), (trodAll_cons_mk (Below.trod laidOut (by kernel_rfl) (of_decide_eq_true (by kernel_rfl)) k0 bel lt0) (trodAll_cons_mk (Below.trod laidOut (by kernel_rfl) (of_decide_eq_true (by kernel_rfl)) k1 bel lt1) trodAll_mk0)), rfl, bel.frame _, fun h => by cases h⟩
theorem proved : Rows.ForeBytesUptoSaid :=
  OpenClaim.holds_of_cond 3 Try.f3 rfl rfl rfl rfl rfl rfl rfl ⟨rfl, rfl, rfl, rfl, rfl⟩ rfl rfl rfl rfl rfl (by kernel_rfl) Try.func3 (by kernel_rfl)
    (of_decide_eq_true (by kernel_rfl)) (by unfold Func.isWrapper; first | (rw [if_pos (by decide +kernel)]; kernel_rfl) | (rw [if_neg (by decide +kernel)]; exact ⟨rfl, rfl⟩))
    (fun os started H enc _ F => by rw [OpenClaim.pre_eq_preRow]; exact lifted os started H enc F)
#print axioms proved
end Go.Proofs.Ytalmfdlnmhhbbaa.foreBytesUpto
namespace Go.Proofs.Ytalmfdlnmhhbbaa
/-- The row's second form, under a short name, for the claim. -/
theorem foreBytesUpto_holds : Rows.ForeBytesUptoSaid := foreBytesUpto.proved
end Go.Proofs.Ytalmfdlnmhhbbaa
