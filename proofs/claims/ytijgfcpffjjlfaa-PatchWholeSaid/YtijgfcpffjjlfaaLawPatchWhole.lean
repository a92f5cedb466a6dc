-- Written by a program of this session (wip/tools/row.py)
import Derived.Test.YtijgfcpffjjlfaaRows
import Derived.Test.YtijgfcpffjjlfaaRc
import Derived.Test.YtijgfcpffjjlfaaOpen
import Derived.Test.YtijgfcpffjjlfaaOpW
import Derived.WalkKit
import Derived.ProofKit
import Derived.OpenShut
import Derived.ShutString
import Derived.ChangeOld
import Derived.Below
import Derived.SizedLaws
import Derived.Deep.SlicePairs
import Derived.Test.YtijgfcpffjjlfaaWSized
namespace Go.Proofs.Ytijgfcpffjjlfaa.patchWhole
open Go.ChangeShapes Go.WideShapes Go.ChangeAt Go.RowKit Go.Proofs.YtijgfcpffjjlfaaW.PrintWords
open Go.ChangeMaps (open_string shut_string)
set_option linter.unusedVariables false
theorem own : ownKnob Try.prog.godebug = none := by kernel_rfl
theorem laidOut : laidOutB Try.prog = true := by kernel_rfl
def IsRow (k : IntKind) (w : World) (a : Option Addr) (len cap : Nat) (zs : List Int) : Prop :=
  (a = none ∧ len = 0 ∧ cap = 0 ∧ zs = []) ∨
  ∃ x, a = some x ∧ len ≤ cap ∧ cap ≤ maxLen ∧ zs.length = cap ∧ (∀ i, i < zs.length → w.cell? (x.add i) = some (.int k (zs.getD i 0))) ∧ ∀ n ∈ zs, (Lit.int k n).wf = true
theorem IsRow.reads {k : IntKind} {w : World} {a : Option Addr} {len cap : Nat} {zs : List Int} (h : IsRow k w a len cap zs) : Kd.C (Kd.int k) w a len (zs.take len) ∧ (zs.take len).length = len ∧ len ≤ cap ∧ ∀ n ∈ zs.take len, (Lit.int k n).wf = true := by
  rcases h with ⟨rfl, rfl, rfl, rfl⟩ | ⟨x, rfl, h1, h2, h3, h4, h5⟩
  · exact ⟨Kd.C_of_reads (d := (0 : Int)) (enc := Value.int k) (h1 := fun _ => rfl) ⟨rfl, by omega, fun h => absurd h (by omega)⟩, rfl, Nat.le_refl _, fun n hn => by cases hn⟩
  · have hl : (zs.take len).length = len := by rw [List.length_take]; omega
    refine ⟨Kd.C_of_reads (d := (0 : Int)) (enc := Value.int k) (h1 := fun _ => rfl) ⟨hl, by simp only [maxLen] at h2; omega, fun _ => ⟨x, rfl, fun j hj => ?_⟩⟩, hl, h1, fun n hn => h5 n (List.mem_of_mem_take hn)⟩
    rw [h4 j (by omega)]
    simp [List.getD_eq_getElem?_getD, hj]
set_option maxRecDepth 100000 in
theorem lifted (os : Os) (started : os.Started) (H : Type) (enc : TypeId × Value → H) :
    ReturnsInHanded {} Try.checked os 5 .any (Rows.patchWholeSpec.pre6 enc Try.prog Try.f5 Rows.patchWholeRow.domain false) (Rows.patchWholeSpec.post enc Try.prog Try.f5 false true false false) := by
  refine returnsInHanded_of_change_sized (C := Try.checked) own started (by kernel_rfl) Try.func5
    (ChangeSpec.witness6 (enc := enc) (C := Try.checked) false ⟨#[], #[.slice none 0 0], []⟩ 8 (by kernel_rfl) (by kernel_rfl) (by kernel_rfl) (by kernel_rfl)) ?_
  intro W base args ds gs before hval0 hW hcnd hsz0 _
  have hsz : (DataW.weightsEach Try.prog (Try.f5.params.toList ++ Rows.patchWholeSpec.plain.varTypes Try.prog) (ds ++ gs)).all (· ≤ reachBytes) = true := hsz0
  have hval : ∀ (j : Nat) t v, Try.f5.params[j]? = some t → args[j]? = some v → Value.okWide Try.prog W .any base t v := hval0
  have hW' := hW
  obtain ⟨p, q, hA0, hV, rfl, hfz, hnd⟩ := hW
  have hA : DataW.TrodAll enc Try.prog W 0 (fun _ => true) true Try.f5.params.toList args.toList ds p := hA0
  rw [Try.params5] at hA hval hsz
  obtain ⟨v0, vs0, d0, ds0, p0, q0, hargs, rfl, rfl, h0, r0⟩ := trodAll_cons hA
  obtain ⟨rfl, rfl, rfl⟩ := trodAll_nil r0
  obtain rfl : args = #[v0] := by cases args; simp_all
  obtain ⟨rfl, rfl⟩ := trodVars_none hV
  obtain ⟨a0, len0, cap0, rfl⟩ := okWide_slice Try.underlying22 (hval 0 22 v0 rfl rfl)
  have k0 := h0
  have lt0 : ∀ x ∈ p0, x.block < W.heap.size := by obtain ⟨m, hm⟩ := k0; exact DataW.trod_lt m _ _ _ hm
  obtain ⟨l0, C0, M0, F0, Y0⟩ : ∃ l, Kd.C (Pq.kDo) W a0 len0 l ∧ len0 ≤ cap0 ∧ (∀ x ∈ l, (fun x : Pq.DoT => (Lit.int .i64 x.1).wf = true ∧ (Lit.int .i64 x.2.1).wf = true ∧ (Lit.int .i64 x.2.2.1).wf = true ∧ ((∀ y ∈ x.2.2.2.1, (Lit.int .u8 y).wf = true) ∧ x.2.2.2.1.length * 1 ≤ 140737488351232) ∧ (∀ y ∈ x.2.2.2.2, (Lit.int .i64 y).wf = true) ∧ x.2.2.2.2.length * 8 ≤ 140737488351232) x) ∧ l.length * 72 ≤ 140737488351232 := by
    obtain ⟨fuel, hf⟩ := h0
    obtain ⟨l, A, c, hcs, h1, _, h2, h3, h4⟩ := Open.opensW_row (B := 72) Try.underlying22 (by kernel_rfl) (by kernel_rfl) (Pq.opensW_Do) hf (fun z hz => by
      have h9 := List.all_eq_true.1 hsz z (DataW.weights_mem_each (j := 0) (t := 22) rfl rfl z hz)
      exact of_decide_eq_true h9)
    simp [Value.cells] at hcs
    obtain ⟨rfl, rfl, rfl⟩ := hcs
    exact ⟨l, h2, h1, h3, h4⟩
  obtain rfl : l0.length = len0 := C0.1
  clear hA0 hval0 hsz0 hsz
  refine (Pq.PatchWhole_row a0 cap0 l0 W C0 M0 F0 Y0).mono fun e W' ⟨he, bel⟩ => ?_
  subst he
  exact ⟨_, rfl, _, _, _, [], _, [], hW', trodAll_mk1 (shut_bool Try.underlying4 _), (trodAll_cons_mk (Below.trod laidOut (by kernel_rfl) (of_decide_eq_true (by kernel_rfl)) k0 bel lt0) trodAll_mk0), rfl, bel.frame _, fun h => by cases h⟩
theorem over : Rows.patchWholeRow.holds Try.pinned (OpenSpec.ofChange Rows.patchWholeSpec) :=
  OpenClaim.holds_of_wide 5 Try.f5 rfl rfl rfl rfl rfl rfl rfl ⟨rfl, rfl, rfl, rfl, rfl⟩ rfl rfl rfl rfl rfl (by kernel_rfl) Try.func5 (by kernel_rfl)
    (of_decide_eq_true (by kernel_rfl)) (by unfold Func.isWrapper; first | (rw [if_pos (by decide +kernel)]; kernel_rfl) | (rw [if_neg (by decide +kernel)]; exact ⟨rfl, rfl⟩))
    (fun os started H enc _ => lifted os started H enc)
theorem proved : Rows.PatchWholeSaid := over
#print axioms proved
end Go.Proofs.Ytijgfcpffjjlfaa.patchWhole
namespace Go.Proofs.Ytijgfcpffjjlfaa
/-- The row, under a short name, for the claim. -/
theorem patchWhole_holds : Rows.PatchWholeSaid := patchWhole.proved
end Go.Proofs.Ytijgfcpffjjlfaa
