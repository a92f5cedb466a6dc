-- Written by a program of this session (wip/tools/row.py)
import Derived.Test.YtdaeanodgnmknaaRows
import Derived.Test.YtdaeanodgnmknaaBr
import Derived.Test.YtdaeanodgnmknaaOpen
import Derived.WalkKit
import Derived.ProofKit
import Derived.OpenShut
import Derived.ShutString
import Derived.ChangeOld
import Derived.Below
import Derived.SizedLaws
import Derived.Deep.SlicePairs
import Derived.Test.YtdaeanodgnmknaaWSized
namespace Go.Proofs.Ytdaeanodgnmknaa.layoutBack
open Go.ChangeShapes Go.WideShapes Go.ChangeAt Go.RowKit Go.Proofs.YtdaeanodgnmknaaW.PrintWords
open Go.ChangeMaps (open_string shut_string)
set_option linter.unusedVariables false
theorem own : ownKnob Try.prog.godebug = none := by kernel_rfl
theorem laidOut : laidOutB Try.prog = true := by kernel_rfl
def IsRow (k : IntKind) (w : World) (a : Option Addr) (len cap : Nat) (zs : List Int) : Prop :=
  (a = none ∧ len = 0 ∧ cap = 0 ∧ zs = []) ∨
  ∃ x, a = some x ∧ len ≤ cap ∧ cap ≤ maxLen ∧ zs.length = cap ∧ (∀ i, i < zs.length → w.cell? (x.add i) = some (.int k (zs.getD i 0))) ∧ ∀ n ∈ zs, (Lit.int k n).wf = true
theorem IsRow.reads {k : IntKind} {w : World} {a : Option Addr} {len cap : Nat} {zs : List Int} (h : IsRow k w a len cap zs) : Kd.C (Kd.int k) w a len (zs.take len) ∧ (zs.take len).length = len ∧ len ≤ cap ∧ ∀ n ∈ zs.take len, (Lit.int k n).wf = true := by
  rcases h with ⟨rfl, rfl, rfl, rfl⟩ | ⟨x, rfl, h1, h2, h3, h4, h5⟩
  · exact ⟨Kd.C_of_reads (d := (0 : Int)) (enc := Value.int k) (h1 := fun _ => rfl) ⟨rfl, by omega, fun h => absurd h (by omega)⟩, rfl, Nat.le_refl _, fun n hn => by cases hn⟩
  · have hl : (zs.take len).length = len := by rw [List.length_take]; omega
    refine ⟨Kd.C_of_reads (d := (0 : Int)) (enc := Value.int k) (h1 := fun _ => rfl) ⟨hl, by simp only [maxLen] at h2; omega, fun _ => ⟨x, rfl, fun j hj => ?_⟩⟩, hl, h1, fun n hn => h5 n (List.mem_of_mem_take hn)⟩
    rw [h4 j (by omega)]
    simp [List.getD_eq_getElem?_getD, hj]
set_option maxRecDepth 100000 in
theorem lifted (os : Os) (started : os.Started) (H : Type) (enc : TypeId × Value → H) :
    ReturnsInHanded {} Try.checked os 9 .any (Rows.layoutBackSpec.pre6 enc Try.prog Try.f9 Rows.layoutBackRow.domain false) (Rows.layoutBackSpec.post enc Try.prog Try.f9 false true false false) := by
  refine returnsInHanded_of_change_sized (C := Try.checked) own started (by kernel_rfl) Try.func9
    (ChangeSpec.witness6 (enc := enc) (C := Try.checked) false ⟨#[], #[.agg #[.int .i64 0, .int .i64 0, .int .i64 0, .int .i64 0], .agg (#[.int .i64 0] ++ Array.replicate 40 (.int .u8 0)), .agg (Array.replicate 9 (.int .i64 0)), .agg #[.int .i64 0, .string ⟨#[]⟩]], []⟩ 8 (by kernel_rfl) (by kernel_rfl) (by kernel_rfl) (by kernel_rfl)) ?_
  intro W base args ds gs before hval0 hW hcnd hsz0 _
  have hsz : (DataW.weightsEach Try.prog (Try.f9.params.toList ++ Rows.layoutBackSpec.plain.varTypes Try.prog) (ds ++ gs)).all (· ≤ reachBytes) = true := hsz0
  have hval : ∀ (j : Nat) t v, Try.f9.params[j]? = some t → args[j]? = some v → Value.okWide Try.prog W .any base t v := hval0
  have hW' := hW
  obtain ⟨p, q, hA0, hV, rfl, hfz, hnd⟩ := hW
  have hA : DataW.TrodAll enc Try.prog W 0 (fun _ => true) true Try.f9.params.toList args.toList ds p := hA0
  rw [Try.params9] at hA hval hsz
  obtain ⟨v0, vs0, d0, ds0, p0, q0, hargs, rfl, rfl, h0, r0⟩ := trodAll_cons hA
  obtain ⟨v1, vs1, d1, ds1, p1, q1, rfl, rfl, rfl, h1, r1⟩ := trodAll_cons r0
  obtain ⟨v2, vs2, d2, ds2, p2, q2, rfl, rfl, rfl, h2, r2⟩ := trodAll_cons r1
  obtain ⟨v3, vs3, d3, ds3, p3, q3, rfl, rfl, rfl, h3, r3⟩ := trodAll_cons r2
  obtain ⟨rfl, rfl, rfl⟩ := trodAll_nil r3
  obtain rfl : args = #[v0, v1, v2, v3] := by cases args; simp_all
  obtain ⟨rfl, rfl⟩ := trodVars_none hV
  obtain ⟨cs0, rfl, _⟩ := okWide_struct Try.underlying52 (hval 0 52 v0 rfl rfl)
  have k0 := h0
  have lt0 : ∀ x ∈ p0, x.block < W.heap.size := by obtain ⟨m, hm⟩ := k0; exact DataW.trod_lt m _ _ _ hm
  obtain ⟨⟨⟨e0, e1, e2⟩, e3⟩, K0, F0⟩ : ∃ x, (Kd.pair (Kd.pair (Kd.int .i64) (Kd.pair (Kd.int .i64) (Kd.int .i64))) (Kd.int .i64)).K W x cs0.toList ∧ (fun x : (Int × Int × Int) × Int => ((Lit.int .i64 x.1.1).wf = true ∧ (Lit.int .i64 x.1.2.1).wf = true ∧ (Lit.int .i64 x.1.2.2).wf = true) ∧ (Lit.int .i64 x.2).wf = true) x := by
    obtain ⟨fuel, hf⟩ := h0
    have h_ := (Open.opens_struct Try.underlying52 (by kernel_rfl) (Open.fields_cons rfl (by kernel_rfl) (Open.opens_struct Try.underlying50 (by kernel_rfl) (Open.fields_cons rfl (by kernel_rfl) (Open.opens_int Try.underlying3) (Open.fields_cons rfl (by kernel_rfl) (Open.opens_int Try.underlying3) (Open.fields_one rfl (by kernel_rfl) (Open.opens_int Try.underlying3)) (by intro g hg; rw [List.mem_singleton.1 hg]; decide)) (by intro g hg; simp only [List.mem_cons, List.not_mem_nil, or_false] at hg; cases hg <;> subst_vars <;> decide))) (Open.fields_one rfl (by kernel_rfl) (Open.opens_int Try.underlying3)) (by intro g hg; rw [List.mem_singleton.1 hg]; decide))) _ _ _ _ _ _ hf
    simpa only [Value.cells] using h_
  obtain rfl : cs0 = #[.int .i64 e0, .int .i64 e1, .int .i64 e2, .int .i64 e3] := by
    obtain ⟨_, _, hcs_, ⟨_, _, rfl, rfl, _, _, rfl, rfl, rfl⟩, rfl⟩ := K0
    exact Array.toList_inj.1 (by rw [hcs_]; rfl)
  obtain ⟨cs1, rfl, _⟩ := okWide_struct Try.underlying25 (hval 1 25 v1 rfl rfl)
  have k1 := h1
  have lt1 : ∀ x ∈ p1, x.block < W.heap.size := by obtain ⟨m, hm⟩ := k1; exact DataW.trod_lt m _ _ _ hm
  obtain ⟨g0, K1, F1⟩ : ∃ x, (Kd.pair (Kd.int .i64) (Kd.pair (Kd.arr 8 (Kd.int .u8) (by decide)) (Kd.arr 32 (Kd.int .u8) (by decide)))).K W x cs1.toList ∧ (fun x : Int × List Int × List Int => (Lit.int .i64 x.1).wf = true ∧ (x.2.1.length = 8 ∧ ∀ y ∈ x.2.1, (Lit.int .u8 y).wf = true) ∧ (x.2.2.length = 32 ∧ ∀ y ∈ x.2.2, (Lit.int .u8 y).wf = true)) x := by
    obtain ⟨fuel, hf⟩ := h1
    have h_ := (Open.opens_struct Try.underlying25 (by kernel_rfl) (Open.fields_cons rfl (by kernel_rfl) (Open.opens_int Try.underlying3) (Open.fields_cons rfl (by kernel_rfl) (Open.opens_array (by decide) Try.underlying22 (by kernel_rfl) (by kernel_rfl) (Open.opens_int Try.underlying5)) (Open.fields_one rfl (by kernel_rfl) (Open.opens_array (by decide) Try.underlying23 (by kernel_rfl) (by kernel_rfl) (Open.opens_int Try.underlying5))) (by intro g hg; rw [List.mem_singleton.1 hg]; decide)) (by intro g hg; simp only [List.mem_cons, List.not_mem_nil, or_false] at hg; cases hg <;> subst_vars <;> decide))) _ _ _ _ _ _ hf
    simpa only [Value.cells] using h_
  obtain ⟨cs2, rfl, _⟩ := okWide_struct Try.underlying59 (hval 2 59 v2 rfl rfl)
  have k2 := h2
  have lt2 : ∀ x ∈ p2, x.block < W.heap.size := by obtain ⟨m, hm⟩ := k2; exact DataW.trod_lt m _ _ _ hm
  obtain ⟨d0, K2, F2⟩ : ∃ x, (Kd.pair (Kd.int .i64) (Kd.pair (Kd.int .i64) (Kd.pair (Kd.int .i64) (Kd.pair (Kd.arr 4 (Kd.int .i64) (by decide)) (Kd.pair (Kd.int .i64) (Kd.int .i64)))))).K W x cs2.toList ∧ (fun x : Int × Int × Int × List Int × Int × Int => (Lit.int .i64 x.1).wf = true ∧ (Lit.int .i64 x.2.1).wf = true ∧ (Lit.int .i64 x.2.2.1).wf = true ∧ (x.2.2.2.1.length = 4 ∧ ∀ y ∈ x.2.2.2.1, (Lit.int .i64 y).wf = true) ∧ (Lit.int .i64 x.2.2.2.2.1).wf = true ∧ (Lit.int .i64 x.2.2.2.2.2).wf = true) x := by
    obtain ⟨fuel, hf⟩ := h2
    have h_ := (Open.opens_struct Try.underlying59 (by kernel_rfl) (Open.fields_cons rfl (by kernel_rfl) (Open.opens_int Try.underlying3) (Open.fields_cons rfl (by kernel_rfl) (Open.opens_int Try.underlying3) (Open.fields_cons rfl (by kernel_rfl) (Open.opens_int Try.underlying3) (Open.fields_cons rfl (by kernel_rfl) (Open.opens_array (by decide) Try.underlying57 (by kernel_rfl) (by kernel_rfl) (Open.opens_int Try.underlying3)) (Open.fields_cons rfl (by kernel_rfl) (Open.opens_int Try.underlying3) (Open.fields_one rfl (by kernel_rfl) (Open.opens_int Try.underlying3)) (by decide)) (by decide)) (by decide)) (by decide)) (by decide))) _ _ _ _ _ _ hf
    simpa only [Value.cells] using h_
  obtain ⟨cs3, rfl, _⟩ := okWide_struct Try.underlying36 (hval 3 36 v3 rfl rfl)
  have k3 := h3
  have lt3 : ∀ x ∈ p3, x.block < W.heap.size := by obtain ⟨m, hm⟩ := k3; exact DataW.trod_lt m _ _ _ hm
  obtain ⟨⟨f0, f1⟩, K3, F3⟩ : ∃ x, (Kd.pair (Kd.int .i64) Kd.string).K W x cs3.toList ∧ (fun x : Int × ByteArray => (Lit.int .i64 x.1).wf = true ∧ x.2.size ≤ maxLen) x := by
    obtain ⟨fuel, hf⟩ := h3
    have h_ := (Open.opens_struct Try.underlying36 (by kernel_rfl) (Open.fields_cons rfl (by kernel_rfl) (Open.opens_int Try.underlying3) (Open.fields_one rfl (by kernel_rfl) (Open.opens_string Try.underlying9)) (by intro g hg; rw [List.mem_singleton.1 hg]; decide))) _ _ _ _ _ _ hf
    simpa only [Value.cells] using h_
  obtain rfl : cs3 = #[.int .i64 f0, .string f1] := by
    obtain ⟨_, _, hcs_, rfl, rfl⟩ := K3
    exact Array.toList_inj.1 (by rw [hcs_]; rfl)
  clear hA0 hval0 hsz0 hsz
  refine (Bi.LayoutBack_row e0 e1 e2 e3 g0 cs1 d0 cs2 f0 f1 W  K1 F1 K2 F3.2).mono fun e W' ⟨he, bel⟩ => ?_
  subst he
  exact ⟨_, rfl, _, _, _, [], _, [], hW', trodAll_mk1 (shut_bool Try.underlying4 _), (trodAll_cons_mk (Below.trod laidOut (by kernel_rfl) (of_decide_eq_true (by kernel_rfl)) k0 bel lt0) (trodAll_cons_mk (Below.trod laidOut (by kernel_rfl) (of_decide_eq_true (by kernel_rfl)) k1 bel lt1) (trodAll_cons_mk (Below.trod laidOut (by kernel_rfl) (of_decide_eq_true (by kernel_rfl)) k2 bel lt2) (trodAll_cons_mk (Below.trod laidOut (by kernel_rfl) (of_decide_eq_true (by kernel_rfl)) k3 bel lt3) trodAll_mk0)))), rfl, bel.frame _, fun h => by cases h⟩
theorem over : Rows.layoutBackRow.holds Try.pinned (OpenSpec.ofChange Rows.layoutBackSpec) :=
  OpenClaim.holds_of_wide 9 Try.f9 rfl rfl rfl rfl rfl rfl rfl ⟨rfl, rfl, rfl, rfl, rfl⟩ rfl rfl rfl rfl rfl (by kernel_rfl) Try.func9 (by kernel_rfl)
    (of_decide_eq_true (by kernel_rfl)) (by unfold Func.isWrapper; first | (rw [if_pos (by decide +kernel)]; kernel_rfl) | (rw [if_neg (by decide +kernel)]; exact ⟨rfl, rfl⟩))
    (fun os started H enc _ => lifted os started H enc)
theorem proved : Rows.LayoutBackSaid := over
#print axioms proved
end Go.Proofs.Ytdaeanodgnmknaa.layoutBack
namespace Go.Proofs.Ytdaeanodgnmknaa
/-- The row, under a short name, for the claim. -/
theorem layoutBack_holds : Rows.LayoutBackSaid := layoutBack.proved
end Go.Proofs.Ytdaeanodgnmknaa
