-- Written by a program of this session (wip/tools/row.py)
import Derived.Test.YtnbkbmhiajfbpaaRows
import Derived.Test.YtnbkbmhiajfbpaaKken
import Derived.Test.YtnbkbmhiajfbpaaOpen
import Derived.WalkKit
import Derived.ProofKit
import Derived.OpenShut
import Derived.ShutString
import Derived.ChangeOld
import Derived.Below
import Derived.SizedLaws
import Derived.Deep.SlicePairs
import Derived.Test.YtnbkbmhiajfbpaaWSized
namespace Go.Proofs.Ytnbkbmhiajfbpaa.dirsBack
open Go.ChangeShapes Go.WideShapes Go.ChangeAt Go.RowKit Go.Proofs.YtnbkbmhiajfbpaaW.PrintWords
open Go.ChangeMaps (open_string shut_string)
set_option linter.unusedVariables false
theorem own : ownKnob Try.prog.godebug = none := by kernel_rfl
theorem laidOut : laidOutB Try.prog = true := by kernel_rfl
def IsRow (k : IntKind) (w : World) (a : Option Addr) (len cap : Nat) (zs : List Int) : Prop :=
  (a = none ∧ len = 0 ∧ cap = 0 ∧ zs = []) ∨
  ∃ x, a = some x ∧ len ≤ cap ∧ cap ≤ maxLen ∧ zs.length = cap ∧ (∀ i, i < zs.length → w.cell? (x.add i) = some (.int k (zs.getD i 0))) ∧ ∀ n ∈ zs, (Lit.int k n).wf = true
theorem IsRow.reads {k : IntKind} {w : World} {a : Option Addr} {len cap : Nat} {zs : List Int} (h : IsRow k w a len cap zs) : Kd.C (Kd.int k) w a len (zs.take len) ∧ (zs.take len).length = len ∧ len ≤ cap ∧ ∀ n ∈ zs.take len, (Lit.int k n).wf = true := by
  rcases h with ⟨rfl, rfl, rfl, rfl⟩ | ⟨x, rfl, h1, h2, h3, h4, h5⟩
  · exact ⟨Kd.C_of_reads (d := (0 : Int)) (enc := Value.int k) (h1 := fun _ => rfl) ⟨rfl, by omega, fun h => absurd h (by omega)⟩, rfl, Nat.le_refl _, fun n hn => by cases hn⟩
  · have hl : (zs.take len).length = len := by rw [List.length_take]; omega
    refine ⟨Kd.C_of_reads (d := (0 : Int)) (enc := Value.int k) (h1 := fun _ => rfl) ⟨hl, by simp only [maxLen] at h2; omega, fun _ => ⟨x, rfl, fun j hj => ?_⟩⟩, hl, h1, fun n hn => h5 n (List.mem_of_mem_take hn)⟩
    rw [h4 j (by omega)]
    simp [List.getD_eq_getElem?_getD, hj]
set_option maxRecDepth 100000 in
theorem lifted (os : Os) (started : os.Started) (H : Type) (enc : TypeId × Value → H) :
    ReturnsInHanded {} Try.checked os 6 .any (Rows.dirsBackSpec.pre6 enc Try.prog Try.f6 Rows.dirsBackRow.domain false) (Rows.dirsBackSpec.post enc Try.prog Try.f6 false true false false) := by
  refine returnsInHanded_of_change_sized (C := Try.checked) own started (by kernel_rfl) Try.func6
    (ChangeSpec.witness6 (enc := enc) (C := Try.checked) false ⟨#[], #[.slice none 0 0, .agg #[.int .i64 0, .string ⟨#[]⟩]], []⟩ 8 (by kernel_rfl) (by kernel_rfl) (by kernel_rfl) (by kernel_rfl)) ?_
  intro W base args ds gs before hval0 hW hcnd hsz0 _
  have hsz : (DataW.weightsEach Try.prog (Try.f6.params.toList ++ Rows.dirsBackSpec.plain.varTypes Try.prog) (ds ++ gs)).all (· ≤ reachBytes) = true := hsz0
  have hval : ∀ (j : Nat) t v, Try.f6.params[j]? = some t → args[j]? = some v → Value.okWide Try.prog W .any base t v := hval0
  have hW' := hW
  obtain ⟨p, q, hA0, hV, rfl, hfz, hnd⟩ := hW
  have hA : DataW.TrodAll enc Try.prog W 0 (fun _ => true) true Try.f6.params.toList args.toList ds p := hA0
  rw [Try.params6] at hA hval hsz
  obtain ⟨v0, vs0, d0, ds0, p0, q0, hargs, rfl, rfl, h0, r0⟩ := trodAll_cons hA
  obtain ⟨v1, vs1, d1, ds1, p1, q1, rfl, rfl, rfl, h1, r1⟩ := trodAll_cons r0
  obtain ⟨rfl, rfl, rfl⟩ := trodAll_nil r1
  obtain rfl : args = #[v0, v1] := by cases args; simp_all
  obtain ⟨rfl, rfl⟩ := trodVars_none hV
  obtain ⟨a0, len0, cap0, rfl⟩ := okWide_slice Try.underlying23 (hval 0 23 v0 rfl rfl)
  have k0 := h0
  have lt0 : ∀ x ∈ p0, x.block < W.heap.size := by obtain ⟨m, hm⟩ := k0; exact DataW.trod_lt m _ _ _ hm
  obtain ⟨l0, C0, M0, F0⟩ : ∃ l, Kd.C (XDirsBack.k27) W a0 len0 l ∧ len0 ≤ cap0 ∧ ∀ x ∈ l, (fun x : XDirsBack.S27 => (Lit.int .i64 x.f0).wf = true ∧ x.f1.size ≤ maxLen) x := by
    obtain ⟨fuel, hf⟩ := h0
    obtain ⟨l, A, c, hcs, h1, _, h2, h3⟩ := Open.opens_row Try.underlying23 (by kernel_rfl) (Kk.opens_T27) hf
    simp [Value.cells] at hcs
    obtain ⟨rfl, rfl, rfl⟩ := hcs
    exact ⟨l, h2, h1, h3⟩
  obtain rfl : l0.length = len0 := C0.1
  have Y0 : l0.length * 24 ≤ 140737488351232 := Open.sized_row hsz (j := 0) (t := 23) rfl rfl Try.underlying23 (by kernel_rfl) k0
  obtain ⟨cs1, rfl, _⟩ := okWide_struct Try.underlying27 (hval 1 27 v1 rfl rfl)
  have k1 := h1
  have lt1 : ∀ x ∈ p1, x.block < W.heap.size := by obtain ⟨m, hm⟩ := k1; exact DataW.trod_lt m _ _ _ hm
  obtain ⟨⟨e0, e1⟩, K1, F1⟩ : ∃ x, (Kd.pair (Kd.int .i64) Kd.string).K W x cs1.toList ∧ (fun x : Int × ByteArray => (Lit.int .i64 x.1).wf = true ∧ x.2.size ≤ maxLen) x := by
    obtain ⟨fuel, hf⟩ := h1
    have h_ := (Open.opens_struct Try.underlying27 (by kernel_rfl) (Open.fields_cons rfl (by kernel_rfl) (Open.opens_int Try.underlying3) (Open.fields_one rfl (by kernel_rfl) (Open.opens_string Try.underlying9)) (by intro g hg; rw [List.mem_singleton.1 hg]; decide))) _ _ _ _ _ _ hf
    simpa only [Value.cells] using h_
  obtain rfl : cs1 = #[.int .i64 e0, .string e1] := by
    obtain ⟨_, _, hcs_, rfl, rfl⟩ := K1
    exact Array.toList_inj.1 (by rw [hcs_]; rfl)
  clear hA0 hval0 hsz0 hsz
  refine (Kk.DirsBack_walk a0 cap0 l0 e0 e1 W C0 M0 F0 Y0 F1.2).mono fun e W' ⟨he, bel⟩ => ?_
  subst he
  exact ⟨_, rfl, _, _, _, [], _, [], hW', trodAll_mk1 (shut_bool Try.underlying4 _), (trodAll_cons_mk (Below.trod laidOut (by kernel_rfl) (of_decide_eq_true (by kernel_rfl)) k0 bel lt0) (trodAll_cons_mk (Below.trod laidOut (by kernel_rfl) (of_decide_eq_true (by kernel_rfl)) k1 bel lt1) trodAll_mk0)), rfl, bel.frame _, fun h => by cases h⟩
theorem over : Rows.dirsBackRow.holds Try.pinned (OpenSpec.ofChange Rows.dirsBackSpec) :=
  OpenClaim.holds_of_wide 6 Try.f6 rfl rfl rfl rfl rfl rfl rfl ⟨rfl, rfl, rfl, rfl, rfl⟩ rfl rfl rfl rfl rfl (by kernel_rfl) Try.func6 (by kernel_rfl)
    (of_decide_eq_true (by kernel_rfl)) (by unfold Func.isWrapper; first | (rw [if_pos (by decide +kernel)]; kernel_rfl) | (rw [if_neg (by decide +kernel)]; exact ⟨rfl, rfl⟩))
    (fun os started H enc _ => lifted os started H enc)
theorem proved : Rows.DirsBackSaid := over
#print axioms proved
end Go.Proofs.Ytnbkbmhiajfbpaa.dirsBack
namespace Go.Proofs.Ytnbkbmhiajfbpaa
/-- The row, under a short name, for the claim. -/
theorem dirsBack_holds : Rows.DirsBackSaid := dirsBack.proved
end Go.Proofs.Ytnbkbmhiajfbpaa
