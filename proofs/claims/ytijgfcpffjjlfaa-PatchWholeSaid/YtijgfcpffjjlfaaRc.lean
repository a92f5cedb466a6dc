/- Written by a program of this session. the row of PatchWhole. -/
import Derived.Test.YtijgfcpffjjlfaaRb
import Derived.Test.YtijgfcpffjjlfaaOpW
namespace Go.Proofs.Ytijgfcpffjjlfaa.Pq
open Go Go.RowKit Go.Shelf Go.Proofs Go.Maps Go.Sort Go.Proofs.Ytijgfcpffjjlfaa.XFb Go.Proofs.YtijgfcpffjjlfaaW.PrintWords Go.Proofs.YtijgfcpffjjlfaaW.PrintLast Go.Proofs.YtijgfcpffjjlfaaW.PrintMore
set_option linter.unusedVariables false
set_option linter.unusedSimpArgs false
set_option maxRecDepth 100000 in
theorem opensW_Do : Open.OpensW Try.prog kDo (fun x : DoT => (Lit.int .i64 x.1).wf = true ∧ (Lit.int .i64 x.2.1).wf = true ∧ (Lit.int .i64 x.2.2.1).wf = true ∧ ((∀ y ∈ x.2.2.2.1, (Lit.int .u8 y).wf = true) ∧ x.2.2.2.1.length * 1 ≤ 140737488351232) ∧ (∀ y ∈ x.2.2.2.2, (Lit.int .i64 y).wf = true) ∧ x.2.2.2.2.length * 8 ≤ 140737488351232) 29 :=
  Open.opensW_struct Try.underlying29 (by kernel_rfl)
    (Open.fieldsW_cons rfl (by kernel_rfl) (Open.opensW_of (Open.opens_int Try.underlying3))
      (Open.fieldsW_cons rfl (by kernel_rfl) (Open.opensW_of (Open.opens_int Try.underlying3))
        (Open.fieldsW_cons rfl (by kernel_rfl) (Open.opensW_of (Open.opens_int Try.underlying3))
          (Open.fieldsW_cons rfl (by kernel_rfl) (Open.opensW_slice (B := 1) Try.underlying26 (by kernel_rfl) (by kernel_rfl) (Open.opensW_of (Open.opens_int Try.underlying5)))
            (Open.fieldsW_one rfl (by kernel_rfl) (Open.opensW_slice (B := 8) Try.underlying27 (by kernel_rfl) (by kernel_rfl) (Open.opensW_of (Open.opens_int Try.underlying3)))) (by decide)) (by decide)) (by decide)) (by decide))
theorem PatchWhole_row (A0 : Option Addr) (c0 : Nat) (l0 : List DoT) (w : World) (hC0 : Kd.C kDo w A0 l0.length l0) (_ : l0.length ≤ c0) (hF0 : ∀ x ∈ l0, (fun x : DoT => (Lit.int .i64 x.1).wf = true ∧ (Lit.int .i64 x.2.1).wf = true ∧ (Lit.int .i64 x.2.2.1).wf = true ∧ ((∀ y ∈ x.2.2.2.1, (Lit.int .u8 y).wf = true) ∧ x.2.2.2.1.length * 1 ≤ 140737488351232) ∧ (∀ y ∈ x.2.2.2.2, (Lit.int .i64 y).wf = true) ∧ x.2.2.2.2.length * 8 ≤ 140737488351232) x) (hl0 : l0.length * 72 ≤ 140737488351232) :
    Calls Try.prog 5 #[.slice A0 l0.length c0] w fun e w' => e = .returned (.bool true) ∧ Below w.heap.size w w' :=
  PatchWhole_walk A0 c0 l0 w hC0 (by omega) (fun x hx => by have h1 := (hF0 x hx).2.2.2.1.2; have h2 := (hF0 x hx).2.2.2.2.2; exact ⟨by omega, by omega⟩)
end Go.Proofs.Ytijgfcpffjjlfaa.Pq
