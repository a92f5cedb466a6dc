/- DiskLives: how its arguments come. -/
import Derived.Test.YtbopccjcehnfnaaYd
import Derived.Test.YtbopccjcehnfnaaOpW
namespace Go.Proofs.Ytbopccjcehnfnaa.Dk
open Go Go.RowKit Go.Shelf Go.Proofs Go.Proofs.YtbopccjcehnfnaaW.PrintWords Go.Proofs.YtbopccjcehnfnaaW.PrintLast
theorem opensW_Do : Open.OpensW Try.prog kDo (fun x : DoT => (Lit.int .i64 x.1).wf = true ∧ (Lit.int .i64 x.2.1).wf = true ∧ (Lit.int .i64 x.2.2.1).wf = true ∧ ((∀ y ∈ x.2.2.2.1, (Lit.int .u8 y).wf = true) ∧ x.2.2.2.1.length * 1 ≤ 140737488351232) ∧ (∀ y ∈ x.2.2.2.2, (Lit.int .i64 y).wf = true) ∧ x.2.2.2.2.length * 8 ≤ 140737488351232) 59 :=
  Open.opensW_struct Try.underlying59 (by kernel_rfl)
    (Open.fieldsW_cons rfl (by kernel_rfl) (Open.opensW_of (Open.opens_int Try.underlying3))
      (Open.fieldsW_cons rfl (by kernel_rfl) (Open.opensW_of (Open.opens_int Try.underlying3))
        (Open.fieldsW_cons rfl (by kernel_rfl) (Open.opensW_of (Open.opens_int Try.underlying3))
          (Open.fieldsW_cons rfl (by kernel_rfl) (Open.opensW_slice (B := 1) Try.underlying30 (by kernel_rfl) (by kernel_rfl) (Open.opensW_of (Open.opens_int Try.underlying5)))
            (Open.fieldsW_one rfl (by kernel_rfl) (Open.opensW_slice (B := 8) Try.underlying40 (by kernel_rfl) (by kernel_rfl) (Open.opensW_of (Open.opens_int Try.underlying3)))) (by decide)) (by decide)) (by decide)) (by decide))
theorem DiskLives_row (n : Int) (A : Option Addr) (c : Nat) (l : List DoT) (w : World) (hn : (Lit.int .i64 n).wf = true) (hC : Kd.C kDo w A l.length l) (_ : l.length ≤ c) (hF : ∀ x ∈ l, (fun x : DoT => (Lit.int .i64 x.1).wf = true ∧ (Lit.int .i64 x.2.1).wf = true ∧ (Lit.int .i64 x.2.2.1).wf = true ∧ ((∀ y ∈ x.2.2.2.1, (Lit.int .u8 y).wf = true) ∧ x.2.2.2.1.length * 1 ≤ 140737488351232) ∧ (∀ y ∈ x.2.2.2.2, (Lit.int .i64 y).wf = true) ∧ x.2.2.2.2.length * 8 ≤ 140737488351232) x) (hl : l.length * 72 ≤ 140737488351232) :
    Calls Try.prog 6 #[.int .i64 n, .slice A l.length c] w fun e w' => e = .returned (.bool true) ∧ Below w.heap.size w w' := DiskLives_walk n A c l w hn hC (by omega) hF
end Go.Proofs.Ytbopccjcehnfnaa.Dk
