/- DiskLast: how its arguments come. -/
import Derived.Test.YtbopccjcehnfnaaDl
namespace Go.Proofs.Ytbopccjcehnfnaa.Dk
open Go Go.RowKit Go.Shelf Go.Proofs Go.Proofs.YtbopccjcehnfnaaW.PrintWords Go.Proofs.YtbopccjcehnfnaaW.PrintLast
theorem opens_Do : Open.Opens Try.prog kDo (fun x => (Lit.int .i64 x.1).wf = true ∧ (Lit.int .i64 x.2.1).wf = true ∧ (Lit.int .i64 x.2.2.1).wf = true ∧ (∀ y ∈ x.2.2.2.1, (Lit.int .u8 y).wf = true) ∧ ∀ y ∈ x.2.2.2.2, (Lit.int .i64 y).wf = true) 59 :=
  Open.opens_struct Try.underlying59 (by kernel_rfl)
    (Open.fields_cons rfl (by kernel_rfl) (Open.opens_int Try.underlying3)
      (Open.fields_cons rfl (by kernel_rfl) (Open.opens_int Try.underlying3)
        (Open.fields_cons rfl (by kernel_rfl) (Open.opens_int Try.underlying3)
          (Open.fields_cons rfl (by kernel_rfl) (Open.opens_slice Try.underlying30 (by kernel_rfl) (Open.opens_int Try.underlying5))
            (Open.fields_one rfl (by kernel_rfl) (Open.opens_slice Try.underlying40 (by kernel_rfl) (Open.opens_int Try.underlying3))) (by decide)) (by decide)) (by decide)) (by decide))
theorem DiskLast_row (n : Int) (A : Option Addr) (c : Nat) (l : List DoT) (A1 : Option Addr) (c1 : Nat) (wh : List Bool) (w : World) (hn : (Lit.int .i64 n).wf = true) (hC : Kd.C kDo w A l.length l) (_ : l.length ≤ c)
    (_ : ∀ x ∈ l, ((fun x => (Lit.int .i64 x.1).wf = true ∧ (Lit.int .i64 x.2.1).wf = true ∧ (Lit.int .i64 x.2.2.1).wf = true ∧ (∀ y ∈ x.2.2.2.1, (Lit.int .u8 y).wf = true) ∧ ∀ y ∈ x.2.2.2.2, (Lit.int .i64 y).wf = true) : DoT → Prop) x) (hl : l.length * 72 ≤ 140737488351232) (hC1 : Kd.C Kd.bool w A1 wh.length wh) (_ : wh.length ≤ c1) (_ : ∀ x ∈ wh, ((fun _ => True) : Bool → Prop) x) (hl1 : wh.length * 1 ≤ 140737488351232) :
    Calls Try.prog 3 #[.int .i64 n, .slice A l.length c, .slice A1 wh.length c1] w fun e w' => e = .returned (.bool true) ∧ Below w.heap.size w w' := DiskLast_walk n A c l A1 c1 wh w hn hC (by omega) hC1 (by omega)
end Go.Proofs.Ytbopccjcehnfnaa.Dk
