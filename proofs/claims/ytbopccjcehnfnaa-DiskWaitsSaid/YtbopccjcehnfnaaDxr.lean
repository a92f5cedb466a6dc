/- DiskWaits: how its arguments come. -/
import Derived.Test.YtbopccjcehnfnaaDx
namespace Go.Proofs.Ytbopccjcehnfnaa.Dk
open Go Go.RowKit Go.Shelf Go.Proofs Go.Proofs.YtbopccjcehnfnaaW.PrintWords Go.Proofs.YtbopccjcehnfnaaW.PrintLast
theorem DiskWaits_row (n : Int) (A : Option Addr) (c : Nat) (l : List DoT) (w : World) (hn : (Lit.int .i64 n).wf = true) (hC : Kd.C kDo w A l.length l) (_ : l.length ≤ c)
    (_ : ∀ x ∈ l, ((fun x => (Lit.int .i64 x.1).wf = true ∧ (Lit.int .i64 x.2.1).wf = true ∧ (Lit.int .i64 x.2.2.1).wf = true ∧ (∀ y ∈ x.2.2.2.1, (Lit.int .u8 y).wf = true) ∧ ∀ y ∈ x.2.2.2.2, (Lit.int .i64 y).wf = true) : DoT → Prop) x) (hl : l.length * 72 ≤ 140737488351232) :
    Calls Try.prog 4 #[.int .i64 n, .slice A l.length c] w fun e w' => e = .returned (.bool true) ∧ Below w.heap.size w w' := DiskWaits_walk n A c l w hn hC (by omega)
end Go.Proofs.Ytbopccjcehnfnaa.Dk
