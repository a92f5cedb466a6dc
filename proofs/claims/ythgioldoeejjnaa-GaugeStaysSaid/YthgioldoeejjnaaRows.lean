/-
  No cell of these rows narrows 'for every input' (looked for: loops, veiled, ifaces, maps, wideKeys, modest, calm, conditions, laid).
  DERIVED. THE GIVEN ROWS OF THIS SEAT. 5 by the template 'for every input the law returns true; each argument reads behind the call as it read before'; 0 by the template 'total and deterministic' (their statements: YthgioldoeejjnaaTotals.lean).
  GIVEN WITH THE SEED: the statements are not yours to turn. If you find one false, say at which input.
  Laid BY PROGRAM, IN A SANDBOX (cutbox-rows.mjs): the forced cells as the released guide's own fill.sh prints them over the translation b4700f9dab34bc72… (all of the seat's roots in one cut). By AI agents, Wed Nov 11 2026. No macro, syntax, notation, axiom, sorry.
-/
import Derived.Test.YthgioldoeejjnaaChecked
import GoSem.Claim
import GoSem.ClaimJoined
import GoSem.ClaimMapViews
import Derived.JoinedTies
import Derived.KernelRfl
namespace Go.Proofs.Ythgioldoeejjnaa
/- THE CELL 'sum', in the pinned program and in every row, IS THE sha256 OF THE DUMP (.gsa) THAT YthgioldoeejjnaaProg.lean LOADS. Nothing in Lean hashes anything: it is a label: what it is worth is what the hold of that sum in a sandbox is worth. -/
noncomputable def Try.pinned : Pinned := { name := "ythgioldoeejjnaa", sum := "b4700f9dab34bc72e92f291227476ec6077c32b7b26dea9eabc3b5fa265876b5", checked := Try.checked }
namespace Rows
def none {H : Type} : Left H := { results := [], args := [] }

/-- 'bollardlaw08.GaugeFills': WHATEVER THE INPUT: true; the input reads as it did. -/
def gaugeFillsSpec : ChangeSpec := { name := "gaugeFills", fn := fun _ => fun
  | [d1, d2, d3, d4] => { results := [.lit (.bool true)], args := [d1, d2, d3, d4] }
  | _ => none }
def gaugeFillsRow : OpenClaim := { program := "ythgioldoeejjnaa", sum := "b4700f9dab34bc72e92f291227476ec6077c32b7b26dea9eabc3b5fa265876b5", func := "bollard/bollardlaw08.GaugeFills", spec := "gaugeFills", inPlace := ["math.Float64bits"], apart := false }
def GaugeFillsSaid : Prop := gaugeFillsRow.holds Try.pinned (OpenSpec.ofChange gaugeFillsSpec)

/-- ITS FALSE NEIGHBOUR: 'it returns false'. Refute it at one input. -/
def gaugeFillsWrong : ChangeSpec := { name := "gaugeFills", fn := fun _ => fun
  | [d1, d2, d3, d4] => { results := [.lit (.bool false)], args := [d1, d2, d3, d4] }
  | _ => none }
def GaugeFillsWrongFalsely : Prop := gaugeFillsRow.holds Try.pinned (OpenSpec.ofChange gaugeFillsWrong)

/-- 'bollardlaw08.GaugeStays': WHATEVER THE INPUT: true; the input reads as it did. -/
def gaugeStaysSpec : ChangeSpec := { name := "gaugeStays", fn := fun _ => fun
  | [d1, d2] => { results := [.lit (.bool true)], args := [d1, d2] }
  | _ => none }
def gaugeStaysRow : OpenClaim := { program := "ythgioldoeejjnaa", sum := "b4700f9dab34bc72e92f291227476ec6077c32b7b26dea9eabc3b5fa265876b5", func := "bollard/bollardlaw08.GaugeStays", spec := "gaugeStays", inPlace := ["math.Float64frombits", "math.Float64bits"], apart := false }
def GaugeStaysSaid : Prop := gaugeStaysRow.holds Try.pinned (OpenSpec.ofChange gaugeStaysSpec)

/-- ITS FALSE NEIGHBOUR: 'it returns false'. Refute it at one input. -/
def gaugeStaysWrong : ChangeSpec := { name := "gaugeStays", fn := fun _ => fun
  | [d1, d2] => { results := [.lit (.bool false)], args := [d1, d2] }
  | _ => none }
def GaugeStaysWrongFalsely : Prop := gaugeStaysRow.holds Try.pinned (OpenSpec.ofChange gaugeStaysWrong)

/-- 'bollardlaw08.GaugeOrder': WHATEVER THE INPUT: true; the input reads as it did. -/
def gaugeOrderSpec : ChangeSpec := { name := "gaugeOrder", fn := fun _ => fun
  | [d1, d2, d3] => { results := [.lit (.bool true)], args := [d1, d2, d3] }
  | _ => none }
def gaugeOrderRow : OpenClaim := { program := "ythgioldoeejjnaa", sum := "b4700f9dab34bc72e92f291227476ec6077c32b7b26dea9eabc3b5fa265876b5", func := "bollard/bollardlaw08.GaugeOrder", spec := "gaugeOrder", inPlace := ["math.Float64frombits", "math.Float64bits"], unfollowed := true, recurses := true, apart := false }
def GaugeOrderSaid : Prop := gaugeOrderRow.holds Try.pinned (OpenSpec.ofChange gaugeOrderSpec)

/-- ITS FALSE NEIGHBOUR: 'it returns false'. Refute it at one input. -/
def gaugeOrderWrong : ChangeSpec := { name := "gaugeOrder", fn := fun _ => fun
  | [d1, d2, d3] => { results := [.lit (.bool false)], args := [d1, d2, d3] }
  | _ => none }
def GaugeOrderWrongFalsely : Prop := gaugeOrderRow.holds Try.pinned (OpenSpec.ofChange gaugeOrderWrong)

/-- 'bollardlaw08.GaugeFollows': WHATEVER THE INPUT: true; the input reads as it did. -/
def gaugeFollowsSpec : ChangeSpec := { name := "gaugeFollows", fn := fun _ => fun
  | [d1, d2, d3, d4] => { results := [.lit (.bool true)], args := [d1, d2, d3, d4] }
  | _ => none }
def gaugeFollowsRow : OpenClaim := { program := "ythgioldoeejjnaa", sum := "b4700f9dab34bc72e92f291227476ec6077c32b7b26dea9eabc3b5fa265876b5", func := "bollard/bollardlaw08.GaugeFollows", spec := "gaugeFollows", inPlace := ["math.Float64frombits", "math.Float64bits"], unfollowed := true, recurses := true, apart := false }
def GaugeFollowsSaid : Prop := gaugeFollowsRow.holds Try.pinned (OpenSpec.ofChange gaugeFollowsSpec)

/-- ITS FALSE NEIGHBOUR: 'it returns false'. Refute it at one input. -/
def gaugeFollowsWrong : ChangeSpec := { name := "gaugeFollows", fn := fun _ => fun
  | [d1, d2, d3, d4] => { results := [.lit (.bool false)], args := [d1, d2, d3, d4] }
  | _ => none }
def GaugeFollowsWrongFalsely : Prop := gaugeFollowsRow.holds Try.pinned (OpenSpec.ofChange gaugeFollowsWrong)

/-- 'bollardlaw08.GaugeRuns': WHATEVER THE INPUT: true; the input reads as it did. -/
def gaugeRunsSpec : ChangeSpec := { name := "gaugeRuns", fn := fun _ => fun
  | [d] => { results := [.lit (.bool true)], args := [d] }
  | _ => none }
def gaugeRunsRow : OpenClaim := { program := "ythgioldoeejjnaa", sum := "b4700f9dab34bc72e92f291227476ec6077c32b7b26dea9eabc3b5fa265876b5", func := "bollard/bollardlaw08.GaugeRuns", spec := "gaugeRuns", inPlace := ["math.Float64bits"], unfollowed := true, recurses := true, apart := false }
def GaugeRunsSaid : Prop := gaugeRunsRow.holds Try.pinned (OpenSpec.ofChange gaugeRunsSpec)

/-- ITS FALSE NEIGHBOUR: 'it returns false'. Refute it at one input. -/
def gaugeRunsWrong : ChangeSpec := { name := "gaugeRuns", fn := fun _ => fun
  | [d] => { results := [.lit (.bool false)], args := [d] }
  | _ => none }
def GaugeRunsWrongFalsely : Prop := gaugeRunsRow.holds Try.pinned (OpenSpec.ofChange gaugeRunsWrong)

/- THE SECOND FORM. 'bulk': how many values and letters a reading holds, each counted each time it is reached (what is shared counts as often as it is met; a slice's spare places count too). A statement '..UptoSaid' is the law's where the arguments, and the package variables that the reading takes, are together of bulk at most 1048576: NARROWER than '..Said'. Prove '..Said' where nothing that the law and all that it calls make is longer than what came in: it says more and counts as full. Else prove '..UptoSaid'. A law counts once. -/
mutual
def uptoBulk {H : Type} : DataW H → Nat
  | .lit (.string bytes) => bytes.length + 1
  | .lit _ => 1
  | .nil => 1
  | .ptr d => uptoBulk d + 1
  | .slice elems spare => uptoBulkAll elems + uptoBulkAll spare + 1
  | .agg parts => uptoBulkAll parts + 1
  | .iface _ d => uptoBulk d + 1
  | .map entries => uptoBulkEntries entries + 1
  | .held _ => 1
def uptoBulkAll {H : Type} : List (DataW H) → Nat
  | [] => 0
  | d :: r => uptoBulk d + uptoBulkAll r
def uptoBulkEntries {H : Type} : List (Lit × DataW H) → Nat
  | [] => 0
  | x :: r => uptoBulkEntry x + uptoBulkEntries r
def uptoBulkEntry {H : Type} : Lit × DataW H → Nat
  | (.string bytes, d) => bytes.length + uptoBulk d + 1
  | (_, d) => uptoBulk d + 1
 end
def uptoSmall : (H : Type) → List (DataW H) → Bool := fun _ ds => decide (uptoBulkAll ds ≤ 1048576)
def OpenSpec.upto (s : _root_.Go.ChangeSpec) : _root_.Go.OpenSpec := { _root_.Go.OpenSpec.ofChange s with cond := some uptoSmall }

/-- 'bollardlaw08.GaugeFills', WHERE WHAT IT READS IS OF BULK AT MOST 1048576: true; the input reads as it did. -/
def gaugeFillsUptoRow : OpenClaim := { program := "ythgioldoeejjnaa", sum := "b4700f9dab34bc72e92f291227476ec6077c32b7b26dea9eabc3b5fa265876b5", func := "bollard/bollardlaw08.GaugeFills", spec := "gaugeFills", inPlace := ["math.Float64bits"], apart := false, narrowed := true }
def GaugeFillsUptoSaid : Prop := gaugeFillsUptoRow.holds Try.pinned (OpenSpec.upto gaugeFillsSpec)

/-- 'bollardlaw08.GaugeStays', WHERE WHAT IT READS IS OF BULK AT MOST 1048576: true; the input reads as it did. -/
def gaugeStaysUptoRow : OpenClaim := { program := "ythgioldoeejjnaa", sum := "b4700f9dab34bc72e92f291227476ec6077c32b7b26dea9eabc3b5fa265876b5", func := "bollard/bollardlaw08.GaugeStays", spec := "gaugeStays", inPlace := ["math.Float64frombits", "math.Float64bits"], apart := false, narrowed := true }
def GaugeStaysUptoSaid : Prop := gaugeStaysUptoRow.holds Try.pinned (OpenSpec.upto gaugeStaysSpec)

/-- 'bollardlaw08.GaugeOrder', WHERE WHAT IT READS IS OF BULK AT MOST 1048576: true; the input reads as it did. -/
def gaugeOrderUptoRow : OpenClaim := { program := "ythgioldoeejjnaa", sum := "b4700f9dab34bc72e92f291227476ec6077c32b7b26dea9eabc3b5fa265876b5", func := "bollard/bollardlaw08.GaugeOrder", spec := "gaugeOrder", inPlace := ["math.Float64frombits", "math.Float64bits"], unfollowed := true, recurses := true, apart := false, narrowed := true }
def GaugeOrderUptoSaid : Prop := gaugeOrderUptoRow.holds Try.pinned (OpenSpec.upto gaugeOrderSpec)

/-- 'bollardlaw08.GaugeFollows', WHERE WHAT IT READS IS OF BULK AT MOST 1048576: true; the input reads as it did. -/
def gaugeFollowsUptoRow : OpenClaim := { program := "ythgioldoeejjnaa", sum := "b4700f9dab34bc72e92f291227476ec6077c32b7b26dea9eabc3b5fa265876b5", func := "bollard/bollardlaw08.GaugeFollows", spec := "gaugeFollows", inPlace := ["math.Float64frombits", "math.Float64bits"], unfollowed := true, recurses := true, apart := false, narrowed := true }
def GaugeFollowsUptoSaid : Prop := gaugeFollowsUptoRow.holds Try.pinned (OpenSpec.upto gaugeFollowsSpec)

/-- 'bollardlaw08.GaugeRuns', WHERE WHAT IT READS IS OF BULK AT MOST 1048576: true; the input reads as it did. -/
def gaugeRunsUptoRow : OpenClaim := { program := "ythgioldoeejjnaa", sum := "b4700f9dab34bc72e92f291227476ec6077c32b7b26dea9eabc3b5fa265876b5", func := "bollard/bollardlaw08.GaugeRuns", spec := "gaugeRuns", inPlace := ["math.Float64bits"], unfollowed := true, recurses := true, apart := false, narrowed := true }
def GaugeRunsUptoSaid : Prop := gaugeRunsUptoRow.holds Try.pinned (OpenSpec.upto gaugeRunsSpec)

end Rows
end Go.Proofs.Ythgioldoeejjnaa
