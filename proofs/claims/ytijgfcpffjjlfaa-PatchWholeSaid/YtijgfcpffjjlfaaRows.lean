/-
  No cell of these rows narrows 'for every input' (looked for: loops, veiled, ifaces, maps, wideKeys, modest, calm, conditions, laid).
  DERIVED. THE GIVEN ROWS OF THIS SEAT. 7 by the template 'for every input the law returns true; each argument reads behind the call as it read before'; 0 by the template 'total and deterministic' (their statements: YtijgfcpffjjlfaaTotals.lean).
  GIVEN WITH THE SEED: the statements are not yours to turn. If you find one false, say at which input.
  Laid BY PROGRAM, IN A SANDBOX (cutbox-rows.mjs): the forced cells as the released guide's own fill.sh prints them over the translation 140eebc02b835973… (all of the seat's roots in one cut). By AI agents, Wed Nov 11 2026. No macro, syntax, notation, axiom, sorry.
-/
import Derived.Test.YtijgfcpffjjlfaaChecked
import GoSem.Claim
import GoSem.ClaimJoined
import GoSem.ClaimMapViews
import Derived.JoinedTies
import Derived.KernelRfl
namespace Go.Proofs.Ytijgfcpffjjlfaa
/- THE CELL 'sum', in the pinned program and in every row, IS THE sha256 OF THE DUMP (.gsa) THAT YtijgfcpffjjlfaaProg.lean LOADS. Nothing in Lean hashes anything: it is a label: what it is worth is what the hold of that sum in a sandbox is worth. -/
noncomputable def Try.pinned : Pinned := { name := "ytijgfcpffjjlfaa", sum := "140eebc02b83597311ed9dbc67506a6edba8b33d29c2140206875c22ccdd28eb", checked := Try.checked }
namespace Rows
def none {H : Type} : Left H := { results := [], args := [] }

/-- 'bollardlaw07.PatchUndone': WHATEVER THE INPUT: true; the input reads as it did. -/
def patchUndoneSpec : ChangeSpec := { name := "patchUndone", fn := fun _ => fun
  | [d1, d2] => { results := [.lit (.bool true)], args := [d1, d2] }
  | _ => none }
def patchUndoneRow : OpenClaim := { program := "ytijgfcpffjjlfaa", sum := "140eebc02b83597311ed9dbc67506a6edba8b33d29c2140206875c22ccdd28eb", func := "bollard/bollardlaw07.PatchUndone", spec := "patchUndone", unfollowed := true, recurses := true, apart := false }
def PatchUndoneSaid : Prop := patchUndoneRow.holds Try.pinned (OpenSpec.ofChange patchUndoneSpec)

/-- ITS FALSE NEIGHBOUR: 'it returns false'. Refute it at one input. -/
def patchUndoneWrong : ChangeSpec := { name := "patchUndone", fn := fun _ => fun
  | [d1, d2] => { results := [.lit (.bool false)], args := [d1, d2] }
  | _ => none }
def PatchUndoneWrongFalsely : Prop := patchUndoneRow.holds Try.pinned (OpenSpec.ofChange patchUndoneWrong)

/-- 'bollardlaw07.PatchGets': WHATEVER THE INPUT: true; the input reads as it did. -/
def patchGetsSpec : ChangeSpec := { name := "patchGets", fn := fun _ => fun
  | [d] => { results := [.lit (.bool true)], args := [d] }
  | _ => none }
def patchGetsRow : OpenClaim := { program := "ytijgfcpffjjlfaa", sum := "140eebc02b83597311ed9dbc67506a6edba8b33d29c2140206875c22ccdd28eb", func := "bollard/bollardlaw07.PatchGets", spec := "patchGets", unfollowed := true, recurses := true, apart := false }
def PatchGetsSaid : Prop := patchGetsRow.holds Try.pinned (OpenSpec.ofChange patchGetsSpec)

/-- ITS FALSE NEIGHBOUR: 'it returns false'. Refute it at one input. -/
def patchGetsWrong : ChangeSpec := { name := "patchGets", fn := fun _ => fun
  | [d] => { results := [.lit (.bool false)], args := [d] }
  | _ => none }
def PatchGetsWrongFalsely : Prop := patchGetsRow.holds Try.pinned (OpenSpec.ofChange patchGetsWrong)

/-- 'bollardlaw07.PatchWhole': WHATEVER THE INPUT: true; the input reads as it did. -/
def patchWholeSpec : ChangeSpec := { name := "patchWhole", fn := fun _ => fun
  | [d] => { results := [.lit (.bool true)], args := [d] }
  | _ => none }
def patchWholeRow : OpenClaim := { program := "ytijgfcpffjjlfaa", sum := "140eebc02b83597311ed9dbc67506a6edba8b33d29c2140206875c22ccdd28eb", func := "bollard/bollardlaw07.PatchWhole", spec := "patchWhole", unfollowed := true, recurses := true, apart := false }
def PatchWholeSaid : Prop := patchWholeRow.holds Try.pinned (OpenSpec.ofChange patchWholeSpec)

/-- ITS FALSE NEIGHBOUR: 'it returns false'. Refute it at one input. -/
def patchWholeWrong : ChangeSpec := { name := "patchWhole", fn := fun _ => fun
  | [d] => { results := [.lit (.bool false)], args := [d] }
  | _ => none }
def PatchWholeWrongFalsely : Prop := patchWholeRow.holds Try.pinned (OpenSpec.ofChange patchWholeWrong)

/-- 'bollardlaw07.PatchNobody': WHATEVER THE INPUT: true; the input reads as it did. -/
def patchNobodySpec : ChangeSpec := { name := "patchNobody", fn := fun _ => fun
  | [d] => { results := [.lit (.bool true)], args := [d] }
  | _ => none }
def patchNobodyRow : OpenClaim := { program := "ytijgfcpffjjlfaa", sum := "140eebc02b83597311ed9dbc67506a6edba8b33d29c2140206875c22ccdd28eb", func := "bollard/bollardlaw07.PatchNobody", spec := "patchNobody", unfollowed := true, recurses := true, apart := false }
def PatchNobodySaid : Prop := patchNobodyRow.holds Try.pinned (OpenSpec.ofChange patchNobodySpec)

/-- ITS FALSE NEIGHBOUR: 'it returns false'. Refute it at one input. -/
def patchNobodyWrong : ChangeSpec := { name := "patchNobody", fn := fun _ => fun
  | [d] => { results := [.lit (.bool false)], args := [d] }
  | _ => none }
def PatchNobodyWrongFalsely : Prop := patchNobodyRow.holds Try.pinned (OpenSpec.ofChange patchNobodyWrong)

/-- 'bollardlaw07.PatchAsks': WHATEVER THE INPUT: true; the input reads as it did. -/
def patchAsksSpec : ChangeSpec := { name := "patchAsks", fn := fun _ => fun
  | [d1, d2, d3, d4, d5] => { results := [.lit (.bool true)], args := [d1, d2, d3, d4, d5] }
  | _ => none }
def patchAsksRow : OpenClaim := { program := "ytijgfcpffjjlfaa", sum := "140eebc02b83597311ed9dbc67506a6edba8b33d29c2140206875c22ccdd28eb", func := "bollard/bollardlaw07.PatchAsks", spec := "patchAsks", unfollowed := true, recurses := true, apart := false }
def PatchAsksSaid : Prop := patchAsksRow.holds Try.pinned (OpenSpec.ofChange patchAsksSpec)

/-- ITS FALSE NEIGHBOUR: 'it returns false'. Refute it at one input. -/
def patchAsksWrong : ChangeSpec := { name := "patchAsks", fn := fun _ => fun
  | [d1, d2, d3, d4, d5] => { results := [.lit (.bool false)], args := [d1, d2, d3, d4, d5] }
  | _ => none }
def PatchAsksWrongFalsely : Prop := patchAsksRow.holds Try.pinned (OpenSpec.ofChange patchAsksWrong)

/-- 'bollardlaw07.PatchEnds': WHATEVER THE INPUT: true; the input reads as it did. -/
def patchEndsSpec : ChangeSpec := { name := "patchEnds", fn := fun _ => fun
  | [d1, d2] => { results := [.lit (.bool true)], args := [d1, d2] }
  | _ => none }
def patchEndsRow : OpenClaim := { program := "ytijgfcpffjjlfaa", sum := "140eebc02b83597311ed9dbc67506a6edba8b33d29c2140206875c22ccdd28eb", func := "bollard/bollardlaw07.PatchEnds", spec := "patchEnds", inPlace := ["internal/bytealg.MakeNoZero"], unfollowed := true, recurses := true, apart := false }
def PatchEndsSaid : Prop := patchEndsRow.holds Try.pinned (OpenSpec.ofChange patchEndsSpec)

/-- ITS FALSE NEIGHBOUR: 'it returns false'. Refute it at one input. -/
def patchEndsWrong : ChangeSpec := { name := "patchEnds", fn := fun _ => fun
  | [d1, d2] => { results := [.lit (.bool false)], args := [d1, d2] }
  | _ => none }
def PatchEndsWrongFalsely : Prop := patchEndsRow.holds Try.pinned (OpenSpec.ofChange patchEndsWrong)

/-- 'bollardlaw07.PatchLives': WHATEVER THE INPUT: true; the input reads as it did. -/
def patchLivesSpec : ChangeSpec := { name := "patchLives", fn := fun _ => fun
  | [d] => { results := [.lit (.bool true)], args := [d] }
  | _ => none }
def patchLivesRow : OpenClaim := { program := "ytijgfcpffjjlfaa", sum := "140eebc02b83597311ed9dbc67506a6edba8b33d29c2140206875c22ccdd28eb", func := "bollard/bollardlaw07.PatchLives", spec := "patchLives", inPlace := ["internal/bytealg.MakeNoZero"], unfollowed := true, recurses := true, apart := false }
def PatchLivesSaid : Prop := patchLivesRow.holds Try.pinned (OpenSpec.ofChange patchLivesSpec)

/-- ITS FALSE NEIGHBOUR: 'it returns false'. Refute it at one input. -/
def patchLivesWrong : ChangeSpec := { name := "patchLives", fn := fun _ => fun
  | [d] => { results := [.lit (.bool false)], args := [d] }
  | _ => none }
def PatchLivesWrongFalsely : Prop := patchLivesRow.holds Try.pinned (OpenSpec.ofChange patchLivesWrong)

/- THE SECOND FORM. 'bulk': how many values and letters a reading holds, each counted each time it is reached (what is shared counts as often as it is met; a slice's spare places count too). A statement '..UptoSaid' is the law's where the arguments, and the package variables that the reading takes, are together of bulk at most 1048576: NARROWER than '..Said'. Prove '..Said' where nothing that the law and all that it calls make is longer than what came in: it says more and counts as full. Else prove '..UptoSaid'. A law counts once. -/
mutual
def uptoBulk {H : Type} : DataW H → Nat
  | .lit (.string bytes) => bytes.length + 1
  | .lit _ => 1
  | .nil => 1
  | .ptr d => uptoBulk d + 1
  | .slice elems spare => uptoBulkAll elems + uptoBulkAll spare + 1
  | .agg parts => uptoBulkAll parts + 1
  | .iface _ d => uptoBulk d + 1
  | .map entries => uptoBulkEntries entries + 1
  | .held _ => 1
def uptoBulkAll {H : Type} : List (DataW H) → Nat
  | [] => 0
  | d :: r => uptoBulk d + uptoBulkAll r
def uptoBulkEntries {H : Type} : List (Lit × DataW H) → Nat
  | [] => 0
  | x :: r => uptoBulkEntry x + uptoBulkEntries r
def uptoBulkEntry {H : Type} : Lit × DataW H → Nat
  | (.string bytes, d) => bytes.length + uptoBulk d + 1
  | (_, d) => uptoBulk d + 1
 end
def uptoSmall : (H : Type) → List (DataW H) → Bool := fun _ ds => decide (uptoBulkAll ds ≤ 1048576)
def OpenSpec.upto (s : _root_.Go.ChangeSpec) : _root_.Go.OpenSpec := { _root_.Go.OpenSpec.ofChange s with cond := some uptoSmall }

/-- 'bollardlaw07.PatchUndone', WHERE WHAT IT READS IS OF BULK AT MOST 1048576: true; the input reads as it did. -/
def patchUndoneUptoRow : OpenClaim := { program := "ytijgfcpffjjlfaa", sum := "140eebc02b83597311ed9dbc67506a6edba8b33d29c2140206875c22ccdd28eb", func := "bollard/bollardlaw07.PatchUndone", spec := "patchUndone", unfollowed := true, recurses := true, apart := false, narrowed := true }
def PatchUndoneUptoSaid : Prop := patchUndoneUptoRow.holds Try.pinned (OpenSpec.upto patchUndoneSpec)

/-- 'bollardlaw07.PatchGets', WHERE WHAT IT READS IS OF BULK AT MOST 1048576: true; the input reads as it did. -/
def patchGetsUptoRow : OpenClaim := { program := "ytijgfcpffjjlfaa", sum := "140eebc02b83597311ed9dbc67506a6edba8b33d29c2140206875c22ccdd28eb", func := "bollard/bollardlaw07.PatchGets", spec := "patchGets", unfollowed := true, recurses := true, apart := false, narrowed := true }
def PatchGetsUptoSaid : Prop := patchGetsUptoRow.holds Try.pinned (OpenSpec.upto patchGetsSpec)

/-- 'bollardlaw07.PatchWhole', WHERE WHAT IT READS IS OF BULK AT MOST 1048576: true; the input reads as it did. -/
def patchWholeUptoRow : OpenClaim := { program := "ytijgfcpffjjlfaa", sum := "140eebc02b83597311ed9dbc67506a6edba8b33d29c2140206875c22ccdd28eb", func := "bollard/bollardlaw07.PatchWhole", spec := "patchWhole", unfollowed := true, recurses := true, apart := false, narrowed := true }
def PatchWholeUptoSaid : Prop := patchWholeUptoRow.holds Try.pinned (OpenSpec.upto patchWholeSpec)

/-- 'bollardlaw07.PatchNobody', WHERE WHAT IT READS IS OF BULK AT MOST 1048576: true; the input reads as it did. -/
def patchNobodyUptoRow : OpenClaim := { program := "ytijgfcpffjjlfaa", sum := "140eebc02b83597311ed9dbc67506a6edba8b33d29c2140206875c22ccdd28eb", func := "bollard/bollardlaw07.PatchNobody", spec := "patchNobody", unfollowed := true, recurses := true, apart := false, narrowed := true }
def PatchNobodyUptoSaid : Prop := patchNobodyUptoRow.holds Try.pinned (OpenSpec.upto patchNobodySpec)

/-- 'bollardlaw07.PatchAsks', WHERE WHAT IT READS IS OF BULK AT MOST 1048576: true; the input reads as it did. -/
def patchAsksUptoRow : OpenClaim := { program := "ytijgfcpffjjlfaa", sum := "140eebc02b83597311ed9dbc67506a6edba8b33d29c2140206875c22ccdd28eb", func := "bollard/bollardlaw07.PatchAsks", spec := "patchAsks", unfollowed := true, recurses := true, apart := false, narrowed := true }
def PatchAsksUptoSaid : Prop := patchAsksUptoRow.holds Try.pinned (OpenSpec.upto patchAsksSpec)

/-- 'bollardlaw07.PatchEnds', WHERE WHAT IT READS IS OF BULK AT MOST 1048576: true; the input reads as it did. -/
def patchEndsUptoRow : OpenClaim := { program := "ytijgfcpffjjlfaa", sum := "140eebc02b83597311ed9dbc67506a6edba8b33d29c2140206875c22ccdd28eb", func := "bollard/bollardlaw07.PatchEnds", spec := "patchEnds", inPlace := ["internal/bytealg.MakeNoZero"], unfollowed := true, recurses := true, apart := false, narrowed := true }
def PatchEndsUptoSaid : Prop := patchEndsUptoRow.holds Try.pinned (OpenSpec.upto patchEndsSpec)

/-- 'bollardlaw07.PatchLives', WHERE WHAT IT READS IS OF BULK AT MOST 1048576: true; the input reads as it did. -/
def patchLivesUptoRow : OpenClaim := { program := "ytijgfcpffjjlfaa", sum := "140eebc02b83597311ed9dbc67506a6edba8b33d29c2140206875c22ccdd28eb", func := "bollard/bollardlaw07.PatchLives", spec := "patchLives", inPlace := ["internal/bytealg.MakeNoZero"], unfollowed := true, recurses := true, apart := false, narrowed := true }
def PatchLivesUptoSaid : Prop := patchLivesUptoRow.holds Try.pinned (OpenSpec.upto patchLivesSpec)

end Rows
end Go.Proofs.Ytijgfcpffjjlfaa
