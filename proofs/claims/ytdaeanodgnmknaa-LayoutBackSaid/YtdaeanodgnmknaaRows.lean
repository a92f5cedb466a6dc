/-
  No cell of these rows narrows 'for every input' (looked for: loops, veiled, ifaces, maps, wideKeys, modest, calm, conditions, laid).
  DERIVED. THE GIVEN ROWS OF THIS SEAT. 7 by the template 'for every input the law returns true; each argument reads behind the call as it read before'; 0 by the template 'total and deterministic' (their statements: YtdaeanodgnmknaaTotals.lean).
  GIVEN WITH THE SEED: the statements are not yours to turn. If you find one false, say at which input.
  Laid BY PROGRAM, IN A SANDBOX (cutbox-rows.mjs): the forced cells as the released guide's own fill.sh prints them over the translation 2027e17a263c1c13… (all of the seat's roots in one cut). By AI agents, Wed Nov 11 2026. No macro, syntax, notation, axiom, sorry.
-/
import Derived.Test.YtdaeanodgnmknaaChecked
import GoSem.Claim
import GoSem.ClaimJoined
import GoSem.ClaimMapViews
import Derived.JoinedTies
import Derived.KernelRfl
namespace Go.Proofs.Ytdaeanodgnmknaa
/- THE CELL 'sum', in the pinned program and in every row, IS THE sha256 OF THE DUMP (.gsa) THAT YtdaeanodgnmknaaProg.lean LOADS. Nothing in Lean hashes anything: it is a label: what it is worth is what the hold of that sum in a sandbox is worth. -/
noncomputable def Try.pinned : Pinned := { name := "ytdaeanodgnmknaa", sum := "2027e17a263c1c1352bd8b3740df5f322b831273b1f81145380e7b9eb7da1f6b", checked := Try.checked }
namespace Rows
def none {H : Type} : Left H := { results := [], args := [] }

/-- 'bollardlaw03.LayoutGroups': WHATEVER THE INPUT: true; the input reads as it did. -/
def layoutGroupsSpec : ChangeSpec := { name := "layoutGroups", fn := fun _ => fun
  | [d1, d2] => { results := [.lit (.bool true)], args := [d1, d2] }
  | _ => none }
def layoutGroupsRow : OpenClaim := { program := "ytdaeanodgnmknaa", sum := "2027e17a263c1c1352bd8b3740df5f322b831273b1f81145380e7b9eb7da1f6b", func := "bollard/bollardlaw03.LayoutGroups", spec := "layoutGroups", apart := false }
def LayoutGroupsSaid : Prop := layoutGroupsRow.holds Try.pinned (OpenSpec.ofChange layoutGroupsSpec)

/-- ITS FALSE NEIGHBOUR: 'it returns false'. Refute it at one input. -/
def layoutGroupsWrong : ChangeSpec := { name := "layoutGroups", fn := fun _ => fun
  | [d1, d2] => { results := [.lit (.bool false)], args := [d1, d2] }
  | _ => none }
def LayoutGroupsWrongFalsely : Prop := layoutGroupsRow.holds Try.pinned (OpenSpec.ofChange layoutGroupsWrong)

/-- 'bollardlaw03.LayoutEntries': WHATEVER THE INPUT: true; the input reads as it did. -/
def layoutEntriesSpec : ChangeSpec := { name := "layoutEntries", fn := fun _ => fun
  | [d1, d2] => { results := [.lit (.bool true)], args := [d1, d2] }
  | _ => none }
def layoutEntriesRow : OpenClaim := { program := "ytdaeanodgnmknaa", sum := "2027e17a263c1c1352bd8b3740df5f322b831273b1f81145380e7b9eb7da1f6b", func := "bollard/bollardlaw03.LayoutEntries", spec := "layoutEntries", unfollowed := true, recurses := true, apart := false }
def LayoutEntriesSaid : Prop := layoutEntriesRow.holds Try.pinned (OpenSpec.ofChange layoutEntriesSpec)

/-- ITS FALSE NEIGHBOUR: 'it returns false'. Refute it at one input. -/
def layoutEntriesWrong : ChangeSpec := { name := "layoutEntries", fn := fun _ => fun
  | [d1, d2] => { results := [.lit (.bool false)], args := [d1, d2] }
  | _ => none }
def LayoutEntriesWrongFalsely : Prop := layoutEntriesRow.holds Try.pinned (OpenSpec.ofChange layoutEntriesWrong)

/-- 'bollardlaw03.LayoutFans': WHATEVER THE INPUT: true; the input reads as it did. -/
def layoutFansSpec : ChangeSpec := { name := "layoutFans", fn := fun _ => fun
  | [d1, d2] => { results := [.lit (.bool true)], args := [d1, d2] }
  | _ => none }
def layoutFansRow : OpenClaim := { program := "ytdaeanodgnmknaa", sum := "2027e17a263c1c1352bd8b3740df5f322b831273b1f81145380e7b9eb7da1f6b", func := "bollard/bollardlaw03.LayoutFans", spec := "layoutFans", unfollowed := true, recurses := true, apart := false }
def LayoutFansSaid : Prop := layoutFansRow.holds Try.pinned (OpenSpec.ofChange layoutFansSpec)

/-- ITS FALSE NEIGHBOUR: 'it returns false'. Refute it at one input. -/
def layoutFansWrong : ChangeSpec := { name := "layoutFans", fn := fun _ => fun
  | [d1, d2] => { results := [.lit (.bool false)], args := [d1, d2] }
  | _ => none }
def LayoutFansWrongFalsely : Prop := layoutFansRow.holds Try.pinned (OpenSpec.ofChange layoutFansWrong)

/-- 'bollardlaw03.LayoutSupers': WHATEVER THE INPUT: true; the input reads as it did. -/
def layoutSupersSpec : ChangeSpec := { name := "layoutSupers", fn := fun _ => fun
  | [d1, d2] => { results := [.lit (.bool true)], args := [d1, d2] }
  | _ => none }
def layoutSupersRow : OpenClaim := { program := "ytdaeanodgnmknaa", sum := "2027e17a263c1c1352bd8b3740df5f322b831273b1f81145380e7b9eb7da1f6b", func := "bollard/bollardlaw03.LayoutSupers", spec := "layoutSupers", unfollowed := true, recurses := true, apart := false }
def LayoutSupersSaid : Prop := layoutSupersRow.holds Try.pinned (OpenSpec.ofChange layoutSupersSpec)

/-- ITS FALSE NEIGHBOUR: 'it returns false'. Refute it at one input. -/
def layoutSupersWrong : ChangeSpec := { name := "layoutSupers", fn := fun _ => fun
  | [d1, d2] => { results := [.lit (.bool false)], args := [d1, d2] }
  | _ => none }
def LayoutSupersWrongFalsely : Prop := layoutSupersRow.holds Try.pinned (OpenSpec.ofChange layoutSupersWrong)

/-- 'bollardlaw03.LayoutDinodes': WHATEVER THE INPUT: true; the input reads as it did. -/
def layoutDinodesSpec : ChangeSpec := { name := "layoutDinodes", fn := fun _ => fun
  | [d1, d2] => { results := [.lit (.bool true)], args := [d1, d2] }
  | _ => none }
def layoutDinodesRow : OpenClaim := { program := "ytdaeanodgnmknaa", sum := "2027e17a263c1c1352bd8b3740df5f322b831273b1f81145380e7b9eb7da1f6b", func := "bollard/bollardlaw03.LayoutDinodes", spec := "layoutDinodes", unfollowed := true, recurses := true, apart := false }
def LayoutDinodesSaid : Prop := layoutDinodesRow.holds Try.pinned (OpenSpec.ofChange layoutDinodesSpec)

/-- ITS FALSE NEIGHBOUR: 'it returns false'. Refute it at one input. -/
def layoutDinodesWrong : ChangeSpec := { name := "layoutDinodes", fn := fun _ => fun
  | [d1, d2] => { results := [.lit (.bool false)], args := [d1, d2] }
  | _ => none }
def LayoutDinodesWrongFalsely : Prop := layoutDinodesRow.holds Try.pinned (OpenSpec.ofChange layoutDinodesWrong)

/-- 'bollardlaw03.LayoutTurned': WHATEVER THE INPUT: true; the input reads as it did. -/
def layoutTurnedSpec : ChangeSpec := { name := "layoutTurned", fn := fun _ => fun
  | [d1, d2, d3, d4] => { results := [.lit (.bool true)], args := [d1, d2, d3, d4] }
  | _ => none }
def layoutTurnedRow : OpenClaim := { program := "ytdaeanodgnmknaa", sum := "2027e17a263c1c1352bd8b3740df5f322b831273b1f81145380e7b9eb7da1f6b", func := "bollard/bollardlaw03.LayoutTurned", spec := "layoutTurned", unfollowed := true, recurses := true, apart := false }
def LayoutTurnedSaid : Prop := layoutTurnedRow.holds Try.pinned (OpenSpec.ofChange layoutTurnedSpec)

/-- ITS FALSE NEIGHBOUR: 'it returns false'. Refute it at one input. -/
def layoutTurnedWrong : ChangeSpec := { name := "layoutTurned", fn := fun _ => fun
  | [d1, d2, d3, d4] => { results := [.lit (.bool false)], args := [d1, d2, d3, d4] }
  | _ => none }
def LayoutTurnedWrongFalsely : Prop := layoutTurnedRow.holds Try.pinned (OpenSpec.ofChange layoutTurnedWrong)

/-- 'bollardlaw03.LayoutBack': WHATEVER THE INPUT: true; the input reads as it did. -/
def layoutBackSpec : ChangeSpec := { name := "layoutBack", fn := fun _ => fun
  | [d1, d2, d3, d4] => { results := [.lit (.bool true)], args := [d1, d2, d3, d4] }
  | _ => none }
def layoutBackRow : OpenClaim := { program := "ytdaeanodgnmknaa", sum := "2027e17a263c1c1352bd8b3740df5f322b831273b1f81145380e7b9eb7da1f6b", func := "bollard/bollardlaw03.LayoutBack", spec := "layoutBack", unfollowed := true, recurses := true, apart := false }
def LayoutBackSaid : Prop := layoutBackRow.holds Try.pinned (OpenSpec.ofChange layoutBackSpec)

/-- ITS FALSE NEIGHBOUR: 'it returns false'. Refute it at one input. -/
def layoutBackWrong : ChangeSpec := { name := "layoutBack", fn := fun _ => fun
  | [d1, d2, d3, d4] => { results := [.lit (.bool false)], args := [d1, d2, d3, d4] }
  | _ => none }
def LayoutBackWrongFalsely : Prop := layoutBackRow.holds Try.pinned (OpenSpec.ofChange layoutBackWrong)

/- THE SECOND FORM. 'bulk': how many values and letters a reading holds, each counted each time it is reached (what is shared counts as often as it is met; a slice's spare places count too). A statement '..UptoSaid' is the law's where the arguments, and the package variables that the reading takes, are together of bulk at most 1048576: NARROWER than '..Said'. Prove '..Said' where nothing that the law and all that it calls make is longer than what came in: it says more and counts as full. Else prove '..UptoSaid'. A law counts once. -/
mutual
def uptoBulk {H : Type} : DataW H → Nat
  | .lit (.string bytes) => bytes.length + 1
  | .lit _ => 1
  | .nil => 1
  | .ptr d => uptoBulk d + 1
  | .slice elems spare => uptoBulkAll elems + uptoBulkAll spare + 1
  | .agg parts => uptoBulkAll parts + 1
  | .iface _ d => uptoBulk d + 1
  | .map entries => uptoBulkEntries entries + 1
  | .held _ => 1
def uptoBulkAll {H : Type} : List (DataW H) → Nat
  | [] => 0
  | d :: r => uptoBulk d + uptoBulkAll r
def uptoBulkEntries {H : Type} : List (Lit × DataW H) → Nat
  | [] => 0
  | x :: r => uptoBulkEntry x + uptoBulkEntries r
def uptoBulkEntry {H : Type} : Lit × DataW H → Nat
  | (.string bytes, d) => bytes.length + uptoBulk d + 1
  | (_, d) => uptoBulk d + 1
 end
def uptoSmall : (H : Type) → List (DataW H) → Bool := fun _ ds => decide (uptoBulkAll ds ≤ 1048576)
def OpenSpec.upto (s : _root_.Go.ChangeSpec) : _root_.Go.OpenSpec := { _root_.Go.OpenSpec.ofChange s with cond := some uptoSmall }

/-- 'bollardlaw03.LayoutGroups', WHERE WHAT IT READS IS OF BULK AT MOST 1048576: true; the input reads as it did. -/
def layoutGroupsUptoRow : OpenClaim := { program := "ytdaeanodgnmknaa", sum := "2027e17a263c1c1352bd8b3740df5f322b831273b1f81145380e7b9eb7da1f6b", func := "bollard/bollardlaw03.LayoutGroups", spec := "layoutGroups", apart := false, narrowed := true }
def LayoutGroupsUptoSaid : Prop := layoutGroupsUptoRow.holds Try.pinned (OpenSpec.upto layoutGroupsSpec)

/-- 'bollardlaw03.LayoutEntries', WHERE WHAT IT READS IS OF BULK AT MOST 1048576: true; the input reads as it did. -/
def layoutEntriesUptoRow : OpenClaim := { program := "ytdaeanodgnmknaa", sum := "2027e17a263c1c1352bd8b3740df5f322b831273b1f81145380e7b9eb7da1f6b", func := "bollard/bollardlaw03.LayoutEntries", spec := "layoutEntries", unfollowed := true, recurses := true, apart := false, narrowed := true }
def LayoutEntriesUptoSaid : Prop := layoutEntriesUptoRow.holds Try.pinned (OpenSpec.upto layoutEntriesSpec)

/-- 'bollardlaw03.LayoutFans', WHERE WHAT IT READS IS OF BULK AT MOST 1048576: true; the input reads as it did. -/
def layoutFansUptoRow : OpenClaim := { program := "ytdaeanodgnmknaa", sum := "2027e17a263c1c1352bd8b3740df5f322b831273b1f81145380e7b9eb7da1f6b", func := "bollard/bollardlaw03.LayoutFans", spec := "layoutFans", unfollowed := true, recurses := true, apart := false, narrowed := true }
def LayoutFansUptoSaid : Prop := layoutFansUptoRow.holds Try.pinned (OpenSpec.upto layoutFansSpec)

/-- 'bollardlaw03.LayoutSupers', WHERE WHAT IT READS IS OF BULK AT MOST 1048576: true; the input reads as it did. -/
def layoutSupersUptoRow : OpenClaim := { program := "ytdaeanodgnmknaa", sum := "2027e17a263c1c1352bd8b3740df5f322b831273b1f81145380e7b9eb7da1f6b", func := "bollard/bollardlaw03.LayoutSupers", spec := "layoutSupers", unfollowed := true, recurses := true, apart := false, narrowed := true }
def LayoutSupersUptoSaid : Prop := layoutSupersUptoRow.holds Try.pinned (OpenSpec.upto layoutSupersSpec)

/-- 'bollardlaw03.LayoutDinodes', WHERE WHAT IT READS IS OF BULK AT MOST 1048576: true; the input reads as it did. -/
def layoutDinodesUptoRow : OpenClaim := { program := "ytdaeanodgnmknaa", sum := "2027e17a263c1c1352bd8b3740df5f322b831273b1f81145380e7b9eb7da1f6b", func := "bollard/bollardlaw03.LayoutDinodes", spec := "layoutDinodes", unfollowed := true, recurses := true, apart := false, narrowed := true }
def LayoutDinodesUptoSaid : Prop := layoutDinodesUptoRow.holds Try.pinned (OpenSpec.upto layoutDinodesSpec)

/-- 'bollardlaw03.LayoutTurned', WHERE WHAT IT READS IS OF BULK AT MOST 1048576: true; the input reads as it did. -/
def layoutTurnedUptoRow : OpenClaim := { program := "ytdaeanodgnmknaa", sum := "2027e17a263c1c1352bd8b3740df5f322b831273b1f81145380e7b9eb7da1f6b", func := "bollard/bollardlaw03.LayoutTurned", spec := "layoutTurned", unfollowed := true, recurses := true, apart := false, narrowed := true }
def LayoutTurnedUptoSaid : Prop := layoutTurnedUptoRow.holds Try.pinned (OpenSpec.upto layoutTurnedSpec)

/-- 'bollardlaw03.LayoutBack', WHERE WHAT IT READS IS OF BULK AT MOST 1048576: true; the input reads as it did. -/
def layoutBackUptoRow : OpenClaim := { program := "ytdaeanodgnmknaa", sum := "2027e17a263c1c1352bd8b3740df5f322b831273b1f81145380e7b9eb7da1f6b", func := "bollard/bollardlaw03.LayoutBack", spec := "layoutBack", unfollowed := true, recurses := true, apart := false, narrowed := true }
def LayoutBackUptoSaid : Prop := layoutBackUptoRow.holds Try.pinned (OpenSpec.upto layoutBackSpec)

end Rows
end Go.Proofs.Ytdaeanodgnmknaa
