/-
  No cell of these rows narrows 'for every input' (looked for: loops, veiled, ifaces, maps, wideKeys, modest, calm, conditions, laid).
  DERIVED. THE GIVEN ROWS OF THIS SEAT. 4 by the template 'for every input the law returns true; each argument reads behind the call as it read before'; 0 by the template 'total and deterministic' (their statements: YtnbkbmhiajfbpaaTotals.lean).
  GIVEN WITH THE SEED: the statements are not yours to turn. If you find one false, say at which input.
  Laid BY PROGRAM, IN A SANDBOX (cutbox-rows.mjs): the forced cells as the released guide's own fill.sh prints them over the translation 1ae6df973c42ff69… (all of the seat's roots in one cut). By AI agents, Wed Nov 11 2026. No macro, syntax, notation, axiom, sorry.
-/
import Derived.Test.YtnbkbmhiajfbpaaChecked
import GoSem.Claim
import GoSem.ClaimJoined
import GoSem.ClaimMapViews
import Derived.JoinedTies
import Derived.KernelRfl
namespace Go.Proofs.Ytnbkbmhiajfbpaa
/- THE CELL 'sum', in the pinned program and in every row, IS THE sha256 OF THE DUMP (.gsa) THAT YtnbkbmhiajfbpaaProg.lean LOADS. Nothing in Lean hashes anything: it is a label: what it is worth is what the hold of that sum in a sandbox is worth. -/
noncomputable def Try.pinned : Pinned := { name := "ytnbkbmhiajfbpaa", sum := "1ae6df973c42ff69a9b2871aae30eacb88906b348d0da82458793f55c141d800", checked := Try.checked }
namespace Rows
def none {H : Type} : Left H := { results := [], args := [] }

/-- 'bollardlaw12.DirsBlocks': WHATEVER THE INPUT: true; the input reads as it did. -/
def dirsBlocksSpec : ChangeSpec := { name := "dirsBlocks", fn := fun _ => fun
  | [d1, d2] => { results := [.lit (.bool true)], args := [d1, d2] }
  | _ => none }
def dirsBlocksRow : OpenClaim := { program := "ytnbkbmhiajfbpaa", sum := "1ae6df973c42ff69a9b2871aae30eacb88906b348d0da82458793f55c141d800", func := "bollard/bollardlaw12.DirsBlocks", spec := "dirsBlocks", unfollowed := true, recurses := true, apart := false }
def DirsBlocksSaid : Prop := dirsBlocksRow.holds Try.pinned (OpenSpec.ofChange dirsBlocksSpec)

/-- ITS FALSE NEIGHBOUR: 'it returns false'. Refute it at one input. -/
def dirsBlocksWrong : ChangeSpec := { name := "dirsBlocks", fn := fun _ => fun
  | [d1, d2] => { results := [.lit (.bool false)], args := [d1, d2] }
  | _ => none }
def DirsBlocksWrongFalsely : Prop := dirsBlocksRow.holds Try.pinned (OpenSpec.ofChange dirsBlocksWrong)

/-- 'bollardlaw12.DirsFinds': WHATEVER THE INPUT: true; the input reads as it did. -/
def dirsFindsSpec : ChangeSpec := { name := "dirsFinds", fn := fun _ => fun
  | [d1, d2] => { results := [.lit (.bool true)], args := [d1, d2] }
  | _ => none }
def dirsFindsRow : OpenClaim := { program := "ytnbkbmhiajfbpaa", sum := "1ae6df973c42ff69a9b2871aae30eacb88906b348d0da82458793f55c141d800", func := "bollard/bollardlaw12.DirsFinds", spec := "dirsFinds", unfollowed := true, recurses := true, apart := false }
def DirsFindsSaid : Prop := dirsFindsRow.holds Try.pinned (OpenSpec.ofChange dirsFindsSpec)

/-- ITS FALSE NEIGHBOUR: 'it returns false'. Refute it at one input. -/
def dirsFindsWrong : ChangeSpec := { name := "dirsFinds", fn := fun _ => fun
  | [d1, d2] => { results := [.lit (.bool false)], args := [d1, d2] }
  | _ => none }
def DirsFindsWrongFalsely : Prop := dirsFindsRow.holds Try.pinned (OpenSpec.ofChange dirsFindsWrong)

/-- 'bollardlaw12.DirsTurns': WHATEVER THE INPUT: true; the input reads as it did. -/
def dirsTurnsSpec : ChangeSpec := { name := "dirsTurns", fn := fun _ => fun
  | [d1, d2, d3] => { results := [.lit (.bool true)], args := [d1, d2, d3] }
  | _ => none }
def dirsTurnsRow : OpenClaim := { program := "ytnbkbmhiajfbpaa", sum := "1ae6df973c42ff69a9b2871aae30eacb88906b348d0da82458793f55c141d800", func := "bollard/bollardlaw12.DirsTurns", spec := "dirsTurns", unfollowed := true, recurses := true, apart := false }
def DirsTurnsSaid : Prop := dirsTurnsRow.holds Try.pinned (OpenSpec.ofChange dirsTurnsSpec)

/-- ITS FALSE NEIGHBOUR: 'it returns false'. Refute it at one input. -/
def dirsTurnsWrong : ChangeSpec := { name := "dirsTurns", fn := fun _ => fun
  | [d1, d2, d3] => { results := [.lit (.bool false)], args := [d1, d2, d3] }
  | _ => none }
def DirsTurnsWrongFalsely : Prop := dirsTurnsRow.holds Try.pinned (OpenSpec.ofChange dirsTurnsWrong)

/-- 'bollardlaw12.DirsBack': WHATEVER THE INPUT: true; the input reads as it did. -/
def dirsBackSpec : ChangeSpec := { name := "dirsBack", fn := fun _ => fun
  | [d1, d2] => { results := [.lit (.bool true)], args := [d1, d2] }
  | _ => none }
def dirsBackRow : OpenClaim := { program := "ytnbkbmhiajfbpaa", sum := "1ae6df973c42ff69a9b2871aae30eacb88906b348d0da82458793f55c141d800", func := "bollard/bollardlaw12.DirsBack", spec := "dirsBack", unfollowed := true, recurses := true, apart := false }
def DirsBackSaid : Prop := dirsBackRow.holds Try.pinned (OpenSpec.ofChange dirsBackSpec)

/-- ITS FALSE NEIGHBOUR: 'it returns false'. Refute it at one input. -/
def dirsBackWrong : ChangeSpec := { name := "dirsBack", fn := fun _ => fun
  | [d1, d2] => { results := [.lit (.bool false)], args := [d1, d2] }
  | _ => none }
def DirsBackWrongFalsely : Prop := dirsBackRow.holds Try.pinned (OpenSpec.ofChange dirsBackWrong)

/- THE SECOND FORM. 'bulk': how many values and letters a reading holds, each counted each time it is reached (what is shared counts as often as it is met; a slice's spare places count too). A statement '..UptoSaid' is the law's where the arguments, and the package variables that the reading takes, are together of bulk at most 1048576: NARROWER than '..Said'. Prove '..Said' where nothing that the law and all that it calls make is longer than what came in: it says more and counts as full. Else prove '..UptoSaid'. A law counts once. -/
mutual
def uptoBulk {H : Type} : DataW H → Nat
  | .lit (.string bytes) => bytes.length + 1
  | .lit _ => 1
  | .nil => 1
  | .ptr d => uptoBulk d + 1
  | .slice elems spare => uptoBulkAll elems + uptoBulkAll spare + 1
  | .agg parts => uptoBulkAll parts + 1
  | .iface _ d => uptoBulk d + 1
  | .map entries => uptoBulkEntries entries + 1
  | .held _ => 1
def uptoBulkAll {H : Type} : List (DataW H) → Nat
  | [] => 0
  | d :: r => uptoBulk d + uptoBulkAll r
def uptoBulkEntries {H : Type} : List (Lit × DataW H) → Nat
  | [] => 0
  | x :: r => uptoBulkEntry x + uptoBulkEntries r
def uptoBulkEntry {H : Type} : Lit × DataW H → Nat
  | (.string bytes, d) => bytes.length + uptoBulk d + 1
  | (_, d) => uptoBulk d + 1
 end
def uptoSmall : (H : Type) → List (DataW H) → Bool := fun _ ds => decide (uptoBulkAll ds ≤ 1048576)
def OpenSpec.upto (s : _root_.Go.ChangeSpec) : _root_.Go.OpenSpec := { _root_.Go.OpenSpec.ofChange s with cond := some uptoSmall }

/-- 'bollardlaw12.DirsBlocks', WHERE WHAT IT READS IS OF BULK AT MOST 1048576: true; the input reads as it did. -/
def dirsBlocksUptoRow : OpenClaim := { program := "ytnbkbmhiajfbpaa", sum := "1ae6df973c42ff69a9b2871aae30eacb88906b348d0da82458793f55c141d800", func := "bollard/bollardlaw12.DirsBlocks", spec := "dirsBlocks", unfollowed := true, recurses := true, apart := false, narrowed := true }
def DirsBlocksUptoSaid : Prop := dirsBlocksUptoRow.holds Try.pinned (OpenSpec.upto dirsBlocksSpec)

/-- 'bollardlaw12.DirsFinds', WHERE WHAT IT READS IS OF BULK AT MOST 1048576: true; the input reads as it did. -/
def dirsFindsUptoRow : OpenClaim := { program := "ytnbkbmhiajfbpaa", sum := "1ae6df973c42ff69a9b2871aae30eacb88906b348d0da82458793f55c141d800", func := "bollard/bollardlaw12.DirsFinds", spec := "dirsFinds", unfollowed := true, recurses := true, apart := false, narrowed := true }
def DirsFindsUptoSaid : Prop := dirsFindsUptoRow.holds Try.pinned (OpenSpec.upto dirsFindsSpec)

/-- 'bollardlaw12.DirsTurns', WHERE WHAT IT READS IS OF BULK AT MOST 1048576: true; the input reads as it did. -/
def dirsTurnsUptoRow : OpenClaim := { program := "ytnbkbmhiajfbpaa", sum := "1ae6df973c42ff69a9b2871aae30eacb88906b348d0da82458793f55c141d800", func := "bollard/bollardlaw12.DirsTurns", spec := "dirsTurns", unfollowed := true, recurses := true, apart := false, narrowed := true }
def DirsTurnsUptoSaid : Prop := dirsTurnsUptoRow.holds Try.pinned (OpenSpec.upto dirsTurnsSpec)

/-- 'bollardlaw12.DirsBack', WHERE WHAT IT READS IS OF BULK AT MOST 1048576: true; the input reads as it did. -/
def dirsBackUptoRow : OpenClaim := { program := "ytnbkbmhiajfbpaa", sum := "1ae6df973c42ff69a9b2871aae30eacb88906b348d0da82458793f55c141d800", func := "bollard/bollardlaw12.DirsBack", spec := "dirsBack", unfollowed := true, recurses := true, apart := false, narrowed := true }
def DirsBackUptoSaid : Prop := dirsBackUptoRow.holds Try.pinned (OpenSpec.upto dirsBackSpec)

end Rows
end Go.Proofs.Ytnbkbmhiajfbpaa
