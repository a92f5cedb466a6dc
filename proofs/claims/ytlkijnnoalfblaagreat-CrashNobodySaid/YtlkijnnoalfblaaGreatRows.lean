/-
  No cell of these rows narrows 'for every input' (looked for: loops, veiled, ifaces, maps, wideKeys, modest, calm, conditions, laid).
  DERIVED. THE GIVEN ROWS OF THIS SEAT. 3 by the template 'for every input the law returns true; each argument reads behind the call as it read before'; 0 by the template 'total and deterministic' (their statements: YtlkijnnoalfblaaGreatTotals.lean).
  GIVEN WITH THE SEED: the statements are not yours to turn. If you find one false, say at which input.
  Laid BY PROGRAM, IN A SANDBOX (cutbox-rows.mjs): the forced cells as the released guide's own fill.sh prints them over the translation bfea8128c1645aec… (all of the seat's roots in one cut). By AI agents, Wed Nov 11 2026. No macro, syntax, notation, axiom, sorry.
-/
import Derived.Test.YtlkijnnoalfblaaGreatChecked
import GoSem.Claim
import GoSem.ClaimJoined
import GoSem.ClaimMapViews
import Derived.JoinedTies
import Derived.KernelRfl
namespace Go.Proofs.YtlkijnnoalfblaaGreat
/- THE CELL 'sum', in the pinned program and in every row, IS THE sha256 OF THE DUMP (.gsa) THAT YtlkijnnoalfblaaGreatProg.lean LOADS. Nothing in Lean hashes anything: it is a label: what it is worth is what the hold of that sum in a sandbox is worth. -/
noncomputable def Tryz.pinned : Pinned := { name := "ytlkijnnoalfblaagreat", sum := "bfea8128c1645aec7a6771ab569c30f743528cf5d1a2a3501830d1fd975dc026", checked := Tryz.checked }
namespace Rows
def none {H : Type} : Left H := { results := [], args := [] }

/-- 'bollardlaw24.CrashNobody': WHATEVER THE INPUT: true; the input reads as it did. -/
def crashNobodySpec : ChangeSpec := { name := "crashNobody", fn := fun _ => fun
  | [d1, d2] => { results := [.lit (.bool true)], args := [d1, d2] }
  | _ => none }
def crashNobodyRow : OpenClaim := { program := "ytlkijnnoalfblaagreat", sum := "bfea8128c1645aec7a6771ab569c30f743528cf5d1a2a3501830d1fd975dc026", func := "bollard/bollardlaw24.CrashNobody", spec := "crashNobody", unfollowed := true, recurses := true, plainKeys := false, apart := false }
def CrashNobodySaid : Prop := crashNobodyRow.holds Tryz.pinned (OpenSpec.ofChange crashNobodySpec)

/-- ITS FALSE NEIGHBOUR: 'it returns false'. Refute it at one input. -/
def crashNobodyWrong : ChangeSpec := { name := "crashNobody", fn := fun _ => fun
  | [d1, d2] => { results := [.lit (.bool false)], args := [d1, d2] }
  | _ => none }
def CrashNobodyWrongFalsely : Prop := crashNobodyRow.holds Tryz.pinned (OpenSpec.ofChange crashNobodyWrong)

/-- 'bollardlaw24.CrashWorst': WHATEVER THE INPUT: true; the input reads as it did. -/
def crashWorstSpec : ChangeSpec := { name := "crashWorst", fn := fun _ => fun
  | [d1, d2] => { results := [.lit (.bool true)], args := [d1, d2] }
  | _ => none }
def crashWorstRow : OpenClaim := { program := "ytlkijnnoalfblaagreat", sum := "bfea8128c1645aec7a6771ab569c30f743528cf5d1a2a3501830d1fd975dc026", func := "bollard/bollardlaw24.CrashWorst", spec := "crashWorst", unfollowed := true, recurses := true, plainKeys := false, apart := false }
def CrashWorstSaid : Prop := crashWorstRow.holds Tryz.pinned (OpenSpec.ofChange crashWorstSpec)

/-- ITS FALSE NEIGHBOUR: 'it returns false'. Refute it at one input. -/
def crashWorstWrong : ChangeSpec := { name := "crashWorst", fn := fun _ => fun
  | [d1, d2] => { results := [.lit (.bool false)], args := [d1, d2] }
  | _ => none }
def CrashWorstWrongFalsely : Prop := crashWorstRow.holds Tryz.pinned (OpenSpec.ofChange crashWorstWrong)

/-- 'bollardlaw24.CrashTells': WHATEVER THE INPUT: true; the input reads as it did. -/
def crashTellsSpec : ChangeSpec := { name := "crashTells", fn := fun _ => fun
  | [d1, d2, d3, d4, d5] => { results := [.lit (.bool true)], args := [d1, d2, d3, d4, d5] }
  | _ => none }
def crashTellsRow : OpenClaim := { program := "ytlkijnnoalfblaagreat", sum := "bfea8128c1645aec7a6771ab569c30f743528cf5d1a2a3501830d1fd975dc026", func := "bollard/bollardlaw24.CrashTells", spec := "crashTells", unfollowed := true, recurses := true, plainKeys := false, apart := false }
def CrashTellsSaid : Prop := crashTellsRow.holds Tryz.pinned (OpenSpec.ofChange crashTellsSpec)

/-- ITS FALSE NEIGHBOUR: 'it returns false'. Refute it at one input. -/
def crashTellsWrong : ChangeSpec := { name := "crashTells", fn := fun _ => fun
  | [d1, d2, d3, d4, d5] => { results := [.lit (.bool false)], args := [d1, d2, d3, d4, d5] }
  | _ => none }
def CrashTellsWrongFalsely : Prop := crashTellsRow.holds Tryz.pinned (OpenSpec.ofChange crashTellsWrong)

/- THE SECOND FORM. 'bulk': how many values and letters a reading holds, each counted each time it is reached (what is shared counts as often as it is met; a slice's spare places count too). A statement '..UptoSaid' is the law's where the arguments, and the package variables that the reading takes, are together of bulk at most 1048576: NARROWER than '..Said'. Prove '..Said' where nothing that the law and all that it calls make is longer than what came in: it says more and counts as full. Else prove '..UptoSaid'. A law counts once. -/
mutual
def uptoBulk {H : Type} : DataW H → Nat
  | .lit (.string bytes) => bytes.length + 1
  | .lit _ => 1
  | .nil => 1
  | .ptr d => uptoBulk d + 1
  | .slice elems spare => uptoBulkAll elems + uptoBulkAll spare + 1
  | .agg parts => uptoBulkAll parts + 1
  | .iface _ d => uptoBulk d + 1
  | .map entries => uptoBulkEntries entries + 1
  | .held _ => 1
def uptoBulkAll {H : Type} : List (DataW H) → Nat
  | [] => 0
  | d :: r => uptoBulk d + uptoBulkAll r
def uptoBulkEntries {H : Type} : List (Lit × DataW H) → Nat
  | [] => 0
  | x :: r => uptoBulkEntry x + uptoBulkEntries r
def uptoBulkEntry {H : Type} : Lit × DataW H → Nat
  | (.string bytes, d) => bytes.length + uptoBulk d + 1
  | (_, d) => uptoBulk d + 1
 end
def uptoSmall : (H : Type) → List (DataW H) → Bool := fun _ ds => decide (uptoBulkAll ds ≤ 1048576)
def OpenSpec.upto (s : _root_.Go.ChangeSpec) : _root_.Go.OpenSpec := { _root_.Go.OpenSpec.ofChange s with cond := some uptoSmall }

/-- 'bollardlaw24.CrashNobody', WHERE WHAT IT READS IS OF BULK AT MOST 1048576: true; the input reads as it did. -/
def crashNobodyUptoRow : OpenClaim := { program := "ytlkijnnoalfblaagreat", sum := "bfea8128c1645aec7a6771ab569c30f743528cf5d1a2a3501830d1fd975dc026", func := "bollard/bollardlaw24.CrashNobody", spec := "crashNobody", unfollowed := true, recurses := true, plainKeys := false, apart := false, narrowed := true }
def CrashNobodyUptoSaid : Prop := crashNobodyUptoRow.holds Tryz.pinned (OpenSpec.upto crashNobodySpec)

/-- 'bollardlaw24.CrashWorst', WHERE WHAT IT READS IS OF BULK AT MOST 1048576: true; the input reads as it did. -/
def crashWorstUptoRow : OpenClaim := { program := "ytlkijnnoalfblaagreat", sum := "bfea8128c1645aec7a6771ab569c30f743528cf5d1a2a3501830d1fd975dc026", func := "bollard/bollardlaw24.CrashWorst", spec := "crashWorst", unfollowed := true, recurses := true, plainKeys := false, apart := false, narrowed := true }
def CrashWorstUptoSaid : Prop := crashWorstUptoRow.holds Tryz.pinned (OpenSpec.upto crashWorstSpec)

/-- 'bollardlaw24.CrashTells', WHERE WHAT IT READS IS OF BULK AT MOST 1048576: true; the input reads as it did. -/
def crashTellsUptoRow : OpenClaim := { program := "ytlkijnnoalfblaagreat", sum := "bfea8128c1645aec7a6771ab569c30f743528cf5d1a2a3501830d1fd975dc026", func := "bollard/bollardlaw24.CrashTells", spec := "crashTells", unfollowed := true, recurses := true, plainKeys := false, apart := false, narrowed := true }
def CrashTellsUptoSaid : Prop := crashTellsUptoRow.holds Tryz.pinned (OpenSpec.upto crashTellsSpec)

end Rows
end Go.Proofs.YtlkijnnoalfblaaGreat
