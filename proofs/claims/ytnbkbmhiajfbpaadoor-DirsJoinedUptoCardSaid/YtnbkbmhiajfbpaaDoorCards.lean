/-
  DERIVED. GIVEN WITH THE SEED: THE CARDS: each row of YtnbkbmhiajfbpaaDoorRows.lean that lists a variable, with what it lists TIED to the program's text (the seventh form; the later family's looks); each row that meets fmt, with fmt's text TOLD by the authors' own Lean function (tested against real Go, not proved from fmt's source: count such statements apart). THE CARD IS WHAT COUNTS. Prove the row's statement (the work); the ties are given (YtnbkbmhiajfbpaaDoorTie.lean); close each card by the builder's one call (the guide's Derived/Test/ToyasCard.lean, 'card_holds'). Laid BY PROGRAM, IN A SANDBOX (cutbox-door.mjs). By AI agents, Wed Nov 11 2026. No macro, syntax, notation, axiom, sorry.
-/
import Derived.Test.YtnbkbmhiajfbpaaDoorRows
import GoSem.ClaimSeven
namespace Go.Proofs.YtnbkbmhiajfbpaaDoor
namespace Rows

/-- THE TIED CARD OF 'bollardlaw12.DirsPaths'. -/
def dirsPathsCard : Claim7 := { stood := { row := dirsPathsRow, standIns := [], harness := (true, "9c6a3d7fbb0a8aa5a594457ee056020f5d8bca29b8ccb51e9ea4de078994f94b"), looks := false }, kinds := [], alts := [], laidByText := true, laidKinds := [.data, .pinned], laidTests := true, laidLooks := .later }
def DirsPathsCardSaid : Prop := Claim7.holds Tryd.pinned (.plain (OpenSpec.ofChange dirsPathsSpec)) dirsPathsCard

/-- THE TIED CARD OF 'bollardlaw12.DirsJoined'. -/
def dirsJoinedCard : Claim7 := { stood := { row := dirsJoinedRow, standIns := [], harness := (true, "9c6a3d7fbb0a8aa5a594457ee056020f5d8bca29b8ccb51e9ea4de078994f94b"), looks := false }, kinds := [], alts := [], laidByText := true, laidKinds := [.data, .pinned], laidTests := true, laidLooks := .later }
def DirsJoinedCardSaid : Prop := Claim7.holds Tryd.pinned (.plain (OpenSpec.ofChange dirsJoinedSpec)) dirsJoinedCard

/-- THE SECOND FORM's CARD OF 'bollardlaw12.DirsPaths'. -/
def dirsPathsUptoCard : Claim7 := { stood := { row := dirsPathsUptoRow, standIns := [], harness := (true, "9c6a3d7fbb0a8aa5a594457ee056020f5d8bca29b8ccb51e9ea4de078994f94b"), looks := false }, kinds := [], alts := [], laidByText := true, laidKinds := [.data, .pinned], laidTests := true, laidLooks := .later }
def DirsPathsUptoCardSaid : Prop := Claim7.holds Tryd.pinned (.plain (OpenSpec.upto dirsPathsSpec)) dirsPathsUptoCard

/-- THE SECOND FORM's CARD OF 'bollardlaw12.DirsJoined'. -/
def dirsJoinedUptoCard : Claim7 := { stood := { row := dirsJoinedUptoRow, standIns := [], harness := (true, "9c6a3d7fbb0a8aa5a594457ee056020f5d8bca29b8ccb51e9ea4de078994f94b"), looks := false }, kinds := [], alts := [], laidByText := true, laidKinds := [.data, .pinned], laidTests := true, laidLooks := .later }
def DirsJoinedUptoCardSaid : Prop := Claim7.holds Tryd.pinned (.plain (OpenSpec.upto dirsJoinedSpec)) dirsJoinedUptoCard
end Rows
end Go.Proofs.YtnbkbmhiajfbpaaDoor
