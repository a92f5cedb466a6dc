/-
  DERIVED. GIVEN WITH THE SEED: THE CARDS: each row of YthgioldoeejjnaaDoorRows.lean that lists a variable, with what it lists TIED to the program's text (the seventh form; the later family's looks); each row that meets fmt, with fmt's text TOLD by the authors' own Lean function (tested against real Go, not proved from fmt's source: count such statements apart). THE CARD IS WHAT COUNTS. Prove the row's statement (the work); the ties are given (YthgioldoeejjnaaDoorTie.lean); close each card by the builder's one call (the guide's Derived/Test/ToyasCard.lean, 'card_holds'). Laid BY PROGRAM, IN A SANDBOX (cutbox-door.mjs). By AI agents, Wed Nov 11 2026. No macro, syntax, notation, axiom, sorry.
-/
import Derived.Test.YthgioldoeejjnaaDoorRows
import GoSem.ClaimSeven
namespace Go.Proofs.YthgioldoeejjnaaDoor
namespace Rows

/-- THE TIED CARD OF 'bollardlaw08.GaugeEdges'. -/
def gaugeEdgesCard : Claim7 := { stood := { row := gaugeEdgesRow, standIns := [], harness := (true, "a7001ec467e1183c9c481dadcc765393b9a9275adb8eaa18d9598e20f453437a"), looks := false }, kinds := [], alts := [], laidByText := true, laidKinds := [.data, .data, .data], laidTests := true, laidLooks := .later }
def GaugeEdgesCardSaid : Prop := Claim7.holds Tryd.pinned (.plain (OpenSpec.ofChange gaugeEdgesSpec)) gaugeEdgesCard

/-- THE TIED CARD OF 'bollardlaw08.GaugeOrders'. -/
def gaugeOrdersCard : Claim7 := { stood := { row := gaugeOrdersRow, standIns := [], harness := (true, "a7001ec467e1183c9c481dadcc765393b9a9275adb8eaa18d9598e20f453437a"), looks := false }, kinds := [], alts := [], laidByText := true, laidKinds := [.data, .data, .data], laidTests := true, laidLooks := .later }
def GaugeOrdersCardSaid : Prop := Claim7.holds Tryd.pinned (.plain (OpenSpec.ofChange gaugeOrdersSpec)) gaugeOrdersCard

/-- THE SECOND FORM's CARD OF 'bollardlaw08.GaugeEdges'. -/
def gaugeEdgesUptoCard : Claim7 := { stood := { row := gaugeEdgesUptoRow, standIns := [], harness := (true, "a7001ec467e1183c9c481dadcc765393b9a9275adb8eaa18d9598e20f453437a"), looks := false }, kinds := [], alts := [], laidByText := true, laidKinds := [.data, .data, .data], laidTests := true, laidLooks := .later }
def GaugeEdgesUptoCardSaid : Prop := Claim7.holds Tryd.pinned (.plain (OpenSpec.upto gaugeEdgesSpec)) gaugeEdgesUptoCard

/-- THE SECOND FORM's CARD OF 'bollardlaw08.GaugeOrders'. -/
def gaugeOrdersUptoCard : Claim7 := { stood := { row := gaugeOrdersUptoRow, standIns := [], harness := (true, "a7001ec467e1183c9c481dadcc765393b9a9275adb8eaa18d9598e20f453437a"), looks := false }, kinds := [], alts := [], laidByText := true, laidKinds := [.data, .data, .data], laidTests := true, laidLooks := .later }
def GaugeOrdersUptoCardSaid : Prop := Claim7.holds Tryd.pinned (.plain (OpenSpec.upto gaugeOrdersSpec)) gaugeOrdersUptoCard
end Rows
end Go.Proofs.YthgioldoeejjnaaDoor
