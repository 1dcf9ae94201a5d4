/-
  DERIVED. GIVEN WITH THE SEED: THE CARDS: each row of YtbnelgniekcjdaaGreatDoorRows.lean that lists a variable, with what it lists TIED to the program's text (the seventh form; the later family's looks); each row that meets fmt, with fmt's text TOLD by the authors' own Lean function (tested against real Go, not proved from fmt's source: count such statements apart). THE CARD IS WHAT COUNTS. Prove the row's statement (the work); the ties are given (YtbnelgniekcjdaaGreatDoorTie.lean); close each card by the builder's one call (the guide's Derived/Test/ToyasCard.lean, 'card_holds'). Laid BY PROGRAM, IN A SANDBOX (cutbox-door.mjs). By AI agents, Wed Nov 11 2026. No macro, syntax, notation, axiom, sorry.
-/
import Derived.Test.YtbnelgniekcjdaaGreatDoorRows
import GoSem.ClaimSeven
namespace Go.Proofs.YtbnelgniekcjdaaGreatDoor
namespace Rows

/-- THE TIED CARD OF 'capstanlaw06.ExprBinds'. -/
def exprBindsCard : Claim7 := { stood := { row := exprBindsRow, standIns := [], harness := (true, "130ef55bbd5bdc66cbe75456cd2e5cb8ce119f135b26a7621cd11c592241e447"), looks := true }, kinds := [], alts := [], laidByText := true, laidKinds := [.data, .data, .data, .data, .listed, .data, .data, .widerDeep, .pinned], laidTests := true, laidLooks := .later }
def ExprBindsCardSaid : Prop := Claim7.holds Tryz.pinned (.plain (OpenSpec.ofChange exprBindsSpec)) exprBindsCard

/-- THE TIED CARD OF 'capstanlaw06.ExprStops'. -/
def exprStopsCard : Claim7 := { stood := { row := exprStopsRow, standIns := [], harness := (true, "130ef55bbd5bdc66cbe75456cd2e5cb8ce119f135b26a7621cd11c592241e447"), looks := true }, kinds := [], alts := [], laidByText := true, laidKinds := [.data, .data, .data, .data, .listed, .data, .data, .widerDeep, .pinned], laidTests := true, laidLooks := .later }
def ExprStopsCardSaid : Prop := Claim7.holds Tryz.pinned (.plain (OpenSpec.ofChange exprStopsSpec)) exprStopsCard

/-- THE TIED CARD OF 'capstanlaw06.ExprBack'. -/
def exprBackCard : Claim7 := { stood := { row := exprBackRow, standIns := [], harness := (true, "130ef55bbd5bdc66cbe75456cd2e5cb8ce119f135b26a7621cd11c592241e447"), looks := true }, kinds := [], alts := [], laidByText := true, laidKinds := [.data, .data, .data, .data, .listed, .data, .data, .widerDeep, .pinned], laidTests := true, laidLooks := .later }
def ExprBackCardSaid : Prop := Claim7.holds Tryz.pinned (.plain (OpenSpec.ofChange exprBackSpec)) exprBackCard

/-- THE TIED CARD OF 'capstanlaw06.ExprNames'. -/
def exprNamesCard : Claim7 := { stood := { row := exprNamesRow, standIns := [], harness := (true, "130ef55bbd5bdc66cbe75456cd2e5cb8ce119f135b26a7621cd11c592241e447"), looks := true }, kinds := [], alts := [], laidByText := true, laidKinds := [.data, .data, .data, .data, .listed, .data, .data, .widerDeep, .pinned], laidTests := true, laidLooks := .later }
def ExprNamesCardSaid : Prop := Claim7.holds Tryz.pinned (.plain (OpenSpec.ofChange exprNamesSpec)) exprNamesCard

/-- THE SECOND FORM's CARD OF 'capstanlaw06.ExprBinds'. -/
def exprBindsUptoCard : Claim7 := { stood := { row := exprBindsUptoRow, standIns := [], harness := (true, "130ef55bbd5bdc66cbe75456cd2e5cb8ce119f135b26a7621cd11c592241e447"), looks := true }, kinds := [], alts := [], laidByText := true, laidKinds := [.data, .data, .data, .data, .listed, .data, .data, .widerDeep, .pinned], laidTests := true, laidLooks := .later }
def ExprBindsUptoCardSaid : Prop := Claim7.holds Tryz.pinned (.plain (OpenSpec.upto exprBindsSpec)) exprBindsUptoCard

/-- THE SECOND FORM's CARD OF 'capstanlaw06.ExprStops'. -/
def exprStopsUptoCard : Claim7 := { stood := { row := exprStopsUptoRow, standIns := [], harness := (true, "130ef55bbd5bdc66cbe75456cd2e5cb8ce119f135b26a7621cd11c592241e447"), looks := true }, kinds := [], alts := [], laidByText := true, laidKinds := [.data, .data, .data, .data, .listed, .data, .data, .widerDeep, .pinned], laidTests := true, laidLooks := .later }
def ExprStopsUptoCardSaid : Prop := Claim7.holds Tryz.pinned (.plain (OpenSpec.upto exprStopsSpec)) exprStopsUptoCard

/-- THE SECOND FORM's CARD OF 'capstanlaw06.ExprBack'. -/
def exprBackUptoCard : Claim7 := { stood := { row := exprBackUptoRow, standIns := [], harness := (true, "130ef55bbd5bdc66cbe75456cd2e5cb8ce119f135b26a7621cd11c592241e447"), looks := true }, kinds := [], alts := [], laidByText := true, laidKinds := [.data, .data, .data, .data, .listed, .data, .data, .widerDeep, .pinned], laidTests := true, laidLooks := .later }
def ExprBackUptoCardSaid : Prop := Claim7.holds Tryz.pinned (.plain (OpenSpec.upto exprBackSpec)) exprBackUptoCard

/-- THE SECOND FORM's CARD OF 'capstanlaw06.ExprNames'. -/
def exprNamesUptoCard : Claim7 := { stood := { row := exprNamesUptoRow, standIns := [], harness := (true, "130ef55bbd5bdc66cbe75456cd2e5cb8ce119f135b26a7621cd11c592241e447"), looks := true }, kinds := [], alts := [], laidByText := true, laidKinds := [.data, .data, .data, .data, .listed, .data, .data, .widerDeep, .pinned], laidTests := true, laidLooks := .later }
def ExprNamesUptoCardSaid : Prop := Claim7.holds Tryz.pinned (.plain (OpenSpec.upto exprNamesSpec)) exprNamesUptoCard
end Rows
end Go.Proofs.YtbnelgniekcjdaaGreatDoor
