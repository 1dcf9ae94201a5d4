/-
  DERIVED. GIVEN WITH THE SEED: THE CARDS: each row of YtenjkplijblcoaaGreatDoorRows.lean that lists a variable, with what it lists TIED to the program's text (the seventh form; the later family's looks); each row that meets fmt, with fmt's text TOLD by the authors' own Lean function (tested against real Go, not proved from fmt's source: count such statements apart). THE CARD IS WHAT COUNTS. Prove the row's statement (the work); the ties are given (YtenjkplijblcoaaGreatDoorTie.lean); close each card by the builder's one call (the guide's Derived/Test/ToyasCard.lean, 'card_holds'). Laid BY PROGRAM, IN A SANDBOX (cutbox-door.mjs). By AI agents, Wed Nov 11 2026. No macro, syntax, notation, axiom, sorry.
-/
import Derived.Test.YtenjkplijblcoaaGreatDoorRows
import GoSem.ClaimSeven
namespace Go.Proofs.YtenjkplijblcoaaGreatDoor
namespace Rows

/-- THE TIED CARD OF 'capstanlaw10.FoldResolves'. -/
def foldResolvesCard : Claim7 := { stood := { row := foldResolvesRow, standIns := [], harness := (true, "03121249e2e15d3bc37250182a9649593313cd70d95f5d2f6885bd0a0ca1361d"), looks := false }, kinds := [], alts := [], laidByText := true, laidKinds := [.data, .pinned], laidTests := true, laidLooks := .later }
def FoldResolvesCardSaid : Prop := Claim7.holds Tryz.pinned (.plain (OpenSpec.ofChange foldResolvesSpec)) foldResolvesCard

/-- THE TIED CARD OF 'capstanlaw10.FoldValues'. -/
def foldValuesCard : Claim7 := { stood := { row := foldValuesRow, standIns := [], harness := (true, "03121249e2e15d3bc37250182a9649593313cd70d95f5d2f6885bd0a0ca1361d"), looks := false }, kinds := [], alts := [], laidByText := true, laidKinds := [.data, .pinned], laidTests := true, laidLooks := .later }
def FoldValuesCardSaid : Prop := Claim7.holds Tryz.pinned (.plain (OpenSpec.ofChange foldValuesSpec)) foldValuesCard

/-- THE TIED CARD OF 'capstanlaw10.FoldStays'. -/
def foldStaysCard : Claim7 := { stood := { row := foldStaysRow, standIns := [], harness := (true, "03121249e2e15d3bc37250182a9649593313cd70d95f5d2f6885bd0a0ca1361d"), looks := false }, kinds := [], alts := [], laidByText := true, laidKinds := [.data, .pinned], laidTests := true, laidLooks := .later }
def FoldStaysCardSaid : Prop := Claim7.holds Tryz.pinned (.plain (OpenSpec.ofChange foldStaysSpec)) foldStaysCard

/-- THE TIED CARD OF 'capstanlaw10.FoldOne'. -/
def foldOneCard : Claim7 := { stood := { row := foldOneRow, standIns := [], harness := (true, "03121249e2e15d3bc37250182a9649593313cd70d95f5d2f6885bd0a0ca1361d"), looks := false }, kinds := [], alts := [], laidByText := true, laidKinds := [.data, .pinned], laidTests := true, laidLooks := .later }
def FoldOneCardSaid : Prop := Claim7.holds Tryz.pinned (.plain (OpenSpec.ofChange foldOneSpec)) foldOneCard

/-- THE TIED CARD OF 'capstanlaw10.FoldNames'. -/
def foldNamesCard : Claim7 := { stood := { row := foldNamesRow, standIns := [], harness := (true, "03121249e2e15d3bc37250182a9649593313cd70d95f5d2f6885bd0a0ca1361d"), looks := false }, kinds := [], alts := [], laidByText := true, laidKinds := [.data, .pinned], laidTests := true, laidLooks := .later }
def FoldNamesCardSaid : Prop := Claim7.holds Tryz.pinned (.plain (OpenSpec.ofChange foldNamesSpec)) foldNamesCard

/-- THE SECOND FORM's CARD OF 'capstanlaw10.FoldResolves'. -/
def foldResolvesUptoCard : Claim7 := { stood := { row := foldResolvesUptoRow, standIns := [], harness := (true, "03121249e2e15d3bc37250182a9649593313cd70d95f5d2f6885bd0a0ca1361d"), looks := false }, kinds := [], alts := [], laidByText := true, laidKinds := [.data, .pinned], laidTests := true, laidLooks := .later }
def FoldResolvesUptoCardSaid : Prop := Claim7.holds Tryz.pinned (.plain (OpenSpec.upto foldResolvesSpec)) foldResolvesUptoCard

/-- THE SECOND FORM's CARD OF 'capstanlaw10.FoldValues'. -/
def foldValuesUptoCard : Claim7 := { stood := { row := foldValuesUptoRow, standIns := [], harness := (true, "03121249e2e15d3bc37250182a9649593313cd70d95f5d2f6885bd0a0ca1361d"), looks := false }, kinds := [], alts := [], laidByText := true, laidKinds := [.data, .pinned], laidTests := true, laidLooks := .later }
def FoldValuesUptoCardSaid : Prop := Claim7.holds Tryz.pinned (.plain (OpenSpec.upto foldValuesSpec)) foldValuesUptoCard

/-- THE SECOND FORM's CARD OF 'capstanlaw10.FoldStays'. -/
def foldStaysUptoCard : Claim7 := { stood := { row := foldStaysUptoRow, standIns := [], harness := (true, "03121249e2e15d3bc37250182a9649593313cd70d95f5d2f6885bd0a0ca1361d"), looks := false }, kinds := [], alts := [], laidByText := true, laidKinds := [.data, .pinned], laidTests := true, laidLooks := .later }
def FoldStaysUptoCardSaid : Prop := Claim7.holds Tryz.pinned (.plain (OpenSpec.upto foldStaysSpec)) foldStaysUptoCard

/-- THE SECOND FORM's CARD OF 'capstanlaw10.FoldOne'. -/
def foldOneUptoCard : Claim7 := { stood := { row := foldOneUptoRow, standIns := [], harness := (true, "03121249e2e15d3bc37250182a9649593313cd70d95f5d2f6885bd0a0ca1361d"), looks := false }, kinds := [], alts := [], laidByText := true, laidKinds := [.data, .pinned], laidTests := true, laidLooks := .later }
def FoldOneUptoCardSaid : Prop := Claim7.holds Tryz.pinned (.plain (OpenSpec.upto foldOneSpec)) foldOneUptoCard

/-- THE SECOND FORM's CARD OF 'capstanlaw10.FoldNames'. -/
def foldNamesUptoCard : Claim7 := { stood := { row := foldNamesUptoRow, standIns := [], harness := (true, "03121249e2e15d3bc37250182a9649593313cd70d95f5d2f6885bd0a0ca1361d"), looks := false }, kinds := [], alts := [], laidByText := true, laidKinds := [.data, .pinned], laidTests := true, laidLooks := .later }
def FoldNamesUptoCardSaid : Prop := Claim7.holds Tryz.pinned (.plain (OpenSpec.upto foldNamesSpec)) foldNamesUptoCard
end Rows
end Go.Proofs.YtenjkplijblcoaaGreatDoor
