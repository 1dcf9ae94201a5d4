/-
  DERIVED. GIVEN WITH THE SEED: THE CARDS: each row of YtefpgjocfgeenaaGreatDoorRows.lean that lists a variable, with what it lists TIED to the program's text (the seventh form; the later family's looks); each row that meets fmt, with fmt's text TOLD by the authors' own Lean function (tested against real Go, not proved from fmt's source: count such statements apart). THE CARD IS WHAT COUNTS. Prove the row's statement (the work); the ties are given (YtefpgjocfgeenaaGreatDoorTie.lean); close each card by the builder's one call (the guide's Derived/Test/ToyasCard.lean, 'card_holds'). Laid BY PROGRAM, IN A SANDBOX (cutbox-door.mjs). By AI agents, Wed Nov 11 2026. No macro, syntax, notation, axiom, sorry.
-/
import Derived.Test.YtefpgjocfgeenaaGreatDoorRows
import GoSem.ClaimSeven
namespace Go.Proofs.YtefpgjocfgeenaaGreatDoor
namespace Rows

/-- THE TIED CARD OF 'capstanlaw15.VerifyChecks'. -/
def verifyChecksCard : Claim7 := { stood := { row := verifyChecksRow, standIns := [], harness := (true, "f90b226613f2c0bdeb8ba5420aed1f6226642885f9579c014a60da58164ce402"), looks := false }, kinds := [], alts := [], laidByText := true, laidKinds := [.data, .pinned], laidTests := true, laidLooks := .later }
def VerifyChecksCardSaid : Prop := Claim7.holds Tryz.pinned (.plain (OpenSpec.ofChange verifyChecksSpec)) verifyChecksCard

/-- THE TIED CARD OF 'capstanlaw10.FoldResolves'. -/
def foldResolvesCard : Claim7 := { stood := { row := foldResolvesRow, standIns := [], harness := (true, "f90b226613f2c0bdeb8ba5420aed1f6226642885f9579c014a60da58164ce402"), looks := false }, kinds := [], alts := [], laidByText := true, laidKinds := [.data, .pinned], laidTests := true, laidLooks := .later }
def FoldResolvesCardSaid : Prop := Claim7.holds Tryz.pinned (.plain (OpenSpec.ofChange foldResolvesSpec)) foldResolvesCard

/-- THE TIED CARD OF 'capstanlaw10.FoldValues'. -/
def foldValuesCard : Claim7 := { stood := { row := foldValuesRow, standIns := [], harness := (true, "f90b226613f2c0bdeb8ba5420aed1f6226642885f9579c014a60da58164ce402"), looks := false }, kinds := [], alts := [], laidByText := true, laidKinds := [.data, .pinned], laidTests := true, laidLooks := .later }
def FoldValuesCardSaid : Prop := Claim7.holds Tryz.pinned (.plain (OpenSpec.ofChange foldValuesSpec)) foldValuesCard

/-- THE TIED CARD OF 'capstanlaw10.FoldStays'. -/
def foldStaysCard : Claim7 := { stood := { row := foldStaysRow, standIns := [], harness := (true, "f90b226613f2c0bdeb8ba5420aed1f6226642885f9579c014a60da58164ce402"), looks := false }, kinds := [], alts := [], laidByText := true, laidKinds := [.data, .pinned], laidTests := true, laidLooks := .later }
def FoldStaysCardSaid : Prop := Claim7.holds Tryz.pinned (.plain (OpenSpec.ofChange foldStaysSpec)) foldStaysCard

/-- THE TIED CARD OF 'capstanlaw10.FoldOne'. -/
def foldOneCard : Claim7 := { stood := { row := foldOneRow, standIns := [], harness := (true, "f90b226613f2c0bdeb8ba5420aed1f6226642885f9579c014a60da58164ce402"), looks := false }, kinds := [], alts := [], laidByText := true, laidKinds := [.data, .pinned], laidTests := true, laidLooks := .later }
def FoldOneCardSaid : Prop := Claim7.holds Tryz.pinned (.plain (OpenSpec.ofChange foldOneSpec)) foldOneCard

/-- THE TIED CARD OF 'capstanlaw10.FoldNames'. -/
def foldNamesCard : Claim7 := { stood := { row := foldNamesRow, standIns := [], harness := (true, "f90b226613f2c0bdeb8ba5420aed1f6226642885f9579c014a60da58164ce402"), looks := false }, kinds := [], alts := [], laidByText := true, laidKinds := [.data, .pinned], laidTests := true, laidLooks := .later }
def FoldNamesCardSaid : Prop := Claim7.holds Tryz.pinned (.plain (OpenSpec.ofChange foldNamesSpec)) foldNamesCard

/-- THE TIED CARD OF 'capstanlaw15.VerifyMade'. -/
def verifyMadeCard : Claim7 := { stood := { row := verifyMadeRow, standIns := [], harness := (true, "f90b226613f2c0bdeb8ba5420aed1f6226642885f9579c014a60da58164ce402"), looks := false }, kinds := [], alts := [], laidByText := true, laidKinds := [.data, .pinned], laidTests := true, laidLooks := .later }
def VerifyMadeCardSaid : Prop := Claim7.holds Tryz.pinned (.plain (OpenSpec.ofChange verifyMadeSpec)) verifyMadeCard

/-- THE SECOND FORM's CARD OF 'capstanlaw15.VerifyChecks'. -/
def verifyChecksUptoCard : Claim7 := { stood := { row := verifyChecksUptoRow, standIns := [], harness := (true, "f90b226613f2c0bdeb8ba5420aed1f6226642885f9579c014a60da58164ce402"), looks := false }, kinds := [], alts := [], laidByText := true, laidKinds := [.data, .pinned], laidTests := true, laidLooks := .later }
def VerifyChecksUptoCardSaid : Prop := Claim7.holds Tryz.pinned (.plain (OpenSpec.upto verifyChecksSpec)) verifyChecksUptoCard

/-- THE SECOND FORM's CARD OF 'capstanlaw10.FoldResolves'. -/
def foldResolvesUptoCard : Claim7 := { stood := { row := foldResolvesUptoRow, standIns := [], harness := (true, "f90b226613f2c0bdeb8ba5420aed1f6226642885f9579c014a60da58164ce402"), looks := false }, kinds := [], alts := [], laidByText := true, laidKinds := [.data, .pinned], laidTests := true, laidLooks := .later }
def FoldResolvesUptoCardSaid : Prop := Claim7.holds Tryz.pinned (.plain (OpenSpec.upto foldResolvesSpec)) foldResolvesUptoCard

/-- THE SECOND FORM's CARD OF 'capstanlaw10.FoldValues'. -/
def foldValuesUptoCard : Claim7 := { stood := { row := foldValuesUptoRow, standIns := [], harness := (true, "f90b226613f2c0bdeb8ba5420aed1f6226642885f9579c014a60da58164ce402"), looks := false }, kinds := [], alts := [], laidByText := true, laidKinds := [.data, .pinned], laidTests := true, laidLooks := .later }
def FoldValuesUptoCardSaid : Prop := Claim7.holds Tryz.pinned (.plain (OpenSpec.upto foldValuesSpec)) foldValuesUptoCard

/-- THE SECOND FORM's CARD OF 'capstanlaw10.FoldStays'. -/
def foldStaysUptoCard : Claim7 := { stood := { row := foldStaysUptoRow, standIns := [], harness := (true, "f90b226613f2c0bdeb8ba5420aed1f6226642885f9579c014a60da58164ce402"), looks := false }, kinds := [], alts := [], laidByText := true, laidKinds := [.data, .pinned], laidTests := true, laidLooks := .later }
def FoldStaysUptoCardSaid : Prop := Claim7.holds Tryz.pinned (.plain (OpenSpec.upto foldStaysSpec)) foldStaysUptoCard

/-- THE SECOND FORM's CARD OF 'capstanlaw10.FoldOne'. -/
def foldOneUptoCard : Claim7 := { stood := { row := foldOneUptoRow, standIns := [], harness := (true, "f90b226613f2c0bdeb8ba5420aed1f6226642885f9579c014a60da58164ce402"), looks := false }, kinds := [], alts := [], laidByText := true, laidKinds := [.data, .pinned], laidTests := true, laidLooks := .later }
def FoldOneUptoCardSaid : Prop := Claim7.holds Tryz.pinned (.plain (OpenSpec.upto foldOneSpec)) foldOneUptoCard

/-- THE SECOND FORM's CARD OF 'capstanlaw10.FoldNames'. -/
def foldNamesUptoCard : Claim7 := { stood := { row := foldNamesUptoRow, standIns := [], harness := (true, "f90b226613f2c0bdeb8ba5420aed1f6226642885f9579c014a60da58164ce402"), looks := false }, kinds := [], alts := [], laidByText := true, laidKinds := [.data, .pinned], laidTests := true, laidLooks := .later }
def FoldNamesUptoCardSaid : Prop := Claim7.holds Tryz.pinned (.plain (OpenSpec.upto foldNamesSpec)) foldNamesUptoCard

/-- THE SECOND FORM's CARD OF 'capstanlaw15.VerifyMade'. -/
def verifyMadeUptoCard : Claim7 := { stood := { row := verifyMadeUptoRow, standIns := [], harness := (true, "f90b226613f2c0bdeb8ba5420aed1f6226642885f9579c014a60da58164ce402"), looks := false }, kinds := [], alts := [], laidByText := true, laidKinds := [.data, .pinned], laidTests := true, laidLooks := .later }
def VerifyMadeUptoCardSaid : Prop := Claim7.holds Tryz.pinned (.plain (OpenSpec.upto verifyMadeSpec)) verifyMadeUptoCard
end Rows
end Go.Proofs.YtefpgjocfgeenaaGreatDoor
