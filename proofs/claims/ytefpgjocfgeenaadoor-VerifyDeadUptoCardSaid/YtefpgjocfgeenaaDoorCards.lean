/-
  DERIVED. GIVEN WITH THE SEED: THE CARDS: each row of YtefpgjocfgeenaaDoorRows.lean that lists a variable, with what it lists TIED to the program's text (the seventh form; the later family's looks); each row that meets fmt, with fmt's text TOLD by the authors' own Lean function (tested against real Go, not proved from fmt's source: count such statements apart). THE CARD IS WHAT COUNTS. Prove the row's statement (the work); the ties are given (YtefpgjocfgeenaaDoorTie.lean); close each card by the builder's one call (the guide's Derived/Test/ToyasCard.lean, 'card_holds'). Laid BY PROGRAM, IN A SANDBOX (cutbox-door.mjs). By AI agents, Wed Nov 11 2026. No macro, syntax, notation, axiom, sorry.
-/
import Derived.Test.YtefpgjocfgeenaaDoorRows
import GoSem.ClaimSeven
namespace Go.Proofs.YtefpgjocfgeenaaDoor
namespace Rows

/-- THE TIED CARD OF 'capstanlaw15.VerifyPushes'. -/
def verifyPushesCard : Claim7 := { stood := { row := verifyPushesRow, standIns := [], harness := (true, "03971629d32b4c465ecafa82889687ec6f9ffc6253b4bc84195c7edf16dde41d"), looks := false }, kinds := [], alts := [], laidByText := true, laidKinds := [.data, .pinned], laidTests := true, laidLooks := .later }
def VerifyPushesCardSaid : Prop := Claim7.holds Tryd.pinned (.plain (OpenSpec.ofChange verifyPushesSpec)) verifyPushesCard

/-- THE TIED CARD OF 'capstanlaw15.VerifyDead'. -/
def verifyDeadCard : Claim7 := { stood := { row := verifyDeadRow, standIns := [], harness := (true, "03971629d32b4c465ecafa82889687ec6f9ffc6253b4bc84195c7edf16dde41d"), looks := false }, kinds := [], alts := [], laidByText := true, laidKinds := [.data, .pinned], laidTests := true, laidLooks := .later }
def VerifyDeadCardSaid : Prop := Claim7.holds Tryd.pinned (.plain (OpenSpec.ofChange verifyDeadSpec)) verifyDeadCard

/-- THE SECOND FORM's CARD OF 'capstanlaw15.VerifyPushes'. -/
def verifyPushesUptoCard : Claim7 := { stood := { row := verifyPushesUptoRow, standIns := [], harness := (true, "03971629d32b4c465ecafa82889687ec6f9ffc6253b4bc84195c7edf16dde41d"), looks := false }, kinds := [], alts := [], laidByText := true, laidKinds := [.data, .pinned], laidTests := true, laidLooks := .later }
def VerifyPushesUptoCardSaid : Prop := Claim7.holds Tryd.pinned (.plain (OpenSpec.upto verifyPushesSpec)) verifyPushesUptoCard

/-- THE SECOND FORM's CARD OF 'capstanlaw15.VerifyDead'. -/
def verifyDeadUptoCard : Claim7 := { stood := { row := verifyDeadUptoRow, standIns := [], harness := (true, "03971629d32b4c465ecafa82889687ec6f9ffc6253b4bc84195c7edf16dde41d"), looks := false }, kinds := [], alts := [], laidByText := true, laidKinds := [.data, .pinned], laidTests := true, laidLooks := .later }
def VerifyDeadUptoCardSaid : Prop := Claim7.holds Tryd.pinned (.plain (OpenSpec.upto verifyDeadSpec)) verifyDeadUptoCard
end Rows
end Go.Proofs.YtefpgjocfgeenaaDoor
