/-
  DERIVED. GIVEN WITH THE SEED: THE CARDS: each row of YtfldhmeenbdkiaaGreatDoorRows.lean that lists a variable, with what it lists TIED to the program's text (the seventh form; the later family's looks); each row that meets fmt, with fmt's text TOLD by the authors' own Lean function (tested against real Go, not proved from fmt's source: count such statements apart). THE CARD IS WHAT COUNTS. Prove the row's statement (the work); the ties are given (YtfldhmeenbdkiaaGreatDoorTie.lean); close each card by the builder's one call (the guide's Derived/Test/ToyasCard.lean, 'card_holds'). Laid BY PROGRAM, IN A SANDBOX (cutbox-door.mjs). By AI agents, Wed Nov 11 2026. No macro, syntax, notation, axiom, sorry.
-/
import Derived.Test.YtfldhmeenbdkiaaGreatDoorRows
import GoSem.ClaimSeven
namespace Go.Proofs.YtfldhmeenbdkiaaGreatDoor
namespace Rows

/-- THE TIED CARD OF 'binnaclelaw08.VolMounts'. -/
def volMountsCard : Claim7 := { stood := { row := volMountsRow, standIns := [], harness := (true, "2d7f0b0bcac15a6f0c1534541dec8c453ee7848dd1427df031b91d28449f4f2a"), looks := false }, kinds := [], alts := [], laidByText := true, laidKinds := [.data, .pinned], laidTests := true, laidLooks := .later }
def VolMountsCardSaid : Prop := Claim7.holds Tryz.pinned (.plain (OpenSpec.ofChange volMountsSpec)) volMountsCard

/-- THE TIED CARD OF 'binnaclelaw08.VolNil'. -/
def volNilCard : Claim7 := { stood := { row := volNilRow, standIns := [], harness := (true, "2d7f0b0bcac15a6f0c1534541dec8c453ee7848dd1427df031b91d28449f4f2a"), looks := false }, kinds := [], alts := [], laidByText := true, laidKinds := [.data, .pinned], laidTests := true, laidLooks := .later }
def VolNilCardSaid : Prop := Claim7.holds Tryz.pinned (.plain (OpenSpec.ofChange volNilSpec)) volNilCard

/-- THE TIED CARD OF 'binnaclelaw08.VolPlays'. -/
def volPlaysCard : Claim7 := { stood := { row := volPlaysRow, standIns := [], harness := (true, "2d7f0b0bcac15a6f0c1534541dec8c453ee7848dd1427df031b91d28449f4f2a"), looks := false }, kinds := [], alts := [], laidByText := true, laidKinds := [.data, .pinned], laidTests := true, laidLooks := .later }
def VolPlaysCardSaid : Prop := Claim7.holds Tryz.pinned (.plain (OpenSpec.ofChange volPlaysSpec)) volPlaysCard

/-- THE SECOND FORM's CARD OF 'binnaclelaw08.VolMounts'. -/
def volMountsUptoCard : Claim7 := { stood := { row := volMountsUptoRow, standIns := [], harness := (true, "2d7f0b0bcac15a6f0c1534541dec8c453ee7848dd1427df031b91d28449f4f2a"), looks := false }, kinds := [], alts := [], laidByText := true, laidKinds := [.data, .pinned], laidTests := true, laidLooks := .later }
def VolMountsUptoCardSaid : Prop := Claim7.holds Tryz.pinned (.plain (OpenSpec.upto volMountsSpec)) volMountsUptoCard

/-- THE SECOND FORM's CARD OF 'binnaclelaw08.VolNil'. -/
def volNilUptoCard : Claim7 := { stood := { row := volNilUptoRow, standIns := [], harness := (true, "2d7f0b0bcac15a6f0c1534541dec8c453ee7848dd1427df031b91d28449f4f2a"), looks := false }, kinds := [], alts := [], laidByText := true, laidKinds := [.data, .pinned], laidTests := true, laidLooks := .later }
def VolNilUptoCardSaid : Prop := Claim7.holds Tryz.pinned (.plain (OpenSpec.upto volNilSpec)) volNilUptoCard

/-- THE SECOND FORM's CARD OF 'binnaclelaw08.VolPlays'. -/
def volPlaysUptoCard : Claim7 := { stood := { row := volPlaysUptoRow, standIns := [], harness := (true, "2d7f0b0bcac15a6f0c1534541dec8c453ee7848dd1427df031b91d28449f4f2a"), looks := false }, kinds := [], alts := [], laidByText := true, laidKinds := [.data, .pinned], laidTests := true, laidLooks := .later }
def VolPlaysUptoCardSaid : Prop := Claim7.holds Tryz.pinned (.plain (OpenSpec.upto volPlaysSpec)) volPlaysUptoCard
end Rows
end Go.Proofs.YtfldhmeenbdkiaaGreatDoor
