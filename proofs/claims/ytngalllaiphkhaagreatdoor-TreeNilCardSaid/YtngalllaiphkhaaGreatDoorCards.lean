/-
  DERIVED. GIVEN WITH THE SEED: THE CARDS: each row of YtngalllaiphkhaaGreatDoorRows.lean that lists a variable, with what it lists TIED to the program's text (the seventh form; the later family's looks); each row that meets fmt, with fmt's text TOLD by the authors' own Lean function (tested against real Go, not proved from fmt's source: count such statements apart). THE CARD IS WHAT COUNTS. Prove the row's statement (the work); the ties are given (YtngalllaiphkhaaGreatDoorTie.lean); close each card by the builder's one call (the guide's Derived/Test/ToyasCard.lean, 'card_holds'). Laid BY PROGRAM, IN A SANDBOX (cutbox-door.mjs). By AI agents, Wed Nov 11 2026. No macro, syntax, notation, axiom, sorry.
-/
import Derived.Test.YtngalllaiphkhaaGreatDoorRows
import GoSem.ClaimSeven
namespace Go.Proofs.YtngalllaiphkhaaGreatDoor
namespace Rows

/-- THE TIED CARD OF 'binnaclelaw09.TreePaths'. -/
def treePathsCard : Claim7 := { stood := { row := treePathsRow, standIns := [], harness := (true, "201299f90b040039c496a637fab7a1d6cf3a7a6377044560d904bd4b24819554"), looks := false }, kinds := [], alts := [], laidByText := true, laidKinds := [.data, .pinned], laidTests := true, laidLooks := .later }
def TreePathsCardSaid : Prop := Claim7.holds Tryz.pinned (.plain (OpenSpec.ofChange treePathsSpec)) treePathsCard

/-- THE TIED CARD OF 'binnaclelaw09.TreeLinks'. -/
def treeLinksCard : Claim7 := { stood := { row := treeLinksRow, standIns := [], harness := (true, "201299f90b040039c496a637fab7a1d6cf3a7a6377044560d904bd4b24819554"), looks := false }, kinds := [], alts := [], laidByText := true, laidKinds := [.data, .pinned], laidTests := true, laidLooks := .later }
def TreeLinksCardSaid : Prop := Claim7.holds Tryz.pinned (.plain (OpenSpec.ofChange treeLinksSpec)) treeLinksCard

/-- THE TIED CARD OF 'binnaclelaw09.TreeLists'. -/
def treeListsCard : Claim7 := { stood := { row := treeListsRow, standIns := [], harness := (true, "201299f90b040039c496a637fab7a1d6cf3a7a6377044560d904bd4b24819554"), looks := false }, kinds := [], alts := [], laidByText := true, laidKinds := [.data, .pinned], laidTests := true, laidLooks := .later }
def TreeListsCardSaid : Prop := Claim7.holds Tryz.pinned (.plain (OpenSpec.ofChange treeListsSpec)) treeListsCard

/-- THE TIED CARD OF 'binnaclelaw09.TreeUndone'. -/
def treeUndoneCard : Claim7 := { stood := { row := treeUndoneRow, standIns := [], harness := (true, "201299f90b040039c496a637fab7a1d6cf3a7a6377044560d904bd4b24819554"), looks := false }, kinds := [], alts := [], laidByText := true, laidKinds := [.data, .pinned], laidTests := true, laidLooks := .later }
def TreeUndoneCardSaid : Prop := Claim7.holds Tryz.pinned (.plain (OpenSpec.ofChange treeUndoneSpec)) treeUndoneCard

/-- THE TIED CARD OF 'binnaclelaw09.TreeMounts'. -/
def treeMountsCard : Claim7 := { stood := { row := treeMountsRow, standIns := [], harness := (true, "201299f90b040039c496a637fab7a1d6cf3a7a6377044560d904bd4b24819554"), looks := false }, kinds := [], alts := [], laidByText := true, laidKinds := [.data, .pinned], laidTests := true, laidLooks := .later }
def TreeMountsCardSaid : Prop := Claim7.holds Tryz.pinned (.plain (OpenSpec.ofChange treeMountsSpec)) treeMountsCard

/-- THE TIED CARD OF 'binnaclelaw09.TreeNil'. -/
def treeNilCard : Claim7 := { stood := { row := treeNilRow, standIns := [], harness := (true, "201299f90b040039c496a637fab7a1d6cf3a7a6377044560d904bd4b24819554"), looks := false }, kinds := [], alts := [], laidByText := true, laidKinds := [.data, .pinned], laidTests := true, laidLooks := .later }
def TreeNilCardSaid : Prop := Claim7.holds Tryz.pinned (.plain (OpenSpec.ofChange treeNilSpec)) treeNilCard

/-- THE TIED CARD OF 'binnaclelaw09.TreePlays'. -/
def treePlaysCard : Claim7 := { stood := { row := treePlaysRow, standIns := [], harness := (true, "201299f90b040039c496a637fab7a1d6cf3a7a6377044560d904bd4b24819554"), looks := false }, kinds := [], alts := [], laidByText := true, laidKinds := [.data, .pinned], laidTests := true, laidLooks := .later }
def TreePlaysCardSaid : Prop := Claim7.holds Tryz.pinned (.plain (OpenSpec.ofChange treePlaysSpec)) treePlaysCard

/-- THE TIED CARD OF 'binnaclelaw09.TreeWhole'. -/
def treeWholeCard : Claim7 := { stood := { row := treeWholeRow, standIns := [], harness := (true, "201299f90b040039c496a637fab7a1d6cf3a7a6377044560d904bd4b24819554"), looks := false }, kinds := [], alts := [], laidByText := true, laidKinds := [.data, .pinned], laidTests := true, laidLooks := .later }
def TreeWholeCardSaid : Prop := Claim7.holds Tryz.pinned (.plain (OpenSpec.ofChange treeWholeSpec)) treeWholeCard

/-- THE SECOND FORM's CARD OF 'binnaclelaw09.TreePaths'. -/
def treePathsUptoCard : Claim7 := { stood := { row := treePathsUptoRow, standIns := [], harness := (true, "201299f90b040039c496a637fab7a1d6cf3a7a6377044560d904bd4b24819554"), looks := false }, kinds := [], alts := [], laidByText := true, laidKinds := [.data, .pinned], laidTests := true, laidLooks := .later }
def TreePathsUptoCardSaid : Prop := Claim7.holds Tryz.pinned (.plain (OpenSpec.upto treePathsSpec)) treePathsUptoCard

/-- THE SECOND FORM's CARD OF 'binnaclelaw09.TreeLinks'. -/
def treeLinksUptoCard : Claim7 := { stood := { row := treeLinksUptoRow, standIns := [], harness := (true, "201299f90b040039c496a637fab7a1d6cf3a7a6377044560d904bd4b24819554"), looks := false }, kinds := [], alts := [], laidByText := true, laidKinds := [.data, .pinned], laidTests := true, laidLooks := .later }
def TreeLinksUptoCardSaid : Prop := Claim7.holds Tryz.pinned (.plain (OpenSpec.upto treeLinksSpec)) treeLinksUptoCard

/-- THE SECOND FORM's CARD OF 'binnaclelaw09.TreeLists'. -/
def treeListsUptoCard : Claim7 := { stood := { row := treeListsUptoRow, standIns := [], harness := (true, "201299f90b040039c496a637fab7a1d6cf3a7a6377044560d904bd4b24819554"), looks := false }, kinds := [], alts := [], laidByText := true, laidKinds := [.data, .pinned], laidTests := true, laidLooks := .later }
def TreeListsUptoCardSaid : Prop := Claim7.holds Tryz.pinned (.plain (OpenSpec.upto treeListsSpec)) treeListsUptoCard

/-- THE SECOND FORM's CARD OF 'binnaclelaw09.TreeUndone'. -/
def treeUndoneUptoCard : Claim7 := { stood := { row := treeUndoneUptoRow, standIns := [], harness := (true, "201299f90b040039c496a637fab7a1d6cf3a7a6377044560d904bd4b24819554"), looks := false }, kinds := [], alts := [], laidByText := true, laidKinds := [.data, .pinned], laidTests := true, laidLooks := .later }
def TreeUndoneUptoCardSaid : Prop := Claim7.holds Tryz.pinned (.plain (OpenSpec.upto treeUndoneSpec)) treeUndoneUptoCard

/-- THE SECOND FORM's CARD OF 'binnaclelaw09.TreeMounts'. -/
def treeMountsUptoCard : Claim7 := { stood := { row := treeMountsUptoRow, standIns := [], harness := (true, "201299f90b040039c496a637fab7a1d6cf3a7a6377044560d904bd4b24819554"), looks := false }, kinds := [], alts := [], laidByText := true, laidKinds := [.data, .pinned], laidTests := true, laidLooks := .later }
def TreeMountsUptoCardSaid : Prop := Claim7.holds Tryz.pinned (.plain (OpenSpec.upto treeMountsSpec)) treeMountsUptoCard

/-- THE SECOND FORM's CARD OF 'binnaclelaw09.TreeNil'. -/
def treeNilUptoCard : Claim7 := { stood := { row := treeNilUptoRow, standIns := [], harness := (true, "201299f90b040039c496a637fab7a1d6cf3a7a6377044560d904bd4b24819554"), looks := false }, kinds := [], alts := [], laidByText := true, laidKinds := [.data, .pinned], laidTests := true, laidLooks := .later }
def TreeNilUptoCardSaid : Prop := Claim7.holds Tryz.pinned (.plain (OpenSpec.upto treeNilSpec)) treeNilUptoCard

/-- THE SECOND FORM's CARD OF 'binnaclelaw09.TreePlays'. -/
def treePlaysUptoCard : Claim7 := { stood := { row := treePlaysUptoRow, standIns := [], harness := (true, "201299f90b040039c496a637fab7a1d6cf3a7a6377044560d904bd4b24819554"), looks := false }, kinds := [], alts := [], laidByText := true, laidKinds := [.data, .pinned], laidTests := true, laidLooks := .later }
def TreePlaysUptoCardSaid : Prop := Claim7.holds Tryz.pinned (.plain (OpenSpec.upto treePlaysSpec)) treePlaysUptoCard

/-- THE SECOND FORM's CARD OF 'binnaclelaw09.TreeWhole'. -/
def treeWholeUptoCard : Claim7 := { stood := { row := treeWholeUptoRow, standIns := [], harness := (true, "201299f90b040039c496a637fab7a1d6cf3a7a6377044560d904bd4b24819554"), looks := false }, kinds := [], alts := [], laidByText := true, laidKinds := [.data, .pinned], laidTests := true, laidLooks := .later }
def TreeWholeUptoCardSaid : Prop := Claim7.holds Tryz.pinned (.plain (OpenSpec.upto treeWholeSpec)) treeWholeUptoCard
end Rows
end Go.Proofs.YtngalllaiphkhaaGreatDoor
