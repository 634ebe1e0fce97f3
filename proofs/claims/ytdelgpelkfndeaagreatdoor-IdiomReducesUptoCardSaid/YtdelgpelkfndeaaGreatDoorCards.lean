/-
  DERIVED. GIVEN WITH THE SEED: THE CARDS: each row of YtdelgpelkfndeaaGreatDoorRows.lean that lists a variable, with what it lists TIED to the program's text (the seventh form; the later family's looks); each row that meets fmt, with fmt's text TOLD by the authors' own Lean function (tested against real Go, not proved from fmt's source: count such statements apart). THE CARD IS WHAT COUNTS. Prove the row's statement (the work); the ties are given (YtdelgpelkfndeaaGreatDoorTie.lean); close each card by the builder's one call (the guide's Derived/Test/ToyasCard.lean, 'card_holds'). Laid BY PROGRAM, IN A SANDBOX (cutbox-door.mjs). By AI agents, Wed Nov 11 2026. No macro, syntax, notation, axiom, sorry.
-/
import Derived.Test.YtdelgpelkfndeaaGreatDoorRows
import GoSem.ClaimSeven
namespace Go.Proofs.YtdelgpelkfndeaaGreatDoor
namespace Rows

/-- THE TIED CARD OF 'rebuslaw34.IdiomReduces'. -/
def idiomReducesCard : Claim7 := { stood := { row := idiomReducesRow, standIns := [], harness := (true, "ffdcd4bc9d9ac5f180163a5d6af7af92defa3facdd7c9a0900acb8838035c68f"), looks := false }, kinds := [], alts := [], laidByText := true, laidKinds := [.data], laidTests := true, laidLooks := .later }
def IdiomReducesCardSaid : Prop := Claim7.holds Tryz.pinned (.plain (OpenSpec.ofChange idiomReducesSpec)) idiomReducesCard

/-- THE TIED CARD OF 'rebuslaw34.IdiomNames'. -/
def idiomNamesCard : Claim7 := { stood := { row := idiomNamesRow, standIns := [], harness := (true, "ffdcd4bc9d9ac5f180163a5d6af7af92defa3facdd7c9a0900acb8838035c68f"), looks := false }, kinds := [], alts := [], laidByText := true, laidKinds := [.data], laidTests := true, laidLooks := .later }
def IdiomNamesCardSaid : Prop := Claim7.holds Tryz.pinned (.plain (OpenSpec.ofChange idiomNamesSpec)) idiomNamesCard

/-- THE SECOND FORM's CARD OF 'rebuslaw34.IdiomReduces'. -/
def idiomReducesUptoCard : Claim7 := { stood := { row := idiomReducesUptoRow, standIns := [], harness := (true, "ffdcd4bc9d9ac5f180163a5d6af7af92defa3facdd7c9a0900acb8838035c68f"), looks := false }, kinds := [], alts := [], laidByText := true, laidKinds := [.data], laidTests := true, laidLooks := .later }
def IdiomReducesUptoCardSaid : Prop := Claim7.holds Tryz.pinned (.plain (OpenSpec.upto idiomReducesSpec)) idiomReducesUptoCard

/-- THE SECOND FORM's CARD OF 'rebuslaw34.IdiomNames'. -/
def idiomNamesUptoCard : Claim7 := { stood := { row := idiomNamesUptoRow, standIns := [], harness := (true, "ffdcd4bc9d9ac5f180163a5d6af7af92defa3facdd7c9a0900acb8838035c68f"), looks := false }, kinds := [], alts := [], laidByText := true, laidKinds := [.data], laidTests := true, laidLooks := .later }
def IdiomNamesUptoCardSaid : Prop := Claim7.holds Tryz.pinned (.plain (OpenSpec.upto idiomNamesSpec)) idiomNamesUptoCard
end Rows
end Go.Proofs.YtdelgpelkfndeaaGreatDoor
