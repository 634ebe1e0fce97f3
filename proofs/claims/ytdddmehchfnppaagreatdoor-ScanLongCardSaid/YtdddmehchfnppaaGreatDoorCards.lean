/-
  DERIVED. GIVEN WITH THE SEED: THE CARDS: each row of YtdddmehchfnppaaGreatDoorRows.lean that lists a variable, with what it lists TIED to the program's text (the seventh form; the later family's looks); each row that meets fmt, with fmt's text TOLD by the authors' own Lean function (tested against real Go, not proved from fmt's source: count such statements apart). THE CARD IS WHAT COUNTS. Prove the row's statement (the work); the ties are given (YtdddmehchfnppaaGreatDoorTie.lean); close each card by the builder's one call (the guide's Derived/Test/ToyasCard.lean, 'card_holds'). Laid BY PROGRAM, IN A SANDBOX (cutbox-door.mjs). By AI agents, Wed Nov 11 2026. No macro, syntax, notation, axiom, sorry.
-/
import Derived.Test.YtdddmehchfnppaaGreatDoorRows
import GoSem.ClaimSeven
namespace Go.Proofs.YtdddmehchfnppaaGreatDoor
namespace Rows

/-- THE TIED CARD OF 'rebuslaw14.ScanRows'. -/
def scanRowsCard : Claim7 := { stood := { row := scanRowsRow, standIns := [], harness := (true, "e3b93b6567a788227952afa7963b94d180dfdd24cebda73f7bf17fb3e381c44a"), looks := false }, kinds := [], alts := [], laidByText := true, laidKinds := [.data], laidTests := true, laidLooks := .later }
def ScanRowsCardSaid : Prop := Claim7.holds Tryz.pinned (.plain (OpenSpec.ofChange scanRowsSpec)) scanRowsCard

/-- THE TIED CARD OF 'rebuslaw13.FoldOne'. -/
def foldOneCard : Claim7 := { stood := { row := foldOneRow, standIns := [], harness := (true, "e3b93b6567a788227952afa7963b94d180dfdd24cebda73f7bf17fb3e381c44a"), looks := false }, kinds := [], alts := [], laidByText := true, laidKinds := [.data], laidTests := true, laidLooks := .later }
def FoldOneCardSaid : Prop := Claim7.holds Tryz.pinned (.plain (OpenSpec.ofChange foldOneSpec)) foldOneCard

/-- THE TIED CARD OF 'rebuslaw14.ScanLong'. -/
def scanLongCard : Claim7 := { stood := { row := scanLongRow, standIns := [], harness := (true, "e3b93b6567a788227952afa7963b94d180dfdd24cebda73f7bf17fb3e381c44a"), looks := false }, kinds := [], alts := [], laidByText := true, laidKinds := [.data], laidTests := true, laidLooks := .later }
def ScanLongCardSaid : Prop := Claim7.holds Tryz.pinned (.plain (OpenSpec.ofChange scanLongSpec)) scanLongCard

/-- THE SECOND FORM's CARD OF 'rebuslaw14.ScanRows'. -/
def scanRowsUptoCard : Claim7 := { stood := { row := scanRowsUptoRow, standIns := [], harness := (true, "e3b93b6567a788227952afa7963b94d180dfdd24cebda73f7bf17fb3e381c44a"), looks := false }, kinds := [], alts := [], laidByText := true, laidKinds := [.data], laidTests := true, laidLooks := .later }
def ScanRowsUptoCardSaid : Prop := Claim7.holds Tryz.pinned (.plain (OpenSpec.upto scanRowsSpec)) scanRowsUptoCard

/-- THE SECOND FORM's CARD OF 'rebuslaw13.FoldOne'. -/
def foldOneUptoCard : Claim7 := { stood := { row := foldOneUptoRow, standIns := [], harness := (true, "e3b93b6567a788227952afa7963b94d180dfdd24cebda73f7bf17fb3e381c44a"), looks := false }, kinds := [], alts := [], laidByText := true, laidKinds := [.data], laidTests := true, laidLooks := .later }
def FoldOneUptoCardSaid : Prop := Claim7.holds Tryz.pinned (.plain (OpenSpec.upto foldOneSpec)) foldOneUptoCard

/-- THE SECOND FORM's CARD OF 'rebuslaw14.ScanLong'. -/
def scanLongUptoCard : Claim7 := { stood := { row := scanLongUptoRow, standIns := [], harness := (true, "e3b93b6567a788227952afa7963b94d180dfdd24cebda73f7bf17fb3e381c44a"), looks := false }, kinds := [], alts := [], laidByText := true, laidKinds := [.data], laidTests := true, laidLooks := .later }
def ScanLongUptoCardSaid : Prop := Claim7.holds Tryz.pinned (.plain (OpenSpec.upto scanLongSpec)) scanLongUptoCard
end Rows
end Go.Proofs.YtdddmehchfnppaaGreatDoor
