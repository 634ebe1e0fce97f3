/-
  DERIVED. GIVEN WITH THE SEED: THE CARDS: each row of YtdddmehchfnppaaDoorRows.lean that lists a variable, with what it lists TIED to the program's text (the seventh form; the later family's looks); each row that meets fmt, with fmt's text TOLD by the authors' own Lean function (tested against real Go, not proved from fmt's source: count such statements apart). THE CARD IS WHAT COUNTS. Prove the row's statement (the work); the ties are given (YtdddmehchfnppaaDoorTie.lean); close each card by the builder's one call (the guide's Derived/Test/ToyasCard.lean, 'card_holds'). Laid BY PROGRAM, IN A SANDBOX (cutbox-door.mjs). By AI agents, Wed Nov 11 2026. No macro, syntax, notation, axiom, sorry.
-/
import Derived.Test.YtdddmehchfnppaaDoorRows
import GoSem.ClaimSeven
namespace Go.Proofs.YtdddmehchfnppaaDoor
namespace Rows

/-- THE TIED CARD OF 'rebuslaw13.FoldLong'. -/
def foldLongCard : Claim7 := { stood := { row := foldLongRow, standIns := [], harness := (true, "8afee56f1f98d1e0e5cb8c40fef955b5753b7c411b7523adb94f5d396dbb27ad"), looks := false }, kinds := [], alts := [], laidByText := true, laidKinds := [.data], laidTests := true, laidLooks := .later }
def FoldLongCardSaid : Prop := Claim7.holds Tryd.pinned (.plain (OpenSpec.ofChange foldLongSpec)) foldLongCard

/-- THE TIED CARD OF 'rebuslaw13.FoldRows'. -/
def foldRowsCard : Claim7 := { stood := { row := foldRowsRow, standIns := [], harness := (true, "8afee56f1f98d1e0e5cb8c40fef955b5753b7c411b7523adb94f5d396dbb27ad"), looks := false }, kinds := [], alts := [], laidByText := true, laidKinds := [.data], laidTests := true, laidLooks := .later }
def FoldRowsCardSaid : Prop := Claim7.holds Tryd.pinned (.plain (OpenSpec.ofChange foldRowsSpec)) foldRowsCard

/-- THE TIED CARD OF 'rebuslaw13.FoldOthers'. -/
def foldOthersCard : Claim7 := { stood := { row := foldOthersRow, standIns := [], harness := (true, "8afee56f1f98d1e0e5cb8c40fef955b5753b7c411b7523adb94f5d396dbb27ad"), looks := false }, kinds := [], alts := [], laidByText := true, laidKinds := [.data], laidTests := true, laidLooks := .later }
def FoldOthersCardSaid : Prop := Claim7.holds Tryd.pinned (.plain (OpenSpec.ofChange foldOthersSpec)) foldOthersCard

/-- THE TIED CARD OF 'rebuslaw14.ScanOthers'. -/
def scanOthersCard : Claim7 := { stood := { row := scanOthersRow, standIns := [], harness := (true, "8afee56f1f98d1e0e5cb8c40fef955b5753b7c411b7523adb94f5d396dbb27ad"), looks := false }, kinds := [], alts := [], laidByText := true, laidKinds := [.data], laidTests := true, laidLooks := .later }
def ScanOthersCardSaid : Prop := Claim7.holds Tryd.pinned (.plain (OpenSpec.ofChange scanOthersSpec)) scanOthersCard

/-- THE SECOND FORM's CARD OF 'rebuslaw13.FoldLong'. -/
def foldLongUptoCard : Claim7 := { stood := { row := foldLongUptoRow, standIns := [], harness := (true, "8afee56f1f98d1e0e5cb8c40fef955b5753b7c411b7523adb94f5d396dbb27ad"), looks := false }, kinds := [], alts := [], laidByText := true, laidKinds := [.data], laidTests := true, laidLooks := .later }
def FoldLongUptoCardSaid : Prop := Claim7.holds Tryd.pinned (.plain (OpenSpec.upto foldLongSpec)) foldLongUptoCard

/-- THE SECOND FORM's CARD OF 'rebuslaw13.FoldRows'. -/
def foldRowsUptoCard : Claim7 := { stood := { row := foldRowsUptoRow, standIns := [], harness := (true, "8afee56f1f98d1e0e5cb8c40fef955b5753b7c411b7523adb94f5d396dbb27ad"), looks := false }, kinds := [], alts := [], laidByText := true, laidKinds := [.data], laidTests := true, laidLooks := .later }
def FoldRowsUptoCardSaid : Prop := Claim7.holds Tryd.pinned (.plain (OpenSpec.upto foldRowsSpec)) foldRowsUptoCard

/-- THE SECOND FORM's CARD OF 'rebuslaw13.FoldOthers'. -/
def foldOthersUptoCard : Claim7 := { stood := { row := foldOthersUptoRow, standIns := [], harness := (true, "8afee56f1f98d1e0e5cb8c40fef955b5753b7c411b7523adb94f5d396dbb27ad"), looks := false }, kinds := [], alts := [], laidByText := true, laidKinds := [.data], laidTests := true, laidLooks := .later }
def FoldOthersUptoCardSaid : Prop := Claim7.holds Tryd.pinned (.plain (OpenSpec.upto foldOthersSpec)) foldOthersUptoCard

/-- THE SECOND FORM's CARD OF 'rebuslaw14.ScanOthers'. -/
def scanOthersUptoCard : Claim7 := { stood := { row := scanOthersUptoRow, standIns := [], harness := (true, "8afee56f1f98d1e0e5cb8c40fef955b5753b7c411b7523adb94f5d396dbb27ad"), looks := false }, kinds := [], alts := [], laidByText := true, laidKinds := [.data], laidTests := true, laidLooks := .later }
def ScanOthersUptoCardSaid : Prop := Claim7.holds Tryd.pinned (.plain (OpenSpec.upto scanOthersSpec)) scanOthersUptoCard
end Rows
end Go.Proofs.YtdddmehchfnppaaDoor
