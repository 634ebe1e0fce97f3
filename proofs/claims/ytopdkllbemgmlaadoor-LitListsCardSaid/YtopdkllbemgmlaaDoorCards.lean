/-
  DERIVED. GIVEN WITH THE SEED: THE CARDS: each row of YtopdkllbemgmlaaDoorRows.lean that lists a variable, with what it lists TIED to the program's text (the seventh form; the later family's looks); each row that meets fmt, with fmt's text TOLD by the authors' own Lean function (tested against real Go, not proved from fmt's source: count such statements apart). THE CARD IS WHAT COUNTS. Prove the row's statement (the work); the ties are given (YtopdkllbemgmlaaDoorTie.lean); close each card by the builder's one call (the guide's Derived/Test/ToyasCard.lean, 'card_holds'). Laid BY PROGRAM, IN A SANDBOX (cutbox-door.mjs). By AI agents, Wed Nov 11 2026. No macro, syntax, notation, axiom, sorry.
-/
import Derived.Test.YtopdkllbemgmlaaDoorRows
import GoSem.ClaimSeven
namespace Go.Proofs.YtopdkllbemgmlaaDoor
namespace Rows

/-- THE TIED CARD OF 'rebuslaw29.LitWrites'. -/
def litWritesCard : Claim7 := { stood := { row := litWritesRow, standIns := [], harness := (true, "0e060c16c0a33f7af9bc1d1a0c2484859e8af19eb60f5f4674e9f7bcaca59981"), looks := false }, kinds := [], alts := [], laidByText := true, laidKinds := [.data], laidTests := true, laidLooks := .later }
def LitWritesCardSaid : Prop := Claim7.holds Tryd.pinned (.plain (OpenSpec.ofChange litWritesSpec)) litWritesCard

/-- THE TIED CARD OF 'rebuslaw29.LitReads'. -/
def litReadsCard : Claim7 := { stood := { row := litReadsRow, standIns := [], harness := (true, "0e060c16c0a33f7af9bc1d1a0c2484859e8af19eb60f5f4674e9f7bcaca59981"), looks := false }, kinds := [], alts := [], laidByText := true, laidKinds := [.data], laidTests := true, laidLooks := .later }
def LitReadsCardSaid : Prop := Claim7.holds Tryd.pinned (.plain (OpenSpec.ofChange litReadsSpec)) litReadsCard

/-- THE TIED CARD OF 'rebuslaw29.LitScales'. -/
def litScalesCard : Claim7 := { stood := { row := litScalesRow, standIns := [], harness := (true, "0e060c16c0a33f7af9bc1d1a0c2484859e8af19eb60f5f4674e9f7bcaca59981"), looks := false }, kinds := [], alts := [], laidByText := true, laidKinds := [.data], laidTests := true, laidLooks := .later }
def LitScalesCardSaid : Prop := Claim7.holds Tryd.pinned (.plain (OpenSpec.ofChange litScalesSpec)) litScalesCard

/-- THE TIED CARD OF 'rebuslaw29.LitApart'. -/
def litApartCard : Claim7 := { stood := { row := litApartRow, standIns := [], harness := (true, "0e060c16c0a33f7af9bc1d1a0c2484859e8af19eb60f5f4674e9f7bcaca59981"), looks := false }, kinds := [], alts := [], laidByText := true, laidKinds := [.data], laidTests := true, laidLooks := .later }
def LitApartCardSaid : Prop := Claim7.holds Tryd.pinned (.plain (OpenSpec.ofChange litApartSpec)) litApartCard

/-- THE TIED CARD OF 'rebuslaw29.LitLists'. -/
def litListsCard : Claim7 := { stood := { row := litListsRow, standIns := [], harness := (true, "0e060c16c0a33f7af9bc1d1a0c2484859e8af19eb60f5f4674e9f7bcaca59981"), looks := false }, kinds := [], alts := [], laidByText := true, laidKinds := [.data], laidTests := true, laidLooks := .later }
def LitListsCardSaid : Prop := Claim7.holds Tryd.pinned (.plain (OpenSpec.ofChange litListsSpec)) litListsCard

/-- THE SECOND FORM's CARD OF 'rebuslaw29.LitWrites'. -/
def litWritesUptoCard : Claim7 := { stood := { row := litWritesUptoRow, standIns := [], harness := (true, "0e060c16c0a33f7af9bc1d1a0c2484859e8af19eb60f5f4674e9f7bcaca59981"), looks := false }, kinds := [], alts := [], laidByText := true, laidKinds := [.data], laidTests := true, laidLooks := .later }
def LitWritesUptoCardSaid : Prop := Claim7.holds Tryd.pinned (.plain (OpenSpec.upto litWritesSpec)) litWritesUptoCard

/-- THE SECOND FORM's CARD OF 'rebuslaw29.LitReads'. -/
def litReadsUptoCard : Claim7 := { stood := { row := litReadsUptoRow, standIns := [], harness := (true, "0e060c16c0a33f7af9bc1d1a0c2484859e8af19eb60f5f4674e9f7bcaca59981"), looks := false }, kinds := [], alts := [], laidByText := true, laidKinds := [.data], laidTests := true, laidLooks := .later }
def LitReadsUptoCardSaid : Prop := Claim7.holds Tryd.pinned (.plain (OpenSpec.upto litReadsSpec)) litReadsUptoCard

/-- THE SECOND FORM's CARD OF 'rebuslaw29.LitScales'. -/
def litScalesUptoCard : Claim7 := { stood := { row := litScalesUptoRow, standIns := [], harness := (true, "0e060c16c0a33f7af9bc1d1a0c2484859e8af19eb60f5f4674e9f7bcaca59981"), looks := false }, kinds := [], alts := [], laidByText := true, laidKinds := [.data], laidTests := true, laidLooks := .later }
def LitScalesUptoCardSaid : Prop := Claim7.holds Tryd.pinned (.plain (OpenSpec.upto litScalesSpec)) litScalesUptoCard

/-- THE SECOND FORM's CARD OF 'rebuslaw29.LitApart'. -/
def litApartUptoCard : Claim7 := { stood := { row := litApartUptoRow, standIns := [], harness := (true, "0e060c16c0a33f7af9bc1d1a0c2484859e8af19eb60f5f4674e9f7bcaca59981"), looks := false }, kinds := [], alts := [], laidByText := true, laidKinds := [.data], laidTests := true, laidLooks := .later }
def LitApartUptoCardSaid : Prop := Claim7.holds Tryd.pinned (.plain (OpenSpec.upto litApartSpec)) litApartUptoCard

/-- THE SECOND FORM's CARD OF 'rebuslaw29.LitLists'. -/
def litListsUptoCard : Claim7 := { stood := { row := litListsUptoRow, standIns := [], harness := (true, "0e060c16c0a33f7af9bc1d1a0c2484859e8af19eb60f5f4674e9f7bcaca59981"), looks := false }, kinds := [], alts := [], laidByText := true, laidKinds := [.data], laidTests := true, laidLooks := .later }
def LitListsUptoCardSaid : Prop := Claim7.holds Tryd.pinned (.plain (OpenSpec.upto litListsSpec)) litListsUptoCard
end Rows
end Go.Proofs.YtopdkllbemgmlaaDoor
