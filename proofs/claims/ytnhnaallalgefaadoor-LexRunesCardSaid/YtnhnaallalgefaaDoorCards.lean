/-
  DERIVED. GIVEN WITH THE SEED: THE CARDS: each row of YtnhnaallalgefaaDoorRows.lean that lists a variable, with what it lists TIED to the program's text (the seventh form; the later family's looks); each row that meets fmt, with fmt's text TOLD by the authors' own Lean function (tested against real Go, not proved from fmt's source: count such statements apart). THE CARD IS WHAT COUNTS. Prove the row's statement (the work); the ties are given (YtnhnaallalgefaaDoorTie.lean); close each card by the builder's one call (the guide's Derived/Test/ToyasCard.lean, 'card_holds'). Laid BY PROGRAM, IN A SANDBOX (cutbox-door.mjs). By AI agents, Wed Nov 11 2026. No macro, syntax, notation, axiom, sorry.
-/
import Derived.Test.YtnhnaallalgefaaDoorRows
import GoSem.ClaimSeven
namespace Go.Proofs.YtnhnaallalgefaaDoor
namespace Rows

/-- THE TIED CARD OF 'rebuslaw29.LitWrites'. -/
def litWritesCard : Claim7 := { stood := { row := litWritesRow, standIns := [], harness := (true, "2da2d860b9e7b4d265c6dc00e9301f4703a38588823d6d97e36b44abfabf26d5"), looks := true }, kinds := [], alts := [], laidByText := true, laidKinds := [.data], laidTests := true, laidLooks := .later }
def LitWritesCardSaid : Prop := Claim7.holds Tryd.pinned (.plain (OpenSpec.ofChange litWritesSpec)) litWritesCard

/-- THE TIED CARD OF 'rebuslaw29.LitReads'. -/
def litReadsCard : Claim7 := { stood := { row := litReadsRow, standIns := [], harness := (true, "2da2d860b9e7b4d265c6dc00e9301f4703a38588823d6d97e36b44abfabf26d5"), looks := true }, kinds := [], alts := [], laidByText := true, laidKinds := [.data], laidTests := true, laidLooks := .later }
def LitReadsCardSaid : Prop := Claim7.holds Tryd.pinned (.plain (OpenSpec.ofChange litReadsSpec)) litReadsCard

/-- THE TIED CARD OF 'rebuslaw29.LitScales'. -/
def litScalesCard : Claim7 := { stood := { row := litScalesRow, standIns := [], harness := (true, "2da2d860b9e7b4d265c6dc00e9301f4703a38588823d6d97e36b44abfabf26d5"), looks := true }, kinds := [], alts := [], laidByText := true, laidKinds := [.data], laidTests := true, laidLooks := .later }
def LitScalesCardSaid : Prop := Claim7.holds Tryd.pinned (.plain (OpenSpec.ofChange litScalesSpec)) litScalesCard

/-- THE TIED CARD OF 'rebuslaw29.LitApart'. -/
def litApartCard : Claim7 := { stood := { row := litApartRow, standIns := [], harness := (true, "2da2d860b9e7b4d265c6dc00e9301f4703a38588823d6d97e36b44abfabf26d5"), looks := true }, kinds := [], alts := [], laidByText := true, laidKinds := [.data], laidTests := true, laidLooks := .later }
def LitApartCardSaid : Prop := Claim7.holds Tryd.pinned (.plain (OpenSpec.ofChange litApartSpec)) litApartCard

/-- THE TIED CARD OF 'rebuslaw29.LitLists'. -/
def litListsCard : Claim7 := { stood := { row := litListsRow, standIns := [], harness := (true, "2da2d860b9e7b4d265c6dc00e9301f4703a38588823d6d97e36b44abfabf26d5"), looks := true }, kinds := [], alts := [], laidByText := true, laidKinds := [.data], laidTests := true, laidLooks := .later }
def LitListsCardSaid : Prop := Claim7.holds Tryd.pinned (.plain (OpenSpec.ofChange litListsSpec)) litListsCard

/-- THE TIED CARD OF 'rebuslaw01.TroubleShows'. -/
def troubleShowsCard : Claim7 := { stood := { row := troubleShowsRow, standIns := [], harness := (true, "2da2d860b9e7b4d265c6dc00e9301f4703a38588823d6d97e36b44abfabf26d5"), looks := true }, kinds := [], alts := [], laidByText := true, laidKinds := [.handle], laidTests := true, laidLooks := .later }
def TroubleShowsCardSaid : Prop := Claim7.holds Tryd.pinned (.plain (OpenSpec.ofChange troubleShowsSpec)) troubleShowsCard

/-- THE TIED CARD OF 'rebuslaw01.TroubleClass'. -/
def troubleClassCard : Claim7 := { stood := { row := troubleClassRow, standIns := [], harness := (true, "2da2d860b9e7b4d265c6dc00e9301f4703a38588823d6d97e36b44abfabf26d5"), looks := true }, kinds := [], alts := [], laidByText := true, laidKinds := [.handle], laidTests := true, laidLooks := .later }
def TroubleClassCardSaid : Prop := Claim7.holds Tryd.pinned (.plain (OpenSpec.ofChange troubleClassSpec)) troubleClassCard

/-- THE TIED CARD OF 'rebuslaw01.TroubleFinds'. -/
def troubleFindsCard : Claim7 := { stood := { row := troubleFindsRow, standIns := [], harness := (true, "2da2d860b9e7b4d265c6dc00e9301f4703a38588823d6d97e36b44abfabf26d5"), looks := true }, kinds := [], alts := [], laidByText := true, laidKinds := [.handle], laidTests := true, laidLooks := .later }
def TroubleFindsCardSaid : Prop := Claim7.holds Tryd.pinned (.plain (OpenSpec.ofChange troubleFindsSpec)) troubleFindsCard

/-- THE TIED CARD OF 'rebuslaw01.TroubleTells'. -/
def troubleTellsCard : Claim7 := { stood := { row := troubleTellsRow, standIns := [], harness := (true, "2da2d860b9e7b4d265c6dc00e9301f4703a38588823d6d97e36b44abfabf26d5"), looks := true }, kinds := [], alts := [], laidByText := true, laidKinds := [.handle], laidTests := true, laidLooks := .later }
def TroubleTellsCardSaid : Prop := Claim7.holds Tryd.pinned (.plain (OpenSpec.ofChange troubleTellsSpec)) troubleTellsCard

/-- THE TIED CARD OF 'rebuslaw31.TreeSame'. -/
def treeSameCard : Claim7 := { stood := { row := treeSameRow, standIns := [], harness := (true, "2da2d860b9e7b4d265c6dc00e9301f4703a38588823d6d97e36b44abfabf26d5"), looks := true }, kinds := [], alts := [], laidByText := true, laidKinds := [.data], laidTests := true, laidLooks := .later }
def TreeSameCardSaid : Prop := Claim7.holds Tryd.pinned (.plain (OpenSpec.ofChange treeSameSpec)) treeSameCard

/-- THE TIED CARD OF 'rebuslaw30.LexRunes'. -/
def lexRunesCard : Claim7 := { stood := { row := lexRunesRow, standIns := [], harness := (true, "2da2d860b9e7b4d265c6dc00e9301f4703a38588823d6d97e36b44abfabf26d5"), looks := true }, kinds := [], alts := [], laidByText := true, laidKinds := [.data, .handle, .pinned], laidTests := true, laidLooks := .later }
def LexRunesCardSaid : Prop := Claim7.holds Tryd.pinned (.plain (OpenSpec.ofChange lexRunesSpec)) lexRunesCard

/-- THE SECOND FORM's CARD OF 'rebuslaw29.LitWrites'. -/
def litWritesUptoCard : Claim7 := { stood := { row := litWritesUptoRow, standIns := [], harness := (true, "2da2d860b9e7b4d265c6dc00e9301f4703a38588823d6d97e36b44abfabf26d5"), looks := true }, kinds := [], alts := [], laidByText := true, laidKinds := [.data], laidTests := true, laidLooks := .later }
def LitWritesUptoCardSaid : Prop := Claim7.holds Tryd.pinned (.plain (OpenSpec.upto litWritesSpec)) litWritesUptoCard

/-- THE SECOND FORM's CARD OF 'rebuslaw29.LitReads'. -/
def litReadsUptoCard : Claim7 := { stood := { row := litReadsUptoRow, standIns := [], harness := (true, "2da2d860b9e7b4d265c6dc00e9301f4703a38588823d6d97e36b44abfabf26d5"), looks := true }, kinds := [], alts := [], laidByText := true, laidKinds := [.data], laidTests := true, laidLooks := .later }
def LitReadsUptoCardSaid : Prop := Claim7.holds Tryd.pinned (.plain (OpenSpec.upto litReadsSpec)) litReadsUptoCard

/-- THE SECOND FORM's CARD OF 'rebuslaw29.LitScales'. -/
def litScalesUptoCard : Claim7 := { stood := { row := litScalesUptoRow, standIns := [], harness := (true, "2da2d860b9e7b4d265c6dc00e9301f4703a38588823d6d97e36b44abfabf26d5"), looks := true }, kinds := [], alts := [], laidByText := true, laidKinds := [.data], laidTests := true, laidLooks := .later }
def LitScalesUptoCardSaid : Prop := Claim7.holds Tryd.pinned (.plain (OpenSpec.upto litScalesSpec)) litScalesUptoCard

/-- THE SECOND FORM's CARD OF 'rebuslaw29.LitApart'. -/
def litApartUptoCard : Claim7 := { stood := { row := litApartUptoRow, standIns := [], harness := (true, "2da2d860b9e7b4d265c6dc00e9301f4703a38588823d6d97e36b44abfabf26d5"), looks := true }, kinds := [], alts := [], laidByText := true, laidKinds := [.data], laidTests := true, laidLooks := .later }
def LitApartUptoCardSaid : Prop := Claim7.holds Tryd.pinned (.plain (OpenSpec.upto litApartSpec)) litApartUptoCard

/-- THE SECOND FORM's CARD OF 'rebuslaw29.LitLists'. -/
def litListsUptoCard : Claim7 := { stood := { row := litListsUptoRow, standIns := [], harness := (true, "2da2d860b9e7b4d265c6dc00e9301f4703a38588823d6d97e36b44abfabf26d5"), looks := true }, kinds := [], alts := [], laidByText := true, laidKinds := [.data], laidTests := true, laidLooks := .later }
def LitListsUptoCardSaid : Prop := Claim7.holds Tryd.pinned (.plain (OpenSpec.upto litListsSpec)) litListsUptoCard

/-- THE SECOND FORM's CARD OF 'rebuslaw01.TroubleShows'. -/
def troubleShowsUptoCard : Claim7 := { stood := { row := troubleShowsUptoRow, standIns := [], harness := (true, "2da2d860b9e7b4d265c6dc00e9301f4703a38588823d6d97e36b44abfabf26d5"), looks := true }, kinds := [], alts := [], laidByText := true, laidKinds := [.handle], laidTests := true, laidLooks := .later }
def TroubleShowsUptoCardSaid : Prop := Claim7.holds Tryd.pinned (.plain (OpenSpec.upto troubleShowsSpec)) troubleShowsUptoCard

/-- THE SECOND FORM's CARD OF 'rebuslaw01.TroubleClass'. -/
def troubleClassUptoCard : Claim7 := { stood := { row := troubleClassUptoRow, standIns := [], harness := (true, "2da2d860b9e7b4d265c6dc00e9301f4703a38588823d6d97e36b44abfabf26d5"), looks := true }, kinds := [], alts := [], laidByText := true, laidKinds := [.handle], laidTests := true, laidLooks := .later }
def TroubleClassUptoCardSaid : Prop := Claim7.holds Tryd.pinned (.plain (OpenSpec.upto troubleClassSpec)) troubleClassUptoCard

/-- THE SECOND FORM's CARD OF 'rebuslaw01.TroubleFinds'. -/
def troubleFindsUptoCard : Claim7 := { stood := { row := troubleFindsUptoRow, standIns := [], harness := (true, "2da2d860b9e7b4d265c6dc00e9301f4703a38588823d6d97e36b44abfabf26d5"), looks := true }, kinds := [], alts := [], laidByText := true, laidKinds := [.handle], laidTests := true, laidLooks := .later }
def TroubleFindsUptoCardSaid : Prop := Claim7.holds Tryd.pinned (.plain (OpenSpec.upto troubleFindsSpec)) troubleFindsUptoCard

/-- THE SECOND FORM's CARD OF 'rebuslaw01.TroubleTells'. -/
def troubleTellsUptoCard : Claim7 := { stood := { row := troubleTellsUptoRow, standIns := [], harness := (true, "2da2d860b9e7b4d265c6dc00e9301f4703a38588823d6d97e36b44abfabf26d5"), looks := true }, kinds := [], alts := [], laidByText := true, laidKinds := [.handle], laidTests := true, laidLooks := .later }
def TroubleTellsUptoCardSaid : Prop := Claim7.holds Tryd.pinned (.plain (OpenSpec.upto troubleTellsSpec)) troubleTellsUptoCard

/-- THE SECOND FORM's CARD OF 'rebuslaw31.TreeSame'. -/
def treeSameUptoCard : Claim7 := { stood := { row := treeSameUptoRow, standIns := [], harness := (true, "2da2d860b9e7b4d265c6dc00e9301f4703a38588823d6d97e36b44abfabf26d5"), looks := true }, kinds := [], alts := [], laidByText := true, laidKinds := [.data], laidTests := true, laidLooks := .later }
def TreeSameUptoCardSaid : Prop := Claim7.holds Tryd.pinned (.plain (OpenSpec.upto treeSameSpec)) treeSameUptoCard

/-- THE SECOND FORM's CARD OF 'rebuslaw30.LexRunes'. -/
def lexRunesUptoCard : Claim7 := { stood := { row := lexRunesUptoRow, standIns := [], harness := (true, "2da2d860b9e7b4d265c6dc00e9301f4703a38588823d6d97e36b44abfabf26d5"), looks := true }, kinds := [], alts := [], laidByText := true, laidKinds := [.data, .handle, .pinned], laidTests := true, laidLooks := .later }
def LexRunesUptoCardSaid : Prop := Claim7.holds Tryd.pinned (.plain (OpenSpec.upto lexRunesSpec)) lexRunesUptoCard
end Rows
end Go.Proofs.YtnhnaallalgefaaDoor
