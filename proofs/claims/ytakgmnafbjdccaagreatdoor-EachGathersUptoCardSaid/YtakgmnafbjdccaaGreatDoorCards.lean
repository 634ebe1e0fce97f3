/-
  DERIVED. GIVEN WITH THE SEED: THE CARDS: each row of YtakgmnafbjdccaaGreatDoorRows.lean that lists a variable, with what it lists TIED to the program's text (the seventh form; the later family's looks); each row that meets fmt, with fmt's text TOLD by the authors' own Lean function (tested against real Go, not proved from fmt's source: count such statements apart). THE CARD IS WHAT COUNTS. Prove the row's statement (the work); the ties are given (YtakgmnafbjdccaaGreatDoorTie.lean); close each card by the builder's one call (the guide's Derived/Test/ToyasCard.lean, 'card_holds'). Laid BY PROGRAM, IN A SANDBOX (cutbox-door.mjs). By AI agents, Wed Nov 11 2026. No macro, syntax, notation, axiom, sorry.
-/
import Derived.Test.YtakgmnafbjdccaaGreatDoorRows
import GoSem.ClaimSeven
namespace Go.Proofs.YtakgmnafbjdccaaGreatDoor
namespace Rows

/-- THE TIED CARD OF 'rebuslaw26.ProductNums'. -/
def productNumsCard : Claim7 := { stood := { row := productNumsRow, standIns := [], harness := (true, "243ec52a777e17d7223d1ac4e3163177eead04a88d27c93b0717609ee6e17d03"), looks := true }, kinds := [], alts := [], laidByText := true, laidKinds := [.handle], laidTests := true, laidLooks := .later }
def ProductNumsCardSaid : Prop := Claim7.holds Tryz.pinned (.plain (OpenSpec.ofChange productNumsSpec)) productNumsCard

/-- THE TIED CARD OF 'rebuslaw26.ProductMatrix'. -/
def productMatrixCard : Claim7 := { stood := { row := productMatrixRow, standIns := [], harness := (true, "243ec52a777e17d7223d1ac4e3163177eead04a88d27c93b0717609ee6e17d03"), looks := true }, kinds := [], alts := [], laidByText := true, laidKinds := [.handle], laidTests := true, laidLooks := .later }
def ProductMatrixCardSaid : Prop := Claim7.holds Tryz.pinned (.plain (OpenSpec.ofChange productMatrixSpec)) productMatrixCard

/-- THE TIED CARD OF 'rebuslaw25.EachGathers'. -/
def eachGathersCard : Claim7 := { stood := { row := eachGathersRow, standIns := [], harness := (true, "243ec52a777e17d7223d1ac4e3163177eead04a88d27c93b0717609ee6e17d03"), looks := true }, kinds := [], alts := [], laidByText := true, laidKinds := [.data, .handle], laidTests := true, laidLooks := .later }
def EachGathersCardSaid : Prop := Claim7.holds Tryz.pinned (.plain (OpenSpec.ofChange eachGathersSpec)) eachGathersCard

/-- THE TIED CARD OF 'rebuslaw26.ProductOuter'. -/
def productOuterCard : Claim7 := { stood := { row := productOuterRow, standIns := [], harness := (true, "243ec52a777e17d7223d1ac4e3163177eead04a88d27c93b0717609ee6e17d03"), looks := true }, kinds := [], alts := [], laidByText := true, laidKinds := [.handle], laidTests := true, laidLooks := .later }
def ProductOuterCardSaid : Prop := Claim7.holds Tryz.pinned (.plain (OpenSpec.ofChange productOuterSpec)) productOuterCard

/-- THE TIED CARD OF 'rebuslaw26.ProductInner'. -/
def productInnerCard : Claim7 := { stood := { row := productInnerRow, standIns := [], harness := (true, "243ec52a777e17d7223d1ac4e3163177eead04a88d27c93b0717609ee6e17d03"), looks := true }, kinds := [], alts := [], laidByText := true, laidKinds := [.handle], laidTests := true, laidLooks := .later }
def ProductInnerCardSaid : Prop := Claim7.holds Tryz.pinned (.plain (OpenSpec.ofChange productInnerSpec)) productInnerCard

/-- THE TIED CARD OF 'rebuslaw25.EachNums'. -/
def eachNumsCard : Claim7 := { stood := { row := eachNumsRow, standIns := [], harness := (true, "243ec52a777e17d7223d1ac4e3163177eead04a88d27c93b0717609ee6e17d03"), looks := true }, kinds := [], alts := [], laidByText := true, laidKinds := [.data, .handle], laidTests := true, laidLooks := .later }
def EachNumsCardSaid : Prop := Claim7.holds Tryz.pinned (.plain (OpenSpec.ofChange eachNumsSpec)) eachNumsCard

/-- THE TIED CARD OF 'rebuslaw25.EachFolds'. -/
def eachFoldsCard : Claim7 := { stood := { row := eachFoldsRow, standIns := [], harness := (true, "243ec52a777e17d7223d1ac4e3163177eead04a88d27c93b0717609ee6e17d03"), looks := true }, kinds := [], alts := [], laidByText := true, laidKinds := [.data, .handle], laidTests := true, laidLooks := .later }
def EachFoldsCardSaid : Prop := Claim7.holds Tryz.pinned (.plain (OpenSpec.ofChange eachFoldsSpec)) eachFoldsCard

/-- THE SECOND FORM's CARD OF 'rebuslaw26.ProductNums'. -/
def productNumsUptoCard : Claim7 := { stood := { row := productNumsUptoRow, standIns := [], harness := (true, "243ec52a777e17d7223d1ac4e3163177eead04a88d27c93b0717609ee6e17d03"), looks := true }, kinds := [], alts := [], laidByText := true, laidKinds := [.handle], laidTests := true, laidLooks := .later }
def ProductNumsUptoCardSaid : Prop := Claim7.holds Tryz.pinned (.plain (OpenSpec.upto productNumsSpec)) productNumsUptoCard

/-- THE SECOND FORM's CARD OF 'rebuslaw26.ProductMatrix'. -/
def productMatrixUptoCard : Claim7 := { stood := { row := productMatrixUptoRow, standIns := [], harness := (true, "243ec52a777e17d7223d1ac4e3163177eead04a88d27c93b0717609ee6e17d03"), looks := true }, kinds := [], alts := [], laidByText := true, laidKinds := [.handle], laidTests := true, laidLooks := .later }
def ProductMatrixUptoCardSaid : Prop := Claim7.holds Tryz.pinned (.plain (OpenSpec.upto productMatrixSpec)) productMatrixUptoCard

/-- THE SECOND FORM's CARD OF 'rebuslaw25.EachGathers'. -/
def eachGathersUptoCard : Claim7 := { stood := { row := eachGathersUptoRow, standIns := [], harness := (true, "243ec52a777e17d7223d1ac4e3163177eead04a88d27c93b0717609ee6e17d03"), looks := true }, kinds := [], alts := [], laidByText := true, laidKinds := [.data, .handle], laidTests := true, laidLooks := .later }
def EachGathersUptoCardSaid : Prop := Claim7.holds Tryz.pinned (.plain (OpenSpec.upto eachGathersSpec)) eachGathersUptoCard

/-- THE SECOND FORM's CARD OF 'rebuslaw26.ProductOuter'. -/
def productOuterUptoCard : Claim7 := { stood := { row := productOuterUptoRow, standIns := [], harness := (true, "243ec52a777e17d7223d1ac4e3163177eead04a88d27c93b0717609ee6e17d03"), looks := true }, kinds := [], alts := [], laidByText := true, laidKinds := [.handle], laidTests := true, laidLooks := .later }
def ProductOuterUptoCardSaid : Prop := Claim7.holds Tryz.pinned (.plain (OpenSpec.upto productOuterSpec)) productOuterUptoCard

/-- THE SECOND FORM's CARD OF 'rebuslaw26.ProductInner'. -/
def productInnerUptoCard : Claim7 := { stood := { row := productInnerUptoRow, standIns := [], harness := (true, "243ec52a777e17d7223d1ac4e3163177eead04a88d27c93b0717609ee6e17d03"), looks := true }, kinds := [], alts := [], laidByText := true, laidKinds := [.handle], laidTests := true, laidLooks := .later }
def ProductInnerUptoCardSaid : Prop := Claim7.holds Tryz.pinned (.plain (OpenSpec.upto productInnerSpec)) productInnerUptoCard

/-- THE SECOND FORM's CARD OF 'rebuslaw25.EachNums'. -/
def eachNumsUptoCard : Claim7 := { stood := { row := eachNumsUptoRow, standIns := [], harness := (true, "243ec52a777e17d7223d1ac4e3163177eead04a88d27c93b0717609ee6e17d03"), looks := true }, kinds := [], alts := [], laidByText := true, laidKinds := [.data, .handle], laidTests := true, laidLooks := .later }
def EachNumsUptoCardSaid : Prop := Claim7.holds Tryz.pinned (.plain (OpenSpec.upto eachNumsSpec)) eachNumsUptoCard

/-- THE SECOND FORM's CARD OF 'rebuslaw25.EachFolds'. -/
def eachFoldsUptoCard : Claim7 := { stood := { row := eachFoldsUptoRow, standIns := [], harness := (true, "243ec52a777e17d7223d1ac4e3163177eead04a88d27c93b0717609ee6e17d03"), looks := true }, kinds := [], alts := [], laidByText := true, laidKinds := [.data, .handle], laidTests := true, laidLooks := .later }
def EachFoldsUptoCardSaid : Prop := Claim7.holds Tryz.pinned (.plain (OpenSpec.upto eachFoldsSpec)) eachFoldsUptoCard
end Rows
end Go.Proofs.YtakgmnafbjdccaaGreatDoor
