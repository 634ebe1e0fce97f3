/-
  DERIVED. GIVEN WITH THE SEED: THE CARDS: each row of YtbakjaliponbbaaGreatDoorRows.lean that lists a variable, with what it lists TIED to the program's text (the seventh form; the later family's looks); each row that meets fmt, with fmt's text TOLD by the authors' own Lean function (tested against real Go, not proved from fmt's source: count such statements apart). THE CARD IS WHAT COUNTS. Prove the row's statement (the work); the ties are given (YtbakjaliponbbaaGreatDoorTie.lean); close each card by the builder's one call (the guide's Derived/Test/ToyasCard.lean, 'card_holds'). Laid BY PROGRAM, IN A SANDBOX (cutbox-door.mjs). By AI agents, Wed Nov 11 2026. No macro, syntax, notation, axiom, sorry.
-/
import Derived.Test.YtbakjaliponbbaaGreatDoorRows
import GoSem.ClaimSeven
namespace Go.Proofs.YtbakjaliponbbaaGreatDoor
namespace Rows

/-- THE TIED CARD OF 'rebuslaw31.TreeScripts'. -/
def treeScriptsCard : Claim7 := { stood := { row := treeScriptsRow, standIns := [], harness := (true, "5526d64365d36e831b9d420907d0070cb15ce65261f2ba3f524be710c2744c80"), looks := false }, kinds := [], alts := [], laidByText := true, laidKinds := [.data], laidTests := true, laidLooks := .later }
def TreeScriptsCardSaid : Prop := Claim7.holds Tryz.pinned (.plain (OpenSpec.ofChange treeScriptsSpec)) treeScriptsCard

/-- THE TIED CARD OF 'rebuslaw34.IdiomChains'. -/
def idiomChainsCard : Claim7 := { stood := { row := idiomChainsRow, standIns := [], harness := (true, "5526d64365d36e831b9d420907d0070cb15ce65261f2ba3f524be710c2744c80"), looks := false }, kinds := [], alts := [], laidByText := true, laidKinds := [.data], laidTests := true, laidLooks := .later }
def IdiomChainsCardSaid : Prop := Claim7.holds Tryz.pinned (.plain (OpenSpec.ofChange idiomChainsSpec)) idiomChainsCard

/-- THE TIED CARD OF 'rebuslaw34.IdiomMatches'. -/
def idiomMatchesCard : Claim7 := { stood := { row := idiomMatchesRow, standIns := [], harness := (true, "5526d64365d36e831b9d420907d0070cb15ce65261f2ba3f524be710c2744c80"), looks := false }, kinds := [], alts := [], laidByText := true, laidKinds := [.data], laidTests := true, laidLooks := .later }
def IdiomMatchesCardSaid : Prop := Claim7.holds Tryz.pinned (.plain (OpenSpec.ofChange idiomMatchesSpec)) idiomMatchesCard

/-- THE SECOND FORM's CARD OF 'rebuslaw31.TreeScripts'. -/
def treeScriptsUptoCard : Claim7 := { stood := { row := treeScriptsUptoRow, standIns := [], harness := (true, "5526d64365d36e831b9d420907d0070cb15ce65261f2ba3f524be710c2744c80"), looks := false }, kinds := [], alts := [], laidByText := true, laidKinds := [.data], laidTests := true, laidLooks := .later }
def TreeScriptsUptoCardSaid : Prop := Claim7.holds Tryz.pinned (.plain (OpenSpec.upto treeScriptsSpec)) treeScriptsUptoCard

/-- THE SECOND FORM's CARD OF 'rebuslaw34.IdiomChains'. -/
def idiomChainsUptoCard : Claim7 := { stood := { row := idiomChainsUptoRow, standIns := [], harness := (true, "5526d64365d36e831b9d420907d0070cb15ce65261f2ba3f524be710c2744c80"), looks := false }, kinds := [], alts := [], laidByText := true, laidKinds := [.data], laidTests := true, laidLooks := .later }
def IdiomChainsUptoCardSaid : Prop := Claim7.holds Tryz.pinned (.plain (OpenSpec.upto idiomChainsSpec)) idiomChainsUptoCard

/-- THE SECOND FORM's CARD OF 'rebuslaw34.IdiomMatches'. -/
def idiomMatchesUptoCard : Claim7 := { stood := { row := idiomMatchesUptoRow, standIns := [], harness := (true, "5526d64365d36e831b9d420907d0070cb15ce65261f2ba3f524be710c2744c80"), looks := false }, kinds := [], alts := [], laidByText := true, laidKinds := [.data], laidTests := true, laidLooks := .later }
def IdiomMatchesUptoCardSaid : Prop := Claim7.holds Tryz.pinned (.plain (OpenSpec.upto idiomMatchesSpec)) idiomMatchesUptoCard
end Rows
end Go.Proofs.YtbakjaliponbbaaGreatDoor
