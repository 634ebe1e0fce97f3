/-
  NARROWER THAN 'FOR EVERY INPUT', by the rows' own cells (each row's printed sentence says how): PervadeTwo: loops · PervadeTurns: loops.
  DERIVED. THE GIVEN ROWS OF THIS SEAT. 3 by the template 'for every input the law returns true; each argument reads behind the call as it read before'; 0 by the template 'total and deterministic' (their statements: YtiahegjdkejjpaaGreatTotals.lean).
  GIVEN WITH THE SEED: the statements are not yours to turn. If you find one false, say at which input.
  Laid BY PROGRAM, IN A SANDBOX (cutbox-rows.mjs): the forced cells as the released guide's own fill.sh prints them over the translation eedcc536fff441cf… (all of the seat's roots in one cut). By AI agents, Wed Nov 11 2026. No macro, syntax, notation, axiom, sorry.
-/
import Derived.Test.YtiahegjdkejjpaaGreatChecked
import GoSem.Claim
import GoSem.ClaimJoined
import GoSem.ClaimMapViews
import Derived.JoinedTies
import Derived.KernelRfl
namespace Go.Proofs.YtiahegjdkejjpaaGreat
/- THE CELL 'sum', in the pinned program and in every row, IS THE sha256 OF THE DUMP (.gsa) THAT YtiahegjdkejjpaaGreatProg.lean LOADS. Nothing in Lean hashes anything: it is a label: what it is worth is what the hold of that sum in a sandbox is worth. -/
noncomputable def Tryz.pinned : Pinned := { name := "ytiahegjdkejjpaagreat", sum := "eedcc536fff441cf960f35926d1acc4a66b20ba9e073740d0252921e9e2fcc91", checked := Tryz.checked }
namespace Rows
def none {H : Type} : Left H := { results := [], args := [] }

/-- 'rebuslaw24.PervadeTwo': WHATEVER THE INPUT: true; the input reads as it did. -/
def pervadeTwoSpec : ChangeSpec := { name := "pervadeTwo", fn := fun _ => fun
  | [d1, d2, d3] => { results := [.lit (.bool true)], args := [d1, d2, d3] }
  | _ => none }
def pervadeTwoRow : OpenClaim := { program := "ytiahegjdkejjpaagreat", sum := "eedcc536fff441cf960f35926d1acc4a66b20ba9e073740d0252921e9e2fcc91", func := "rebus/rebuslaw24.PervadeTwo", spec := "pervadeTwo", unfollowed := true, recurses := true, loops := true, apart := false }
def PervadeTwoSaid : Prop := pervadeTwoRow.holds Tryz.pinned (OpenSpec.ofChange pervadeTwoSpec)

/-- ITS FALSE NEIGHBOUR: 'it returns false'. Refute it at one input. -/
def pervadeTwoWrong : ChangeSpec := { name := "pervadeTwo", fn := fun _ => fun
  | [d1, d2, d3] => { results := [.lit (.bool false)], args := [d1, d2, d3] }
  | _ => none }
def PervadeTwoWrongFalsely : Prop := pervadeTwoRow.holds Tryz.pinned (OpenSpec.ofChange pervadeTwoWrong)

/-- 'rebuslaw24.PervadeBack': WHATEVER THE INPUT: true; the input reads as it did. -/
def pervadeBackSpec : ChangeSpec := { name := "pervadeBack", fn := fun _ => fun
  | [d1, d2, d3] => { results := [.lit (.bool true)], args := [d1, d2, d3] }
  | _ => none }
def pervadeBackRow : OpenClaim := { program := "ytiahegjdkejjpaagreat", sum := "eedcc536fff441cf960f35926d1acc4a66b20ba9e073740d0252921e9e2fcc91", func := "rebus/rebuslaw24.PervadeBack", spec := "pervadeBack", unfollowed := true, recurses := true, apart := false }
def PervadeBackSaid : Prop := pervadeBackRow.holds Tryz.pinned (OpenSpec.ofChange pervadeBackSpec)

/-- ITS FALSE NEIGHBOUR: 'it returns false'. Refute it at one input. -/
def pervadeBackWrong : ChangeSpec := { name := "pervadeBack", fn := fun _ => fun
  | [d1, d2, d3] => { results := [.lit (.bool false)], args := [d1, d2, d3] }
  | _ => none }
def PervadeBackWrongFalsely : Prop := pervadeBackRow.holds Tryz.pinned (OpenSpec.ofChange pervadeBackWrong)

/-- 'rebuslaw24.PervadeTurns': WHATEVER THE INPUT: true; the input reads as it did. -/
def pervadeTurnsSpec : ChangeSpec := { name := "pervadeTurns", fn := fun _ => fun
  | [d1, d2, d3] => { results := [.lit (.bool true)], args := [d1, d2, d3] }
  | _ => none }
def pervadeTurnsRow : OpenClaim := { program := "ytiahegjdkejjpaagreat", sum := "eedcc536fff441cf960f35926d1acc4a66b20ba9e073740d0252921e9e2fcc91", func := "rebus/rebuslaw24.PervadeTurns", spec := "pervadeTurns", unfollowed := true, recurses := true, loops := true, apart := false }
def PervadeTurnsSaid : Prop := pervadeTurnsRow.holds Tryz.pinned (OpenSpec.ofChange pervadeTurnsSpec)

/-- ITS FALSE NEIGHBOUR: 'it returns false'. Refute it at one input. -/
def pervadeTurnsWrong : ChangeSpec := { name := "pervadeTurns", fn := fun _ => fun
  | [d1, d2, d3] => { results := [.lit (.bool false)], args := [d1, d2, d3] }
  | _ => none }
def PervadeTurnsWrongFalsely : Prop := pervadeTurnsRow.holds Tryz.pinned (OpenSpec.ofChange pervadeTurnsWrong)

/- THE SECOND FORM. 'bulk': how many values and letters a reading holds, each counted each time it is reached (what is shared counts as often as it is met; a slice's spare places count too). A statement '..UptoSaid' is the law's where the arguments, and the package variables that the reading takes, are together of bulk at most 1048576: NARROWER than '..Said'. Prove '..Said' where nothing that the law and all that it calls make is longer than what came in: it says more and counts as full. Else prove '..UptoSaid'. A law counts once. -/
mutual
def uptoBulk {H : Type} : DataW H → Nat
  | .lit (.string bytes) => bytes.length + 1
  | .lit _ => 1
  | .nil => 1
  | .ptr d => uptoBulk d + 1
  | .slice elems spare => uptoBulkAll elems + uptoBulkAll spare + 1
  | .agg parts => uptoBulkAll parts + 1
  | .iface _ d => uptoBulk d + 1
  | .map entries => uptoBulkEntries entries + 1
  | .held _ => 1
def uptoBulkAll {H : Type} : List (DataW H) → Nat
  | [] => 0
  | d :: r => uptoBulk d + uptoBulkAll r
def uptoBulkEntries {H : Type} : List (Lit × DataW H) → Nat
  | [] => 0
  | x :: r => uptoBulkEntry x + uptoBulkEntries r
def uptoBulkEntry {H : Type} : Lit × DataW H → Nat
  | (.string bytes, d) => bytes.length + uptoBulk d + 1
  | (_, d) => uptoBulk d + 1
 end
def uptoSmall : (H : Type) → List (DataW H) → Bool := fun _ ds => decide (uptoBulkAll ds ≤ 1048576)
def OpenSpec.upto (s : _root_.Go.ChangeSpec) : _root_.Go.OpenSpec := { _root_.Go.OpenSpec.ofChange s with cond := some uptoSmall }

/-- 'rebuslaw24.PervadeTwo', WHERE WHAT IT READS IS OF BULK AT MOST 1048576: true; the input reads as it did. -/
def pervadeTwoUptoRow : OpenClaim := { program := "ytiahegjdkejjpaagreat", sum := "eedcc536fff441cf960f35926d1acc4a66b20ba9e073740d0252921e9e2fcc91", func := "rebus/rebuslaw24.PervadeTwo", spec := "pervadeTwo", unfollowed := true, recurses := true, loops := true, apart := false, narrowed := true }
def PervadeTwoUptoSaid : Prop := pervadeTwoUptoRow.holds Tryz.pinned (OpenSpec.upto pervadeTwoSpec)

/-- 'rebuslaw24.PervadeBack', WHERE WHAT IT READS IS OF BULK AT MOST 1048576: true; the input reads as it did. -/
def pervadeBackUptoRow : OpenClaim := { program := "ytiahegjdkejjpaagreat", sum := "eedcc536fff441cf960f35926d1acc4a66b20ba9e073740d0252921e9e2fcc91", func := "rebus/rebuslaw24.PervadeBack", spec := "pervadeBack", unfollowed := true, recurses := true, apart := false, narrowed := true }
def PervadeBackUptoSaid : Prop := pervadeBackUptoRow.holds Tryz.pinned (OpenSpec.upto pervadeBackSpec)

/-- 'rebuslaw24.PervadeTurns', WHERE WHAT IT READS IS OF BULK AT MOST 1048576: true; the input reads as it did. -/
def pervadeTurnsUptoRow : OpenClaim := { program := "ytiahegjdkejjpaagreat", sum := "eedcc536fff441cf960f35926d1acc4a66b20ba9e073740d0252921e9e2fcc91", func := "rebus/rebuslaw24.PervadeTurns", spec := "pervadeTurns", unfollowed := true, recurses := true, loops := true, apart := false, narrowed := true }
def PervadeTurnsUptoSaid : Prop := pervadeTurnsUptoRow.holds Tryz.pinned (OpenSpec.upto pervadeTurnsSpec)

end Rows
end Go.Proofs.YtiahegjdkejjpaaGreat
