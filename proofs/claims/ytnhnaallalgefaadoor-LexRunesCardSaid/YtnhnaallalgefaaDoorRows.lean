/-
  NARROWER THAN 'FOR EVERY INPUT', by the rows' own cells (each row's printed sentence says how): LitWrites: laid · LitReads: laid · LitScales: laid · LitApart: laid · LitLists: laid · TroubleShows: laid · TroubleClass: laid · TroubleFinds: laid · TroubleTells: laid · TreeSame: loops, laid · LexRunes: laid.
  DERIVED. THE GIVEN ROWS OF THIS SEAT. 11 by the template 'for every input the law returns true; each argument reads behind the call as it read before'; 0 by the template 'total and deterministic' (their statements: YtnhnaallalgefaaDoorTotals.lean).
  GIVEN WITH THE SEED: the statements are not yours to turn. If you find one false, say at which input.
  Laid BY PROGRAM, IN A SANDBOX (cutbox-rows.mjs): the forced cells as the released guide's own fill.sh prints them over the translation dfb1184838d3bf28… (all of the seat's roots in one cut). By AI agents, Wed Nov 11 2026. No macro, syntax, notation, axiom, sorry.
-/
import Derived.Test.YtnhnaallalgefaaDoorChecked
import GoSem.PinnedTables
import GoSem.Claim
import GoSem.ClaimJoined
import GoSem.ClaimMapViews
import Derived.JoinedTies
import Derived.KernelRfl
namespace Go.Proofs.YtnhnaallalgefaaDoor
/- THE CELL 'sum', in the pinned program and in every row, IS THE sha256 OF THE DUMP (.gsa) THAT YtnhnaallalgefaaDoorProg.lean LOADS. Nothing in Lean hashes anything: it is a label: what it is worth is what the hold of that sum in a sandbox is worth. -/
noncomputable def Tryd.pinned : Pinned := { name := "ytnhnaallalgefaadoor", sum := "dfb1184838d3bf286da79dc47223491c22d76418e7e2fe9651fda84b33897648", checked := Tryd.checked }
namespace Rows
def none {H : Type} : Left H := { results := [], args := [] }

/- WHAT THE LISTED PACKAGE-LEVEL VARIABLES READ AS WHEN THE CALL BEGINS. Each datum BY PROGRAM (the guide's laid-datum.mjs) off the statement by which the dump's own 'gosem.cut.vars' lays the variable. In a bare row this is a premise. The card (YtnhnaallalgefaaDoorCards.lean) ties it to the program's text. -/
def laid_math_bits_deBruijn64tab {H : Type} : DataW H := .agg [.lit (.int .u8 0), .lit (.int .u8 1), .lit (.int .u8 56), .lit (.int .u8 2), .lit (.int .u8 57), .lit (.int .u8 49), .lit (.int .u8 28), .lit (.int .u8 3), .lit (.int .u8 61), .lit (.int .u8 58), .lit (.int .u8 42), .lit (.int .u8 50), .lit (.int .u8 38), .lit (.int .u8 29), .lit (.int .u8 17), .lit (.int .u8 4), .lit (.int .u8 62), .lit (.int .u8 47), .lit (.int .u8 59), .lit (.int .u8 36), .lit (.int .u8 45), .lit (.int .u8 43), .lit (.int .u8 51), .lit (.int .u8 22), .lit (.int .u8 53), .lit (.int .u8 39), .lit (.int .u8 33), .lit (.int .u8 30), .lit (.int .u8 24), .lit (.int .u8 18), .lit (.int .u8 12), .lit (.int .u8 5), .lit (.int .u8 63), .lit (.int .u8 55), .lit (.int .u8 48), .lit (.int .u8 27), .lit (.int .u8 60), .lit (.int .u8 41), .lit (.int .u8 37), .lit (.int .u8 16), .lit (.int .u8 46), .lit (.int .u8 35), .lit (.int .u8 44), .lit (.int .u8 21), .lit (.int .u8 52), .lit (.int .u8 32), .lit (.int .u8 23), .lit (.int .u8 11), .lit (.int .u8 54), .lit (.int .u8 26), .lit (.int .u8 40), .lit (.int .u8 15), .lit (.int .u8 34), .lit (.int .u8 20), .lit (.int .u8 31), .lit (.int .u8 10), .lit (.int .u8 25), .lit (.int .u8 14), .lit (.int .u8 19), .lit (.int .u8 9), .lit (.int .u8 13), .lit (.int .u8 8), .lit (.int .u8 7), .lit (.int .u8 6)]
def laid_errors_errorType {H : Type} : DataW H := .iface "internal/reflectlite.rtype" (.agg [.ptr (.lit (.string [101, 114, 114, 111, 114]))])
def laid_unicode_utf8_acceptRanges {H : Type} : DataW H := .agg [.agg [.lit (.int .u8 128), .lit (.int .u8 191)], .agg [.lit (.int .u8 160), .lit (.int .u8 191)], .agg [.lit (.int .u8 128), .lit (.int .u8 159)], .agg [.lit (.int .u8 144), .lit (.int .u8 191)], .agg [.lit (.int .u8 128), .lit (.int .u8 143)], .agg [.lit (.int .u8 0), .lit (.int .u8 0)], .agg [.lit (.int .u8 0), .lit (.int .u8 0)], .agg [.lit (.int .u8 0), .lit (.int .u8 0)], .agg [.lit (.int .u8 0), .lit (.int .u8 0)], .agg [.lit (.int .u8 0), .lit (.int .u8 0)], .agg [.lit (.int .u8 0), .lit (.int .u8 0)], .agg [.lit (.int .u8 0), .lit (.int .u8 0)], .agg [.lit (.int .u8 0), .lit (.int .u8 0)], .agg [.lit (.int .u8 0), .lit (.int .u8 0)], .agg [.lit (.int .u8 0), .lit (.int .u8 0)], .agg [.lit (.int .u8 0), .lit (.int .u8 0)]]
/-- One of Go's own tables, pinned by name: the form's constant. -/
def laid_unicode_utf8_first : DataW Unit := Go.Pinned.utf8First

/-- 'rebuslaw29.LitWrites': WHATEVER THE INPUT: true; the input reads as it did. -/
def litWritesSpec : ChangeSpec := { name := "litWrites", fn := fun _ => fun
  | [d] => { results := [.lit (.bool true)], args := [d] }
  | _ => none }
def litWritesRow : OpenClaim := { program := "ytnhnaallalgefaadoor", sum := "dfb1184838d3bf286da79dc47223491c22d76418e7e2fe9651fda84b33897648", func := "rebus/rebuslaw29.LitWrites", spec := "litWrites", inPlace := ["math.Float64bits", "math.Float64frombits"], named := ["math/bits.deBruijn64tab"], apart := false, laid := [("math/bits.deBruijn64tab", laid_math_bits_deBruijn64tab)] }
def LitWritesSaid : Prop := litWritesRow.holds Tryd.pinned (OpenSpec.ofChange litWritesSpec)

/-- ITS FALSE NEIGHBOUR: 'it returns false'. Refute it at one input. -/
def litWritesWrong : ChangeSpec := { name := "litWrites", fn := fun _ => fun
  | [d] => { results := [.lit (.bool false)], args := [d] }
  | _ => none }
def LitWritesWrongFalsely : Prop := litWritesRow.holds Tryd.pinned (OpenSpec.ofChange litWritesWrong)

/-- 'rebuslaw29.LitReads': WHATEVER THE INPUT: true; the input reads as it did. -/
def litReadsSpec : ChangeSpec := { name := "litReads", fn := fun _ => fun
  | [d1, d2] => { results := [.lit (.bool true)], args := [d1, d2] }
  | _ => none }
def litReadsRow : OpenClaim := { program := "ytnhnaallalgefaadoor", sum := "dfb1184838d3bf286da79dc47223491c22d76418e7e2fe9651fda84b33897648", func := "rebus/rebuslaw29.LitReads", spec := "litReads", inPlace := ["math.Float64bits", "math.Float64frombits"], named := ["math/bits.deBruijn64tab"], apart := false, laid := [("math/bits.deBruijn64tab", laid_math_bits_deBruijn64tab)] }
def LitReadsSaid : Prop := litReadsRow.holds Tryd.pinned (OpenSpec.ofChange litReadsSpec)

/-- ITS FALSE NEIGHBOUR: 'it returns false'. Refute it at one input. -/
def litReadsWrong : ChangeSpec := { name := "litReads", fn := fun _ => fun
  | [d1, d2] => { results := [.lit (.bool false)], args := [d1, d2] }
  | _ => none }
def LitReadsWrongFalsely : Prop := litReadsRow.holds Tryd.pinned (OpenSpec.ofChange litReadsWrong)

/-- 'rebuslaw29.LitScales': WHATEVER THE INPUT: true; the input reads as it did. -/
def litScalesSpec : ChangeSpec := { name := "litScales", fn := fun _ => fun
  | [d1, d2, d3] => { results := [.lit (.bool true)], args := [d1, d2, d3] }
  | _ => none }
def litScalesRow : OpenClaim := { program := "ytnhnaallalgefaadoor", sum := "dfb1184838d3bf286da79dc47223491c22d76418e7e2fe9651fda84b33897648", func := "rebus/rebuslaw29.LitScales", spec := "litScales", inPlace := ["math.Float64bits", "math.Float64frombits"], named := ["math/bits.deBruijn64tab"], apart := false, laid := [("math/bits.deBruijn64tab", laid_math_bits_deBruijn64tab)] }
def LitScalesSaid : Prop := litScalesRow.holds Tryd.pinned (OpenSpec.ofChange litScalesSpec)

/-- ITS FALSE NEIGHBOUR: 'it returns false'. Refute it at one input. -/
def litScalesWrong : ChangeSpec := { name := "litScales", fn := fun _ => fun
  | [d1, d2, d3] => { results := [.lit (.bool false)], args := [d1, d2, d3] }
  | _ => none }
def LitScalesWrongFalsely : Prop := litScalesRow.holds Tryd.pinned (OpenSpec.ofChange litScalesWrong)

/-- 'rebuslaw29.LitApart': WHATEVER THE INPUT: true; the input reads as it did. -/
def litApartSpec : ChangeSpec := { name := "litApart", fn := fun _ => fun
  | [d1, d2] => { results := [.lit (.bool true)], args := [d1, d2] }
  | _ => none }
def litApartRow : OpenClaim := { program := "ytnhnaallalgefaadoor", sum := "dfb1184838d3bf286da79dc47223491c22d76418e7e2fe9651fda84b33897648", func := "rebus/rebuslaw29.LitApart", spec := "litApart", inPlace := ["math.Float64bits", "math.Float64frombits"], named := ["math/bits.deBruijn64tab"], apart := false, laid := [("math/bits.deBruijn64tab", laid_math_bits_deBruijn64tab)] }
def LitApartSaid : Prop := litApartRow.holds Tryd.pinned (OpenSpec.ofChange litApartSpec)

/-- ITS FALSE NEIGHBOUR: 'it returns false'. Refute it at one input. -/
def litApartWrong : ChangeSpec := { name := "litApart", fn := fun _ => fun
  | [d1, d2] => { results := [.lit (.bool false)], args := [d1, d2] }
  | _ => none }
def LitApartWrongFalsely : Prop := litApartRow.holds Tryd.pinned (OpenSpec.ofChange litApartWrong)

/-- 'rebuslaw29.LitLists': WHATEVER THE INPUT: true; the input reads as it did. -/
def litListsSpec : ChangeSpec := { name := "litLists", fn := fun _ => fun
  | [d] => { results := [.lit (.bool true)], args := [d] }
  | _ => none }
def litListsRow : OpenClaim := { program := "ytnhnaallalgefaadoor", sum := "dfb1184838d3bf286da79dc47223491c22d76418e7e2fe9651fda84b33897648", func := "rebus/rebuslaw29.LitLists", spec := "litLists", inPlace := ["math.Float64bits", "math.Float64frombits"], named := ["math/bits.deBruijn64tab"], apart := false, laid := [("math/bits.deBruijn64tab", laid_math_bits_deBruijn64tab)] }
def LitListsSaid : Prop := litListsRow.holds Tryd.pinned (OpenSpec.ofChange litListsSpec)

/-- ITS FALSE NEIGHBOUR: 'it returns false'. Refute it at one input. -/
def litListsWrong : ChangeSpec := { name := "litLists", fn := fun _ => fun
  | [d] => { results := [.lit (.bool false)], args := [d] }
  | _ => none }
def LitListsWrongFalsely : Prop := litListsRow.holds Tryd.pinned (OpenSpec.ofChange litListsWrong)

/-- 'rebuslaw01.TroubleShows': WHATEVER THE INPUT: true; the input reads as it did. -/
def troubleShowsSpec : ChangeSpec := { name := "troubleShows", fn := fun _ => fun
  | [d1, d2, d3, d4] => { results := [.lit (.bool true)], args := [d1, d2, d3, d4] }
  | _ => none }
def troubleShowsRow : OpenClaim := { program := "ytnhnaallalgefaadoor", sum := "dfb1184838d3bf286da79dc47223491c22d76418e7e2fe9651fda84b33897648", func := "rebus/rebuslaw01.TroubleShows", spec := "troubleShows", inPlace := ["internal/reflectlite.ValueOf", "(internal/reflectlite.Value).Type", "(internal/reflectlite.Value).IsNil", "internal/reflectlite.TypeOf", "(internal/reflectlite.Value).Elem", "(internal/reflectlite.Value).Set"], unfollowed := true, recurses := true, named := ["errors.errorType"], apart := false, laid := [("errors.errorType", laid_errors_errorType)] }
def TroubleShowsSaid : Prop := troubleShowsRow.holds Tryd.pinned (OpenSpec.ofChange troubleShowsSpec)

/-- ITS FALSE NEIGHBOUR: 'it returns false'. Refute it at one input. -/
def troubleShowsWrong : ChangeSpec := { name := "troubleShows", fn := fun _ => fun
  | [d1, d2, d3, d4] => { results := [.lit (.bool false)], args := [d1, d2, d3, d4] }
  | _ => none }
def TroubleShowsWrongFalsely : Prop := troubleShowsRow.holds Tryd.pinned (OpenSpec.ofChange troubleShowsWrong)

/-- 'rebuslaw01.TroubleClass': WHATEVER THE INPUT: true; the input reads as it did. -/
def troubleClassSpec : ChangeSpec := { name := "troubleClass", fn := fun _ => fun
  | [d1, d2] => { results := [.lit (.bool true)], args := [d1, d2] }
  | _ => none }
def troubleClassRow : OpenClaim := { program := "ytnhnaallalgefaadoor", sum := "dfb1184838d3bf286da79dc47223491c22d76418e7e2fe9651fda84b33897648", func := "rebus/rebuslaw01.TroubleClass", spec := "troubleClass", inPlace := ["internal/reflectlite.ValueOf", "(internal/reflectlite.Value).Type", "(internal/reflectlite.Value).IsNil", "internal/reflectlite.TypeOf", "(internal/reflectlite.Value).Elem", "(internal/reflectlite.Value).Set"], unfollowed := true, recurses := true, named := ["errors.errorType"], apart := false, laid := [("errors.errorType", laid_errors_errorType)] }
def TroubleClassSaid : Prop := troubleClassRow.holds Tryd.pinned (OpenSpec.ofChange troubleClassSpec)

/-- ITS FALSE NEIGHBOUR: 'it returns false'. Refute it at one input. -/
def troubleClassWrong : ChangeSpec := { name := "troubleClass", fn := fun _ => fun
  | [d1, d2] => { results := [.lit (.bool false)], args := [d1, d2] }
  | _ => none }
def TroubleClassWrongFalsely : Prop := troubleClassRow.holds Tryd.pinned (OpenSpec.ofChange troubleClassWrong)

/-- 'rebuslaw01.TroubleFinds': WHATEVER THE INPUT: true; the input reads as it did. -/
def troubleFindsSpec : ChangeSpec := { name := "troubleFinds", fn := fun _ => fun
  | [d1, d2, d3, d4] => { results := [.lit (.bool true)], args := [d1, d2, d3, d4] }
  | _ => none }
def troubleFindsRow : OpenClaim := { program := "ytnhnaallalgefaadoor", sum := "dfb1184838d3bf286da79dc47223491c22d76418e7e2fe9651fda84b33897648", func := "rebus/rebuslaw01.TroubleFinds", spec := "troubleFinds", inPlace := ["internal/reflectlite.ValueOf", "(internal/reflectlite.Value).Type", "(internal/reflectlite.Value).IsNil", "internal/reflectlite.TypeOf", "(internal/reflectlite.Value).Elem", "(internal/reflectlite.Value).Set"], unfollowed := true, recurses := true, named := ["errors.errorType"], apart := false, laid := [("errors.errorType", laid_errors_errorType)] }
def TroubleFindsSaid : Prop := troubleFindsRow.holds Tryd.pinned (OpenSpec.ofChange troubleFindsSpec)

/-- ITS FALSE NEIGHBOUR: 'it returns false'. Refute it at one input. -/
def troubleFindsWrong : ChangeSpec := { name := "troubleFinds", fn := fun _ => fun
  | [d1, d2, d3, d4] => { results := [.lit (.bool false)], args := [d1, d2, d3, d4] }
  | _ => none }
def TroubleFindsWrongFalsely : Prop := troubleFindsRow.holds Tryd.pinned (OpenSpec.ofChange troubleFindsWrong)

/-- 'rebuslaw01.TroubleTells': WHATEVER THE INPUT: true; the input reads as it did. -/
def troubleTellsSpec : ChangeSpec := { name := "troubleTells", fn := fun _ => fun
  | [d1, d2, d3, d4] => { results := [.lit (.bool true)], args := [d1, d2, d3, d4] }
  | _ => none }
def troubleTellsRow : OpenClaim := { program := "ytnhnaallalgefaadoor", sum := "dfb1184838d3bf286da79dc47223491c22d76418e7e2fe9651fda84b33897648", func := "rebus/rebuslaw01.TroubleTells", spec := "troubleTells", inPlace := ["internal/reflectlite.ValueOf", "(internal/reflectlite.Value).Type", "(internal/reflectlite.Value).IsNil", "internal/reflectlite.TypeOf", "(internal/reflectlite.Value).Elem", "(internal/reflectlite.Value).Set"], unfollowed := true, recurses := true, named := ["errors.errorType"], apart := false, laid := [("errors.errorType", laid_errors_errorType)] }
def TroubleTellsSaid : Prop := troubleTellsRow.holds Tryd.pinned (OpenSpec.ofChange troubleTellsSpec)

/-- ITS FALSE NEIGHBOUR: 'it returns false'. Refute it at one input. -/
def troubleTellsWrong : ChangeSpec := { name := "troubleTells", fn := fun _ => fun
  | [d1, d2, d3, d4] => { results := [.lit (.bool false)], args := [d1, d2, d3, d4] }
  | _ => none }
def TroubleTellsWrongFalsely : Prop := troubleTellsRow.holds Tryd.pinned (OpenSpec.ofChange troubleTellsWrong)

/-- 'rebuslaw31.TreeSame': WHATEVER THE INPUT: true; the input reads as it did. -/
def treeSameSpec : ChangeSpec := { name := "treeSame", fn := fun _ => fun
  | [d1, d2, d3] => { results := [.lit (.bool true)], args := [d1, d2, d3] }
  | _ => none }
def treeSameRow : OpenClaim := { program := "ytnhnaallalgefaadoor", sum := "dfb1184838d3bf286da79dc47223491c22d76418e7e2fe9651fda84b33897648", func := "rebus/rebuslaw31.TreeSame", spec := "treeSame", inPlace := ["math.Float64bits", "math.Float64frombits"], unfollowed := true, recurses := true, named := ["math/bits.deBruijn64tab"], loops := true, apart := false, laid := [("math/bits.deBruijn64tab", laid_math_bits_deBruijn64tab)] }
def TreeSameSaid : Prop := treeSameRow.holds Tryd.pinned (OpenSpec.ofChange treeSameSpec)

/-- ITS FALSE NEIGHBOUR: 'it returns false'. Refute it at one input. -/
def treeSameWrong : ChangeSpec := { name := "treeSame", fn := fun _ => fun
  | [d1, d2, d3] => { results := [.lit (.bool false)], args := [d1, d2, d3] }
  | _ => none }
def TreeSameWrongFalsely : Prop := treeSameRow.holds Tryd.pinned (OpenSpec.ofChange treeSameWrong)

/-- 'rebuslaw30.LexRunes': WHATEVER THE INPUT: true; the input reads as it did. -/
def lexRunesSpec : ChangeSpec := { name := "lexRunes", fn := fun _ => fun
  | [d] => { results := [.lit (.bool true)], args := [d] }
  | _ => none }
def lexRunesRow : OpenClaim := { program := "ytnhnaallalgefaadoor", sum := "dfb1184838d3bf286da79dc47223491c22d76418e7e2fe9651fda84b33897648", func := "rebus/rebuslaw30.LexRunes", spec := "lexRunes", inPlace := ["math.Float64bits", "math.Float64frombits", "internal/reflectlite.ValueOf", "(internal/reflectlite.Value).Type", "(internal/reflectlite.Value).IsNil", "internal/reflectlite.TypeOf", "(internal/reflectlite.Value).Elem", "(internal/reflectlite.Value).Set"], unfollowed := true, recurses := true, named := ["unicode/utf8.first", "unicode/utf8.acceptRanges", "errors.errorType"], apart := false, laid := [("unicode/utf8.acceptRanges", laid_unicode_utf8_acceptRanges), ("errors.errorType", laid_errors_errorType), ("unicode/utf8.first", laid_unicode_utf8_first)] }
def LexRunesSaid : Prop := lexRunesRow.holds Tryd.pinned (OpenSpec.ofChange lexRunesSpec)

/-- ITS FALSE NEIGHBOUR: 'it returns false'. Refute it at one input. -/
def lexRunesWrong : ChangeSpec := { name := "lexRunes", fn := fun _ => fun
  | [d] => { results := [.lit (.bool false)], args := [d] }
  | _ => none }
def LexRunesWrongFalsely : Prop := lexRunesRow.holds Tryd.pinned (OpenSpec.ofChange lexRunesWrong)

/- THE SECOND FORM. 'bulk': how many values and letters a reading holds, each counted each time it is reached (what is shared counts as often as it is met; a slice's spare places count too). A statement '..UptoSaid' is the law's where the arguments, and the package variables that the reading takes, are together of bulk at most 1048576: NARROWER than '..Said'. Prove '..Said' where nothing that the law and all that it calls make is longer than what came in: it says more and counts as full. Else prove '..UptoSaid'. A law counts once. -/
mutual
def uptoBulk {H : Type} : DataW H → Nat
  | .lit (.string bytes) => bytes.length + 1
  | .lit _ => 1
  | .nil => 1
  | .ptr d => uptoBulk d + 1
  | .slice elems spare => uptoBulkAll elems + uptoBulkAll spare + 1
  | .agg parts => uptoBulkAll parts + 1
  | .iface _ d => uptoBulk d + 1
  | .map entries => uptoBulkEntries entries + 1
  | .held _ => 1
def uptoBulkAll {H : Type} : List (DataW H) → Nat
  | [] => 0
  | d :: r => uptoBulk d + uptoBulkAll r
def uptoBulkEntries {H : Type} : List (Lit × DataW H) → Nat
  | [] => 0
  | x :: r => uptoBulkEntry x + uptoBulkEntries r
def uptoBulkEntry {H : Type} : Lit × DataW H → Nat
  | (.string bytes, d) => bytes.length + uptoBulk d + 1
  | (_, d) => uptoBulk d + 1
 end
def uptoSmall : (H : Type) → List (DataW H) → Bool := fun _ ds => decide (uptoBulkAll ds ≤ 1048576)
def OpenSpec.upto (s : _root_.Go.ChangeSpec) : _root_.Go.OpenSpec := { _root_.Go.OpenSpec.ofChange s with cond := some uptoSmall }

/-- 'rebuslaw29.LitWrites', WHERE WHAT IT READS IS OF BULK AT MOST 1048576: true; the input reads as it did. -/
def litWritesUptoRow : OpenClaim := { program := "ytnhnaallalgefaadoor", sum := "dfb1184838d3bf286da79dc47223491c22d76418e7e2fe9651fda84b33897648", func := "rebus/rebuslaw29.LitWrites", spec := "litWrites", inPlace := ["math.Float64bits", "math.Float64frombits"], named := ["math/bits.deBruijn64tab"], apart := false, laid := [("math/bits.deBruijn64tab", laid_math_bits_deBruijn64tab)], narrowed := true }
def LitWritesUptoSaid : Prop := litWritesUptoRow.holds Tryd.pinned (OpenSpec.upto litWritesSpec)

/-- 'rebuslaw29.LitReads', WHERE WHAT IT READS IS OF BULK AT MOST 1048576: true; the input reads as it did. -/
def litReadsUptoRow : OpenClaim := { program := "ytnhnaallalgefaadoor", sum := "dfb1184838d3bf286da79dc47223491c22d76418e7e2fe9651fda84b33897648", func := "rebus/rebuslaw29.LitReads", spec := "litReads", inPlace := ["math.Float64bits", "math.Float64frombits"], named := ["math/bits.deBruijn64tab"], apart := false, laid := [("math/bits.deBruijn64tab", laid_math_bits_deBruijn64tab)], narrowed := true }
def LitReadsUptoSaid : Prop := litReadsUptoRow.holds Tryd.pinned (OpenSpec.upto litReadsSpec)

/-- 'rebuslaw29.LitScales', WHERE WHAT IT READS IS OF BULK AT MOST 1048576: true; the input reads as it did. -/
def litScalesUptoRow : OpenClaim := { program := "ytnhnaallalgefaadoor", sum := "dfb1184838d3bf286da79dc47223491c22d76418e7e2fe9651fda84b33897648", func := "rebus/rebuslaw29.LitScales", spec := "litScales", inPlace := ["math.Float64bits", "math.Float64frombits"], named := ["math/bits.deBruijn64tab"], apart := false, laid := [("math/bits.deBruijn64tab", laid_math_bits_deBruijn64tab)], narrowed := true }
def LitScalesUptoSaid : Prop := litScalesUptoRow.holds Tryd.pinned (OpenSpec.upto litScalesSpec)

/-- 'rebuslaw29.LitApart', WHERE WHAT IT READS IS OF BULK AT MOST 1048576: true; the input reads as it did. -/
def litApartUptoRow : OpenClaim := { program := "ytnhnaallalgefaadoor", sum := "dfb1184838d3bf286da79dc47223491c22d76418e7e2fe9651fda84b33897648", func := "rebus/rebuslaw29.LitApart", spec := "litApart", inPlace := ["math.Float64bits", "math.Float64frombits"], named := ["math/bits.deBruijn64tab"], apart := false, laid := [("math/bits.deBruijn64tab", laid_math_bits_deBruijn64tab)], narrowed := true }
def LitApartUptoSaid : Prop := litApartUptoRow.holds Tryd.pinned (OpenSpec.upto litApartSpec)

/-- 'rebuslaw29.LitLists', WHERE WHAT IT READS IS OF BULK AT MOST 1048576: true; the input reads as it did. -/
def litListsUptoRow : OpenClaim := { program := "ytnhnaallalgefaadoor", sum := "dfb1184838d3bf286da79dc47223491c22d76418e7e2fe9651fda84b33897648", func := "rebus/rebuslaw29.LitLists", spec := "litLists", inPlace := ["math.Float64bits", "math.Float64frombits"], named := ["math/bits.deBruijn64tab"], apart := false, laid := [("math/bits.deBruijn64tab", laid_math_bits_deBruijn64tab)], narrowed := true }
def LitListsUptoSaid : Prop := litListsUptoRow.holds Tryd.pinned (OpenSpec.upto litListsSpec)

/-- 'rebuslaw01.TroubleShows', WHERE WHAT IT READS IS OF BULK AT MOST 1048576: true; the input reads as it did. -/
def troubleShowsUptoRow : OpenClaim := { program := "ytnhnaallalgefaadoor", sum := "dfb1184838d3bf286da79dc47223491c22d76418e7e2fe9651fda84b33897648", func := "rebus/rebuslaw01.TroubleShows", spec := "troubleShows", inPlace := ["internal/reflectlite.ValueOf", "(internal/reflectlite.Value).Type", "(internal/reflectlite.Value).IsNil", "internal/reflectlite.TypeOf", "(internal/reflectlite.Value).Elem", "(internal/reflectlite.Value).Set"], unfollowed := true, recurses := true, named := ["errors.errorType"], apart := false, laid := [("errors.errorType", laid_errors_errorType)], narrowed := true }
def TroubleShowsUptoSaid : Prop := troubleShowsUptoRow.holds Tryd.pinned (OpenSpec.upto troubleShowsSpec)

/-- 'rebuslaw01.TroubleClass', WHERE WHAT IT READS IS OF BULK AT MOST 1048576: true; the input reads as it did. -/
def troubleClassUptoRow : OpenClaim := { program := "ytnhnaallalgefaadoor", sum := "dfb1184838d3bf286da79dc47223491c22d76418e7e2fe9651fda84b33897648", func := "rebus/rebuslaw01.TroubleClass", spec := "troubleClass", inPlace := ["internal/reflectlite.ValueOf", "(internal/reflectlite.Value).Type", "(internal/reflectlite.Value).IsNil", "internal/reflectlite.TypeOf", "(internal/reflectlite.Value).Elem", "(internal/reflectlite.Value).Set"], unfollowed := true, recurses := true, named := ["errors.errorType"], apart := false, laid := [("errors.errorType", laid_errors_errorType)], narrowed := true }
def TroubleClassUptoSaid : Prop := troubleClassUptoRow.holds Tryd.pinned (OpenSpec.upto troubleClassSpec)

/-- 'rebuslaw01.TroubleFinds', WHERE WHAT IT READS IS OF BULK AT MOST 1048576: true; the input reads as it did. -/
def troubleFindsUptoRow : OpenClaim := { program := "ytnhnaallalgefaadoor", sum := "dfb1184838d3bf286da79dc47223491c22d76418e7e2fe9651fda84b33897648", func := "rebus/rebuslaw01.TroubleFinds", spec := "troubleFinds", inPlace := ["internal/reflectlite.ValueOf", "(internal/reflectlite.Value).Type", "(internal/reflectlite.Value).IsNil", "internal/reflectlite.TypeOf", "(internal/reflectlite.Value).Elem", "(internal/reflectlite.Value).Set"], unfollowed := true, recurses := true, named := ["errors.errorType"], apart := false, laid := [("errors.errorType", laid_errors_errorType)], narrowed := true }
def TroubleFindsUptoSaid : Prop := troubleFindsUptoRow.holds Tryd.pinned (OpenSpec.upto troubleFindsSpec)

/-- 'rebuslaw01.TroubleTells', WHERE WHAT IT READS IS OF BULK AT MOST 1048576: true; the input reads as it did. -/
def troubleTellsUptoRow : OpenClaim := { program := "ytnhnaallalgefaadoor", sum := "dfb1184838d3bf286da79dc47223491c22d76418e7e2fe9651fda84b33897648", func := "rebus/rebuslaw01.TroubleTells", spec := "troubleTells", inPlace := ["internal/reflectlite.ValueOf", "(internal/reflectlite.Value).Type", "(internal/reflectlite.Value).IsNil", "internal/reflectlite.TypeOf", "(internal/reflectlite.Value).Elem", "(internal/reflectlite.Value).Set"], unfollowed := true, recurses := true, named := ["errors.errorType"], apart := false, laid := [("errors.errorType", laid_errors_errorType)], narrowed := true }
def TroubleTellsUptoSaid : Prop := troubleTellsUptoRow.holds Tryd.pinned (OpenSpec.upto troubleTellsSpec)

/-- 'rebuslaw31.TreeSame', WHERE WHAT IT READS IS OF BULK AT MOST 1048576: true; the input reads as it did. -/
def treeSameUptoRow : OpenClaim := { program := "ytnhnaallalgefaadoor", sum := "dfb1184838d3bf286da79dc47223491c22d76418e7e2fe9651fda84b33897648", func := "rebus/rebuslaw31.TreeSame", spec := "treeSame", inPlace := ["math.Float64bits", "math.Float64frombits"], unfollowed := true, recurses := true, named := ["math/bits.deBruijn64tab"], loops := true, apart := false, laid := [("math/bits.deBruijn64tab", laid_math_bits_deBruijn64tab)], narrowed := true }
def TreeSameUptoSaid : Prop := treeSameUptoRow.holds Tryd.pinned (OpenSpec.upto treeSameSpec)

/-- 'rebuslaw30.LexRunes', WHERE WHAT IT READS IS OF BULK AT MOST 1048576: true; the input reads as it did. -/
def lexRunesUptoRow : OpenClaim := { program := "ytnhnaallalgefaadoor", sum := "dfb1184838d3bf286da79dc47223491c22d76418e7e2fe9651fda84b33897648", func := "rebus/rebuslaw30.LexRunes", spec := "lexRunes", inPlace := ["math.Float64bits", "math.Float64frombits", "internal/reflectlite.ValueOf", "(internal/reflectlite.Value).Type", "(internal/reflectlite.Value).IsNil", "internal/reflectlite.TypeOf", "(internal/reflectlite.Value).Elem", "(internal/reflectlite.Value).Set"], unfollowed := true, recurses := true, named := ["unicode/utf8.first", "unicode/utf8.acceptRanges", "errors.errorType"], apart := false, laid := [("unicode/utf8.acceptRanges", laid_unicode_utf8_acceptRanges), ("errors.errorType", laid_errors_errorType), ("unicode/utf8.first", laid_unicode_utf8_first)], narrowed := true }
def LexRunesUptoSaid : Prop := lexRunesUptoRow.holds Tryd.pinned (OpenSpec.upto lexRunesSpec)

end Rows
end Go.Proofs.YtnhnaallalgefaaDoor
