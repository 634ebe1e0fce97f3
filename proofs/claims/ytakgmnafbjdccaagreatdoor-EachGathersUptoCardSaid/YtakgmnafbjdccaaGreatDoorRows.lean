/-
  NARROWER THAN 'FOR EVERY INPUT', by the rows' own cells (each row's printed sentence says how): ProductNums: loops, laid · ProductMatrix: laid · EachGathers: loops, laid · ProductOuter: loops, laid · ProductInner: loops, laid · EachNums: loops, laid · EachFolds: loops, laid.
  DERIVED. THE GIVEN ROWS OF THIS SEAT. 7 by the template 'for every input the law returns true; each argument reads behind the call as it read before'; 0 by the template 'total and deterministic' (their statements: YtakgmnafbjdccaaGreatDoorTotals.lean).
  GIVEN WITH THE SEED: the statements are not yours to turn. If you find one false, say at which input.
  Laid BY PROGRAM, IN A SANDBOX (cutbox-rows.mjs): the forced cells as the released guide's own fill.sh prints them over the translation 0989c4a121bf9947… (all of the seat's roots in one cut). By AI agents, Wed Nov 11 2026. No macro, syntax, notation, axiom, sorry.
-/
import Derived.Test.YtakgmnafbjdccaaGreatDoorChecked
import GoSem.Claim
import GoSem.ClaimJoined
import GoSem.ClaimMapViews
import Derived.JoinedTies
import Derived.KernelRfl
namespace Go.Proofs.YtakgmnafbjdccaaGreatDoor
/- THE CELL 'sum', in the pinned program and in every row, IS THE sha256 OF THE DUMP (.gsa) THAT YtakgmnafbjdccaaGreatDoorProg.lean LOADS. Nothing in Lean hashes anything: it is a label: what it is worth is what the hold of that sum in a sandbox is worth. -/
noncomputable def Tryz.pinned : Pinned := { name := "ytakgmnafbjdccaagreatdoor", sum := "0989c4a121bf9947ec009074b033755d58d8eaaebc4194d7e842dc9b80ae85ed", checked := Tryz.checked }
namespace Rows
def none {H : Type} : Left H := { results := [], args := [] }

/- WHAT THE LISTED PACKAGE-LEVEL VARIABLES READ AS WHEN THE CALL BEGINS. Each datum BY PROGRAM (the guide's laid-datum.mjs) off the statement by which the dump's own 'gosem.cut.vars' lays the variable. In a bare row this is a premise. The card (YtakgmnafbjdccaaGreatDoorCards.lean) ties it to the program's text. -/
def laid_errors_errorType {H : Type} : DataW H := .iface "internal/reflectlite.rtype" (.agg [.ptr (.lit (.string [101, 114, 114, 111, 114]))])
def laid_math_bits_deBruijn64tab {H : Type} : DataW H := .agg [.lit (.int .u8 0), .lit (.int .u8 1), .lit (.int .u8 56), .lit (.int .u8 2), .lit (.int .u8 57), .lit (.int .u8 49), .lit (.int .u8 28), .lit (.int .u8 3), .lit (.int .u8 61), .lit (.int .u8 58), .lit (.int .u8 42), .lit (.int .u8 50), .lit (.int .u8 38), .lit (.int .u8 29), .lit (.int .u8 17), .lit (.int .u8 4), .lit (.int .u8 62), .lit (.int .u8 47), .lit (.int .u8 59), .lit (.int .u8 36), .lit (.int .u8 45), .lit (.int .u8 43), .lit (.int .u8 51), .lit (.int .u8 22), .lit (.int .u8 53), .lit (.int .u8 39), .lit (.int .u8 33), .lit (.int .u8 30), .lit (.int .u8 24), .lit (.int .u8 18), .lit (.int .u8 12), .lit (.int .u8 5), .lit (.int .u8 63), .lit (.int .u8 55), .lit (.int .u8 48), .lit (.int .u8 27), .lit (.int .u8 60), .lit (.int .u8 41), .lit (.int .u8 37), .lit (.int .u8 16), .lit (.int .u8 46), .lit (.int .u8 35), .lit (.int .u8 44), .lit (.int .u8 21), .lit (.int .u8 52), .lit (.int .u8 32), .lit (.int .u8 23), .lit (.int .u8 11), .lit (.int .u8 54), .lit (.int .u8 26), .lit (.int .u8 40), .lit (.int .u8 15), .lit (.int .u8 34), .lit (.int .u8 20), .lit (.int .u8 31), .lit (.int .u8 10), .lit (.int .u8 25), .lit (.int .u8 14), .lit (.int .u8 19), .lit (.int .u8 9), .lit (.int .u8 13), .lit (.int .u8 8), .lit (.int .u8 7), .lit (.int .u8 6)]

/-- 'rebuslaw26.ProductNums': WHATEVER THE INPUT: true; the input reads as it did. -/
def productNumsSpec : ChangeSpec := { name := "productNums", fn := fun _ => fun
  | [d1, d2, d3, d4, d5] => { results := [.lit (.bool true)], args := [d1, d2, d3, d4, d5] }
  | _ => none }
def productNumsRow : OpenClaim := { program := "ytakgmnafbjdccaagreatdoor", sum := "0989c4a121bf9947ec009074b033755d58d8eaaebc4194d7e842dc9b80ae85ed", func := "rebus/rebuslaw26.ProductNums", spec := "productNums", inPlace := ["internal/reflectlite.ValueOf", "(internal/reflectlite.Value).Type", "(internal/reflectlite.Value).IsNil", "internal/reflectlite.TypeOf", "(internal/reflectlite.Value).Elem", "(internal/reflectlite.Value).Set"], unfollowed := true, recurses := true, named := ["errors.errorType"], loops := true, apart := false, laid := [("errors.errorType", laid_errors_errorType)] }
def ProductNumsSaid : Prop := productNumsRow.holds Tryz.pinned (OpenSpec.ofChange productNumsSpec)

/-- ITS FALSE NEIGHBOUR: 'it returns false'. Refute it at one input. -/
def productNumsWrong : ChangeSpec := { name := "productNums", fn := fun _ => fun
  | [d1, d2, d3, d4, d5] => { results := [.lit (.bool false)], args := [d1, d2, d3, d4, d5] }
  | _ => none }
def ProductNumsWrongFalsely : Prop := productNumsRow.holds Tryz.pinned (OpenSpec.ofChange productNumsWrong)

/-- 'rebuslaw26.ProductMatrix': WHATEVER THE INPUT: true; the input reads as it did. -/
def productMatrixSpec : ChangeSpec := { name := "productMatrix", fn := fun _ => fun
  | [d1, d2, d3, d4, d5] => { results := [.lit (.bool true)], args := [d1, d2, d3, d4, d5] }
  | _ => none }
def productMatrixRow : OpenClaim := { program := "ytakgmnafbjdccaagreatdoor", sum := "0989c4a121bf9947ec009074b033755d58d8eaaebc4194d7e842dc9b80ae85ed", func := "rebus/rebuslaw26.ProductMatrix", spec := "productMatrix", inPlace := ["internal/reflectlite.ValueOf", "(internal/reflectlite.Value).Type", "(internal/reflectlite.Value).IsNil", "internal/reflectlite.TypeOf", "(internal/reflectlite.Value).Elem", "(internal/reflectlite.Value).Set"], unfollowed := true, recurses := true, named := ["errors.errorType"], apart := false, laid := [("errors.errorType", laid_errors_errorType)] }
def ProductMatrixSaid : Prop := productMatrixRow.holds Tryz.pinned (OpenSpec.ofChange productMatrixSpec)

/-- ITS FALSE NEIGHBOUR: 'it returns false'. Refute it at one input. -/
def productMatrixWrong : ChangeSpec := { name := "productMatrix", fn := fun _ => fun
  | [d1, d2, d3, d4, d5] => { results := [.lit (.bool false)], args := [d1, d2, d3, d4, d5] }
  | _ => none }
def ProductMatrixWrongFalsely : Prop := productMatrixRow.holds Tryz.pinned (OpenSpec.ofChange productMatrixWrong)

/-- 'rebuslaw25.EachGathers': WHATEVER THE INPUT: true; the input reads as it did. -/
def eachGathersSpec : ChangeSpec := { name := "eachGathers", fn := fun _ => fun
  | [d] => { results := [.lit (.bool true)], args := [d] }
  | _ => none }
def eachGathersRow : OpenClaim := { program := "ytakgmnafbjdccaagreatdoor", sum := "0989c4a121bf9947ec009074b033755d58d8eaaebc4194d7e842dc9b80ae85ed", func := "rebus/rebuslaw25.EachGathers", spec := "eachGathers", inPlace := ["internal/reflectlite.ValueOf", "(internal/reflectlite.Value).Type", "(internal/reflectlite.Value).IsNil", "internal/reflectlite.TypeOf", "(internal/reflectlite.Value).Elem", "(internal/reflectlite.Value).Set"], unfollowed := true, recurses := true, named := ["errors.errorType", "math/bits.deBruijn64tab"], loops := true, apart := false, laid := [("math/bits.deBruijn64tab", laid_math_bits_deBruijn64tab), ("errors.errorType", laid_errors_errorType)] }
def EachGathersSaid : Prop := eachGathersRow.holds Tryz.pinned (OpenSpec.ofChange eachGathersSpec)

/-- ITS FALSE NEIGHBOUR: 'it returns false'. Refute it at one input. -/
def eachGathersWrong : ChangeSpec := { name := "eachGathers", fn := fun _ => fun
  | [d] => { results := [.lit (.bool false)], args := [d] }
  | _ => none }
def EachGathersWrongFalsely : Prop := eachGathersRow.holds Tryz.pinned (OpenSpec.ofChange eachGathersWrong)

/-- 'rebuslaw26.ProductOuter': WHATEVER THE INPUT: true; the input reads as it did. -/
def productOuterSpec : ChangeSpec := { name := "productOuter", fn := fun _ => fun
  | [d1, d2, d3, d4, d5] => { results := [.lit (.bool true)], args := [d1, d2, d3, d4, d5] }
  | _ => none }
def productOuterRow : OpenClaim := { program := "ytakgmnafbjdccaagreatdoor", sum := "0989c4a121bf9947ec009074b033755d58d8eaaebc4194d7e842dc9b80ae85ed", func := "rebus/rebuslaw26.ProductOuter", spec := "productOuter", inPlace := ["internal/reflectlite.ValueOf", "(internal/reflectlite.Value).Type", "(internal/reflectlite.Value).IsNil", "internal/reflectlite.TypeOf", "(internal/reflectlite.Value).Elem", "(internal/reflectlite.Value).Set", "slices.overlaps[int]"], unfollowed := true, recurses := true, named := ["errors.errorType"], loops := true, apart := false, laid := [("errors.errorType", laid_errors_errorType)] }
def ProductOuterSaid : Prop := productOuterRow.holds Tryz.pinned (OpenSpec.ofChange productOuterSpec)

/-- ITS FALSE NEIGHBOUR: 'it returns false'. Refute it at one input. -/
def productOuterWrong : ChangeSpec := { name := "productOuter", fn := fun _ => fun
  | [d1, d2, d3, d4, d5] => { results := [.lit (.bool false)], args := [d1, d2, d3, d4, d5] }
  | _ => none }
def ProductOuterWrongFalsely : Prop := productOuterRow.holds Tryz.pinned (OpenSpec.ofChange productOuterWrong)

/-- 'rebuslaw26.ProductInner': WHATEVER THE INPUT: true; the input reads as it did. -/
def productInnerSpec : ChangeSpec := { name := "productInner", fn := fun _ => fun
  | [d1, d2, d3, d4, d5] => { results := [.lit (.bool true)], args := [d1, d2, d3, d4, d5] }
  | _ => none }
def productInnerRow : OpenClaim := { program := "ytakgmnafbjdccaagreatdoor", sum := "0989c4a121bf9947ec009074b033755d58d8eaaebc4194d7e842dc9b80ae85ed", func := "rebus/rebuslaw26.ProductInner", spec := "productInner", inPlace := ["internal/reflectlite.ValueOf", "(internal/reflectlite.Value).Type", "(internal/reflectlite.Value).IsNil", "internal/reflectlite.TypeOf", "(internal/reflectlite.Value).Elem", "(internal/reflectlite.Value).Set", "slices.overlaps[int]"], unfollowed := true, recurses := true, named := ["errors.errorType"], loops := true, apart := false, laid := [("errors.errorType", laid_errors_errorType)] }
def ProductInnerSaid : Prop := productInnerRow.holds Tryz.pinned (OpenSpec.ofChange productInnerSpec)

/-- ITS FALSE NEIGHBOUR: 'it returns false'. Refute it at one input. -/
def productInnerWrong : ChangeSpec := { name := "productInner", fn := fun _ => fun
  | [d1, d2, d3, d4, d5] => { results := [.lit (.bool false)], args := [d1, d2, d3, d4, d5] }
  | _ => none }
def ProductInnerWrongFalsely : Prop := productInnerRow.holds Tryz.pinned (OpenSpec.ofChange productInnerWrong)

/-- 'rebuslaw25.EachNums': WHATEVER THE INPUT: true; the input reads as it did. -/
def eachNumsSpec : ChangeSpec := { name := "eachNums", fn := fun _ => fun
  | [d1, d2, d3] => { results := [.lit (.bool true)], args := [d1, d2, d3] }
  | _ => none }
def eachNumsRow : OpenClaim := { program := "ytakgmnafbjdccaagreatdoor", sum := "0989c4a121bf9947ec009074b033755d58d8eaaebc4194d7e842dc9b80ae85ed", func := "rebus/rebuslaw25.EachNums", spec := "eachNums", inPlace := ["internal/reflectlite.ValueOf", "(internal/reflectlite.Value).Type", "(internal/reflectlite.Value).IsNil", "internal/reflectlite.TypeOf", "(internal/reflectlite.Value).Elem", "(internal/reflectlite.Value).Set"], unfollowed := true, recurses := true, named := ["errors.errorType", "math/bits.deBruijn64tab"], loops := true, apart := false, laid := [("math/bits.deBruijn64tab", laid_math_bits_deBruijn64tab), ("errors.errorType", laid_errors_errorType)] }
def EachNumsSaid : Prop := eachNumsRow.holds Tryz.pinned (OpenSpec.ofChange eachNumsSpec)

/-- ITS FALSE NEIGHBOUR: 'it returns false'. Refute it at one input. -/
def eachNumsWrong : ChangeSpec := { name := "eachNums", fn := fun _ => fun
  | [d1, d2, d3] => { results := [.lit (.bool false)], args := [d1, d2, d3] }
  | _ => none }
def EachNumsWrongFalsely : Prop := eachNumsRow.holds Tryz.pinned (OpenSpec.ofChange eachNumsWrong)

/-- 'rebuslaw25.EachFolds': WHATEVER THE INPUT: true; the input reads as it did. -/
def eachFoldsSpec : ChangeSpec := { name := "eachFolds", fn := fun _ => fun
  | [d1, d2, d3] => { results := [.lit (.bool true)], args := [d1, d2, d3] }
  | _ => none }
def eachFoldsRow : OpenClaim := { program := "ytakgmnafbjdccaagreatdoor", sum := "0989c4a121bf9947ec009074b033755d58d8eaaebc4194d7e842dc9b80ae85ed", func := "rebus/rebuslaw25.EachFolds", spec := "eachFolds", inPlace := ["internal/reflectlite.ValueOf", "(internal/reflectlite.Value).Type", "(internal/reflectlite.Value).IsNil", "internal/reflectlite.TypeOf", "(internal/reflectlite.Value).Elem", "(internal/reflectlite.Value).Set", "slices.overlaps[int]"], unfollowed := true, recurses := true, named := ["errors.errorType", "math/bits.deBruijn64tab"], loops := true, apart := false, laid := [("math/bits.deBruijn64tab", laid_math_bits_deBruijn64tab), ("errors.errorType", laid_errors_errorType)] }
def EachFoldsSaid : Prop := eachFoldsRow.holds Tryz.pinned (OpenSpec.ofChange eachFoldsSpec)

/-- ITS FALSE NEIGHBOUR: 'it returns false'. Refute it at one input. -/
def eachFoldsWrong : ChangeSpec := { name := "eachFolds", fn := fun _ => fun
  | [d1, d2, d3] => { results := [.lit (.bool false)], args := [d1, d2, d3] }
  | _ => none }
def EachFoldsWrongFalsely : Prop := eachFoldsRow.holds Tryz.pinned (OpenSpec.ofChange eachFoldsWrong)

/- THE SECOND FORM. 'bulk': how many values and letters a reading holds, each counted each time it is reached (what is shared counts as often as it is met; a slice's spare places count too). A statement '..UptoSaid' is the law's where the arguments, and the package variables that the reading takes, are together of bulk at most 1048576: NARROWER than '..Said'. Prove '..Said' where nothing that the law and all that it calls make is longer than what came in: it says more and counts as full. Else prove '..UptoSaid'. A law counts once. -/
mutual
def uptoBulk {H : Type} : DataW H → Nat
  | .lit (.string bytes) => bytes.length + 1
  | .lit _ => 1
  | .nil => 1
  | .ptr d => uptoBulk d + 1
  | .slice elems spare => uptoBulkAll elems + uptoBulkAll spare + 1
  | .agg parts => uptoBulkAll parts + 1
  | .iface _ d => uptoBulk d + 1
  | .map entries => uptoBulkEntries entries + 1
  | .held _ => 1
def uptoBulkAll {H : Type} : List (DataW H) → Nat
  | [] => 0
  | d :: r => uptoBulk d + uptoBulkAll r
def uptoBulkEntries {H : Type} : List (Lit × DataW H) → Nat
  | [] => 0
  | x :: r => uptoBulkEntry x + uptoBulkEntries r
def uptoBulkEntry {H : Type} : Lit × DataW H → Nat
  | (.string bytes, d) => bytes.length + uptoBulk d + 1
  | (_, d) => uptoBulk d + 1
 end
def uptoSmall : (H : Type) → List (DataW H) → Bool := fun _ ds => decide (uptoBulkAll ds ≤ 1048576)
def OpenSpec.upto (s : _root_.Go.ChangeSpec) : _root_.Go.OpenSpec := { _root_.Go.OpenSpec.ofChange s with cond := some uptoSmall }

/-- 'rebuslaw26.ProductNums', WHERE WHAT IT READS IS OF BULK AT MOST 1048576: true; the input reads as it did. -/
def productNumsUptoRow : OpenClaim := { program := "ytakgmnafbjdccaagreatdoor", sum := "0989c4a121bf9947ec009074b033755d58d8eaaebc4194d7e842dc9b80ae85ed", func := "rebus/rebuslaw26.ProductNums", spec := "productNums", inPlace := ["internal/reflectlite.ValueOf", "(internal/reflectlite.Value).Type", "(internal/reflectlite.Value).IsNil", "internal/reflectlite.TypeOf", "(internal/reflectlite.Value).Elem", "(internal/reflectlite.Value).Set"], unfollowed := true, recurses := true, named := ["errors.errorType"], loops := true, apart := false, laid := [("errors.errorType", laid_errors_errorType)], narrowed := true }
def ProductNumsUptoSaid : Prop := productNumsUptoRow.holds Tryz.pinned (OpenSpec.upto productNumsSpec)

/-- 'rebuslaw26.ProductMatrix', WHERE WHAT IT READS IS OF BULK AT MOST 1048576: true; the input reads as it did. -/
def productMatrixUptoRow : OpenClaim := { program := "ytakgmnafbjdccaagreatdoor", sum := "0989c4a121bf9947ec009074b033755d58d8eaaebc4194d7e842dc9b80ae85ed", func := "rebus/rebuslaw26.ProductMatrix", spec := "productMatrix", inPlace := ["internal/reflectlite.ValueOf", "(internal/reflectlite.Value).Type", "(internal/reflectlite.Value).IsNil", "internal/reflectlite.TypeOf", "(internal/reflectlite.Value).Elem", "(internal/reflectlite.Value).Set"], unfollowed := true, recurses := true, named := ["errors.errorType"], apart := false, laid := [("errors.errorType", laid_errors_errorType)], narrowed := true }
def ProductMatrixUptoSaid : Prop := productMatrixUptoRow.holds Tryz.pinned (OpenSpec.upto productMatrixSpec)

/-- 'rebuslaw25.EachGathers', WHERE WHAT IT READS IS OF BULK AT MOST 1048576: true; the input reads as it did. -/
def eachGathersUptoRow : OpenClaim := { program := "ytakgmnafbjdccaagreatdoor", sum := "0989c4a121bf9947ec009074b033755d58d8eaaebc4194d7e842dc9b80ae85ed", func := "rebus/rebuslaw25.EachGathers", spec := "eachGathers", inPlace := ["internal/reflectlite.ValueOf", "(internal/reflectlite.Value).Type", "(internal/reflectlite.Value).IsNil", "internal/reflectlite.TypeOf", "(internal/reflectlite.Value).Elem", "(internal/reflectlite.Value).Set"], unfollowed := true, recurses := true, named := ["errors.errorType", "math/bits.deBruijn64tab"], loops := true, apart := false, laid := [("math/bits.deBruijn64tab", laid_math_bits_deBruijn64tab), ("errors.errorType", laid_errors_errorType)], narrowed := true }
def EachGathersUptoSaid : Prop := eachGathersUptoRow.holds Tryz.pinned (OpenSpec.upto eachGathersSpec)

/-- 'rebuslaw26.ProductOuter', WHERE WHAT IT READS IS OF BULK AT MOST 1048576: true; the input reads as it did. -/
def productOuterUptoRow : OpenClaim := { program := "ytakgmnafbjdccaagreatdoor", sum := "0989c4a121bf9947ec009074b033755d58d8eaaebc4194d7e842dc9b80ae85ed", func := "rebus/rebuslaw26.ProductOuter", spec := "productOuter", inPlace := ["internal/reflectlite.ValueOf", "(internal/reflectlite.Value).Type", "(internal/reflectlite.Value).IsNil", "internal/reflectlite.TypeOf", "(internal/reflectlite.Value).Elem", "(internal/reflectlite.Value).Set", "slices.overlaps[int]"], unfollowed := true, recurses := true, named := ["errors.errorType"], loops := true, apart := false, laid := [("errors.errorType", laid_errors_errorType)], narrowed := true }
def ProductOuterUptoSaid : Prop := productOuterUptoRow.holds Tryz.pinned (OpenSpec.upto productOuterSpec)

/-- 'rebuslaw26.ProductInner', WHERE WHAT IT READS IS OF BULK AT MOST 1048576: true; the input reads as it did. -/
def productInnerUptoRow : OpenClaim := { program := "ytakgmnafbjdccaagreatdoor", sum := "0989c4a121bf9947ec009074b033755d58d8eaaebc4194d7e842dc9b80ae85ed", func := "rebus/rebuslaw26.ProductInner", spec := "productInner", inPlace := ["internal/reflectlite.ValueOf", "(internal/reflectlite.Value).Type", "(internal/reflectlite.Value).IsNil", "internal/reflectlite.TypeOf", "(internal/reflectlite.Value).Elem", "(internal/reflectlite.Value).Set", "slices.overlaps[int]"], unfollowed := true, recurses := true, named := ["errors.errorType"], loops := true, apart := false, laid := [("errors.errorType", laid_errors_errorType)], narrowed := true }
def ProductInnerUptoSaid : Prop := productInnerUptoRow.holds Tryz.pinned (OpenSpec.upto productInnerSpec)

/-- 'rebuslaw25.EachNums', WHERE WHAT IT READS IS OF BULK AT MOST 1048576: true; the input reads as it did. -/
def eachNumsUptoRow : OpenClaim := { program := "ytakgmnafbjdccaagreatdoor", sum := "0989c4a121bf9947ec009074b033755d58d8eaaebc4194d7e842dc9b80ae85ed", func := "rebus/rebuslaw25.EachNums", spec := "eachNums", inPlace := ["internal/reflectlite.ValueOf", "(internal/reflectlite.Value).Type", "(internal/reflectlite.Value).IsNil", "internal/reflectlite.TypeOf", "(internal/reflectlite.Value).Elem", "(internal/reflectlite.Value).Set"], unfollowed := true, recurses := true, named := ["errors.errorType", "math/bits.deBruijn64tab"], loops := true, apart := false, laid := [("math/bits.deBruijn64tab", laid_math_bits_deBruijn64tab), ("errors.errorType", laid_errors_errorType)], narrowed := true }
def EachNumsUptoSaid : Prop := eachNumsUptoRow.holds Tryz.pinned (OpenSpec.upto eachNumsSpec)

/-- 'rebuslaw25.EachFolds', WHERE WHAT IT READS IS OF BULK AT MOST 1048576: true; the input reads as it did. -/
def eachFoldsUptoRow : OpenClaim := { program := "ytakgmnafbjdccaagreatdoor", sum := "0989c4a121bf9947ec009074b033755d58d8eaaebc4194d7e842dc9b80ae85ed", func := "rebus/rebuslaw25.EachFolds", spec := "eachFolds", inPlace := ["internal/reflectlite.ValueOf", "(internal/reflectlite.Value).Type", "(internal/reflectlite.Value).IsNil", "internal/reflectlite.TypeOf", "(internal/reflectlite.Value).Elem", "(internal/reflectlite.Value).Set", "slices.overlaps[int]"], unfollowed := true, recurses := true, named := ["errors.errorType", "math/bits.deBruijn64tab"], loops := true, apart := false, laid := [("math/bits.deBruijn64tab", laid_math_bits_deBruijn64tab), ("errors.errorType", laid_errors_errorType)], narrowed := true }
def EachFoldsUptoSaid : Prop := eachFoldsUptoRow.holds Tryz.pinned (OpenSpec.upto eachFoldsSpec)

end Rows
end Go.Proofs.YtakgmnafbjdccaaGreatDoor
