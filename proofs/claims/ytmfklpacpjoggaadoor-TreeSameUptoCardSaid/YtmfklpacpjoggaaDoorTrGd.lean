/- Which trees are good: the plain law. No program in sight but memory's words. -/
import Derived.Test.YtmfklpacpjoggaaDoorTrNo
import Derived.Test.YtmfklpacpjoggaaDoorLexC
import Derived.Test.YtmfklpacpjoggaaDoorLitC
namespace Go.Proofs.YtmfklpacpjoggaaDoor
open Go Go.RowKit Go.Proofs

/-- has a node just what its kind has? -/
def plainB (k : Int) (nums : List Nat) (text : List Int) (name : ByteArray) (c : Int) (kids : List RTree) (n : Int) (nm ch : Bool) : Bool :=
  (decide (n < 0) || decide ((kids.length : Int) = n)) && (nm || decide (name.toList = [])) && (ch || decide (c = 0)) && (decide (k = 1) || decide (nums.length = 0)) && (decide (k = 2) || decide (text.length = 0))

def slashB (c : Int) : Bool := decide (c = 47 ∨ c = 92 ∨ c = 9023 ∨ c = 9024)
/-- the texts of verbs -/
def verbB (c : Int) : Bool := decide (c ∈ verbsL)

def kindR : RTree → Int
  | .mk k _ _ _ _ _ => k

mutual
/-- is a tree good: 0 a value, 1 a function, 2 an index, 3 a line, else a function that gets a name -/
def gd : RTree → Nat → Bool
  | .mk k nums text name c kids, 0 =>
    if k = 1 then decide (0 < nums.length) && plainB k nums text name c kids 0 false false && nums.all isFin
    else if k = 2 then plainB k nums text name c kids 0 false false && !text.any (fun x => decide (x = 10))
    else if k = 3 then plainB k nums text name c kids 0 true false && goodB (runesOf name) && !upB name
    else if k = 4 ∨ k = 5 ∨ k = 6 then plainB k nums text name c kids 0 false false
    else if k = 7 then plainB k nums text name c kids (-1) false false && decide (1 < kids.length) && gds kids 0
    else if k = 8 then plainB k nums text name c kids (-1) false false && decide (1 < kids.length) && gdh kids 0 2
    else if k = 9 then plainB k nums text name c kids 2 false false && gdh kids 1 0
    else if k = 10 then plainB k nums text name c kids 3 false false && gdh kids 1 0
    else if k = 11 then plainB k nums text name c kids 1 true false && goodB (runesOf name) && !upB name && gds kids 0
    else if k = 12 then plainB k nums text name c kids (-1) true false && decide (1 < kids.length) && goodB (runesOf name) && !upB name && gdl kids 2 0
    else false
  | .mk k nums text name c kids, 1 =>
    if k = 13 then plainB k nums text name c kids 0 false true && (verbB c || slashB c)
    else if k = 14 then plainB k nums text name c kids 0 true false && goodB (runesOf name) && upB name
    else if k = 15 then plainB k nums text name c kids (-1) false false && decide (0 < kids.length) && gds kids 3
    else if k = 16 then plainB k nums text name c kids 1 false true && (slashB c || decide (c = 168) || decide (c = 9064)) && gds kids 1
    else if k = 17 then plainB k nums text name c kids 2 false false && gds kids 1
    else if k = 18 then plainB k nums text name c kids 1 false false && gds kids 1
    else false
  | .mk k nums text name c kids, 2 =>
    if k = 21 then plainB k nums text name c kids 0 false false else gd (.mk k nums text name c kids) 0
  | .mk k nums text name c kids, 3 =>
    if k = 19 then plainB k nums text name c kids 2 false false && gds kids 0
    else if k = 20 then gd (.mk k nums text name c kids) 4
    else gd (.mk k nums text name c kids) 0
  | .mk k nums text name c kids, _ => decide (kids.length = 1) && goodB (runesOf name) && upB name && gds kids 1 && plainB k nums text name c kids 1 true false
termination_by t s => (SizeOf.sizeOf t, if s = 2 ∨ s = 3 then 1 else 0)
def gds : List RTree → Nat → Bool
  | [], _ => true
  | t :: ts, s => gd t s && gds ts s
termination_by ts _ => (SizeOf.sizeOf ts, 0)
def gdh : List RTree → Nat → Nat → Bool
  | [], _, _ => true
  | t :: ts, a, b => gd t a && gds ts b
termination_by ts _ _ => (SizeOf.sizeOf ts, 0)
def gdl : List RTree → Nat → Nat → Bool
  | [], _, _ => true
  | [t], _, b => gd t b
  | t :: t2 :: ts, a, b => gd t a && gdl (t2 :: ts) a b
termination_by ts _ _ => (SizeOf.sizeOf ts, 0)
end
theorem gd_0_1 {nums : List Nat} {text : List Int} {name : ByteArray} {c : Int} {kids : List RTree} : gd (.mk 1 nums text name c kids) 0 = (decide (0 < nums.length) && plainB 1 nums text name c kids 0 false false && nums.all isFin) := by rw [gd]; rfl
theorem gd_0_2 {nums : List Nat} {text : List Int} {name : ByteArray} {c : Int} {kids : List RTree} : gd (.mk 2 nums text name c kids) 0 = (plainB 2 nums text name c kids 0 false false && !text.any (fun x => decide (x = 10))) := by rw [gd]; rfl
theorem gd_0_3 {nums : List Nat} {text : List Int} {name : ByteArray} {c : Int} {kids : List RTree} : gd (.mk 3 nums text name c kids) 0 = (plainB 3 nums text name c kids 0 true false && goodB (runesOf name) && !upB name) := by rw [gd]; rfl
theorem gd_0_4 {nums : List Nat} {text : List Int} {name : ByteArray} {c : Int} {kids : List RTree} : gd (.mk 4 nums text name c kids) 0 = (plainB 4 nums text name c kids 0 false false) := by rw [gd]; rfl
theorem gd_0_5 {nums : List Nat} {text : List Int} {name : ByteArray} {c : Int} {kids : List RTree} : gd (.mk 5 nums text name c kids) 0 = (plainB 5 nums text name c kids 0 false false) := by rw [gd]; rfl
theorem gd_0_6 {nums : List Nat} {text : List Int} {name : ByteArray} {c : Int} {kids : List RTree} : gd (.mk 6 nums text name c kids) 0 = (plainB 6 nums text name c kids 0 false false) := by rw [gd]; rfl
theorem gd_0_7 {nums : List Nat} {text : List Int} {name : ByteArray} {c : Int} {kids : List RTree} : gd (.mk 7 nums text name c kids) 0 = (plainB 7 nums text name c kids (-1) false false && decide (1 < kids.length) && gds kids 0) := by rw [gd]; rfl
theorem gd_0_8 {nums : List Nat} {text : List Int} {name : ByteArray} {c : Int} {kids : List RTree} : gd (.mk 8 nums text name c kids) 0 = (plainB 8 nums text name c kids (-1) false false && decide (1 < kids.length) && gdh kids 0 2) := by rw [gd]; rfl
theorem gd_0_9 {nums : List Nat} {text : List Int} {name : ByteArray} {c : Int} {kids : List RTree} : gd (.mk 9 nums text name c kids) 0 = (plainB 9 nums text name c kids 2 false false && gdh kids 1 0) := by rw [gd]; rfl
theorem gd_0_10 {nums : List Nat} {text : List Int} {name : ByteArray} {c : Int} {kids : List RTree} : gd (.mk 10 nums text name c kids) 0 = (plainB 10 nums text name c kids 3 false false && gdh kids 1 0) := by rw [gd]; rfl
theorem gd_0_11 {nums : List Nat} {text : List Int} {name : ByteArray} {c : Int} {kids : List RTree} : gd (.mk 11 nums text name c kids) 0 = (plainB 11 nums text name c kids 1 true false && goodB (runesOf name) && !upB name && gds kids 0) := by rw [gd]; rfl
theorem gd_0_12 {nums : List Nat} {text : List Int} {name : ByteArray} {c : Int} {kids : List RTree} : gd (.mk 12 nums text name c kids) 0 = (plainB 12 nums text name c kids (-1) true false && decide (1 < kids.length) && goodB (runesOf name) && !upB name && gdl kids 2 0) := by rw [gd]; rfl
theorem gd_1_13 {nums : List Nat} {text : List Int} {name : ByteArray} {c : Int} {kids : List RTree} : gd (.mk 13 nums text name c kids) 1 = (plainB 13 nums text name c kids 0 false true && (verbB c || slashB c)) := by rw [gd]; rfl
theorem gd_1_14 {nums : List Nat} {text : List Int} {name : ByteArray} {c : Int} {kids : List RTree} : gd (.mk 14 nums text name c kids) 1 = (plainB 14 nums text name c kids 0 true false && goodB (runesOf name) && upB name) := by rw [gd]; rfl
theorem gd_1_15 {nums : List Nat} {text : List Int} {name : ByteArray} {c : Int} {kids : List RTree} : gd (.mk 15 nums text name c kids) 1 = (plainB 15 nums text name c kids (-1) false false && decide (0 < kids.length) && gds kids 3) := by rw [gd]; rfl
theorem gd_1_16 {nums : List Nat} {text : List Int} {name : ByteArray} {c : Int} {kids : List RTree} : gd (.mk 16 nums text name c kids) 1 = (plainB 16 nums text name c kids 1 false true && (slashB c || decide (c = 168) || decide (c = 9064)) && gds kids 1) := by rw [gd]; rfl
theorem gd_1_17 {nums : List Nat} {text : List Int} {name : ByteArray} {c : Int} {kids : List RTree} : gd (.mk 17 nums text name c kids) 1 = (plainB 17 nums text name c kids 2 false false && gds kids 1) := by rw [gd]; rfl
theorem gd_1_18 {nums : List Nat} {text : List Int} {name : ByteArray} {c : Int} {kids : List RTree} : gd (.mk 18 nums text name c kids) 1 = (plainB 18 nums text name c kids 1 false false && gds kids 1) := by rw [gd]; rfl
theorem gd_2_21 {nums : List Nat} {text : List Int} {name : ByteArray} {c : Int} {kids : List RTree} : gd (.mk 21 nums text name c kids) 2 = (plainB 21 nums text name c kids 0 false false) := by rw [gd]; rfl
theorem gd_3_19 {nums : List Nat} {text : List Int} {name : ByteArray} {c : Int} {kids : List RTree} : gd (.mk 19 nums text name c kids) 3 = (plainB 19 nums text name c kids 2 false false && gds kids 0) := by rw [gd]; rfl
theorem gd_3_20 {nums : List Nat} {text : List Int} {name : ByteArray} {c : Int} {kids : List RTree} : gd (.mk 20 nums text name c kids) 3 = (gd (.mk 20 nums text name c kids) 4) := by rw [gd]; rfl
theorem gd_0_no {k : Int} {nums : List Nat} {text : List Int} {name : ByteArray} {c : Int} {kids : List RTree} (h : k < 1 ∨ 12 < k) : gd (.mk k nums text name c kids) 0 = false := by
  rw [gd]
  rw [if_neg (by omega), if_neg (by omega), if_neg (by omega), if_neg (by omega), if_neg (by omega), if_neg (by omega), if_neg (by omega), if_neg (by omega), if_neg (by omega), if_neg (by omega)]
theorem gd_1_no {k : Int} {nums : List Nat} {text : List Int} {name : ByteArray} {c : Int} {kids : List RTree} (h : k < 13 ∨ 18 < k) : gd (.mk k nums text name c kids) 1 = false := by
  rw [gd]
  rw [if_neg (by omega), if_neg (by omega), if_neg (by omega), if_neg (by omega), if_neg (by omega), if_neg (by omega)]
theorem gd_2_no {k : Int} {nums : List Nat} {text : List Int} {name : ByteArray} {c : Int} {kids : List RTree} (h : k ≠ 21) : gd (.mk k nums text name c kids) 2 = gd (.mk k nums text name c kids) 0 := by
  conv => lhs; rw [gd]
  rw [if_neg h]
theorem gd_3_no {k : Int} {nums : List Nat} {text : List Int} {name : ByteArray} {c : Int} {kids : List RTree} (h : k ≠ 19) (h2 : k ≠ 20) : gd (.mk k nums text name c kids) 3 = gd (.mk k nums text name c kids) 0 := by
  conv => lhs; rw [gd]
  rw [if_neg h, if_neg h2]
theorem gd_4 {k : Int} {nums : List Nat} {text : List Int} {name : ByteArray} {c : Int} {kids : List RTree} : gd (.mk k nums text name c kids) 4 = (decide (kids.length = 1) && goodB (runesOf name) && upB name && gds kids 1 && plainB k nums text name c kids 1 true false) := by
  rw [gd] <;> simp

theorem gds_eq : ∀ (ts : List RTree) (s : Nat), gds ts s = ts.all (fun t => gd t s)
  | [], _ => by rw [gds]; rfl
  | t :: ts, s => by rw [gds, gds_eq ts s]; rfl
end Go.Proofs.YtmfklpacpjoggaaDoor
