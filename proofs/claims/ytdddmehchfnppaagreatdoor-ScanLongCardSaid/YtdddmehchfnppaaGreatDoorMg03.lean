/- Merged texts. Words for memory: rows made at a size and filled place by place; the elements of a Vec. Conditions: as each theorem says. The walks of a Vec's small questions: Kind, Class, Len, Num, Whole, store by store. Conditions: as each theorem says. -/
import Derived.Test.YtdddmehchfnppaaGreatDoorMg02
import Derived.OwnWalk
import Derived.Laws.OwnMore
import Derived.Deep.OwnRows
import Derived.Test.YtdddmehchfnppaaGreatDoorMg01
namespace Go.Proofs.YtdddmehchfnppaaGreatDoor
open Go Go.RowKit Go.Proofs

/-- a list of n values of which the first k are filled -/
def fillL (f : Nat → Value) (z : Value) (n k : Nat) : List Value := (List.range n).map fun i => if i < k then f i else z
theorem fillL_len (f : Nat → Value) (z : Value) (n k : Nat) : (fillL f z n k).length = n := by simp [fillL]
theorem fillL_get (f : Nat → Value) (z : Value) (n k i : Nat) (h : i < n) : (fillL f z n k)[i]? = some (if i < k then f i else z) := by simp [fillL, h]
theorem fillL_none (f : Nat → Value) (z : Value) (n k i : Nat) (h : ¬ i < n) : (fillL f z n k)[i]? = none := by
  rw [List.getElem?_eq_none_iff, fillL_len]; omega
theorem fillL_zero (f : Nat → Value) (z : Value) (n : Nat) : List.replicate n z = fillL f z n 0 := by
  apply List.ext_getElem?
  intro i
  by_cases h : i < n
  · rw [fillL_get _ _ _ _ _ h, List.getElem?_replicate, if_pos h]; simp
  · rw [fillL_none _ _ _ _ _ h, List.getElem?_replicate, if_neg h]
theorem fillL_set (f : Nat → Value) (z : Value) (n k : Nat) (h : k < n) : (fillL f z n k).set k (f k) = fillL f z n (k + 1) := by
  apply List.ext_getElem?
  intro i
  rw [List.getElem?_set]
  by_cases hi : i < n
  · rw [fillL_get _ _ _ _ _ hi, fillL_get _ _ _ _ _ hi, fillL_len]
    by_cases hk : k = i
    · subst hk; rw [if_pos rfl, if_pos h, if_pos (by omega)]
    · rw [if_neg hk]
      by_cases h2 : i < k
      · rw [if_pos h2, if_pos (by omega)]
      · rw [if_neg h2, if_neg (by omega)]
  · rw [fillL_none _ _ _ _ _ hi, fillL_none _ _ _ _ _ hi, if_neg (by omega)]
theorem fillL_full (f : Nat → Value) (z : Value) (n : Nat) : fillL f z n n = (List.range n).map f := by
  unfold fillL
  apply List.map_congr_left
  intro i hi
  rw [if_pos (List.mem_range.1 hi)]

/-- a row that the call made, of which the first k places are filled -/
def Fill (w : World) (B g : Nat) (e : TypeId) (f : Nat → Value) (z : Value) (n k : Nat) : Prop := w.ownsRow B e 1 (.slice (some ⟨g, 0, none⟩) n n) n (fillL f z n k)

theorem Fill.made (w : World) (B : Nat) (hB : B ≤ w.heap.size) (e : TypeId) (f : Nat → Value) (z : Value) (n : Nat) (hn : n ≤ maxLen) : Fill (w.alloc (.cells (madeCells #[z] n) e)) B w.heap.size e f z n 0 := by
  have h := World.ownsRow_lit (base := B) (e := e) (size := 1) w (madeCells #[z] n) n hB hn (by rw [size_madeCells]; omega)
  rw [toList_madeCells_one, fillL_zero f] at h
  exact h
theorem Fill.cell {w : World} {B g : Nat} {e : TypeId} {f : Nat → Value} {z : Value} {n k : Nat} (h : Fill w B g e f z n k) (hk : k < n) : w.cell? ⟨g, k, none⟩ = some z := by
  have := World.ownsRow.cellAt h k (by omega)
  rw [this, fillL_get _ _ _ _ _ hk, if_neg (by omega)]
theorem Fill.done {w : World} {B g : Nat} {e : TypeId} {f : Nat → Value} {z : Value} {n k : Nat} (h : Fill w B g e f z n k) (i : Nat) (hi : i < k) (hk : k ≤ n) : w.cell? ⟨g, i, none⟩ = some (f i) := by
  have := World.ownsRow.cellAt h i (by omega)
  rw [this, fillL_get _ _ _ _ _ (by omega), if_pos hi]
theorem Fill.frozen {w : World} {B g : Nat} {e : TypeId} {f : Nat → Value} {z : Value} {n k : Nat} (h : Fill w B g e f z n k) (i : Nat) : w.frozen? ⟨g, i, none⟩ = false := World.ownsRow.frozenAt h i
theorem Fill.put {w : World} {B g : Nat} {e : TypeId} {f : Nat → Value} {z : Value} {n k : Nat} (h : Fill w B g e f z n k) (hk : k < n) : Fill (w.setCell ⟨g, k, none⟩ (f k)) B g e f z n (k + 1) := by
  have := (World.ownsRow.stored h k (f k)).1
  rw [fillL_set _ _ _ _ hk] at this
  exact this
theorem Fill.low {w : World} {B g : Nat} {e : TypeId} {f : Nat → Value} {z : Value} {n k : Nat} (h : Fill w B g e f z n k) : B ≤ g ∧ g < w.heap.size := World.ownsRow.lt h g rfl
theorem Fill.bel {w w0 : World} {B g : Nat} {e : TypeId} {f : Nat → Value} {z : Value} {n k : Nat} (h : Fill w B g e f z n k) (hb : Below B w0 w) (i : Nat) (u : Value) : Below B w0 (w.setCell ⟨g, i, none⟩ u) := hb.setCell h.low.1 _
theorem Fill.below {w w' : World} {B g : Nat} {e : TypeId} {f : Nat → Value} {z : Value} {n k : Nat} (h : Fill w B g e f z n k) (hb : Below w.heap.size w w') : Fill w' B g e f z n k := by
  have h2 : Own1 w B e (.slice (some ⟨g, 0, none⟩) n n) (fillL f z n k) := by unfold Own1; rw [fillL_len]; exact h
  have := h2.below hb
  unfold Own1 at this
  rw [fillL_len] at this
  exact this
theorem Fill.own {w : World} {B g : Nat} {e : TypeId} {f : Nat → Value} {z : Value} {n : Nat} (h : Fill w B g e f z n n) : Own1 w B e (.slice (some ⟨g, 0, none⟩) n n) ((List.range n).map f) := by
  unfold Own1
  rw [← fillL_full f z n, fillL_len]
  exact h
theorem map_range_getD {α : Type} (l : List α) (d : α) (f : α → Value) : (List.range l.length).map (fun i => f (l.getD i d)) = l.map f := by
  apply List.ext_getElem?
  intro i
  by_cases h : i < l.length
  · simp [h, List.getD]
  · simp [h]

/-- what a slice's own row reads as at a place -/
theorem Reads1.at {w : World} {v : Value} {xs : List Value} (h : Reads1 w v xs) : (∃ a c, v = .slice a 0 c ∧ xs = []) ∨ ∃ b o c, v = .slice (some ⟨b, o, none⟩) xs.length c ∧ ∀ i (h : i < xs.length), w.cell? ⟨b, o + i, none⟩ = some xs[i] := by
  rcases h with h | ⟨b, o, n, c, rfl, hn, hc⟩
  · exact .inl h
  · exact .inr ⟨b, o, c, by rw [hn], hc⟩

theorem bel1 (w : World) (a : Obj) : Below w.heap.size w (w.alloc a) := (Below.refl _ w).alloc (Nat.le_refl _) a
theorem bel2 (w : World) (a b : Obj) : Below w.heap.size w ((w.alloc a).alloc b) := (bel1 w a).alloc (by simp) b
theorem bel3 (w : World) (a b c : Obj) : Below w.heap.size w (((w.alloc a).alloc b).alloc c) := (bel2 w a b).alloc (by simp; omega) c
theorem bel4 (w : World) (a b c d : Obj) : Below w.heap.size w ((((w.alloc a).alloc b).alloc c).alloc d) := (bel3 w a b c).alloc (by simp; omega) d

theorem cell_box1 {w : World} {p : Addr} {v : Value} (h : w.cell? p = some v) (a : Obj) : (w.alloc a).cell? p = some v := by rw [(bel1 w a).cell (cell_lt h)]; exact h
theorem cell_box2 {w : World} {p : Addr} {v : Value} (h : w.cell? p = some v) (a b : Obj) : ((w.alloc a).alloc b).cell? p = some v := cell_box1 (cell_box1 h a) b
theorem cell_box3 {w : World} {p : Addr} {v : Value} (h : w.cell? p = some v) (a b c : Obj) : (((w.alloc a).alloc b).alloc c).cell? p = some v := cell_box1 (cell_box2 h a b) c
theorem cell_box4 {w : World} {p : Addr} {v : Value} (h : w.cell? p = some v) (a b c d : Obj) : ((((w.alloc a).alloc b).alloc c).alloc d).cell? p = some v := cell_box1 (cell_box3 h a b c) d

abbrev vnil : Value := .slice none 0 0
/-- a Vec's cells -/
abbrev vecV (k : Int) (bw : Value) (bn : Int) (s i f c x : Value) : Value := .agg #[.int .i64 k, bw, .int .i64 bn, s, i, f, c, x]

/-- packed truths: words and the bits in them -/
structure BitsOf (ws : List Nat) (l : List Bool) : Prop where
  len : ws.length = (l.length + 63) / 64
  word : ∀ x ∈ ws, x < 18446744073709551616
  bit : ∀ i (h : i < ws.length) j, j < 64 → ws[i].testBit j = l.getD (64 * i + j) false

/-- the elements of a Vec -/
inductive VecS where
  | none | bits (l : List Bool) | small (l : List Int) | ints (l : List Int) | floats (l : List Nat) | chars (l : List Int) | boxes (s : Value)

def VecS.kind : VecS → Nat
  | .none => 0 | .bits _ => 1 | .small _ => 2 | .ints _ => 3 | .floats _ => 4 | .chars _ => 5 | .boxes _ => 6

/-- a Vec in memory -/
def VR (w : World) (v : Value) : VecS → Prop
  | .none => v = vecV 0 vnil 0 vnil vnil vnil vnil vnil
  | .bits l => ∃ b ws, v = vecV 1 b l.length vnil vnil vnil vnil vnil ∧ Reads1 w b (ws.map fun x : Nat => .int .u64 x) ∧ BitsOf ws l
  | .small l => ∃ s, v = vecV 2 vnil 0 s vnil vnil vnil vnil ∧ Reads1 w s (l.map (.int .i8)) ∧ ∀ n ∈ l, -128 ≤ n ∧ n ≤ 127
  | .ints l => ∃ s, v = vecV 3 vnil 0 vnil s vnil vnil vnil ∧ Reads1 w s (l.map (.int .i64)) ∧ ∀ n ∈ l, -9007199254740992 ≤ n ∧ n ≤ 9007199254740992
  | .floats l => ∃ s, v = vecV 4 vnil 0 vnil vnil s vnil vnil ∧ Reads1 w s (l.map (.float .f64))
  | .chars l => ∃ s, v = vecV 5 vnil 0 vnil vnil vnil s vnil ∧ Reads1 w s (l.map (.int .i32))
  | .boxes s => v = vecV 6 vnil 0 vnil vnil vnil vnil s

theorem VR.below {w w' : World} {v : Value} {x : VecS} (h : VR w v x) (hb : Below w.heap.size w w') : VR w' v x := by
  cases x with
  | none => exact h
  | bits l => obtain ⟨b, ws, e, h1, h2⟩ := h; exact ⟨b, ws, e, h1.below hb, h2⟩
  | small l => obtain ⟨s, e, h1, h2⟩ := h; exact ⟨s, e, h1.below hb, h2⟩
  | ints l => obtain ⟨s, e, h1, h2⟩ := h; exact ⟨s, e, h1.below hb, h2⟩
  | floats l => obtain ⟨s, e, h1⟩ := h; exact ⟨s, e, h1.below hb⟩
  | chars l => obtain ⟨s, e, h1⟩ := h; exact ⟨s, e, h1.below hb⟩
  | boxes s => exact h
end Go.Proofs.YtdddmehchfnppaaGreatDoor
namespace Go.Proofs.YtdddmehchfnppaaGreatDoor
open Go Go.RowKit Go.Proofs Fl

set_option maxHeartbeats 400000 in
theorem kind_any (k : Int) (b : Value) (bn : Int) (s i f c x : Value) (w : World) :
    Calls Tryz.prog 11 #[vecV k b bn s i f c x] w fun e w' => e = .returned (.int .i64 k) ∧ Below w.heap.size w w' := by
  go_enter Tryz.func11, Tryz.ntmps11
  go_wp2
  all_goals go_ret
  all_goals exact ⟨rfl, by first | exact Below.refl _ _ | exact bel1 _ _ | exact bel2 _ _ _ | exact bel3 _ _ _ _ | exact bel4 _ _ _ _ _⟩

set_option maxHeartbeats 400000 in
theorem class_0 (b : Value) (bn : Int) (s i f c x : Value) (w : World) :
    Calls Tryz.prog 31 #[vecV 0 b bn s i f c x] w fun e w' => e = .returned (.int .i64 0) ∧ Below w.heap.size w w' := by
  go_enter Tryz.func31, Tryz.ntmps31
  go_wp2
  all_goals go_ret
  all_goals exact ⟨rfl, by first | exact Below.refl _ _ | exact bel1 _ _ | exact bel2 _ _ _ | exact bel3 _ _ _ _ | exact bel4 _ _ _ _ _⟩

set_option maxHeartbeats 400000 in
theorem class_1 (b : Value) (bn : Int) (s i f c x : Value) (w : World) :
    Calls Tryz.prog 31 #[vecV 1 b bn s i f c x] w fun e w' => e = .returned (.int .i64 0) ∧ Below w.heap.size w w' := by
  go_enter Tryz.func31, Tryz.ntmps31
  go_wp2
  all_goals go_ret
  all_goals exact ⟨rfl, by first | exact Below.refl _ _ | exact bel1 _ _ | exact bel2 _ _ _ | exact bel3 _ _ _ _ | exact bel4 _ _ _ _ _⟩

set_option maxHeartbeats 400000 in
theorem class_2 (b : Value) (bn : Int) (s i f c x : Value) (w : World) :
    Calls Tryz.prog 31 #[vecV 2 b bn s i f c x] w fun e w' => e = .returned (.int .i64 0) ∧ Below w.heap.size w w' := by
  go_enter Tryz.func31, Tryz.ntmps31
  go_wp2
  all_goals go_ret
  all_goals exact ⟨rfl, by first | exact Below.refl _ _ | exact bel1 _ _ | exact bel2 _ _ _ | exact bel3 _ _ _ _ | exact bel4 _ _ _ _ _⟩

set_option maxHeartbeats 400000 in
theorem class_3 (b : Value) (bn : Int) (s i f c x : Value) (w : World) :
    Calls Tryz.prog 31 #[vecV 3 b bn s i f c x] w fun e w' => e = .returned (.int .i64 0) ∧ Below w.heap.size w w' := by
  go_enter Tryz.func31, Tryz.ntmps31
  go_wp2
  all_goals go_ret
  all_goals exact ⟨rfl, by first | exact Below.refl _ _ | exact bel1 _ _ | exact bel2 _ _ _ | exact bel3 _ _ _ _ | exact bel4 _ _ _ _ _⟩

set_option maxHeartbeats 400000 in
theorem class_4 (b : Value) (bn : Int) (s i f c x : Value) (w : World) :
    Calls Tryz.prog 31 #[vecV 4 b bn s i f c x] w fun e w' => e = .returned (.int .i64 0) ∧ Below w.heap.size w w' := by
  go_enter Tryz.func31, Tryz.ntmps31
  go_wp2
  all_goals go_ret
  all_goals exact ⟨rfl, by first | exact Below.refl _ _ | exact bel1 _ _ | exact bel2 _ _ _ | exact bel3 _ _ _ _ | exact bel4 _ _ _ _ _⟩

set_option maxHeartbeats 400000 in
theorem class_5 (b : Value) (bn : Int) (s i f c x : Value) (w : World) :
    Calls Tryz.prog 31 #[vecV 5 b bn s i f c x] w fun e w' => e = .returned (.int .i64 1) ∧ Below w.heap.size w w' := by
  go_enter Tryz.func31, Tryz.ntmps31
  go_wp2
  all_goals go_ret
  all_goals exact ⟨rfl, by first | exact Below.refl _ _ | exact bel1 _ _ | exact bel2 _ _ _ | exact bel3 _ _ _ _ | exact bel4 _ _ _ _ _⟩

set_option maxHeartbeats 400000 in
theorem class_6 (b : Value) (bn : Int) (s i f c x : Value) (w : World) :
    Calls Tryz.prog 31 #[vecV 6 b bn s i f c x] w fun e w' => e = .returned (.int .i64 2) ∧ Below w.heap.size w w' := by
  go_enter Tryz.func31, Tryz.ntmps31
  go_wp2
  all_goals go_ret
  all_goals exact ⟨rfl, by first | exact Below.refl _ _ | exact bel1 _ _ | exact bel2 _ _ _ | exact bel3 _ _ _ _ | exact bel4 _ _ _ _ _⟩

set_option maxHeartbeats 400000 in
theorem len_2 (b : Value) (bn : Int) (i f c x : Value) (p : Option Addr) (n q : Nat) (w : World) :
    Calls Tryz.prog 39 #[vecV 2 b bn (.slice p n q) i f c x] w fun e w' => e = .returned (.int .i64 n) ∧ Below w.heap.size w w' := by
  go_enter Tryz.func39, Tryz.ntmps39
  go_wp2
  all_goals go_ret
  all_goals exact ⟨rfl, by first | exact Below.refl _ _ | exact bel1 _ _ | exact bel2 _ _ _ | exact bel3 _ _ _ _ | exact bel4 _ _ _ _ _⟩

set_option maxHeartbeats 400000 in
theorem len_3 (b : Value) (bn : Int) (s f c x : Value) (p : Option Addr) (n q : Nat) (w : World) :
    Calls Tryz.prog 39 #[vecV 3 b bn s (.slice p n q) f c x] w fun e w' => e = .returned (.int .i64 n) ∧ Below w.heap.size w w' := by
  go_enter Tryz.func39, Tryz.ntmps39
  go_wp2
  all_goals go_ret
  all_goals exact ⟨rfl, by first | exact Below.refl _ _ | exact bel1 _ _ | exact bel2 _ _ _ | exact bel3 _ _ _ _ | exact bel4 _ _ _ _ _⟩

set_option maxHeartbeats 400000 in
theorem len_4 (b : Value) (bn : Int) (s i c x : Value) (p : Option Addr) (n q : Nat) (w : World) :
    Calls Tryz.prog 39 #[vecV 4 b bn s i (.slice p n q) c x] w fun e w' => e = .returned (.int .i64 n) ∧ Below w.heap.size w w' := by
  go_enter Tryz.func39, Tryz.ntmps39
  go_wp2
  all_goals go_ret
  all_goals exact ⟨rfl, by first | exact Below.refl _ _ | exact bel1 _ _ | exact bel2 _ _ _ | exact bel3 _ _ _ _ | exact bel4 _ _ _ _ _⟩

set_option maxHeartbeats 400000 in
theorem len_5 (b : Value) (bn : Int) (s i f x : Value) (p : Option Addr) (n q : Nat) (w : World) :
    Calls Tryz.prog 39 #[vecV 5 b bn s i f (.slice p n q) x] w fun e w' => e = .returned (.int .i64 n) ∧ Below w.heap.size w w' := by
  go_enter Tryz.func39, Tryz.ntmps39
  go_wp2
  all_goals go_ret
  all_goals exact ⟨rfl, by first | exact Below.refl _ _ | exact bel1 _ _ | exact bel2 _ _ _ | exact bel3 _ _ _ _ | exact bel4 _ _ _ _ _⟩

set_option maxHeartbeats 400000 in
theorem len_6 (b : Value) (bn : Int) (s i f c : Value) (p : Option Addr) (n q : Nat) (w : World) :
    Calls Tryz.prog 39 #[vecV 6 b bn s i f c (.slice p n q)] w fun e w' => e = .returned (.int .i64 n) ∧ Below w.heap.size w w' := by
  go_enter Tryz.func39, Tryz.ntmps39
  go_wp2
  all_goals go_ret
  all_goals exact ⟨rfl, by first | exact Below.refl _ _ | exact bel1 _ _ | exact bel2 _ _ _ | exact bel3 _ _ _ _ | exact bel4 _ _ _ _ _⟩

set_option maxHeartbeats 400000 in
theorem len_1 (b : Value) (bn : Int) (s i f c x : Value) (w : World) :
    Calls Tryz.prog 39 #[vecV 1 b bn s i f c x] w fun e w' => e = .returned (.int .i64 bn) ∧ Below w.heap.size w w' := by
  go_enter Tryz.func39, Tryz.ntmps39
  go_wp2
  all_goals go_ret
  all_goals exact ⟨rfl, by first | exact Below.refl _ _ | exact bel1 _ _ | exact bel2 _ _ _ | exact bel3 _ _ _ _ | exact bel4 _ _ _ _ _⟩

set_option maxHeartbeats 400000 in
theorem len_0 (b : Value) (bn : Int) (s i f c x : Value) (w : World) :
    Calls Tryz.prog 39 #[vecV 0 b bn s i f c x] w fun e w' => e = .returned (.int .i64 0) ∧ Below w.heap.size w w' := by
  go_enter Tryz.func39, Tryz.ntmps39
  go_wp2
  all_goals go_ret
  all_goals exact ⟨rfl, by first | exact Below.refl _ _ | exact bel1 _ _ | exact bel2 _ _ _ | exact bel3 _ _ _ _ | exact bel4 _ _ _ _ _⟩

set_option maxHeartbeats 400000 in
theorem num_2 (b : Value) (bn : Int) (i f c x : Value) (B o n q j : Nat) (hj : j < n) (z : Int) (w : World) (hc : w.cell? ⟨B, o + j, none⟩ = some (.int .i8 z)) :
    Calls Tryz.prog 28 #[vecV 2 b bn (.slice (some ⟨B, o, none⟩) n q) i f c x, .int .i64 (j : Int)] w fun e w' => e = .returned (.float .f64 (floatOfInt .f64 z)) ∧ Below w.heap.size w w' := by
  have h1 := fun a => cell_box1 hc a
  have h2 := fun a b => cell_box2 hc a b
  have h3 := fun a b d => cell_box3 hc a b d
  have h4 := fun a b d g => cell_box4 hc a b d g
  go_enter Tryz.func28, Tryz.ntmps28
  go_wp2
  all_goals go_ret
  all_goals exact ⟨rfl, by first | exact Below.refl _ _ | exact bel1 _ _ | exact bel2 _ _ _ | exact bel3 _ _ _ _ | exact bel4 _ _ _ _ _⟩

set_option maxHeartbeats 400000 in
theorem vwhole_2 (b : Value) (bn : Int) (i f c x : Value) (B o n q j : Nat) (hj : j < n) (z : Int) (hz : -128 ≤ z) (hz2 : z ≤ 127) (w : World) (hc : w.cell? ⟨B, o + j, none⟩ = some (.int .i8 z)) :
    Calls Tryz.prog 71 #[vecV 2 b bn (.slice (some ⟨B, o, none⟩) n q) i f c x, .int .i64 (j : Int)] w fun e w' => e = .returned (.tuple #[.int .i64 z, .bool true]) ∧ Below w.heap.size w w' := by
  have h1 := fun a => cell_box1 hc a
  have h2 := fun a b => cell_box2 hc a b
  have h3 := fun a b d => cell_box3 hc a b d
  have h4 := fun a b d g => cell_box4 hc a b d g
  go_enter Tryz.func71, Tryz.ntmps71
  go_wp2
  all_goals go_ret2
  all_goals exact ⟨rfl, by first | exact Below.refl _ _ | exact bel1 _ _ | exact bel2 _ _ _ | exact bel3 _ _ _ _ | exact bel4 _ _ _ _ _⟩

set_option maxHeartbeats 400000 in
theorem num_3 (b : Value) (bn : Int) (s f c x : Value) (B o n q j : Nat) (hj : j < n) (z : Int) (w : World) (hc : w.cell? ⟨B, o + j, none⟩ = some (.int .i64 z)) :
    Calls Tryz.prog 28 #[vecV 3 b bn s (.slice (some ⟨B, o, none⟩) n q) f c x, .int .i64 (j : Int)] w fun e w' => e = .returned (.float .f64 (floatOfInt .f64 z)) ∧ Below w.heap.size w w' := by
  have h1 := fun a => cell_box1 hc a
  have h2 := fun a b => cell_box2 hc a b
  have h3 := fun a b d => cell_box3 hc a b d
  have h4 := fun a b d g => cell_box4 hc a b d g
  go_enter Tryz.func28, Tryz.ntmps28
  go_wp2
  all_goals go_ret
  all_goals exact ⟨rfl, by first | exact Below.refl _ _ | exact bel1 _ _ | exact bel2 _ _ _ | exact bel3 _ _ _ _ | exact bel4 _ _ _ _ _⟩

set_option maxHeartbeats 400000 in
theorem vwhole_3 (b : Value) (bn : Int) (s f c x : Value) (B o n q j : Nat) (hj : j < n) (z : Int) (w : World) (hc : w.cell? ⟨B, o + j, none⟩ = some (.int .i64 z)) :
    Calls Tryz.prog 71 #[vecV 3 b bn s (.slice (some ⟨B, o, none⟩) n q) f c x, .int .i64 (j : Int)] w fun e w' => e = .returned (.tuple #[.int .i64 z, .bool true]) ∧ Below w.heap.size w w' := by
  have h1 := fun a => cell_box1 hc a
  have h2 := fun a b => cell_box2 hc a b
  have h3 := fun a b d => cell_box3 hc a b d
  have h4 := fun a b d g => cell_box4 hc a b d g
  go_enter Tryz.func71, Tryz.ntmps71
  go_wp2
  all_goals go_ret2
  all_goals exact ⟨rfl, by first | exact Below.refl _ _ | exact bel1 _ _ | exact bel2 _ _ _ | exact bel3 _ _ _ _ | exact bel4 _ _ _ _ _⟩

set_option maxHeartbeats 400000 in
theorem num_4 (b : Value) (bn : Int) (s i c x : Value) (B o n q j : Nat) (hj : j < n) (y : Nat) (w : World) (hc : w.cell? ⟨B, o + j, none⟩ = some (.float .f64 y)) :
    Calls Tryz.prog 28 #[vecV 4 b bn s i (.slice (some ⟨B, o, none⟩) n q) c x, .int .i64 (j : Int)] w fun e w' => e = .returned (.float .f64 y) ∧ Below w.heap.size w w' := by
  have h1 := fun a => cell_box1 hc a
  have h2 := fun a b => cell_box2 hc a b
  have h3 := fun a b d => cell_box3 hc a b d
  have h4 := fun a b d g => cell_box4 hc a b d g
  go_enter Tryz.func28, Tryz.ntmps28
  go_wp2
  all_goals go_ret
  all_goals exact ⟨rfl, by first | exact Below.refl _ _ | exact bel1 _ _ | exact bel2 _ _ _ | exact bel3 _ _ _ _ | exact bel4 _ _ _ _ _⟩

set_option maxHeartbeats 400000 in
theorem vwhole_4 (b : Value) (bn : Int) (s i c x : Value) (B o n q j : Nat) (hj : j < n) (w : World) :
    Calls Tryz.prog 71 #[vecV 4 b bn s i (.slice (some ⟨B, o, none⟩) n q) c x, .int .i64 (j : Int)] w fun e w' => e = .returned (.tuple #[.int .i64 0, .bool false]) ∧ Below w.heap.size w w' := by
  go_enter Tryz.func71, Tryz.ntmps71
  go_wp2
  all_goals go_ret2
  all_goals exact ⟨rfl, by first | exact Below.refl _ _ | exact bel1 _ _ | exact bel2 _ _ _ | exact bel3 _ _ _ _ | exact bel4 _ _ _ _ _⟩

end Go.Proofs.YtdddmehchfnppaaGreatDoor
