/- The walks of a Vec's small questions: Kind, Class, Len, Num, Whole, store by store. Conditions: as each theorem says. -/
import Derived.Test.YtdddmehchfnppaaDoorVec
import Derived.Test.YtdddmehchfnppaaDoorLitA
namespace Go.Proofs.YtdddmehchfnppaaDoor
open Go Go.RowKit Go.Proofs Fl

set_option maxHeartbeats 400000 in
theorem kind_any (k : Int) (b : Value) (bn : Int) (s i f c x : Value) (w : World) :
    Calls Tryd.prog 15 #[vecV k b bn s i f c x] w fun e w' => e = .returned (.int .i64 k) ∧ Below w.heap.size w w' := by
  go_enter Tryd.func15, Tryd.ntmps15
  go_wp2
  all_goals go_ret
  all_goals exact ⟨rfl, by first | exact Below.refl _ _ | exact bel1 _ _ | exact bel2 _ _ _ | exact bel3 _ _ _ _ | exact bel4 _ _ _ _ _⟩

set_option maxHeartbeats 400000 in
theorem class_0 (b : Value) (bn : Int) (s i f c x : Value) (w : World) :
    Calls Tryd.prog 27 #[vecV 0 b bn s i f c x] w fun e w' => e = .returned (.int .i64 0) ∧ Below w.heap.size w w' := by
  go_enter Tryd.func27, Tryd.ntmps27
  go_wp2
  all_goals go_ret
  all_goals exact ⟨rfl, by first | exact Below.refl _ _ | exact bel1 _ _ | exact bel2 _ _ _ | exact bel3 _ _ _ _ | exact bel4 _ _ _ _ _⟩

set_option maxHeartbeats 400000 in
theorem class_1 (b : Value) (bn : Int) (s i f c x : Value) (w : World) :
    Calls Tryd.prog 27 #[vecV 1 b bn s i f c x] w fun e w' => e = .returned (.int .i64 0) ∧ Below w.heap.size w w' := by
  go_enter Tryd.func27, Tryd.ntmps27
  go_wp2
  all_goals go_ret
  all_goals exact ⟨rfl, by first | exact Below.refl _ _ | exact bel1 _ _ | exact bel2 _ _ _ | exact bel3 _ _ _ _ | exact bel4 _ _ _ _ _⟩

set_option maxHeartbeats 400000 in
theorem class_2 (b : Value) (bn : Int) (s i f c x : Value) (w : World) :
    Calls Tryd.prog 27 #[vecV 2 b bn s i f c x] w fun e w' => e = .returned (.int .i64 0) ∧ Below w.heap.size w w' := by
  go_enter Tryd.func27, Tryd.ntmps27
  go_wp2
  all_goals go_ret
  all_goals exact ⟨rfl, by first | exact Below.refl _ _ | exact bel1 _ _ | exact bel2 _ _ _ | exact bel3 _ _ _ _ | exact bel4 _ _ _ _ _⟩

set_option maxHeartbeats 400000 in
theorem class_3 (b : Value) (bn : Int) (s i f c x : Value) (w : World) :
    Calls Tryd.prog 27 #[vecV 3 b bn s i f c x] w fun e w' => e = .returned (.int .i64 0) ∧ Below w.heap.size w w' := by
  go_enter Tryd.func27, Tryd.ntmps27
  go_wp2
  all_goals go_ret
  all_goals exact ⟨rfl, by first | exact Below.refl _ _ | exact bel1 _ _ | exact bel2 _ _ _ | exact bel3 _ _ _ _ | exact bel4 _ _ _ _ _⟩

set_option maxHeartbeats 400000 in
theorem class_4 (b : Value) (bn : Int) (s i f c x : Value) (w : World) :
    Calls Tryd.prog 27 #[vecV 4 b bn s i f c x] w fun e w' => e = .returned (.int .i64 0) ∧ Below w.heap.size w w' := by
  go_enter Tryd.func27, Tryd.ntmps27
  go_wp2
  all_goals go_ret
  all_goals exact ⟨rfl, by first | exact Below.refl _ _ | exact bel1 _ _ | exact bel2 _ _ _ | exact bel3 _ _ _ _ | exact bel4 _ _ _ _ _⟩

set_option maxHeartbeats 400000 in
theorem class_5 (b : Value) (bn : Int) (s i f c x : Value) (w : World) :
    Calls Tryd.prog 27 #[vecV 5 b bn s i f c x] w fun e w' => e = .returned (.int .i64 1) ∧ Below w.heap.size w w' := by
  go_enter Tryd.func27, Tryd.ntmps27
  go_wp2
  all_goals go_ret
  all_goals exact ⟨rfl, by first | exact Below.refl _ _ | exact bel1 _ _ | exact bel2 _ _ _ | exact bel3 _ _ _ _ | exact bel4 _ _ _ _ _⟩

set_option maxHeartbeats 400000 in
theorem class_6 (b : Value) (bn : Int) (s i f c x : Value) (w : World) :
    Calls Tryd.prog 27 #[vecV 6 b bn s i f c x] w fun e w' => e = .returned (.int .i64 2) ∧ Below w.heap.size w w' := by
  go_enter Tryd.func27, Tryd.ntmps27
  go_wp2
  all_goals go_ret
  all_goals exact ⟨rfl, by first | exact Below.refl _ _ | exact bel1 _ _ | exact bel2 _ _ _ | exact bel3 _ _ _ _ | exact bel4 _ _ _ _ _⟩

set_option maxHeartbeats 400000 in
theorem len_2 (b : Value) (bn : Int) (i f c x : Value) (p : Option Addr) (n q : Nat) (w : World) :
    Calls Tryd.prog 38 #[vecV 2 b bn (.slice p n q) i f c x] w fun e w' => e = .returned (.int .i64 n) ∧ Below w.heap.size w w' := by
  go_enter Tryd.func38, Tryd.ntmps38
  go_wp2
  all_goals go_ret
  all_goals exact ⟨rfl, by first | exact Below.refl _ _ | exact bel1 _ _ | exact bel2 _ _ _ | exact bel3 _ _ _ _ | exact bel4 _ _ _ _ _⟩

set_option maxHeartbeats 400000 in
theorem len_3 (b : Value) (bn : Int) (s f c x : Value) (p : Option Addr) (n q : Nat) (w : World) :
    Calls Tryd.prog 38 #[vecV 3 b bn s (.slice p n q) f c x] w fun e w' => e = .returned (.int .i64 n) ∧ Below w.heap.size w w' := by
  go_enter Tryd.func38, Tryd.ntmps38
  go_wp2
  all_goals go_ret
  all_goals exact ⟨rfl, by first | exact Below.refl _ _ | exact bel1 _ _ | exact bel2 _ _ _ | exact bel3 _ _ _ _ | exact bel4 _ _ _ _ _⟩

set_option maxHeartbeats 400000 in
theorem len_4 (b : Value) (bn : Int) (s i c x : Value) (p : Option Addr) (n q : Nat) (w : World) :
    Calls Tryd.prog 38 #[vecV 4 b bn s i (.slice p n q) c x] w fun e w' => e = .returned (.int .i64 n) ∧ Below w.heap.size w w' := by
  go_enter Tryd.func38, Tryd.ntmps38
  go_wp2
  all_goals go_ret
  all_goals exact ⟨rfl, by first | exact Below.refl _ _ | exact bel1 _ _ | exact bel2 _ _ _ | exact bel3 _ _ _ _ | exact bel4 _ _ _ _ _⟩

set_option maxHeartbeats 400000 in
theorem len_5 (b : Value) (bn : Int) (s i f x : Value) (p : Option Addr) (n q : Nat) (w : World) :
    Calls Tryd.prog 38 #[vecV 5 b bn s i f (.slice p n q) x] w fun e w' => e = .returned (.int .i64 n) ∧ Below w.heap.size w w' := by
  go_enter Tryd.func38, Tryd.ntmps38
  go_wp2
  all_goals go_ret
  all_goals exact ⟨rfl, by first | exact Below.refl _ _ | exact bel1 _ _ | exact bel2 _ _ _ | exact bel3 _ _ _ _ | exact bel4 _ _ _ _ _⟩

set_option maxHeartbeats 400000 in
theorem len_6 (b : Value) (bn : Int) (s i f c : Value) (p : Option Addr) (n q : Nat) (w : World) :
    Calls Tryd.prog 38 #[vecV 6 b bn s i f c (.slice p n q)] w fun e w' => e = .returned (.int .i64 n) ∧ Below w.heap.size w w' := by
  go_enter Tryd.func38, Tryd.ntmps38
  go_wp2
  all_goals go_ret
  all_goals exact ⟨rfl, by first | exact Below.refl _ _ | exact bel1 _ _ | exact bel2 _ _ _ | exact bel3 _ _ _ _ | exact bel4 _ _ _ _ _⟩

set_option maxHeartbeats 400000 in
theorem len_1 (b : Value) (bn : Int) (s i f c x : Value) (w : World) :
    Calls Tryd.prog 38 #[vecV 1 b bn s i f c x] w fun e w' => e = .returned (.int .i64 bn) ∧ Below w.heap.size w w' := by
  go_enter Tryd.func38, Tryd.ntmps38
  go_wp2
  all_goals go_ret
  all_goals exact ⟨rfl, by first | exact Below.refl _ _ | exact bel1 _ _ | exact bel2 _ _ _ | exact bel3 _ _ _ _ | exact bel4 _ _ _ _ _⟩

set_option maxHeartbeats 400000 in
theorem len_0 (b : Value) (bn : Int) (s i f c x : Value) (w : World) :
    Calls Tryd.prog 38 #[vecV 0 b bn s i f c x] w fun e w' => e = .returned (.int .i64 0) ∧ Below w.heap.size w w' := by
  go_enter Tryd.func38, Tryd.ntmps38
  go_wp2
  all_goals go_ret
  all_goals exact ⟨rfl, by first | exact Below.refl _ _ | exact bel1 _ _ | exact bel2 _ _ _ | exact bel3 _ _ _ _ | exact bel4 _ _ _ _ _⟩

set_option maxHeartbeats 400000 in
theorem num_2 (b : Value) (bn : Int) (i f c x : Value) (B o n q j : Nat) (hj : j < n) (z : Int) (w : World) (hc : w.cell? ⟨B, o + j, none⟩ = some (.int .i8 z)) :
    Calls Tryd.prog 39 #[vecV 2 b bn (.slice (some ⟨B, o, none⟩) n q) i f c x, .int .i64 (j : Int)] w fun e w' => e = .returned (.float .f64 (floatOfInt .f64 z)) ∧ Below w.heap.size w w' := by
  have h1 := fun a => cell_box1 hc a
  have h2 := fun a b => cell_box2 hc a b
  have h3 := fun a b d => cell_box3 hc a b d
  have h4 := fun a b d g => cell_box4 hc a b d g
  go_enter Tryd.func39, Tryd.ntmps39
  go_wp2
  all_goals go_ret
  all_goals exact ⟨rfl, by first | exact Below.refl _ _ | exact bel1 _ _ | exact bel2 _ _ _ | exact bel3 _ _ _ _ | exact bel4 _ _ _ _ _⟩

set_option maxHeartbeats 400000 in
theorem vwhole_2 (b : Value) (bn : Int) (i f c x : Value) (B o n q j : Nat) (hj : j < n) (z : Int) (hz : -128 ≤ z) (hz2 : z ≤ 127) (w : World) (hc : w.cell? ⟨B, o + j, none⟩ = some (.int .i8 z)) :
    Calls Tryd.prog 59 #[vecV 2 b bn (.slice (some ⟨B, o, none⟩) n q) i f c x, .int .i64 (j : Int)] w fun e w' => e = .returned (.tuple #[.int .i64 z, .bool true]) ∧ Below w.heap.size w w' := by
  have h1 := fun a => cell_box1 hc a
  have h2 := fun a b => cell_box2 hc a b
  have h3 := fun a b d => cell_box3 hc a b d
  have h4 := fun a b d g => cell_box4 hc a b d g
  go_enter Tryd.func59, Tryd.ntmps59
  go_wp2
  all_goals go_ret2
  all_goals exact ⟨rfl, by first | exact Below.refl _ _ | exact bel1 _ _ | exact bel2 _ _ _ | exact bel3 _ _ _ _ | exact bel4 _ _ _ _ _⟩

set_option maxHeartbeats 400000 in
theorem num_3 (b : Value) (bn : Int) (s f c x : Value) (B o n q j : Nat) (hj : j < n) (z : Int) (w : World) (hc : w.cell? ⟨B, o + j, none⟩ = some (.int .i64 z)) :
    Calls Tryd.prog 39 #[vecV 3 b bn s (.slice (some ⟨B, o, none⟩) n q) f c x, .int .i64 (j : Int)] w fun e w' => e = .returned (.float .f64 (floatOfInt .f64 z)) ∧ Below w.heap.size w w' := by
  have h1 := fun a => cell_box1 hc a
  have h2 := fun a b => cell_box2 hc a b
  have h3 := fun a b d => cell_box3 hc a b d
  have h4 := fun a b d g => cell_box4 hc a b d g
  go_enter Tryd.func39, Tryd.ntmps39
  go_wp2
  all_goals go_ret
  all_goals exact ⟨rfl, by first | exact Below.refl _ _ | exact bel1 _ _ | exact bel2 _ _ _ | exact bel3 _ _ _ _ | exact bel4 _ _ _ _ _⟩

set_option maxHeartbeats 400000 in
theorem vwhole_3 (b : Value) (bn : Int) (s f c x : Value) (B o n q j : Nat) (hj : j < n) (z : Int) (w : World) (hc : w.cell? ⟨B, o + j, none⟩ = some (.int .i64 z)) :
    Calls Tryd.prog 59 #[vecV 3 b bn s (.slice (some ⟨B, o, none⟩) n q) f c x, .int .i64 (j : Int)] w fun e w' => e = .returned (.tuple #[.int .i64 z, .bool true]) ∧ Below w.heap.size w w' := by
  have h1 := fun a => cell_box1 hc a
  have h2 := fun a b => cell_box2 hc a b
  have h3 := fun a b d => cell_box3 hc a b d
  have h4 := fun a b d g => cell_box4 hc a b d g
  go_enter Tryd.func59, Tryd.ntmps59
  go_wp2
  all_goals go_ret2
  all_goals exact ⟨rfl, by first | exact Below.refl _ _ | exact bel1 _ _ | exact bel2 _ _ _ | exact bel3 _ _ _ _ | exact bel4 _ _ _ _ _⟩

set_option maxHeartbeats 400000 in
theorem num_4 (b : Value) (bn : Int) (s i c x : Value) (B o n q j : Nat) (hj : j < n) (y : Nat) (w : World) (hc : w.cell? ⟨B, o + j, none⟩ = some (.float .f64 y)) :
    Calls Tryd.prog 39 #[vecV 4 b bn s i (.slice (some ⟨B, o, none⟩) n q) c x, .int .i64 (j : Int)] w fun e w' => e = .returned (.float .f64 y) ∧ Below w.heap.size w w' := by
  have h1 := fun a => cell_box1 hc a
  have h2 := fun a b => cell_box2 hc a b
  have h3 := fun a b d => cell_box3 hc a b d
  have h4 := fun a b d g => cell_box4 hc a b d g
  go_enter Tryd.func39, Tryd.ntmps39
  go_wp2
  all_goals go_ret
  all_goals exact ⟨rfl, by first | exact Below.refl _ _ | exact bel1 _ _ | exact bel2 _ _ _ | exact bel3 _ _ _ _ | exact bel4 _ _ _ _ _⟩

set_option maxHeartbeats 400000 in
theorem vwhole_4 (b : Value) (bn : Int) (s i c x : Value) (B o n q j : Nat) (hj : j < n) (w : World) :
    Calls Tryd.prog 59 #[vecV 4 b bn s i (.slice (some ⟨B, o, none⟩) n q) c x, .int .i64 (j : Int)] w fun e w' => e = .returned (.tuple #[.int .i64 0, .bool false]) ∧ Below w.heap.size w w' := by
  go_enter Tryd.func59, Tryd.ntmps59
  go_wp2
  all_goals go_ret2
  all_goals exact ⟨rfl, by first | exact Below.refl _ _ | exact bel1 _ _ | exact bel2 _ _ _ | exact bel3 _ _ _ _ | exact bel4 _ _ _ _ _⟩

end Go.Proofs.YtdddmehchfnppaaDoor
