/- Walks of the functions that test floats: Tidy, Finite, Whole, Small, Bits, IsInf, IsNaN. Conditions: as each theorem says. -/
import Derived.Test.YtdddmehchfnppaaDoorProg
import Derived.Test.YtdddmehchfnppaaDoorMg00
import Derived.WalkKit
import Derived.WalkLawsBesides
import Derived.Lib.Hide
import Derived.Outline
namespace Go.Proofs.YtdddmehchfnppaaDoor
open Go Go.RowKit Go.Proofs Fl

/-- float order as Booleans -/
theorem fo_gt (s t : Bool) {Z Y : Nat} (hz : Rep Z) (hy : Rep Y) : (FloatKind.f64.format.order (W s Z) (W t Y) == some .gt) = decide (sg t Y < sg s Z) := by
  have h : FloatKind.f64.format.order (W s Z) (W t Y) = some (compare (sg s Z) (sg t Y)) := order_W s t hz hy
  rw [h]
  rcases Int.lt_trichotomy (sg s Z) (sg t Y) with h1 | h1 | h1
  · rw [cmp_lt h1, decide_eq_false (by omega)]; rfl
  · rw [h1, cmp_eq, decide_eq_false (by omega)]; rfl
  · rw [cmp_gt h1, decide_eq_true h1]; rfl
theorem fo_lt (s t : Bool) {Z Y : Nat} (hz : Rep Z) (hy : Rep Y) : (FloatKind.f64.format.order (W s Z) (W t Y) == some .lt) = decide (sg s Z < sg t Y) := by
  have h : FloatKind.f64.format.order (W s Z) (W t Y) = some (compare (sg s Z) (sg t Y)) := order_W s t hz hy
  rw [h]
  rcases Int.lt_trichotomy (sg s Z) (sg t Y) with h1 | h1 | h1
  · rw [cmp_lt h1, decide_eq_true h1]; rfl
  · rw [h1, cmp_eq, decide_eq_false (by omega)]; rfl
  · rw [cmp_gt h1, decide_eq_false (by omega)]; rfl
theorem fo_eq (s t : Bool) {Z Y : Nat} (hz : Rep Z) (hy : Rep Y) : (FloatKind.f64.format.order (W s Z) (W t Y) == some .eq) = decide (sg s Z = sg t Y) := by
  have h : FloatKind.f64.format.order (W s Z) (W t Y) = some (compare (sg s Z) (sg t Y)) := order_W s t hz hy
  rw [h]
  rcases Int.lt_trichotomy (sg s Z) (sg t Y) with h1 | h1 | h1
  · rw [cmp_lt h1, decide_eq_false (by omega)]; rfl
  · rw [h1, cmp_eq, decide_eq_true rfl]; rfl
  · rw [cmp_gt h1, decide_eq_false (by omega)]; rfl
theorem fo_ne (s t : Bool) {Z Y : Nat} (hz : Rep Z) (hy : Rep Y) : (FloatKind.f64.format.order (W s Z) (W t Y) != some .eq) = !decide (sg s Z = sg t Y) := by
  rw [bne, fo_eq s t hz hy]
theorem fo_inf (s t : Bool) {Z : Nat} (hz : Rep Z) : FloatKind.f64.format.order (infw s) (W t Z) = some (if s then .lt else .gt) := order_inf s t hz
theorem fo_nan {a : Nat} (b : Nat) (h : (Ieee.double.read a).isNaN = true) : FloatKind.f64.format.order a b = none := order_nan h
theorem fo_infinf (s : Bool) : FloatKind.f64.format.order (infw s) (infw s) = some .eq := by
  have : FloatKind.f64.format.order (infw s) (infw s) = Ieee.double.order (infw s) (infw s) := rfl
  rw [this, Ieee.Format.order, read_inf]; cases s <;> rfl

theorem sg_bounds (s : Bool) {Z : Nat} (hz : Rep Z) : -(Top : Int) ≤ sg s Z ∧ sg s Z ≤ Top := by
  have := rep_le hz
  unfold sg; split <;> omega
theorem sg_true (Z : Nat) : sg true Z = -(Z : Int) := rfl
theorem sg_false (Z : Nat) : sg false Z = (Z : Int) := rfl
theorem sg_zero (s : Bool) : sg s 0 = 0 := by cases s <;> rfl
theorem sg_eq_zero {s : Bool} {Z : Nat} : sg s Z = 0 ↔ Z = 0 := by unfold sg; split <;> omega
theorem Top_pos : 0 < Top := Nat.mul_pos (by decide) (Nat.two_pow_pos _)

/-- what a bool test is of a finite float, an infinity, no number -/
def isFin (b : Nat) : Bool := match Ieee.double.read b with | .number .. => true | _ => false
theorem isFin_W (s : Bool) {Z : Nat} (hz : Rep Z) : isFin (W s Z) = true := by unfold isFin; rw [read_W s hz]
theorem isFin_inf (s : Bool) : isFin (infw s) = false := by unfold isFin; rw [read_inf]
theorem isFin_nan {a : Nat} (h : (Ieee.double.read a).isNaN = true) : isFin a = false := by
  unfold isFin; cases hr : Ieee.double.read a <;> rw [hr] at h <;> first | rfl | cases h

set_option maxHeartbeats 400000 in
theorem small_any (n : Int) (w : World) :
    Calls Tryd.prog 8 #[.int .i64 n] w fun e w' => e = .returned (.bool (decide (-9007199254740992 ≤ n ∧ n ≤ 9007199254740992))) ∧ w = w' := by
  go_enter Tryd.func8, Tryd.ntmps8
  go_wp2
  all_goals go_ret
  · have h : -9007199254740992 ≤ n := by assumption
    exact ⟨by simp [h], rfl⟩
  · have h : n < -9007199254740992 := by assumption
    exact ⟨by simp; omega, rfl⟩

set_option maxHeartbeats 400000 in
theorem finite_num (s : Bool) {Z : Nat} (hz : Rep Z) (w : World) :
    Calls Tryd.prog 67 #[.float .f64 (W s Z)] w fun e w' => e = .returned (.bool true) ∧ w = w' := by
  have hb := sg_bounds s hz
  have h1 := fo_gt s true hz rep_top
  have h2 := fo_eq s true hz rep_top
  have h3 := fo_lt s false hz rep_top
  have h4 := fo_eq s false hz rep_top
  rw [W_ntop, sg_true] at h1 h2
  rw [W_top, sg_false] at h3 h4
  have a1 : (FloatKind.f64.format.order (W s Z) 18442240474082181119 == some .gt || FloatKind.f64.format.order (W s Z) 18442240474082181119 == some .eq) = true := by
    rw [h1, h2]; simp; omega
  have a2 : (FloatKind.f64.format.order (W s Z) 9218868437227405311 == some .lt || FloatKind.f64.format.order (W s Z) 9218868437227405311 == some .eq) = true := by
    rw [h3, h4]; simp; omega
  clear h1 h2 h3 h4 hb hz
  go_enter Tryd.func67, Tryd.ntmps67
  go_wp2
  all_goals go_ret
  all_goals exact ⟨by first | rfl | simp_all, rfl⟩

set_option maxHeartbeats 400000 in
theorem finite_inf (s : Bool) (w : World) :
    Calls Tryd.prog 67 #[.float .f64 (infw s)] w fun e w' => e = .returned (.bool false) ∧ w = w' := by
  have h1 := fo_inf s true rep_top
  have h2 := fo_inf s false rep_top
  rw [W_ntop] at h1
  rw [W_top] at h2
  cases s
  all_goals
    simp only [if_true, if_false, Bool.false_eq_true] at h1 h2
    go_enter Tryd.func67, Tryd.ntmps67
    go_wp2
    all_goals go_ret
    all_goals exact ⟨by first | rfl | simp_all, rfl⟩

set_option maxHeartbeats 400000 in
theorem finite_nan {b : Nat} (h : (Ieee.double.read b).isNaN = true) (w : World) :
    Calls Tryd.prog 67 #[.float .f64 b] w fun e w' => e = .returned (.bool false) ∧ w = w' := by
  have h1 := fo_nan 18442240474082181119 h
  have h2 := fo_nan 9218868437227405311 h
  clear h
  go_enter Tryd.func67, Tryd.ntmps67
  go_wp2
  all_goals go_ret
  all_goals exact ⟨by first | rfl | simp_all, rfl⟩

/-- Tidy of a finite float: itself, but a zero without a sign -/
def tid (s : Bool) (Z : Nat) : Nat := if Z = 0 then 0 else W s Z

set_option maxHeartbeats 400000 in
theorem rtidy_num (s : Bool) {Z : Nat} (hz : Rep Z) (w : World) :
    Calls Tryd.prog 40 #[.float .f64 (W s Z)] w fun e w' => e = .returned (.tuple #[.float .f64 (tid s Z), .bool true]) ∧ w = w' := by
  have h1 := fo_eq s false hz rep_zero
  rw [W_zero, sg_zero] at h1
  by_cases h0 : Z = 0
  · subst h0
    simp [sg_zero] at h1
    go_enter Tryd.func40, Tryd.ntmps40
    go_wp2_with (go_at_call 67; refine (finite_num s hz _).mono ?_; rintro e w' ⟨rfl, rfl⟩)
    go_ret2
    exact ⟨rfl, rfl⟩
  · have HT : Hid (tid s Z = W s Z) := if_neg h0
    rw [decide_eq_false (by rw [sg_eq_zero]; exact h0)] at h1
    have h1' := beq_eq_false_iff_ne.1 h1
    go_enter Tryd.func40, Tryd.ntmps40
    go_wp2_with (go_at_call 67; refine (finite_num s hz _).mono ?_; rintro e w' ⟨rfl, rfl⟩)
    go_ret2
    exact ⟨by rw [HT.out]; rfl, rfl⟩

set_option maxHeartbeats 400000 in
theorem rtidy_bad {b : Nat} (h : (∃ s, b = infw s) ∨ (Ieee.double.read b).isNaN = true) (w : World) :
    Calls Tryd.prog 40 #[.float .f64 b] w fun e w' => e = .returned (.tuple #[.float .f64 0, .bool false]) ∧ w = w' := by
  have hf : ∀ w, Calls Tryd.prog 67 #[.float .f64 b] w fun e w' => e = .returned (.bool false) ∧ w = w' := by
    intro w
    rcases h with ⟨s, rfl⟩ | h
    · exact finite_inf s w
    · exact finite_nan h w
  have HF := Lib.hid hf
  clear hf h
  go_enter Tryd.func40, Tryd.ntmps40
  go_wp2_with (go_at_call 67; refine (HF.out _).mono ?_; rintro e w' ⟨rfl, rfl⟩)
  go_ret2
  exact ⟨rfl, rfl⟩

set_option maxHeartbeats 400000 in
theorem ntidy_num (s : Bool) {Z : Nat} (hz : Rep Z) (w : World) :
    Calls Tryd.prog 48 #[.float .f64 (W s Z)] w fun e w' => e = .returned (.tuple #[.float .f64 (tid s Z), .bool true]) ∧ w = w' := by
  have hb := sg_bounds s hz
  have h1 := fo_eq s false hz rep_zero
  have h2 := fo_ne s s hz hz
  have h3 := fo_gt s false hz rep_top
  have h4 := fo_lt s true hz rep_top
  rw [W_zero, sg_zero] at h1
  rw [W_top, sg_false] at h3
  rw [W_ntop, sg_true] at h4
  rw [decide_eq_true rfl] at h2
  rw [decide_eq_false (by omega)] at h3
  rw [decide_eq_false (by omega)] at h4
  simp only [Bool.not_true] at h2
  have h2' : FloatKind.f64.format.order (W s Z) (W s Z) = some .eq := by simpa using h2
  have h3' : ¬ FloatKind.f64.format.order (W s Z) 9218868437227405311 = some .gt := by simpa using h3
  have h4' : ¬ FloatKind.f64.format.order (W s Z) 18442240474082181119 = some .lt := by simpa using h4
  clear hb hz
  by_cases h0 : Z = 0
  · subst h0
    simp [sg_zero] at h1
    go_enter Tryd.func48, Tryd.ntmps48
    go_wp2
    go_ret2
    exact ⟨rfl, rfl⟩
  · have HT : Hid (tid s Z = W s Z) := if_neg h0
    rw [decide_eq_false (by rw [sg_eq_zero]; exact h0)] at h1
    have h1' := beq_eq_false_iff_ne.1 h1
    go_enter Tryd.func48, Tryd.ntmps48
    go_wp2
    go_ret2
    exact ⟨by rw [HT.out]; rfl, rfl⟩
end Go.Proofs.YtdddmehchfnppaaDoor
