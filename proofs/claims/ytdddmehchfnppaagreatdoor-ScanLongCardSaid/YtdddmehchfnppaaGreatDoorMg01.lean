/- Merged texts. Walks of the functions that test floats: Tidy, Finite, Whole, Small, Bits, IsInf, IsNaN. Conditions: as each theorem says. Walks of the functions that ask whether a float is whole, and whether two are the same. Conditions: as each theorem says. Plain laws of 64-bit floats: sums, differences and products of finite floats; where they are those of whole numbers, they are exact. No program in sight. Conditions: as each theorem says. -/
import Derived.Test.YtdddmehchfnppaaGreatDoorProg
import Derived.Test.YtdddmehchfnppaaGreatDoorMg00
import Derived.WalkKit
import Derived.WalkLawsBesides
import Derived.Lib.Hide
import Derived.Outline
namespace Go.Proofs.YtdddmehchfnppaaGreatDoor
open Go Go.RowKit Go.Proofs Fl

/-- float order as Booleans -/
theorem fo_gt (s t : Bool) {Z Y : Nat} (hz : Rep Z) (hy : Rep Y) : (FloatKind.f64.format.order (W s Z) (W t Y) == some .gt) = decide (sg t Y < sg s Z) := by
  have h : FloatKind.f64.format.order (W s Z) (W t Y) = some (compare (sg s Z) (sg t Y)) := order_W s t hz hy
  rw [h]
  rcases Int.lt_trichotomy (sg s Z) (sg t Y) with h1 | h1 | h1
  · rw [cmp_lt h1, decide_eq_false (by omega)]; rfl
  · rw [h1, cmp_eq, decide_eq_false (by omega)]; rfl
  · rw [cmp_gt h1, decide_eq_true h1]; rfl
theorem fo_lt (s t : Bool) {Z Y : Nat} (hz : Rep Z) (hy : Rep Y) : (FloatKind.f64.format.order (W s Z) (W t Y) == some .lt) = decide (sg s Z < sg t Y) := by
  have h : FloatKind.f64.format.order (W s Z) (W t Y) = some (compare (sg s Z) (sg t Y)) := order_W s t hz hy
  rw [h]
  rcases Int.lt_trichotomy (sg s Z) (sg t Y) with h1 | h1 | h1
  · rw [cmp_lt h1, decide_eq_true h1]; rfl
  · rw [h1, cmp_eq, decide_eq_false (by omega)]; rfl
  · rw [cmp_gt h1, decide_eq_false (by omega)]; rfl
theorem fo_eq (s t : Bool) {Z Y : Nat} (hz : Rep Z) (hy : Rep Y) : (FloatKind.f64.format.order (W s Z) (W t Y) == some .eq) = decide (sg s Z = sg t Y) := by
  have h : FloatKind.f64.format.order (W s Z) (W t Y) = some (compare (sg s Z) (sg t Y)) := order_W s t hz hy
  rw [h]
  rcases Int.lt_trichotomy (sg s Z) (sg t Y) with h1 | h1 | h1
  · rw [cmp_lt h1, decide_eq_false (by omega)]; rfl
  · rw [h1, cmp_eq, decide_eq_true rfl]; rfl
  · rw [cmp_gt h1, decide_eq_false (by omega)]; rfl
theorem fo_ne (s t : Bool) {Z Y : Nat} (hz : Rep Z) (hy : Rep Y) : (FloatKind.f64.format.order (W s Z) (W t Y) != some .eq) = !decide (sg s Z = sg t Y) := by
  rw [bne, fo_eq s t hz hy]
theorem fo_inf (s t : Bool) {Z : Nat} (hz : Rep Z) : FloatKind.f64.format.order (infw s) (W t Z) = some (if s then .lt else .gt) := order_inf s t hz
theorem fo_nan {a : Nat} (b : Nat) (h : (Ieee.double.read a).isNaN = true) : FloatKind.f64.format.order a b = none := order_nan h
theorem fo_infinf (s : Bool) : FloatKind.f64.format.order (infw s) (infw s) = some .eq := by
  have : FloatKind.f64.format.order (infw s) (infw s) = Ieee.double.order (infw s) (infw s) := rfl
  rw [this, Ieee.Format.order, read_inf]; cases s <;> rfl

theorem sg_bounds (s : Bool) {Z : Nat} (hz : Rep Z) : -(Top : Int) ≤ sg s Z ∧ sg s Z ≤ Top := by
  have := rep_le hz
  unfold sg; split <;> omega
theorem sg_true (Z : Nat) : sg true Z = -(Z : Int) := rfl
theorem sg_false (Z : Nat) : sg false Z = (Z : Int) := rfl
theorem sg_zero (s : Bool) : sg s 0 = 0 := by cases s <;> rfl
theorem sg_eq_zero {s : Bool} {Z : Nat} : sg s Z = 0 ↔ Z = 0 := by unfold sg; split <;> omega
theorem Top_pos : 0 < Top := Nat.mul_pos (by decide) (Nat.two_pow_pos _)

/-- what a bool test is of a finite float, an infinity, no number -/
def isFin (b : Nat) : Bool := match Ieee.double.read b with | .number .. => true | _ => false
theorem isFin_W (s : Bool) {Z : Nat} (hz : Rep Z) : isFin (W s Z) = true := by unfold isFin; rw [read_W s hz]
theorem isFin_inf (s : Bool) : isFin (infw s) = false := by unfold isFin; rw [read_inf]
theorem isFin_nan {a : Nat} (h : (Ieee.double.read a).isNaN = true) : isFin a = false := by
  unfold isFin; cases hr : Ieee.double.read a <;> rw [hr] at h <;> first | rfl | cases h

set_option maxHeartbeats 400000 in
theorem small_any (n : Int) (w : World) :
    Calls Tryz.prog 26 #[.int .i64 n] w fun e w' => e = .returned (.bool (decide (-9007199254740992 ≤ n ∧ n ≤ 9007199254740992))) ∧ w = w' := by
  go_enter Tryz.func26, Tryz.ntmps26
  go_wp2
  all_goals go_ret
  · have h : -9007199254740992 ≤ n := by assumption
    exact ⟨by simp [h], rfl⟩
  · have h : n < -9007199254740992 := by assumption
    exact ⟨by simp; omega, rfl⟩

set_option maxHeartbeats 400000 in
theorem finite_num (s : Bool) {Z : Nat} (hz : Rep Z) (w : World) :
    Calls Tryz.prog 41 #[.float .f64 (W s Z)] w fun e w' => e = .returned (.bool true) ∧ w = w' := by
  have hb := sg_bounds s hz
  have h1 := fo_gt s true hz rep_top
  have h2 := fo_eq s true hz rep_top
  have h3 := fo_lt s false hz rep_top
  have h4 := fo_eq s false hz rep_top
  rw [W_ntop, sg_true] at h1 h2
  rw [W_top, sg_false] at h3 h4
  have a1 : (FloatKind.f64.format.order (W s Z) 18442240474082181119 == some .gt || FloatKind.f64.format.order (W s Z) 18442240474082181119 == some .eq) = true := by
    rw [h1, h2]; simp; omega
  have a2 : (FloatKind.f64.format.order (W s Z) 9218868437227405311 == some .lt || FloatKind.f64.format.order (W s Z) 9218868437227405311 == some .eq) = true := by
    rw [h3, h4]; simp; omega
  clear h1 h2 h3 h4 hb hz
  go_enter Tryz.func41, Tryz.ntmps41
  go_wp2
  all_goals go_ret
  all_goals exact ⟨by first | rfl | simp_all, rfl⟩

set_option maxHeartbeats 400000 in
theorem finite_inf (s : Bool) (w : World) :
    Calls Tryz.prog 41 #[.float .f64 (infw s)] w fun e w' => e = .returned (.bool false) ∧ w = w' := by
  have h1 := fo_inf s true rep_top
  have h2 := fo_inf s false rep_top
  rw [W_ntop] at h1
  rw [W_top] at h2
  cases s
  all_goals
    simp only [if_true, if_false, Bool.false_eq_true] at h1 h2
    go_enter Tryz.func41, Tryz.ntmps41
    go_wp2
    all_goals go_ret
    all_goals exact ⟨by first | rfl | simp_all, rfl⟩

set_option maxHeartbeats 400000 in
theorem finite_nan {b : Nat} (h : (Ieee.double.read b).isNaN = true) (w : World) :
    Calls Tryz.prog 41 #[.float .f64 b] w fun e w' => e = .returned (.bool false) ∧ w = w' := by
  have h1 := fo_nan 18442240474082181119 h
  have h2 := fo_nan 9218868437227405311 h
  clear h
  go_enter Tryz.func41, Tryz.ntmps41
  go_wp2
  all_goals go_ret
  all_goals exact ⟨by first | rfl | simp_all, rfl⟩

/-- Tidy of a finite float: itself, but a zero without a sign -/
def tid (s : Bool) (Z : Nat) : Nat := if Z = 0 then 0 else W s Z

set_option maxHeartbeats 400000 in
theorem rtidy_num (s : Bool) {Z : Nat} (hz : Rep Z) (w : World) :
    Calls Tryz.prog 17 #[.float .f64 (W s Z)] w fun e w' => e = .returned (.tuple #[.float .f64 (tid s Z), .bool true]) ∧ w = w' := by
  have h1 := fo_eq s false hz rep_zero
  rw [W_zero, sg_zero] at h1
  by_cases h0 : Z = 0
  · subst h0
    simp [sg_zero] at h1
    go_enter Tryz.func17, Tryz.ntmps17
    go_wp2_with (go_at_call 41; refine (finite_num s hz _).mono ?_; rintro e w' ⟨rfl, rfl⟩)
    go_ret2
    exact ⟨rfl, rfl⟩
  · have HT : Hid (tid s Z = W s Z) := if_neg h0
    rw [decide_eq_false (by rw [sg_eq_zero]; exact h0)] at h1
    have h1' := beq_eq_false_iff_ne.1 h1
    go_enter Tryz.func17, Tryz.ntmps17
    go_wp2_with (go_at_call 41; refine (finite_num s hz _).mono ?_; rintro e w' ⟨rfl, rfl⟩)
    go_ret2
    exact ⟨by rw [HT.out]; rfl, rfl⟩

set_option maxHeartbeats 400000 in
theorem rtidy_bad {b : Nat} (h : (∃ s, b = infw s) ∨ (Ieee.double.read b).isNaN = true) (w : World) :
    Calls Tryz.prog 17 #[.float .f64 b] w fun e w' => e = .returned (.tuple #[.float .f64 0, .bool false]) ∧ w = w' := by
  have hf : ∀ w, Calls Tryz.prog 41 #[.float .f64 b] w fun e w' => e = .returned (.bool false) ∧ w = w' := by
    intro w
    rcases h with ⟨s, rfl⟩ | h
    · exact finite_inf s w
    · exact finite_nan h w
  have HF := Lib.hid hf
  clear hf h
  go_enter Tryz.func17, Tryz.ntmps17
  go_wp2_with (go_at_call 41; refine (HF.out _).mono ?_; rintro e w' ⟨rfl, rfl⟩)
  go_ret2
  exact ⟨rfl, rfl⟩

set_option maxHeartbeats 400000 in
theorem ntidy_num (s : Bool) {Z : Nat} (hz : Rep Z) (w : World) :
    Calls Tryz.prog 60 #[.float .f64 (W s Z)] w fun e w' => e = .returned (.tuple #[.float .f64 (tid s Z), .bool true]) ∧ w = w' := by
  have hb := sg_bounds s hz
  have h1 := fo_eq s false hz rep_zero
  have h2 := fo_ne s s hz hz
  have h3 := fo_gt s false hz rep_top
  have h4 := fo_lt s true hz rep_top
  rw [W_zero, sg_zero] at h1
  rw [W_top, sg_false] at h3
  rw [W_ntop, sg_true] at h4
  rw [decide_eq_true rfl] at h2
  rw [decide_eq_false (by omega)] at h3
  rw [decide_eq_false (by omega)] at h4
  simp only [Bool.not_true] at h2
  have h2' : FloatKind.f64.format.order (W s Z) (W s Z) = some .eq := by simpa using h2
  have h3' : ¬ FloatKind.f64.format.order (W s Z) 9218868437227405311 = some .gt := by simpa using h3
  have h4' : ¬ FloatKind.f64.format.order (W s Z) 18442240474082181119 = some .lt := by simpa using h4
  clear hb hz
  by_cases h0 : Z = 0
  · subst h0
    simp [sg_zero] at h1
    go_enter Tryz.func60, Tryz.ntmps60
    go_wp2
    go_ret2
    exact ⟨rfl, rfl⟩
  · have HT : Hid (tid s Z = W s Z) := if_neg h0
    rw [decide_eq_false (by rw [sg_eq_zero]; exact h0)] at h1
    have h1' := beq_eq_false_iff_ne.1 h1
    go_enter Tryz.func60, Tryz.ntmps60
    go_wp2
    go_ret2
    exact ⟨by rw [HT.out]; rfl, rfl⟩
end Go.Proofs.YtdddmehchfnppaaGreatDoor
namespace Go.Proofs.YtdddmehchfnppaaGreatDoor
open Go Go.RowKit Go.Proofs Fl

theorem W_max : W false (9007199254740992 * 2^K) = 4845873199050653696 := by decide +kernel
theorem W_nmax : W true (9007199254740992 * 2^K) = 14069245235905429504 := by decide +kernel
theorem rep_max : Rep (9007199254740992 * 2^K) := rep_int K (by decide) (by unfold K; omega)

/-- a float is whole and not too great -/
def IsWhole (Z : Nat) : Prop := ∃ m, m ≤ 9007199254740992 ∧ Z = m * 2^K

theorem K_pos : 0 < 2^K := Nat.two_pow_pos K

theorem natAbs_sg (s : Bool) (m : Nat) : (sg s m).natAbs = m := by unfold sg; split <;> omega
theorem sg_neg_iff (s : Bool) (m : Nat) : (sg s m < 0) ↔ (s = true ∧ m ≠ 0) := by
  unfold sg; cases s <;> simp <;> omega

/-- an integer's float, in signs and units -/
theorem ofInt_sg (s : Bool) (m : Nat) (h : m ≤ 9007199254740992) : floatOfInt .f64 (sg s m) = W (decide (sg s m < 0)) (m * 2^K) := by
  have := ofInt (sg s m) (by rw [natAbs_sg]; exact h)
  rw [natAbs_sg] at this
  exact this

theorem sg_dec (s : Bool) (m k : Nat) : sg (decide (sg s m < 0)) (m * k) = sg s (m * k) := by
  by_cases h : m = 0
  · subst h; simp [sg_zero]
  · cases s
    · have : decide (sg false m < 0) = false := decide_eq_false (by rw [sg_false]; omega)
      rw [this]
    · have : decide (sg true m < 0) = true := decide_eq_true (by rw [sg_true]; omega)
      rw [this]

theorem sg_inj (s : Bool) (a b : Nat) : sg s a = sg s b ↔ a = b := by unfold sg; split <;> omega

theorem div_le_of {Z : Nat} (h : Z ≤ 9007199254740992 * 2^K) : Z / 2^K ≤ 9007199254740992 := by
  have := Nat.div_le_div_right (c := 2^K) h
  rwa [Nat.mul_div_cancel _ K_pos] at this

/-- the facts that a walk through a test of wholeness wants -/
structure WholeFacts (s : Bool) (Z : Nat) : Prop where
  ge : (FloatKind.f64.format.order (W s Z) 14069245235905429504 == some .gt || FloatKind.f64.format.order (W s Z) 14069245235905429504 == some .eq) = true
  le : (FloatKind.f64.format.order (W s Z) 4845873199050653696 == some .lt || FloatKind.f64.format.order (W s Z) 4845873199050653696 == some .eq) = true
  conv : ∀ w, (convert 47 2 (.float .f64 (W s Z))).run Tryz.prog w = .ok (.int .i64 (sg s (Z / 2^K))) w
  back : (FloatKind.f64.format.order (floatOfInt .f64 (sg s (Z / 2^K))) (W s Z) == some .eq) = decide (Z / 2^K * 2^K = Z)

theorem whole_facts (s : Bool) {Z : Nat} (hz : Rep Z) (h : Z ≤ 9007199254740992 * 2^K) : WholeFacts s Z := by
  have hq := div_le_of h
  have hr := rep_int K hq (by unfold K; omega)
  refine ⟨?_, ?_, ?_, ?_⟩
  · rw [← W_nmax, fo_gt s true hz rep_max, fo_eq s true hz rep_max, sg_true]
    generalize 9007199254740992 * 2^K = T at *
    rw [← Bool.decide_or, decide_eq_true_eq]; unfold sg; split <;> omega
  · rw [← W_max, fo_lt s false hz rep_max, fo_eq s false hz rep_max, sg_false]
    generalize 9007199254740992 * 2^K = T at *
    rw [← Bool.decide_or, decide_eq_true_eq]; unfold sg; split <;> omega
  · intro w
    exact run_convert_float_int (P := Tryz.prog) w 47 2 .f64 .i64 (W s Z) _ (by kernel_rfl) Tryz.underlying2 (toInt64_W s hz (by omega))
  · rw [ofInt_sg s _ hq, fo_eq _ s hr hz, sg_dec, decide_eq_decide]
    exact sg_inj s _ _

theorem big_facts (s : Bool) {Z : Nat} (hz : Rep Z) (h : ¬ Z ≤ 9007199254740992 * 2^K) :
    (s = true → (FloatKind.f64.format.order (W s Z) 14069245235905429504 = some .lt)) ∧
    (s = false → (FloatKind.f64.format.order (W s Z) 14069245235905429504 = some .gt) ∧ (FloatKind.f64.format.order (W s Z) 4845873199050653696 = some .gt)) := by
  have a1 : FloatKind.f64.format.order (W s Z) 14069245235905429504 = some (compare (sg s Z) (sg true (9007199254740992 * 2^K))) := by
    rw [← W_nmax]; exact order_W s true hz rep_max
  have a2 : FloatKind.f64.format.order (W s Z) 4845873199050653696 = some (compare (sg s Z) (sg false (9007199254740992 * 2^K))) := by
    rw [← W_max]; exact order_W s false hz rep_max
  rw [a1, a2]
  refine ⟨?_, ?_⟩
  · rintro rfl; rw [cmp_lt (by rw [sg_true, sg_true]; omega)]
  · rintro rfl; rw [cmp_gt (by rw [sg_true, sg_false]; omega), cmp_gt (by rw [sg_false, sg_false]; omega)]; exact ⟨rfl, rfl⟩

set_option maxHeartbeats 400000 in
theorem nwhole_yes (s : Bool) (m : Nat) (hm : m ≤ 9007199254740992) (w : World) :
    Calls Tryz.prog 77 #[.float .f64 (W s (m * 2^K))] w fun e w' => e = .returned (.tuple #[.int .i64 (sg s m), .bool true]) ∧ w = w' := by
  have hz : Rep (m * 2^K) := rep_int K hm (by unfold K; omega)
  obtain ⟨h1, h2, h3, h4⟩ := whole_facts s hz (Nat.mul_le_mul_right _ hm)
  rw [Nat.mul_div_cancel _ K_pos] at h3 h4
  rw [decide_eq_true rfl] at h4
  generalize W s (m * 2^K) = b at *
  have h1' := h1
  have h2' := h2
  simp only [Bool.or_eq_true, beq_iff_eq] at h1' h2'
  clear hz hm
  go_enter Tryz.func77, Tryz.ntmps77
  go_wp2
  go_ret2
  exact ⟨rfl, rfl⟩

set_option maxHeartbeats 400000 in
theorem nwhole_no (s : Bool) {Z : Nat} (hz : Rep Z) (h : ¬ IsWhole Z) (w : World) :
    Calls Tryz.prog 77 #[.float .f64 (W s Z)] w fun e w' => (∃ n, e = .returned (.tuple #[.int .i64 n, .bool false])) ∧ w = w' := by
  by_cases hle : Z ≤ 9007199254740992 * 2^K
  · obtain ⟨h1, h2, h3, h4⟩ := whole_facts s hz hle
    rw [decide_eq_false (fun e => h ⟨Z / 2^K, div_le_of hle, e.symm⟩)] at h4
    generalize W s Z = b at *
    generalize sg s (Z / 2^K) = n at *
    have h1' := h1
    have h2' := h2
    simp only [Bool.or_eq_true, beq_iff_eq] at h1' h2'
    have h4' := beq_eq_false_iff_ne.1 h4
    clear hz h hle
    go_enter Tryz.func77, Tryz.ntmps77
    go_wp2
    go_ret2
    exact ⟨⟨n, rfl⟩, rfl⟩
  · obtain ⟨h1, h2⟩ := big_facts s hz hle
    cases s
    · obtain ⟨h2, h3⟩ := h2 rfl
      clear h1 hle h hz
      go_enter Tryz.func77, Tryz.ntmps77
      go_wp2
      go_ret2
      exact ⟨⟨0, rfl⟩, rfl⟩
    · have h1 := h1 rfl
      clear h2 hle h hz
      go_enter Tryz.func77, Tryz.ntmps77
      go_wp2
      go_ret2
      exact ⟨⟨0, rfl⟩, rfl⟩
end Go.Proofs.YtdddmehchfnppaaGreatDoor
namespace Go.Proofs.YtdddmehchfnppaaGreatDoor.Fl
open Ieee Go

theorem sg_zero' (s : Bool) : sg s 0 = 0 := by cases s <;> rfl
theorem sg_not (s : Bool) (Z : Nat) : sg (!s) Z = - sg s Z := by unfold sg; cases s <;> simp
theorem sg_natAbs (s : Bool) (Z : Nat) : (sg s Z).natAbs = Z := by unfold sg; split <;> omega

/-- the float of a whole number of least units, a sum's sign where it is nothing handed in -/
def nearI (z : Bool) (T : Int) : Nat := double.nearest (if T = 0 then z else decide (T < 0)) T.natAbs (-1074)

theorem nearI_shift (z : Bool) (t : Int) (d : Nat) : double.nearest (if t = 0 then z else decide (t < 0)) t.natAbs (-1074 + d) = nearI z (t * (2 ^ d : Nat)) := by
  have hp : (0 : Int) < (2 ^ d : Nat) := by have := Nat.two_pow_pos d; omega
  unfold nearI
  have e1 : (t * (2 ^ d : Nat) = 0) = (t = 0) := by
    rw [Int.mul_eq_zero]; apply propext; constructor
    · rintro (h | h)
      · exact h
      · exfalso; omega
    · exact .inl
  have e2 : decide (t * (2 ^ d : Nat) < 0) = decide (t < 0) := by
    rw [decide_eq_decide]
    constructor
    · intro h
      rcases Int.lt_or_le t 0 with h2 | h2
      · exact h2
      · have := Int.mul_nonneg h2 (Int.le_of_lt hp); omega
    · intro h; exact Int.mul_neg_of_neg_of_pos h hp
  rw [Int.natAbs_mul, Int.natAbs_natCast, nearest_shift]
  simp only [e1, e2]

theorem add_W (s t : Bool) {Z Y : Nat} (hz : Rep Z) (hy : Rep Y) : double.add (W s Z) (W t Y) = some (nearI (s && t) (sg s Z + sg t Y)) := by
  simp only [Format.add, read_W s hz, read_W t hy, Datum.sum, Format.write, Option.map_some]
  have hz2 := mg_ex hz
  have hy2 := mg_ex hy
  generalize mg (rung Z) = m at *
  generalize mg (rung Y) = n at *
  generalize ex (rung Z) = i at *
  generalize ex (rung Y) = j at *
  rcases Nat.le_total i j with h | h
  · have e0 : min (-1074 + (i : Int)) (-1074 + (j : Int)) = -1074 + (i : Int) := by omega
    have e1 : (-1074 + (i : Int) - (-1074 + (i : Int))).toNat = 0 := by omega
    have e2 : (-1074 + (j : Int) - (-1074 + (i : Int))).toNat = j - i := by omega
    rw [e0, e1, e2, sg_shift, sg_shift, nearI_shift, Int.add_mul, ← sg_mul, ← sg_mul, Nat.mul_assoc, Nat.mul_assoc, ← Nat.pow_add, ← Nat.pow_add]
    have e3 : 0 + i = i := by omega
    have e4 : j - i + i = j := by omega
    rw [e3, e4, hz2, hy2]
  · have e0 : min (-1074 + (i : Int)) (-1074 + (j : Int)) = -1074 + (j : Int) := by omega
    have e1 : (-1074 + (i : Int) - (-1074 + (j : Int))).toNat = i - j := by omega
    have e2 : (-1074 + (j : Int) - (-1074 + (j : Int))).toNat = 0 := by omega
    rw [e0, e1, e2, sg_shift, sg_shift, nearI_shift, Int.add_mul, ← sg_mul, ← sg_mul, Nat.mul_assoc, Nat.mul_assoc, ← Nat.pow_add, ← Nat.pow_add]
    have e3 : i - j + j = i := by omega
    have e4 : 0 + j = j := by omega
    rw [e3, e4, hz2, hy2]

theorem sub_W (s t : Bool) {Z Y : Nat} (hz : Rep Z) (hy : Rep Y) : double.sub (W s Z) (W t Y) = some (nearI (s && !t) (sg s Z - sg t Y)) := by
  have h := add_W s (!t) hz hy
  rw [sg_not, ← Int.sub_eq_add_neg] at h
  rw [← h]
  simp only [Format.sub, Format.add, read_W s hz, read_W t hy, read_W (!t) hy, Datum.opposite]

/-- a whole number's float -/
def fi (n : Int) : Nat := floatOfInt .f64 n
theorem fi_W (n : Int) (h : n.natAbs ≤ 9007199254740992) : fi n = W (decide (n < 0)) (n.natAbs * 2^K) := ofInt n h
theorem fi_sg (n : Int) : sg (decide (n < 0)) (n.natAbs * 2^K) = n * (2^K : Nat) := by
  rw [sg_mul]
  congr 1
  unfold sg
  by_cases h0 : n < 0
  · simp [h0]; omega
  · simp [h0]; omega
theorem rep_fi (n : Int) (h : n.natAbs ≤ 9007199254740992) : Rep (n.natAbs * 2^K) := rep_int K h (by unfold K; omega)
theorem nearI_fi (z : Bool) (n : Int) (h : n.natAbs ≤ 9007199254740992) (hz : z = false) : nearI z (n * (2^K : Nat)) = fi n := by
  subst hz
  have hp : (0 : Int) < (2 ^ K : Nat) := by have := Nat.two_pow_pos K; omega
  rw [fi_W n h, ← nearest_W _ (rep_fi n h)]
  have := nearI_shift false n K
  unfold nearI at this
  unfold nearI
  rw [← this, ← nearest_shift]
  congr 1
  by_cases h0 : n = 0
  · subst h0; simp
  · rw [if_neg h0]

/-- sums of whole numbers are exact -/
theorem add_fi (a b : Int) (ha : a.natAbs ≤ 9007199254740992) (hb : b.natAbs ≤ 9007199254740992) (h : (a + b).natAbs ≤ 9007199254740992) : double.add (fi a) (fi b) = some (fi (a + b)) := by
  rw [fi_W a ha, fi_W b hb, add_W _ _ (rep_fi a ha) (rep_fi b hb), fi_sg a, fi_sg b, ← Int.add_mul]
  by_cases h0 : a + b = 0
  · by_cases h1 : a < 0
    · have : decide (b < 0) = false := decide_eq_false (by omega)
      rw [this, Bool.and_false, nearI_fi _ _ h rfl]
    · have : decide (a < 0) = false := decide_eq_false h1
      rw [this, Bool.false_and, nearI_fi _ _ h rfl]
  · have hp : (0 : Int) < (2 ^ K : Nat) := by have := Nat.two_pow_pos K; omega
    have hne : (a + b) * (2^K : Nat) ≠ 0 := Int.mul_ne_zero h0 (by omega)
    have e : ∀ z, nearI z ((a + b) * (2^K : Nat)) = nearI false ((a + b) * (2^K : Nat)) := fun z => by unfold nearI; rw [if_neg hne, if_neg hne]
    rw [e, nearI_fi _ _ h rfl]
theorem sub_fi (a b : Int) (ha : a.natAbs ≤ 9007199254740992) (hb : b.natAbs ≤ 9007199254740992) (h : (a - b).natAbs ≤ 9007199254740992) : double.sub (fi a) (fi b) = some (fi (a - b)) := by
  rw [fi_W a ha, fi_W b hb, sub_W _ _ (rep_fi a ha) (rep_fi b hb), fi_sg a, fi_sg b, ← Int.sub_mul]
  by_cases h0 : a - b = 0
  · have e : a = b := by omega
    subst e
    have : (decide (a < 0) && !decide (a < 0)) = false := by simp
    rw [this, nearI_fi _ _ h rfl]
  · have hp : (0 : Int) < (2 ^ K : Nat) := by have := Nat.two_pow_pos K; omega
    have hne : (a - b) * (2^K : Nat) ≠ 0 := Int.mul_ne_zero h0 (by omega)
    have e : ∀ z, nearI z ((a - b) * (2^K : Nat)) = nearI false ((a - b) * (2^K : Nat)) := fun z => by unfold nearI; rw [if_neg hne, if_neg hne]
    rw [e, nearI_fi _ _ h rfl]
/-- products of whole numbers are exact, but for the sign of nothing -/
theorem mul_fi (a b : Int) (ha : a.natAbs ≤ 9007199254740992) (hb : b.natAbs ≤ 9007199254740992) (h : (a * b).natAbs ≤ 9007199254740992) : double.mul (fi a) (fi b) = some (W (decide (a < 0) ^^ decide (b < 0)) ((a * b).natAbs * 2^K)) := by
  have hra := rep_fi a ha
  have hrb := rep_fi b hb
  rw [fi_W a ha, fi_W b hb, mul_W _ _ hra hrb]
  have h1 := mg_ex hra
  have h2 := mg_ex hrb
  generalize mg (rung (a.natAbs * 2^K)) = m at *
  generalize mg (rung (b.natAbs * 2^K)) = n at *
  generalize ex (rung (a.natAbs * 2^K)) = i at *
  generalize ex (rung (b.natAbs * 2^K)) = j at *
  have e1 : (-1074 : Int) + i + (-1074 + j) = -2148 + ((i + j : Nat) : Int) := by omega
  have hprod : m * n * 2^(i + j) = (a * b).natAbs * 2^(K + K) := by
    rw [Int.natAbs_mul, Nat.pow_add, Nat.pow_add]
    calc m * n * (2^i * 2^j) = (m * 2^i) * (n * 2^j) := by rw [Nat.mul_mul_mul_comm]
      _ = (a.natAbs * 2^K) * (b.natAbs * 2^K) := by rw [h1, h2]
      _ = a.natAbs * b.natAbs * (2^K * 2^K) := by rw [Nat.mul_mul_mul_comm]
  rw [e1, ← nearest_shift, hprod, Nat.pow_add, ← Nat.mul_assoc, nearest_shift, ← nearest_W _ (rep_fi (a * b) h)]
  congr 2
theorem order_fi (a b : Int) (ha : a.natAbs ≤ 9007199254740992) (hb : b.natAbs ≤ 9007199254740992) : double.order (fi a) (fi b) = some (compare a b) := by
  have hp : 0 < 2 ^ K := Nat.two_pow_pos K
  rw [fi_W a ha, fi_W b hb, order_W _ _ (rep_fi a ha) (rep_fi b hb), fi_sg a, fi_sg b, compare_mul _ _ _ hp]
end Go.Proofs.YtdddmehchfnppaaGreatDoor.Fl
