/- Plain laws of 64-bit floats: sums, differences and products of finite floats; where they are those of whole numbers, they are exact. No program in sight. Conditions: as each theorem says. -/
import Derived.Test.YtdddmehchfnppaaDoorFl
namespace Go.Proofs.YtdddmehchfnppaaDoor.Fl
open Ieee Go

theorem sg_zero' (s : Bool) : sg s 0 = 0 := by cases s <;> rfl
theorem sg_not (s : Bool) (Z : Nat) : sg (!s) Z = - sg s Z := by unfold sg; cases s <;> simp
theorem sg_natAbs (s : Bool) (Z : Nat) : (sg s Z).natAbs = Z := by unfold sg; split <;> omega

/-- the float of a whole number of least units, a sum's sign where it is nothing handed in -/
def nearI (z : Bool) (T : Int) : Nat := double.nearest (if T = 0 then z else decide (T < 0)) T.natAbs (-1074)

theorem nearI_shift (z : Bool) (t : Int) (d : Nat) : double.nearest (if t = 0 then z else decide (t < 0)) t.natAbs (-1074 + d) = nearI z (t * (2 ^ d : Nat)) := by
  have hp : (0 : Int) < (2 ^ d : Nat) := by have := Nat.two_pow_pos d; omega
  unfold nearI
  have e1 : (t * (2 ^ d : Nat) = 0) = (t = 0) := by
    rw [Int.mul_eq_zero]; apply propext; constructor
    · rintro (h | h)
      · exact h
      · exfalso; omega
    · exact .inl
  have e2 : decide (t * (2 ^ d : Nat) < 0) = decide (t < 0) := by
    rw [decide_eq_decide]
    constructor
    · intro h
      rcases Int.lt_or_le t 0 with h2 | h2
      · exact h2
      · have := Int.mul_nonneg h2 (Int.le_of_lt hp); omega
    · intro h; exact Int.mul_neg_of_neg_of_pos h hp
  rw [Int.natAbs_mul, Int.natAbs_natCast, nearest_shift]
  simp only [e1, e2]

theorem add_W (s t : Bool) {Z Y : Nat} (hz : Rep Z) (hy : Rep Y) : double.add (W s Z) (W t Y) = some (nearI (s && t) (sg s Z + sg t Y)) := by
  simp only [Format.add, read_W s hz, read_W t hy, Datum.sum, Format.write, Option.map_some]
  have hz2 := mg_ex hz
  have hy2 := mg_ex hy
  generalize mg (rung Z) = m at *
  generalize mg (rung Y) = n at *
  generalize ex (rung Z) = i at *
  generalize ex (rung Y) = j at *
  rcases Nat.le_total i j with h | h
  · have e0 : min (-1074 + (i : Int)) (-1074 + (j : Int)) = -1074 + (i : Int) := by omega
    have e1 : (-1074 + (i : Int) - (-1074 + (i : Int))).toNat = 0 := by omega
    have e2 : (-1074 + (j : Int) - (-1074 + (i : Int))).toNat = j - i := by omega
    rw [e0, e1, e2, sg_shift, sg_shift, nearI_shift, Int.add_mul, ← sg_mul, ← sg_mul, Nat.mul_assoc, Nat.mul_assoc, ← Nat.pow_add, ← Nat.pow_add]
    have e3 : 0 + i = i := by omega
    have e4 : j - i + i = j := by omega
    rw [e3, e4, hz2, hy2]
  · have e0 : min (-1074 + (i : Int)) (-1074 + (j : Int)) = -1074 + (j : Int) := by omega
    have e1 : (-1074 + (i : Int) - (-1074 + (j : Int))).toNat = i - j := by omega
    have e2 : (-1074 + (j : Int) - (-1074 + (j : Int))).toNat = 0 := by omega
    rw [e0, e1, e2, sg_shift, sg_shift, nearI_shift, Int.add_mul, ← sg_mul, ← sg_mul, Nat.mul_assoc, Nat.mul_assoc, ← Nat.pow_add, ← Nat.pow_add]
    have e3 : i - j + j = i := by omega
    have e4 : 0 + j = j := by omega
    rw [e3, e4, hz2, hy2]

theorem sub_W (s t : Bool) {Z Y : Nat} (hz : Rep Z) (hy : Rep Y) : double.sub (W s Z) (W t Y) = some (nearI (s && !t) (sg s Z - sg t Y)) := by
  have h := add_W s (!t) hz hy
  rw [sg_not, ← Int.sub_eq_add_neg] at h
  rw [← h]
  simp only [Format.sub, Format.add, read_W s hz, read_W t hy, read_W (!t) hy, Datum.opposite]

/-- a whole number's float -/
def fi (n : Int) : Nat := floatOfInt .f64 n
theorem fi_W (n : Int) (h : n.natAbs ≤ 9007199254740992) : fi n = W (decide (n < 0)) (n.natAbs * 2^K) := ofInt n h
theorem fi_sg (n : Int) : sg (decide (n < 0)) (n.natAbs * 2^K) = n * (2^K : Nat) := by
  rw [sg_mul]
  congr 1
  unfold sg
  by_cases h0 : n < 0
  · simp [h0]; omega
  · simp [h0]; omega
theorem rep_fi (n : Int) (h : n.natAbs ≤ 9007199254740992) : Rep (n.natAbs * 2^K) := rep_int K h (by unfold K; omega)
theorem nearI_fi (z : Bool) (n : Int) (h : n.natAbs ≤ 9007199254740992) (hz : z = false) : nearI z (n * (2^K : Nat)) = fi n := by
  subst hz
  have hp : (0 : Int) < (2 ^ K : Nat) := by have := Nat.two_pow_pos K; omega
  rw [fi_W n h, ← nearest_W _ (rep_fi n h)]
  have := nearI_shift false n K
  unfold nearI at this
  unfold nearI
  rw [← this, ← nearest_shift]
  congr 1
  by_cases h0 : n = 0
  · subst h0; simp
  · rw [if_neg h0]

/-- sums of whole numbers are exact -/
theorem add_fi (a b : Int) (ha : a.natAbs ≤ 9007199254740992) (hb : b.natAbs ≤ 9007199254740992) (h : (a + b).natAbs ≤ 9007199254740992) : double.add (fi a) (fi b) = some (fi (a + b)) := by
  rw [fi_W a ha, fi_W b hb, add_W _ _ (rep_fi a ha) (rep_fi b hb), fi_sg a, fi_sg b, ← Int.add_mul]
  by_cases h0 : a + b = 0
  · by_cases h1 : a < 0
    · have : decide (b < 0) = false := decide_eq_false (by omega)
      rw [this, Bool.and_false, nearI_fi _ _ h rfl]
    · have : decide (a < 0) = false := decide_eq_false h1
      rw [this, Bool.false_and, nearI_fi _ _ h rfl]
  · have hp : (0 : Int) < (2 ^ K : Nat) := by have := Nat.two_pow_pos K; omega
    have hne : (a + b) * (2^K : Nat) ≠ 0 := Int.mul_ne_zero h0 (by omega)
    have e : ∀ z, nearI z ((a + b) * (2^K : Nat)) = nearI false ((a + b) * (2^K : Nat)) := fun z => by unfold nearI; rw [if_neg hne, if_neg hne]
    rw [e, nearI_fi _ _ h rfl]
theorem sub_fi (a b : Int) (ha : a.natAbs ≤ 9007199254740992) (hb : b.natAbs ≤ 9007199254740992) (h : (a - b).natAbs ≤ 9007199254740992) : double.sub (fi a) (fi b) = some (fi (a - b)) := by
  rw [fi_W a ha, fi_W b hb, sub_W _ _ (rep_fi a ha) (rep_fi b hb), fi_sg a, fi_sg b, ← Int.sub_mul]
  by_cases h0 : a - b = 0
  · have e : a = b := by omega
    subst e
    have : (decide (a < 0) && !decide (a < 0)) = false := by simp
    rw [this, nearI_fi _ _ h rfl]
  · have hp : (0 : Int) < (2 ^ K : Nat) := by have := Nat.two_pow_pos K; omega
    have hne : (a - b) * (2^K : Nat) ≠ 0 := Int.mul_ne_zero h0 (by omega)
    have e : ∀ z, nearI z ((a - b) * (2^K : Nat)) = nearI false ((a - b) * (2^K : Nat)) := fun z => by unfold nearI; rw [if_neg hne, if_neg hne]
    rw [e, nearI_fi _ _ h rfl]
/-- products of whole numbers are exact, but for the sign of nothing -/
theorem mul_fi (a b : Int) (ha : a.natAbs ≤ 9007199254740992) (hb : b.natAbs ≤ 9007199254740992) (h : (a * b).natAbs ≤ 9007199254740992) : double.mul (fi a) (fi b) = some (W (decide (a < 0) ^^ decide (b < 0)) ((a * b).natAbs * 2^K)) := by
  have hra := rep_fi a ha
  have hrb := rep_fi b hb
  rw [fi_W a ha, fi_W b hb, mul_W _ _ hra hrb]
  have h1 := mg_ex hra
  have h2 := mg_ex hrb
  generalize mg (rung (a.natAbs * 2^K)) = m at *
  generalize mg (rung (b.natAbs * 2^K)) = n at *
  generalize ex (rung (a.natAbs * 2^K)) = i at *
  generalize ex (rung (b.natAbs * 2^K)) = j at *
  have e1 : (-1074 : Int) + i + (-1074 + j) = -2148 + ((i + j : Nat) : Int) := by omega
  have hprod : m * n * 2^(i + j) = (a * b).natAbs * 2^(K + K) := by
    rw [Int.natAbs_mul, Nat.pow_add, Nat.pow_add]
    calc m * n * (2^i * 2^j) = (m * 2^i) * (n * 2^j) := by rw [Nat.mul_mul_mul_comm]
      _ = (a.natAbs * 2^K) * (b.natAbs * 2^K) := by rw [h1, h2]
      _ = a.natAbs * b.natAbs * (2^K * 2^K) := by rw [Nat.mul_mul_mul_comm]
  rw [e1, ← nearest_shift, hprod, Nat.pow_add, ← Nat.mul_assoc, nearest_shift, ← nearest_W _ (rep_fi (a * b) h)]
  congr 2
theorem order_fi (a b : Int) (ha : a.natAbs ≤ 9007199254740992) (hb : b.natAbs ≤ 9007199254740992) : double.order (fi a) (fi b) = some (compare a b) := by
  have hp : 0 < 2 ^ K := Nat.two_pow_pos K
  rw [fi_W a ha, fi_W b hb, order_W _ _ (rep_fi a ha) (rep_fi b hb), fi_sg a, fi_sg b, compare_mul _ _ _ hp]
end Go.Proofs.YtdddmehchfnppaaDoor.Fl
