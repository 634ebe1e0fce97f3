/- Plain laws of 64-bit floats: a finite float is a sign and a whole number of least units (2^-1074); what order, product with 2, half, conversion to and from integers give. No program in sight. Conditions: none. -/
import Derived.Laws.FloatArith
namespace Go.Proofs.YtdddmehchfnppaaGreatDoor.Fl
open Ieee Go

theorem log2_mul_pow {m : Nat} (j : Nat) (h : m ≠ 0) : (m * 2^j).log2 = m.log2 + j := by
  have hm : m * 2^j ≠ 0 := Nat.mul_ne_zero h (by have := Nat.two_pow_pos j; omega)
  rw [Nat.log2_eq_iff hm]
  have h1 := Nat.log2_self_le h
  have h2 := @Nat.lt_log2_self m
  constructor
  · rw [Nat.pow_add]; exact Nat.mul_le_mul_right _ h1
  · rw [show m.log2 + j + 1 = (m.log2 + 1) + j by omega, Nat.pow_add]
    exact Nat.mul_lt_mul_of_pos_right h2 (Nat.two_pow_pos j)

/-- rounding half to even -/
def rhe (n d : Nat) : Nat := n / 2^d + (decide (2^d < 2*(n % 2^d)) || (2^d == 2*(n % 2^d) && (n / 2^d) % 2 == 1)).toNat

theorem cut_even (neg : Bool) (n d : Nat) : Toward.even.cut neg n d = rhe n d := by
  unfold Toward.cut rhe
  rcases Nat.le_total d (n.log2 + 2) with h | h
  · simp only [Nat.min_eq_left h, Nat.one_shiftLeft]
  · simp only [Nat.min_eq_right h, Nat.one_shiftLeft]
    have h2 := @Nat.lt_log2_self n
    have h3 : 2 * 2^(n.log2+1) = 2^(n.log2+2) := by rw [Nat.pow_succ _ (n.log2+1)]; omega
    have h4 : 2^(n.log2+2) ≤ 2^d := Nat.pow_le_pow_right (by omega) h
    have e1 : n / 2^(n.log2+2) = 0 := Nat.div_eq_of_lt (by omega)
    have e2 : n % 2^(n.log2+2) = n := Nat.mod_eq_of_lt (by omega)
    have e3 : n / 2^d = 0 := Nat.div_eq_of_lt (by omega)
    have e4 : n % 2^d = n := Nat.mod_eq_of_lt (by omega)
    rw [e1, e2, e3, e4]
    have a1 : decide (2^(n.log2+2) < 2 * n) = false := by simp; omega
    have a2 : decide (2^d < 2 * n) = false := by simp; omega
    have a3 : (2^(n.log2+2) == 2 * n) = false := by simp; omega
    have a4 : (2^d == 2 * n) = false := by simp; omega
    simp [a1, a2, a3, a4]

theorem cut_zero (neg : Bool) (n d : Nat) : Toward.zero.cut neg n d = n / 2^d := by
  unfold Toward.cut
  rcases Nat.le_total d (n.log2 + 2) with h | h
  · simp only [Nat.min_eq_left h, Nat.one_shiftLeft]; rfl
  · simp only [Nat.min_eq_right h, Nat.one_shiftLeft]
    have h2 := @Nat.lt_log2_self n
    have h3 : 2 * 2^(n.log2+1) = 2^(n.log2+2) := by rw [Nat.pow_succ _ (n.log2+1)]; omega
    have h4 : 2^(n.log2+2) ≤ 2^d := Nat.pow_le_pow_right (by omega) h
    have e1 : n / 2^(n.log2+2) = 0 := Nat.div_eq_of_lt (by omega)
    have e3 : n / 2^d = 0 := Nat.div_eq_of_lt (by omega)
    rw [e1, e3]; rfl

theorem rhe_mul (n d j : Nat) : rhe (n * 2^j) (d + j) = rhe n d := by
  unfold rhe
  have hj := Nat.two_pow_pos j
  have e1 : n * 2^j / 2^(d+j) = n / 2^d := by rw [Nat.pow_add, Nat.mul_div_mul_right _ _ hj]
  have e2 : n * 2^j % 2^(d+j) = n % 2^d * 2^j := by rw [Nat.pow_add, Nat.mul_mod_mul_right]
  rw [e1, e2]
  have e3 : decide (2^(d+j) < 2 * (n % 2^d * 2^j)) = decide (2^d < 2 * (n % 2^d)) := by
    rw [decide_eq_decide, Nat.pow_add, ← Nat.mul_assoc]; exact Nat.mul_lt_mul_right hj
  have e4 : (2^(d+j) == 2 * (n % 2^d * 2^j)) = (2^d == 2 * (n % 2^d)) := by
    rw [Bool.eq_iff_iff, beq_iff_eq, beq_iff_eq, Nat.pow_add, ← Nat.mul_assoc]
    exact ⟨fun h => Nat.eq_of_mul_eq_mul_right hj h, fun h => congrArg (· * 2^j) h⟩
  rw [e3, e4]

theorem rhe_shift (n x y x' y' : Nat) (h : x + y' = x' + y) : rhe (n * 2^x) y = rhe (n * 2^x') y' := by
  rw [← rhe_mul (n * 2^x) y y', ← rhe_mul (n * 2^x') y' y, Nat.mul_assoc, Nat.mul_assoc, ← Nat.pow_add, ← Nat.pow_add, h, Nat.add_comm y y']

theorem rhe_exact (n d : Nat) : rhe (n * 2^d) d = n := by
  have := rhe_mul n 0 d
  rw [Nat.zero_add] at this
  rw [this]; simp [rhe, Nat.mod_one]

theorem rhe_zero (n : Nat) : rhe n 0 = n := by simp [rhe, Nat.mod_one]

theorem leastPlace : double.leastPlace = -1074 := by decide
theorem fractionBits : double.fractionBits = 52 := rfl
theorem binade : double.binade = 4503599627370496 := by decide
theorem infRung : double.infRung = 9218868437227405312 := by decide
theorem signWeight : double.signWeight = 9223372036854775808 := by decide

theorem nearest_eq (neg : Bool) {m : Nat} (h : m ≠ 0) (p : Int) :
    double.nearest neg m p = double.word neg (min ((max (p + m.log2 - 52) (-1074) + 1074).toNat * 4503599627370496
      + rhe (m * 2^(p - max (p + m.log2 - 52) (-1074)).toNat) (max (p + m.log2 - 52) (-1074) - p).toNat) 9218868437227405312) := by
  unfold Format.nearest
  simp only [h, if_false, fractionBits, leastPlace, binade, infRung, cut_even, Nat.shiftLeft_eq, Int.sub_neg]
  rfl

theorem nearest_shift (neg : Bool) (m j : Nat) (p : Int) : double.nearest neg (m * 2^j) p = double.nearest neg m (p + j) := by
  by_cases h : m = 0
  · subst h; simp [Format.nearest]
  have hm : m * 2^j ≠ 0 := Nat.mul_ne_zero h (by have := Nat.two_pow_pos j; omega)
  rw [nearest_eq neg hm, nearest_eq neg h, log2_mul_pow j h]
  have e : max (p + ((m.log2 + j : Nat) : Int) - 52) (-1074) = max (p + j + m.log2 - 52) (-1074) := by congr 1; omega
  rw [e]
  generalize max (p + j + m.log2 - 52) (-1074) = L
  congr 2
  rw [Nat.mul_assoc, ← Nat.pow_add]
  congr 1
  apply rhe_shift
  omega

/-- the rung of a whole number of least units -/
def rung (Z : Nat) : Nat := if Z < 2^53 then Z else (Z.log2 - 52) * 2^52 + Z / 2^(Z.log2 - 52)

/-- a whole number of least units that a double can hold -/
def Rep (Z : Nat) : Prop := Z.log2 ≤ 2097 ∧ ∃ m k, m < 2^53 ∧ Z = m * 2^k

theorem log2_lt_of {Z k : Nat} (h : Z < 2^(k+1)) : Z.log2 ≤ k := by
  by_cases hz : Z = 0
  · subst hz; simp
  have := Nat.log2_self_le hz
  have h3 : 2^Z.log2 < 2^(k+1) := by omega
  have := (Nat.pow_lt_pow_iff_right (a := 2) (by omega)).1 h3
  omega

theorem le_log2_of {Z k : Nat} (h : 2^k ≤ Z) : k ≤ Z.log2 := by
  have h2 := @Nat.lt_log2_self Z
  have h3 : 2^k < 2^(Z.log2+1) := by omega
  have := (Nat.pow_lt_pow_iff_right (a := 2) (by omega)).1 h3
  omega

/-- what is represented is a multiple of its last place -/
theorem Rep.dvd {Z : Nat} (h : Rep Z) : ∃ q, q < 2^53 ∧ Z = q * 2^(Z.log2 - 52) := by
  obtain ⟨_, m, k, hm, e⟩ := h
  by_cases hz : Z = 0
  · exact ⟨0, by omega, by omega⟩
  have hm0 : m ≠ 0 := by rintro rfl; simp at e; exact hz e
  have hl : Z.log2 = m.log2 + k := by rw [e]; exact log2_mul_pow k hm0
  have hml : m.log2 ≤ 52 := log2_lt_of hm
  have hk : Z.log2 - 52 ≤ k := by omega
  refine ⟨m * 2^(k - (Z.log2 - 52)), ?_, ?_⟩
  · have h1 : m * 2^(k - (Z.log2 - 52)) * 2^(Z.log2 - 52) = Z := by
      rw [Nat.mul_assoc, ← Nat.pow_add, Nat.sub_add_cancel hk, ← e]
    by_cases h52 : Z.log2 ≤ 52
    · have : Z.log2 - 52 = 0 := by omega
      rw [this] at h1; simp only [Nat.pow_zero, Nat.mul_one] at h1
      rw [this]
      have h2 := @Nat.lt_log2_self Z
      have : 2^(Z.log2+1) ≤ 2^53 := Nat.pow_le_pow_right (by omega) (by omega)
      rw [h1]; omega
    · have h2 := @Nat.lt_log2_self Z
      have h3 : 2^(Z.log2+1) = 2^53 * 2^(Z.log2 - 52) := by rw [← Nat.pow_add]; congr 1; omega
      generalize Z.log2 - 52 = l at *
      rw [h3] at h2
      generalize m * 2^(k - l) = q at *
      rw [← h1] at h2
      exact Nat.lt_of_mul_lt_mul_right h2
  · rw [Nat.mul_assoc, ← Nat.pow_add, Nat.sub_add_cancel hk, ← e]

theorem rung_lt {Z : Nat} (h : Rep Z) : rung Z < 9218868437227405312 := by
  unfold rung
  split
  · omega
  · have hl := h.1
    obtain ⟨q, hq, e⟩ := h.dvd
    have : Z / 2^(Z.log2 - 52) = q := by
      conv => lhs; rw [e]
      rw [show (q * 2 ^ (Z.log2 - 52)).log2 = Z.log2 by rw [← e]]
      exact Nat.mul_div_cancel _ (Nat.two_pow_pos _)
    rw [this]; omega

theorem nearest_rep (neg : Bool) {Z : Nat} (h : Rep Z) : double.nearest neg Z (-1074) = double.word neg (rung Z) := by
  by_cases hz : Z = 0
  · subst hz; simp [Format.nearest, rung]
  rw [nearest_eq neg hz]
  have hl := rung_lt h
  have hr : (max (-1074 + (Z.log2:Int) - 52) (-1074) + 1074).toNat * 4503599627370496
      + rhe (Z * 2^(-1074 - max (-1074 + (Z.log2:Int) - 52) (-1074)).toNat) (max (-1074 + (Z.log2:Int) - 52) (-1074) - -1074).toNat = rung Z := by
    obtain ⟨q, hq, e⟩ := h.dvd
    by_cases h53 : Z < 2^53
    · have hl2 : Z.log2 ≤ 52 := log2_lt_of h53
      have e1 : max (-1074 + (Z.log2:Int) - 52) (-1074) = -1074 := by omega
      rw [e1]
      simp [rung, h53, rhe_zero]
    · have hl2 : 53 ≤ Z.log2 := le_log2_of (by omega)
      have e1 : max (-1074 + (Z.log2:Int) - 52) (-1074) = -1074 + ((Z.log2 - 52 : Nat) : Int) := by omega
      rw [e1]
      have e2 : (-1074 + ((Z.log2 - 52 : Nat) : Int) + 1074).toNat = Z.log2 - 52 := by omega
      have e3 : (-1074 - (-1074 + ((Z.log2 - 52 : Nat) : Int))).toNat = 0 := by omega
      have e4 : (-1074 + ((Z.log2 - 52 : Nat) : Int) - -1074).toNat = Z.log2 - 52 := by omega
      rw [e2, e3, e4]
      simp only [rung, h53, if_false, Nat.pow_zero, Nat.mul_one]
      have e5 : rhe Z (Z.log2 - 52) = q := by
        generalize hk : Z.log2 - 52 = k at *
        rw [e]; exact rhe_exact q k
      have e6 : Z / 2^(Z.log2 - 52) = q := by
        generalize hk : Z.log2 - 52 = k at *
        rw [e]; exact Nat.mul_div_cancel _ (Nat.two_pow_pos _)
      rw [e5, e6]
  rw [hr, Nat.min_eq_left (by omega)]

/-- the significand and the exponent of a rung -/
def mg (r : Nat) : Nat := if r < 2^52 then r else 2^52 + r % 2^52
def ex (r : Nat) : Nat := if r < 2^52 then 0 else r / 2^52 - 1
/-- a rung's magnitude in least units -/
def mag (r : Nat) : Nat := mg r * 2^(ex r)

theorem mg_lt (r : Nat) : mg r < 2^53 := by
  unfold mg; split
  · omega
  · have := Nat.mod_lt r (show 2^52 > 0 by omega); omega

theorem ex_le {r : Nat} (h : r < 9218868437227405312) : ex r ≤ 2045 := by
  unfold ex; split
  · omega
  · omega

theorem read_word (neg : Bool) {r : Nat} (h : r < 9218868437227405312) :
    double.read (double.word neg r) = .number neg (mg r) (-1074 + ex r) := by
  have e1 : double.word neg r / 9223372036854775808 % 2 = neg.toNat := by
    unfold Format.word; rw [signWeight]; cases neg <;> simp <;> omega
  have e2 : double.word neg r % 9223372036854775808 = r := by
    unfold Format.word; rw [signWeight]; cases neg <;> simp <;> omega
  unfold Format.read
  simp only [signWeight, binade, infRung, leastPlace, e1, e2, h, if_true]
  have e3 : (neg.toNat == 1) = neg := by cases neg <;> rfl
  rw [e3]
  unfold mg ex
  by_cases hr : r < 4503599627370496
  · simp [hr]
  · simp [hr]

theorem rep_mag {r : Nat} (h : r < 9218868437227405312) : Rep (mag r) := by
  refine ⟨?_, mg r, ex r, mg_lt r, rfl⟩
  have h1 := mg_lt r
  have h2 := ex_le h
  by_cases h0 : mg r = 0
  · simp [mag, h0]
  have : (mag r).log2 = (mg r).log2 + ex r := log2_mul_pow _ h0
  have h3 : (mg r).log2 ≤ 52 := log2_lt_of h1
  omega

theorem rung_mag (r : Nat) : rung (mag r) = r := by
  unfold mag
  by_cases hr : r < 2^52
  · have : mg r * 2^(ex r) = r := by simp [mg, ex, hr]
    rw [this]; unfold rung; rw [if_pos (by omega)]
  · have hm : mg r = 2^52 + r % 2^52 := by simp [mg, hr]
    have he : ex r = r / 2^52 - 1 := by simp [ex, hr]
    have hmod := Nat.mod_lt r (show 2^52 > 0 by omega)
    have hml : (mg r).log2 = 52 := by
      rw [Nat.log2_eq_iff (by omega)]; omega
    have hl : (mg r * 2^(ex r)).log2 = 52 + ex r := by rw [log2_mul_pow _ (by omega), hml]
    unfold rung
    rw [hl, Nat.add_sub_cancel_left, Nat.mul_div_cancel _ (Nat.two_pow_pos _)]
    split
    · rename_i h53
      have : ex r = 0 := by
        have := log2_lt_of (k := 52) h53
        omega
      rw [this]; omega
    · omega

theorem mag_rung {Z : Nat} (h : Rep Z) : mag (rung Z) = Z := by
  obtain ⟨q, hq, e⟩ := h.dvd
  unfold rung
  by_cases h53 : Z < 2^53
  · rw [if_pos h53]
    unfold mag mg ex
    by_cases h52 : Z < 2^52
    · simp [h52]
    · simp only [h52, if_false]
      have : Z / 2^52 - 1 = 0 := by omega
      rw [this]; omega
  · rw [if_neg h53]
    have hl2 : 53 ≤ Z.log2 := le_log2_of (by omega)
    have hz : Z ≠ 0 := by omega
    have hll := Nat.log2_self_le hz
    generalize hk : Z.log2 - 52 = k at *
    have hzl : Z.log2 = k + 52 := by omega
    have e6 : Z / 2^k = q := by rw [e]; exact Nat.mul_div_cancel _ (Nat.two_pow_pos _)
    have hq2 : 2^52 ≤ q := by
      rw [hzl, e, Nat.pow_add, Nat.mul_comm] at hll
      exact Nat.le_of_mul_le_mul_right hll (Nat.two_pow_pos k)
    rw [e6]
    have h1 : ¬ (k * 2^52 + q < 2^52) := by omega
    unfold mag mg ex
    simp only [h1, if_false]
    have h2 : (k * 2^52 + q) % 2^52 = q - 2^52 := by omega
    have h3 : (k * 2^52 + q) / 2^52 - 1 = k := by omega
    rw [h2, h3, show 2^52 + (q - 2^52) = q by omega]
    exact e.symm


def K : Nat := 1074

/-- the float of a sign and a whole number of least units -/
def W (s : Bool) (Z : Nat) : Nat := double.word s (rung Z)
/-- an infinity -/
def infw (s : Bool) : Nat := double.word s 9218868437227405312
def sg (s : Bool) (Z : Nat) : Int := if s then -(Z : Int) else Z

theorem W_mag (s : Bool) (r : Nat) : W s (mag r) = double.word s r := by unfold W; rw [rung_mag]

theorem read_W (s : Bool) {Z : Nat} (h : Rep Z) : double.read (W s Z) = .number s (mg (rung Z)) (-1074 + ex (rung Z)) := read_word s (rung_lt h)

theorem mg_ex {Z : Nat} (h : Rep Z) : mg (rung Z) * 2^(ex (rung Z)) = Z := mag_rung h

theorem nearest_W (s : Bool) {Z : Nat} (h : Rep Z) : double.nearest s Z (-1074) = W s Z := nearest_rep s h

theorem nearest_over (s : Bool) {Z : Nat} (h : 2098 ≤ Z.log2) : double.nearest s Z (-1074) = infw s := by
  have hz : Z ≠ 0 := by rintro rfl; simp at h
  rw [nearest_eq s hz]
  have e1 : max (-1074 + (Z.log2:Int) - 52) (-1074) = -1074 + ((Z.log2 - 52 : Nat) : Int) := by omega
  rw [e1]
  have e2 : (-1074 + ((Z.log2 - 52 : Nat) : Int) + 1074).toNat = Z.log2 - 52 := by omega
  have e3 : (-1074 - (-1074 + ((Z.log2 - 52 : Nat) : Int))).toNat = 0 := by omega
  have e4 : (-1074 + ((Z.log2 - 52 : Nat) : Int) - -1074).toNat = Z.log2 - 52 := by omega
  rw [e2, e3, e4]
  have h1 : 2^52 ≤ Z / 2^(Z.log2 - 52) := by
    rw [Nat.le_div_iff_mul_le (Nat.two_pow_pos _), ← Nat.pow_add, show 52 + (Z.log2 - 52) = Z.log2 by omega]
    exact Nat.log2_self_le hz
  have h2 : Z / 2^(Z.log2 - 52) ≤ rhe (Z * 2^0) (Z.log2 - 52) := by simp only [Nat.pow_zero, Nat.mul_one]; unfold rhe; omega
  rw [Nat.min_eq_right (by omega)]
  rfl

theorem Rep.of_log {m k : Nat} (h : m < 2^53) (hl : (m * 2^k).log2 ≤ 2097) : Rep (m * 2^k) := ⟨hl, m, k, h, rfl⟩
theorem rep_zero : Rep 0 := ⟨by simp, 0, 0, by omega, rfl⟩

theorem Rep.mul {Z : Nat} (h : Rep Z) (j : Nat) (hl : (Z * 2^j).log2 ≤ 2097) : Rep (Z * 2^j) := by
  obtain ⟨_, m, k, hm, rfl⟩ := h
  exact ⟨hl, m, k + j, hm, by rw [Nat.mul_assoc, ← Nat.pow_add]⟩

/-- the product of two finite floats -/
theorem mul_W (s t : Bool) {Z Y : Nat} (hz : Rep Z) (hy : Rep Y) :
    double.mul (W s Z) (W t Y) = some (double.nearest (s ^^ t) (mg (rung Z) * mg (rung Y)) (-1074 + ex (rung Z) + (-1074 + ex (rung Y)))) := by
  simp [Format.mul, read_W s hz, read_W t hy, Datum.product, Format.write]

def two : Nat := 4611686018427387904
theorem read_two : double.read two = .number false (2^52) (-51) := by decide

theorem mul_two (s : Bool) {Z : Nat} (hz : Rep Z) : double.mul (W s Z) two = some (double.nearest s (Z * 2) (-1074)) := by
  have e : Z * 2 = mg (rung Z) * 2^(ex (rung Z) + 1) := by rw [Nat.pow_succ, ← Nat.mul_assoc, mg_ex hz]
  rw [e, nearest_shift]
  simp only [Format.mul, read_W s hz, read_two, Datum.product, Format.write, Option.map_some, nearest_shift]
  congr 2
  · simp
  · omega

theorem two_mul (s : Bool) {Z : Nat} (hz : Rep Z) : double.mul two (W s Z) = some (double.nearest s (Z * 2) (-1074)) := by
  have e : Z * 2 = mg (rung Z) * 2^(ex (rung Z) + 1) := by rw [Nat.pow_succ, ← Nat.mul_assoc, mg_ex hz]
  rw [e, nearest_shift]
  simp only [Format.mul, read_W s hz, read_two, Datum.product, Format.write, Option.map_some]
  rw [Nat.mul_comm, nearest_shift]
  congr 2
  · simp
  · omega

theorem div_two_aux (s : Bool) {m : Nat} (hm : m < 2^53) (p : Int) :
    ((Datum.number s m p).quotient 54 (.number false (2^52) (-51))).map double.write = some (double.nearest s m (p - 1)) := by
  have hl : m.log2 ≤ 52 := log2_lt_of hm
  have e0 : (2^52 : Nat).log2 = 52 := by decide
  have h0 : (2^52 : Nat) ≠ 0 := by decide
  simp only [Datum.quotient, h0, if_false, e0, Nat.shiftLeft_eq, Option.map_some, Format.write]
  have e1 : m * 2^(54 + 52 - m.log2) = m * 2^(54 - m.log2) * 2^52 := by
    rw [Nat.mul_assoc, ← Nat.pow_add]; congr 2; omega
  rw [e1, Nat.mul_div_cancel _ (by decide), Nat.mul_mod_left]
  have e2 : 2 * (m * 2^(54 - m.log2)) + (0 != 0 : Bool).toNat = m * 2^(55 - m.log2) := by
    rw [show 55 - m.log2 = (54 - m.log2) + 1 by omega, Nat.pow_succ, Nat.mul_comm 2, Nat.mul_assoc]; rfl
  rw [e2, nearest_shift]
  congr 2
  · simp
  · omega

/-- half of a number of least units, rounded -/
def hlf (Z : Nat) : Nat := rhe Z 1

theorem hlf_even (Z : Nat) : hlf (Z * 2) = Z := by
  have := rhe_exact Z 1
  simpa [hlf] using this

theorem hlf_odd {Z : Nat} (h : Z % 2 = 1) : hlf Z * 2 ≠ Z := by
  unfold hlf rhe; omega

theorem hlf_le (Z : Nat) : hlf Z ≤ Z := by
  unfold hlf rhe
  have h2 : Z % 2^1 < 2 := Nat.mod_lt _ (by decide)
  rcases Nat.eq_zero_or_pos (Z % 2) with h | h
  · have a1 : decide (2^1 < 2*(Z % 2^1)) = false := by simp; omega
    have a2 : (2^1 == 2*(Z % 2^1)) = false := by simp; omega
    simp only [a1, a2, Bool.false_or, Bool.false_and, Bool.toNat_false]; omega
  · have := Bool.toNat_le (decide (2^1 < 2*(Z % 2^1)) || (2^1 == 2*(Z % 2^1) && (Z / 2^1) % 2 == 1))
    omega

theorem Rep.hlf {Z : Nat} (h : Rep Z) : Rep (hlf Z) := by
  obtain ⟨hl, m, k, hm, e⟩ := h
  cases k with
  | zero =>
    have hz : Z < 2^53 := by rw [e]; simpa using hm
    have := hlf_le Z
    refine ⟨?_, Go.Proofs.YtdddmehchfnppaaGreatDoor.Fl.hlf Z, 0, by omega, by simp⟩
    have := log2_lt_of (Z := Go.Proofs.YtdddmehchfnppaaGreatDoor.Fl.hlf Z) (k := 52) (by omega)
    omega
  | succ k =>
    have e2 : Z = m * 2^k * 2 := by rw [e, Nat.pow_succ, Nat.mul_assoc]
    rw [e2, hlf_even]
    refine ⟨?_, m, k, hm, rfl⟩
    by_cases h0 : m = 0
    · simp [h0]
    have : (m * 2^(k+1)).log2 = m.log2 + (k+1) := log2_mul_pow _ h0
    have : (m * 2^k).log2 = m.log2 + k := log2_mul_pow _ h0
    rw [e] at hl
    omega

theorem div_two (s : Bool) {Z : Nat} (hz : Rep Z) : double.div (W s Z) two = some (W s (hlf Z)) := by
  have : double.div (W s Z) two = some (double.nearest s (mg (rung Z)) (-1074 + ex (rung Z) - 1)) := by
    simp only [Format.div, read_W s hz, read_two, fractionBits]
    exact div_two_aux s (mg_lt _) _
  rw [this]
  congr 1
  have hm := mg_ex hz
  have hr := hz.hlf
  generalize ex (rung Z) = k at *
  have hmlt := mg_lt (rung Z)
  generalize mg (rung Z) = m at *
  subst hm
  cases k with
  | zero =>
    simp only [Nat.pow_zero, Nat.mul_one] at *
    by_cases h0 : m = 0
    · subst h0; simp [Format.nearest, W, rung, hlf, rhe]
    rw [nearest_eq s h0]
    have hl : m.log2 ≤ 52 := log2_lt_of hmlt
    have e1 : max (-1074 + ((0:Nat):Int) - 1 + (m.log2:Int) - 52) (-1074) = -1074 := by omega
    rw [e1]
    have e3 : (-1074 + ((0:Nat):Int) - 1 - (-1074)).toNat = 0 := by omega
    have e4 : (-1074 - (-1074 + ((0:Nat):Int) - 1)).toNat = 1 := by omega
    rw [e3, e4]
    have := hlf_le m
    have e5 : rung (hlf m) = rhe m 1 := by unfold rung; rw [if_pos (by omega)]; rfl
    have e6 : rhe m 1 = hlf m := rfl
    rw [W, e5]
    simp only [Nat.pow_zero, Nat.mul_one]
    rw [Nat.min_eq_left (by rw [e6]; omega)]
    simp
  | succ k =>
    have e : m * 2^(k+1) = m * 2^k * 2 := by rw [Nat.pow_succ, Nat.mul_assoc]
    rw [e, hlf_even] at hr ⊢
    rw [← nearest_W s hr, nearest_shift]
    congr 1; omega

theorem sg_shift (s : Bool) (m k : Nat) : Ieee.signed s m k = sg s (m * 2^k) := by
  unfold signed sg; simp only [Nat.shiftLeft_eq]

theorem sg_mul (s : Bool) (Z n : Nat) : sg s (Z * n) = sg s Z * n := by
  unfold sg; split <;> simp [Int.neg_mul]

theorem cmp_lt {a b : Int} (h : a < b) : compare a b = .lt := by simp [compare, compareOfLessAndEq, h]
theorem cmp_eq (a : Int) : compare a a = .eq := by simp [compare, compareOfLessAndEq]
theorem cmp_gt {a b : Int} (h : b < a) : compare a b = .gt := by
  have h1 : ¬ a < b := by omega
  have h2 : ¬ a = b := by omega
  simp [compare, compareOfLessAndEq, h1, h2]

theorem compare_mul (a b : Int) (n : Nat) (h : 0 < n) : compare (a * n) (b * n) = compare a b := by
  have hn : (0 : Int) < n := by omega
  rcases Int.lt_trichotomy a b with h1 | h1 | h1
  · rw [cmp_lt h1, cmp_lt (Int.mul_lt_mul_of_pos_right h1 hn)]
  · subst h1; rw [cmp_eq, cmp_eq]
  · rw [cmp_gt h1, cmp_gt (Int.mul_lt_mul_of_pos_right h1 hn)]

theorem order_W (s t : Bool) {Z Y : Nat} (hz : Rep Z) (hy : Rep Y) : double.order (W s Z) (W t Y) = some (compare (sg s Z) (sg t Y)) := by
  simp only [Format.order, read_W s hz, read_W t hy, Datum.order, sg_shift]
  congr 1
  have h1 := mg_ex hz
  have h2 := mg_ex hy
  generalize ex (rung Z) = i at *
  generalize ex (rung Y) = j at *
  generalize mg (rung Z) = m at *
  generalize mg (rung Y) = n at *
  subst h1; subst h2
  rcases Nat.le_total i j with h | h
  · rw [← compare_mul _ _ (2^i) (Nat.two_pow_pos _), ← sg_mul, ← sg_mul, Nat.mul_assoc, Nat.mul_assoc, ← Nat.pow_add, ← Nat.pow_add]
    congr 4 <;> omega
  · rw [← compare_mul _ _ (2^j) (Nat.two_pow_pos _), ← sg_mul, ← sg_mul, Nat.mul_assoc, Nat.mul_assoc, ← Nat.pow_add, ← Nat.pow_add]
    congr 4 <;> omega


theorem rep_int {n : Nat} (j : Nat) (h : n ≤ 2^53) (hj : j ≤ 2000) : Rep (n * 2^j) := by
  by_cases h0 : n = 0
  · subst h0; simpa using rep_zero
  by_cases h53 : n = 2^53
  · subst h53
    refine ⟨?_, 1, 53 + j, by decide, by rw [Nat.one_mul, Nat.pow_add]⟩
    rw [log2_mul_pow j h0]
    have : (2^53 : Nat).log2 = 53 := by decide
    omega
  · refine Rep.of_log (by omega) ?_
    rw [log2_mul_pow j h0]
    have : n.log2 ≤ 52 := log2_lt_of (by omega)
    omega

theorem ofInt (n : Int) (h : n.natAbs ≤ 2^53) : floatOfInt .f64 n = W (decide (n < 0)) (n.natAbs * 2^K) := by
  rw [← nearest_W _ (rep_int K h (by unfold K; omega)), nearest_shift]
  rfl

theorem toInt_W (s : Bool) {Z : Nat} (hz : Rep Z) : (double.read (W s Z)).toInt .zero = some (sg s (Z / 2^K)) := by
  rw [read_W s hz]
  have h1 := mg_ex hz
  generalize ex (rung Z) = i at *
  generalize mg (rung Z) = m at *
  subst h1
  simp only [Datum.toInt, Datum.integral, cut_zero, Nat.shiftLeft_eq, sg_shift, Nat.pow_zero, Nat.mul_one]
  congr 2
  rcases Nat.le_total K i with h | h
  · have e1 : (-1074 + (i:Int)).toNat = i - K := by unfold K at *; omega
    have e2 : (-(-1074 + (i:Int))).toNat = 0 := by unfold K at *; omega
    rw [e1, e2]
    have e3 : m * 2^i = m * 2^(i - K) * 2^K := by rw [Nat.mul_assoc, ← Nat.pow_add, Nat.sub_add_cancel h]
    rw [e3, Nat.mul_div_cancel _ (Nat.two_pow_pos _)]; simp
  · have e1 : (-1074 + (i:Int)).toNat = 0 := by unfold K at *; omega
    have e2 : (-(-1074 + (i:Int))).toNat = K - i := by unfold K at *; omega
    rw [e1, e2]
    have e3 : (2:Nat)^K = 2^(K - i) * 2^i := by rw [← Nat.pow_add, Nat.sub_add_cancel h]
    rw [e3, Nat.mul_div_mul_right _ _ (Nat.two_pow_pos _)]; simp

theorem toInt64_W (s : Bool) {Z : Nat} (hz : Rep Z) (h : Z / 2^K < 9223372036854775808) : floatToIntVal .f64 (W s Z) .i64 = some (sg s (Z / 2^K)) := by
  unfold floatToIntVal
  have : (FloatKind.f64.decode (W s Z)).toInt .zero = some (sg s (Z / 2^K)) := toInt_W s hz
  rw [this]
  simp only
  rw [if_pos]
  have e1 : IntKind.i64.min = -9223372036854775808 := by decide
  have e2 : IntKind.i64.max = 9223372036854775807 := by decide
  rw [e1, e2]
  generalize Z / 2^K = q at *
  unfold sg; split <;> omega

/-- every word is of a sign and a rung -/
theorem word_of (b : Nat) (h : b < 18446744073709551616) : ∃ s r, r < 9223372036854775808 ∧ b = double.word s r := by
  by_cases hb : b < 9223372036854775808
  · exact ⟨false, b, hb, rfl⟩
  · refine ⟨true, b - 9223372036854775808, by omega, ?_⟩
    unfold Format.word; rw [signWeight]; simp; omega

theorem read_inf (s : Bool) : double.read (infw s) = .infinity s := by cases s <;> decide

theorem read_nan (s : Bool) {r : Nat} (h : 9218868437227405312 < r) (h2 : r < 9223372036854775808) : (double.read (double.word s r)).isNaN = true := by
  have e2 : double.word s r % 9223372036854775808 = r := by
    unfold Format.word; rw [signWeight]; cases s <;> simp <;> omega
  unfold Format.read
  simp only [signWeight, binade, infRung, e2]
  rw [if_neg (by omega), if_neg (by omega), if_neg (by omega)]
  rfl

/-- a word is a number, an infinity, or none -/
theorem classify (b : Nat) (h : b < 18446744073709551616) :
    (∃ s Z, Rep Z ∧ b = W s Z) ∨ (∃ s, b = infw s) ∨ (double.read b).isNaN = true := by
  obtain ⟨s, r, hr, rfl⟩ := word_of b h
  rcases Nat.lt_trichotomy r 9218868437227405312 with h1 | h1 | h1
  · exact .inl ⟨s, mag r, rep_mag h1, (W_mag s r).symm⟩
  · subst h1; exact .inr (.inl ⟨s, rfl⟩)
  · exact .inr (.inr (read_nan s h1 hr))

theorem order_nan {a b : Nat} (h : (double.read a).isNaN = true) : double.order a b = none := by
  unfold Format.order
  cases h1 : double.read a with
  | nan s f => rfl
  | number s m e => rw [h1] at h; cases h
  | infinity s => rw [h1] at h; cases h

theorem order_inf (s t : Bool) {Z : Nat} (hz : Rep Z) : double.order (infw s) (W t Z) = some (if s then .lt else .gt) := by
  simp only [Format.order, read_inf, read_W t hz, Datum.order]

theorem order_inf_r (s t : Bool) {Z : Nat} (hz : Rep Z) : double.order (W t Z) (infw s) = some (if s then .gt else .lt) := by
  simp only [Format.order, read_inf, read_W t hz, Datum.order]

theorem W_lt (s : Bool) {Z : Nat} (hz : Rep Z) : W s Z < 18446744073709551616 := by
  have := rung_lt hz
  unfold W Format.word; rw [signWeight]; cases s <;> simp <;> omega

def K2 : Nat := 2045
def Top : Nat := (2^53 - 1) * 2^K2

theorem rep_top : Rep Top := by
  refine Rep.of_log (by decide) ?_
  rw [log2_mul_pow _ (by decide)]
  have : (2^53 - 1 : Nat).log2 = 52 := by decide
  unfold K2; omega

theorem rep_le {Z : Nat} (h : Rep Z) : Z ≤ Top := by
  obtain ⟨q, hq, e⟩ := h.dvd
  have h1 : Z.log2 - 52 ≤ K2 := by have := h.1; unfold K2; omega
  rw [e]
  exact Nat.mul_le_mul (by omega) (Nat.pow_le_pow_right (by omega) h1)

theorem W_top : W false Top = 9218868437227405311 := by decide +kernel
theorem W_ntop : W true Top = 18442240474082181119 := by decide +kernel
theorem W_zero : W false 0 = 0 := by decide
theorem W_nzero : W true 0 = 9223372036854775808 := by decide

end Go.Proofs.YtdddmehchfnppaaGreatDoor.Fl
