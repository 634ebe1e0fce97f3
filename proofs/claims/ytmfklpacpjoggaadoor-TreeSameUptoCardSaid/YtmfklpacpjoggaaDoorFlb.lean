/- Plain laws of 64-bit floats as words of bits: what masks and shifts make of them; products with powers of two; what Ldexp must give. No program in sight. Conditions: none. -/
import Derived.Test.YtmfklpacpjoggaaDoorFl
import Derived.Laws.BitsAllLaws
namespace Go.Proofs.YtmfklpacpjoggaaDoor.Fl
open Ieee Go

/-- the word of a sign, an exponent's field and a fraction's -/
def wd (s : Bool) (E F : Nat) : Nat := s.toNat * 9223372036854775808 + E * 4503599627370496 + F

theorem wd_word (s : Bool) (E F : Nat) : wd s E F = double.word s (E * 4503599627370496 + F) := by
  unfold wd Format.word; rw [signWeight]; cases s <;> simp <;> omega

theorem wd_lt (s : Bool) {E F : Nat} (hE : E < 2048) (hF : F < 4503599627370496) : wd s E F < 18446744073709551616 := by
  unfold wd; cases s <;> simp <;> omega

theorem wd_shr (s : Bool) {E F : Nat} (hE : E < 2048) (hF : F < 4503599627370496) : wd s E F / 4503599627370496 % 2048 = E := by
  unfold wd; cases s <;> simp <;> omega

theorem and_sign (x : Nat) : x &&& 9223372036854775808 = x / 9223372036854775808 % 2 * 9223372036854775808 := nat_bit 63 x
theorem and_rest (x : Nat) : x &&& 9223372036854775807 = x % 9223372036854775808 := Nat.and_two_pow_sub_one_eq_mod x 63
theorem and_frac (x : Nat) : x &&& 4503599627370495 = x % 4503599627370496 := Nat.and_two_pow_sub_one_eq_mod x 52

theorem and_unexp (s : Bool) {E F : Nat} (hE : E < 2048) (hF : F < 4503599627370496) : wd s E F &&& 9227875636482146303 = wd s 0 F := by
  have e : (9227875636482146303 : Nat) = 9223372036854775808 ||| 4503599627370495 := by decide
  rw [e, Nat.and_or_distrib_left, and_sign, and_frac]
  have e1 : wd s E F / 9223372036854775808 % 2 = s.toNat := by unfold wd; cases s <;> simp <;> omega
  have e2 : wd s E F % 4503599627370496 = F := by unfold wd; cases s <;> simp <;> omega
  rw [e1, e2, nat_join 63 _ _ (by omega) (by omega)]
  unfold wd; omega

theorem or_exp (s : Bool) {E F : Nat} (hE : E < 2048) (hF : F < 4503599627370496) : wd s 0 F ||| E * 4503599627370496 = wd s E F := by
  have e : wd s 0 F = s.toNat * 9223372036854775808 ||| F := by
    rw [nat_join 63 _ _ (by omega) (by omega)]; unfold wd; omega
  rw [e, Nat.or_assoc, Nat.or_comm F, nat_join 52 (E * 4503599627370496) F (by omega) (by omega), nat_join 63 _ _ (by omega) (by omega)]
  unfold wd; omega

/-- a float from 2^-1022 on has an exponent's field -/
theorem W_wd (s : Bool) {Z : Nat} (hz : Rep Z) (h : 4503599627370496 ≤ Z) :
    ∃ E F, 1 ≤ E ∧ E ≤ 2046 ∧ F < 4503599627370496 ∧ W s Z = wd s E F ∧ Z = (4503599627370496 + F) * 2^(E - 1) := by
  have hr := rung_lt hz
  have hm := mg_ex hz
  have h52 : ¬ rung Z < 4503599627370496 := by
    intro hlt
    unfold mg ex at hm
    have h2 : rung Z < 2^52 := by omega
    simp only [h2, if_true] at hm; omega
  refine ⟨rung Z / 4503599627370496, rung Z % 4503599627370496, ?_, ?_, ?_, ?_, ?_⟩
  · omega
  · omega
  · omega
  · rw [wd_word]; unfold W; congr 1; omega
  · unfold mg ex at hm
    have h2 : ¬ rung Z < 2^52 := by omega
    simp only [h2, if_false] at hm
    exact hm.symm

theorem read_wd (s : Bool) {E F : Nat} (h1 : 1 ≤ E) (h2 : E ≤ 2046) (hF : F < 4503599627370496) :
    double.read (wd s E F) = .number s (4503599627370496 + F) (-1074 + (E - 1 : Nat)) := by
  rw [wd_word, read_word s (by omega)]
  have h3 : ¬ (E * 4503599627370496 + F < 2^52) := by omega
  unfold mg ex
  simp only [h3, if_false]
  have e1 : (E * 4503599627370496 + F) % 2^52 = F := by omega
  have e2 : (E * 4503599627370496 + F) / 2^52 - 1 = E - 1 := by omega
  rw [e1, e2]

/-- the product of a power of two and a float -/
theorem mul_pow_l (c : Nat) (p : Int) (hc : double.read c = .number false 4503599627370496 p) (b : Nat) (s : Bool) (m : Nat) (i : Int) (hb : double.read b = .number s m i) :
    double.mul c b = some (double.nearest s m (i + p + 52)) := by
  simp only [Format.mul, hb, hc, Datum.product, Format.write, Option.map_some]
  have e : (4503599627370496 : Nat) * m = m * 2^52 := by omega
  have e2 : (false ^^ s) = s := by simp
  rw [e, nearest_shift, e2, show p + i + ((52 : Nat) : Int) = i + p + 52 by omega]
theorem mul_pow_r (c : Nat) (p : Int) (hc : double.read c = .number false 4503599627370496 p) (b : Nat) (s : Bool) (m : Nat) (i : Int) (hb : double.read b = .number s m i) :
    double.mul b c = some (double.nearest s m (i + p + 52)) := by
  simp only [Format.mul, hb, hc, Datum.product, Format.write, Option.map_some]
  have e : m * (4503599627370496 : Nat) = m * 2^52 := by omega
  have e2 : (s ^^ false) = s := by simp
  rw [e, nearest_shift, e2, show i + p + ((52 : Nat) : Int) = i + p + 52 by omega]

theorem read_one : double.read 4607182418800017408 = .number false 4503599627370496 (-52) := by decide
theorem read_m53 : double.read 4368491638549381120 = .number false 4503599627370496 (-105) := by decide
theorem read_p52 : double.read 4841369599423283200 = .number false 4503599627370496 0 := by decide

theorem mul_p52 (s : Bool) {Z : Nat} (hz : Rep Z) (hl : Z < 4503599627370496) : Rep (Z * 2^52) ∧ double.mul (W s Z) 4841369599423283200 = some (W s (Z * 2^52)) := by
  have hr : Rep (Z * 2^52) := by
    refine ⟨?_, Z, 52, by omega, rfl⟩
    by_cases h0 : Z = 0
    · subst h0; simp
    rw [log2_mul_pow 52 h0]
    have : Z.log2 ≤ 51 := log2_lt_of (by omega)
    omega
  refine ⟨hr, ?_⟩
  rw [mul_pow_r _ _ read_p52 _ _ _ _ (read_W s hz), ← nearest_W s hr]
  congr 1
  have e : Z * 2^52 = mg (rung Z) * 2^(ex (rung Z) + 52) := by rw [Nat.pow_add, ← Nat.mul_assoc, mg_ex hz]
  rw [e, nearest_shift]; congr 1; omega

/-- what is far below the least unit is none -/
theorem nearest_small (s : Bool) {m : Nat} (hm : m < 2^53) (p : Int) (hp : p < -1127) : double.nearest s m p = W s 0 := by
  by_cases h0 : m = 0
  · subst h0; simp [Format.nearest, W, rung]
  rw [nearest_eq s h0]
  have hl : m.log2 ≤ 52 := log2_lt_of hm
  have e1 : max (p + (m.log2:Int) - 52) (-1074) = -1074 := by omega
  rw [e1]
  have e3 : (p - (-1074)).toNat = 0 := by omega
  rw [e3]
  obtain ⟨d, hd, hd2⟩ : ∃ d, (-1074 - p).toNat = d ∧ 54 ≤ d := ⟨_, rfl, by omega⟩
  rw [hd]
  have h54 : 2^54 ≤ 2^d := Nat.pow_le_pow_right (by omega) hd2
  have a0 : (2^54 : Nat) = 18014398509481984 := by decide
  have a9 : (2^53 : Nat) = 9007199254740992 := by decide
  have e5 : rhe (m * 2^0) d = 0 := by
    unfold rhe
    simp only [Nat.pow_zero, Nat.mul_one]
    have b1 : m / 2^d = 0 := Nat.div_eq_of_lt (by omega)
    have b2 : m % 2^d = m := Nat.mod_eq_of_lt (by omega)
    rw [b1, b2]
    have a1 : decide (2^d < 2*m) = false := by simp; omega
    have a2 : (2^d == 2*m) = false := by simp; omega
    simp [a1, a2]
  rw [e5]; simp [W, rung]

/-- times a power of two, rounded: what Ldexp gives -/
def ldx (s : Bool) (Z : Nat) (k : Int) : Nat := double.nearest s Z (-1074 + k)

theorem ldx_shift (s : Bool) (Z j : Nat) (k : Int) : ldx s (Z * 2^j) k = ldx s Z (k + j) := by
  unfold ldx; rw [nearest_shift]; congr 1; omega

theorem ldx_parts (s : Bool) (M E : Nat) (k : Int) : ldx s (M * 2^(E - 1)) k = double.nearest s M (-1074 + k + (E - 1 : Nat)) := by
  unfold ldx; rw [nearest_shift]

end Go.Proofs.YtmfklpacpjoggaaDoor.Fl
