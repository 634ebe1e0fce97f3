/- Plain laws of whole numbers times powers of two as 64-bit floats. No program in sight. Conditions: none. -/
import Derived.Test.YtnhnaallalgefaaDoorFlb
namespace Go.Proofs.YtnhnaallalgefaaDoor.Fl
open Ieee Go

/-- a whole number times a power of two in least units, if a float can hold it -/
def scaleOk (m : Nat) (p : Int) : Option Nat :=
  if 0 ≤ p then (if (m * 2^K * 2^p.toNat).log2 ≤ 2097 then some (m * 2^K * 2^p.toNat) else none)
  else (if m * 2^K % 2^(-p).toNat = 0 then some (m * 2^K / 2^(-p).toNat) else none)

/-- Scale: the float, or that there is none -/
def scaleS (n p : Int) : Option Nat :=
  if n.natAbs ≤ 9007199254740992 ∧ -2000 ≤ p ∧ p ≤ 2000 then
    if n = 0 then some 0 else (scaleOk n.natAbs p).map (W (decide (n < 0)))
  else none

theorem rep_unit {m : Nat} (hm : m ≤ 9007199254740992) : Rep (m * 2^K) := rep_int K hm (by unfold K; omega)

theorem up_fits (s : Bool) {m : Nat} (hm : m ≤ 9007199254740992) (j : Nat) (h : (m * 2^K * 2^j).log2 ≤ 2097) :
    Rep (m * 2^K * 2^j) ∧ ldx s (m * 2^K) j = W s (m * 2^K * 2^j) ∧ ldx s (m * 2^K * 2^j) (-j) = W s (m * 2^K) := by
  have hr := (rep_unit hm).mul j h
  refine ⟨hr, ?_, ?_⟩
  · rw [← nearest_W s hr, nearest_shift]; rfl
  · rw [ldx_shift, show -(j : Int) + j = 0 by omega]
    unfold ldx; rw [Int.add_zero, nearest_W s (rep_unit hm)]

theorem up_not (s : Bool) {m : Nat} (j : Nat) (h : ¬ (m * 2^K * 2^j).log2 ≤ 2097) : ldx s (m * 2^K) j = infw s := by
  unfold ldx; rw [← nearest_shift]; exact nearest_over s (by omega)

theorem down_fits (s : Bool) {m : Nat} (hm : m ≤ 9007199254740992) (j : Nat) (h : m * 2^K % 2^j = 0) :
    Rep (m * 2^K / 2^j) ∧ ldx s (m * 2^K) (-j) = W s (m * 2^K / 2^j) ∧ ldx s (m * 2^K / 2^j) j = W s (m * 2^K) := by
  obtain ⟨Q, hQ⟩ := Nat.dvd_of_mod_eq_zero h
  rw [Nat.mul_comm (2^j)] at hQ
  have hr := rep_unit hm
  rw [hQ] at hr ⊢
  rw [Nat.mul_div_cancel _ (Nat.two_pow_pos j)]
  have hrq : Rep Q := by
    obtain ⟨q, hq, e⟩ := hr.dvd
    by_cases h0 : Q = 0
    · subst h0; exact rep_zero
    have hl : (Q * 2^j).log2 = Q.log2 + j := log2_mul_pow j h0
    have hll := hr.1
    refine ⟨by omega, ?_⟩
    rw [hl] at e
    by_cases hj : j ≤ Q.log2 + j - 52
    · refine ⟨q, Q.log2 - 52, hq, ?_⟩
      rw [show Q.log2 + j - 52 = (Q.log2 - 52) + j by omega, Nat.pow_add, ← Nat.mul_assoc] at e
      exact Nat.eq_of_mul_eq_mul_right (Nat.two_pow_pos j) e
    · refine ⟨Q, 0, ?_, by simp⟩
      have h2 := @Nat.lt_log2_self Q
      have h3 : 2^(Q.log2+1) ≤ 2^53 := Nat.pow_le_pow_right (by omega) (by omega)
      omega
  refine ⟨hrq, ?_, ?_⟩
  · rw [ldx_shift, show -(j : Int) + j = 0 by omega]
    unfold ldx; rw [Int.add_zero, nearest_W s hrq]
  · rw [← nearest_W s hr, nearest_shift]; rfl

theorem rhe_le (n d : Nat) (hd : 1 ≤ d) : rhe n d ≤ n / 2 + 1 := by
  have h1 : n / 2^d ≤ n / 2 := by
    rw [show d = 1 + (d - 1) by omega, Nat.pow_add, ← Nat.div_div_eq_div_mul]
    exact Nat.div_le_self _ _
  unfold rhe
  have := Bool.toNat_le (decide (2^d < 2*(n % 2^d)) || (2^d == 2*(n % 2^d) && (n / 2^d) % 2 == 1))
  omega

theorem down_not (s : Bool) {m : Nat} (hm : m ≤ 9007199254740992) (j : Nat) (hj : j ≤ 2000) (h : ¬ m * 2^K % 2^j = 0) :
    ∃ R, R < 9007199254740992 ∧ ldx s (m * 2^K) (-j) = W s R ∧ Rep R ∧ Rep (R * 2^j) ∧ ldx s R j = W s (R * 2^j) ∧ R * 2^j ≠ m * 2^K := by
  have hjK : K < j := by
    refine Nat.lt_of_not_le fun hle => h ?_
    rw [show m * 2^K = m * 2^(K - j) * 2^j by rw [Nat.mul_assoc, ← Nat.pow_add, Nat.sub_add_cancel hle]]
    exact Nat.mul_mod_left _ _
  have hm0 : m ≠ 0 := by rintro rfl; simp at h
  obtain ⟨d, hd, hd1⟩ : ∃ d, j = d + K ∧ 1 ≤ d := ⟨j - K, by omega, by omega⟩
  have hnd : ∀ q, q * 2^d ≠ m := by
    intro q e
    refine h ?_
    rw [← e, Nat.mul_assoc, ← Nat.pow_add, ← hd]
    exact Nat.mul_mod_left _ _
  have hml : m.log2 ≤ 53 := log2_lt_of (by omega)
  have hR := rhe_le m d hd1
  have a9 : (2^53 : Nat) = 9007199254740992 := by decide
  refine ⟨rhe m d, ?_, ?_, ?_, ?_, ?_, ?_⟩
  · omega
  · unfold ldx
    rw [nearest_shift, show -1074 + -(j : Int) + (K : Int) = -1074 - d by omega, nearest_eq s hm0]
    have e1 : max (-1074 - (d : Int) + (m.log2:Int) - 52) (-1074) = -1074 := by omega
    rw [e1]
    have e3 : (-1074 - (d : Int) - (-1074)).toNat = 0 := by omega
    have e4 : (-1074 - (-1074 - (d : Int))).toNat = d := by omega
    rw [e3, e4]
    have e5 : rung (rhe m d) = rhe m d := by unfold rung; rw [if_pos (by omega)]
    rw [W, e5]
    simp only [Nat.pow_zero, Nat.mul_one]
    rw [Nat.min_eq_left (by omega)]
    simp
  · exact ⟨by have := log2_lt_of (Z := rhe m d) (k := 52) (by omega); omega, rhe m d, 0, by omega, by simp⟩
  · refine Rep.of_log (by omega) ?_
    by_cases h0 : rhe m d = 0
    · rw [h0]; simp
    rw [log2_mul_pow j h0]
    have := log2_lt_of (Z := rhe m d) (k := 52) (by omega)
    omega
  · have hr : Rep (rhe m d * 2^j) := by
      refine Rep.of_log (by omega) ?_
      by_cases h0 : rhe m d = 0
      · rw [h0]; simp
      rw [log2_mul_pow j h0]
      have := log2_lt_of (Z := rhe m d) (k := 52) (by omega)
      omega
    rw [← nearest_W s hr, nearest_shift]; rfl
  · rw [hd, Nat.pow_add, ← Nat.mul_assoc]
    intro e
    exact hnd _ (Nat.eq_of_mul_eq_mul_right (Nat.two_pow_pos K) e)

end Go.Proofs.YtnhnaallalgefaaDoor.Fl
