/- The walk of the reference's Scale: it tells what lit.Scale tells. Conditions: none. -/
import Derived.Test.YtnhnaallalgefaaLitE
namespace Go.Proofs.Ytnhnaallalgefaa
open Go Go.RowKit Go.Proofs Fl

theorem two_eq : two = 4611686018427387904 := rfl

theorem mul_two_fits (s : Bool) {X : Nat} (hX : Rep X) (h : Rep (X * 2)) (w : World) :
    (binOp .mul 35 (.float .f64 (W s X)) (.float .f64 4611686018427387904)).run Try.prog w = .ok (.float .f64 (W s (X * 2))) w := by
  refine run_float_arith w .mul 35 .f64 _ _ _ ?_
  have := mul_two s hX
  rw [nearest_W s h] at this
  exact this
theorem mul_two_over (s : Bool) {X : Nat} (hX : Rep X) (h : ¬ (X * 2).log2 ≤ 2097) (w : World) :
    (binOp .mul 35 (.float .f64 (W s X)) (.float .f64 4611686018427387904)).run Try.prog w = .ok (.float .f64 (infw s)) w := by
  refine run_float_arith w .mul 35 .f64 _ _ _ ?_
  have := mul_two s hX
  rw [nearest_over s (by omega)] at this
  exact this
theorem div_two_run (s : Bool) {X : Nat} (hX : Rep X) (w : World) :
    (binOp .quo 35 (.float .f64 (W s X)) (.float .f64 4611686018427387904)).run Try.prog w = .ok (.float .f64 (W s (hlf X))) w :=
  run_float_arith w .quo 35 .f64 _ _ _ (div_two s hX)

theorem rep_hlf2 {X : Nat} (hX : Rep X) : Rep (hlf X * 2) := by
  rcases Nat.mod_two_eq_zero_or_one X with h | h
  · have e : X = X / 2 * 2 := by omega
    have : hlf X * 2 = X := by rw [e, hlf_even]
    rw [this]; exact hX
  · have hl : X.log2 ≤ 52 := by
      obtain ⟨q, hq, e⟩ := hX.dvd
      refine Nat.le_of_not_lt fun hlt => ?_
      have : X.log2 - 52 = (X.log2 - 53) + 1 := by omega
      rw [this, Nat.pow_succ, ← Nat.mul_assoc] at e
      omega
    have h2 := @Nat.lt_log2_self X
    have h3 : 2^(X.log2+1) ≤ 2^53 := Nat.pow_le_pow_right (by omega) (by omega)
    have h4 : hlf X ≤ X / 2 + 1 := rhe_le X 1 (by omega)
    have := rep_int (n := hlf X * 2) 0 (by omega) (by omega)
    simpa using this

theorem log2_grow (A k j : Nat) (h : ¬ (A * 2^k * 2).log2 ≤ 2097) (hlt : k < j) : ¬ (A * 2^j).log2 ≤ 2097 := by
  intro hle
  have hp : A * 2^k * 2 ≠ 0 := by intro e; rw [e] at h; simp at h
  obtain ⟨d, rfl⟩ : ∃ d, j = k + 1 + d := ⟨j - k - 1, by omega⟩
  rw [Nat.pow_add, Nat.pow_succ, ← Nat.mul_assoc, ← Nat.mul_assoc, log2_mul_pow d hp] at hle
  omega

theorem div_step (Y k : Nat) : Y / 2^(k+1) = Y / 2^k / 2 := by rw [Nat.pow_succ, Nat.div_div_eq_div_mul]

theorem dvd_of_evens (Y : Nat) (j : Nat) (h : ∀ k, k < j → (Y / 2^k) % 2 = 0) : Y % 2^j = 0 := by
  induction j with
  | zero => simp [Nat.mod_one]
  | succ j ih =>
    have h1 := ih (fun k hk => h k (by omega))
    have h2 := h j (by omega)
    obtain ⟨q, hq⟩ := Nat.dvd_of_mod_eq_zero h1
    rw [hq, Nat.mul_div_cancel_left _ (Nat.two_pow_pos j)] at h2
    obtain ⟨r, hr⟩ := Nat.dvd_of_mod_eq_zero h2
    rw [hq, hr, ← Nat.mul_assoc, ← Nat.pow_succ]
    exact Nat.mul_mod_right _ _

theorem not_dvd_of_odd (Y k j : Nat) (hlt : k < j) (h : (Y / 2^k) % 2 = 1) : ¬ Y % 2^j = 0 := by
  intro e
  obtain ⟨q, hq⟩ := Nat.dvd_of_mod_eq_zero e
  obtain ⟨d, rfl⟩ : ∃ d, j = k + (d + 1) := ⟨j - k - 1, by omega⟩
  rw [hq, Nat.pow_add, Nat.mul_assoc, Nat.mul_div_cancel_left _ (Nat.two_pow_pos k), Nat.pow_succ, Nat.mul_comm (2^d), Nat.mul_assoc] at h
  omega

end Go.Proofs.Ytnhnaallalgefaa
