/- The walks of lit.Parts and of the reference's Parts. Conditions: as each theorem says. -/
import Derived.Test.YtopdkllbemgmlaaDoorLitG
namespace Go.Proofs.YtopdkllbemgmlaaDoor
open Go Go.RowKit Go.Proofs Fl

/-- a number as an odd whole number times a power of two -/
def PartsIs (s : Bool) (Z : Nat) (e : Ending) : Prop :=
  ∃ q j : Nat, e = .returned (.tuple #[.int .i64 (sg s q), .int .i64 ((j : Int) - 1074)]) ∧ q % 2 = 1 ∧ Z = q * 2^j

theorem wd_W (s : Bool) {E F : Nat} (h1 : 1 ≤ E) (h2 : E ≤ 2046) (hF : F < 4503599627370496) :
    wd s E F = W s ((4503599627370496 + F) * 2^(E - 1)) ∧ Rep ((4503599627370496 + F) * 2^(E - 1)) := by
  have hr : E * 4503599627370496 + F < 9218868437227405312 := by omega
  have hm : mag (E * 4503599627370496 + F) = (4503599627370496 + F) * 2^(E - 1) := by
    have h3 : ¬ (E * 4503599627370496 + F < 2^52) := by omega
    unfold mag mg ex
    simp only [h3, if_false]
    have e1 : (E * 4503599627370496 + F) % 2^52 = F := by omega
    have e2 : (E * 4503599627370496 + F) / 2^52 - 1 = E - 1 := by omega
    rw [e1, e2]
  rw [wd_word, ← W_mag, hm]
  exact ⟨rfl, by rw [← hm]; exact rep_mag hr⟩

/-- an odd number times a power of two -/
theorem odd_parts : ∀ M : Nat, M ≠ 0 → ∃ z r, M = 2^z * (2 * r + 1) := by
  intro M
  induction M using Nat.strongRecOn with
  | _ M ih =>
    intro h
    rcases Nat.mod_two_eq_zero_or_one M with h2 | h2
    · obtain ⟨z, r, e⟩ := ih (M / 2) (by omega) (by omega)
      refine ⟨z + 1, r, ?_⟩
      have : M = M / 2 * 2 := by omega
      rw [this, e, Nat.pow_succ, Nat.mul_right_comm]
    · exact ⟨0, M / 2, by simp; omega⟩

theorem parts_shift {Z M a b z r : Nat} (h : Z * 2^a = M * 2^b) (hM : M = 2^z * (2 * r + 1)) : ∃ j, j + a = z + b ∧ Z = (2 * r + 1) * 2^j := by
  rw [hM] at h
  have h1 : Z * 2^a = (2 * r + 1) * 2^(z + b) := by rw [h, Nat.pow_add, Nat.mul_comm (2^z), Nat.mul_assoc]
  by_cases hle : a ≤ z + b
  · refine ⟨z + b - a, by omega, ?_⟩
    have e : z + b = (z + b - a) + a := by omega
    rw [e, Nat.pow_add, ← Nat.mul_assoc] at h1
    exact Nat.eq_of_mul_eq_mul_right (Nat.two_pow_pos a) h1
  · obtain ⟨d, hd⟩ : ∃ d, a = d + 1 + (z + b) := ⟨a - (z + b) - 1, by omega⟩
    rw [hd, Nat.pow_add, ← Nat.mul_assoc] at h1
    have h2 := Nat.eq_of_mul_eq_mul_right (Nat.two_pow_pos (z + b)) h1
    rw [Nat.pow_succ, ← Nat.mul_assoc] at h2
    omega

theorem sg_mul_div (s : Bool) (z q : Nat) : sg s (2^z * q) / ((2^z : Nat) : Int) = sg s q := by
  have hp : ((2^z : Nat) : Int) ≠ 0 := by have := Nat.two_pow_pos z; omega
  unfold sg; split
  · rw [Int.natCast_mul, ← Int.mul_neg, Int.mul_ediv_cancel_left _ hp]
  · rw [Int.natCast_mul, Int.mul_ediv_cancel_left _ hp]

theorem u64_sg (s : Bool) (z r : Nat) (h : 2^z * (2 * r + 1) < 9223372036854775808) :
    ∃ m, 2^z * (2 * m + 1) < 18446744073709551616 ∧ IntKind.u64.wrap (sg s (2^z * (2 * r + 1))) = ((2^z * (2 * m + 1) : Nat) : Int) := by
  rw [IntKind.wrap_u64]
  cases s
  · exact ⟨r, by omega, by rw [sg_false]; omega⟩
  · have hz : z < 64 := by
      have h1 : 2^z ≤ 2^z * (2 * r + 1) := Nat.le_mul_of_pos_right _ (by omega)
      exact (Nat.pow_lt_pow_iff_right (a := 2) (by omega)).1 (show 2^z < 2^64 by omega)
    have hp := Nat.two_pow_pos z
    have e64 : 2^z * 2^(64 - z) = 18446744073709551616 := by rw [← Nat.pow_add, show z + (64 - z) = 64 by omega]
    have e64' : 2^z * (2 * 2^(63 - z)) = 18446744073709551616 := by
      rw [← e64, show 64 - z = 63 - z + 1 by omega, Nat.pow_succ, Nat.mul_comm (2^(63 - z))]
    have hlt : 2 * r + 1 < 2 * 2^(63 - z) := by
      refine Nat.lt_of_mul_lt_mul_left (a := 2^z) ?_
      omega
    refine ⟨2^(63 - z) - r - 1, ?_, ?_⟩
    · have : 2^z * (2 * (2^(63 - z) - r - 1) + 1) < 2^z * (2 * 2^(63 - z)) := Nat.mul_lt_mul_of_pos_left (by omega) hp
      omega
    · have : 2^z * (2 * (2^(63 - z) - r - 1) + 1) + 2^z * (2 * r + 1) = 2^z * (2 * 2^(63 - z)) := by
        rw [← Nat.mul_add]; congr 1; omega
      rw [sg_true]
      generalize 2^z * (2 * (2^(63 - z) - r - 1) + 1) = A at *
      have hb : 0 < 2^z * (2 * r + 1) := Nat.mul_pos hp (by omega)
      generalize 2^z * (2 * r + 1) = B at *
      omega

set_option maxHeartbeats 400000 in
theorem lparts_core (N Q x : Int) (z u b c d : Nat) (w : World) (hx : -3000 ≤ x) (hx2 : x ≤ 3000) (hz : z < 64)
    (hb : FloatKind.f64.format.order b 0 ≠ some .eq)
    (hf : ∀ w, Calls Tryd.prog 33 #[.float .f64 b] w fun e w' => e = .returned (.tuple #[.float .f64 c, .int .i64 x]) ∧ w = w')
    (hl : ∀ w, Calls Tryd.prog 29 #[.float .f64 c, .int .i64 53] w fun e w' => e = .returned (.float .f64 d) ∧ w = w')
    (c1 : ∀ w, (convert 22 2 (.float .f64 d)).run Tryd.prog w = .ok (.int .i64 N) w)
    (c2 : IntKind.u64.wrap N = (u : Int)) (c3 : N / 2^z = Q)
    (ht : Calls Tryd.prog 34 #[.int .u64 (u : Int)] w fun e w' => e = .returned (.int .i64 z) ∧ w = w') :
    Calls Tryd.prog 17 #[.float .f64 b] w fun e w' => e = .returned (.tuple #[.int .i64 Q, .int .i64 (x - 53 + z)]) ∧ w = w' := by
  have hb' : (FloatKind.f64.format.order b 0 == some .eq) = false := beq_eq_false_iff_ne.2 hb
  have HF := Lib.hid hf
  have HL := Lib.hid hl
  have HT := Lib.hid ht
  clear hf hl ht
  go_enter Tryd.func17, Tryd.ntmps17
  go_wp2_with (first | (go_at_call 33; refine (HF.out _).mono ?_; rintro x w' ⟨rfl, rfl⟩) | (go_at_call 29; refine (HL.out _).mono ?_; rintro x w' ⟨rfl, rfl⟩) | (go_at_call 34; refine HT.out.mono ?_; rintro x w' ⟨rfl, rfl⟩))
  go_ret2
  exact ⟨rfl, rfl⟩

theorem lparts_any (s : Bool) {Z : Nat} (hz : Rep Z) (h0 : Z ≠ 0) (w : World) (ht : TzTab w) :
    Calls Tryd.prog 17 #[.float .f64 (W s Z)] w fun e w' => PartsIs s Z e ∧ w = w' := by
  have hb : FloatKind.f64.format.order (W s Z) 0 ≠ some .eq := by
    have h1 := fo_eq s false hz rep_zero
    rw [W_zero, sg_zero, decide_eq_false (by rw [sg_eq_zero]; exact h0)] at h1
    exact beq_eq_false_iff_ne.1 h1
  have key : ∀ (F : Nat) (x : Int) (a b : Nat), F < 4503599627370496 → Z * 2^a = (4503599627370496 + F) * 2^b → (b : Int) - a = x + 1021 → a ≤ 52 → b ≤ 2045 →
      (∀ w, Calls Tryd.prog 33 #[.float .f64 (W s Z)] w fun e w' => e = .returned (.tuple #[.float .f64 (wd s 1022 F), .int .i64 x]) ∧ w = w') →
      Calls Tryd.prog 17 #[.float .f64 (W s Z)] w fun e w' => PartsIs s Z e ∧ w = w' := by
    intro F x a b hF hZ hx ha hb2 hf
    obtain ⟨E, hE⟩ : ∃ E : Nat, E = 1022 := ⟨_, rfl⟩
    rw [← hE] at hf
    obtain ⟨hW, hr⟩ := wd_W s (E := E) (by omega) (by omega) hF
    have hl : ∀ w, Calls Tryd.prog 29 #[.float .f64 (wd s E F), .int .i64 53] w fun e w' => e = .returned (.float .f64 (W s ((4503599627370496 + F) * 2^K))) ∧ w = w' := by
      intro w
      have := Ldexp_any s hr 53 (by omega) (by omega) w
      have e : ldx s ((4503599627370496 + F) * 2^(E - 1)) 53 = W s ((4503599627370496 + F) * 2^K) := by
        rw [ldx_parts, ← nearest_W s (rep_unit (by omega)), nearest_shift]
        congr 1; unfold K; omega
      rw [e, ← hW] at this
      exact this
    have hrK : Rep ((4503599627370496 + F) * 2^K) := rep_unit (by omega)
    have hM0 : 4503599627370496 + F ≠ 0 := by omega
    have hM53 : 4503599627370496 + F < 9007199254740992 := by omega
    clear hr hF
    generalize 4503599627370496 + F = M at *
    obtain ⟨z, r, hM⟩ := odd_parts M hM0
    obtain ⟨j, hj, hZj⟩ := parts_shift hZ hM
    obtain ⟨m, hm, hu⟩ := u64_sg s z r (by rw [← hM]; omega)
    rw [← hM] at hu
    have hzz : z < 64 := by
      have h1 : 2^z ≤ 2^z * (2 * r + 1) := Nat.le_mul_of_pos_right _ (by omega)
      exact (Nat.pow_lt_pow_iff_right (a := 2) (by omega)).1 (show 2^z < 2^64 by omega)
    have c1 : ∀ w, (convert 22 2 (.float .f64 (W s (M * 2^K)))).run Tryd.prog w = .ok (.int .i64 (sg s M)) w := by
      intro w
      have := toInt64_W s hrK (by rw [Nat.mul_div_cancel _ K_pos]; omega)
      rw [Nat.mul_div_cancel _ K_pos] at this
      exact run_convert_float_int (P := Tryd.prog) w 22 2 .f64 .i64 (W s (M * 2^K)) _ (by kernel_rfl) Tryd.underlying2 this
    have c3 : sg s M / 2^z = sg s (2 * r + 1) := by
      rw [hM, ← sg_mul_div s z (2 * r + 1), Int.natCast_pow]; rfl
    refine (lparts_core (sg s M) (sg s (2 * r + 1)) x z _ (W s Z) _ _ w (by omega) (by omega) hzz hb hf hl c1 hu c3 (tz_any z m hm w ht)).mono ?_
    rintro e w' ⟨rfl, rfl⟩
    refine ⟨⟨2 * r + 1, j, ?_, by omega, hZj⟩, rfl⟩
    rw [show x - 53 + (z : Int) = (j : Int) - 1074 by omega]
  obtain ⟨F, x, a, b, q1, q2, q3, q4, q5, q6⟩ := Frexp_any s hz h0
  exact key F x a b q1 q2 q3 q4 q5 q6
end Go.Proofs.YtopdkllbemgmlaaDoor
