/- Walks of math.Frexp and math/bits.TrailingZeros64. Conditions: as each theorem says; the table of the latter's reads as its text lays it. -/
import Derived.Test.YtopdkllbemgmlaaDoorLitF
import Derived.Lib.TrailingZeros
namespace Go.Proofs.YtopdkllbemgmlaaDoor
open Go Go.RowKit Go.Proofs Fl

theorem u64_exp (s : Bool) {E F : Nat} (hE : E < 2048) (hF : F < 4503599627370496) :
    bits .and .u64 (((wd s E F : Nat) : Int) / 4503599627370496) 2047 = (E : Int) := by
  have h1 := wd_lt s hE hF
  have := u64_and_nat (wd s E F / 4503599627370496) 2047 (by omega) (by omega)
  rw [nat_mask11, wd_shr s hE hF] at this
  exact this

theorem fr_or (s : Bool) {F : Nat} (hF : F < 4503599627370496) :
    bits .or .u64 ((wd s 0 F : Nat) : Int) 4602678819172646912 = ((wd s 1022 F : Nat) : Int) := by
  have := ld_or s (E := 1022) (by omega) hF
  exact this

/-- a float as a fraction from 1/2 on and a power of two -/
def FrexpTells (f : Nat) (s : Bool) (Z : Nat) : Prop :=
  ∃ (F : Nat) (x : Int) (a b : Nat), F < 4503599627370496 ∧ Z * 2^a = (4503599627370496 + F) * 2^b ∧ (b : Int) - a = x + 1021 ∧ a ≤ 52 ∧ b ≤ 2045 ∧
    ∀ w, Calls Tryd.prog f #[.float .f64 (W s Z)] w fun e w' => e = .returned (.tuple #[.float .f64 (wd s 1022 F), .int .i64 x]) ∧ w = w'

set_option maxHeartbeats 400000 in
theorem frexp_walk (s : Bool) (Z Y a E F : Nat) (hz : Rep Z) (h0 : Z ≠ 0) (ha : a ≤ 52)
    (hE1 : 1 ≤ E) (hE2 : E ≤ 2046) (hF : F < 4503599627370496) (hW : W s Y = wd s E F) (x : Int) (hx : x = -(a : Int) + (E - 1023 + 1))
    (hn : ∀ w, Calls Tryd.prog 43 #[.float .f64 (W s Z)] w fun x w' => x = .returned (.tuple #[.float .f64 (W s Y), .int .i64 (-(a : Int))]) ∧ w = w') (w : World) :
    Calls Tryd.prog 41 #[.float .f64 (W s Z)] w fun e w' => e = .returned (.tuple #[.float .f64 (wd s 1022 F), .int .i64 x]) ∧ w = w' := by
  have h1 := fo_eq s false hz rep_zero
  rw [W_zero, sg_zero, decide_eq_false (by rw [sg_eq_zero]; exact h0)] at h1
  have h1' := beq_eq_false_iff_ne.1 h1
  have c1 := run_f64bits
  have c2 := run_f64from
  have f1 := u64_exp s (show E < 2048 by omega) hF
  have f2 := ld_unexp s (show E < 2048 by omega) hF
  have f3 := fr_or s hF
  rw [← hW] at f1 f2
  have HX := Lib.hid hx
  have HN := Lib.hid hn
  clear hW hn hx
  go_enter Tryd.func41, Tryd.ntmps41
  go_wp2_with (first | (go_at_call 30; refine (isinf_W s hz _).mono ?_; rintro x w' ⟨rfl, rfl⟩) | (go_at_call 42; refine (isnan_W s hz _).mono ?_; rintro x w' ⟨rfl, rfl⟩) | (go_at_call 43; refine (HN.out _).mono ?_; rintro x w' ⟨rfl, rfl⟩))
  go_ret2
  exact ⟨by rw [HX.out]; rfl, rfl⟩

theorem frexp_core (s : Bool) (Z Y a : Nat) (hz : Rep Z) (h0 : Z ≠ 0) (hy : Rep Y) (hl : 4503599627370496 ≤ Y) (ha : a ≤ 52) (hYZ : Y = Z * 2^a)
    (hn : ∀ w, Calls Tryd.prog 43 #[.float .f64 (W s Z)] w fun x w' => x = .returned (.tuple #[.float .f64 (W s Y), .int .i64 (-(a : Int))]) ∧ w = w') :
    FrexpTells 41 s Z := by
  obtain ⟨E, F, hE1, hE2, hF, hW, hZ⟩ := W_wd s hy hl
  exact ⟨F, -(a : Int) + (E - 1023 + 1), a, E - 1, hF, by rw [← hYZ]; exact hZ, by omega, ha, by omega, frexp_walk s Z Y a E F hz h0 ha hE1 hE2 hF hW _ rfl hn⟩

theorem frexp_any (s : Bool) {Z : Nat} (hz : Rep Z) (h0 : Z ≠ 0) : FrexpTells 41 s Z := by
  by_cases hl : 4503599627370496 ≤ Z
  · exact frexp_core s Z Z 0 hz h0 hz hl (by omega) (by simp) (fun w => by simpa using norm_nrm s hz hl w)
  · have hl : Z < 4503599627370496 := by omega
    exact frexp_core s Z (Z * 2^52) 52 hz h0 (mul_p52 s hz hl).1 (by omega) (by omega) rfl (fun w => norm_sub s hz hl w)

set_option maxHeartbeats 400000 in
theorem Frexp_walk (b c : Nat) (x : Int) (hn : ∀ w, Calls Tryd.prog 41 #[.float .f64 b] w fun e w' => e = .returned (.tuple #[.float .f64 c, .int .i64 x]) ∧ w = w') (w : World) :
    Calls Tryd.prog 33 #[.float .f64 b] w fun e w' => e = .returned (.tuple #[.float .f64 c, .int .i64 x]) ∧ w = w' := by
  have HN := Lib.hid hn
  clear hn
  go_enter Tryd.func33, Tryd.ntmps33
  go_wp2_with (go_at_call 41; refine (HN.out _).mono ?_; rintro x w' ⟨rfl, rfl⟩)
  go_ret2
  exact ⟨rfl, rfl⟩

theorem Frexp_any (s : Bool) {Z : Nat} (hz : Rep Z) (h0 : Z ≠ 0) : FrexpTells 33 s Z := by
  obtain ⟨F, x, a, b, h1, h2, h3, h4, h5, h6⟩ := frexp_any s hz h0
  exact ⟨F, x, a, b, h1, h2, h3, h4, h5, Frexp_walk _ _ _ h6⟩

theorem tz_core (u p i : Nat) (z : Int) (h0 : ((u : Int) == 0) = false) (w : World)
    (hf : bits .and .u64 (u : Int) (IntKind.u64.wrap (-(u : Int))) = (p : Int)) (hi : IntKind.u64.wrap ((p : Int) * 285870213051353865) / 288230376151711744 = (i : Int)) (h64 : i < 64)
    (hc : w.cell? ⟨1, i, none⟩ = some (.int .u8 z)) (hz : 0 ≤ z) (hz2 : z < 64) :
    Calls Tryd.prog 34 #[.int .u64 u] w fun x w' => x = .returned (.int .i64 z) ∧ w = w' := by
  go_enter Tryd.func34, Tryd.ntmps34
  go_wp2
  go_ret
  exact ⟨rfl, rfl⟩

/-- the table of math/bits, as its text lays it -/
def TzTab (w : World) : Prop := ∀ i, i < 64 → w.cell? ⟨1, i, none⟩ = some (.int .u8 ((Lib.deBruijn64tab.getD i 0 : Nat) : Int))

theorem cast3 (p a b c : Nat) : ((p : Int) * (a : Int)) % (b : Int) / (c : Int) = ((p * a % b / c : Nat) : Int) := by
  rw [Int.natCast_ediv, Int.natCast_emod, Int.natCast_mul]

theorem tz_any (k m : Nat) (h : 2^k * (2 * m + 1) < 18446744073709551616) (w : World) (ht : TzTab w) :
    Calls Tryd.prog 34 #[.int .u64 ((2^k * (2 * m + 1) : Nat) : Int)] w fun x w' => x = .returned (.int .i64 k) ∧ w = w' := by
  have hk : k < 64 := by
    have h1 : 2^k ≤ 2^k * (2 * m + 1) := Nat.le_mul_of_pos_right _ (by omega)
    have h2 : 2^k < 2^64 := by omega
    exact (Nat.pow_lt_pow_iff_right (by omega)).1 h2
  have hn := Lib.and_neg 64 k m (by omega)
  have hp : 0 < 2^k * (2 * m + 1) := Nat.mul_pos (Nat.two_pow_pos k) (by omega)
  obtain ⟨d1, d2⟩ := Lib.deBruijn64_at k hk
  have hp64 : 2^k < 2^64 := Nat.pow_lt_pow_right (by omega) hk
  generalize 2^k * (2 * m + 1) = u at *
  generalize 2^k = p at *
  refine tz_core u p (p * 285870213051353865 % 18446744073709551616 / 288230376151711744) k (beq_eq_false_iff_ne.2 (by omega)) w ?_ ?_ d1 ?_ (by omega) (by omega)
  · rw [IntKind.wrap_u64]
    have e : (-(u : Int)) % 18446744073709551616 = ((2^64 - u : Nat) : Int) := by omega
    rw [e, u64_and_nat u (2^64 - u) h (by omega), hn]
  · rw [IntKind.wrap_u64]; exact cast3 p _ _ _
  · rw [ht _ d1, d2]

end Go.Proofs.YtopdkllbemgmlaaDoor
