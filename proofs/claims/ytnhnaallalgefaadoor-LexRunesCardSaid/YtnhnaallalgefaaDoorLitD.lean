/- The walk of math.Ldexp at a finite float: the float nearest to it times a power of two. Conditions: the power lies between -10000 and 10000. -/
import Derived.Test.YtnhnaallalgefaaDoorLitC
namespace Go.Proofs.YtnhnaallalgefaaDoor
open Go Go.RowKit Go.Proofs Fl

theorem i64_and_nat (a b : Nat) (ha : a < 9223372036854775808) (hb : b < 9223372036854775808) : bits .and .i64 (a : Int) (b : Int) = ((a &&& b : Nat) : Int) := by
  have e : ∀ n : Nat, n < 9223372036854775808 → (BitVec.ofInt 64 (n : Int)).toNat = n := by
    intro n hn; rw [BitVec.toNat_ofInt]; omega
  have h1 : a &&& b ≤ b := Nat.and_le_right
  have : bits .and .i64 (a : Int) (b : Int) = IntKind.i64.wrap (((BitVec.ofInt 64 (a : Int)) &&& (BitVec.ofInt 64 (b : Int))).toNat : Int) := rfl
  rw [this, BitVec.toNat_and, e a ha, e b hb]
  exact IntWalk.i64_in _ (by omega)

theorem ld_exp (s : Bool) {E F : Nat} (hE : E < 2048) (hF : F < 4503599627370496) :
    bits .and .i64 (wrap64 (((wd s E F : Nat) : Int) / 4503599627370496)) 2047 = (E : Int) := by
  have h1 := wd_lt s hE hF
  have e : wrap64 (((wd s E F : Nat) : Int) / 4503599627370496) = ((wd s E F / 4503599627370496 : Nat) : Int) := by
    rw [IntWalk.wrap64_in _ (by omega)]; omega
  rw [e]
  have := i64_and_nat (wd s E F / 4503599627370496) 2047 (by omega) (by omega)
  rw [nat_mask11, wd_shr s hE hF] at this
  exact this

theorem ld_unexp (s : Bool) {E F : Nat} (hE : E < 2048) (hF : F < 4503599627370496) :
    bits .andNot .u64 ((wd s E F : Nat) : Int) 9218868437227405312 = ((wd s 0 F : Nat) : Int) := by
  have := andNot_c (wd s E F) 9218868437227405312 9227875636482146303 (wd_lt s hE hF) (by omega)
  rw [and_unexp s hE hF] at this
  exact this

theorem ld_or (s : Bool) {E F : Nat} (hE : E < 2048) (hF : F < 4503599627370496) :
    bits .or .u64 ((wd s 0 F : Nat) : Int) ((E : Int) * 4503599627370496) = ((wd s E F : Nat) : Int) := by
  have := u64_or_nat (wd s 0 F) (E * 4503599627370496) (wd_lt s (by omega) hF) (by omega)
  rw [or_exp s hE hF] at this
  refine Eq.trans ?_ this
  congr 1

theorem ld_under (s : Bool) {E F : Nat} (hE1 : 1 ≤ E) (hF : F < 4503599627370496) (k : Int) (h : k + (E - 1023) < -1075) :
    ldx s ((4503599627370496 + F) * 2^(E - 1)) k = W s 0 := by
  rw [ldx_parts]
  exact nearest_small s (by omega) _ (by omega)

theorem ld_over (s : Bool) {E F : Nat} (hE1 : 1 ≤ E) (hF : F < 4503599627370496) (k : Int) (h : 1023 < k + (E - 1023)) :
    ldx s ((4503599627370496 + F) * 2^(E - 1)) k = infw s := by
  rw [ldx_parts]
  obtain ⟨j, hj⟩ : ∃ j : Nat, k + (E - 1 : Nat) = j := ⟨(k + (E - 1 : Nat)).toNat, by omega⟩
  rw [show -1074 + k + ((E - 1 : Nat) : Int) = -1074 + (j : Int) by omega, ← nearest_shift]
  refine nearest_over s ?_
  have hl : (4503599627370496 + F).log2 = 52 := by rw [Nat.log2_eq_iff (by omega)]; omega
  rw [log2_mul_pow j (by omega), hl]; omega

theorem ld_last (s : Bool) {E F : Nat} (hE1 : 1 ≤ E) (hF : F < 4503599627370496) (k c : Int) (m : Nat) (p : Int) (hm : Ieee.double.read m = .number false 4503599627370496 p)
    (hp : p + 52 + c = 0) (h1 : -1022 ≤ k + (E - 1023) + c) (h2 : k + (E - 1023) + c ≤ 1023) :
    floatBits .mul .f64 m (bits .or .u64 ((wd s 0 F : Nat) : Int) ((k + (E - 1023) + c + 1023) * 4503599627370496)).toNat
      = some (ldx s ((4503599627370496 + F) * 2^(E - 1)) k) := by
  obtain ⟨E', hE', b1, b2⟩ : ∃ E' : Nat, k + (E - 1023) + c + 1023 = E' ∧ 1 ≤ E' ∧ E' ≤ 2046 := ⟨(k + (E - 1023) + c + 1023).toNat, by omega, by omega, by omega⟩
  rw [hE', ld_or s (by omega) hF, Int.toNat_natCast]
  have := mul_pow_l m p hm _ s _ _ (read_wd s b1 b2 hF)
  refine Eq.trans this ?_
  rw [ldx_parts]
  congr 2
  omega

set_option maxHeartbeats 400000 in
theorem ldexp_core (s : Bool) (Z Y : Nat) (e : Int) (hz : Rep Z) (h0 : Z ≠ 0) (hy : Rep Y) (hl : 4503599627370496 ≤ Y) (he : -52 ≤ e) (he2 : e ≤ 0)
    (hn : ∀ w, Calls Tryd.prog 105 #[.float .f64 (W s Z)] w fun x w' => x = .returned (.tuple #[.float .f64 (W s Y), .int .i64 e]) ∧ w = w')
    (k : Int) (hk : -10000 ≤ k) (hk2 : k ≤ 10000) (w : World) :
    Calls Tryd.prog 93 #[.float .f64 (W s Z), .int .i64 k] w fun x w' => x = .returned (.float .f64 (ldx s Y (k + e))) ∧ w = w' := by
  have h1 := fo_eq s false hz rep_zero
  rw [W_zero, sg_zero, decide_eq_false (by rw [sg_eq_zero]; exact h0)] at h1
  have h1' := beq_eq_false_iff_ne.1 h1
  obtain ⟨E, F, hE1, hE2, hF, hW, hZ⟩ := W_wd s hy hl
  have c1 := run_f64bits
  have c2 := run_f64from
  have f1 := ld_exp s (show E < 2048 by omega) hF
  have f2 := ld_unexp s (show E < 2048 by omega) hF
  rw [← hW] at f1 f2
  have HW := Lib.hid hW
  have HZ := Lib.hid hZ
  have HN := Lib.hid hn
  clear hW hZ hn
  go_enter Tryd.func93, Tryd.ntmps93
  go_wp2_with (first | (go_at_call 67; refine (isinf_W s hz _).mono ?_; rintro x w' ⟨rfl, rfl⟩) | (go_at_call 104; refine (isnan_W s hz _).mono ?_; rintro x w' ⟨rfl, rfl⟩) | (go_at_call 105; refine (HN.out _).mono ?_; rintro x w' ⟨rfl, rfl⟩))
  · have hv := ld_under s hE1 hF (k + e) (by omega)
    rw [← HZ.out] at hv
    have HV := Lib.hid hv
    clear hv
    refine (copysign_zero s hy _).mono ?_
    rintro x w' ⟨rfl, rfl⟩
    go_wp2
    go_ret
    exact ⟨by rw [HV.out]; rfl, rfl⟩
  all_goals try
    have hv := ld_over s hE1 hF (k + e) (by omega)
    rw [← HZ.out] at hv
    have HV := Lib.hid hv
    have h3 := fo_lt s false hy rep_zero
    rw [W_zero, sg_zero] at h3
    have hs : (FloatKind.f64.format.order (W s Y) 0 == some .lt) = s := by
      rw [h3]; have := rep_le hy; cases s
      · exact decide_eq_false (by rw [sg_false]; omega)
      · exact decide_eq_true (by rw [sg_true]; omega)
    clear hv h3
  · have h10 : ((-1) : Int) = if s then -1 else 1 := by
      have h9 : (FloatKind.f64.format.order (W s Y) 0 == some .lt) = true := by assumption
      rw [hs] at h9
      rw [h9]; rfl
    refine (inf_any s (-1) h10 _).mono ?_
    clear h10 hs
    rintro x w' ⟨rfl, rfl⟩
    go_wp2
    go_ret
    exact ⟨by rw [HV.out]; rfl, rfl⟩
  · have h10 : (1 : Int) = if s then -1 else 1 := by
      have h9 : (FloatKind.f64.format.order (W s Y) 0 == some .lt) = false := by assumption
      rw [hs] at h9
      rw [h9]; rfl
    refine (inf_any s 1 h10 _).mono ?_
    clear h10 hs
    rintro x w' ⟨rfl, rfl⟩
    go_wp2
    go_ret
    exact ⟨by rw [HV.out]; rfl, rfl⟩
  · have hv := ld_last s hE1 hF (k + e) 53 _ _ read_m53 (by omega) (by omega) (by omega)
    rw [← HZ.out] at hv
    have hr := run_float_arith (P := Tryd.prog) w .mul 22 .f64 _ _ _ hv
    clear hv
    rw [hr]
    clear hr
    go_wp2
    go_ret
    exact ⟨rfl, rfl⟩
  · have hv := ld_last s hE1 hF (k + e) 0 _ _ read_one (by omega) (by omega) (by omega)
    rw [← HZ.out, Int.add_zero] at hv
    have hr := run_float_arith (P := Tryd.prog) w .mul 22 .f64 _ _ _ hv
    clear hv
    rw [hr]
    clear hr
    go_wp2
    go_ret
    exact ⟨rfl, rfl⟩

/-- math.ldexp of a number that is not 0 -/
theorem ldexp_any (s : Bool) (Z : Nat) (hz : Rep Z) (h0 : Z ≠ 0) (k : Int) (hk : -10000 ≤ k) (hk2 : k ≤ 10000) (w : World) :
    Calls Tryd.prog 93 #[.float .f64 (W s Z), .int .i64 k] w fun x w' => x = .returned (.float .f64 (ldx s Z k)) ∧ w = w' := by
  by_cases hl : 4503599627370496 ≤ Z
  · have := ldexp_core s Z Z 0 hz h0 hz hl (by omega) (by omega) (fun w => norm_nrm s hz hl w) k hk hk2 w
    rwa [Int.add_zero] at this
  · have hl : Z < 4503599627370496 := by omega
    have := ldexp_core s Z (Z * 2^52) (-52) hz h0 (mul_p52 s hz hl).1 (by omega) (by omega) (by omega) (fun w => norm_sub s hz hl w) k hk hk2 w
    rw [ldx_shift, show k + -52 + ((52 : Nat) : Int) = k by omega] at this
    exact this

set_option maxHeartbeats 400000 in
theorem ldexp_zero (s : Bool) (k : Int) (w : World) :
    Calls Tryd.prog 93 #[.float .f64 (W s 0), .int .i64 k] w fun x w' => x = .returned (.float .f64 (W s 0)) ∧ w = w' := by
  have h1 : FloatKind.f64.format.order (W s 0) 0 = some .eq := by
    have := order_W s false rep_zero rep_zero
    rw [sg_zero, sg_zero, cmp_eq, W_zero] at this; exact this
  go_enter Tryd.func93, Tryd.ntmps93
  go_wp2
  go_ret
  exact ⟨rfl, rfl⟩

theorem ldx_zero (s : Bool) (k : Int) : ldx s 0 k = W s 0 := by simp [ldx, Ieee.Format.nearest, W, rung]

set_option maxHeartbeats 400000 in
theorem Ldexp_any (s : Bool) {Z : Nat} (hz : Rep Z) (k : Int) (hk : -10000 ≤ k) (hk2 : k ≤ 10000) (w : World) :
    Calls Tryd.prog 66 #[.float .f64 (W s Z), .int .i64 k] w fun x w' => x = .returned (.float .f64 (ldx s Z k)) ∧ w = w' := by
  have hc : ∀ w, Calls Tryd.prog 93 #[.float .f64 (W s Z), .int .i64 k] w fun x w' => x = .returned (.float .f64 (ldx s Z k)) ∧ w = w' := by
    intro w
    by_cases h0 : Z = 0
    · subst h0; rw [ldx_zero]; exact ldexp_zero s k w
    · exact ldexp_any s Z hz h0 k hk hk2 w
  have HC := Lib.hid hc
  clear hc hk hk2 hz
  go_enter Tryd.func66, Tryd.ntmps66
  go_wp2_with (go_at_call 93; refine (HC.out _).mono ?_; rintro x w' ⟨rfl, rfl⟩)
  go_ret
  exact ⟨rfl, rfl⟩
end Go.Proofs.YtnhnaallalgefaaDoor
