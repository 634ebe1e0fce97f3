/- Walks of lit.Scale and of the reference's Scale: both tell the same. Conditions: none. -/
import Derived.Test.YtnhnaallalgefaaDoorLitD
import Derived.Test.YtnhnaallalgefaaDoorScl
namespace Go.Proofs.YtnhnaallalgefaaDoor
open Go Go.RowKit Go.Proofs Fl

/-- what Scale hands back -/
def scaleV (n p : Int) : Value := .tuple #[.float .f64 ((scaleS n p).getD 0), .bool (scaleS n p).isSome]

theorem scaleV_no {n p : Int} (h : scaleS n p = none) : scaleV n p = .tuple #[.float .f64 0, .bool false] := by unfold scaleV; rw [h]; rfl
theorem scaleV_yes {n p : Int} {b : Nat} (h : scaleS n p = some b) : scaleV n p = .tuple #[.float .f64 b, .bool true] := by unfold scaleV; rw [h]; rfl

theorem nat_of (n : Int) : ∃ m, n.natAbs = m ∧ n = sg (decide (n < 0)) m := by
  refine ⟨_, rfl, ?_⟩
  unfold sg; by_cases h : n < 0 <;> simp [h] <;> omega

theorem fo_refl (s : Bool) {Z : Nat} (hz : Rep Z) : FloatKind.f64.format.order (W s Z) (W s Z) = some .eq := by
  have := order_W s s hz hz
  rw [cmp_eq] at this; exact this

set_option maxHeartbeats 400000 in
theorem lscale_out (n p : Int) (h : ¬ (n.natAbs ≤ 9007199254740992 ∧ -2000 ≤ p ∧ p ≤ 2000)) (w : World) :
    Calls Tryd.prog 21 #[.int .i64 n, .int .i64 p] w fun x w' => x = .returned (scaleV n p) ∧ w = w' := by
  rw [scaleV_no (show scaleS n p = none from if_neg h)]
  by_cases h1 : 9007199254740992 < n
  · clear h
    go_enter Tryd.func21, Tryd.ntmps21
    go_wp2
    go_ret2
    exact ⟨rfl, rfl⟩
  · by_cases h2 : n < -9007199254740992
    · clear h
      go_enter Tryd.func21, Tryd.ntmps21
      go_wp2
      go_ret2
      exact ⟨rfl, rfl⟩
    · by_cases h3 : 2000 < p
      · clear h
        go_enter Tryd.func21, Tryd.ntmps21
        go_wp2
        go_ret2
        exact ⟨rfl, rfl⟩
      · have h4 : p < -2000 := by omega
        clear h
        go_enter Tryd.func21, Tryd.ntmps21
        go_wp2
        go_ret2
        exact ⟨rfl, rfl⟩

set_option maxHeartbeats 400000 in
/-- lit.Scale by what Ldexp gives there and back -/
theorem lscale_back (n p : Int) (s : Bool) (m X : Nat) (hm : m ≤ 9007199254740992) (hn : floatOfInt .f64 n = W s (m * 2^K)) (hn1 : -9007199254740992 ≤ n) (hn2 : n ≤ 9007199254740992)
    (hp1 : -2000 ≤ p) (hp2 : p ≤ 2000) (hX : Rep X) (h1 : ldx s (m * 2^K) p = W s X) (h2 : ldx s X (-p) = W s (m * 2^K)) (w : World) :
    Calls Tryd.prog 21 #[.int .i64 n, .int .i64 p] w fun x w' => x = .returned (.tuple #[.float .f64 (tid s X), .bool true]) ∧ w = w' := by
  have c1 : ∀ w, Calls Tryd.prog 66 #[.float .f64 (W s (m * 2^K)), .int .i64 p] w fun x w' => x = .returned (.float .f64 (W s X)) ∧ w = w' := by
    intro w; have := Ldexp_any s (rep_unit hm) p (by omega) (by omega) w; rwa [h1] at this
  have c2 : ∀ w, Calls Tryd.prog 66 #[.float .f64 (W s X), .int .i64 (-p)] w fun x w' => x = .returned (.float .f64 (W s (m * 2^K))) ∧ w = w' := by
    intro w; have := Ldexp_any s hX (-p) (by omega) (by omega) w; rwa [h2] at this
  have h3 := fo_refl s (rep_unit hm)
  have C1 := Lib.hid c1
  have C2 := Lib.hid c2
  clear h1 h2 hm c1 c2
  generalize W s (m * 2^K) = b at *
  go_enter Tryd.func21, Tryd.ntmps21
  go_wp2_with fail
  refine (C1.out _).mono ?_
  rintro x w' ⟨rfl, rfl⟩
  go_wp2_with fail
  refine (isinf_W s hX _).mono ?_
  rintro x w' ⟨rfl, rfl⟩
  go_wp2_with fail
  refine (C2.out _).mono ?_
  rintro x w' ⟨rfl, rfl⟩
  go_wp2_with fail
  refine (ntidy_num s hX _).mono ?_
  rintro x w' ⟨rfl, rfl⟩
  go_wp2_with fail
  go_ret2
  exact ⟨rfl, rfl⟩

set_option maxHeartbeats 400000 in
theorem lscale_inf (n p : Int) (s : Bool) (m : Nat) (hm : m ≤ 9007199254740992) (hn : floatOfInt .f64 n = W s (m * 2^K)) (hn1 : -9007199254740992 ≤ n) (hn2 : n ≤ 9007199254740992)
    (hp1 : -2000 ≤ p) (hp2 : p ≤ 2000) (h1 : ldx s (m * 2^K) p = infw s) (w : World) :
    Calls Tryd.prog 21 #[.int .i64 n, .int .i64 p] w fun x w' => x = .returned (.tuple #[.float .f64 0, .bool false]) ∧ w = w' := by
  have c1 : ∀ w, Calls Tryd.prog 66 #[.float .f64 (W s (m * 2^K)), .int .i64 p] w fun x w' => x = .returned (.float .f64 (infw s)) ∧ w = w' := by
    intro w; have := Ldexp_any s (rep_unit hm) p (by omega) (by omega) w; rwa [h1] at this
  have C1 := Lib.hid c1
  clear h1 hm c1
  generalize W s (m * 2^K) = b at *
  go_enter Tryd.func21, Tryd.ntmps21
  go_wp2_with fail
  refine (C1.out _).mono ?_
  rintro x w' ⟨rfl, rfl⟩
  go_wp2_with fail
  refine (isinf_inf s _).mono ?_
  rintro x w' ⟨rfl, rfl⟩
  go_wp2_with fail
  go_ret2
  exact ⟨rfl, rfl⟩

set_option maxHeartbeats 400000 in
theorem lscale_not (n p : Int) (s : Bool) (m X Y : Nat) (hm : m ≤ 9007199254740992) (hn : floatOfInt .f64 n = W s (m * 2^K)) (hn1 : -9007199254740992 ≤ n) (hn2 : n ≤ 9007199254740992)
    (hp1 : -2000 ≤ p) (hp2 : p ≤ 2000) (hX : Rep X) (hY : Rep Y) (h1 : ldx s (m * 2^K) p = W s X) (h2 : ldx s X (-p) = W s Y) (hne : Y ≠ m * 2^K) (w : World) :
    Calls Tryd.prog 21 #[.int .i64 n, .int .i64 p] w fun x w' => x = .returned (.tuple #[.float .f64 0, .bool false]) ∧ w = w' := by
  have c1 : ∀ w, Calls Tryd.prog 66 #[.float .f64 (W s (m * 2^K)), .int .i64 p] w fun x w' => x = .returned (.float .f64 (W s X)) ∧ w = w' := by
    intro w; have := Ldexp_any s (rep_unit hm) p (by omega) (by omega) w; rwa [h1] at this
  have c2 : ∀ w, Calls Tryd.prog 66 #[.float .f64 (W s X), .int .i64 (-p)] w fun x w' => x = .returned (.float .f64 (W s Y)) ∧ w = w' := by
    intro w; have := Ldexp_any s hX (-p) (by omega) (by omega) w; rwa [h2] at this
  have h3 := fo_eq s s hY (rep_unit hm)
  rw [decide_eq_false (by rw [sg_inj]; exact hne)] at h3
  have h3' := beq_eq_false_iff_ne.1 h3
  have h3n : (FloatKind.f64.format.order (W s Y) (W s (m * 2^K)) != some .eq) = true := by rw [bne, h3]; rfl
  have C1 := Lib.hid c1
  have C2 := Lib.hid c2
  clear h1 h2 hm c1 c2 hne hY
  generalize W s (m * 2^K) = b at *
  generalize W s Y = y at *
  go_enter Tryd.func21, Tryd.ntmps21
  go_wp2_with fail
  refine (C1.out _).mono ?_
  rintro x w' ⟨rfl, rfl⟩
  go_wp2_with fail
  refine (isinf_W s hX _).mono ?_
  rintro x w' ⟨rfl, rfl⟩
  go_wp2_with fail
  refine (C2.out _).mono ?_
  rintro x w' ⟨rfl, rfl⟩
  go_wp2_with fail
  go_ret2
  exact ⟨rfl, rfl⟩

theorem lscale_any (n p : Int) (w : World) :
    Calls Tryd.prog 21 #[.int .i64 n, .int .i64 p] w fun x w' => x = .returned (scaleV n p) ∧ w = w' := by
  by_cases h : n.natAbs ≤ 9007199254740992 ∧ -2000 ≤ p ∧ p ≤ 2000
  · obtain ⟨m, hm, hn⟩ := nat_of n
    obtain ⟨h1, h2, h3⟩ := h
    have hf : floatOfInt .f64 n = W (decide (n < 0)) (m * 2^K) := by rw [← hm]; exact ofInt n h1
    by_cases h0 : n = 0
    · subst h0
      obtain rfl : m = 0 := by simpa using hm.symm
      have hb := lscale_back 0 p false 0 0 (by omega) (by simpa using hf) (by omega) (by omega) h2 h3 rep_zero (by rw [Nat.zero_mul, ldx_zero]) (by rw [Nat.zero_mul, ldx_zero]) w
      have hs : scaleS 0 p = some 0 := by unfold scaleS; rw [if_pos ⟨by simp, h2, h3⟩, if_pos rfl]
      rw [scaleV_yes hs]
      exact hb
    · have hs : scaleS n p = (scaleOk m p).map (W (decide (n < 0))) := by
        unfold scaleS; rw [if_pos ⟨h1, h2, h3⟩, if_neg h0, hm]
      have hm0 : m ≠ 0 := by rw [← hm]; omega
      have hm' : m ≤ 9007199254740992 := by rw [← hm]; exact h1
      have hmp : 0 < m * 2^K := Nat.mul_pos (by omega) K_pos
      by_cases hp : 0 ≤ p
      · obtain ⟨j, rfl⟩ := Int.eq_ofNat_of_zero_le hp
        by_cases hl : (m * 2^K * 2^j).log2 ≤ 2097
        · obtain ⟨a1, a2, a3⟩ := up_fits (decide (n < 0)) hm' j hl
          have hv : scaleS n j = some (W (decide (n < 0)) (m * 2^K * 2^j)) := by
            rw [hs]; unfold scaleOk; rw [if_pos hp, Int.toNat_natCast, if_pos hl]; rfl
          rw [scaleV_yes hv]
          have := lscale_back n j _ m _ hm' hf (by omega) (by omega) h2 h3 a1 a2 a3 w
          rwa [tid, if_neg (by have := Nat.mul_pos hmp (Nat.two_pow_pos j); omega)] at this
        · have hv : scaleS n j = none := by
            rw [hs]; unfold scaleOk; rw [if_pos hp, Int.toNat_natCast, if_neg hl]; rfl
          rw [scaleV_no hv]
          exact lscale_inf n j _ m hm' hf (by omega) (by omega) h2 h3 (up_not _ j hl) w
      · obtain ⟨j, hj⟩ := Int.eq_ofNat_of_zero_le (show 0 ≤ -p by omega)
        obtain rfl : p = -(j : Int) := by omega
        by_cases hl : m * 2^K % 2^j = 0
        · obtain ⟨a1, a2, a3⟩ := down_fits (decide (n < 0)) hm' j hl
          have hv : scaleS n (-j) = some (W (decide (n < 0)) (m * 2^K / 2^j)) := by
            rw [hs]; unfold scaleOk; rw [if_neg hp, hj, Int.toNat_natCast, if_pos hl]; rfl
          rw [scaleV_yes hv]
          have := lscale_back n (-j) _ m _ hm' hf (by omega) (by omega) h2 h3 a1 a2 (by rw [hj]; exact a3) w
          rwa [tid, if_neg (by
            intro e
            have := Nat.div_mul_cancel (Nat.dvd_of_mod_eq_zero hl)
            rw [e, Nat.zero_mul] at this; omega)] at this
        · have hv : scaleS n (-j) = none := by
            rw [hs]; unfold scaleOk; rw [if_neg hp, hj, Int.toNat_natCast, if_neg hl]; rfl
          rw [scaleV_no hv]
          obtain ⟨R, b1, b2, b3, b4, b5, b6⟩ := down_not (decide (n < 0)) hm' j (by omega) hl
          exact lscale_not n (-j) _ m R _ hm' hf (by omega) (by omega) h2 h3 b3 b4 b2 (by rw [hj]; exact b5) b6 w
  · exact lscale_out n p h w
end Go.Proofs.YtnhnaallalgefaaDoor
