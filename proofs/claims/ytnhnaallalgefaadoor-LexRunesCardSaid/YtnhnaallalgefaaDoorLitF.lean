/- The walk of the reference's Scale: it tells what lit.Scale tells. Conditions: none. -/
import Derived.Test.YtnhnaallalgefaaDoorLitE
namespace Go.Proofs.YtnhnaallalgefaaDoor
open Go Go.RowKit Go.Proofs Fl

theorem two_eq : two = 4611686018427387904 := rfl

theorem mul_two_fits (s : Bool) {X : Nat} (hX : Rep X) (h : Rep (X * 2)) (w : World) :
    (binOp .mul 22 (.float .f64 (W s X)) (.float .f64 4611686018427387904)).run Tryd.prog w = .ok (.float .f64 (W s (X * 2))) w := by
  refine run_float_arith w .mul 22 .f64 _ _ _ ?_
  have := mul_two s hX
  rw [nearest_W s h] at this
  exact this
theorem mul_two_over (s : Bool) {X : Nat} (hX : Rep X) (h : ¬ (X * 2).log2 ≤ 2097) (w : World) :
    (binOp .mul 22 (.float .f64 (W s X)) (.float .f64 4611686018427387904)).run Tryd.prog w = .ok (.float .f64 (infw s)) w := by
  refine run_float_arith w .mul 22 .f64 _ _ _ ?_
  have := mul_two s hX
  rw [nearest_over s (by omega)] at this
  exact this
theorem div_two_run (s : Bool) {X : Nat} (hX : Rep X) (w : World) :
    (binOp .quo 22 (.float .f64 (W s X)) (.float .f64 4611686018427387904)).run Tryd.prog w = .ok (.float .f64 (W s (hlf X))) w :=
  run_float_arith w .quo 22 .f64 _ _ _ (div_two s hX)

theorem rep_hlf2 {X : Nat} (hX : Rep X) : Rep (hlf X * 2) := by
  rcases Nat.mod_two_eq_zero_or_one X with h | h
  · have e : X = X / 2 * 2 := by omega
    have : hlf X * 2 = X := by rw [e, hlf_even]
    rw [this]; exact hX
  · have hl : X.log2 ≤ 52 := by
      obtain ⟨q, hq, e⟩ := hX.dvd
      refine Nat.le_of_not_lt fun hlt => ?_
      have : X.log2 - 52 = (X.log2 - 53) + 1 := by omega
      rw [this, Nat.pow_succ, ← Nat.mul_assoc] at e
      omega
    have h2 := @Nat.lt_log2_self X
    have h3 : 2^(X.log2+1) ≤ 2^53 := Nat.pow_le_pow_right (by omega) (by omega)
    have h4 : hlf X ≤ X / 2 + 1 := rhe_le X 1 (by omega)
    have := rep_int (n := hlf X * 2) 0 (by omega) (by omega)
    simpa using this

set_option maxHeartbeats 400000 in
theorem rscale_out (n p : Int) (h : ¬ (n.natAbs ≤ 9007199254740992 ∧ -2000 ≤ p ∧ p ≤ 2000)) (w : World) :
    Calls Tryd.prog 22 #[.int .i64 n, .int .i64 p] w fun x w' => x = .returned (scaleV n p) ∧ w = w' := by
  rw [scaleV_no (show scaleS n p = none from if_neg h)]
  by_cases h1 : -9007199254740992 ≤ n ∧ n ≤ 9007199254740992
  · have hc : decide (-9007199254740992 ≤ n ∧ n ≤ 9007199254740992) = true := decide_eq_true h1
    have hs := small_any n
    rw [hc] at hs
    have HS := Lib.hid hs
    clear hs hc
    by_cases h3 : 2000 < p
    · clear h h1
      go_enter Tryd.func22, Tryd.ntmps22
      go_wp2_with (go_at_call 69; refine (HS.out _).mono ?_; rintro x w' ⟨rfl, rfl⟩)
      go_ret2
      exact ⟨rfl, rfl⟩
    · have h4 : p < -2000 := by omega
      clear h h1
      go_enter Tryd.func22, Tryd.ntmps22
      go_wp2_with (go_at_call 69; refine (HS.out _).mono ?_; rintro x w' ⟨rfl, rfl⟩)
      go_ret2
      exact ⟨rfl, rfl⟩
  · have hc : decide (-9007199254740992 ≤ n ∧ n ≤ 9007199254740992) = false := decide_eq_false h1
    have hs := small_any n
    rw [hc] at hs
    have HS := Lib.hid hs
    clear hs hc h h1
    go_enter Tryd.func22, Tryd.ntmps22
    go_wp2_with (go_at_call 69; refine (HS.out _).mono ?_; rintro x w' ⟨rfl, rfl⟩)
    go_ret2
    exact ⟨rfl, rfl⟩

set_option maxHeartbeats 400000 in
theorem rscale_zero (p : Int) (hp1 : -2000 ≤ p) (hp2 : p ≤ 2000) (w : World) :
    Calls Tryd.prog 22 #[.int .i64 0, .int .i64 p] w fun x w' => x = .returned (.tuple #[.float .f64 0, .bool true]) ∧ w = w' := by
  have hs := small_any 0
  rw [show decide (-9007199254740992 ≤ (0:Int) ∧ (0:Int) ≤ 9007199254740992) = true by decide] at hs
  have HS := Lib.hid hs
  clear hs
  go_enter Tryd.func22, Tryd.ntmps22
  go_wp2_with (go_at_call 69; refine (HS.out _).mono ?_; rintro x w' ⟨rfl, rfl⟩)
  go_ret2
  exact ⟨rfl, rfl⟩

set_option maxHeartbeats 800000 in
theorem rscale_up (n : Int) (s : Bool) (X : Nat → Nat) (j : Nat) (hr0 : Rep (X 0)) (hs2 : ∀ k, X (k + 1) = X k * 2) (hn : floatOfInt .f64 n = W s (X 0)) (hn1 : -9007199254740992 ≤ n) (hn2 : n ≤ 9007199254740992)
    (h0 : (n == 0) = false) (hj : j ≤ 2000) (C : Value)
    (hy : (X j).log2 ≤ 2097 → C = .tuple #[.float .f64 (W s (X j)), .bool true])
    (hno : ∀ k, k < j → ¬ (X k * 2).log2 ≤ 2097 → C = .tuple #[.float .f64 0, .bool false]) (w : World) :
    Calls Tryd.prog 22 #[.int .i64 n, .int .i64 j] w fun x w' => x = .returned C ∧ w = w' := by
  have hs := small_any n
  rw [show decide (-9007199254740992 ≤ n ∧ n ≤ 9007199254740992) = true from decide_eq_true ⟨hn1, hn2⟩] at hs
  have HS := Lib.hid hs
  have HR0 := Lib.hid hr0
  have HX := Lib.hid hs2
  have HY := Lib.hid hy
  have HNO := Lib.hid hno
  clear hs hr0 hs2 hy hno
  go_enter Tryd.func22, Tryd.ntmps22
  go_wp2_with (go_at_call 69; refine (HS.out _).mono ?_; rintro x w' ⟨rfl, rfl⟩)
  go_loop [6, 7] (fun x i => ∃ k : Nat, k ≤ j ∧ i = .int .i64 k ∧ x = .float .f64 (W s (X k)) ∧ Rep (X k)) (fun _ i => j - (intOf i).toNat)
  case atStart => exact ⟨0, Nat.zero_le _, rfl, rfl, HR0.out⟩
  case round =>
    obtain ⟨k, hk, rfl, rfl, hr⟩ := hrel
    by_cases hlt : k < j
    · by_cases hl : (X k * 2).log2 ≤ 2097
      · have hr2 : Rep (X k * 2) := by have := hr.mul 1 (by simpa using hl); simpa using this
        have f1 := mul_two_fits s hr hr2
        rw [← HX.out] at f1 hr2
        clear hl hr
        go_wp2_with (go_at_call 59; refine (finite_num s hr2 _).mono ?_; rintro x w' ⟨rfl, rfl⟩)
        go_round
        case rel => exact ⟨k + 1, by omega, by go_num, rfl, hr2⟩
        case measure => simp [intOf]; omega
      · have HD := Lib.hid (HNO.out k hlt hl)
        have f1 := mul_two_over s hr hl
        clear hl hr
        go_wp2_with (go_at_call 59; refine (finite_inf s _).mono ?_; rintro x w' ⟨rfl, rfl⟩)
        go_ret2
        exact ⟨by rw [HD.out]; rfl, rfl⟩
    · obtain rfl : j = k := by omega
      have HD := Lib.hid (HY.out hr.1)
      clear hr
      go_wp2
      refine wp_loop_rounds 1 ?_
      rw [rounds_succ]
      go_wp2
      go_ret2
      exact ⟨by rw [HD.out]; rfl, rfl⟩

set_option maxHeartbeats 800000 in
theorem rscale_down (n : Int) (s : Bool) (X : Nat → Nat) (j : Nat) (hr0 : Rep (X 0)) (hx0 : X 0 ≠ 0) (hs2 : ∀ k, X k % 2 = 0 → X k = X (k + 1) * 2) (hn : floatOfInt .f64 n = W s (X 0)) (hn1 : -9007199254740992 ≤ n) (hn2 : n ≤ 9007199254740992)
    (h0 : (n == 0) = false) (hj : j ≤ 2000) (hj1 : 1 ≤ j) (C : Value)
    (hy : (∀ k, k < j → X k % 2 = 0) → C = .tuple #[.float .f64 (W s (X j)), .bool true])
    (hno : ∀ k, k < j → (∀ i, i < k → X i % 2 = 0) → X k % 2 = 1 → C = .tuple #[.float .f64 0, .bool false]) (w : World) :
    Calls Tryd.prog 22 #[.int .i64 n, .int .i64 (-(j : Int))] w fun x w' => x = .returned C ∧ w = w' := by
  have hs := small_any n
  rw [show decide (-9007199254740992 ≤ n ∧ n ≤ 9007199254740992) = true from decide_eq_true ⟨hn1, hn2⟩] at hs
  have HS := Lib.hid hs
  have HR0 := Lib.hid hr0
  have HX := Lib.hid hs2
  have HX0 := Lib.hid hx0
  have HY := Lib.hid hy
  have HNO := Lib.hid hno
  clear hs hr0 hs2 hy hno hx0
  go_enter Tryd.func22, Tryd.ntmps22
  go_wp2_with (go_at_call 69; refine (HS.out _).mono ?_; rintro x w' ⟨rfl, rfl⟩)
  refine wp_loop_rounds 1 ?_
  rw [rounds_succ]
  go_wp2
  go_loop [6, 8] (fun x i => ∃ k : Nat, k ≤ j ∧ i = .int .i64 (-(k : Int)) ∧ x = .float .f64 (W s (X k)) ∧ Hid (Rep (X k) ∧ X k ≠ 0 ∧ ∀ i, i < k → X i % 2 = 0)) (fun _ i => j - (-(intOf i)).toNat)
  case atStart => exact ⟨0, Nat.zero_le _, rfl, rfl, HR0.out, HX0.out, fun i hi => absurd hi (Nat.not_lt_zero i)⟩
  case round =>
    obtain ⟨k, hk, rfl, rfl, hq⟩ := hrel
    obtain ⟨hr, hne, hev⟩ := hq.out
    clear hq
    have HEV := Lib.hid hev
    clear hev
    by_cases hlt : k < j
    · have f1 := div_two_run s hr
      have f2 := mul_two_fits s hr.hlf (rep_hlf2 hr)
      rcases Nat.mod_two_eq_zero_or_one (X k) with hm | hm
      · have e := HX.out k hm
        have e1 : hlf (X k) = X (k + 1) := by rw [e, hlf_even]
        rw [e1] at f1 f2
        rw [← e] at f2
        have f3 := fo_refl s hr
        have hr2 : Rep (X (k+1)) := by rw [← e1]; exact hr.hlf
        have hne2 : X (k+1) ≠ 0 := by intro h; rw [h] at e; exact hne e
        have f4 := fo_eq s false hr2 rep_zero
        rw [W_zero, sg_zero, decide_eq_false (by rw [sg_eq_zero]; exact hne2)] at f4
        have f4' := beq_eq_false_iff_ne.1 f4
        have HQ : Hid (Rep (X (k+1)) ∧ X (k+1) ≠ 0 ∧ ∀ i, i < k + 1 → X i % 2 = 0) := by
          refine ⟨hr2, hne2, fun i hi => ?_⟩
          by_cases h : i < k
          · exact HEV.out i h
          · obtain rfl : i = k := by omega
            exact hm
        clear hm e e1 hr hr2 hne hne2 HEV
        go_wp2
        go_round
        case rel => exact ⟨k + 1, by omega, by go_num, rfl, HQ⟩
        case measure => simp [intOf]; omega
      · have HD := Lib.hid (HNO.out k hlt HEV.out hm)
        have f3 := fo_eq s s (rep_hlf2 hr) hr
        rw [decide_eq_false (by rw [sg_inj]; exact hlf_odd hm)] at f3
        have f3' := beq_eq_false_iff_ne.1 f3
        have f3n : (FloatKind.f64.format.order (W s (hlf (X k) * 2)) (W s (X k)) != some .eq) = true := by rw [bne, f3]; rfl
        clear hm hr hne HEV
        go_wp2
        go_ret2
        exact ⟨by rw [HD.out]; rfl, rfl⟩
    · obtain rfl : j = k := by omega
      have HD := Lib.hid (HY.out HEV.out)
      clear hr hne HEV
      go_wp2
      go_ret2
      exact ⟨by rw [HD.out]; rfl, rfl⟩

theorem log2_grow (A k j : Nat) (h : ¬ (A * 2^k * 2).log2 ≤ 2097) (hlt : k < j) : ¬ (A * 2^j).log2 ≤ 2097 := by
  intro hle
  have hp : A * 2^k * 2 ≠ 0 := by intro e; rw [e] at h; simp at h
  obtain ⟨d, rfl⟩ : ∃ d, j = k + 1 + d := ⟨j - k - 1, by omega⟩
  rw [Nat.pow_add, Nat.pow_succ, ← Nat.mul_assoc, ← Nat.mul_assoc, log2_mul_pow d hp] at hle
  omega

theorem div_step (Y k : Nat) : Y / 2^(k+1) = Y / 2^k / 2 := by rw [Nat.pow_succ, Nat.div_div_eq_div_mul]

theorem dvd_of_evens (Y : Nat) (j : Nat) (h : ∀ k, k < j → (Y / 2^k) % 2 = 0) : Y % 2^j = 0 := by
  induction j with
  | zero => simp [Nat.mod_one]
  | succ j ih =>
    have h1 := ih (fun k hk => h k (by omega))
    have h2 := h j (by omega)
    obtain ⟨q, hq⟩ := Nat.dvd_of_mod_eq_zero h1
    rw [hq, Nat.mul_div_cancel_left _ (Nat.two_pow_pos j)] at h2
    obtain ⟨r, hr⟩ := Nat.dvd_of_mod_eq_zero h2
    rw [hq, hr, ← Nat.mul_assoc, ← Nat.pow_succ]
    exact Nat.mul_mod_right _ _

theorem not_dvd_of_odd (Y k j : Nat) (hlt : k < j) (h : (Y / 2^k) % 2 = 1) : ¬ Y % 2^j = 0 := by
  intro e
  obtain ⟨q, hq⟩ := Nat.dvd_of_mod_eq_zero e
  obtain ⟨d, rfl⟩ : ∃ d, j = k + (d + 1) := ⟨j - k - 1, by omega⟩
  rw [hq, Nat.pow_add, Nat.mul_assoc, Nat.mul_div_cancel_left _ (Nat.two_pow_pos k), Nat.pow_succ, Nat.mul_comm (2^d), Nat.mul_assoc] at h
  omega

theorem rscale_any (n p : Int) (w : World) :
    Calls Tryd.prog 22 #[.int .i64 n, .int .i64 p] w fun x w' => x = .returned (scaleV n p) ∧ w = w' := by
  by_cases h : n.natAbs ≤ 9007199254740992 ∧ -2000 ≤ p ∧ p ≤ 2000
  · obtain ⟨m, hm, hn⟩ := nat_of n
    obtain ⟨h1, h2, h3⟩ := h
    have hf : floatOfInt .f64 n = W (decide (n < 0)) (m * 2^K) := by rw [← hm]; exact ofInt n h1
    by_cases h0 : n = 0
    · subst h0
      have hs : scaleS 0 p = some 0 := by unfold scaleS; rw [if_pos ⟨by simp, h2, h3⟩, if_pos rfl]
      rw [scaleV_yes hs]
      exact rscale_zero p h2 h3 w
    · have hs : scaleS n p = (scaleOk m p).map (W (decide (n < 0))) := by
        unfold scaleS; rw [if_pos ⟨h1, h2, h3⟩, if_neg h0, hm]
      have hm0 : m ≠ 0 := by rw [← hm]; omega
      have hm' : m ≤ 9007199254740992 := by rw [← hm]; exact h1
      have hmp : 0 < m * 2^K := Nat.mul_pos (by omega) K_pos
      have hb : (n == 0) = false := beq_eq_false_iff_ne.2 h0
      have hr := rep_unit hm'
      unfold scaleOk at hs
      generalize m * 2^K = Y at *
      by_cases hp : 0 ≤ p
      · obtain ⟨j, rfl⟩ := Int.eq_ofNat_of_zero_le hp
        rw [if_pos hp, Int.toNat_natCast] at hs
        have hv : ((Y * 2^j).log2 ≤ 2097 → scaleS n j = some (W (decide (n < 0)) (Y * 2^j))) ∧ (¬ (Y * 2^j).log2 ≤ 2097 → scaleS n j = none) :=
          ⟨fun h => by rw [hs, if_pos h]; rfl, fun h => by rw [hs, if_neg h]; rfl⟩
        refine rscale_up n (decide (n < 0)) (fun k => Y * 2^k) j (by simpa using hr) (fun k => by rw [Nat.pow_succ, Nat.mul_assoc]) (by simpa using hf) (by omega) (by omega) hb (by omega) (scaleV n j) ?_ ?_ w
        · exact fun hl => scaleV_yes (hv.1 hl)
        · exact fun k hlt hl => scaleV_no (hv.2 (log2_grow Y k j hl hlt))
      · obtain ⟨j, hj⟩ := Int.eq_ofNat_of_zero_le (show 0 ≤ -p by omega)
        obtain rfl : p = -(j : Int) := by omega
        rw [if_neg hp, hj, Int.toNat_natCast] at hs
        have hv : (Y % 2^j = 0 → scaleS n (-j) = some (W (decide (n < 0)) (Y / 2^j))) ∧ (¬ Y % 2^j = 0 → scaleS n (-j) = none) :=
          ⟨fun h => by rw [hs, if_pos h]; rfl, fun h => by rw [hs, if_neg h]; rfl⟩
        refine rscale_down n (decide (n < 0)) (fun k => Y / 2^k) j (by simpa using hr) (by simp; omega) (fun k hk => ?_) (by simpa using hf) (by omega) (by omega) hb (by omega) (by omega) (scaleV n (-j)) ?_ ?_ w
        · have hk : Y / 2^k % 2 = 0 := hk
          show Y / 2^k = Y / 2^(k+1) * 2
          rw [div_step]; omega
        · exact fun hl => scaleV_yes (hv.1 (dvd_of_evens Y j hl))
        · exact fun k hlt _ hl => scaleV_no (hv.2 (not_dvd_of_odd Y k j hlt hl))
  · exact rscale_out n p h w
end Go.Proofs.YtnhnaallalgefaaDoor
