/- The walk of the reference's Parts: it tells what lit.Parts tells. Conditions: as each theorem says. -/
import Derived.Test.YtopdkllbemgmlaaDoorLitH
namespace Go.Proofs.YtopdkllbemgmlaaDoor
open Go Go.RowKit Go.Proofs Fl

set_option maxHeartbeats 400000 in
theorem rwhole_yes (s : Bool) (m : Nat) (hm : m ≤ 9007199254740992) (w : World) :
    Calls Tryd.prog 26 #[.float .f64 (W s (m * 2^K))] w fun e w' => e = .returned (.bool true) ∧ w = w' := by
  have hz : Rep (m * 2^K) := rep_int K hm (by unfold K; omega)
  obtain ⟨h1, h2, h3, h4⟩ := whole_facts s hz (Nat.mul_le_mul_right _ hm)
  rw [Nat.mul_div_cancel _ K_pos] at h3 h4
  rw [decide_eq_true rfl] at h4
  generalize W s (m * 2^K) = b at *
  have h1' := h1
  have h2' := h2
  simp only [Bool.or_eq_true, beq_iff_eq] at h1' h2'
  clear hz hm
  go_enter Tryd.func26, Tryd.ntmps26
  go_wp2
  go_ret
  exact ⟨rfl, rfl⟩

set_option maxHeartbeats 400000 in
theorem rwhole_no (s : Bool) {Z : Nat} (hz : Rep Z) (h : ¬ IsWhole Z) (w : World) :
    Calls Tryd.prog 26 #[.float .f64 (W s Z)] w fun e w' => e = .returned (.bool false) ∧ w = w' := by
  by_cases hle : Z ≤ 9007199254740992 * 2^K
  · obtain ⟨h1, h2, h3, h4⟩ := whole_facts s hz hle
    rw [decide_eq_false (fun e => h ⟨Z / 2^K, div_le_of hle, e.symm⟩)] at h4
    generalize W s Z = b at *
    generalize sg s (Z / 2^K) = n at *
    have h1' := h1
    have h2' := h2
    simp only [Bool.or_eq_true, beq_iff_eq] at h1' h2'
    have h4' := beq_eq_false_iff_ne.1 h4
    clear hz h hle
    go_enter Tryd.func26, Tryd.ntmps26
    go_wp2
    go_ret
    exact ⟨rfl, rfl⟩
  · obtain ⟨h1, h2⟩ := big_facts s hz hle
    cases s
    · obtain ⟨h2, h3⟩ := h2 rfl
      clear h1 hle h hz
      go_enter Tryd.func26, Tryd.ntmps26
      go_wp2
      go_ret
      exact ⟨rfl, rfl⟩
    · have h1 := h1 rfl
      clear h2 hle h hz
      go_enter Tryd.func26, Tryd.ntmps26
      go_wp2
      go_ret
      exact ⟨rfl, rfl⟩

def MX : Nat := 9007199254740992 * 2^K

/-- a number between, on its way to a whole one: k steps, the power so far -/
def Inv1 (Z k X : Nat) (p : Int) : Prop :=
  Rep X ∧ X ≠ 0 ∧ ((∃ e, k + K ≤ e ∧ e ≤ 2045 ∧ Z = X * 2^k ∧ (∃ q, q < 2^53 ∧ X = q * 2^(e - k)) ∧ p = k) ∨ (k ≤ K ∧ X = Z * 2^k ∧ X ≤ MX ∧ p = -(k : Int)))

theorem inv1_start {Z : Nat} (hz : Rep Z) (h0 : Z ≠ 0) : Inv1 Z 0 Z 0 := by
  refine ⟨hz, h0, ?_⟩
  by_cases h : Z ≤ MX
  · exact .inr ⟨by omega, by simp, h, rfl⟩
  · refine .inl ⟨Z.log2 - 52, ?_, by have := hz.1; omega, by simp, by simpa using hz.dvd, rfl⟩
    have h2 : 2^(53 + K) ≤ Z := by
      rw [Nat.pow_add]; unfold MX at h
      rw [show (2^53 : Nat) = 9007199254740992 by decide]; omega
    have := le_log2_of h2
    omega

theorem mul_le_cancel {a b : Nat} (h : a * 2^K ≤ b * 2^K) : a ≤ b := Nat.le_of_mul_le_mul_right h K_pos

theorem rep_whole {X : Nat} (hX : Rep X) (h1 : 2^52 * 2^K ≤ X) (h2 : X ≤ MX) : IsWhole X := by
  obtain ⟨q, hq, e⟩ := hX.dvd
  have hl : 52 + K ≤ X.log2 := le_log2_of (by rw [Nat.pow_add]; exact h1)
  have e2 : X = q * 2^(X.log2 - 52 - K) * 2^K := by
    rw [Nat.mul_assoc, ← Nat.pow_add, show X.log2 - 52 - K + K = X.log2 - 52 by omega]; exact e
  exact ⟨_, mul_le_cancel (by rw [← e2]; exact h2), e2⟩

theorem inv1_step {Z k X : Nat} {p : Int} (h : Inv1 Z k X p) (hn : ¬ IsWhole X) :
    k < 2199 ∧ ((¬ X ≤ MX ∧ Inv1 Z (k + 1) (hlf X) (p + 1)) ∨ (X < MX ∧ Rep (X * 2) ∧ Inv1 Z (k + 1) (X * 2) (p - 1))) := by
  obtain ⟨hr, hne, h | h⟩ := h
  · obtain ⟨e, he, he2, hZ, ⟨q, hq, hX⟩, hp⟩ := h
    have hK : K = 1074 := rfl
    refine ⟨by omega, .inl ⟨?_, ?_⟩⟩
    · intro hle
      refine hn ⟨q * 2^(e - k - K), mul_le_cancel ?_, ?_⟩
      · rw [Nat.mul_assoc, ← Nat.pow_add, show e - k - K + K = e - k by omega, ← hX]; exact hle
      · rw [Nat.mul_assoc, ← Nat.pow_add, show e - k - K + K = e - k by omega]; exact hX
    · have hlt : k + 1 + K ≤ e := by
        refine Nat.lt_of_le_of_ne he ?_
        intro heq
        refine hn ⟨q, by omega, ?_⟩
        rw [hX]; congr 2; omega
      have hX2 : X = q * 2^(e - (k + 1)) * 2 := by
        rw [Nat.mul_assoc, ← Nat.pow_succ, show (e - (k + 1)).succ = e - k by omega]; exact hX
      have e1 : hlf X = q * 2^(e - (k + 1)) := by rw [hX2, hlf_even]
      have hr2 := hr.hlf
      refine ⟨hr2, ?_, .inl ⟨e, hlt, he2, ?_, ⟨q, hq, e1⟩, by omega⟩⟩
      · rw [e1]; intro h0; rw [h0] at hX2; omega
      · rw [e1, Nat.pow_succ, Nat.mul_comm (2^k), ← Nat.mul_assoc, ← hX2]; exact hZ
  · obtain ⟨hk, hX, hle, hp⟩ := h
    have hK : K = 1074 := rfl
    have hlt : X < 2^52 * 2^K := by
      refine Nat.lt_of_not_le fun h1 => hn (rep_whole hr h1 hle)
    have hMX : MX = 2 * (2^52 * 2^K) := by unfold MX; rw [← Nat.mul_assoc]
    have hkK : k ≠ K := by
      intro e
      rw [e] at hX
      exact hn ⟨Z, mul_le_cancel (by rw [← hX]; exact hle), hX⟩
    have hp0 : 0 < 2^52 * 2^K := Nat.mul_pos (by omega) K_pos
    have hr2 : Rep (X * 2) := by
      obtain ⟨hl, m, j, hm, e⟩ := hr
      refine ⟨?_, m, j + 1, hm, by rw [e, Nat.pow_succ, Nat.mul_assoc]⟩
      have h2 : X * 2 < 2^(53 + K + 1) := by
        rw [Nat.pow_succ, Nat.pow_add]
        generalize 2^K = T at *
        omega
      have := log2_lt_of h2
      omega
    refine ⟨by omega, .inr ⟨by omega, hr2, hr2, by omega, .inr ⟨by omega, ?_, by omega, by omega⟩⟩⟩
    rw [hX, Nat.pow_succ, Nat.mul_assoc]

theorem inv1_rel {Z k X : Nat} {p : Int} (h : Inv1 Z k X p) : ∃ a b : Nat, Z * 2^a = X * 2^b ∧ (b : Int) - a = p := by
  obtain ⟨hr, hne, h | h⟩ := h
  · obtain ⟨e, he, he2, hZ, _, hp⟩ := h
    exact ⟨0, k, by simpa using hZ, by omega⟩
  · obtain ⟨hk, hX, hle, hp⟩ := h
    exact ⟨k, 0, by simpa using hX.symm, by omega⟩

theorem inv1_pow {Z k X : Nat} {p : Int} (h : Inv1 Z k X p) : -3000 ≤ p ∧ p ≤ 3000 := by
  have hK : K = 1074 := rfl
  obtain ⟨hr, hne, h | h⟩ := h
  · obtain ⟨e, he, he2, hZ, _, hp⟩ := h; omega
  · obtain ⟨hk, hX, hle, hp⟩ := h; omega

/-- halved till it is odd: k steps -/
def Inv2 (Z k m : Nat) (p : Int) : Prop := m ≤ 9007199254740992 ∧ m ≠ 0 ∧ m * 2^k ≤ 9007199254740992 ∧ ∃ a b : Nat, Z * 2^a = m * 2^(K + b) ∧ (b : Int) - a = p

theorem inv2_start {Z k m : Nat} {p : Int} (hm : m ≤ 9007199254740992) (h : Inv1 Z k (m * 2^K) p) : Inv2 Z 0 m p := by
  obtain ⟨a, b, e, hp⟩ := inv1_rel h
  refine ⟨hm, ?_, by simpa using hm, a, b, by rw [e, Nat.pow_add, Nat.mul_assoc], hp⟩
  rintro rfl
  exact h.2.1 (by simp)

theorem inv2_bound {Z k m : Nat} {p : Int} (h : Inv2 Z k m p) : k ≤ 53 := by
  obtain ⟨_, h0, h, _⟩ := h
  have h1 : 2^k ≤ m * 2^k := Nat.le_mul_of_pos_left _ (by omega)
  have h2 : 2^k ≤ 2^53 := by omega
  exact (Nat.pow_le_pow_iff_right (by omega)).1 h2

theorem inv2_even {Z k m : Nat} {p : Int} (h : Inv2 Z k m p) (hm : m % 2 = 0) : hlf (m * 2^K) = m / 2 * 2^K ∧ Inv2 Z (k + 1) (m / 2) (p + 1) := by
  have e : m = m / 2 * 2 := by omega
  obtain ⟨h1, h0, h2, a, b, h3, h4⟩ := h
  refine ⟨?_, by omega, by omega, ?_, a, b + 1, ?_, by omega⟩
  · have e2 : m * 2^K = m / 2 * 2^K * 2 := by rw [Nat.mul_right_comm, ← e]
    rw [e2, hlf_even]
  · rw [Nat.pow_succ, Nat.mul_comm (2^k), ← Nat.mul_assoc, ← e]; exact h2
  · rw [h3, ← Nat.add_assoc, Nat.pow_succ, Nat.mul_comm _ 2, ← Nat.mul_assoc, ← e]

theorem hlf_oddK {m : Nat} (hm : m % 2 = 1) : ¬ IsWhole (hlf (m * 2^K)) := by
  obtain ⟨J, hJ⟩ : ∃ J, K = J + 1 := ⟨1073, rfl⟩
  have e : m * 2^K = m * 2^J * 2 := by rw [hJ, Nat.pow_succ, Nat.mul_assoc]
  rw [e, hlf_even]
  rintro ⟨n, _, h⟩
  rw [hJ, Nat.pow_succ, Nat.mul_comm (2^J), ← Nat.mul_assoc] at h
  have := Nat.eq_of_mul_eq_mul_right (Nat.two_pow_pos J) h
  omega

theorem inv2_end {Z k m : Nat} {p : Int} (s : Bool) (h : Inv2 Z k m p) (hm : m % 2 = 1) : PartsIs s Z (.returned (.tuple #[.int .i64 (sg s m), .int .i64 p])) := by
  obtain ⟨h1, h0, h2, a, b, h3, h4⟩ := h
  obtain ⟨j, hj, hZ⟩ := parts_shift (z := 0) (r := m / 2) h3 (by simp; omega)
  have e : 2 * (m / 2) + 1 = m := by omega
  rw [e] at hZ
  refine ⟨m, j, ?_, hm, hZ⟩
  have hK : K = 1074 := rfl
  rw [show (j : Int) - 1074 = p by omega]


theorem W_MX : W false MX = 4845873199050653696 := W_max
theorem W_nMX : W true MX = 14069245235905429504 := W_nmax
theorem rep_MX : Rep MX := rep_max

/-- the tests against 2^53 that a number below it fails -/
theorem lt_facts (s : Bool) {X : Nat} (hX : Rep X) (h : X ≤ MX) :
    (FloatKind.f64.format.order (W s X) 4845873199050653696 == some .gt) = false ∧ (FloatKind.f64.format.order (W s X) 14069245235905429504 == some .lt) = false := by
  rw [← W_MX, ← W_nMX, fo_gt s false hX rep_MX, fo_lt s true hX rep_MX, sg_true, sg_false]
  unfold sg
  constructor
  · apply decide_eq_false; split <;> omega
  · apply decide_eq_false; split <;> omega
theorem gt_facts (s : Bool) {X : Nat} (hX : Rep X) (h : ¬ X ≤ MX) :
    (s = false → (FloatKind.f64.format.order (W s X) 4845873199050653696 == some .gt) = true) ∧
    (s = true → (FloatKind.f64.format.order (W s X) 4845873199050653696 == some .gt) = false ∧ (FloatKind.f64.format.order (W s X) 14069245235905429504 == some .lt) = true) := by
  rw [← W_MX, ← W_nMX, fo_gt s false hX rep_MX, fo_lt s true hX rep_MX, sg_true, sg_false]
  constructor
  · rintro rfl; rw [sg_false]; exact decide_eq_true (by omega)
  · rintro rfl; rw [sg_true]; exact ⟨decide_eq_false (by omega), decide_eq_true (by omega)⟩

/-- what the second loop wants of the floats of whole numbers: B m is the float of m -/
structure RpB (s : Bool) (B : Nat → Nat) : Prop where
  yes : ∀ m, m ≤ 9007199254740992 → ∀ w, Calls Tryd.prog 26 #[.float .f64 (B m)] w fun e w' => e = .returned (.bool true) ∧ w = w'
  even : ∀ m, m ≤ 9007199254740992 → m % 2 = 0 → ∀ w, (binOp .quo 22 (.float .f64 (B m)) (.float .f64 4611686018427387904)).run Tryd.prog w = .ok (.float .f64 (B (m / 2))) w
  odd : ∀ m, m ≤ 9007199254740992 → m % 2 = 1 → ∃ h, (∀ w, (binOp .quo 22 (.float .f64 (B m)) (.float .f64 4611686018427387904)).run Tryd.prog w = .ok (.float .f64 h) w) ∧
    ∀ w, Calls Tryd.prog 26 #[.float .f64 h] w fun e w' => e = .returned (.bool false) ∧ w = w'
  int : ∀ m, m ≤ 9007199254740992 → ∀ w, (convert 22 2 (.float .f64 (B m))).run Tryd.prog w = .ok (.int .i64 (sg s m)) w

theorem rpB (s : Bool) : RpB s (fun m => W s (m * 2^K)) where
  yes := fun m hm w => rwhole_yes s m hm w
  even := fun m hm he w => by
    have := div_two_run s (rep_unit hm) w
    have e : m * 2^K = m / 2 * 2^K * 2 := by rw [Nat.mul_right_comm]; congr 1; omega
    rw [show hlf (m * 2^K) = m / 2 * 2^K by rw [e, hlf_even]] at this
    exact this
  odd := fun m hm ho => ⟨W s (hlf (m * 2^K)), div_two_run s (rep_unit hm), rwhole_no s (rep_unit hm).hlf (hlf_oddK ho)⟩
  int := fun m hm w => by
    have := toInt64_W s (rep_unit hm) (by rw [Nat.mul_div_cancel _ K_pos]; omega)
    rw [Nat.mul_div_cancel _ K_pos] at this
    exact run_convert_float_int (P := Tryd.prog) w 22 2 .f64 .i64 (W s (m * 2^K)) _ (by kernel_rfl) Tryd.underlying2 this

set_option maxRecDepth 100000 in
set_option maxHeartbeats 1000000 in
theorem rparts_any (s : Bool) {Z : Nat} (hz : Rep Z) (h0 : Z ≠ 0) (w : World) :
    Calls Tryd.prog 18 #[.float .f64 (W s Z)] w fun e w' => PartsIs s Z e ∧ w = w' := by
  have h1 := fo_eq s false hz rep_zero
  rw [W_zero, sg_zero, decide_eq_false (by rw [sg_eq_zero]; exact h0)] at h1
  have h1' := beq_eq_false_iff_ne.1 h1
  have HS := Lib.hid (inv1_start hz h0)
  obtain ⟨B, hB⟩ : ∃ B : Nat → Nat, B = fun m => W s (m * 2^K) := ⟨_, rfl⟩
  have HB : Hid (RpB s B) := by rw [hB]; exact rpB s
  have HBe : Hid (∀ m, W s (m * 2^K) = B m) := by rw [hB]; exact fun _ => rfl
  obtain ⟨N, hN, hN2⟩ : ∃ N : Nat, 2200 ≤ N ∧ N ≤ 2200 := ⟨2200, by omega, by omega⟩
  obtain ⟨N3, hN3, hN4⟩ : ∃ N : Nat, 60 ≤ N ∧ N ≤ 60 := ⟨60, by omega, by omega⟩
  clear hz h0 hB
  go_enter Tryd.func18, Tryd.ntmps18
  go_wp2
  go_loop [0, 4, 5] (fun x p i => ∃ (k X : Nat) (q : Int), k < N ∧ i = .int .i64 k ∧ x = .float .f64 (W s X) ∧ p = .int .i64 q ∧ Hid (Inv1 Z k X q) ∧ -3000 ≤ q ∧ q ≤ 3000) (fun _ _ i => N - (intOf i).toNat)
  case atStart => exact ⟨0, Z, 0, by omega, rfl, rfl, rfl, HS, by omega, by omega⟩
  case round =>
    obtain ⟨k, X, q, hk, rfl, rfl, rfl, hq, hq1, hq2⟩ := hrel
    clear h1 h1'
    have hrX : Rep X := hq.out.1
    by_cases hw : IsWhole X
    · obtain ⟨m, hm, hXm⟩ := hw
      have H2 := Lib.hid (inv2_start hm (by rw [← hXm]; exact hq.out))
      rw [hXm, HBe.out]
      clear hq hrX hXm
      go_wp2_with (go_at_call 26; refine (HB.out.yes m hm _).mono ?_; rintro e w' ⟨rfl, rfl⟩)
      go_loop [0, 4, 6] (fun x p i => ∃ (k m : Nat) (q : Int), k < N3 ∧ i = .int .i64 k ∧ x = .float .f64 (B m) ∧ p = .int .i64 q ∧ m ≤ 9007199254740992 ∧ Hid (Inv2 Z k m q) ∧ -3000 ≤ q ∧ q ≤ 3000 + k) (fun _ _ i => N3 - (intOf i).toNat)
      case atStart => exact ⟨0, m, q, by omega, rfl, rfl, rfl, hm, H2, by omega, by omega⟩
      case round =>
        obtain ⟨k, m, q, hk, rfl, rfl, rfl, hm, hq, hq1, hq2⟩ := hrel
        have hb := inv2_bound hq.out
        rcases Nat.mod_two_eq_zero_or_one m with hme | hmo
        · have f1 := HB.out.even m hm hme
          obtain ⟨e1, i2⟩ := inv2_even hq.out hme
          have I2 := Lib.hid i2
          have hb2 := inv2_bound i2
          have hm2 : m / 2 ≤ 9007199254740992 := by omega
          clear hq hme e1 i2 hm
          generalize m / 2 = m2 at *
          go_wp2_with (go_at_call 26; refine (HB.out.yes m2 hm2 _).mono ?_; rintro e w' ⟨rfl, rfl⟩)
          go_round
          case rel => exact ⟨k + 1, m2, q + 1, by omega, by go_num, rfl, rfl, hm2, I2, by omega, by omega⟩
          case measure => simp [intOf]; omega
        · obtain ⟨h, f1, hn⟩ := HB.out.odd m hm hmo
          have hend := inv2_end s hq.out hmo
          have HE := Lib.hid hend
          have HN := Lib.hid hn
          have c1 := HB.out.int m hm
          clear hq hmo hend hn
          go_wp2_with (go_at_call 26; refine (HN.out _).mono ?_; rintro e w' ⟨rfl, rfl⟩)
          go_ret2
          exact ⟨HE.out, rfl⟩
    · obtain ⟨hk2, h | h⟩ := inv1_step hq.out hw
      · obtain ⟨hgt, hi⟩ := h
        have HI := Lib.hid hi
        obtain ⟨g1, g2⟩ := gt_facts s hrX hgt
        have f1 := div_two_run s hrX
        have hp := inv1_pow hi
        have HW := Lib.hid (rwhole_no s hrX hw)
        clear hi hgt hq hw
        generalize hlf X = X2 at *
        cases s
        · have g1 := g1 rfl
          clear g2
          go_wp2_with (go_at_call 26; refine (HW.out _).mono ?_; rintro e w' ⟨rfl, rfl⟩)
          go_round
          case rel => exact ⟨k + 1, X2, q + 1, by omega, by go_num, rfl, rfl, HI, by omega, by omega⟩
          case measure => simp [intOf]; omega
        · obtain ⟨g2, g3⟩ := g2 rfl
          have g2' := beq_eq_false_iff_ne.1 g2
          clear g1
          go_wp2_with (go_at_call 26; refine (HW.out _).mono ?_; rintro e w' ⟨rfl, rfl⟩)
          go_round
          case rel => exact ⟨k + 1, X2, q + 1, by omega, by go_num, rfl, rfl, HI, by omega, by omega⟩
          case measure => simp [intOf]; omega
      · obtain ⟨hlt, hr2, hi⟩ := h
        have HI := Lib.hid hi
        obtain ⟨g1, g2⟩ := lt_facts s hrX (by omega)
        have g1' := beq_eq_false_iff_ne.1 g1
        have g2' := beq_eq_false_iff_ne.1 g2
        have f1 := mul_two_fits s hrX hr2
        have hp := inv1_pow hi
        have HW := Lib.hid (rwhole_no s hrX hw)
        clear hi hlt hq hr2 hw
        generalize X * 2 = X2 at *
        go_wp2_with (go_at_call 26; refine (HW.out _).mono ?_; rintro e w' ⟨rfl, rfl⟩)
        go_round
        case rel => exact ⟨k + 1, X2, q - 1, by omega, by go_num, rfl, rfl, HI, by omega, by omega⟩
        case measure => simp [intOf]; omega
end Go.Proofs.YtopdkllbemgmlaaDoor
