/- Walks of the functions that ask whether a float is whole, and whether two are the same. Conditions: as each theorem says. -/
import Derived.Test.YtdddmehchfnppaaDoorLitA
namespace Go.Proofs.YtdddmehchfnppaaDoor
open Go Go.RowKit Go.Proofs Fl

theorem W_max : W false (9007199254740992 * 2^K) = 4845873199050653696 := by decide +kernel
theorem W_nmax : W true (9007199254740992 * 2^K) = 14069245235905429504 := by decide +kernel
theorem rep_max : Rep (9007199254740992 * 2^K) := rep_int K (by decide) (by unfold K; omega)

/-- a float is whole and not too great -/
def IsWhole (Z : Nat) : Prop := ∃ m, m ≤ 9007199254740992 ∧ Z = m * 2^K

theorem K_pos : 0 < 2^K := Nat.two_pow_pos K

theorem natAbs_sg (s : Bool) (m : Nat) : (sg s m).natAbs = m := by unfold sg; split <;> omega
theorem sg_neg_iff (s : Bool) (m : Nat) : (sg s m < 0) ↔ (s = true ∧ m ≠ 0) := by
  unfold sg; cases s <;> simp <;> omega

/-- an integer's float, in signs and units -/
theorem ofInt_sg (s : Bool) (m : Nat) (h : m ≤ 9007199254740992) : floatOfInt .f64 (sg s m) = W (decide (sg s m < 0)) (m * 2^K) := by
  have := ofInt (sg s m) (by rw [natAbs_sg]; exact h)
  rw [natAbs_sg] at this
  exact this

theorem sg_dec (s : Bool) (m k : Nat) : sg (decide (sg s m < 0)) (m * k) = sg s (m * k) := by
  by_cases h : m = 0
  · subst h; simp [sg_zero]
  · cases s
    · have : decide (sg false m < 0) = false := decide_eq_false (by rw [sg_false]; omega)
      rw [this]
    · have : decide (sg true m < 0) = true := decide_eq_true (by rw [sg_true]; omega)
      rw [this]

theorem sg_inj (s : Bool) (a b : Nat) : sg s a = sg s b ↔ a = b := by unfold sg; split <;> omega

theorem div_le_of {Z : Nat} (h : Z ≤ 9007199254740992 * 2^K) : Z / 2^K ≤ 9007199254740992 := by
  have := Nat.div_le_div_right (c := 2^K) h
  rwa [Nat.mul_div_cancel _ K_pos] at this

/-- the facts that a walk through a test of wholeness wants -/
structure WholeFacts (s : Bool) (Z : Nat) : Prop where
  ge : (FloatKind.f64.format.order (W s Z) 14069245235905429504 == some .gt || FloatKind.f64.format.order (W s Z) 14069245235905429504 == some .eq) = true
  le : (FloatKind.f64.format.order (W s Z) 4845873199050653696 == some .lt || FloatKind.f64.format.order (W s Z) 4845873199050653696 == some .eq) = true
  conv : ∀ w, (convert 26 2 (.float .f64 (W s Z))).run Tryd.prog w = .ok (.int .i64 (sg s (Z / 2^K))) w
  back : (FloatKind.f64.format.order (floatOfInt .f64 (sg s (Z / 2^K))) (W s Z) == some .eq) = decide (Z / 2^K * 2^K = Z)

theorem whole_facts (s : Bool) {Z : Nat} (hz : Rep Z) (h : Z ≤ 9007199254740992 * 2^K) : WholeFacts s Z := by
  have hq := div_le_of h
  have hr := rep_int K hq (by unfold K; omega)
  refine ⟨?_, ?_, ?_, ?_⟩
  · rw [← W_nmax, fo_gt s true hz rep_max, fo_eq s true hz rep_max, sg_true]
    generalize 9007199254740992 * 2^K = T at *
    rw [← Bool.decide_or, decide_eq_true_eq]; unfold sg; split <;> omega
  · rw [← W_max, fo_lt s false hz rep_max, fo_eq s false hz rep_max, sg_false]
    generalize 9007199254740992 * 2^K = T at *
    rw [← Bool.decide_or, decide_eq_true_eq]; unfold sg; split <;> omega
  · intro w
    exact run_convert_float_int (P := Tryd.prog) w 26 2 .f64 .i64 (W s Z) _ (by kernel_rfl) Tryd.underlying2 (toInt64_W s hz (by omega))
  · rw [ofInt_sg s _ hq, fo_eq _ s hr hz, sg_dec, decide_eq_decide]
    exact sg_inj s _ _

theorem big_facts (s : Bool) {Z : Nat} (hz : Rep Z) (h : ¬ Z ≤ 9007199254740992 * 2^K) :
    (s = true → (FloatKind.f64.format.order (W s Z) 14069245235905429504 = some .lt)) ∧
    (s = false → (FloatKind.f64.format.order (W s Z) 14069245235905429504 = some .gt) ∧ (FloatKind.f64.format.order (W s Z) 4845873199050653696 = some .gt)) := by
  have a1 : FloatKind.f64.format.order (W s Z) 14069245235905429504 = some (compare (sg s Z) (sg true (9007199254740992 * 2^K))) := by
    rw [← W_nmax]; exact order_W s true hz rep_max
  have a2 : FloatKind.f64.format.order (W s Z) 4845873199050653696 = some (compare (sg s Z) (sg false (9007199254740992 * 2^K))) := by
    rw [← W_max]; exact order_W s false hz rep_max
  rw [a1, a2]
  refine ⟨?_, ?_⟩
  · rintro rfl; rw [cmp_lt (by rw [sg_true, sg_true]; omega)]
  · rintro rfl; rw [cmp_gt (by rw [sg_true, sg_false]; omega), cmp_gt (by rw [sg_false, sg_false]; omega)]; exact ⟨rfl, rfl⟩

set_option maxHeartbeats 400000 in
theorem nwhole_yes (s : Bool) (m : Nat) (hm : m ≤ 9007199254740992) (w : World) :
    Calls Tryd.prog 68 #[.float .f64 (W s (m * 2^K))] w fun e w' => e = .returned (.tuple #[.int .i64 (sg s m), .bool true]) ∧ w = w' := by
  have hz : Rep (m * 2^K) := rep_int K hm (by unfold K; omega)
  obtain ⟨h1, h2, h3, h4⟩ := whole_facts s hz (Nat.mul_le_mul_right _ hm)
  rw [Nat.mul_div_cancel _ K_pos] at h3 h4
  rw [decide_eq_true rfl] at h4
  generalize W s (m * 2^K) = b at *
  have h1' := h1
  have h2' := h2
  simp only [Bool.or_eq_true, beq_iff_eq] at h1' h2'
  clear hz hm
  go_enter Tryd.func68, Tryd.ntmps68
  go_wp2
  go_ret2
  exact ⟨rfl, rfl⟩

set_option maxHeartbeats 400000 in
theorem nwhole_no (s : Bool) {Z : Nat} (hz : Rep Z) (h : ¬ IsWhole Z) (w : World) :
    Calls Tryd.prog 68 #[.float .f64 (W s Z)] w fun e w' => (∃ n, e = .returned (.tuple #[.int .i64 n, .bool false])) ∧ w = w' := by
  by_cases hle : Z ≤ 9007199254740992 * 2^K
  · obtain ⟨h1, h2, h3, h4⟩ := whole_facts s hz hle
    rw [decide_eq_false (fun e => h ⟨Z / 2^K, div_le_of hle, e.symm⟩)] at h4
    generalize W s Z = b at *
    generalize sg s (Z / 2^K) = n at *
    have h1' := h1
    have h2' := h2
    simp only [Bool.or_eq_true, beq_iff_eq] at h1' h2'
    have h4' := beq_eq_false_iff_ne.1 h4
    clear hz h hle
    go_enter Tryd.func68, Tryd.ntmps68
    go_wp2
    go_ret2
    exact ⟨⟨n, rfl⟩, rfl⟩
  · obtain ⟨h1, h2⟩ := big_facts s hz hle
    cases s
    · obtain ⟨h2, h3⟩ := h2 rfl
      clear h1 hle h hz
      go_enter Tryd.func68, Tryd.ntmps68
      go_wp2
      go_ret2
      exact ⟨⟨0, rfl⟩, rfl⟩
    · have h1 := h1 rfl
      clear h2 hle h hz
      go_enter Tryd.func68, Tryd.ntmps68
      go_wp2
      go_ret2
      exact ⟨⟨0, rfl⟩, rfl⟩
end Go.Proofs.YtdddmehchfnppaaDoor
