/- Merged texts. Whole numbers among tidy ones; the walks of Max, Min, RestInt, Rest and of the reference's Whole and Rest. Conditions: as each theorem says. The walks of Max, Min and of arith.One and the reference's One of layer 10, function by function. Conditions: as each theorem says. The walks of fold.One and of the reference's One of layer 13: both tell the same; a function of its parts for raising to a power. Conditions: as each theorem says. -/
import Derived.Test.YtdddmehchfnppaaGreatDoorMg02
import Derived.Test.YtdddmehchfnppaaGreatDoorMg07
namespace Go.Proofs.YtdddmehchfnppaaGreatDoor
open Go Go.RowKit Go.Proofs Fl

theorem fi_inj {a b : Int} (ha : Good a) (hb : Good b) (h : fi a = fi b) : a = b := by
  have h1 := order_fi a b (natAbs_good ha) (natAbs_good hb)
  have h2 := order_fi b b (natAbs_good hb) (natAbs_good hb)
  rw [h] at h1
  rw [h1, cmp_eq] at h2
  rcases Int.lt_trichotomy a b with h3 | h3 | h3
  · rw [cmp_lt h3] at h2; cases h2
  · exact h3
  · rw [cmp_gt h3] at h2; cases h2
theorem tf_fi {n : Int} (h : Good n) : TF (fi n) := by
  refine ⟨decide (n < 0), n.natAbs * 2^K, rep_fi n (natAbs_good h), fi_W n (natAbs_good h), fun e => ?_⟩
  have : n.natAbs = 0 := by
    rcases Nat.mul_eq_zero.1 e with e | e
    · exact e
    · exact absurd e (Nat.ne_of_gt (Nat.two_pow_pos K))
  have : n = 0 := by omega
  rw [this]; rfl
open Classical in
/-- a tidy number as a whole one -/
noncomputable def wholeP (b : Nat) : Option Int := if h : ∃ n, Good n ∧ b = fi n then some h.choose else none
theorem wholeP_fi {n : Int} (h : Good n) : wholeP (fi n) = some n := by
  have he : ∃ m, Good m ∧ fi n = fi m := ⟨n, h, rfl⟩
  unfold wholeP
  rw [dif_pos he]
  exact congrArg some (fi_inj he.choose_spec.1 h he.choose_spec.2.symm)
theorem wholeP_some {b : Nat} {n : Int} (h : wholeP b = some n) : Good n ∧ b = fi n := by
  unfold wholeP at h
  split at h
  · rename_i he
    injection h with h
    subst h
    exact he.choose_spec
  · cases h
theorem whole_cases {b : Nat} (h : TF b) : (∃ n, Good n ∧ b = fi n ∧ wholeP b = some n) ∨ (wholeP b = none ∧ ∃ s Z, Rep Z ∧ b = W s Z ∧ ¬ IsWhole Z) := by
  by_cases he : ∃ n, Good n ∧ b = fi n
  · obtain ⟨n, h1, rfl⟩ := he
    exact .inl ⟨n, h1, rfl, wholeP_fi h1⟩
  · refine .inr ⟨by unfold wholeP; rw [dif_neg he], ?_⟩
    obtain ⟨s, Z, hz, rfl, h0⟩ := h
    refine ⟨s, Z, hz, rfl, fun ⟨m, hm, e⟩ => he ⟨sg s m, ?_, ?_⟩⟩
    · have := natAbs_sg s m
      exact ⟨by omega, by omega⟩
    · have hg : Good (sg s m) := by have := natAbs_sg s m; exact ⟨by omega, by omega⟩
      rw [fi_W _ (natAbs_good hg), natAbs_sg, e]
      by_cases hm0 : m = 0
      · subst hm0
        rw [Nat.zero_mul] at e ⊢
        rw [h0 e, sg_zero]
        rfl
      · congr 1
        rw [Bool.eq_iff_iff, decide_eq_true_eq, sg_neg_iff]
        exact ⟨fun h => ⟨h, hm0⟩, fun h => h.1⟩

set_option maxHeartbeats 400000 in
theorem rwhole_yes' (s : Bool) (m : Nat) (hm : m ≤ 9007199254740992) (w : World) :
    Calls Tryz.prog 89 #[.float .f64 (W s (m * 2^K))] w fun e w' => e = .returned (.bool true) ∧ w = w' := by
  have hz : Rep (m * 2^K) := rep_int K hm (by unfold K; omega)
  obtain ⟨h1, h2, h3, h4⟩ := whole_facts s hz (Nat.mul_le_mul_right _ hm)
  rw [Nat.mul_div_cancel _ K_pos] at h3 h4
  rw [decide_eq_true rfl] at h4
  generalize W s (m * 2^K) = b at *
  have h1' := h1
  have h2' := h2
  simp only [Bool.or_eq_true, beq_iff_eq] at h1' h2'
  clear hz hm
  go_enter Tryz.func89, Tryz.ntmps89
  go_wp2
  go_ret
  exact ⟨rfl, rfl⟩

set_option maxHeartbeats 400000 in
theorem rwhole_no' (s : Bool) {Z : Nat} (hz : Rep Z) (h : ¬ IsWhole Z) (w : World) :
    Calls Tryz.prog 89 #[.float .f64 (W s Z)] w fun e w' => e = .returned (.bool false) ∧ w = w' := by
  by_cases hle : Z ≤ 9007199254740992 * 2^K
  · obtain ⟨h1, h2, h3, h4⟩ := whole_facts s hz hle
    rw [decide_eq_false (fun e => h ⟨Z / 2^K, div_le_of hle, e.symm⟩)] at h4
    generalize W s Z = b at *
    generalize sg s (Z / 2^K) = n at *
    have h1' := h1
    have h2' := h2
    simp only [Bool.or_eq_true, beq_iff_eq] at h1' h2'
    have h4' := beq_eq_false_iff_ne.1 h4
    clear hz h hle
    go_enter Tryz.func89, Tryz.ntmps89
    go_wp2
    go_ret
    exact ⟨rfl, rfl⟩
  · obtain ⟨h1, h2⟩ := big_facts s hz hle
    cases s
    · obtain ⟨h2, h3⟩ := h2 rfl
      clear h1 hle h hz
      go_enter Tryz.func89, Tryz.ntmps89
      go_wp2
      go_ret
      exact ⟨rfl, rfl⟩
    · have h1 := h1 rfl
      clear h2 hle h hz
      go_enter Tryz.func89, Tryz.ntmps89
      go_wp2
      go_ret
      exact ⟨rfl, rfl⟩


theorem rwhole_fi (n : Int) (h : Good n) (w : World) : Calls Tryz.prog 89 #[.float .f64 (fi n)] w fun e w' => e = .returned (.bool true) ∧ w = w' := by
  have := rwhole_yes' (decide (n < 0)) n.natAbs (natAbs_good h) w
  rw [← fi_W n (natAbs_good h)] at this
  exact this
theorem conv_fi (n : Int) (h : Good n) (w : World) : (convert 47 2 (.float .f64 (fi n))).run Tryz.prog w = .ok (.int .i64 n) w := by
  have h1 := (whole_facts (decide (n < 0)) (rep_fi n (natAbs_good h)) (Nat.mul_le_mul_right _ (natAbs_good h))).conv w
  rw [Nat.mul_div_cancel _ K_pos, sg_dec_natAbs, ← fi_W n (natAbs_good h)] at h1
  exact h1

/-- what is left of b by a -/
def restZ (a b : Int) : Int := if a = 0 then b else if b.tmod a ≠ 0 ∧ (decide (b.tmod a < 0) != decide (a < 0)) = true then b.tmod a + a else b.tmod a
theorem tmod_bd (a b : Int) : (b.tmod a).natAbs ≤ b.natAbs := by
  rw [Int.natAbs_tmod]
  exact Nat.mod_le _ _
theorem tmod_lt' (a b : Int) (h : a ≠ 0) : (b.tmod a).natAbs < a.natAbs := by
  rw [Int.natAbs_tmod]
  exact Nat.mod_lt _ (by omega)
theorem restZ_good {a b : Int} (ha : Good a) (hb : Good b) : Good (restZ a b) := by
  obtain ⟨a1, a2⟩ := ha
  obtain ⟨b1, b2⟩ := hb
  unfold restZ
  split
  · exact ⟨b1, b2⟩
  · rename_i h0
    have h1 := tmod_bd a b
    have h2 := tmod_lt' a b h0
    split
    · rename_i h3
      obtain ⟨h3, h4⟩ := h3
      refine ⟨?_, ?_⟩ <;> (by_cases c1 : b.tmod a < 0 <;> by_cases c2 : a < 0 <;> simp [c1, c2] at h4 <;> omega)
    · exact ⟨by omega, by omega⟩

set_option maxHeartbeats 400000 in
theorem restInt_any (a b : Int) (ha : Good a) (hb : Good b) (w : World) : Calls Tryz.prog 117 #[.int .i64 a, .int .i64 b] w fun e w' => e = .returned (.int .i64 (restZ a b)) ∧ w = w' := by
  obtain ⟨a1, a2⟩ := ha
  obtain ⟨b1, b2⟩ := hb
  by_cases h0 : a = 0
  · have HR : Hid (restZ a b = b) := if_pos h0
    have e0 : (a == 0) = true := by simpa using h0
    clear h0
    go_enter Tryz.func117, Tryz.ntmps117
    go_wp2
    go_ret
    exact ⟨by rw [HR.out]; rfl, rfl⟩
  · have HR : Hid (restZ a b = if b.tmod a ≠ 0 ∧ (decide (b.tmod a < 0) != decide (a < 0)) = true then b.tmod a + a else b.tmod a) := if_neg h0
    have h1 := tmod_bd a b
    have h2 := tmod_lt' a b h0
    have e0 : (a == 0) = false := by simpa using h0
    have e1 : ¬ a = 0 := h0
    by_cases hc : b.tmod a ≠ 0 ∧ (decide (b.tmod a < 0) != decide (a < 0)) = true
    · rw [if_pos hc] at HR
      obtain ⟨c1, c2⟩ := hc
      have c1' : (b.tmod a != 0) = true := by simpa using c1
      have c2' : (!(decide (b.tmod a < 0) == decide (a < 0))) = true := c2
      go_enter Tryz.func117, Tryz.ntmps117
      go_wp2
      go_ret
      exact ⟨by rw [HR.out]; rfl, rfl⟩
    · rw [if_neg hc] at HR
      by_cases c1 : b.tmod a = 0
      · have c1' : (b.tmod a != 0) = false := by simpa using c1
        clear hc c1
        go_enter Tryz.func117, Tryz.ntmps117
        go_wp2
        go_ret
        exact ⟨by rw [HR.out]; rfl, rfl⟩
      · have c1' : (b.tmod a != 0) = true := by simpa using c1
        have c2 : (decide (b.tmod a < 0) != decide (a < 0)) = false := by
          cases hd : (decide (b.tmod a < 0) != decide (a < 0)) with
          | false => rfl
          | true => exact absurd ⟨c1, hd⟩ hc
        have c2' : (!(decide (b.tmod a < 0) == decide (a < 0))) = false := c2
        clear hc
        go_enter Tryz.func117, Tryz.ntmps117
        go_wp2
        go_ret
        exact ⟨by rw [HR.out]; rfl, rfl⟩

/-- what is left of b by a: of numbers -/
noncomputable def restP (a b : Nat) : Nat × Int := match wholeP a, wholeP b with
  | some x, some y => (fi (restZ x y), 0)
  | _, _ => (0, 24)

theorem restP_of {a b : Nat} {x y : Int} (ha : wholeP a = some x) (hb : wholeP b = some y) : restP a b = (fi (restZ x y), 0) := by unfold restP; rw [ha, hb]
theorem restP_no {a b : Nat} (h : wholeP a = none ∨ wholeP b = none) : restP a b = (0, 24) := by
  unfold restP
  rcases h with h | h
  · rw [h]
  · rw [h]; cases wholeP a <;> rfl

set_option maxHeartbeats 400000 in
theorem nrest_any (a b : Nat) (ha : TF a) (hb : TF b) (w : World) : Calls Tryz.prog 85 #[.float .f64 a, .float .f64 b] w fun e w' => e = .returned (.tuple #[.float .f64 (restP a b).1, .int .i64 (restP a b).2]) ∧ w = w' := by
  rcases whole_cases ha with ⟨x, hx, rfl, ex⟩ | ⟨ex, s, Z, hz, rfl, hn⟩
  · rcases whole_cases hb with ⟨y, hy, rfl, ey⟩ | ⟨ey, t, Y, hy, rfl, hm⟩
    · rw [restP_of ex ey]
      have HA := Lib.hid (fun W => nwhole_fi x hx W)
      have HB := Lib.hid (fun W => nwhole_fi y hy W)
      have HR := Lib.hid (fun W => restInt_any x y hx hy W)
      clear ha hb hx hy ex ey
      generalize restZ x y = r at *
      go_enter Tryz.func85, Tryz.ntmps85
      go_wp2_with fail
      refine (HA.out _).mono ?_
      rintro e w' ⟨rfl, rfl⟩
      go_wp2_with fail
      refine (HB.out _).mono ?_
      rintro e w' ⟨rfl, rfl⟩
      go_wp2_with fail
      refine (HR.out _).mono ?_
      rintro e w' ⟨rfl, rfl⟩
      go_wp2
      go_ret2
      exact ⟨rfl, rfl⟩
    · rw [restP_no (.inr ey)]
      have HA := Lib.hid (fun W => nwhole_fi x hx W)
      have HB := Lib.hid (fun W => nwhole_no t hy hm W)
      clear ha hb hx hy ex ey hm
      go_enter Tryz.func85, Tryz.ntmps85
      go_wp2_with fail
      refine (HA.out _).mono ?_
      rintro e w' ⟨rfl, rfl⟩
      go_wp2_with fail
      refine (HB.out _).mono ?_
      rintro e w' ⟨⟨n, rfl⟩, rfl⟩
      go_wp2
      go_ret2
      exact ⟨rfl, rfl⟩
  · rw [restP_no (.inl ex)]
    have HA := Lib.hid (fun W => nwhole_no s hz hn W)
    have HB : Hid (∃ (m : Int) (t : Bool), ∀ W, Calls Tryz.prog 77 #[.float .f64 b] W fun e w' => (∃ m : Int, e = .returned (.tuple #[.int .i64 m, .bool t])) ∧ W = w') := by
      rcases whole_cases hb with ⟨y, hy, rfl, ey⟩ | ⟨ey, t, Y, hy, rfl, hm⟩
      · exact ⟨y, true, fun W => (nwhole_fi y hy W).mono fun e w' ⟨h1, h2⟩ => ⟨⟨y, h1⟩, h2⟩⟩
      · exact ⟨(0 : Int), false, fun W => nwhole_no t hy hm W⟩
    obtain ⟨_, t, hB⟩ := HB.out
    have HB2 := Lib.hid hB
    clear ha hb hz hn ex HB hB
    go_enter Tryz.func85, Tryz.ntmps85
    go_wp2_with fail
    refine (HA.out _).mono ?_
    rintro e w' ⟨⟨n, rfl⟩, rfl⟩
    go_wp2_with fail
    refine (HB2.out _).mono ?_
    rintro e w' ⟨⟨n, rfl⟩, rfl⟩
    go_wp2
    go_ret2
    exact ⟨rfl, rfl⟩

theorem sgn_iff (a r : Int) (h : a ≠ 0) : (r ≠ 0 ∧ (decide (r < 0) != decide (a < 0)) = true) ↔ (r < 0 ∧ 0 < a ∨ 0 < r ∧ a < 0) := by
  by_cases c1 : r < 0 <;> by_cases c2 : a < 0 <;> simp [c1, c2] <;> omega
theorem tmod_eq (a b : Int) : b - b.tdiv a * a = b.tmod a := by
  have := Int.tmod_add_mul_tdiv b a
  rw [Int.mul_comm] at this
  omega

set_option maxHeartbeats 400000 in
theorem rrest_any (a b : Int) (ha : Good a) (hb : Good b) (w : World) : Calls Tryz.prog 90 #[.int .i64 a, .int .i64 b] w fun e w' => e = .returned (.int .i64 (restZ a b)) ∧ w = w' := by
  obtain ⟨a1, a2⟩ := ha
  obtain ⟨b1, b2⟩ := hb
  by_cases h0 : a = 0
  · have HR : Hid (restZ a b = b) := if_pos h0
    have e0 : (a == 0) = true := by simpa using h0
    clear h0
    go_enter Tryz.func90, Tryz.ntmps90
    go_wp2
    go_ret
    exact ⟨by rw [HR.out]; rfl, rfl⟩
  · by_cases hm1 : a = -1
    · have HR : Hid (restZ a b = 0) := by
        have e : b.tmod a = 0 := by rw [hm1]; simp
        show (if a = 0 then b else _) = 0
        rw [if_neg h0, e]
        simp
      have e0 : (a == 0) = false := by simpa using h0
      have e1 : (a == -1) = true := by simpa using hm1
      clear h0 hm1
      go_enter Tryz.func90, Tryz.ntmps90
      go_wp2
      go_ret
      exact ⟨by rw [HR.out]; rfl, rfl⟩
    · have e0 : (a == 0) = false := by simpa using h0
      have e1 : (a == -1) = false := by simpa using hm1
      have e2 : ¬ a = 0 := h0
      have hq : (b.tdiv a).natAbs ≤ b.natAbs := by rw [Int.natAbs_tdiv]; exact Nat.div_le_self _ _
      have h1 := tmod_bd a b
      have h2 := tmod_lt' a b h0
      have hqm : b.tdiv a * a = b - b.tmod a := by have := tmod_eq a b; omega
      obtain ⟨P, hP⟩ : ∃ P, P = b.tdiv a * a := ⟨_, rfl⟩
      have hPr : b.tdiv a * a = P := hP.symm
      have hPb1 : -18014398509481984 ≤ P := by omega
      have hPb2 : P ≤ 18014398509481984 := by omega
      have hsub : b - P = b.tmod a := by omega
      have HR : Hid (restZ a b = if b.tmod a ≠ 0 ∧ (decide (b.tmod a < 0) != decide (a < 0)) = true then b.tmod a + a else b.tmod a) := if_neg h0
      generalize b.tmod a = r at *
      have HR2 : Hid (restZ a b = if (r < 0 ∧ 0 < a ∨ 0 < r ∧ a < 0) then r + a else r) := by
        show _ = _
        rw [HR.out]
        by_cases hc : (r < 0 ∧ 0 < a ∨ 0 < r ∧ a < 0)
        · rw [if_pos hc, if_pos ((sgn_iff a r h0).2 hc)]
        · rw [if_neg hc, if_neg (fun h => hc ((sgn_iff a r h0).1 h))]
      clear hqm hP hm1 HR
      go_enter Tryz.func90, Tryz.ntmps90
      go_wp2
      all_goals go_ret
      all_goals refine ⟨?_, rfl⟩
      all_goals rw [HR2.out]
      all_goals first | (rw [if_pos (by omega)]; rfl) | (rw [if_neg (by omega)]; rfl)
end Go.Proofs.YtdddmehchfnppaaGreatDoor
namespace Go.Proofs.YtdddmehchfnppaaGreatDoor
open Go Go.RowKit Go.Proofs Fl

/-- how two numbers stand to each other -/
def cmpF (a b : Nat) : Ordering := (Ieee.double.order a b).getD .eq
theorem order_tf {a b : Nat} (ha : TF a) (hb : TF b) : FloatKind.f64.format.order a b = some (cmpF a b) := by
  obtain ⟨s, Z, hz, rfl, _⟩ := ha
  obtain ⟨t, Y, hy, rfl, _⟩ := hb
  show Ieee.double.order _ _ = _
  unfold cmpF
  rw [order_W s t hz hy]
  rfl
theorem cmpF_swap {a b : Nat} (ha : TF a) (hb : TF b) : cmpF b a = (cmpF a b).swap := by
  obtain ⟨s, Z, hz, rfl, _⟩ := ha
  obtain ⟨t, Y, hy, rfl, _⟩ := hb
  unfold cmpF
  rw [order_W s t hz hy, order_W t s hy hz]
  show compare _ _ = (compare _ _).swap
  rcases Int.lt_trichotomy (sg s Z) (sg t Y) with h | h | h
  · rw [cmp_lt h, cmp_gt h]; rfl
  · rw [h, cmp_eq]; rfl
  · rw [cmp_lt h, cmp_gt h]; rfl
theorem cmpF_fi {a b : Int} (ha : Good a) (hb : Good b) : cmpF (fi a) (fi b) = compare a b := by
  unfold cmpF
  rw [order_fi a b (natAbs_good ha) (natAbs_good hb)]
  rfl
def maxP (a b : Nat) : Nat := if cmpF a b = .lt then b else a
def minP (a b : Nat) : Nat := if cmpF a b = .gt then b else a
theorem maxP_tf {a b : Nat} (ha : TF a) (hb : TF b) : TF (maxP a b) := by unfold maxP; split <;> assumption
theorem minP_tf {a b : Nat} (ha : TF a) (hb : TF b) : TF (minP a b) := by unfold minP; split <;> assumption

set_option maxHeartbeats 400000 in
theorem nmax_any (a b : Nat) (ha : TF a) (hb : TF b) (w : World) : Calls Tryz.prog 83 #[.float .f64 a, .float .f64 b] w fun e w' => e = .returned (.float .f64 (maxP a b)) ∧ w = w' := by
  have h1 := order_tf ha hb
  have h2 := order_tf hb ha
  rw [cmpF_swap ha hb] at h2
  unfold maxP
  clear ha hb
  cases hc : cmpF a b
  all_goals
    rw [hc] at h1 h2
    clear hc
    simp only [Ordering.swap] at h2
    go_enter Tryz.func83, Tryz.ntmps83
    go_wp2
    go_ret
    exact ⟨rfl, rfl⟩

set_option maxHeartbeats 400000 in
theorem nmin_any (a b : Nat) (ha : TF a) (hb : TF b) (w : World) : Calls Tryz.prog 84 #[.float .f64 a, .float .f64 b] w fun e w' => e = .returned (.float .f64 (minP a b)) ∧ w = w' := by
  have h1 := order_tf ha hb
  have h2 := order_tf hb ha
  rw [cmpF_swap ha hb] at h2
  unfold minP
  clear ha hb
  cases hc : cmpF a b
  all_goals
    rw [hc] at h1 h2
    clear hc
    simp only [Ordering.swap] at h2
    go_enter Tryz.func84, Tryz.ntmps84
    go_wp2
    go_ret
    exact ⟨rfl, rfl⟩

set_option maxHeartbeats 400000 in
theorem arith_1 (a b : Nat) (ha : TF a) (hb : TF b) (w : World) : Calls Tryz.prog 42 #[.int .i64 1, .float .f64 a, .float .f64 b] w fun e w' => e = .returned (.tuple #[.float .f64 (doneP (opB .add a b)).1, .int .i64 (doneP (opB .add a b)).2]) ∧ w = w' := by
  have HC := Lib.hid (fun W => nadd_any a b ha hb W)
  clear ha hb
  generalize doneP (opB .add a b) = d at *
  go_enter Tryz.func42, Tryz.ntmps42
  go_wp2_with fail
  refine (HC.out _).mono ?_
  rintro e w' ⟨rfl, rfl⟩
  go_wp2
  go_ret2
  exact ⟨rfl, rfl⟩

set_option maxHeartbeats 400000 in
theorem ref10_1 (a b : Nat) (ha : TF a) (hb : TF b) (w : World) : Calls Tryz.prog 47 #[.int .i64 1, .float .f64 a, .float .f64 b] w fun e w' => e = .returned (.tuple #[.float .f64 (doneP (opB .add a b)).1, .int .i64 (doneP (opB .add a b)).2]) ∧ w = w' := by
  have HC := Lib.hid (fun W => reckon_add a b ha hb W)
  clear ha hb
  generalize doneP (opB .add a b) = d at *
  go_enter Tryz.func47, Tryz.ntmps47
  go_wp2_with fail
  refine (HC.out _).mono ?_
  rintro e w' ⟨rfl, rfl⟩
  go_wp2
  go_ret2
  exact ⟨rfl, rfl⟩

set_option maxHeartbeats 400000 in
theorem arith_2 (a b : Nat) (ha : TF a) (hb : TF b) (w : World) : Calls Tryz.prog 42 #[.int .i64 2, .float .f64 a, .float .f64 b] w fun e w' => e = .returned (.tuple #[.float .f64 (doneP (opB .sub a b)).1, .int .i64 (doneP (opB .sub a b)).2]) ∧ w = w' := by
  have HC := Lib.hid (fun W => nsub_any a b ha hb W)
  clear ha hb
  generalize doneP (opB .sub a b) = d at *
  go_enter Tryz.func42, Tryz.ntmps42
  go_wp2_with fail
  refine (HC.out _).mono ?_
  rintro e w' ⟨rfl, rfl⟩
  go_wp2
  go_ret2
  exact ⟨rfl, rfl⟩

set_option maxHeartbeats 400000 in
theorem ref10_2 (a b : Nat) (ha : TF a) (hb : TF b) (w : World) : Calls Tryz.prog 47 #[.int .i64 2, .float .f64 a, .float .f64 b] w fun e w' => e = .returned (.tuple #[.float .f64 (doneP (opB .sub a b)).1, .int .i64 (doneP (opB .sub a b)).2]) ∧ w = w' := by
  have HC := Lib.hid (fun W => reckon_sub a b ha hb W)
  clear ha hb
  generalize doneP (opB .sub a b) = d at *
  go_enter Tryz.func47, Tryz.ntmps47
  go_wp2_with fail
  refine (HC.out _).mono ?_
  rintro e w' ⟨rfl, rfl⟩
  go_wp2
  go_ret2
  exact ⟨rfl, rfl⟩

set_option maxHeartbeats 400000 in
theorem arith_3 (a b : Nat) (ha : TF a) (hb : TF b) (w : World) : Calls Tryz.prog 42 #[.int .i64 3, .float .f64 a, .float .f64 b] w fun e w' => e = .returned (.tuple #[.float .f64 (doneP (opB .mul a b)).1, .int .i64 (doneP (opB .mul a b)).2]) ∧ w = w' := by
  have HC := Lib.hid (fun W => nmul_any a b ha hb W)
  clear ha hb
  generalize doneP (opB .mul a b) = d at *
  go_enter Tryz.func42, Tryz.ntmps42
  go_wp2_with fail
  refine (HC.out _).mono ?_
  rintro e w' ⟨rfl, rfl⟩
  go_wp2
  go_ret2
  exact ⟨rfl, rfl⟩

set_option maxHeartbeats 400000 in
theorem ref10_3 (a b : Nat) (ha : TF a) (hb : TF b) (w : World) : Calls Tryz.prog 47 #[.int .i64 3, .float .f64 a, .float .f64 b] w fun e w' => e = .returned (.tuple #[.float .f64 (doneP (opB .mul a b)).1, .int .i64 (doneP (opB .mul a b)).2]) ∧ w = w' := by
  have HC := Lib.hid (fun W => reckon_mul a b ha hb W)
  clear ha hb
  generalize doneP (opB .mul a b) = d at *
  go_enter Tryz.func47, Tryz.ntmps47
  go_wp2_with fail
  refine (HC.out _).mono ?_
  rintro e w' ⟨rfl, rfl⟩
  go_wp2
  go_ret2
  exact ⟨rfl, rfl⟩

set_option maxHeartbeats 400000 in
theorem arith_4 (a b : Nat) (ha : TF a) (hb : TF b) (w : World) : Calls Tryz.prog 42 #[.int .i64 4, .float .f64 a, .float .f64 b] w fun e w' => e = .returned (.tuple #[.float .f64 (divP a b).1, .int .i64 (divP a b).2]) ∧ w = w' := by
  have HC := Lib.hid (fun W => ndiv_any a b ha hb W)
  clear ha hb
  generalize divP a b = d at *
  go_enter Tryz.func42, Tryz.ntmps42
  go_wp2_with fail
  refine (HC.out _).mono ?_
  rintro e w' ⟨rfl, rfl⟩
  go_wp2
  go_ret2
  exact ⟨rfl, rfl⟩

set_option maxHeartbeats 400000 in
theorem ref10_4 (a b : Nat) (ha : TF a) (hb : TF b) (w : World) : Calls Tryz.prog 47 #[.int .i64 4, .float .f64 a, .float .f64 b] w fun e w' => e = .returned (.tuple #[.float .f64 (divP a b).1, .int .i64 (divP a b).2]) ∧ w = w' := by
  have HC := Lib.hid (fun W => reckon_div a b ha hb W)
  clear ha hb
  generalize divP a b = d at *
  go_enter Tryz.func47, Tryz.ntmps47
  go_wp2_with fail
  refine (HC.out _).mono ?_
  rintro e w' ⟨rfl, rfl⟩
  go_wp2
  go_ret2
  exact ⟨rfl, rfl⟩

set_option maxHeartbeats 400000 in
theorem arith_5 (a b : Nat) (ha : TF a) (hb : TF b) (w : World) : Calls Tryz.prog 42 #[.int .i64 5, .float .f64 a, .float .f64 b] w fun e w' => e = .returned (.tuple #[.float .f64 (maxP a b), .int .i64 0]) ∧ w = w' := by
  have HC := Lib.hid (fun W => nmax_any a b ha hb W)
  clear ha hb
  generalize maxP a b = d at *
  go_enter Tryz.func42, Tryz.ntmps42
  go_wp2_with fail
  refine (HC.out _).mono ?_
  rintro e w' ⟨rfl, rfl⟩
  go_wp2
  go_ret2
  exact ⟨rfl, rfl⟩

set_option maxHeartbeats 400000 in
theorem ref10_5 (a b : Nat) (ha : TF a) (hb : TF b) (w : World) : Calls Tryz.prog 47 #[.int .i64 5, .float .f64 a, .float .f64 b] w fun e w' => e = .returned (.tuple #[.float .f64 (maxP a b), .int .i64 0]) ∧ w = w' := by
  have h1 := order_tf ha hb
  unfold maxP
  clear ha hb
  cases hc : cmpF a b
  all_goals
    rw [hc] at h1
    clear hc
    go_enter Tryz.func47, Tryz.ntmps47
    go_wp2
    go_ret2
    exact ⟨rfl, rfl⟩

set_option maxHeartbeats 400000 in
theorem arith_6 (a b : Nat) (ha : TF a) (hb : TF b) (w : World) : Calls Tryz.prog 42 #[.int .i64 6, .float .f64 a, .float .f64 b] w fun e w' => e = .returned (.tuple #[.float .f64 (minP a b), .int .i64 0]) ∧ w = w' := by
  have HC := Lib.hid (fun W => nmin_any a b ha hb W)
  clear ha hb
  generalize minP a b = d at *
  go_enter Tryz.func42, Tryz.ntmps42
  go_wp2_with fail
  refine (HC.out _).mono ?_
  rintro e w' ⟨rfl, rfl⟩
  go_wp2
  go_ret2
  exact ⟨rfl, rfl⟩

set_option maxHeartbeats 400000 in
theorem ref10_6 (a b : Nat) (ha : TF a) (hb : TF b) (w : World) : Calls Tryz.prog 47 #[.int .i64 6, .float .f64 a, .float .f64 b] w fun e w' => e = .returned (.tuple #[.float .f64 (minP a b), .int .i64 0]) ∧ w = w' := by
  have h1 := order_tf ha hb
  unfold minP
  clear ha hb
  cases hc : cmpF a b
  all_goals
    rw [hc] at h1
    clear hc
    go_enter Tryz.func47, Tryz.ntmps47
    go_wp2
    go_ret2
    exact ⟨rfl, rfl⟩

set_option maxHeartbeats 400000 in
theorem arith_7 (a b : Nat) (ha : TF a) (hb : TF b) (w : World) : Calls Tryz.prog 42 #[.int .i64 7, .float .f64 a, .float .f64 b] w fun e w' => e = .returned (.tuple #[.float .f64 (restP a b).1, .int .i64 (restP a b).2]) ∧ w = w' := by
  have HC := Lib.hid (fun W => nrest_any a b ha hb W)
  clear ha hb
  generalize restP a b = d at *
  go_enter Tryz.func42, Tryz.ntmps42
  go_wp2_with fail
  refine (HC.out _).mono ?_
  rintro e w' ⟨rfl, rfl⟩
  go_wp2
  go_ret2
  exact ⟨rfl, rfl⟩

set_option maxHeartbeats 400000 in
theorem ref10_7 (a b : Nat) (ha : TF a) (hb : TF b) (w : World) : Calls Tryz.prog 47 #[.int .i64 7, .float .f64 a, .float .f64 b] w fun e w' => e = .returned (.tuple #[.float .f64 (restP a b).1, .int .i64 (restP a b).2]) ∧ w = w' := by
  rcases whole_cases ha with ⟨x, hx, rfl, ex⟩ | ⟨ex, s, Z, hz, rfl, hn⟩
  · rcases whole_cases hb with ⟨y, hy, rfl, ey⟩ | ⟨ey, t, Y, hy, rfl, hm⟩
    · rw [restP_of ex ey]
      have HA := Lib.hid (fun W => rwhole_fi x hx W)
      have HB := Lib.hid (fun W => rwhole_fi y hy W)
      have HR := Lib.hid (fun W => rrest_any x y hx hy W)
      have c1 := conv_fi x hx
      have c2 := conv_fi y hy
      clear ha hb hx hy ex ey
      generalize restZ x y = r at *
      generalize fi x = p at *
      generalize fi y = q at *
      go_enter Tryz.func47, Tryz.ntmps47
      go_wp2_with fail
      refine (HA.out _).mono ?_
      rintro e w' ⟨rfl, rfl⟩
      go_wp2_with fail
      refine (HB.out _).mono ?_
      rintro e w' ⟨rfl, rfl⟩
      go_wp2_with fail
      refine (HR.out _).mono ?_
      rintro e w' ⟨rfl, rfl⟩
      go_wp2
      go_ret2
      exact ⟨rfl, rfl⟩
    · rw [restP_no (.inr ey)]
      have HA := Lib.hid (fun W => rwhole_fi x hx W)
      have HB := Lib.hid (fun W => rwhole_no' t hy hm W)
      clear ha hb hx hy ex ey hm
      go_enter Tryz.func47, Tryz.ntmps47
      go_wp2_with fail
      refine (HA.out _).mono ?_
      rintro e w' ⟨rfl, rfl⟩
      go_wp2_with fail
      refine (HB.out _).mono ?_
      rintro e w' ⟨rfl, rfl⟩
      go_wp2
      go_ret2
      exact ⟨rfl, rfl⟩
  · rw [restP_no (.inl ex)]
    have HA := Lib.hid (fun W => rwhole_no' s hz hn W)
    clear ha hb hz hn ex
    go_enter Tryz.func47, Tryz.ntmps47
    go_wp2_with fail
    refine (HA.out _).mono ?_
    rintro e w' ⟨rfl, rfl⟩
    go_wp2
    go_ret2
    exact ⟨rfl, rfl⟩
end Go.Proofs.YtdddmehchfnppaaGreatDoor
namespace Go.Proofs.YtdddmehchfnppaaGreatDoor
open Go Go.RowKit Go.Proofs Fl

abbrev one : Nat := 4607182418800017408

theorem tf_eq {a b : Nat} (ha : TF a) (hb : TF b) : cmpF a b = .eq ↔ a = b := by
  constructor
  · obtain ⟨s, Z, hz, rfl, h1⟩ := ha
    obtain ⟨t, Y, hy, rfl, h2⟩ := hb
    intro h
    unfold cmpF at h
    rw [order_W s t hz hy] at h
    have hsg : sg s Z = sg t Y := by
      rcases Int.lt_trichotomy (sg s Z) (sg t Y) with h3 | h3 | h3
      · rw [cmp_lt h3] at h; cases h
      · exact h3
      · rw [cmp_gt h3] at h; cases h
    have hzy : Z = Y := by
      have e1 := natAbs_sg s Z
      have e2 := natAbs_sg t Y
      rw [hsg] at e1
      omega
    subst hzy
    by_cases h0 : Z = 0
    · rw [h1 h0, h2 h0]
    · have : s = t := by
        cases s <;> cases t <;> first | rfl | (simp [sg] at hsg; omega)
      rw [this]
  · rintro rfl
    obtain ⟨s, Z, hz, rfl, h1⟩ := ha
    unfold cmpF
    rw [order_W s s hz hz, cmp_eq]
    rfl

/-- does a relation hold? -/
def relB (f : Int) (a b : Nat) : Bool :=
  if f = 11 then cmpF a b == .lt else if f = 12 then cmpF a b != .gt else if f = 13 then cmpF a b == .eq else if f = 14 then cmpF a b != .lt else if f = 15 then cmpF a b == .gt else cmpF a b != .eq
def flagF (t : Bool) : Nat := if t then one else 0
theorem tf_flag (t : Bool) : TF (flagF t) := by cases t; exact tf_zero; exact tf_one
/-- a function of truths -/
def logB (f : Int) (x y : Bool) : Bool := if f = 21 then x && y else if f = 22 then x || y else if f = 23 then !(x && y) else !(x || y)
def isT (a : Nat) : Bool := decide (a = 0 ∨ a = one)
def tv (a : Nat) : Bool := decide (a = one)
def logP (f : Int) (a b : Nat) : Nat × Int := if isT a && isT b then (flagF (logB f (tv a) (tv b)), 0) else (0, 24)

theorem int6 {P : Int → Prop} (f : Int) (h1 : 11 ≤ f) (h2 : f ≤ 16) (a : P 11) (b : P 12) (c : P 13) (d : P 14) (e : P 15) (g : P 16) : P f := by
  have : f = 11 ∨ f = 12 ∨ f = 13 ∨ f = 14 ∨ f = 15 ∨ f = 16 := by omega
  rcases this with rfl | rfl | rfl | rfl | rfl | rfl <;> assumption
theorem int4 {P : Int → Prop} (f : Int) (h1 : 21 ≤ f) (h2 : f ≤ 24) (a : P 21) (b : P 22) (c : P 23) (d : P 24) : P f := by
  have : f = 21 ∨ f = 22 ∨ f = 23 ∨ f = 24 := by omega
  rcases this with rfl | rfl | rfl | rfl <;> assumption

set_option maxHeartbeats 2000000 in
theorem relate_any (f : Int) (hf : 11 ≤ f) (hf2 : f ≤ 16) (a b : Nat) (ha : TF a) (hb : TF b) (w : World) : Calls Tryz.prog 43 #[.int .i64 f, .float .f64 a, .float .f64 b] w fun e w' => e = .returned (.tuple #[.bool (relB f a b), .int .i64 0]) ∧ w = w' := by
  have h1 := order_tf ha hb
  refine int6 (P := fun f => Calls Tryz.prog 43 #[.int .i64 f, .float .f64 a, .float .f64 b] w fun e w' => e = .returned (.tuple #[.bool (relB f a b), .int .i64 0]) ∧ w = w') f hf hf2 ?_ ?_ ?_ ?_ ?_ ?_
  all_goals
    unfold relB
    clear ha hb hf hf2
    cases hc : cmpF a b
    all_goals
      rw [hc] at h1
      clear hc
      go_enter Tryz.func43, Tryz.ntmps43
      go_wp2
      go_ret2
      exact ⟨rfl, rfl⟩

set_option maxHeartbeats 2000000 in
theorem ref11_any (f : Int) (hf : 11 ≤ f) (hf2 : f ≤ 16) (a b : Nat) (ha : TF a) (hb : TF b) (w : World) : Calls Tryz.prog 48 #[.int .i64 f, .float .f64 a, .float .f64 b] w fun e w' => e = .returned (.tuple #[.bool (relB f a b), .int .i64 0]) ∧ w = w' := by
  have h1 := order_tf ha hb
  have h2 := order_tf hb ha
  rw [cmpF_swap ha hb] at h2
  refine int6 (P := fun f => Calls Tryz.prog 48 #[.int .i64 f, .float .f64 a, .float .f64 b] w fun e w' => e = .returned (.tuple #[.bool (relB f a b), .int .i64 0]) ∧ w = w') f hf hf2 ?_ ?_ ?_ ?_ ?_ ?_
  all_goals
    unfold relB
    clear ha hb hf hf2
    cases hc : cmpF a b
    all_goals
      rw [hc] at h1 h2
      clear hc
      simp only [Ordering.swap] at h2
      go_enter Tryz.func48, Tryz.ntmps48
      go_wp2
      go_ret2
      exact ⟨rfl, rfl⟩

set_option maxHeartbeats 2000000 in
theorem ref12_any (f : Int) (hf : 21 ≤ f) (hf2 : f ≤ 24) (x y : Bool) (w : World) : Calls Tryz.prog 50 #[.int .i64 f, .bool x, .bool y] w fun e w' => e = .returned (.tuple #[.bool (logB f x y), .int .i64 0]) ∧ w = w' := by
  refine int4 (P := fun f => Calls Tryz.prog 50 #[.int .i64 f, .bool x, .bool y] w fun e w' => e = .returned (.tuple #[.bool (logB f x y), .int .i64 0]) ∧ w = w') f hf hf2 ?_ ?_ ?_ ?_
  all_goals
    clear hf hf2
    cases x <;> cases y
    all_goals
      go_enter Tryz.func50, Tryz.ntmps50
      go_wp2
      go_ret2
      exact ⟨rfl, rfl⟩

def tabN (f : Int) : Nat := if f = 21 then 8 else if f = 22 then 14 else if f = 23 then 7 else 1
set_option maxHeartbeats 2000000 in
theorem table_any (f : Int) (hf : 21 ≤ f) (hf2 : f ≤ 24) (w : World) : Calls Tryz.prog 87 #[.int .i64 f] w fun e w' => e = .returned (.tuple #[.int .u8 (tabN f : Nat), .bool true]) ∧ w = w' := by
  refine int4 (P := fun f => Calls Tryz.prog 87 #[.int .i64 f] w fun e w' => e = .returned (.tuple #[.int .u8 (tabN f : Nat), .bool true]) ∧ w = w') f hf hf2 ?_ ?_ ?_ ?_
  all_goals
    clear hf hf2
    go_enter Tryz.func87, Tryz.ntmps87
    go_wp2
    go_ret2
    exact ⟨rfl, rfl⟩

set_option maxHeartbeats 2000000 in
theorem logic_any (f : Int) (hf : 21 ≤ f) (hf2 : f ≤ 24) (x y : Bool) (w : World) : Calls Tryz.prog 46 #[.int .i64 f, .bool x, .bool y] w fun e w' => e = .returned (.tuple #[.bool (logB f x y), .int .i64 0]) ∧ w = w' := by
  have HT := Lib.hid (fun W => table_any f hf hf2 W)
  have HF : Hid (f = 21 ∨ f = 22 ∨ f = 23 ∨ f = 24) := by show _ ∨ _; omega
  clear hf hf2
  rcases HF.out with e | e | e | e
  all_goals
    subst e
    cases x <;> cases y
    all_goals
      go_enter Tryz.func46, Tryz.ntmps46
      go_wp2_with fail
      refine (HT.out _).mono ?_
      rintro e w' ⟨rfl, rfl⟩
      go_wp2
      go_ret2
      exact ⟨rfl, rfl⟩
end Go.Proofs.YtdddmehchfnppaaGreatDoor
