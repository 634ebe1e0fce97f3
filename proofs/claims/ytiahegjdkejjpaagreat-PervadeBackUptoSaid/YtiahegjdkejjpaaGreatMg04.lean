/- Merged texts. Whole numbers among tidy ones; the walks of Max, Min, RestInt, Rest and of the reference's Whole and Rest. Conditions: as each theorem says. The walks of Max, Min and of arith.One and the reference's One of layer 10, function by function. Conditions: as each theorem says. The walks of fold.One and of the reference's One of layer 13: both tell the same; a function of its parts for raising to a power. Conditions: as each theorem says. The walks of fold.One and of the reference's One of layer 13: both tell the same, whatever the powers are. Conditions: as each theorem says. Packed truths: words of bits, in plain words; the walks of Len and At. Conditions: as each theorem says. -/
import Derived.Test.YtiahegjdkejjpaaGreatMg01
import Derived.Test.YtiahegjdkejjpaaGreatMg03
import Derived.Laws.BitsAllLaws
namespace Go.Proofs.YtiahegjdkejjpaaGreat
open Go Go.RowKit Go.Proofs Fl

theorem fi_inj {a b : Int} (ha : Good a) (hb : Good b) (h : fi a = fi b) : a = b := by
  have h1 := order_fi a b (natAbs_good ha) (natAbs_good hb)
  have h2 := order_fi b b (natAbs_good hb) (natAbs_good hb)
  rw [h] at h1
  rw [h1, cmp_eq] at h2
  rcases Int.lt_trichotomy a b with h3 | h3 | h3
  · rw [cmp_lt h3] at h2; cases h2
  · exact h3
  · rw [cmp_gt h3] at h2; cases h2
theorem tf_fi {n : Int} (h : Good n) : TF (fi n) := by
  refine ⟨decide (n < 0), n.natAbs * 2^K, rep_fi n (natAbs_good h), fi_W n (natAbs_good h), fun e => ?_⟩
  have : n.natAbs = 0 := by
    rcases Nat.mul_eq_zero.1 e with e | e
    · exact e
    · exact absurd e (Nat.ne_of_gt (Nat.two_pow_pos K))
  have : n = 0 := by omega
  rw [this]; rfl
open Classical in
/-- a tidy number as a whole one -/
noncomputable def wholeP (b : Nat) : Option Int := if h : ∃ n, Good n ∧ b = fi n then some h.choose else none
theorem wholeP_fi {n : Int} (h : Good n) : wholeP (fi n) = some n := by
  have he : ∃ m, Good m ∧ fi n = fi m := ⟨n, h, rfl⟩
  unfold wholeP
  rw [dif_pos he]
  exact congrArg some (fi_inj he.choose_spec.1 h he.choose_spec.2.symm)
theorem wholeP_some {b : Nat} {n : Int} (h : wholeP b = some n) : Good n ∧ b = fi n := by
  unfold wholeP at h
  split at h
  · rename_i he
    injection h with h
    subst h
    exact he.choose_spec
  · cases h
theorem whole_cases {b : Nat} (h : TF b) : (∃ n, Good n ∧ b = fi n ∧ wholeP b = some n) ∨ (wholeP b = none ∧ ∃ s Z, Rep Z ∧ b = W s Z ∧ ¬ IsWhole Z) := by
  by_cases he : ∃ n, Good n ∧ b = fi n
  · obtain ⟨n, h1, rfl⟩ := he
    exact .inl ⟨n, h1, rfl, wholeP_fi h1⟩
  · refine .inr ⟨by unfold wholeP; rw [dif_neg he], ?_⟩
    obtain ⟨s, Z, hz, rfl, h0⟩ := h
    refine ⟨s, Z, hz, rfl, fun ⟨m, hm, e⟩ => he ⟨sg s m, ?_, ?_⟩⟩
    · have := natAbs_sg s m
      exact ⟨by omega, by omega⟩
    · have hg : Good (sg s m) := by have := natAbs_sg s m; exact ⟨by omega, by omega⟩
      rw [fi_W _ (natAbs_good hg), natAbs_sg, e]
      by_cases hm0 : m = 0
      · subst hm0
        rw [Nat.zero_mul] at e ⊢
        rw [h0 e, sg_zero]
        rfl
      · congr 1
        rw [Bool.eq_iff_iff, decide_eq_true_eq, sg_neg_iff]
        exact ⟨fun h => ⟨h, hm0⟩, fun h => h.1⟩

set_option maxHeartbeats 400000 in
theorem rwhole_yes' (s : Bool) (m : Nat) (hm : m ≤ 9007199254740992) (w : World) :
    Calls Tryz.prog 113 #[.float .f64 (W s (m * 2^K))] w fun e w' => e = .returned (.bool true) ∧ w = w' := by
  have hz : Rep (m * 2^K) := rep_int K hm (by unfold K; omega)
  obtain ⟨h1, h2, h3, h4⟩ := whole_facts s hz (Nat.mul_le_mul_right _ hm)
  rw [Nat.mul_div_cancel _ K_pos] at h3 h4
  rw [decide_eq_true rfl] at h4
  generalize W s (m * 2^K) = b at *
  have h1' := h1
  have h2' := h2
  simp only [Bool.or_eq_true, beq_iff_eq] at h1' h2'
  clear hz hm
  go_enter Tryz.func113, Tryz.ntmps113
  go_wp2
  go_ret
  exact ⟨rfl, rfl⟩

set_option maxHeartbeats 400000 in
theorem rwhole_no' (s : Bool) {Z : Nat} (hz : Rep Z) (h : ¬ IsWhole Z) (w : World) :
    Calls Tryz.prog 113 #[.float .f64 (W s Z)] w fun e w' => e = .returned (.bool false) ∧ w = w' := by
  by_cases hle : Z ≤ 9007199254740992 * 2^K
  · obtain ⟨h1, h2, h3, h4⟩ := whole_facts s hz hle
    rw [decide_eq_false (fun e => h ⟨Z / 2^K, div_le_of hle, e.symm⟩)] at h4
    generalize W s Z = b at *
    generalize sg s (Z / 2^K) = n at *
    have h1' := h1
    have h2' := h2
    simp only [Bool.or_eq_true, beq_iff_eq] at h1' h2'
    have h4' := beq_eq_false_iff_ne.1 h4
    clear hz h hle
    go_enter Tryz.func113, Tryz.ntmps113
    go_wp2
    go_ret
    exact ⟨rfl, rfl⟩
  · obtain ⟨h1, h2⟩ := big_facts s hz hle
    cases s
    · obtain ⟨h2, h3⟩ := h2 rfl
      clear h1 hle h hz
      go_enter Tryz.func113, Tryz.ntmps113
      go_wp2
      go_ret
      exact ⟨rfl, rfl⟩
    · have h1 := h1 rfl
      clear h2 hle h hz
      go_enter Tryz.func113, Tryz.ntmps113
      go_wp2
      go_ret
      exact ⟨rfl, rfl⟩


theorem rwhole_fi (n : Int) (h : Good n) (w : World) : Calls Tryz.prog 113 #[.float .f64 (fi n)] w fun e w' => e = .returned (.bool true) ∧ w = w' := by
  have := rwhole_yes' (decide (n < 0)) n.natAbs (natAbs_good h) w
  rw [← fi_W n (natAbs_good h)] at this
  exact this
theorem conv_fi (n : Int) (h : Good n) (w : World) : (convert 50 2 (.float .f64 (fi n))).run Tryz.prog w = .ok (.int .i64 n) w := by
  have h1 := (whole_facts (decide (n < 0)) (rep_fi n (natAbs_good h)) (Nat.mul_le_mul_right _ (natAbs_good h))).conv w
  rw [Nat.mul_div_cancel _ K_pos, sg_dec_natAbs, ← fi_W n (natAbs_good h)] at h1
  exact h1

/-- what is left of b by a -/
def restZ (a b : Int) : Int := if a = 0 then b else if b.tmod a ≠ 0 ∧ (decide (b.tmod a < 0) != decide (a < 0)) = true then b.tmod a + a else b.tmod a
theorem tmod_bd (a b : Int) : (b.tmod a).natAbs ≤ b.natAbs := by
  rw [Int.natAbs_tmod]
  exact Nat.mod_le _ _
theorem tmod_lt' (a b : Int) (h : a ≠ 0) : (b.tmod a).natAbs < a.natAbs := by
  rw [Int.natAbs_tmod]
  exact Nat.mod_lt _ (by omega)
theorem restZ_good {a b : Int} (ha : Good a) (hb : Good b) : Good (restZ a b) := by
  obtain ⟨a1, a2⟩ := ha
  obtain ⟨b1, b2⟩ := hb
  unfold restZ
  split
  · exact ⟨b1, b2⟩
  · rename_i h0
    have h1 := tmod_bd a b
    have h2 := tmod_lt' a b h0
    split
    · rename_i h3
      obtain ⟨h3, h4⟩ := h3
      refine ⟨?_, ?_⟩ <;> (by_cases c1 : b.tmod a < 0 <;> by_cases c2 : a < 0 <;> simp [c1, c2] at h4 <;> omega)
    · exact ⟨by omega, by omega⟩

set_option maxHeartbeats 400000 in
theorem restInt_any (a b : Int) (ha : Good a) (hb : Good b) (w : World) : Calls Tryz.prog 129 #[.int .i64 a, .int .i64 b] w fun e w' => e = .returned (.int .i64 (restZ a b)) ∧ w = w' := by
  obtain ⟨a1, a2⟩ := ha
  obtain ⟨b1, b2⟩ := hb
  by_cases h0 : a = 0
  · have HR : Hid (restZ a b = b) := if_pos h0
    have e0 : (a == 0) = true := by simpa using h0
    clear h0
    go_enter Tryz.func129, Tryz.ntmps129
    go_wp2
    go_ret
    exact ⟨by rw [HR.out]; rfl, rfl⟩
  · have HR : Hid (restZ a b = if b.tmod a ≠ 0 ∧ (decide (b.tmod a < 0) != decide (a < 0)) = true then b.tmod a + a else b.tmod a) := if_neg h0
    have h1 := tmod_bd a b
    have h2 := tmod_lt' a b h0
    have e0 : (a == 0) = false := by simpa using h0
    have e1 : ¬ a = 0 := h0
    by_cases hc : b.tmod a ≠ 0 ∧ (decide (b.tmod a < 0) != decide (a < 0)) = true
    · rw [if_pos hc] at HR
      obtain ⟨c1, c2⟩ := hc
      have c1' : (b.tmod a != 0) = true := by simpa using c1
      have c2' : (!(decide (b.tmod a < 0) == decide (a < 0))) = true := c2
      go_enter Tryz.func129, Tryz.ntmps129
      go_wp2
      go_ret
      exact ⟨by rw [HR.out]; rfl, rfl⟩
    · rw [if_neg hc] at HR
      by_cases c1 : b.tmod a = 0
      · have c1' : (b.tmod a != 0) = false := by simpa using c1
        clear hc c1
        go_enter Tryz.func129, Tryz.ntmps129
        go_wp2
        go_ret
        exact ⟨by rw [HR.out]; rfl, rfl⟩
      · have c1' : (b.tmod a != 0) = true := by simpa using c1
        have c2 : (decide (b.tmod a < 0) != decide (a < 0)) = false := by
          cases hd : (decide (b.tmod a < 0) != decide (a < 0)) with
          | false => rfl
          | true => exact absurd ⟨c1, hd⟩ hc
        have c2' : (!(decide (b.tmod a < 0) == decide (a < 0))) = false := c2
        clear hc
        go_enter Tryz.func129, Tryz.ntmps129
        go_wp2
        go_ret
        exact ⟨by rw [HR.out]; rfl, rfl⟩

/-- what is left of b by a: of numbers -/
noncomputable def restP (a b : Nat) : Nat × Int := match wholeP a, wholeP b with
  | some x, some y => (fi (restZ x y), 0)
  | _, _ => (0, 24)

theorem restP_of {a b : Nat} {x y : Int} (ha : wholeP a = some x) (hb : wholeP b = some y) : restP a b = (fi (restZ x y), 0) := by unfold restP; rw [ha, hb]
theorem restP_no {a b : Nat} (h : wholeP a = none ∨ wholeP b = none) : restP a b = (0, 24) := by
  unfold restP
  rcases h with h | h
  · rw [h]
  · rw [h]; cases wholeP a <;> rfl

set_option maxHeartbeats 400000 in
theorem nrest_any (a b : Nat) (ha : TF a) (hb : TF b) (w : World) : Calls Tryz.prog 136 #[.float .f64 a, .float .f64 b] w fun e w' => e = .returned (.tuple #[.float .f64 (restP a b).1, .int .i64 (restP a b).2]) ∧ w = w' := by
  rcases whole_cases ha with ⟨x, hx, rfl, ex⟩ | ⟨ex, s, Z, hz, rfl, hn⟩
  · rcases whole_cases hb with ⟨y, hy, rfl, ey⟩ | ⟨ey, t, Y, hy, rfl, hm⟩
    · rw [restP_of ex ey]
      have HA := Lib.hid (fun W => nwhole_fi x hx W)
      have HB := Lib.hid (fun W => nwhole_fi y hy W)
      have HR := Lib.hid (fun W => restInt_any x y hx hy W)
      clear ha hb hx hy ex ey
      generalize restZ x y = r at *
      go_enter Tryz.func136, Tryz.ntmps136
      go_wp2_with fail
      refine (HA.out _).mono ?_
      rintro e w' ⟨rfl, rfl⟩
      go_wp2_with fail
      refine (HB.out _).mono ?_
      rintro e w' ⟨rfl, rfl⟩
      go_wp2_with fail
      refine (HR.out _).mono ?_
      rintro e w' ⟨rfl, rfl⟩
      go_wp2
      go_ret2
      exact ⟨rfl, rfl⟩
    · rw [restP_no (.inr ey)]
      have HA := Lib.hid (fun W => nwhole_fi x hx W)
      have HB := Lib.hid (fun W => nwhole_no t hy hm W)
      clear ha hb hx hy ex ey hm
      go_enter Tryz.func136, Tryz.ntmps136
      go_wp2_with fail
      refine (HA.out _).mono ?_
      rintro e w' ⟨rfl, rfl⟩
      go_wp2_with fail
      refine (HB.out _).mono ?_
      rintro e w' ⟨⟨n, rfl⟩, rfl⟩
      go_wp2
      go_ret2
      exact ⟨rfl, rfl⟩
  · rw [restP_no (.inl ex)]
    have HA := Lib.hid (fun W => nwhole_no s hz hn W)
    have HB : Hid (∃ (m : Int) (t : Bool), ∀ W, Calls Tryz.prog 145 #[.float .f64 b] W fun e w' => (∃ m : Int, e = .returned (.tuple #[.int .i64 m, .bool t])) ∧ W = w') := by
      rcases whole_cases hb with ⟨y, hy, rfl, ey⟩ | ⟨ey, t, Y, hy, rfl, hm⟩
      · exact ⟨y, true, fun W => (nwhole_fi y hy W).mono fun e w' ⟨h1, h2⟩ => ⟨⟨y, h1⟩, h2⟩⟩
      · exact ⟨(0 : Int), false, fun W => nwhole_no t hy hm W⟩
    obtain ⟨_, t, hB⟩ := HB.out
    have HB2 := Lib.hid hB
    clear ha hb hz hn ex HB hB
    go_enter Tryz.func136, Tryz.ntmps136
    go_wp2_with fail
    refine (HA.out _).mono ?_
    rintro e w' ⟨⟨n, rfl⟩, rfl⟩
    go_wp2_with fail
    refine (HB2.out _).mono ?_
    rintro e w' ⟨⟨n, rfl⟩, rfl⟩
    go_wp2
    go_ret2
    exact ⟨rfl, rfl⟩

end Go.Proofs.YtiahegjdkejjpaaGreat
namespace Go.Proofs.YtiahegjdkejjpaaGreat
open Go Go.RowKit Go.Proofs Fl

/-- how two numbers stand to each other -/
def cmpF (a b : Nat) : Ordering := (Ieee.double.order a b).getD .eq
theorem order_tf {a b : Nat} (ha : TF a) (hb : TF b) : FloatKind.f64.format.order a b = some (cmpF a b) := by
  obtain ⟨s, Z, hz, rfl, _⟩ := ha
  obtain ⟨t, Y, hy, rfl, _⟩ := hb
  show Ieee.double.order _ _ = _
  unfold cmpF
  rw [order_W s t hz hy]
  rfl
theorem cmpF_swap {a b : Nat} (ha : TF a) (hb : TF b) : cmpF b a = (cmpF a b).swap := by
  obtain ⟨s, Z, hz, rfl, _⟩ := ha
  obtain ⟨t, Y, hy, rfl, _⟩ := hb
  unfold cmpF
  rw [order_W s t hz hy, order_W t s hy hz]
  show compare _ _ = (compare _ _).swap
  rcases Int.lt_trichotomy (sg s Z) (sg t Y) with h | h | h
  · rw [cmp_lt h, cmp_gt h]; rfl
  · rw [h, cmp_eq]; rfl
  · rw [cmp_lt h, cmp_gt h]; rfl
theorem cmpF_fi {a b : Int} (ha : Good a) (hb : Good b) : cmpF (fi a) (fi b) = compare a b := by
  unfold cmpF
  rw [order_fi a b (natAbs_good ha) (natAbs_good hb)]
  rfl
def maxP (a b : Nat) : Nat := if cmpF a b = .lt then b else a
def minP (a b : Nat) : Nat := if cmpF a b = .gt then b else a
theorem maxP_tf {a b : Nat} (ha : TF a) (hb : TF b) : TF (maxP a b) := by unfold maxP; split <;> assumption
theorem minP_tf {a b : Nat} (ha : TF a) (hb : TF b) : TF (minP a b) := by unfold minP; split <;> assumption

set_option maxHeartbeats 400000 in
theorem nmax_any (a b : Nat) (ha : TF a) (hb : TF b) (w : World) : Calls Tryz.prog 134 #[.float .f64 a, .float .f64 b] w fun e w' => e = .returned (.float .f64 (maxP a b)) ∧ w = w' := by
  have h1 := order_tf ha hb
  have h2 := order_tf hb ha
  rw [cmpF_swap ha hb] at h2
  unfold maxP
  clear ha hb
  cases hc : cmpF a b
  all_goals
    rw [hc] at h1 h2
    clear hc
    simp only [Ordering.swap] at h2
    go_enter Tryz.func134, Tryz.ntmps134
    go_wp2
    go_ret
    exact ⟨rfl, rfl⟩

set_option maxHeartbeats 400000 in
theorem nmin_any (a b : Nat) (ha : TF a) (hb : TF b) (w : World) : Calls Tryz.prog 135 #[.float .f64 a, .float .f64 b] w fun e w' => e = .returned (.float .f64 (minP a b)) ∧ w = w' := by
  have h1 := order_tf ha hb
  have h2 := order_tf hb ha
  rw [cmpF_swap ha hb] at h2
  unfold minP
  clear ha hb
  cases hc : cmpF a b
  all_goals
    rw [hc] at h1 h2
    clear hc
    simp only [Ordering.swap] at h2
    go_enter Tryz.func135, Tryz.ntmps135
    go_wp2
    go_ret
    exact ⟨rfl, rfl⟩

set_option maxHeartbeats 400000 in
theorem arith_1 (a b : Nat) (ha : TF a) (hb : TF b) (w : World) : Calls Tryz.prog 102 #[.int .i64 1, .float .f64 a, .float .f64 b] w fun e w' => e = .returned (.tuple #[.float .f64 (doneP (opB .add a b)).1, .int .i64 (doneP (opB .add a b)).2]) ∧ w = w' := by
  have HC := Lib.hid (fun W => nadd_any a b ha hb W)
  clear ha hb
  generalize doneP (opB .add a b) = d at *
  go_enter Tryz.func102, Tryz.ntmps102
  go_wp2_with fail
  refine (HC.out _).mono ?_
  rintro e w' ⟨rfl, rfl⟩
  go_wp2
  go_ret2
  exact ⟨rfl, rfl⟩

set_option maxHeartbeats 400000 in
theorem arith_2 (a b : Nat) (ha : TF a) (hb : TF b) (w : World) : Calls Tryz.prog 102 #[.int .i64 2, .float .f64 a, .float .f64 b] w fun e w' => e = .returned (.tuple #[.float .f64 (doneP (opB .sub a b)).1, .int .i64 (doneP (opB .sub a b)).2]) ∧ w = w' := by
  have HC := Lib.hid (fun W => nsub_any a b ha hb W)
  clear ha hb
  generalize doneP (opB .sub a b) = d at *
  go_enter Tryz.func102, Tryz.ntmps102
  go_wp2_with fail
  refine (HC.out _).mono ?_
  rintro e w' ⟨rfl, rfl⟩
  go_wp2
  go_ret2
  exact ⟨rfl, rfl⟩

set_option maxHeartbeats 400000 in
theorem arith_3 (a b : Nat) (ha : TF a) (hb : TF b) (w : World) : Calls Tryz.prog 102 #[.int .i64 3, .float .f64 a, .float .f64 b] w fun e w' => e = .returned (.tuple #[.float .f64 (doneP (opB .mul a b)).1, .int .i64 (doneP (opB .mul a b)).2]) ∧ w = w' := by
  have HC := Lib.hid (fun W => nmul_any a b ha hb W)
  clear ha hb
  generalize doneP (opB .mul a b) = d at *
  go_enter Tryz.func102, Tryz.ntmps102
  go_wp2_with fail
  refine (HC.out _).mono ?_
  rintro e w' ⟨rfl, rfl⟩
  go_wp2
  go_ret2
  exact ⟨rfl, rfl⟩

set_option maxHeartbeats 400000 in
theorem arith_4 (a b : Nat) (ha : TF a) (hb : TF b) (w : World) : Calls Tryz.prog 102 #[.int .i64 4, .float .f64 a, .float .f64 b] w fun e w' => e = .returned (.tuple #[.float .f64 (divP a b).1, .int .i64 (divP a b).2]) ∧ w = w' := by
  have HC := Lib.hid (fun W => ndiv_any a b ha hb W)
  clear ha hb
  generalize divP a b = d at *
  go_enter Tryz.func102, Tryz.ntmps102
  go_wp2_with fail
  refine (HC.out _).mono ?_
  rintro e w' ⟨rfl, rfl⟩
  go_wp2
  go_ret2
  exact ⟨rfl, rfl⟩

set_option maxHeartbeats 400000 in
theorem arith_5 (a b : Nat) (ha : TF a) (hb : TF b) (w : World) : Calls Tryz.prog 102 #[.int .i64 5, .float .f64 a, .float .f64 b] w fun e w' => e = .returned (.tuple #[.float .f64 (maxP a b), .int .i64 0]) ∧ w = w' := by
  have HC := Lib.hid (fun W => nmax_any a b ha hb W)
  clear ha hb
  generalize maxP a b = d at *
  go_enter Tryz.func102, Tryz.ntmps102
  go_wp2_with fail
  refine (HC.out _).mono ?_
  rintro e w' ⟨rfl, rfl⟩
  go_wp2
  go_ret2
  exact ⟨rfl, rfl⟩

set_option maxHeartbeats 400000 in
theorem arith_6 (a b : Nat) (ha : TF a) (hb : TF b) (w : World) : Calls Tryz.prog 102 #[.int .i64 6, .float .f64 a, .float .f64 b] w fun e w' => e = .returned (.tuple #[.float .f64 (minP a b), .int .i64 0]) ∧ w = w' := by
  have HC := Lib.hid (fun W => nmin_any a b ha hb W)
  clear ha hb
  generalize minP a b = d at *
  go_enter Tryz.func102, Tryz.ntmps102
  go_wp2_with fail
  refine (HC.out _).mono ?_
  rintro e w' ⟨rfl, rfl⟩
  go_wp2
  go_ret2
  exact ⟨rfl, rfl⟩

set_option maxHeartbeats 400000 in
theorem arith_7 (a b : Nat) (ha : TF a) (hb : TF b) (w : World) : Calls Tryz.prog 102 #[.int .i64 7, .float .f64 a, .float .f64 b] w fun e w' => e = .returned (.tuple #[.float .f64 (restP a b).1, .int .i64 (restP a b).2]) ∧ w = w' := by
  have HC := Lib.hid (fun W => nrest_any a b ha hb W)
  clear ha hb
  generalize restP a b = d at *
  go_enter Tryz.func102, Tryz.ntmps102
  go_wp2_with fail
  refine (HC.out _).mono ?_
  rintro e w' ⟨rfl, rfl⟩
  go_wp2
  go_ret2
  exact ⟨rfl, rfl⟩

end Go.Proofs.YtiahegjdkejjpaaGreat
namespace Go.Proofs.YtiahegjdkejjpaaGreat
open Go Go.RowKit Go.Proofs Fl

abbrev one : Nat := 4607182418800017408

theorem tf_eq {a b : Nat} (ha : TF a) (hb : TF b) : cmpF a b = .eq ↔ a = b := by
  constructor
  · obtain ⟨s, Z, hz, rfl, h1⟩ := ha
    obtain ⟨t, Y, hy, rfl, h2⟩ := hb
    intro h
    unfold cmpF at h
    rw [order_W s t hz hy] at h
    have hsg : sg s Z = sg t Y := by
      rcases Int.lt_trichotomy (sg s Z) (sg t Y) with h3 | h3 | h3
      · rw [cmp_lt h3] at h; cases h
      · exact h3
      · rw [cmp_gt h3] at h; cases h
    have hzy : Z = Y := by
      have e1 := natAbs_sg s Z
      have e2 := natAbs_sg t Y
      rw [hsg] at e1
      omega
    subst hzy
    by_cases h0 : Z = 0
    · rw [h1 h0, h2 h0]
    · have : s = t := by
        cases s <;> cases t <;> first | rfl | (simp [sg] at hsg; omega)
      rw [this]
  · rintro rfl
    obtain ⟨s, Z, hz, rfl, h1⟩ := ha
    unfold cmpF
    rw [order_W s s hz hz, cmp_eq]
    rfl

/-- does a relation hold? -/
def relB (f : Int) (a b : Nat) : Bool :=
  if f = 11 then cmpF a b == .lt else if f = 12 then cmpF a b != .gt else if f = 13 then cmpF a b == .eq else if f = 14 then cmpF a b != .lt else if f = 15 then cmpF a b == .gt else cmpF a b != .eq
def flagF (t : Bool) : Nat := if t then one else 0
theorem tf_flag (t : Bool) : TF (flagF t) := by cases t; exact tf_zero; exact tf_one
/-- a function of truths -/
def logB (f : Int) (x y : Bool) : Bool := if f = 21 then x && y else if f = 22 then x || y else if f = 23 then !(x && y) else !(x || y)
def isT (a : Nat) : Bool := decide (a = 0 ∨ a = one)
def tv (a : Nat) : Bool := decide (a = one)
def logP (f : Int) (a b : Nat) : Nat × Int := if isT a && isT b then (flagF (logB f (tv a) (tv b)), 0) else (0, 24)

theorem int6 {P : Int → Prop} (f : Int) (h1 : 11 ≤ f) (h2 : f ≤ 16) (a : P 11) (b : P 12) (c : P 13) (d : P 14) (e : P 15) (g : P 16) : P f := by
  have : f = 11 ∨ f = 12 ∨ f = 13 ∨ f = 14 ∨ f = 15 ∨ f = 16 := by omega
  rcases this with rfl | rfl | rfl | rfl | rfl | rfl <;> assumption
theorem int4 {P : Int → Prop} (f : Int) (h1 : 21 ≤ f) (h2 : f ≤ 24) (a : P 21) (b : P 22) (c : P 23) (d : P 24) : P f := by
  have : f = 21 ∨ f = 22 ∨ f = 23 ∨ f = 24 := by omega
  rcases this with rfl | rfl | rfl | rfl <;> assumption

set_option maxHeartbeats 2000000 in
theorem relate_any (f : Int) (hf : 11 ≤ f) (hf2 : f ≤ 16) (a b : Nat) (ha : TF a) (hb : TF b) (w : World) : Calls Tryz.prog 107 #[.int .i64 f, .float .f64 a, .float .f64 b] w fun e w' => e = .returned (.tuple #[.bool (relB f a b), .int .i64 0]) ∧ w = w' := by
  have h1 := order_tf ha hb
  refine int6 (P := fun f => Calls Tryz.prog 107 #[.int .i64 f, .float .f64 a, .float .f64 b] w fun e w' => e = .returned (.tuple #[.bool (relB f a b), .int .i64 0]) ∧ w = w') f hf hf2 ?_ ?_ ?_ ?_ ?_ ?_
  all_goals
    unfold relB
    clear ha hb hf hf2
    cases hc : cmpF a b
    all_goals
      rw [hc] at h1
      clear hc
      go_enter Tryz.func107, Tryz.ntmps107
      go_wp2
      go_ret2
      exact ⟨rfl, rfl⟩

def tabN (f : Int) : Nat := if f = 21 then 8 else if f = 22 then 14 else if f = 23 then 7 else 1
set_option maxHeartbeats 2000000 in
theorem table_any (f : Int) (hf : 21 ≤ f) (hf2 : f ≤ 24) (w : World) : Calls Tryz.prog 74 #[.int .i64 f] w fun e w' => e = .returned (.tuple #[.int .u8 (tabN f : Nat), .bool true]) ∧ w = w' := by
  refine int4 (P := fun f => Calls Tryz.prog 74 #[.int .i64 f] w fun e w' => e = .returned (.tuple #[.int .u8 (tabN f : Nat), .bool true]) ∧ w = w') f hf hf2 ?_ ?_ ?_ ?_
  all_goals
    clear hf hf2
    go_enter Tryz.func74, Tryz.ntmps74
    go_wp2
    go_ret2
    exact ⟨rfl, rfl⟩

end Go.Proofs.YtiahegjdkejjpaaGreat
namespace Go.Proofs.YtiahegjdkejjpaaGreat
open Go Go.RowKit Go.Proofs Fl

set_option maxHeartbeats 400000 in
theorem flag_any (t : Bool) (w : World) : Calls Tryz.prog 93 #[.bool t] w fun e w' => e = .returned (.float .f64 (flagF t)) ∧ w = w' := by
  cases t
  all_goals
    go_enter Tryz.func93, Tryz.ntmps93
    go_wp2
    go_ret
    exact ⟨rfl, rfl⟩
/-- what a test of a truth asks -/
structure TruthF (a : Nat) (z o : Bool) : Prop where
  e0 : (FloatKind.f64.format.order a 0 == some .eq) = z
  e1 : (FloatKind.f64.format.order a 4607182418800017408 == some .eq) = o
  n0 : (FloatKind.f64.format.order a 0 != some .eq) = !z
  n1 : (FloatKind.f64.format.order a 4607182418800017408 != some .eq) = !o
  tz : z = decide (a = 0)
  tone : o = decide (a = one)
theorem truthF {a : Nat} (h : TF a) : ∃ z o, TruthF a z o := by
  have h0 : (FloatKind.f64.format.order a 0 == some .eq) = decide (a = 0) := tf_is_zero h
  have h1 : (FloatKind.f64.format.order a 4607182418800017408 == some .eq) = decide (a = one) := by
    rw [order_tf h tf_one, Bool.eq_iff_iff]
    rw [beq_iff_eq, decide_eq_true_eq]
    constructor
    · intro e; injection e with e; exact (tf_eq h tf_one).1 e
    · intro e; rw [(tf_eq h tf_one).2 e]
  exact ⟨_, _, h0, h1, by rw [bne, h0], by rw [bne, h1], rfl, rfl⟩
theorem beq_of {p : Option Ordering} (h : (p == some .eq) = true) : p = some .eq := beq_iff_eq.1 h
theorem bne_of {p : Option Ordering} (h : (p == some .eq) = false) : ¬ p = some .eq := beq_eq_false_iff_ne.1 h

set_option maxHeartbeats 400000 in
theorem truth_any (a : Nat) (h : TF a) (w : World) : Calls Tryz.prog 151 #[.float .f64 a] w fun e w' => e = .returned (.tuple #[.bool (tv a), .bool (isT a)]) ∧ w = w' := by
  obtain ⟨z, o, h0, h1, h2, h3, hz, ho⟩ := truthF h
  have ht : tv a = o := ho.symm
  have hi : isT a = (z || o) := by rw [hz, ho]; unfold isT; rw [Bool.decide_or]
  rw [ht, hi]
  clear h ht hi hz ho
  cases z <;> cases o
  all_goals
    first | have h0' := beq_of h0 | have h0' := bne_of h0
    first | have h1' := beq_of h1 | have h1' := bne_of h1
    go_enter Tryz.func151, Tryz.ntmps151
    go_wp2
    go_ret2
    exact ⟨rfl, rfl⟩

/-- what a function of two numbers tells; pw: what powers tell -/
noncomputable def oneP (pw : Nat → Nat → Nat × Int) (f : Int) (a b : Nat) : Nat × Int :=
  if f = 1 then doneP (opB .add a b) else if f = 2 then doneP (opB .sub a b) else if f = 3 then doneP (opB .mul a b) else if f = 4 then divP a b
  else if f = 5 then (maxP a b, 0) else if f = 6 then (minP a b, 0) else if f = 7 then restP a b else if f = 8 then pw a b
  else if 11 ≤ f ∧ f ≤ 16 then (flagF (relB f a b), 0) else logP f a b

/-- raising to a power tells pw, both in the program and in the reference -/
structure PowIs (pw : Nat → Nat → Nat × Int) : Prop where
  prog : ∀ a b, TF a → TF b → ∀ W, Calls Tryz.prog 137 #[.float .f64 a, .float .f64 b] W fun e w' => e = .returned (.tuple #[.float .f64 (pw a b).1, .int .i64 (pw a b).2]) ∧ W = w'
  ref : ∀ a b, TF a → TF b → ∀ W, Calls Tryz.prog 115 #[.float .f64 a, .float .f64 b] W fun e w' => e = .returned (.tuple #[.float .f64 (pw a b).1, .int .i64 (pw a b).2]) ∧ W = w'
  tf : ∀ a b, TF a → TF b → (∃ c, TF c ∧ pw a b = (c, 0)) ∨ pw a b = (0, 24)

set_option maxHeartbeats 400000 in
theorem arith_8 {pw : Nat → Nat → Nat × Int} (hp : PowIs pw) (a b : Nat) (ha : TF a) (hb : TF b) (w : World) : Calls Tryz.prog 102 #[.int .i64 8, .float .f64 a, .float .f64 b] w fun e w' => e = .returned (.tuple #[.float .f64 (pw a b).1, .int .i64 (pw a b).2]) ∧ w = w' := by
  have HC := Lib.hid (fun W => hp.prog a b ha hb W)
  clear ha hb hp
  generalize pw a b = d at *
  go_enter Tryz.func102, Tryz.ntmps102
  go_wp2_with fail
  refine (HC.out _).mono ?_
  rintro e w' ⟨rfl, rfl⟩
  go_wp2
  go_ret2
  exact ⟨rfl, rfl⟩
theorem int8 {P : Int → Prop} (f : Int) (h1 : 1 ≤ f) (h2 : f ≤ 8) (a : P 1) (b : P 2) (c : P 3) (d : P 4) (e : P 5) (g : P 6) (h : P 7) (i : P 8) : P f := by
  have : f = 1 ∨ f = 2 ∨ f = 3 ∨ f = 4 ∨ f = 5 ∨ f = 6 ∨ f = 7 ∨ f = 8 := by omega
  rcases this with rfl | rfl | rfl | rfl | rfl | rfl | rfl | rfl <;> assumption
theorem arith_any {pw : Nat → Nat → Nat × Int} (hp : PowIs pw) (f : Int) (hf : 1 ≤ f) (hf2 : f ≤ 8) (a b : Nat) (ha : TF a) (hb : TF b) (w : World) : Calls Tryz.prog 102 #[.int .i64 f, .float .f64 a, .float .f64 b] w fun e w' => e = .returned (.tuple #[.float .f64 (oneP pw f a b).1, .int .i64 (oneP pw f a b).2]) ∧ w = w' :=
  int8 (P := fun f => Calls Tryz.prog 102 #[.int .i64 f, .float .f64 a, .float .f64 b] w fun e w' => e = .returned (.tuple #[.float .f64 (oneP pw f a b).1, .int .i64 (oneP pw f a b).2]) ∧ w = w') f hf hf2
    (arith_1 a b ha hb w) (arith_2 a b ha hb w) (arith_3 a b ha hb w) (arith_4 a b ha hb w) (arith_5 a b ha hb w) (arith_6 a b ha hb w) (arith_7 a b ha hb w) (arith_8 hp a b ha hb w)
theorem oneP_rel {pw : Nat → Nat → Nat × Int} {f : Int} (h1 : 11 ≤ f) (h2 : f ≤ 16) (a b : Nat) : oneP pw f a b = (flagF (relB f a b), 0) := by
  unfold oneP
  rw [if_neg (by omega), if_neg (by omega), if_neg (by omega), if_neg (by omega), if_neg (by omega), if_neg (by omega), if_neg (by omega), if_neg (by omega), if_pos ⟨h1, h2⟩]
theorem oneP_log {pw : Nat → Nat → Nat × Int} {f : Int} (h1 : 21 ≤ f) (a b : Nat) : oneP pw f a b = logP f a b := by
  unfold oneP
  rw [if_neg (by omega), if_neg (by omega), if_neg (by omega), if_neg (by omega), if_neg (by omega), if_neg (by omega), if_neg (by omega), if_neg (by omega), if_neg (by omega)]
theorem logP_yes {f : Int} {a b : Nat} (h : (isT a && isT b) = true) : logP f a b = (flagF (logB f (tv a) (tv b)), 0) := if_pos h
theorem logP_no {f : Int} {a b : Nat} (h : (isT a && isT b) = false) : logP f a b = (0, 24) := if_neg (by rw [h]; decide)

end Go.Proofs.YtiahegjdkejjpaaGreat
namespace Go.Proofs.YtiahegjdkejjpaaGreat
open Go Go.RowKit Go.Proofs Fl

theorem and63 (i : Nat) (h : i ≤ 2097152) : bits .and .i64 (i : Int) 63 = ((i % 64 : Nat) : Int) := by
  show IntKind.i64.wrap ((BitVec.ofInt 64 (i : Int) &&& BitVec.ofInt 64 ((63 : Nat) : Int)).toNat : Int) = _
  have e : i &&& 63 = i % 64 := Nat.and_two_pow_sub_one_eq_mod i 6
  rw [BitVec.toNat_and, ofInt_u64 i (by omega), ofInt_u64 63 (by omega), e, IntKind.wrap_i64]
  omega
theorem wrap_u64_nat (n : Nat) (h : n < 18446744073709551616) : IntKind.u64.wrap (n : Int) = n := by rw [IntKind.wrap_u64]; omega
theorem div_pow (x r : Nat) : (x : Int) / 2 ^ r = ((x / 2 ^ r : Nat) : Int) := by
  rw [Int.natCast_ediv, Int.natCast_pow]
  rfl
theorem test_div (x r : Nat) : x.testBit r = decide (x / 2 ^ r % 2 = 1) := Nat.testBit_eq_decide_div_mod_eq
theorem at_bit (x i : Nat) (hx : x < 18446744073709551616) (hi : i ≤ 2097152) :
    (bits .and .u64 ((x : Int) / 2 ^ min (IntKind.u64.wrap (bits .and .i64 (i : Int) 63)).toNat 64) 1 == 1) = x.testBit (i % 64) := by
  rw [and63 i hi, wrap_u64_nat _ (by omega), Int.toNat_natCast, Nat.min_eq_left (by omega), div_pow]
  have h2 : x / 2 ^ (i % 64) ≤ x := Nat.div_le_self _ _
  have h1 := u64_and_nat (x / 2 ^ (i % 64)) 1 (by omega) (by omega)
  rw [show ((1 : Nat) : Int) = 1 from rfl] at h1
  rw [h1, Nat.and_one_is_mod, test_div, Bool.eq_iff_iff, beq_iff_eq, decide_eq_true_eq]
  omega

set_option maxHeartbeats 400000 in
theorem bat_any (b o n c len i x : Nat) (w : World) (hi : i < len) (hl : len ≤ 1048576) (hin : i / 64 < n) (hc : w.cell? ⟨b, o + i / 64, none⟩ = some (.int .u64 x)) (hx : x < 18446744073709551616) :
    Calls Tryz.prog 78 #[.agg #[.slice (some ⟨b, o, none⟩) n c, .int .i64 (len : Int)], .int .i64 (i : Int)] w fun e w' => e = .returned (.bool (x.testBit (i % 64))) ∧ Below w.heap.size w w' := by
  have h1 := fun a => cell_box1 hc a
  have HE := Lib.hid (at_bit x i hx (by omega))
  go_enter Tryz.func78, Tryz.ntmps78
  go_wp2
  go_ret
  exact ⟨by rw [← HE.out]; rfl, bel1 _ _⟩
set_option maxHeartbeats 400000 in
theorem blen_any (a : Value) (len : Int) (w : World) :
    Calls Tryz.prog 59 #[.agg #[a, .int .i64 len]] w fun e w' => e = .returned (.int .i64 len) ∧ Below w.heap.size w w' := by
  go_enter Tryz.func59, Tryz.ntmps59
  go_wp2
  go_ret
  exact ⟨rfl, bel1 _ _⟩

/-- a word of m bits -/
def wd (f : Nat → Bool) : Nat → Nat
  | 0 => 0
  | m + 1 => wd f m + (if f m then 2 ^ m else 0)
theorem wd_lt (f : Nat → Bool) (m : Nat) : Go.Proofs.YtiahegjdkejjpaaGreat.wd f m < 2 ^ m := by
  induction m with
  | zero => simp [Go.Proofs.YtiahegjdkejjpaaGreat.wd]
  | succ m ih =>
    have : 2 ^ (m + 1) = 2 ^ m + 2 ^ m := by rw [Nat.pow_succ]; omega
    unfold Go.Proofs.YtiahegjdkejjpaaGreat.wd
    split <;> omega
theorem wd_bit (f : Nat → Bool) (m j : Nat) : (Go.Proofs.YtiahegjdkejjpaaGreat.wd f m).testBit j = (decide (j < m) && f j) := by
  induction m with
  | zero => simp [Go.Proofs.YtiahegjdkejjpaaGreat.wd]
  | succ m ih =>
    have hlt := wd_lt f m
    unfold Go.Proofs.YtiahegjdkejjpaaGreat.wd
    by_cases hf : f m = true
    · rw [if_pos hf]
      rcases Nat.lt_trichotomy j m with h | h | h
      · rw [Nat.add_comm, Nat.testBit_two_pow_add_gt h, ih]
        simp [h, Nat.lt_succ_of_lt h]
      · subst h
        rw [Nat.add_comm, Nat.testBit_two_pow_add_eq, ih]
        simp [hf]
      · have h2 : Go.Proofs.YtiahegjdkejjpaaGreat.wd f m + 2 ^ m < 2 ^ j := by
          have h3 : 2 ^ (m + 1) ≤ 2 ^ j := Nat.pow_le_pow_right (by omega) h
          have : 2 ^ (m + 1) = 2 ^ m + 2 ^ m := by rw [Nat.pow_succ]; omega
          omega
        rw [Nat.testBit_lt_two_pow h2]
        have : ¬ j < m + 1 := by omega
        simp [this]
    · rw [if_neg hf, Nat.add_zero, ih]
      by_cases h : j < m
      · simp [h, Nat.lt_succ_of_lt h]
      · by_cases h2 : j = m
        · subst h2
          have : f j = false := by simpa using hf
          simp [this]
        · have h3 : ¬ j < m + 1 := by omega
          simp [h, h3]
/-- the words of n truths of which i are packed -/
def packW (l : Nat → Bool) (i j : Nat) : Nat := Go.Proofs.YtiahegjdkejjpaaGreat.wd (fun m => decide (64 * j + m < i) && l (64 * j + m)) 64
theorem packW_lt (l : Nat → Bool) (i j : Nat) : packW l i j < 18446744073709551616 := wd_lt _ 64
theorem packW_bit (l : Nat → Bool) (i j m : Nat) (hm : m < 64) : (packW l i j).testBit m = (decide (64 * j + m < i) && l (64 * j + m)) := by
  unfold packW
  rw [wd_bit]
  simp [hm]
theorem packW_high (l : Nat → Bool) (i j m : Nat) (hm : ¬ m < 64) : (packW l i j).testBit m = false :=
  Nat.testBit_lt_two_pow (Nat.lt_of_lt_of_le (packW_lt l i j) (Nat.pow_le_pow_right (n := 2) (i := 64) (by decide) (by omega)))
theorem packW_zero (l : Nat → Bool) (j : Nat) : packW l 0 j = 0 := by
  apply Nat.eq_of_testBit_eq
  intro m
  by_cases hm : m < 64
  · rw [packW_bit _ _ _ _ hm]; simp
  · rw [Nat.zero_testBit, packW_high _ _ _ _ hm]
theorem packW_skip (l : Nat → Bool) (i j : Nat) (h : l i = false ∨ j ≠ i / 64) : packW l (i + 1) j = packW l i j := by
  apply Nat.eq_of_testBit_eq
  intro m
  by_cases hm : m < 64
  · rw [packW_bit _ _ _ _ hm, packW_bit _ _ _ _ hm]
    by_cases e : 64 * j + m = i
    · rcases h with h | h
      · rw [e, h]; simp
      · exact absurd (by omega) h
    · congr 1
      rw [decide_eq_decide]
      omega
  · rw [packW_high _ _ _ _ hm, packW_high _ _ _ _ hm]
theorem packW_set (l : Nat → Bool) (i : Nat) (h : l i = true) : packW l (i + 1) (i / 64) = packW l i (i / 64) ||| 2 ^ (i % 64) := by
  apply Nat.eq_of_testBit_eq
  intro m
  rw [Nat.testBit_or, Nat.testBit_two_pow]
  by_cases hm : m < 64
  · rw [packW_bit _ _ _ _ hm, packW_bit _ _ _ _ hm]
    by_cases e : i % 64 = m
    · have e2 : 64 * (i / 64) + m = i := by omega
      rw [e2, h]
      simp [e]
    · have e2 : 64 * (i / 64) + m ≠ i := by omega
      simp only [e, decide_false, Bool.or_false]
      congr 1
      rw [decide_eq_decide]
      omega
  · rw [packW_high _ _ _ _ hm, packW_high _ _ _ _ hm]
    have e : ¬ i % 64 = m := by omega
    simp [e]
end Go.Proofs.YtiahegjdkejjpaaGreat
