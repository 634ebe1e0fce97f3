/- The walk of fold.whole, whatever comes of it, and that it tells what fold.One tells. Conditions: as each theorem says. -/
import Derived.Test.YtdddmehchfnppaaGreatDoorMg26
namespace Go.Proofs.YtdddmehchfnppaaGreatDoor
open Go Go.RowKit Go.Proofs Fl

def goodB (n : Int) : Bool := decide (-9007199254740992 ≤ n ∧ n ≤ 9007199254740992)
theorem goodB_iff {n : Int} : goodB n = true ↔ Good n := by unfold goodB; rw [decide_eq_true_eq]
/-- a whole number that isn't too great -/
def okZ (n : Int) : Option Int := if goodB n then some n else none
/-- a function of two whole numbers -/
def wholeZ (q a b : Int) : Option Int :=
  if q = 1 then okZ (a + b) else if q = 2 then okZ (a - b) else if q = 3 then okZ (a * b) else if q = 5 then some (max a b) else if q = 6 then some (min a b) else none
/-- a number and true, or nothing and false -/
def OptR (r : Option Int) (w : World) (e : Ending) (w' : World) : Prop := e = .returned (.tuple #[.int .i64 (r.getD 0), .bool r.isSome]) ∧ w = w'

set_option maxHeartbeats 1000000 in
theorem fit_all (a : Int) (w : World) : Calls Tryz.prog 140 #[.int .i64 a] w fun e w' => e = .returned (.tuple #[.int .i64 a, .bool (goodB a)]) ∧ w = w' := by
  by_cases h : goodB a = true
  · rw [h]; exact fit_any a (goodB_iff.1 h) w
  · have h' : goodB a = false := by simpa using h
    rw [h']
    have hn : ¬ (-9007199254740992 ≤ a ∧ a ≤ 9007199254740992) := fun e => h (goodB_iff.2 e)
    clear h h'
    by_cases hl : -9007199254740992 ≤ a
    · have hg : ¬ a ≤ 9007199254740992 := fun e => hn ⟨hl, e⟩
      clear hn
      go_enter Tryz.func140, Tryz.ntmps140
      go_wp2
      go_ret2
      exact ⟨by simp, rfl⟩
    · clear hn
      go_enter Tryz.func140, Tryz.ntmps140
      go_wp2
      go_ret2
      exact ⟨by simp, rfl⟩
set_option maxHeartbeats 1000000 in
theorem pair_all (a : Int) (t : Bool) (w : World) : Calls Tryz.prog 139 #[.int .i64 a, .bool t] w fun e w' => e = .returned (.tuple #[.int .i64 (if t then a else 0), .bool t]) ∧ w = w' := by
  cases t
  all_goals
    go_enter Tryz.func139, Tryz.ntmps139
    go_wp2
    go_ret2
    exact ⟨rfl, rfl⟩

theorem okZ_ret (n : Int) : (okZ n).getD 0 = (if goodB n then n else 0) ∧ (okZ n).isSome = goodB n := by
  unfold okZ
  cases goodB n <;> exact ⟨rfl, rfl⟩

theorem pair_okZ (a : Int) (w : World) : Calls Tryz.prog 139 #[.int .i64 a, .bool (goodB a)] w fun e w' => e = .returned (.tuple #[.int .i64 ((okZ a).getD 0), .bool (okZ a).isSome]) ∧ w = w' := by
  have := pair_all a (goodB a) w
  rw [(okZ_ret a).1, (okZ_ret a).2]
  exact this

set_option maxHeartbeats 1000000 in
theorem addInt_all (a b : Int) (ha : Good a) (hb : Good b) (w : World) : Calls Tryz.prog 115 #[.int .i64 a, .int .i64 b] w (OptR (okZ (a + b)) w) := by
  have HA := Lib.hid (good_any a ha)
  have HB := Lib.hid (good_any b hb)
  obtain ⟨h1, h2⟩ := ha
  obtain ⟨h3, h4⟩ := hb
  have HF := Lib.hid (fit_all (a + b))
  have HP := Lib.hid (pair_okZ (a + b))
  unfold OptR
  generalize goodB (a + b) = t at *
  generalize okZ (a + b) = r at *
  go_enter Tryz.func115, Tryz.ntmps115
  go_wp2_with fail
  refine (HA.out _).mono ?_
  rintro e w' ⟨rfl, rfl⟩
  go_wp2_with fail
  refine (HB.out _).mono ?_
  rintro e w' ⟨rfl, rfl⟩
  go_wp2_with fail
  refine (HF.out _).mono ?_
  rintro e w' ⟨rfl, rfl⟩
  go_wp2_with fail
  refine (HP.out _).mono ?_
  rintro e w' ⟨rfl, rfl⟩
  go_wp2
  go_ret2
  exact ⟨rfl, rfl⟩
set_option maxHeartbeats 1000000 in
theorem subInt_all (a b : Int) (ha : Good a) (hb : Good b) (w : World) : Calls Tryz.prog 129 #[.int .i64 a, .int .i64 b] w (OptR (okZ (a - b)) w) := by
  have HA := Lib.hid (good_any a ha)
  have HB := Lib.hid (good_any b hb)
  obtain ⟨h1, h2⟩ := ha
  obtain ⟨h3, h4⟩ := hb
  have HF := Lib.hid (fit_all (a - b))
  have HP := Lib.hid (pair_okZ (a - b))
  unfold OptR
  generalize goodB (a - b) = t at *
  generalize okZ (a - b) = r at *
  go_enter Tryz.func129, Tryz.ntmps129
  go_wp2_with fail
  refine (HA.out _).mono ?_
  rintro e w' ⟨rfl, rfl⟩
  go_wp2_with fail
  refine (HB.out _).mono ?_
  rintro e w' ⟨rfl, rfl⟩
  go_wp2_with fail
  refine (HF.out _).mono ?_
  rintro e w' ⟨rfl, rfl⟩
  go_wp2_with fail
  refine (HP.out _).mono ?_
  rintro e w' ⟨rfl, rfl⟩
  go_wp2
  go_ret2
  exact ⟨rfl, rfl⟩

theorem mul_iff (a b : Int) (hb : b ≠ 0) : goodB (a * b) = decide ((a.natAbs : Int) ≤ 9007199254740992 / (b.natAbs : Int)) := by
  have hb' : 0 < b.natAbs := by omega
  unfold goodB
  rw [decide_eq_decide]
  have e1 : (-9007199254740992 ≤ a * b ∧ a * b ≤ 9007199254740992) ↔ (a * b).natAbs ≤ 9007199254740992 := by omega
  rw [e1, Int.natAbs_mul]
  have e2 : (a.natAbs : Int) ≤ 9007199254740992 / (b.natAbs : Int) ↔ a.natAbs ≤ 9007199254740992 / b.natAbs := by
    rw [show (9007199254740992 : Int) / (b.natAbs : Int) = ((9007199254740992 / b.natAbs : Nat) : Int) by rw [Int.natCast_ediv]; rfl]
    exact Int.ofNat_le
  rw [e2, Nat.le_div_iff_mul_le hb']

theorem tdn (b : Int) (h : b < 0) : wrap64 (-Int.tdiv 9007199254740992 b) = 9007199254740992 / -b := by
  have e : -Int.tdiv 9007199254740992 b = 9007199254740992 / -b := by
    rw [← Int.tdiv_neg, Int.tdiv_eq_ediv_of_nonneg (by decide)]
  rw [e]
  have h1 : 0 ≤ (9007199254740992 : Int) / -b := Int.ediv_nonneg (by decide) (by omega)
  have h2 : (9007199254740992 : Int) / -b ≤ 9007199254740992 := Int.ediv_le_self _ (by decide)
  generalize (9007199254740992 : Int) / -b = z at *
  unfold wrap64
  omega

set_option maxHeartbeats 2000000 in
theorem mulInt_all (a b : Int) (ha : Good a) (hb : Good b) (w : World) : Calls Tryz.prog 130 #[.int .i64 a, .int .i64 b] w (OptR (okZ (a * b)) w) := by
  have HA := Lib.hid (good_any a ha)
  have HB := Lib.hid (good_any b hb)
  obtain ⟨h1, h2⟩ := ha
  obtain ⟨h3, h4⟩ := hb
  by_cases a0 : a = 0
  · have HZ : Hid (okZ (a * b) = some 0) := by rw [a0, Int.zero_mul]; rfl
    have e0 : (a == 0) = true := by simpa using a0
    clear a0
    go_enter Tryz.func130, Tryz.ntmps130
    go_wp2_with fail
    refine (HA.out _).mono ?_
    rintro e w' ⟨rfl, rfl⟩
    go_wp2_with fail
    refine (HB.out _).mono ?_
    rintro e w' ⟨rfl, rfl⟩
    go_wp2
    go_ret2
    exact ⟨by rw [HZ.out]; rfl, rfl⟩
  · have e0 : (a == 0) = false := by simpa using a0
    by_cases b0 : b = 0
    · have HZ : Hid (okZ (a * b) = some 0) := by rw [b0, Int.mul_zero]; rfl
      have e1 : (b == 0) = true := by simpa using b0
      clear a0 b0
      go_enter Tryz.func130, Tryz.ntmps130
      go_wp2_with fail
      refine (HA.out _).mono ?_
      rintro e w' ⟨rfl, rfl⟩
      go_wp2_with fail
      refine (HB.out _).mono ?_
      rintro e w' ⟨rfl, rfl⟩
      go_wp2
      go_ret2
      exact ⟨by rw [HZ.out]; rfl, rfl⟩
    · have e1 : (b == 0) = false := by simpa using b0
      by_cases sa : a < 0
      · by_cases sb : b < 0
        · have pa : 0 < -a := by omega
          have pb : 0 < -b := by omega
          have hd := tdn b sb
          obtain ⟨z, hz⟩ : ∃ z, z = (9007199254740992 : Int) / -b := ⟨_, rfl⟩
          rw [← hz] at hd
          have hq : goodB (a * b) = decide (-a ≤ 9007199254740992 / (-b)) := by
            rw [mul_iff a b b0, show (a.natAbs : Int) = -a by omega, show (b.natAbs : Int) = -b by omega]
          by_cases hg : goodB (a * b) = true
          · have HZ : Hid (okZ (a * b) = some (a * b)) := if_pos hg
            obtain ⟨g1, g2⟩ := goodB_iff.1 hg
            rw [hg] at hq
            have hq2 : ¬ z < -a := by have := of_decide_eq_true hq.symm; omega
            clear hq hg a0 b0 hz
            go_enter Tryz.func130, Tryz.ntmps130
            go_wp2_with fail
            refine (HA.out _).mono ?_
            rintro e w' ⟨rfl, rfl⟩
            go_wp2_with fail
            refine (HB.out _).mono ?_
            rintro e w' ⟨rfl, rfl⟩
            go_wp2
            go_ret2
            exact ⟨by rw [HZ.out]; rfl, rfl⟩
          · have hg' : goodB (a * b) = false := by simpa using hg
            have HZ : Hid (okZ (a * b) = none) := if_neg hg
            rw [hg'] at hq
            have hq2 : z < -a := by have := of_decide_eq_false hq.symm; omega
            clear hq hg hg' a0 b0 hz
            go_enter Tryz.func130, Tryz.ntmps130
            go_wp2_with fail
            refine (HA.out _).mono ?_
            rintro e w' ⟨rfl, rfl⟩
            go_wp2_with fail
            refine (HB.out _).mono ?_
            rintro e w' ⟨rfl, rfl⟩
            go_wp2
            go_ret2
            exact ⟨by rw [HZ.out]; rfl, rfl⟩
        · have pa : 0 < -a := by omega
          have pb : 0 < b := by omega
          have hq : goodB (a * b) = decide (-a ≤ 9007199254740992 / (b)) := by
            rw [mul_iff a b b0, show (a.natAbs : Int) = -a by omega, show (b.natAbs : Int) = b by omega]
          by_cases hg : goodB (a * b) = true
          · have HZ : Hid (okZ (a * b) = some (a * b)) := if_pos hg
            obtain ⟨g1, g2⟩ := goodB_iff.1 hg
            rw [hg] at hq
            have hq2 : ¬ 9007199254740992 / (b) < -a := by have := of_decide_eq_true hq.symm; omega
            clear hq hg a0 b0
            go_enter Tryz.func130, Tryz.ntmps130
            go_wp2_with fail
            refine (HA.out _).mono ?_
            rintro e w' ⟨rfl, rfl⟩
            go_wp2_with fail
            refine (HB.out _).mono ?_
            rintro e w' ⟨rfl, rfl⟩
            go_wp2
            go_ret2
            exact ⟨by rw [HZ.out]; rfl, rfl⟩
          · have hg' : goodB (a * b) = false := by simpa using hg
            have HZ : Hid (okZ (a * b) = none) := if_neg hg
            rw [hg'] at hq
            have hq2 : 9007199254740992 / (b) < -a := by have := of_decide_eq_false hq.symm; omega
            clear hq hg hg' a0 b0
            go_enter Tryz.func130, Tryz.ntmps130
            go_wp2_with fail
            refine (HA.out _).mono ?_
            rintro e w' ⟨rfl, rfl⟩
            go_wp2_with fail
            refine (HB.out _).mono ?_
            rintro e w' ⟨rfl, rfl⟩
            go_wp2
            go_ret2
            exact ⟨by rw [HZ.out]; rfl, rfl⟩
      · by_cases sb : b < 0
        · have pa : 0 < a := by omega
          have pb : 0 < -b := by omega
          have hd := tdn b sb
          obtain ⟨z, hz⟩ : ∃ z, z = (9007199254740992 : Int) / -b := ⟨_, rfl⟩
          rw [← hz] at hd
          have hq : goodB (a * b) = decide (a ≤ 9007199254740992 / (-b)) := by
            rw [mul_iff a b b0, show (a.natAbs : Int) = a by omega, show (b.natAbs : Int) = -b by omega]
          by_cases hg : goodB (a * b) = true
          · have HZ : Hid (okZ (a * b) = some (a * b)) := if_pos hg
            obtain ⟨g1, g2⟩ := goodB_iff.1 hg
            rw [hg] at hq
            have hq2 : ¬ z < a := by have := of_decide_eq_true hq.symm; omega
            clear hq hg a0 b0 hz
            go_enter Tryz.func130, Tryz.ntmps130
            go_wp2_with fail
            refine (HA.out _).mono ?_
            rintro e w' ⟨rfl, rfl⟩
            go_wp2_with fail
            refine (HB.out _).mono ?_
            rintro e w' ⟨rfl, rfl⟩
            go_wp2
            go_ret2
            exact ⟨by rw [HZ.out]; rfl, rfl⟩
          · have hg' : goodB (a * b) = false := by simpa using hg
            have HZ : Hid (okZ (a * b) = none) := if_neg hg
            rw [hg'] at hq
            have hq2 : z < a := by have := of_decide_eq_false hq.symm; omega
            clear hq hg hg' a0 b0 hz
            go_enter Tryz.func130, Tryz.ntmps130
            go_wp2_with fail
            refine (HA.out _).mono ?_
            rintro e w' ⟨rfl, rfl⟩
            go_wp2_with fail
            refine (HB.out _).mono ?_
            rintro e w' ⟨rfl, rfl⟩
            go_wp2
            go_ret2
            exact ⟨by rw [HZ.out]; rfl, rfl⟩
        · have pa : 0 < a := by omega
          have pb : 0 < b := by omega
          have hq : goodB (a * b) = decide (a ≤ 9007199254740992 / (b)) := by
            rw [mul_iff a b b0, show (a.natAbs : Int) = a by omega, show (b.natAbs : Int) = b by omega]
          by_cases hg : goodB (a * b) = true
          · have HZ : Hid (okZ (a * b) = some (a * b)) := if_pos hg
            obtain ⟨g1, g2⟩ := goodB_iff.1 hg
            rw [hg] at hq
            have hq2 : ¬ 9007199254740992 / (b) < a := by have := of_decide_eq_true hq.symm; omega
            clear hq hg a0 b0
            go_enter Tryz.func130, Tryz.ntmps130
            go_wp2_with fail
            refine (HA.out _).mono ?_
            rintro e w' ⟨rfl, rfl⟩
            go_wp2_with fail
            refine (HB.out _).mono ?_
            rintro e w' ⟨rfl, rfl⟩
            go_wp2
            go_ret2
            exact ⟨by rw [HZ.out]; rfl, rfl⟩
          · have hg' : goodB (a * b) = false := by simpa using hg
            have HZ : Hid (okZ (a * b) = none) := if_neg hg
            rw [hg'] at hq
            have hq2 : 9007199254740992 / (b) < a := by have := of_decide_eq_false hq.symm; omega
            clear hq hg hg' a0 b0
            go_enter Tryz.func130, Tryz.ntmps130
            go_wp2_with fail
            refine (HA.out _).mono ?_
            rintro e w' ⟨rfl, rfl⟩
            go_wp2_with fail
            refine (HB.out _).mono ?_
            rintro e w' ⟨rfl, rfl⟩
            go_wp2
            go_ret2
            exact ⟨by rw [HZ.out]; rfl, rfl⟩

set_option maxHeartbeats 1000000 in
theorem whole_all (q a b : Int) (ha : Good a) (hb : Good b) (w : World) : Calls Tryz.prog 104 #[.int .i64 q, .int .i64 a, .int .i64 b] w (OptR (wholeZ q a b) w) := by
  by_cases h1 : q = 1
  · subst h1
    have HC := Lib.hid (addInt_all a b ha hb)
    show Calls _ _ _ _ (OptR (okZ (a + b)) w)
    generalize okZ (a + b) = r at *
    clear ha hb
    unfold OptR at *
    go_enter Tryz.func104, Tryz.ntmps104
    go_wp2_with fail
    refine (HC.out _).mono ?_
    rintro e w' ⟨rfl, rfl⟩
    go_wp2
    go_ret2
    exact ⟨rfl, rfl⟩
  by_cases h2 : q = 2
  · subst h2
    have HC := Lib.hid (subInt_all a b ha hb)
    show Calls _ _ _ _ (OptR (okZ (a - b)) w)
    generalize okZ (a - b) = r at *
    clear ha hb
    unfold OptR at *
    go_enter Tryz.func104, Tryz.ntmps104
    go_wp2_with fail
    refine (HC.out _).mono ?_
    rintro e w' ⟨rfl, rfl⟩
    go_wp2
    go_ret2
    exact ⟨rfl, rfl⟩
  by_cases h3 : q = 3
  · subst h3
    have HC := Lib.hid (mulInt_all a b ha hb)
    show Calls _ _ _ _ (OptR (okZ (a * b)) w)
    generalize okZ (a * b) = r at *
    clear ha hb
    unfold OptR at *
    go_enter Tryz.func104, Tryz.ntmps104
    go_wp2_with fail
    refine (HC.out _).mono ?_
    rintro e w' ⟨rfl, rfl⟩
    go_wp2
    go_ret2
    exact ⟨rfl, rfl⟩
  by_cases h5 : q = 5
  · subst h5
    show Calls _ _ _ _ (OptR (some (max a b)) w)
    unfold OptR
    go_enter Tryz.func104, Tryz.ntmps104
    go_wp2
    go_ret2
    exact ⟨rfl, rfl⟩
  by_cases h6 : q = 6
  · subst h6
    show Calls _ _ _ _ (OptR (some (min a b)) w)
    unfold OptR
    go_enter Tryz.func104, Tryz.ntmps104
    go_wp2
    go_ret2
    exact ⟨rfl, rfl⟩
  have hz : wholeZ q a b = none := by unfold wholeZ; rw [if_neg h1, if_neg h2, if_neg h3, if_neg h5, if_neg h6]
  rw [hz]
  have e1 : (q == 1) = false := by simpa using h1
  have e2 : (q == 2) = false := by simpa using h2
  have e3 : (q == 3) = false := by simpa using h3
  have e5 : (q == 5) = false := by simpa using h5
  have e6 : (q == 6) = false := by simpa using h6
  unfold OptR
  clear h1 h2 h3 h5 h6 hz
  go_enter Tryz.func104, Tryz.ntmps104
  go_wp2
  go_ret2
  exact ⟨rfl, rfl⟩

theorem wholeZ_good {q a b c : Int} (ha : Good a) (hb : Good b) (h : wholeZ q a b = some c) : Good c := by
  have hok : ∀ n, okZ n = some c → Good c := fun n h => by
    unfold okZ at h
    split at h
    · rename_i hg; injection h with h; subst h; exact goodB_iff.1 hg
    · cases h
  unfold wholeZ at h
  split at h
  · exact hok _ h
  split at h
  · exact hok _ h
  split at h
  · exact hok _ h
  split at h
  · injection h with h; subst h; obtain ⟨h1, h2⟩ := ha; obtain ⟨h3, h4⟩ := hb; exact ⟨by omega, by omega⟩
  split at h
  · injection h with h; subst h; obtain ⟨h1, h2⟩ := ha; obtain ⟨h3, h4⟩ := hb; exact ⟨by omega, by omega⟩
  · cases h

theorem okZ_some {n c : Int} (h : okZ n = some c) : c = n ∧ Good n := by
  unfold okZ at h
  split at h
  · rename_i hg; injection h with h; exact ⟨h.symm, goodB_iff.1 hg⟩
  · cases h
theorem doneP_fi {n : Int} (h : Good n) : doneP (fi n) = (fi n, 0) := doneP_tf (tf_fi h)

theorem tid_of (s : Bool) (n : Int) (h : Good n) (hs : n ≠ 0 → s = decide (n < 0)) : tid s (n.natAbs * 2^K) = fi n := by
  by_cases h0 : n = 0
  · subst h0
    rw [fi_zero]
    unfold tid
    rw [if_pos (by rw [Int.natAbs_zero, Nat.zero_mul])]
  · unfold tid
    rw [if_neg (Nat.mul_ne_zero (by omega) (Nat.ne_of_gt (Nat.two_pow_pos K))), fi_W _ (natAbs_good h), hs h0]
theorem sign_mul (a b : Int) (h0 : a * b ≠ 0) : (decide (a < 0) ^^ decide (b < 0)) = decide (a * b < 0) := by
  rw [Bool.eq_iff_iff]
  have ha0 : a ≠ 0 := fun e => h0 (by rw [e, Int.zero_mul])
  have hb0 : b ≠ 0 := fun e => h0 (by rw [e, Int.mul_zero])
  rcases Int.lt_or_lt_of_ne ha0 with h3 | h3 <;> rcases Int.lt_or_lt_of_ne hb0 with h4 | h4
  · have := Int.mul_pos_of_neg_of_neg h3 h4
    simp [h3, h4]; omega
  · have := Int.mul_neg_of_neg_of_pos h3 h4
    have h5 : ¬ b < 0 := by omega
    simp [h3, h5]; omega
  · have := Int.mul_neg_of_pos_of_neg h3 h4
    have h5 : ¬ a < 0 := by omega
    simp [h5, h4]; omega
  · have := Int.mul_pos h3 h4
    have h5 : ¬ a < 0 := by omega
    have h6 : ¬ b < 0 := by omega
    simp [h5, h6]; omega

/-- where whole numbers go, the numbers go alike -/
theorem wholeZ_one (pw : Nat → Nat → Nat × Int) {q a b c : Int} (ha : Good a) (hb : Good b) (h : wholeZ q a b = some c) : oneP pw q (fi a) (fi b) = (fi c, 0) := by
  unfold wholeZ at h
  unfold oneP
  split at h
  · rename_i e
    obtain ⟨rfl, hg⟩ := okZ_some h
    rw [if_pos e]
    have h1 : floatBits .add .f64 (fi a) (fi b) = some (fi (a + b)) := add_fi a b (natAbs_good ha) (natAbs_good hb) (natAbs_good hg)
    have h2 : opB .add (fi a) (fi b) = fi (a + b) := by unfold opB; rw [h1]; rfl
    rw [h2, doneP_fi hg]
  split at h
  · rename_i e0 e
    obtain ⟨rfl, hg⟩ := okZ_some h
    rw [if_neg e0, if_pos e]
    have h1 : floatBits .sub .f64 (fi a) (fi b) = some (fi (a - b)) := sub_fi a b (natAbs_good ha) (natAbs_good hb) (natAbs_good hg)
    have h2 : opB .sub (fi a) (fi b) = fi (a - b) := by unfold opB; rw [h1]; rfl
    rw [h2, doneP_fi hg]
  split at h
  · rename_i e0 e1 e
    obtain ⟨rfl, hg⟩ := okZ_some h
    rw [if_neg e0, if_neg e1, if_pos e]
    have h1 : floatBits .mul .f64 (fi a) (fi b) = some (W (decide (a < 0) ^^ decide (b < 0)) ((a * b).natAbs * 2^K)) := mul_fi a b (natAbs_good ha) (natAbs_good hb) (natAbs_good hg)
    have h2 : opB .mul (fi a) (fi b) = W (decide (a < 0) ^^ decide (b < 0)) ((a * b).natAbs * 2^K) := by unfold opB; rw [h1]; rfl
    rw [h2, doneP_num _ (rep_fi _ (natAbs_good hg)), tid_of _ _ hg (sign_mul a b)]
  split at h
  · rename_i e0 e1 e2 e
    injection h with h
    rw [if_neg e0, if_neg e1, if_neg e2, if_neg (by omega), if_pos e, ← h]
    congr 1
    unfold maxP
    rw [cmpF_fi ha hb]
    rcases Int.lt_trichotomy a b with h3 | h3 | h3
    · rw [cmp_lt h3, if_pos rfl, Int.max_eq_right (by omega)]
    · rw [h3, cmp_eq, if_neg (by decide), Int.max_self]
    · rw [cmp_gt h3, if_neg (by decide), Int.max_eq_left (by omega)]
  split at h
  · rename_i e0 e1 e2 e3 e
    injection h with h
    rw [if_neg e0, if_neg e1, if_neg e2, if_neg (by omega), if_neg e3, if_pos e, ← h]
    congr 1
    unfold minP
    rw [cmpF_fi ha hb]
    rcases Int.lt_trichotomy a b with h3 | h3 | h3
    · rw [cmp_lt h3, if_neg (by decide), Int.min_eq_left (by omega)]
    · rw [h3, cmp_eq, if_neg (by decide), Int.min_self]
    · rw [cmp_gt h3, if_pos rfl, Int.min_eq_right (by omega)]
  · cases h
end Go.Proofs.YtdddmehchfnppaaGreatDoor
