/- Rows of truths put together: plain law. Conditions: as each theorem says. -/
import Derived.Test.YtdddmehchfnppaaGreatDoorMg29
namespace Go.Proofs.YtdddmehchfnppaaGreatDoor
open Go Go.RowKit Go.Proofs Fl

def bI (b : Bool) : Int := if b then 1 else 0
theorem bZ_bI (b : Bool) : bZ b = bI b := rfl
theorem bI_01 (b : Bool) : bI b = 0 ∨ bI b = 1 := by cases b; exact .inl rfl; exact .inr rfl
theorem bI_good (b : Bool) : Good (bI b) := by cases b <;> decide
theorem flagF_bI (b : Bool) : flagF b = fi (bI b) := by cases b; exact fi_zero.symm; exact fi_one.symm
theorem isT_fi (b : Bool) : isT (fi (bI b)) = true := by rw [← flagF_bI]; cases b <;> decide
theorem tv_fi (b : Bool) : tv (fi (bI b)) = b := by rw [← flagF_bI]; cases b <;> decide
theorem cmpFI_eq (a b : Bool) : (cmpF (fi (bI a)) (fi (bI b)) == .eq) = (a == b) := by rw [← flagF_bI, ← flagF_bI]; cases a <;> cases b <;> decide +kernel
theorem cmp_ne (a b : Bool) : (cmpF (fi (bI a)) (fi (bI b)) != .eq) = (a != b) := by rw [← flagF_bI, ← flagF_bI]; cases a <;> cases b <;> decide +kernel

/-- a truth put to a whole number -/
def opI (q : Int) (b : Bool) (T : Int) : Int :=
  if q = 1 then bI b + T else if q = 2 then bI b - T else if q = 3 then bI b * T else if q = 5 then max (bI b) T else if q = 6 then min (bI b) T
  else if q = 13 then bI (decide (bI b = T)) else if q = 16 then bI (decide (bI b ≠ T)) else if q = 21 then bI (b && decide (T = 1)) else bI (b || decide (T = 1))
theorem wholeZ_op {q : Int} (hq : q = 1 ∨ q = 2 ∨ q = 3 ∨ q = 5 ∨ q = 6) (b : Bool) (T : Int) (hg : Good (opI q b T)) : wholeZ q (bI b) T = some (opI q b T) := by
  rcases hq with rfl | rfl | rfl | rfl | rfl
  · show okZ (bI b + T) = some (bI b + T)
    unfold okZ; exact if_pos (goodB_iff.2 hg)
  · show okZ (bI b - T) = some (bI b - T)
    unfold okZ; exact if_pos (goodB_iff.2 hg)
  · show okZ (bI b * T) = some (bI b * T)
    unfold okZ; exact if_pos (goodB_iff.2 hg)
  · rfl
  · rfl
theorem step_bits (pw : Nat → Nat → Nat × Int) (q : Int) (hq : q = 1 ∨ q = 2 ∨ q = 3 ∨ q = 5 ∨ q = 6 ∨ q = 13 ∨ q = 16 ∨ q = 21 ∨ q = 22) (b : Bool) (T : Int) (hT : Good T) (hg : Good (opI q b T)) (h01 : q ≠ 1 → q ≠ 2 → T = 0 ∨ T = 1) : oneP pw q (fi (bI b)) (fi T) = (fi (opI q b T), 0) := by
  by_cases h5 : q = 1 ∨ q = 2 ∨ q = 3 ∨ q = 5 ∨ q = 6
  · exact wholeZ_one pw (bI_good b) hT (wholeZ_op h5 b T hg)
  · have h4 : q = 13 ∨ q = 16 ∨ q = 21 ∨ q = 22 := by omega
    obtain ⟨t, rfl⟩ : ∃ t, T = bI t := by
      rcases h01 (by omega) (by omega) with e | e
      · exact ⟨false, e⟩
      · exact ⟨true, e⟩
    rcases h4 with rfl | rfl | rfl | rfl
    · show (flagF (cmpF (fi (bI b)) (fi (bI t)) == .eq), 0) = (fi (bI (decide (bI b = bI t))), 0)
      rw [cmpFI_eq, flagF_bI]
      cases b <;> cases t <;> rfl
    · show (flagF (cmpF (fi (bI b)) (fi (bI t)) != .eq), 0) = (fi (bI (decide (bI b ≠ bI t))), 0)
      rw [cmp_ne, flagF_bI]
      cases b <;> cases t <;> rfl
    · show logP 21 _ _ = (fi (bI (b && decide (bI t = 1))), 0)
      unfold logP
      rw [isT_fi, isT_fi, tv_fi, tv_fi, flagF_bI]
      cases b <;> cases t <;> rfl
    · show logP 22 _ _ = (fi (bI (b || decide (bI t = 1))), 0)
      unfold logP
      rw [isT_fi, isT_fi, tv_fi, tv_fi, flagF_bI]
      cases b <;> cases t <;> rfl

/-- a row of truths from its end on -/
def tI (q : Int) (l : Nat → Bool) (n : Nat) : Nat → Int
  | 0 => bI (l (n - 1))
  | m + 1 => opI q (l (n - 2 - m)) (tI q l n m)
theorem steps_bits (pw : Nat → Nat → Nat × Int) (q : Int) (hq : q = 1 ∨ q = 2 ∨ q = 3 ∨ q = 5 ∨ q = 6 ∨ q = 13 ∨ q = 16 ∨ q = 21 ∨ q = 22) (l : Nat → Bool) (n : Nat) (hgood : ∀ m, m ≤ n - 1 → Good (tI q l n m)) (h01 : q ≠ 1 → q ≠ 2 → ∀ m, m ≤ n - 1 → tI q l n m = 0 ∨ tI q l n m = 1) (x : Nat → Nat) (hx : ∀ i, i < n → x i = fi (bI (l i))) (hn : 1 ≤ n) :
    ∀ m, m ≤ n - 1 → stepsR (oneP pw q) x n m = some (fi (tI q l n m)) := by
  intro m
  induction m with
  | zero => intro _; show some (x (n - 1)) = some (fi (bI (l (n - 1)))); rw [hx _ (by omega)]
  | succ m ih =>
    intro hm
    show (stepsR _ _ _ m).bind _ = _
    rw [ih (by omega)]
    have hs := step_bits pw q hq (l (n - 2 - m)) (tI q l n m) (hgood m (by omega)) (hgood (m + 1) hm) (fun a b => h01 a b m (by omega))
    show (if (oneP pw q (x (n - 2 - m)) (fi (tI q l n m))).2 = 0 then some (oneP pw q (x (n - 2 - m)) (fi (tI q l n m))).1 else none) = _
    rw [hx (n - 2 - m) (by omega), hs]
    rfl
theorem cnt_mono (l : Nat → Bool) (p n : Nat) (h : p ≤ n) : cnt l p ≤ cnt l n ∧ cnt l n ≤ cnt l p + (n - p) := by
  have e : n = p + (n - p) := by omega
  rw [e, cnt_add]
  have := cnt_le (fun i => l (p + i)) (n - p)
  omega
theorem cnt_at (l : Nat → Bool) (p : Nat) : ((cnt l (p + 1) : Nat) : Int) = (cnt l p : Nat) + bI (l p) := by
  show ((cnt l p + (if l p then 1 else 0) : Nat) : Int) = _
  unfold bI
  split <;> simp
theorem t_1 (l : Nat → Bool) (n : Nat) (hn : 1 ≤ n) : ∀ m, m ≤ n - 1 → tI 1 l n m = (cnt l n : Nat) - (cnt l (n - 1 - m) : Nat) := by
  intro m
  induction m with
  | zero =>
    intro _
    have := cnt_at l (n - 1)
    rw [show n - 1 + 1 = n by omega] at this
    show bI _ = _
    rw [Nat.sub_zero]; omega
  | succ m ih =>
    intro hm
    have := cnt_at l (n - 2 - m)
    rw [show n - 2 - m + 1 = n - 1 - m by omega] at this
    show bI _ + tI 1 l n m = _
    rw [ih (by omega), show n - 1 - (m + 1) = n - 2 - m by omega]
    omega
theorem t_2 (l : Nat → Bool) (n : Nat) (hn : 1 ≤ n) : ∀ m, m ≤ n - 1 → tI 2 l n m = (1 - 2 * (((n - 1 - m) % 2 : Nat) : Int)) * (altN l n - altN l (n - 1 - m)) := by
  intro m
  induction m with
  | zero =>
    intro _
    have h : altN l (n - 1 + 1) = altN l (n - 1) + if l (n - 1) then 1 - 2 * (((n - 1) % 2 : Nat) : Int) else 0 := rfl
    rw [show n - 1 + 1 = n by omega] at h
    show bI _ = _
    rw [Nat.sub_zero, h]
    have h2 : (n - 1) % 2 = 0 ∨ (n - 1) % 2 = 1 := by omega
    unfold bI
    rcases h2 with e | e <;> rw [e] <;> split <;> simp <;> omega
  | succ m ih =>
    intro hm
    have h : altN l (n - 2 - m + 1) = altN l (n - 2 - m) + if l (n - 2 - m) then 1 - 2 * (((n - 2 - m) % 2 : Nat) : Int) else 0 := rfl
    rw [show n - 2 - m + 1 = n - 1 - m by omega] at h
    show bI _ - tI 2 l n m = _
    rw [ih (by omega), show n - 1 - (m + 1) = n - 2 - m by omega, h]
    have h2 : ((n - 2 - m) % 2 = 0 ∧ (n - 1 - m) % 2 = 1) ∨ ((n - 2 - m) % 2 = 1 ∧ (n - 1 - m) % 2 = 0) := by omega
    unfold bI
    rcases h2 with ⟨e, e'⟩ | ⟨e, e'⟩ <;> rw [e, e'] <;> split <;> simp <;> omega

/-- how many of the last ones hold -/
def cntL (l : Nat → Bool) (n m : Nat) : Nat := cnt l n - cnt l (n - 1 - m)
theorem cntL_zero (l : Nat → Bool) (n : Nat) (hn : 1 ≤ n) : cntL l n 0 = (if l (n - 1) then 1 else 0) := by
  have h : cnt l (n - 1 + 1) = cnt l (n - 1) + (if l (n - 1) then 1 else 0) := rfl
  rw [show n - 1 + 1 = n by omega] at h
  unfold cntL
  rw [Nat.sub_zero]
  omega
theorem cntL_succ (l : Nat → Bool) (n m : Nat) (hm : m + 1 ≤ n - 1) : cntL l n (m + 1) = cntL l n m + (if l (n - 2 - m) then 1 else 0) := by
  have h : cnt l (n - 2 - m + 1) = cnt l (n - 2 - m) + (if l (n - 2 - m) then 1 else 0) := rfl
  rw [show n - 2 - m + 1 = n - 1 - m by omega] at h
  have := (cnt_mono l (n - 1 - m) n (by omega)).1
  unfold cntL
  rw [show n - 1 - (m + 1) = n - 2 - m by omega]
  omega
theorem cntL_le (l : Nat → Bool) (n m : Nat) (hn : 1 ≤ n) : cntL l n m ≤ m + 1 := by
  have := (cnt_mono l (n - 1 - m) n (by omega)).2
  unfold cntL
  omega
theorem cntL_all (l : Nat → Bool) (n : Nat) : cntL l n (n - 1) = cnt l n := by
  unfold cntL
  rw [Nat.sub_self]; rfl
theorem t_or (q : Int) (hq : q = 5 ∨ q = 22) (l : Nat → Bool) (n : Nat) (hn : 1 ≤ n) : ∀ m, m ≤ n - 1 → tI q l n m = bI (decide (cntL l n m ≠ 0)) := by
  intro m
  induction m with
  | zero =>
    intro _
    show bI _ = _
    rw [cntL_zero l n hn]
    cases l (n - 1) <;> rfl
  | succ m ih =>
    intro hm
    show opI q _ (tI q l n m) = _
    rw [ih (by omega), cntL_succ l n m hm]
    cases l (n - 2 - m) <;> by_cases h : cntL l n m = 0 <;> rcases hq with rfl | rfl <;> simp [opI, bI, h]
    all_goals decide
theorem t_and (q : Int) (hq : q = 6 ∨ q = 3 ∨ q = 21) (l : Nat → Bool) (n : Nat) (hn : 1 ≤ n) : ∀ m, m ≤ n - 1 → tI q l n m = bI (decide (cntL l n m = m + 1)) := by
  intro m
  induction m with
  | zero =>
    intro _
    show bI _ = _
    rw [cntL_zero l n hn]
    cases l (n - 1) <;> rfl
  | succ m ih =>
    intro hm
    have hle := cntL_le l n m hn
    show opI q _ (tI q l n m) = _
    rw [ih (by omega), cntL_succ l n m hm]
    cases l (n - 2 - m)
    · have h2 : ¬ cntL l n m + 0 = m + 1 + 1 := by omega
      by_cases h : cntL l n m = m + 1 <;> rcases hq with rfl | rfl | rfl <;> simp [opI, bI, h]
      all_goals omega
    · by_cases h : cntL l n m = m + 1 <;> rcases hq with rfl | rfl | rfl <;> simp [opI, bI, h]
      all_goals decide
theorem t_ne (l : Nat → Bool) (n : Nat) (hn : 1 ≤ n) : ∀ m, m ≤ n - 1 → tI 16 l n m = bI (decide (cntL l n m % 2 = 1)) := by
  intro m
  induction m with
  | zero =>
    intro _
    show bI _ = _
    rw [cntL_zero l n hn]
    cases l (n - 1) <;> rfl
  | succ m ih =>
    intro hm
    show opI 16 _ (tI 16 l n m) = _
    rw [ih (by omega), cntL_succ l n m hm]
    have h2 : cntL l n m % 2 = 0 ∨ cntL l n m % 2 = 1 := by omega
    cases l (n - 2 - m)
    · rcases h2 with h | h <;> simp [opI, bI, h]
    · have h3 : (cntL l n m + 1) % 2 = 1 - cntL l n m % 2 := by omega
      rcases h2 with h | h <;> simp [opI, bI, h, h3]
theorem t_eq (l : Nat → Bool) (n : Nat) (hn : 1 ≤ n) : ∀ m, m ≤ n - 1 → tI 13 l n m = bI (decide (cntL (fun i => !l i) n m % 2 = 0)) := by
  intro m
  induction m with
  | zero =>
    intro _
    show bI _ = _
    rw [cntL_zero _ n hn]
    cases l (n - 1) <;> rfl
  | succ m ih =>
    intro hm
    show opI 13 _ (tI 13 l n m) = _
    rw [ih (by omega), cntL_succ _ n m hm]
    have h2 : cntL (fun i => !l i) n m % 2 = 0 ∨ cntL (fun i => !l i) n m % 2 = 1 := by omega
    cases l (n - 2 - m)
    · have h3 : (cntL (fun i => !l i) n m + 1) % 2 = 1 - cntL (fun i => !l i) n m % 2 := by omega
      rcases h2 with h | h <;> simp [opI, bI, h, h3]
    · rcases h2 with h | h <;> simp [opI, bI, h]
theorem altN_bound (l : Nat → Bool) (a d : Nat) : -(d : Int) ≤ altN l (a + d) - altN l a ∧ altN l (a + d) - altN l a ≤ d := by
  induction d with
  | zero => exact ⟨by simp, by simp⟩
  | succ d ih =>
    have h : altN l (a + d + 1) = altN l (a + d) + if l (a + d) then 1 - 2 * (((a + d) % 2 : Nat) : Int) else 0 := rfl
    rw [show a + (d + 1) = a + d + 1 by omega, h]
    split <;> omega

/-- a row of truths comes to what row tells -/
theorem row_bits (pw : Nat → Nat → Nat × Int) (q : Int) (l : Nat → Bool) (n : Nat) (z : Int) (hz : rowB q l n = some z) (x : Nat → Nat) (hx : ∀ i, i < n → x i = fi (bI (l i))) (hn : 1 ≤ n) (hb : n ≤ 1048576) : rowR (oneP pw q) x n = some (fi z) ∧ Good z := by
  unfold rowR
  have hc := cnt_le l n
  have hg01 : ∀ T : Int, T = 0 ∨ T = 1 → Good T := by rintro T (rfl | rfl) <;> decide
  unfold rowB at hz
  split at hz
  · rename_i e; subst e
    injection hz with hz; subst hz
    have ht := t_1 l n hn
    have hgd : ∀ m, m ≤ n - 1 → Good (tI 1 l n m) := fun m hm => by
      rw [ht m hm]
      have := cnt_mono l (n - 1 - m) n (by omega)
      show _ ∧ _
      omega
    have hs := steps_bits pw 1 (.inl rfl) l n hgd (fun h => absurd rfl h) x hx hn (n - 1) (Nat.le_refl _)
    rw [ht (n - 1) (Nat.le_refl _), Nat.sub_self] at hs
    rw [hs]
    refine ⟨by have e : ((cnt l n : Nat) : Int) - ((cnt l 0 : Nat) : Int) = (cnt l n : Nat) := Int.sub_zero _; rw [e], ?_⟩
    show _ ∧ _
    omega
  split at hz
  · rename_i e
    injection hz with hz; subst hz
    have ht := t_or q e l n hn
    have h01 : ∀ m, m ≤ n - 1 → tI q l n m = 0 ∨ tI q l n m = 1 := fun m hm => by rw [ht m hm]; exact bI_01 _
    have hs := steps_bits pw q (by omega) l n (fun m hm => hg01 _ (h01 m hm)) (fun _ _ m hm => h01 m hm) x hx hn (n - 1) (Nat.le_refl _)
    rw [ht (n - 1) (Nat.le_refl _), cntL_all] at hs
    exact ⟨hs, bI_good _⟩
  split at hz
  · rename_i e
    injection hz with hz; subst hz
    have ht := t_and q e l n hn
    have h01 : ∀ m, m ≤ n - 1 → tI q l n m = 0 ∨ tI q l n m = 1 := fun m hm => by rw [ht m hm]; exact bI_01 _
    have hs := steps_bits pw q (by omega) l n (fun m hm => hg01 _ (h01 m hm)) (fun _ _ m hm => h01 m hm) x hx hn (n - 1) (Nat.le_refl _)
    rw [ht (n - 1) (Nat.le_refl _), cntL_all, show n - 1 + 1 = n by omega] at hs
    exact ⟨hs, bI_good _⟩
  split at hz
  · rename_i e; subst e
    injection hz with hz; subst hz
    have ht := t_ne l n hn
    have h01 : ∀ m, m ≤ n - 1 → tI 16 l n m = 0 ∨ tI 16 l n m = 1 := fun m hm => by rw [ht m hm]; exact bI_01 _
    have hs := steps_bits pw 16 (by omega) l n (fun m hm => hg01 _ (h01 m hm)) (fun _ _ m hm => h01 m hm) x hx hn (n - 1) (Nat.le_refl _)
    rw [ht (n - 1) (Nat.le_refl _), cntL_all] at hs
    refine ⟨?_, bI_good _⟩
    rw [hs]
    congr 3
    rw [Bool.eq_iff_iff, decide_eq_true_eq, beq_iff_eq]
    omega
  split at hz
  · rename_i e; subst e
    injection hz with hz; subst hz
    have ht := t_eq l n hn
    have h01 : ∀ m, m ≤ n - 1 → tI 13 l n m = 0 ∨ tI 13 l n m = 1 := fun m hm => by rw [ht m hm]; exact bI_01 _
    have hs := steps_bits pw 13 (by omega) l n (fun m hm => hg01 _ (h01 m hm)) (fun _ _ m hm => h01 m hm) x hx hn (n - 1) (Nat.le_refl _)
    rw [ht (n - 1) (Nat.le_refl _), cntL_all] at hs
    refine ⟨?_, bI_good _⟩
    rw [hs]
    congr 3
    rw [Bool.eq_iff_iff, decide_eq_true_eq, beq_iff_eq]
    omega
  split at hz
  · rename_i e; subst e
    injection hz with hz; subst hz
    have ht := t_2 l n hn
    have hgd : ∀ m, m ≤ n - 1 → Good (tI 2 l n m) := fun m hm => by
      rw [ht m hm]
      have hbd := altN_bound l (n - 1 - m) (m + 1)
      rw [show n - 1 - m + (m + 1) = n by omega] at hbd
      have h2 : (n - 1 - m) % 2 = 0 ∨ (n - 1 - m) % 2 = 1 := by omega
      show _ ∧ _
      rcases h2 with e | e <;> rw [e] <;> simp <;> omega
    have hs := steps_bits pw 2 (by omega) l n hgd (fun _ h => absurd rfl h) x hx hn (n - 1) (Nat.le_refl _)
    have hbd := altN_bound l 0 n
    rw [Nat.zero_add] at hbd
    have h0 : altN l 0 = 0 := rfl
    rw [ht (n - 1) (Nat.le_refl _), Nat.sub_self, h0] at hs
    rw [hs]
    refine ⟨by congr 2; simp, ?_⟩
    rw [h0] at hbd
    show _ ∧ _
    omega
  · cases hz
end Go.Proofs.YtdddmehchfnppaaGreatDoor
