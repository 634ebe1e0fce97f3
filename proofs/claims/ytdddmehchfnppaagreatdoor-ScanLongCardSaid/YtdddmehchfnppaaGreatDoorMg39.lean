/- Merged texts. The plain law of scanned rows of truths. Conditions: as each theorem says. The plain law of whole numbers put together up to each place from the first one on. Conditions: as each theorem says. -/
import Derived.Test.YtdddmehchfnppaaGreatDoorMg30
import Derived.Test.YtdddmehchfnppaaGreatDoorMg18
import Derived.Test.YtdddmehchfnppaaGreatDoorMg38
import Derived.Test.YtdddmehchfnppaaGreatDoorMg29
import Derived.Test.YtdddmehchfnppaaGreatDoorMg16
namespace Go.Proofs.YtdddmehchfnppaaGreatDoor
open Go Go.RowKit Go.Proofs Fl

theorem first_le {l : Nat → Bool} {n z i : Nat} (h : FirstIs l n z) (hi : i < n) : decide (cnt l (i + 1) ≠ 0) = fromZ z i := by
  obtain ⟨_, h1, h2⟩ := h
  unfold fromZ
  by_cases hz : z ≤ i
  · rw [decide_eq_true hz]
    refine decide_eq_true fun e => ?_
    have := (cnt_zero l (i + 1)).1 e z (by omega)
    rw [h1 (by omega)] at this
    cases this
  · rw [decide_eq_false hz]
    refine decide_eq_false fun e => e ?_
    exact (cnt_zero l (i + 1)).2 fun j hj => h2 j (by omega)
theorem cnt_full (l : Nat → Bool) (n : Nat) : cnt l n = n ↔ ∀ j, j < n → (!l j) = false := by
  induction n with
  | zero => exact ⟨fun _ j hj => absurd hj (Nat.not_lt_zero _), fun _ => rfl⟩
  | succ n ih =>
    have hle := cnt_le l n
    show cnt l n + (if l n then 1 else 0) = n + 1 ↔ _
    constructor
    · intro h j hj
      cases hln : l n with
      | false => rw [hln] at h; simp at h; omega
      | true =>
        rw [hln] at h
        simp at h
        by_cases e : j = n
        · rw [e, hln]; rfl
        · exact ih.1 h j (by omega)
    · intro h
      have h1 := h n (Nat.lt_succ_self n)
      have h2 := ih.2 fun j hj => h j (by omega)
      cases hln : l n with
      | false => rw [hln] at h1; cases h1
      | true => simp; exact h2
theorem first_full {l : Nat → Bool} {n z i : Nat} (h : FirstIs (fun i => !l i) n z) (hi : i < n) : decide (cnt l (i + 1) = i + 1) = !fromZ z i := by
  rw [← first_le h hi]
  have e : (cnt l (i + 1) = i + 1) ↔ cnt (fun i => !l i) (i + 1) = 0 := by
    rw [cnt_full, cnt_zero]
  by_cases hc : cnt (fun i => !l i) (i + 1) = 0
  · rw [decide_eq_true (e.2 hc), decide_eq_false (fun h => h hc)]; rfl
  · rw [decide_eq_false (fun h => hc (e.1 h)), decide_eq_true hc]; rfl
theorem pre_cnt (l : Nat → Bool) (k : Nat) : Go.Proofs.YtdddmehchfnppaaGreatDoor.pre l k = decide (cnt l k % 2 = 1) := by
  induction k with
  | zero => rfl
  | succ k ih =>
    show xor (Go.Proofs.YtdddmehchfnppaaGreatDoor.pre l k) (l k) = decide ((cnt l k + (if l k then 1 else 0)) % 2 = 1)
    rw [ih]
    cases l k with
    | false => simp
    | true =>
      rcases Nat.mod_two_eq_zero_or_one (cnt l k) with h | h
      · have h2 : (cnt l k + 1) % 2 = 1 := by omega
        simp [h, h2]
      · have h2 : (cnt l k + 1) % 2 = 0 := by omega
        simp [h, h2]

/-- a row of truths put together from its end on by a function of two truths -/
def tB (op : Bool → Bool → Bool) (l : Nat → Bool) (i : Nat) : Nat → Bool
  | 0 => l i
  | m + 1 => op (l (i - 1 - m)) (tB op l i m)
theorem steps_tB (pw : Nat → Nat → Nat × Int) (q : Int) (op : Bool → Bool → Bool) (l : Nat → Bool) (i : Nat) (x : Nat → Nat) (hx : ∀ j, j ≤ i → x j = fi (bI (l j))) (hop : ∀ a b : Bool, oneP pw q (fi (bI a)) (fi (bI b)) = (fi (bI (op a b)), 0)) :
    ∀ m, m ≤ i → stepsR (oneP pw q) x (i + 1) m = some (fi (bI (tB op l i m))) := by
  intro m
  induction m with
  | zero => intro _; show some (x (i + 1 - 1)) = _; rw [Nat.add_sub_cancel, hx i (Nat.le_refl _)]; rfl
  | succ m ih =>
    intro hm
    show (stepsR _ _ _ _).bind _ = _
    rw [ih (by omega)]
    show (if (oneP pw q (x (i + 1 - 2 - m)) (fi (bI (tB op l i m)))).2 = 0 then some (oneP pw q (x (i + 1 - 2 - m)) (fi (bI (tB op l i m)))).1 else none) = _
    rw [show i + 1 - 2 - m = i - 1 - m by omega, hx (i - 1 - m) (by omega), hop]
    rfl
theorem tB_lt (l : Nat → Bool) (i : Nat) : ∀ m, m ≤ i → (tB (fun a b => !a && b) l i m = true ↔ l i = true ∧ ∀ j, i - m ≤ j → j < i → l j = false) := by
  intro m
  induction m with
  | zero => intro _; exact ⟨fun h => ⟨h, fun j h1 h2 => by omega⟩, fun h => h.1⟩
  | succ m ih =>
    intro hm
    show ((!l (i - 1 - m)) && tB (fun a b => !a && b) l i m) = true ↔ _
    rw [Bool.and_eq_true, ih (by omega)]
    constructor
    · rintro ⟨h1, h2, h3⟩
      refine ⟨h2, fun j hj1 hj2 => ?_⟩
      by_cases e : j = i - 1 - m
      · rw [e]; simpa using h1
      · exact h3 j (by omega) hj2
    · rintro ⟨h1, h2⟩
      refine ⟨?_, h1, fun j hj1 hj2 => h2 j (by omega) hj2⟩
      rw [h2 (i - 1 - m) (by omega) (by omega)]; rfl
theorem rel_lt (pw : Nat → Nat → Nat × Int) (a b : Bool) : oneP pw 11 (fi (bI a)) (fi (bI b)) = (fi (bI (!a && b)), 0) := by
  rw [oneP_rel (by decide) (by decide), ← flagF_bI, ← flagF_bI, ← flagF_bI]
  have : relB 11 (flagF a) (flagF b) = (!a && b) := by cases a <;> cases b <;> decide +kernel
  rw [this]
theorem rel_le (pw : Nat → Nat → Nat × Int) (a b : Bool) : oneP pw 12 (fi (bI a)) (fi (bI b)) = (fi (bI (!a || b)), 0) := by
  rw [oneP_rel (by decide) (by decide), ← flagF_bI, ← flagF_bI, ← flagF_bI]
  have : relB 12 (flagF a) (flagF b) = (!a || b) := by cases a <;> cases b <;> decide +kernel
  rw [this]
theorem tB_le2 (l : Nat → Bool) (i : Nat) : ∀ m, m ≤ i → (tB (fun a b => !a || b) l i m = false ↔ l i = false ∧ ∀ j, i - m ≤ j → j < i → l j = true) := by
  intro m
  induction m with
  | zero => intro _; exact ⟨fun h => ⟨h, fun j h1 h2 => by omega⟩, fun h => h.1⟩
  | succ m ih =>
    intro hm
    show ((!l (i - 1 - m)) || tB (fun a b => !a || b) l i m) = false ↔ _
    rw [Bool.or_eq_false_iff, ih (by omega)]
    constructor
    · rintro ⟨h1, h2, h3⟩
      refine ⟨h2, fun j hj1 hj2 => ?_⟩
      by_cases e : j = i - 1 - m
      · rw [e]; simpa using h1
      · exact h3 j (by omega) hj2
    · rintro ⟨h1, h2⟩
      refine ⟨?_, h1, fun j hj1 hj2 => h2 j (by omega) hj2⟩
      rw [h2 (i - 1 - m) (by omega) (by omega)]; rfl

/-- what scan.row makes of a row is what the row's elements come to up to each place -/
theorem srow_plain (pw : Nat → Nat → Nat × Int) (q : Int) (l : Nat → Bool) (n : Nat) (L : Nat → Bool) (h : SrL q l n L) (x : Nat → Nat) (hx : ∀ i, i < n → x i = fi (bI (l i))) (hb : n ≤ 1048576) (i : Nat) (hi : i < n) :
    rowR (oneP pw q) x (i + 1) = some (fi (bI (L i))) := by
  have hrow : ∀ z, rowB q l (i + 1) = some z → rowR (oneP pw q) x (i + 1) = some (fi z) := fun z hz => (row_bits pw q l (i + 1) z hz x (fun j hj => hx j (by omega)) (by omega) (by omega)).1
  rcases h with ⟨hq, z, hz, rfl⟩ | ⟨hq, z, hz, rfl⟩ | ⟨rfl, rfl⟩ | ⟨rfl, z, hz, rfl⟩ | ⟨rfl, z, hz, rfl⟩
  · rw [← first_le hz hi]
    refine hrow _ ?_
    unfold rowB
    rw [if_neg (by omega), if_pos hq]; rfl
  · show _ = some (fi (bI (!fromZ z i)))
    rw [← first_full hz hi]
    refine hrow _ ?_
    unfold rowB
    rw [if_neg (by omega), if_neg (by omega), if_pos hq]; rfl
  · show _ = some (fi (bI (Go.Proofs.YtdddmehchfnppaaGreatDoor.pre l (i + 1))))
    rw [pre_cnt]
    refine hrow _ ?_
    have e : (((cnt l (i + 1) % 2 : Nat) : Int) == 1) = decide (cnt l (i + 1) % 2 = 1) := by
      rcases Nat.mod_two_eq_zero_or_one (cnt l (i + 1)) with h | h <;> rw [h] <;> rfl
    show some (bZ (((cnt l (i + 1) % 2 : Nat) : Int) == 1)) = _
    rw [e]; rfl
  · show stepsR _ _ _ _ = _
    rw [Nat.add_sub_cancel, steps_tB pw 11 _ l i x (fun j hj => hx j (by omega)) (rel_lt pw) i (Nat.le_refl _)]
    have hiff := tB_lt l i i (Nat.le_refl _)
    rw [Nat.sub_self] at hiff
    obtain ⟨_, h1, h2⟩ := hz
    have e : tB (fun a b => !a && b) l i i = decide (i = z) := by
      by_cases hiz : i = z
      · rw [decide_eq_true hiz]
        exact hiff.2 ⟨by rw [hiz]; exact h1 (by omega), fun j _ hj => h2 j (by omega)⟩
      · rw [decide_eq_false hiz]
        cases ht : tB (fun a b => !a && b) l i i with
        | false => rfl
        | true =>
          obtain ⟨a1, a2⟩ := hiff.1 ht
          exfalso
          rcases Nat.lt_or_ge i z with h | h
          · rw [h2 i h] at a1; cases a1
          · have := a2 z (Nat.zero_le _) (by omega)
            rw [h1 (by omega)] at this; cases this
    rw [e]
  · show stepsR _ _ _ _ = _
    rw [Nat.add_sub_cancel, steps_tB pw 12 _ l i x (fun j hj => hx j (by omega)) (rel_le pw) i (Nat.le_refl _)]
    have hiff := tB_le2 l i i (Nat.le_refl _)
    rw [Nat.sub_self] at hiff
    obtain ⟨_, h1, h2⟩ := hz
    have e : tB (fun a b => !a || b) l i i = !decide (i = z) := by
      by_cases hiz : i = z
      · rw [decide_eq_true hiz]
        refine hiff.2 ⟨?_, fun j _ hj => ?_⟩
        · have := h1 (by omega); rw [hiz]; simpa using this
        · have := h2 j (by omega); simpa using this
      · rw [decide_eq_false hiz]
        cases ht : tB (fun a b => !a || b) l i i with
        | true => rfl
        | false =>
          obtain ⟨a1, a2⟩ := hiff.1 ht
          exfalso
          rcases Nat.lt_or_ge i z with h | h
          · have h4 : (!l i) = false := h2 i h
            rw [a1] at h4; cases h4
          · have h3 : (!l z) = true := h1 (by omega)
            rw [a2 z (Nat.zero_le _) (by omega)] at h3; cases h3
    rw [e]
end Go.Proofs.YtdddmehchfnppaaGreatDoor
namespace Go.Proofs.YtdddmehchfnppaaGreatDoor
open Go Go.RowKit Go.Proofs Fl

/-- what scan.line holds behind i numbers -/
def yF (q : Int) (x : Nat → Int) : Nat → Int
  | 0 => 0
  | i + 1 => if q = 5 then (if i = 0 ∨ yF q x i < x i then x i else yF q x i) else if q = 6 then (if i = 0 ∨ x i < yF q x i then x i else yF q x i) else if q = 2 ∧ i % 2 = 1 then yF q x i - x i else yF q x i + x i
/-- all of them, without signs -/
def sF (x : Nat → Int) : Nat → Int
  | 0 => 0
  | i + 1 => sF x i + max (x i) (- x i)
theorem sF_mono (x : Nat → Int) (i j : Nat) : sF x i ≤ sF x (i + j) := by
  induction j with
  | zero => exact Int.le_refl _
  | succ j ih =>
    have e : sF x (i + (j + 1)) = sF x (i + j) + max (x (i + j)) (- x (i + j)) := rfl
    omega
theorem sF_nonneg (x : Nat → Int) (i : Nat) : 0 ≤ sF x i := by
  have := sF_mono x 0 i
  rw [Nat.zero_add] at this
  exact this
theorem yF_five {x : Nat → Int} (i : Nat) : yF 5 x (i + 1) = if i = 0 ∨ yF 5 x i < x i then x i else yF 5 x i := rfl
theorem yF_six {x : Nat → Int} (i : Nat) : yF 6 x (i + 1) = if i = 0 ∨ x i < yF 6 x i then x i else yF 6 x i := rfl
theorem yF_one {x : Nat → Int} (i : Nat) : yF 1 x (i + 1) = yF 1 x i + x i := by
  show (if (1 : Int) = 5 then _ else if (1 : Int) = 6 then _ else if (1 : Int) = 2 ∧ i % 2 = 1 then _ else _) = _
  rw [if_neg (by decide), if_neg (by decide), if_neg (fun h => absurd h.1 (by decide))]
theorem yF_two {x : Nat → Int} (i : Nat) : yF 2 x (i + 1) = if i % 2 = 1 then yF 2 x i - x i else yF 2 x i + x i := by
  show (if (2 : Int) = 5 then _ else if (2 : Int) = 6 then _ else if (2 : Int) = 2 ∧ i % 2 = 1 then _ else _) = _
  rw [if_neg (by decide), if_neg (by decide)]
  by_cases h : i % 2 = 1
  · rw [if_pos ⟨rfl, h⟩, if_pos h]
  · rw [if_neg (fun e => h e.2), if_neg h]
theorem yF_le {q : Int} (hq : q = 1 ∨ q = 2) (x : Nat → Int) (i : Nat) : - sF x i ≤ yF q x i ∧ yF q x i ≤ sF x i := by
  induction i with
  | zero => exact ⟨Int.le_refl _, Int.le_refl _⟩
  | succ i ih =>
    have e : sF x (i + 1) = sF x i + max (x i) (- x i) := rfl
    rcases hq with rfl | rfl
    · rw [yF_one, e]; omega
    · rw [yF_two, e]; split <;> omega

theorem yF_diff {q : Int} (hq : q = 1 ∨ q = 2) (x : Nat → Int) (p d : Nat) : - (sF x (p + d) - sF x p) ≤ yF q x (p + d) - yF q x p ∧ yF q x (p + d) - yF q x p ≤ sF x (p + d) - sF x p := by
  induction d with
  | zero => constructor <;> (rw [Nat.add_zero]; omega)
  | succ d ih =>
    have e : sF x (p + (d + 1)) = sF x (p + d) + max (x (p + d)) (- x (p + d)) := rfl
    have e2 : p + (d + 1) = p + d + 1 := rfl
    rcases hq with rfl | rfl
    · rw [e, e2, yF_one]; omega
    · rw [e, e2, yF_two]; split <;> omega
theorem yF_part {q : Int} (hq : q = 1 ∨ q = 2) (x : Nat → Int) {p i : Nat} (hp : p ≤ i) (hg : Good (sF x i)) : Good (yF q x i - yF q x p) ∧ Good (yF q x p - yF q x i) := by
  have h := yF_diff hq x p (i - p)
  rw [show p + (i - p) = i by omega] at h
  have h0 := sF_nonneg x p
  obtain ⟨g1, g2⟩ := hg
  unfold Good
  omega

/-- a row of whole numbers put together from its end on, after m steps -/
def rz (q : Int) (x : Nat → Int) (i : Nat) : Nat → Int
  | 0 => x i
  | m + 1 => if q = 1 then x (i - 1 - m) + rz q x i m else if q = 2 then x (i - 1 - m) - rz q x i m else if q = 5 then max (x (i - 1 - m)) (rz q x i m) else min (x (i - 1 - m)) (rz q x i m)
theorem stepsR_rz (pw : Nat → Nat → Nat × Int) (q : Int) (hq : q = 1 ∨ q = 2 ∨ q = 5 ∨ q = 6) (x : Nat → Int) (X : Nat → Nat) (i : Nat) (hX : ∀ j, j ≤ i → X j = fi (x j) ∧ Good (x j)) (hg : ∀ m, m ≤ i → Good (rz q x i m)) :
    ∀ m, m ≤ i → stepsR (oneP pw q) X (i + 1) m = some (fi (rz q x i m)) := by
  intro m
  induction m with
  | zero => intro _; show some (X (i + 1 - 1)) = _; rw [Nat.add_sub_cancel, (hX i (Nat.le_refl _)).1]; rfl
  | succ m ih =>
    intro hm
    show (stepsR _ _ _ _).bind _ = _
    rw [ih (by omega)]
    show (if (oneP pw q (X (i + 1 - 2 - m)) (fi (rz q x i m))).2 = 0 then some (oneP pw q (X (i + 1 - 2 - m)) (fi (rz q x i m))).1 else none) = _
    have e : i + 1 - 2 - m = i - 1 - m := by omega
    have hx := hX (i - 1 - m) (by omega)
    have hgm := hg m (by omega)
    have hgn := hg (m + 1) hm
    rw [e, hx.1]
    have hw : wholeZ q (x (i - 1 - m)) (rz q x i m) = some (rz q x i (m + 1)) := by
      unfold wholeZ okZ
      rcases hq with rfl | rfl | rfl | rfl
      · exact if_pos (goodB_iff.2 hgn)
      · exact if_pos (goodB_iff.2 hgn)
      · rfl
      · rfl
    rw [wholeZ_one pw hx.2 hgm hw]
    rfl
theorem rowR_rz (pw : Nat → Nat → Nat × Int) (q : Int) (hq : q = 1 ∨ q = 2 ∨ q = 5 ∨ q = 6) (x : Nat → Int) (X : Nat → Nat) (i : Nat) (hX : ∀ j, j ≤ i → X j = fi (x j) ∧ Good (x j)) (hg : ∀ m, m ≤ i → Good (rz q x i m)) :
    rowR (oneP pw q) X (i + 1) = some (fi (rz q x i i)) := stepsR_rz pw q hq x X i hX hg i (Nat.le_refl _)

theorem rz_one (x : Nat → Int) (i : Nat) : ∀ m, m ≤ i → rz 1 x i m = yF 1 x (i + 1) - yF 1 x (i - m) := by
  intro m
  induction m with
  | zero => intro _; rw [yF_one, Nat.sub_zero]; show x i = _; omega
  | succ m ih =>
    intro hm
    show x (i - 1 - m) + rz 1 x i m = _
    rw [ih (by omega)]
    have e : i - m = (i - 1 - m) + 1 := by omega
    have e2 : i - (m + 1) = i - 1 - m := by omega
    rw [e2, e, yF_one (i - 1 - m)]
    omega
theorem rz_two (x : Nat → Int) (i : Nat) : ∀ m, m ≤ i → rz 2 x i m = if (i - m) % 2 = 1 then yF 2 x (i - m) - yF 2 x (i + 1) else yF 2 x (i + 1) - yF 2 x (i - m) := by
  intro m
  induction m with
  | zero =>
    intro _
    rw [yF_two, Nat.sub_zero]
    show x i = _
    split <;> omega
  | succ m ih =>
    intro hm
    show x (i - 1 - m) - rz 2 x i m = _
    rw [ih (by omega)]
    have e : i - m = (i - 1 - m) + 1 := by omega
    have e2 : i - (m + 1) = i - 1 - m := by omega
    rw [e2, e, yF_two (i - 1 - m)]
    generalize i - 1 - m = p
    generalize yF 2 x p = a
    generalize yF 2 x (i + 1) = b
    generalize x p = c
    rcases Nat.mod_two_eq_zero_or_one p with h | h
    · have h' : (p + 1) % 2 = 1 := by omega
      rw [if_pos h', if_neg (by omega), if_neg (by omega)]; omega
    · have h' : ¬ (p + 1) % 2 = 1 := by omega
      rw [if_neg h', if_pos h, if_pos h]; omega
theorem rz_five_ge (x : Nat → Int) (i : Nat) : ∀ m, m ≤ i → (∀ j, i - m ≤ j → j ≤ i → x j ≤ rz 5 x i m) ∧ ∃ j, i - m ≤ j ∧ j ≤ i ∧ rz 5 x i m = x j := by
  intro m
  induction m with
  | zero => intro _; exact ⟨fun j h1 h2 => by have : j = i := by omega
                                              subst this; exact Int.le_refl _, i, by omega, Nat.le_refl _, rfl⟩
  | succ m ih =>
    intro hm
    obtain ⟨h1, j0, h2, h3, h4⟩ := ih (by omega)
    have e : rz 5 x i (m + 1) = max (x (i - 1 - m)) (rz 5 x i m) := rfl
    refine ⟨fun j hj1 hj2 => ?_, ?_⟩
    · by_cases hj : j = i - 1 - m
      · subst hj; rw [e]; omega
      · have := h1 j (by omega) hj2
        rw [e]; omega
    · by_cases hle : rz 5 x i m ≤ x (i - 1 - m)
      · exact ⟨i - 1 - m, by omega, by omega, by rw [e]; omega⟩
      · exact ⟨j0, by omega, h3, by rw [e, ← h4]; omega⟩
theorem rz_six_le (x : Nat → Int) (i : Nat) : ∀ m, m ≤ i → (∀ j, i - m ≤ j → j ≤ i → rz 6 x i m ≤ x j) ∧ ∃ j, i - m ≤ j ∧ j ≤ i ∧ rz 6 x i m = x j := by
  intro m
  induction m with
  | zero => intro _; exact ⟨fun j h1 h2 => by have : j = i := by omega
                                              subst this; exact Int.le_refl _, i, by omega, Nat.le_refl _, rfl⟩
  | succ m ih =>
    intro hm
    obtain ⟨h1, j0, h2, h3, h4⟩ := ih (by omega)
    have e : rz 6 x i (m + 1) = min (x (i - 1 - m)) (rz 6 x i m) := rfl
    refine ⟨fun j hj1 hj2 => ?_, ?_⟩
    · by_cases hj : j = i - 1 - m
      · subst hj; rw [e]; omega
      · have := h1 j (by omega) hj2
        rw [e]; omega
    · by_cases hle : x (i - 1 - m) ≤ rz 6 x i m
      · exact ⟨i - 1 - m, by omega, by omega, by rw [e]; omega⟩
      · exact ⟨j0, by omega, h3, by rw [e, ← h4]; omega⟩
theorem yF_five_ge (x : Nat → Int) (i : Nat) : (∀ j, j ≤ i → x j ≤ yF 5 x (i + 1)) ∧ ∃ j, j ≤ i ∧ yF 5 x (i + 1) = x j := by
  induction i with
  | zero => rw [yF_five, if_pos (.inl rfl)]; exact ⟨fun j h => by obtain rfl : j = 0 := by omega
                                                                  exact Int.le_refl _, 0, Nat.le_refl _, rfl⟩
  | succ i ih =>
    obtain ⟨h1, j0, h2, h3⟩ := ih
    rw [yF_five]
    by_cases h : yF 5 x (i + 1) < x (i + 1)
    · rw [if_pos (.inr h)]
      exact ⟨fun j hj => by
        by_cases e : j = i + 1
        · subst e; exact Int.le_refl _
        · have := h1 j (by omega); omega, i + 1, Nat.le_refl _, rfl⟩
    · rw [if_neg (by omega)]
      exact ⟨fun j hj => by
        by_cases e : j = i + 1
        · subst e; omega
        · exact h1 j (by omega), j0, by omega, h3⟩
theorem yF_six_le (x : Nat → Int) (i : Nat) : (∀ j, j ≤ i → yF 6 x (i + 1) ≤ x j) ∧ ∃ j, j ≤ i ∧ yF 6 x (i + 1) = x j := by
  induction i with
  | zero => rw [yF_six, if_pos (.inl rfl)]; exact ⟨fun j h => by obtain rfl : j = 0 := by omega
                                                                 exact Int.le_refl _, 0, Nat.le_refl _, rfl⟩
  | succ i ih =>
    obtain ⟨h1, j0, h2, h3⟩ := ih
    rw [yF_six]
    by_cases h : x (i + 1) < yF 6 x (i + 1)
    · rw [if_pos (.inr h)]
      exact ⟨fun j hj => by
        by_cases e : j = i + 1
        · subst e; exact Int.le_refl _
        · have := h1 j (by omega); omega, i + 1, Nat.le_refl _, rfl⟩
    · rw [if_neg (by omega)]
      exact ⟨fun j hj => by
        by_cases e : j = i + 1
        · subst e; omega
        · exact h1 j (by omega), j0, by omega, h3⟩

/-- what the line holds is what the row comes to -/
theorem line_plain (pw : Nat → Nat → Nat × Int) (q : Int) (hq : q = 1 ∨ q = 2 ∨ q = 5 ∨ q = 6) (x : Nat → Int) (X : Nat → Nat) (n : Nat) (hX : ∀ j, j < n → X j = fi (x j) ∧ Good (x j)) (hs : q = 1 ∨ q = 2 → ∀ i, i ≤ n → Good (sF x i)) (i : Nat) (hi : i < n) :
    rowR (oneP pw q) X (i + 1) = some (fi (yF q x (i + 1))) ∧ Good (yF q x (i + 1)) := by
  rcases hq with rfl | rfl | rfl | rfl
  · have hn := hs (.inl rfl) (i + 1) (by omega)
    have hr := rz_one x i
    have hb : ∀ m, m ≤ i → Good (rz 1 x i m) := fun m hm => by
      rw [hr m hm]
      exact (yF_part (.inl rfl) x (by omega) hn).1
    have h0 := yF_part (q := 1) (.inl rfl) x (Nat.zero_le (i + 1)) hn
    rw [show yF 1 x 0 = 0 from rfl, Int.sub_zero] at h0
    rw [rowR_rz pw 1 (.inl rfl) x X i (fun j hj => hX j (by omega)) hb, hr i (Nat.le_refl _), Nat.sub_self]
    exact ⟨by rw [show yF 1 x 0 = 0 from rfl, Int.sub_zero], h0.1⟩
  · have hn := hs (.inr rfl) (i + 1) (by omega)
    have hr := rz_two x i
    have hb : ∀ m, m ≤ i → Good (rz 2 x i m) := fun m hm => by
      rw [hr m hm]
      have := yF_part (q := 2) (.inr rfl) x (show i - m ≤ i + 1 by omega) hn
      split
      · exact this.2
      · exact this.1
    have h0 := yF_part (q := 2) (.inr rfl) x (Nat.zero_le (i + 1)) hn
    rw [show yF 2 x 0 = 0 from rfl, Int.sub_zero] at h0
    rw [rowR_rz pw 2 (.inr (.inl rfl)) x X i (fun j hj => hX j (by omega)) hb, hr i (Nat.le_refl _), Nat.sub_self, if_neg (by decide)]
    exact ⟨by rw [show yF 2 x 0 = 0 from rfl, Int.sub_zero], h0.1⟩
  · have hb : ∀ m, m ≤ i → Good (rz 5 x i m) := fun m hm => by
      obtain ⟨_, j, _, h2, h3⟩ := rz_five_ge x i m hm
      rw [h3]; exact (hX j (by omega)).2
    obtain ⟨a1, j, _, a2, a3⟩ := rz_five_ge x i i (Nat.le_refl _)
    obtain ⟨b1, k, b2, b3⟩ := yF_five_ge x i
    have e : rz 5 x i i = yF 5 x (i + 1) := by
      have h1 := b1 j a2
      have h2 := a1 k (by omega) b2
      omega
    rw [rowR_rz pw 5 (.inr (.inr (.inl rfl))) x X i (fun j hj => hX j (by omega)) hb, e]
    exact ⟨rfl, by rw [b3]; exact (hX k (by omega)).2⟩
  · have hb : ∀ m, m ≤ i → Good (rz 6 x i m) := fun m hm => by
      obtain ⟨_, j, _, h2, h3⟩ := rz_six_le x i m hm
      rw [h3]; exact (hX j (by omega)).2
    obtain ⟨a1, j, _, a2, a3⟩ := rz_six_le x i i (Nat.le_refl _)
    obtain ⟨b1, k, b2, b3⟩ := yF_six_le x i
    have e : rz 6 x i i = yF 6 x (i + 1) := by
      have h1 := b1 j a2
      have h2 := a1 k (by omega) b2
      omega
    rw [rowR_rz pw 6 (.inr (.inr (.inr rfl))) x X i (fun j hj => hX j (by omega)) hb, e]
    exact ⟨rfl, by rw [b3]; exact (hX k (by omega)).2⟩
end Go.Proofs.YtdddmehchfnppaaGreatDoor
