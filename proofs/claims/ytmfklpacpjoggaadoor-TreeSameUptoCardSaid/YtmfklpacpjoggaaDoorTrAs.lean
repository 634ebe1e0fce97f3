/- tree.value, tree.function, tree.index, tree.bind, tree.line told of every tree. Printed by gen_tras.py. Conditions: no part is longer than a call can hold. -/
import Derived.Test.YtmfklpacpjoggaaDoorTrVl
import Derived.Test.YtmfklpacpjoggaaDoorTrVn
namespace Go.Proofs.YtmfklpacpjoggaaDoor
open Go Go.RowKit Go.Proofs Fl

theorem len1 {l : List RTree} (h : l.length = 1) : ∃ a, l = [a] := by
  match l, h with
  | [a], _ => exact ⟨a, rfl⟩
theorem len2 {l : List RTree} (h : l.length = 2) : ∃ a b, l = [a, b] := by
  match l, h with
  | [a, b], _ => exact ⟨a, b, rfl⟩
theorem len3 {l : List RTree} (h : l.length = 3) : ∃ a b c, l = [a, b, c] := by
  match l, h with
  | [a, b, c], _ => exact ⟨a, b, c, rfl⟩
theorem lenM {l : List RTree} (h : 1 < l.length) : ∃ a b r, l = a :: b :: r := by
  match l, h with
  | a :: b :: r, _ => exact ⟨a, b, r, rfl⟩
theorem lenL {l : List RTree} (h : 1 < l.length) : ∃ r a, l = r ++ [a] :=
  ⟨l.dropLast, l.getLast (by intro e; rw [e] at h; simp at h), (List.dropLast_concat_getLast _).symm⟩

set_option maxHeartbeats 800000 in
theorem val_step {N : Nat} (HIV : Hid (Tells 18 (fun t => gd t 0) (fun t => sizeR t ≤ N ∧ FitG t))) (HIF : Hid (Tells 19 (fun t => gd t 1) (fun t => sizeR t ≤ N ∧ FitG t))) (HIX : Hid (Tells 36 (fun t => gd t 2) (fun t => sizeR t ≤ N ∧ FitG t))) :
    Tells 18 (fun t => gd t 0) (fun t => sizeR t ≤ N + 1 ∧ FitG t) := by
  rintro ⟨k, nums, text, name, c, kids⟩ v0 v1 v2 v3 v4 v5 v6 w ⟨hN, hf⟩ ht
  obtain ⟨at1, A1, n1, c1, A2, n2, c2, A, m, cc, hvs, hy⟩ := ht.node hf hN
  simp only [List.cons.injEq, and_true] at hvs
  obtain ⟨rfl, rfl, rfl, rfl, rfl, rfl, rfl⟩ := hvs
  dsimp only
  by_cases hk : k < 1 ∨ 12 < k
  · exact val_no (hk := hk)
  have hk2 : k = 1 ∨ k = 2 ∨ k = 3 ∨ k = 4 ∨ k = 5 ∨ k = 6 ∨ k = 7 ∨ k = 8 ∨ k = 9 ∨ k = 10 ∨ k = 11 ∨ k = 12 := by omega
  clear hk
  rcases hk2 with rfl | rfl | rfl | rfl | rfl | rfl | rfl | rfl | rfl | rfl | rfl | rfl
  · by_cases h0 : n1 = 0
    · exact val_1a (h0 := h0) (HY := hy)
    · exact val_1b (h0 := by omega) (HY := hy)
  · exact val_2 (HY := hy)
  · exact val_3 (HY := hy)
  · exact val_4 (HY := hy)
  · exact val_5 (HY := hy)
  · exact val_6 (HY := hy)
  · by_cases h0 : m ≤ 1
    · exact val_7a (h0 := h0) (HY := hy)
    · exact val_7b (h0 := by omega) (HY := hy) (HIV := HIV)
  · by_cases h0 : m ≤ 1
    · exact val_8a (h0 := h0) (HY := hy)
    · obtain ⟨t0, t1, ts, rfl⟩ := lenM (l := kids) (by have := hy.hm; omega)
      obtain ⟨b, o, u00, u01, u02, u03, u04, u05, u06, rfl, hr0, hc0⟩ := hy.hkid.kid0
      have ok0 : sizeR t0 ≤ _ ∧ FitG t0 := hy.ok 0 (by simp)
      exact val_8b (h0 := by omega) (hcp := hy.hcap) (HY := hy) (HR0 := hr0) (HC0 := hc0) (OK0 := ok0) (HIV := HIV) (HIX := HIX)
  · by_cases h0 : (m : Int) ≠ 2
    · exact val_9a (h0 := h0) (HY := hy)
    · have hl : kids.length = 2 := by have := hy.hm; omega
      obtain ⟨t0, t1, rfl⟩ := len2 hl
      obtain rfl : m = 2 := by have := hy.hm; simpa using this
      obtain ⟨b, o, u00, u01, u02, u03, u04, u05, u06, rfl, hr0, hc0⟩ := hy.hkid.kid0
      obtain ⟨u10, u11, u12, u13, u14, u15, u16, hr1, hc1⟩ := hy.hkid.kid1
      have ok0 : sizeR t0 ≤ _ ∧ FitG t0 := hy.ok 0 (by simp)
      have ok1 : sizeR t1 ≤ _ ∧ FitG t1 := hy.ok 1 (by simp)
      exact val_9b (HY := hy) (HR0 := hr0) (HC0 := hc0) (OK0 := ok0) (HR1 := hr1) (HC1 := hc1) (OK1 := ok1) (HIV := HIV) (HIF := HIF)
  · by_cases h0 : (m : Int) ≠ 3
    · exact val_10a (h0 := h0) (HY := hy)
    · have hl : kids.length = 3 := by have := hy.hm; omega
      obtain ⟨t0, t1, t2, rfl⟩ := len3 hl
      obtain rfl : m = 3 := by have := hy.hm; simpa using this
      obtain ⟨b, o, u00, u01, u02, u03, u04, u05, u06, rfl, hr0, hc0⟩ := hy.hkid.kid0
      obtain ⟨u10, u11, u12, u13, u14, u15, u16, hr1, hc1⟩ := hy.hkid.kid1
      obtain ⟨u20, u21, u22, u23, u24, u25, u26, hr2, hc2⟩ := hy.hkid.kid2
      have ok0 : sizeR t0 ≤ _ ∧ FitG t0 := hy.ok 0 (by simp)
      have ok1 : sizeR t1 ≤ _ ∧ FitG t1 := hy.ok 1 (by simp)
      have ok2 : sizeR t2 ≤ _ ∧ FitG t2 := hy.ok 2 (by simp)
      exact val_10b (HY := hy) (HR0 := hr0) (HC0 := hc0) (OK0 := ok0) (HR1 := hr1) (HC1 := hc1) (OK1 := ok1) (HR2 := hr2) (HC2 := hc2) (OK2 := ok2) (HIV := HIV) (HIF := HIF)
  · by_cases h0 : (m : Int) ≠ 1
    · exact val_11a (h0 := h0) (HY := hy)
    · have hl : kids.length = 1 := by have := hy.hm; omega
      obtain ⟨t0, rfl⟩ := len1 hl
      obtain rfl : m = 1 := by have := hy.hm; simpa using this
      obtain ⟨b, o, u00, u01, u02, u03, u04, u05, u06, rfl, hr0, hc0⟩ := hy.hkid.kid0
      have ok0 : sizeR t0 ≤ _ ∧ FitG t0 := hy.ok 0 (by simp)
      exact val_11b (HY := hy) (HR0 := hr0) (HC0 := hc0) (OK0 := ok0) (HIV := HIV)
  · by_cases h0 : m ≤ 1
    · exact val_12a (h0 := h0) (HY := hy)
    · obtain ⟨ts, t0, rfl⟩ := lenL (l := kids) (by have := hy.hm; omega)
      have hm' : m = ts.length + 1 := by have := hy.hm; simpa using this
      obtain ⟨b, o, u00, u01, u02, u03, u04, u05, u06, rfl, hr0, hc0⟩ := hy.hkid.kid ts.length (by simp)
      have hr0' : TN w t0 [u00, u01, u02, u03, u04, u05, u06] := by simpa using hr0
      have ok0 : sizeR t0 ≤ N ∧ FitG t0 := by have := hy.ok ts.length (by simp); simpa using this
      obtain ⟨j, hj⟩ : ∃ j, j = ts.length := ⟨_, rfl⟩
      rw [← hj] at hc0 hm'
      subst hm'
      exact val_12b (h0 := by omega) (hj2 := by have := hy.fm; omega) (hcp := hy.hcap) (hj := hj) (HY := hy) (HR0 := hr0') (HC0 := hc0) (OK0 := ok0) (HIV := HIV) (HIX := HIX)

set_option maxHeartbeats 800000 in
theorem fun_step {N : Nat} (HIF : Hid (Tells 19 (fun t => gd t 1) (fun t => sizeR t ≤ N ∧ FitG t))) (HIL : Hid (Tells 39 (fun t => gd t 3) (fun t => sizeR t ≤ N ∧ FitG t))) :
    Tells 19 (fun t => gd t 1) (fun t => sizeR t ≤ N + 1 ∧ FitG t) := by
  rintro ⟨k, nums, text, name, c, kids⟩ v0 v1 v2 v3 v4 v5 v6 w ⟨hN, hf⟩ ht
  obtain ⟨at1, A1, n1, c1, A2, n2, c2, A, m, cc, hvs, hy⟩ := ht.node hf hN
  simp only [List.cons.injEq, and_true] at hvs
  obtain ⟨rfl, rfl, rfl, rfl, rfl, rfl, rfl⟩ := hvs
  dsimp only
  by_cases hk : k < 13 ∨ 18 < k
  · exact fun_no (hk := hk)
  have hk2 : k = 13 ∨ k = 14 ∨ k = 15 ∨ k = 16 ∨ k = 17 ∨ k = 18 := by omega
  clear hk
  rcases hk2 with rfl | rfl | rfl | rfl | rfl | rfl
  · exact fun_13 (HY := hy)
  · exact fun_14 (HY := hy)
  · by_cases h0 : m = 0
    · subst h0
      exact fun_15a (HY := hy)
    · exact fun_15b (h0 := by omega) (HY := hy) (HIL := HIL)
  · by_cases h0 : (m : Int) ≠ 1
    · exact fun_16a (h0 := h0) (HY := hy)
    · have hl : kids.length = 1 := by have := hy.hm; omega
      obtain ⟨t0, rfl⟩ := len1 hl
      obtain rfl : m = 1 := by have := hy.hm; simpa using this
      obtain ⟨b, o, u00, u01, u02, u03, u04, u05, u06, rfl, hr0, hc0⟩ := hy.hkid.kid0
      have ok0 : sizeR t0 ≤ _ ∧ FitG t0 := hy.ok 0 (by simp)
      cases hs : slashB c with
      | true => exact fun_16b (hs := hs) (HY := hy) (HR0 := hr0) (HC0 := hc0) (OK0 := ok0) (HIF := HIF)
      | false =>
        by_cases h1 : c = 168
        · subst h1; exact fun_16c (HY := hy) (HR0 := hr0) (HC0 := hc0) (OK0 := ok0) (HIF := HIF)
        · by_cases h2 : c = 9064
          · subst h2; exact fun_16d (HY := hy) (HR0 := hr0) (HC0 := hc0) (OK0 := ok0) (HIF := HIF)
          · exact fun_16e (hs := hs) (h1 := by simpa using h1) (h2 := by simpa using h2) (HY := hy)
  · by_cases h0 : (m : Int) ≠ 2
    · exact fun_17a (h0 := h0) (HY := hy)
    · have hl : kids.length = 2 := by have := hy.hm; omega
      obtain ⟨t0, t1, rfl⟩ := len2 hl
      obtain rfl : m = 2 := by have := hy.hm; simpa using this
      obtain ⟨b, o, u00, u01, u02, u03, u04, u05, u06, rfl, hr0, hc0⟩ := hy.hkid.kid0
      obtain ⟨u10, u11, u12, u13, u14, u15, u16, hr1, hc1⟩ := hy.hkid.kid1
      have ok0 : sizeR t0 ≤ _ ∧ FitG t0 := hy.ok 0 (by simp)
      have ok1 : sizeR t1 ≤ _ ∧ FitG t1 := hy.ok 1 (by simp)
      exact fun_17b (HY := hy) (HR0 := hr0) (HC0 := hc0) (OK0 := ok0) (HR1 := hr1) (HC1 := hc1) (OK1 := ok1) (HIF := HIF)
  · by_cases h0 : (m : Int) ≠ 1
    · exact fun_18a (h0 := h0) (HY := hy)
    · have hl : kids.length = 1 := by have := hy.hm; omega
      obtain ⟨t0, rfl⟩ := len1 hl
      obtain rfl : m = 1 := by have := hy.hm; simpa using this
      obtain ⟨b, o, u00, u01, u02, u03, u04, u05, u06, rfl, hr0, hc0⟩ := hy.hkid.kid0
      have ok0 : sizeR t0 ≤ _ ∧ FitG t0 := hy.ok 0 (by simp)
      exact fun_18b (HY := hy) (HR0 := hr0) (HC0 := hc0) (OK0 := ok0) (HIF := HIF)

theorem idx_step {N : Nat} (HV : Hid (Tells 18 (fun t => gd t 0) (fun t => sizeR t ≤ N + 1 ∧ FitG t))) :
    Tells 36 (fun t => gd t 2) (fun t => sizeR t ≤ N + 1 ∧ FitG t) := by
  rintro ⟨k, nums, text, name, c, kids⟩ v0 v1 v2 v3 v4 v5 v6 w ⟨hN, hf⟩ ht
  obtain ⟨at1, A1, n1, c1, A2, n2, c2, A, m, cc, hvs, hy⟩ := ht.node hf hN
  simp only [List.cons.injEq, and_true] at hvs
  obtain ⟨rfl, rfl, rfl, rfl, rfl, rfl, rfl⟩ := hvs
  dsimp only
  by_cases hk : k = 21
  · subst hk
    exact idx_21 (HY := hy) (HW0 := (fun W hb => HV.out _ _ _ _ _ _ _ _ W ⟨hN, hf⟩ (TN.below hb _ _ ht)))
  · exact idx_no (hk := hk) (HW0 := (fun W hb => HV.out _ _ _ _ _ _ _ _ W ⟨hN, hf⟩ (TN.below hb _ _ ht)))

theorem bind_step {N : Nat} (HIF : Hid (Tells 19 (fun t => gd t 1) (fun t => sizeR t ≤ N ∧ FitG t))) :
    Tells 56 (fun t => gd t 4) (fun t => sizeR t ≤ N + 1 ∧ FitG t) := by
  rintro ⟨k, nums, text, name, c, kids⟩ v0 v1 v2 v3 v4 v5 v6 w ⟨hN, hf⟩ ht
  obtain ⟨at1, A1, n1, c1, A2, n2, c2, A, m, cc, hvs, hy⟩ := ht.node hf hN
  simp only [List.cons.injEq, and_true] at hvs
  obtain ⟨rfl, rfl, rfl, rfl, rfl, rfl, rfl⟩ := hvs
  dsimp only
  by_cases h0 : (m : Int) ≠ 1
  · exact bind_a (h0 := h0) (HY := hy)
  · have hl : kids.length = 1 := by have := hy.hm; omega
    obtain ⟨t0, rfl⟩ := len1 hl
    obtain rfl : m = 1 := by have := hy.hm; simpa using this
    obtain ⟨b, o, u00, u01, u02, u03, u04, u05, u06, rfl, hr0, hc0⟩ := hy.hkid.kid0
    have ok0 : sizeR t0 ≤ _ ∧ FitG t0 := hy.ok 0 (by simp)
    exact bind_b (HY := hy) (HR0 := hr0) (HC0 := hc0) (OK0 := ok0) (HIF := HIF)

theorem line_step {N : Nat} (HIV : Hid (Tells 18 (fun t => gd t 0) (fun t => sizeR t ≤ N ∧ FitG t))) (HV : Hid (Tells 18 (fun t => gd t 0) (fun t => sizeR t ≤ N + 1 ∧ FitG t))) (HB : Hid (Tells 56 (fun t => gd t 4) (fun t => sizeR t ≤ N + 1 ∧ FitG t))) :
    Tells 39 (fun t => gd t 3) (fun t => sizeR t ≤ N + 1 ∧ FitG t) := by
  rintro ⟨k, nums, text, name, c, kids⟩ v0 v1 v2 v3 v4 v5 v6 w ⟨hN, hf⟩ ht
  obtain ⟨at1, A1, n1, c1, A2, n2, c2, A, m, cc, hvs, hy⟩ := ht.node hf hN
  simp only [List.cons.injEq, and_true] at hvs
  obtain ⟨rfl, rfl, rfl, rfl, rfl, rfl, rfl⟩ := hvs
  dsimp only
  by_cases hk : k = 19
  · subst hk
    by_cases h0 : (m : Int) ≠ 2
    · exact line_19a (h0 := h0) (HY := hy)
    · have hl : kids.length = 2 := by have := hy.hm; omega
      obtain ⟨t0, t1, rfl⟩ := len2 hl
      obtain rfl : m = 2 := by have := hy.hm; simpa using this
      obtain ⟨b, o, u00, u01, u02, u03, u04, u05, u06, rfl, hr0, hc0⟩ := hy.hkid.kid0
      obtain ⟨u10, u11, u12, u13, u14, u15, u16, hr1, hc1⟩ := hy.hkid.kid1
      have ok0 : sizeR t0 ≤ _ ∧ FitG t0 := hy.ok 0 (by simp)
      have ok1 : sizeR t1 ≤ _ ∧ FitG t1 := hy.ok 1 (by simp)
      exact line_19b (HY := hy) (HR0 := hr0) (HC0 := hc0) (OK0 := ok0) (HR1 := hr1) (HC1 := hc1) (OK1 := ok1) (HIV := HIV)
  · by_cases hk2 : k = 20
    · subst hk2
      exact line_20 (HW4 := (fun W hb => HB.out _ _ _ _ _ _ _ _ W ⟨hN, hf⟩ (TN.below hb _ _ ht))) (HW0 := (fun W hb => HV.out _ _ _ _ _ _ _ _ W ⟨hN, hf⟩ (TN.below hb _ _ ht)))
    · exact line_no (hk := hk) (hk2 := hk2) (HW0 := (fun W hb => HV.out _ _ _ _ _ _ _ _ W ⟨hN, hf⟩ (TN.below hb _ _ ht)))

theorem Tells.none (f : FuncId) (s : Nat) : Tells f (fun t => gd t s) (fun t => sizeR t ≤ 0 ∧ FitG t) := by
  intro t v0 v1 v2 v3 v4 v5 v6 w h
  have := sizeR_pos t
  omega

theorem all_good : ∀ N : Nat, (Tells 18 (fun t => gd t 0) (fun t => sizeR t ≤ N ∧ FitG t)) ∧ (Tells 19 (fun t => gd t 1) (fun t => sizeR t ≤ N ∧ FitG t)) ∧ (Tells 36 (fun t => gd t 2) (fun t => sizeR t ≤ N ∧ FitG t)) ∧ (Tells 39 (fun t => gd t 3) (fun t => sizeR t ≤ N ∧ FitG t)) ∧ (Tells 56 (fun t => gd t 4) (fun t => sizeR t ≤ N ∧ FitG t))
  | 0 => ⟨Tells.none _ _, Tells.none _ _, Tells.none _ _, Tells.none _ _, Tells.none _ _⟩
  | N + 1 => by
    obtain ⟨hv, hf, hx, hl, _⟩ := all_good N
    have hv1 := val_step hv hf hx
    have hb1 := bind_step hf
    exact ⟨hv1, fun_step hf hl, idx_step hv1, line_step hv hv1 hb1, hb1⟩
end Go.Proofs.YtmfklpacpjoggaaDoor
