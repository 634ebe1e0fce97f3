/- The walk of tree.Same. Conditions: at most 1048576 nodes, numbers and signs in each. -/
import Derived.Test.YtmfklpacpjoggaaDoorTrSp
namespace Go.Proofs.YtmfklpacpjoggaaDoor
open Go Go.RowKit Go.Proofs

set_option maxRecDepth 100000 in
set_option maxHeartbeats 6400000 in
theorem tSame_walk : ∀ (N : Nat) (t t' : RTree) (v0 v1 v2 v3 v4 v5 v6 u0 u1 u2 u3 u4 u5 u6 : Value) (w : World), sizeR t ≤ N → sizeR t ≤ 1048576 → sizeR t' ≤ 1048576 → FitR t → FitR t' → TN w t [v0, v1, v2, v3, v4, v5, v6] → TN w t' [u0, u1, u2, u3, u4, u5, u6] → 
    Calls Tryd.prog 7 #[.agg #[v0, v1, v2, v3, v4, v5, v6], .agg #[u0, u1, u2, u3, u4, u5, u6]] w fun e w' => e = .returned (.bool (sameR t t')) ∧ Below w.heap.size w w'
  | 0, t, _, _, _, _, _, _, _, _, _, _, _, _, _, _, _, _, h, _, _, _, _, _, _ => by have := sizeR_pos t; omega
  | N + 1, .mk k nums text name c kids, .mk k' nums' text' name' c' kids', v0, v1, v2, v3, v4, v5, v6, u0, u1, u2, u3, u4, u5, u6, w, hN, hM, hM', hf, hf', hr, hr' => by
    obtain ⟨at1, nv, tv, A, cc, m, hvs, hrn, hrt, hm, hkid⟩ := hr.open_
    simp only [List.cons.injEq, and_true] at hvs
    obtain ⟨rfl, rfl, rfl, rfl, rfl, rfl, rfl⟩ := hvs
    obtain ⟨at2, nv', tv', A', cc', m', hvs, hrn', hrt', hm', hkid'⟩ := hr'.open_
    simp only [List.cons.injEq, and_true] at hvs
    obtain ⟨rfl, rfl, rfl, rfl, rfl, rfl, rfl⟩ := hvs
    rw [FitR] at hf hf'
    obtain ⟨A1, c1, n1, rfl, hz1, hz2⟩ := hrn.opn
    clear hz1 hz2
    obtain ⟨A2, c2, n2, rfl, hz1, hz2⟩ := hrt.opn
    clear hz1 hz2
    obtain ⟨A1', c1', n1', rfl, hz1, hz2⟩ := hrn'.opn
    clear hz1 hz2
    obtain ⟨A2', c2', n2', rfl, hz1, hz2⟩ := hrt'.opn
    clear hz1 hz2
    rw [sizeR] at hN hM hM'
    have HIH : Hid (∀ t t' v0 v1 v2 v3 v4 v5 v6 u0 u1 u2 u3 u4 u5 u6 w, sizeR t ≤ N → sizeR t ≤ 1048576 → sizeR t' ≤ 1048576 → FitR t → FitR t' → TN w t [v0, v1, v2, v3, v4, v5, v6] → TN w t' [u0, u1, u2, u3, u4, u5, u6] → Calls Tryd.prog 7 #[.agg #[v0, v1, v2, v3, v4, v5, v6], .agg #[u0, u1, u2, u3, u4, u5, u6]] w fun e w' => e = .returned (.bool (sameR t t')) ∧ Below w.heap.size w w') := tSame_walk N
    have HB0 : Hid (Below w.heap.size w ((w.alloc (.cells #[.int .i64 k, .int .i64 at1, .slice A1 n1 c1, .slice A2 n2 c2, .string name, .int .i32 c, .slice A m cc] 31)).alloc (.cells #[.int .i64 k', .int .i64 at2, .slice A1' n1' c1', .slice A2' n2' c2', .string name', .int .i32 c', .slice A' m' cc'] 31))) := ((Below.refl _ w).alloc (Nat.le_refl _) _).alloc (by simp) _
    have HQN : Hid (Calls Tryd.prog 14 #[.slice A1 n1 c1, .slice A1' n1' c1'] ((w.alloc (.cells #[.int .i64 k, .int .i64 at1, .slice A1 n1 c1, .slice A2 n2 c2, .string name, .int .i32 c, .slice A m cc] 31)).alloc (.cells #[.int .i64 k', .int .i64 at2, .slice A1' n1' c1', .slice A2' n2' c2', .string name', .int .i32 c', .slice A' m' cc'] 31)) fun e w' => e = .returned (.bool (allEq feqB nums nums')) ∧ Below ((w.alloc (.cells #[.int .i64 k, .int .i64 at1, .slice A1 n1 c1, .slice A2 n2 c2, .string name, .int .i32 c, .slice A m cc] 31)).alloc (.cells #[.int .i64 k', .int .i64 at2, .slice A1' n1' c1', .slice A2' n2' c2', .string name', .int .i32 c', .slice A' m' cc'] 31)).heap.size ((w.alloc (.cells #[.int .i64 k, .int .i64 at1, .slice A1 n1 c1, .slice A2 n2 c2, .string name, .int .i32 c, .slice A m cc] 31)).alloc (.cells #[.int .i64 k', .int .i64 at2, .slice A1' n1' c1', .slice A2' n2' c2', .string name', .int .i32 c', .slice A' m' cc'] 31)) w') := equalN_walk _ _ _ _ _ (hrn.below HB0.out) (hrn'.below HB0.out) hf.1 hf'.1
    have HQR : Hid (∀ w1, Below w.heap.size w w1 → Calls Tryd.prog 15 #[.slice A2 n2 c2, .slice A2' n2' c2'] w1 fun e w' => e = .returned (.bool (allEq ieqB text text')) ∧ Below w1.heap.size w1 w') := fun w1 hb => equalR_walk _ _ _ _ _ (hrt.below hb) (hrt'.below hb) hf.2.1 hf'.2.1
    have HQF : Hid (∀ w1, Below w.heap.size w w1 → Calls Tryd.prog 16 #[.slice A m cc, .slice A' m' cc', .func (.func 7) #[] #[]] w1 fun e w' => e = .returned (.bool (sameRs kids kids')) ∧ Below w1.heap.size w1 w') := fun w1 hb => eqF_walk N HIH kids kids' A A' m m' cc cc' w1 hm hm' (by omega) (by omega) (by omega) hf.2.2 hf'.2.2 (KidsAt.below hkid hb) (KidsAt.below hkid' hb)
    have HCL : Hid (∀ w1, Below ((w.alloc (.cells #[.int .i64 k, .int .i64 at1, .slice A1 n1 c1, .slice A2 n2 c2, .string name, .int .i32 c, .slice A m cc] 31)).alloc (.cells #[.int .i64 k', .int .i64 at2, .slice A1' n1' c1', .slice A2' n2' c2', .string name', .int .i32 c', .slice A' m' cc'] 31)).heap.size ((w.alloc (.cells #[.int .i64 k, .int .i64 at1, .slice A1 n1 c1, .slice A2 n2 c2, .string name, .int .i32 c, .slice A m cc] 31)).alloc (.cells #[.int .i64 k', .int .i64 at2, .slice A1' n1' c1', .slice A2' n2' c2', .string name', .int .i32 c', .slice A' m' cc'] 31)) w1 → w1.cell? ⟨w.heap.size, 3, none⟩ = some (.slice A2 n2 c2) ∧ w1.cell? ⟨w.heap.size, 6, none⟩ = some (.slice A m cc) ∧ w1.cell? ⟨w.heap.size + 1, 3, none⟩ = some (.slice A2' n2' c2') ∧ w1.cell? ⟨w.heap.size + 1, 6, none⟩ = some (.slice A' m' cc')) := by
      intro W hb
      have hz : (w.alloc (.cells #[.int .i64 k, .int .i64 at1, .slice A1 n1 c1, .slice A2 n2 c2, .string name, .int .i32 c, .slice A m cc] 31)).heap.size = w.heap.size + 1 := by simp
      have hz2 : ((w.alloc (.cells #[.int .i64 k, .int .i64 at1, .slice A1 n1 c1, .slice A2 n2 c2, .string name, .int .i32 c, .slice A m cc] 31)).alloc (.cells #[.int .i64 k', .int .i64 at2, .slice A1' n1' c1', .slice A2' n2' c2', .string name', .int .i32 c', .slice A' m' cc'] 31)).heap.size = w.heap.size + 2 := by simp
      have ka : ∀ i, W.cell? ⟨w.heap.size, i, none⟩ = (w.alloc (.cells #[.int .i64 k, .int .i64 at1, .slice A1 n1 c1, .slice A2 n2 c2, .string name, .int .i32 c, .slice A m cc] 31)).cell? ⟨w.heap.size, i, none⟩ := fun i => by
        rw [hb.cell (by simp only [hz2]; omega)]
        exact ((Below.refl _ (w.alloc (.cells #[.int .i64 k, .int .i64 at1, .slice A1 n1 c1, .slice A2 n2 c2, .string name, .int .i32 c, .slice A m cc] 31))).alloc (Nat.le_refl _) _).cell (by simp only [hz]; omega)
      have kb : ∀ i, W.cell? ⟨w.heap.size + 1, i, none⟩ = ((w.alloc (.cells #[.int .i64 k, .int .i64 at1, .slice A1 n1 c1, .slice A2 n2 c2, .string name, .int .i32 c, .slice A m cc] 31)).alloc (.cells #[.int .i64 k', .int .i64 at2, .slice A1' n1' c1', .slice A2' n2' c2', .string name', .int .i32 c', .slice A' m' cc'] 31)).cell? ⟨w.heap.size + 1, i, none⟩ := fun i => hb.cell (by simp only [hz2]; omega)
      refine ⟨?_, ?_, ?_, ?_⟩
      · rw [ka, World.cell?_alloc_at _ _ _ _ rfl]; rfl
      · rw [ka, World.cell?_alloc_at _ _ _ _ rfl]; rfl
      · rw [kb, World.cell?_alloc_at _ _ _ _ hz.symm]; rfl
      · rw [kb, World.cell?_alloc_at _ _ _ _ hz.symm]; rfl
    have HSZ : Hid (w.heap.size ≤ ((w.alloc (.cells #[.int .i64 k, .int .i64 at1, .slice A1 n1 c1, .slice A2 n2 c2, .string name, .int .i32 c, .slice A m cc] 31)).alloc (.cells #[.int .i64 k', .int .i64 at2, .slice A1' n1' c1', .slice A2' n2' c2', .string name', .int .i32 c', .slice A' m' cc'] 31)).heap.size) := HB0.out.size
    obtain ⟨R, hR⟩ : ∃ R, R = sameR (.mk k nums text name c kids) (.mk k' nums' text' name' c' kids') := ⟨_, rfl⟩
    have HR : Hid (R = (decide (k = k') && decide (name = name') && decide (c = c') && allEq feqB nums nums' && allEq ieqB text text' && sameRs kids kids')) := by unfold Hid; rw [hR, sameR]
    rw [← hR]
    clear hkid hkid' hm hm' hN hM hM' hf hf' hr hr' hrn hrt hrn' hrt' hR HIH
    by_cases hq : k = k'
    case neg =>
      have hq1 : (k == k') = false := by simpa using hq
      have HT : Hid (R = false) := by unfold Hid; rw [HR.out]; rw [decide_eq_false hq]; simp
      clear hq
      go_enter Tryd.func7, Tryd.ntmps7
      go_wp2
      go_ret
      exact ⟨by rw [HT.out]; rfl, HB0.out⟩
    have hq1 : (k == k') = true := by simpa using hq
    have HQ1 := Lib.hid hq
    clear hq
    by_cases hq : name = name'
    case neg =>
      have hq2 : (name.toList == name'.toList) = false := by simp; exact fun e => hq (toList_inj1 e)
      have HT : Hid (R = false) := by unfold Hid; rw [HR.out]; rw [decide_eq_false hq]; simp
      clear hq
      go_enter Tryd.func7, Tryd.ntmps7
      go_wp2
      go_ret
      exact ⟨by rw [HT.out]; rfl, HB0.out⟩
    have hq2 : (name.toList == name'.toList) = true := by rw [hq]; simp
    have HQ2 := Lib.hid hq
    clear hq
    by_cases hq : c = c'
    case neg =>
      have hq3 : (c == c') = false := by simpa using hq
      have HT : Hid (R = false) := by unfold Hid; rw [HR.out]; rw [decide_eq_false hq]; simp
      clear hq
      go_enter Tryd.func7, Tryd.ntmps7
      go_wp2
      go_ret
      exact ⟨by rw [HT.out]; rfl, HB0.out⟩
    have hq3 : (c == c') = true := by simpa using hq
    have HQ3 := Lib.hid hq
    clear hq
    have HR2 : Hid (R = (allEq feqB nums nums' && allEq ieqB text text' && sameRs kids kids')) := by unfold Hid; rw [HR.out, decide_eq_true HQ1.out, decide_eq_true HQ2.out, decide_eq_true HQ3.out]; rfl
    clear HR
    go_enter Tryd.func7, Tryd.ntmps7
    go_wp2_with fail
    refine HQN.out.mono ?_
    rintro e w1 ⟨rfl, hb⟩
    obtain ⟨x1, x2, x3, x4⟩ := HCL.out w1 hb
    have HBA := Lib.hid hb
    have HBW := Lib.hid (HB0.out.trans (hb.mono HSZ.out))
    clear hb
    clear HQN
    generalize allEq feqB nums nums' = b1 at *
    by_cases hb1 : b1 = true
    case neg =>
      have hbf : b1 = false := by simpa using hb1
      subst hbf
      have HT : Hid (R = false) := by unfold Hid; rw [HR2.out]; simp
      clear HR2 hb1
      go_wp2
      go_ret
      exact ⟨by rw [HT.out]; rfl, HBW.out⟩
    subst hb1
    go_wp2_with fail
    refine (HQR.out _ HBW.out).mono ?_
    rintro e w2 ⟨rfl, hb⟩
    have HBA2 := Lib.hid (HBA.out.trans (hb.mono HBA.out.size))
    have HBW2 := Lib.hid (HBW.out.trans (hb.mono HBW.out.size))
    clear hb x1 x2 x3 x4 HQR
    obtain ⟨x1, x2, x3, x4⟩ := HCL.out w2 HBA2.out
    generalize allEq ieqB text text' = b2 at *
    by_cases hb1 : b2 = true
    case neg =>
      have hbf : b2 = false := by simpa using hb1
      subst hbf
      have HT : Hid (R = false) := by unfold Hid; rw [HR2.out]; simp
      clear HR2 hb1
      go_wp2
      go_ret
      exact ⟨by rw [HT.out]; rfl, HBW2.out⟩
    subst hb1
    have HT : Hid (R = sameRs kids kids') := by unfold Hid; rw [HR2.out]; simp
    clear HR2
    go_wp2_with fail
    refine (HQF.out _ HBW2.out).mono ?_
    rintro e w3 ⟨rfl, hb⟩
    have HBW3 := Lib.hid (HBW2.out.trans (hb.mono HBW2.out.size))
    clear hb
    go_wp2
    go_ret
    exact ⟨by rw [HT.out]; rfl, HBW3.out⟩
end Go.Proofs.YtmfklpacpjoggaaDoor
