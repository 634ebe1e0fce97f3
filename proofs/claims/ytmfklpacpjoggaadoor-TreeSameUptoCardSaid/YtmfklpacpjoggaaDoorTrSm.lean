/- The walk of the reference's Same. Conditions: at most 1048576 nodes, numbers and signs in each. -/
import Derived.Test.YtmfklpacpjoggaaDoorTrEq
import Derived.StillTailTactics
namespace Go.Proofs.YtmfklpacpjoggaaDoor
open Go Go.RowKit Go.Proofs

mutual
/-- are two trees alike? -/
def sameR : RTree → RTree → Bool
  | .mk k nums text name c kids, .mk k' nums' text' name' c' kids' => decide (k = k') && decide (name = name') && decide (c = c') && allEq feqB nums nums' && allEq ieqB text text' && sameRs kids kids'
def sameRs : List RTree → List RTree → Bool
  | [], [] => true
  | x :: xs, y :: ys => sameR x y && sameRs xs ys
  | [], _ :: _ => false
  | _ :: _, [] => false
end
theorem sameRs_len : ∀ {a b : List RTree}, a.length ≠ b.length → sameRs a b = false
  | [], [], h => by simp at h
  | [], _ :: _, _ => by rw [sameRs]
  | _ :: _, [], _ => by rw [sameRs]
  | x :: xs, y :: ys, h => by rw [sameRs, sameRs_len (a := xs) (b := ys) (by simpa using h)]; simp
theorem sameRs_step {a b : List RTree} {k : Nat} (ha : k < a.length) (hb : k < b.length) : sameRs (a.drop k) (b.drop k) = (sameR a[k] b[k] && sameRs (a.drop (k + 1)) (b.drop (k + 1))) := by
  rw [List.drop_eq_getElem_cons ha, List.drop_eq_getElem_cons hb, sameRs]
theorem sameRs_end {a b : List RTree} {k : Nat} (ha : a.length ≤ k) (hb : b.length ≤ k) : sameRs (a.drop k) (b.drop k) = true := by
  rw [List.drop_eq_nil_of_le ha, List.drop_eq_nil_of_le hb, sameRs]

theorem toList_inj1 {a b : ByteArray} (h : a.toList = b.toList) : a = b := by
  rw [ByteArray.toList_eq, ByteArray.toList_eq] at h
  exact ByteArray.ext (Array.toList_inj.1 h)

mutual
/-- no part of any node is too long -/
def FitR : RTree → Prop
  | .mk _ nums text _ _ kids => nums.length ≤ 1048576 ∧ text.length ≤ 1048576 ∧ FitRs kids
def FitRs : List RTree → Prop
  | [] => True
  | t :: ts => FitR t ∧ FitRs ts
end
theorem FitRs_at : ∀ {ts : List RTree} (_ : FitRs ts) {i : Nat} (hi : i < ts.length), FitR ts[i]
  | [], _, _, hi => by simp at hi
  | t :: ts, h, 0, _ => by rw [FitRs] at h; exact h.1
  | t :: ts, h, i + 1, hi => by rw [FitRs] at h; exact FitRs_at h.2 (by simpa using hi)

set_option maxRecDepth 100000 in
set_option maxHeartbeats 6400000 in
theorem rSame_walk : ∀ (N : Nat) (t t' : RTree) (v0 v1 v2 v3 v4 v5 u0 u1 u2 u3 u4 u5 : Value) (w : World), sizeR t ≤ N → sizeR t ≤ 1048576 → sizeR t' ≤ 1048576 → FitR t → FitR t' → RN w t [v0, v1, v2, v3, v4, v5] → RN w t' [u0, u1, u2, u3, u4, u5] →
    Calls Tryd.prog 8 #[.agg #[v0, v1, v2, v3, v4, v5], .agg #[u0, u1, u2, u3, u4, u5]] w fun e w' => e = .returned (.bool (sameR t t')) ∧ Below w.heap.size w w'
  | 0, t, _, _, _, _, _, _, _, _, _, _, _, _, _, _, h, _, _, _, _, _, _ => by have := sizeR_pos t; omega
  | N + 1, .mk k nums text name c kids, .mk k' nums' text' name' c' kids', v0, v1, v2, v3, v4, v5, u0, u1, u2, u3, u4, u5, w, hN, hM, hM', hf, hf', hr, hr' => by
    obtain ⟨nv, tv, A, cc, m, hvs, hrn, hrt, hm, hkid⟩ := hr.open_
    simp only [List.cons.injEq, and_true] at hvs
    obtain ⟨rfl, rfl, rfl, rfl, rfl, rfl⟩ := hvs
    obtain ⟨nv', tv', A', cc', m', hvs, hrn', hrt', hm', hkid'⟩ := hr'.open_
    simp only [List.cons.injEq, and_true] at hvs
    obtain ⟨rfl, rfl, rfl, rfl, rfl, rfl⟩ := hvs
    rw [FitR] at hf hf'
    obtain ⟨A1, c1, n1, rfl, hx1, hce1⟩ := hrn.opn
    obtain ⟨A2, c2, n2, rfl, hx2, hce2⟩ := hrt.opn
    obtain ⟨A1', c1', n1', rfl, hx1', hce1'⟩ := hrn'.opn
    obtain ⟨A2', c2', n2', rfl, hx2', hce2'⟩ := hrt'.opn
    rw [List.length_map] at hx1 hx2 hx1' hx2'
    have HX1 := Lib.hid hx1; have HX2 := Lib.hid hx2; have HX1' := Lib.hid hx1'; have HX2' := Lib.hid hx2'
    have HC1 := Lib.hid hce1; have HC2 := Lib.hid hce2; have HC1' := Lib.hid hce1'; have HC2' := Lib.hid hce2'
    have HK := Lib.hid hkid; have HK' := Lib.hid hkid'; have HM := Lib.hid hm; have HM' := Lib.hid hm'
    have hsz : sizeR (.mk k nums text name c kids) = 1 + sizeRs kids := by rw [sizeR]
    have hsz' : sizeR (.mk k' nums' text' name' c' kids') = 1 + sizeRs kids' := by rw [sizeR]
    have hlen := sizeRs_len kids
    have hlen' := sizeRs_len kids'
    have hm2 : m ≤ 1048576 := by omega
    have hm2' : m' ≤ 1048576 := by omega
    have hb1 : n1 ≤ 1048576 := by omega
    have hb2 : n2 ≤ 1048576 := by omega
    have hb3 : n1' ≤ 1048576 := by omega
    have hb4 : n2' ≤ 1048576 := by omega
    have HIH : Hid (∀ t t' v0 v1 v2 v3 v4 v5 u0 u1 u2 u3 u4 u5 w, sizeR t ≤ N → sizeR t ≤ 1048576 → sizeR t' ≤ 1048576 → FitR t → FitR t' → RN w t [v0, v1, v2, v3, v4, v5] → RN w t' [u0, u1, u2, u3, u4, u5] → Calls Tryd.prog 8 #[.agg #[v0, v1, v2, v3, v4, v5], .agg #[u0, u1, u2, u3, u4, u5]] w fun e w' => e = .returned (.bool (sameR t t')) ∧ Below w.heap.size w w') := rSame_walk N
    have HAT : Hid (∀ i (hi : i < kids.length), sizeR kids[i] ≤ sizeRs kids) := fun i hi => sizeRs_at hi
    have HAT' : Hid (∀ i (hi : i < kids'.length), sizeR kids'[i] ≤ sizeRs kids') := fun i hi => sizeRs_at hi
    have HFK : Hid (∀ i (hi : i < kids.length), FitR kids[i]) := fun i hi => FitRs_at hf.2.2 hi
    have HFK' : Hid (∀ i (hi : i < kids'.length), FitR kids'[i]) := fun i hi => FitRs_at hf'.2.2 hi
    have HN2 : Hid (1 + sizeRs kids ≤ N + 1 ∧ 1 + sizeRs kids ≤ 1048576 ∧ 1 + sizeRs kids' ≤ 1048576) := by unfold Hid; omega
    obtain ⟨R, hR⟩ : ∃ R, R = sameR (.mk k nums text name c kids) (.mk k' nums' text' name' c' kids') := ⟨_, rfl⟩
    have HR : Hid (R = (decide (k = k') && decide (name = name') && decide (c = c') && allEq feqB nums nums' && allEq ieqB text text' && sameRs kids kids')) := by unfold Hid; rw [hR, sameR]
    rw [← hR]
    have HL1 : Hid (nums.length ≠ nums'.length → allEq feqB nums nums' = false) := fun h => allEq_len h
    have HL2 : Hid (text.length ≠ text'.length → allEq ieqB text text' = false) := fun h => allEq_len h
    have HL3 : Hid (kids.length ≠ kids'.length → sameRs kids kids' = false) := fun h => sameRs_len h
    have HS1 : Hid (∀ i (h1 : i < nums.length) (h2 : i < nums'.length), allEq feqB (nums.drop i) (nums'.drop i) = (feqB nums[i] nums'[i] && allEq feqB (nums.drop (i + 1)) (nums'.drop (i + 1)))) := fun i h1 h2 => allEq_step h1 h2
    have HS2 : Hid (∀ i (h1 : i < text.length) (h2 : i < text'.length), allEq ieqB (text.drop i) (text'.drop i) = (ieqB text[i] text'[i] && allEq ieqB (text.drop (i + 1)) (text'.drop (i + 1)))) := fun i h1 h2 => allEq_step h1 h2
    have HS3 : Hid (∀ i (h1 : i < kids.length) (h2 : i < kids'.length), sameRs (kids.drop i) (kids'.drop i) = (sameR kids[i] kids'[i] && sameRs (kids.drop (i + 1)) (kids'.drop (i + 1)))) := fun i h1 h2 => sameRs_step h1 h2
    have HE1 : Hid (∀ i, nums.length ≤ i → nums'.length ≤ i → allEq feqB (nums.drop i) (nums'.drop i) = true) := fun i h1 h2 => allEq_end h1 h2
    have HE2 : Hid (∀ i, text.length ≤ i → text'.length ≤ i → allEq ieqB (text.drop i) (text'.drop i) = true) := fun i h1 h2 => allEq_end h1 h2
    have HE3 : Hid (∀ i, kids.length ≤ i → kids'.length ≤ i → sameRs (kids.drop i) (kids'.drop i) = true) := fun i h1 h2 => sameRs_end h1 h2
    have HB0 : Hid (Below w.heap.size w ((w.alloc (.cells #[.int .i64 k, .slice A1 n1 c1, .slice A2 n2 c2, .string name, .int .i32 c, .slice A m cc] 26)).alloc (.cells #[.int .i64 k', .slice A1' n1' c1', .slice A2' n2' c2', .string name', .int .i32 c', .slice A' m' cc'] 26))) := ((Below.refl _ w).alloc (Nat.le_refl _) _).alloc (by simp) _
    clear hkid hkid' hm hm' hsz hsz' hlen hlen' hN hM hM' hf hf' hr hr' hrn hrt hrn' hrt' hx1 hx2 hx1' hx2' hce1 hce2 hce1' hce2' hR
    by_cases hq : k = k'
    case neg =>
      have hq1 : (k != k') = true := by simpa using hq
      have HT : Hid (R = false) := by unfold Hid; rw [HR.out]; rw [decide_eq_false hq]; simp
      clear hq
      go_enter Tryd.func8, Tryd.ntmps8
      go_wp2
      go_ret
      exact ⟨by rw [HT.out]; rfl, HB0.out⟩
    have hq1 : (k != k') = false := by simpa using hq
    have HQ1 := Lib.hid hq
    clear hq
    by_cases hq : name = name'
    case neg =>
      have hq2 : (name.toList == name'.toList) = false := by simp; exact fun e => hq (toList_inj1 e)
      have HT : Hid (R = false) := by unfold Hid; rw [HR.out]; rw [decide_eq_false hq]; simp
      clear hq
      go_enter Tryd.func8, Tryd.ntmps8
      go_wp2
      go_ret
      exact ⟨by rw [HT.out]; rfl, HB0.out⟩
    have hq2 : (name.toList == name'.toList) = true := by rw [hq]; simp
    have HQ2 := Lib.hid hq
    clear hq
    by_cases hq : c = c'
    case neg =>
      have hq3 : (c != c') = true := by simpa using hq
      have HT : Hid (R = false) := by unfold Hid; rw [HR.out]; rw [decide_eq_false hq]; simp
      clear hq
      go_enter Tryd.func8, Tryd.ntmps8
      go_wp2
      go_ret
      exact ⟨by rw [HT.out]; rfl, HB0.out⟩
    have hq3 : (c != c') = false := by simpa using hq
    have HQ3 := Lib.hid hq
    clear hq
    by_cases hq : n1 = n1'
    case neg =>
      have hq4 : ((n1 : Int) != (n1' : Int)) = true := by simp; omega
      have HT : Hid (R = false) := by unfold Hid; rw [HR.out]; rw [HL1.out (by rw [← HX1.out, ← HX1'.out]; exact hq)]; simp
      clear hq
      go_enter Tryd.func8, Tryd.ntmps8
      go_wp2
      go_ret
      exact ⟨by rw [HT.out]; rfl, HB0.out⟩
    have hq4 : ((n1 : Int) != (n1' : Int)) = false := by simp; omega
    have HQ4 := Lib.hid hq
    clear hq
    by_cases hq : n2 = n2'
    case neg =>
      have hq5 : ((n2 : Int) != (n2' : Int)) = true := by simp; omega
      have HT : Hid (R = false) := by unfold Hid; rw [HR.out]; rw [HL2.out (by rw [← HX2.out, ← HX2'.out]; exact hq)]; simp
      clear hq
      go_enter Tryd.func8, Tryd.ntmps8
      go_wp2
      go_ret
      exact ⟨by rw [HT.out]; rfl, HB0.out⟩
    have hq5 : ((n2 : Int) != (n2' : Int)) = false := by simp; omega
    have HQ5 := Lib.hid hq
    clear hq
    by_cases hq : m = m'
    case neg =>
      have hq6 : ((m : Int) != (m' : Int)) = true := by simp; omega
      have HT : Hid (R = false) := by unfold Hid; rw [HR.out]; rw [HL3.out (by rw [← HM.out, ← HM'.out]; exact hq)]; simp
      clear hq
      go_enter Tryd.func8, Tryd.ntmps8
      go_wp2
      go_ret
      exact ⟨by rw [HT.out]; rfl, HB0.out⟩
    have hq6 : ((m : Int) != (m' : Int)) = false := by simp; omega
    have HQ6 := Lib.hid hq
    clear hq
    have HR2 : Hid (R = (allEq feqB nums nums' && allEq ieqB text text' && sameRs kids kids')) := by unfold Hid; rw [HR.out, decide_eq_true HQ1.out, decide_eq_true HQ2.out, decide_eq_true HQ3.out]; rfl
    have HWW : Hid (∀ W, Below ((w.alloc (.cells #[.int .i64 k, .slice A1 n1 c1, .slice A2 n2 c2, .string name, .int .i32 c, .slice A m cc] 26)).alloc (.cells #[.int .i64 k', .slice A1' n1' c1', .slice A2' n2' c2', .string name', .int .i32 c', .slice A' m' cc'] 26)).heap.size ((w.alloc (.cells #[.int .i64 k, .slice A1 n1 c1, .slice A2 n2 c2, .string name, .int .i32 c, .slice A m cc] 26)).alloc (.cells #[.int .i64 k', .slice A1' n1' c1', .slice A2' n2' c2', .string name', .int .i32 c', .slice A' m' cc'] 26)) W → W.cell? ⟨w.heap.size, 1, none⟩ = some (.slice A1 n1 c1) ∧ W.cell? ⟨w.heap.size, 2, none⟩ = some (.slice A2 n2 c2) ∧ W.cell? ⟨w.heap.size, 5, none⟩ = some (.slice A m cc) ∧ W.cell? ⟨w.heap.size + 1, 1, none⟩ = some (.slice A1' n1' c1') ∧ W.cell? ⟨w.heap.size + 1, 2, none⟩ = some (.slice A2' n2' c2') ∧ W.cell? ⟨w.heap.size + 1, 5, none⟩ = some (.slice A' m' cc') ∧ Below w.heap.size w W) := by
      intro W hb
      have hz : (w.alloc (.cells #[.int .i64 k, .slice A1 n1 c1, .slice A2 n2 c2, .string name, .int .i32 c, .slice A m cc] 26)).heap.size = w.heap.size + 1 := by simp
      have hz2 : ((w.alloc (.cells #[.int .i64 k, .slice A1 n1 c1, .slice A2 n2 c2, .string name, .int .i32 c, .slice A m cc] 26)).alloc (.cells #[.int .i64 k', .slice A1' n1' c1', .slice A2' n2' c2', .string name', .int .i32 c', .slice A' m' cc'] 26)).heap.size = w.heap.size + 2 := by simp
      have ka : ∀ i, W.cell? ⟨w.heap.size, i, none⟩ = (w.alloc (.cells #[.int .i64 k, .slice A1 n1 c1, .slice A2 n2 c2, .string name, .int .i32 c, .slice A m cc] 26)).cell? ⟨w.heap.size, i, none⟩ := fun i => by
        rw [hb.cell (by simp only [hz2]; omega)]
        exact ((Below.refl _ (w.alloc (.cells #[.int .i64 k, .slice A1 n1 c1, .slice A2 n2 c2, .string name, .int .i32 c, .slice A m cc] 26))).alloc (Nat.le_refl _) _).cell (by simp only [hz]; omega)
      have kb : ∀ i, W.cell? ⟨w.heap.size + 1, i, none⟩ = ((w.alloc (.cells #[.int .i64 k, .slice A1 n1 c1, .slice A2 n2 c2, .string name, .int .i32 c, .slice A m cc] 26)).alloc (.cells #[.int .i64 k', .slice A1' n1' c1', .slice A2' n2' c2', .string name', .int .i32 c', .slice A' m' cc'] 26)).cell? ⟨w.heap.size + 1, i, none⟩ := fun i => hb.cell (by simp only [hz2]; omega)
      refine ⟨?_, ?_, ?_, ?_, ?_, ?_, HB0.out.trans (hb.mono (by omega))⟩
      · rw [ka, World.cell?_alloc_at _ _ _ _ rfl]; rfl
      · rw [ka, World.cell?_alloc_at _ _ _ _ rfl]; rfl
      · rw [ka, World.cell?_alloc_at _ _ _ _ rfl]; rfl
      · rw [kb, World.cell?_alloc_at _ _ _ _ hz.symm]; rfl
      · rw [kb, World.cell?_alloc_at _ _ _ _ hz.symm]; rfl
      · rw [kb, World.cell?_alloc_at _ _ _ _ hz.symm]; rfl
    have HZ0 : Hid (((w.alloc (.cells #[.int .i64 k, .slice A1 n1 c1, .slice A2 n2 c2, .string name, .int .i32 c, .slice A m cc] 26)).alloc (.cells #[.int .i64 k', .slice A1' n1' c1', .slice A2' n2' c2', .string name', .int .i32 c', .slice A' m' cc'] 26)).heap.size = w.heap.size + 2) := by unfold Hid; simp
    go_enter Tryd.func8, Tryd.ntmps8
    go_wp2
    generalize ((w.alloc (.cells #[.int .i64 k, .slice A1 n1 c1, .slice A2 n2 c2, .string name, .int .i32 c, .slice A m cc] 26)).alloc (.cells #[.int .i64 k', .slice A1' n1' c1', .slice A2' n2' c2', .string name', .int .i32 c', .slice A' m' cc'] 26)) = W at *
    go_loopw [5, 5] (fun _ iv wr => ∃ i : Nat, i ≤ n1 ∧ iv = .int .i64 (i : Int) ∧ Below W.heap.size W wr ∧ Hid (R = (allEq feqB (nums.drop i) (nums'.drop i) && allEq ieqB text text' && sameRs kids kids'))) (fun _ iv _ => n1 - (intOf iv).toNat)
    case atStart => exact ⟨0, Nat.zero_le _, rfl, Below.refl _ _, HR2.out⟩
    case round =>
      obtain ⟨i, hi, rfl, hbl, heq⟩ := hrel
      have HBL := Lib.hid hbl
      obtain ⟨a1, a2, a5, b1, b2, b5, hbw⟩ := HWW.out wr hbl
      have HBW := Lib.hid hbw
      by_cases hlt : i < n1
      · have h1 : i < nums.length := by have := HX1.out; omega
        have h2 : i < nums'.length := by have := HX1'.out; have := HQ4.out; omega
        obtain ⟨b, o, rfl, hce⟩ := HC1.out i (by rw [List.length_map]; exact h1)
        obtain ⟨b', o', rfl, hce'⟩ := HC1'.out i (by rw [List.length_map]; exact h2)
        have e1 := hce _ hbw
        have e2 := hce' _ hbw
        rw [List.getElem_map] at e1 e2
        have HS := Lib.hid (HS1.out i h1 h2)
        generalize nums[i] = x at *
        generalize nums'[i] = y at *
        have hlt2 : (i : Int) < (n1 : Int) := by omega
        have hlt3 : i < n1' := by have := HQ4.out; omega
        cases hxy : feqB x y with
        | true =>
          have HT : Hid (R = (allEq feqB (nums.drop (i + 1)) (nums'.drop (i + 1)) && allEq ieqB text text' && sameRs kids kids')) := by unfold Hid; rw [heq.out, HS.out, hxy]; rfl
          have hf1 : FloatKind.f64.format.order x y = some .eq := of_decide_eq_true hxy
          have hf2 : (FloatKind.f64.format.order x y == some .eq) = true := by rw [hf1]; rfl
          have hf3 : (FloatKind.f64.format.order x y != some .eq) = false := by rw [hf1]; rfl
          clear hf1 hxy heq hbl hbw hce hce' HS
          go_wp2
          go_quiet (fail)
          go_wp2
          go_roundw
          case rel => exact ⟨i + 1, by omega, by go_num, Below.drewN2 HBL.out _, HT.out⟩
          case measure => simp [intOf]; omega
        | false =>
          have HT : Hid (R = false) := by unfold Hid; rw [heq.out, HS.out, hxy]; rfl
          have hf1 : ¬ FloatKind.f64.format.order x y = some .eq := of_decide_eq_false hxy
          have hf2 : (FloatKind.f64.format.order x y == some .eq) = false := by simpa using hf1
          have hf3 : (FloatKind.f64.format.order x y != some .eq) = true := by simpa using hf1
          clear hxy heq hbl hbw hce hce' HS
          go_wp2
          go_quiet (fail)
          go_wp2
          go_ret
          exact ⟨by rw [HT.out]; rfl, Below.drewN2 HBW.out _⟩
      · have HT : Hid (R = (allEq ieqB (text.drop 0) (text'.drop 0) && sameRs kids kids')) := by unfold Hid; rw [heq.out, HE1.out i (by have := HX1.out; omega) (by have := HX1'.out; have := HQ4.out; omega)]; rfl
        clear heq hbl hbw hi a1 a2 a5 b1 b2 b5
        have hlt2 : ¬ (i : Int) < (n1 : Int) := by omega
        obtain ⟨a1, a2, a5, b1, b2, b5, hbw⟩ := HWW.out wr HBL.out
        clear hbw
        go_wp2
        clear a1 a2 a5 b1 b2 b5 HBW hlt hlt2
        have HR3 := HT
        clear HT
        go_loopw [6, 6] (fun _ iv wr => ∃ i : Nat, i ≤ n2 ∧ iv = .int .i64 (i : Int) ∧ Below W.heap.size W wr ∧ Hid (R = (allEq ieqB (text.drop i) (text'.drop i) && sameRs kids kids'))) (fun _ iv _ => n2 - (intOf iv).toNat)
        case atStart => exact ⟨0, Nat.zero_le _, rfl, HBL.out, HR3.out⟩
        case round =>
          clear HBL
          clear HR3
          obtain ⟨i2, hi, rfl, hbl, heq⟩ := hrel
          have HBL := Lib.hid hbl
          obtain ⟨a1, a2, a5, b1, b2, b5, hbw⟩ := HWW.out wr hbl
          have HBW := Lib.hid hbw
          by_cases hlt : i2 < n2
          · have h1 : i2 < text.length := by have := HX2.out; omega
            have h2 : i2 < text'.length := by have := HX2'.out; have := HQ5.out; omega
            obtain ⟨b, o, rfl, hce⟩ := HC2.out i2 (by rw [List.length_map]; exact h1)
            obtain ⟨b', o', rfl, hce'⟩ := HC2'.out i2 (by rw [List.length_map]; exact h2)
            have e1 := hce _ hbw
            have e2 := hce' _ hbw
            rw [List.getElem_map] at e1 e2
            have HS := Lib.hid (HS2.out i2 h1 h2)
            generalize text[i2] = x at *
            generalize text'[i2] = y at *
            have hlt2 : (i2 : Int) < (n2 : Int) := by omega
            have hlt3 : i2 < n2' := by have := HQ5.out; omega
            cases hxy : ieqB x y with
            | true =>
              have HT : Hid (R = (allEq ieqB (text.drop (i2 + 1)) (text'.drop (i2 + 1)) && sameRs kids kids')) := by unfold Hid; rw [heq.out, HS.out, hxy]; rfl
              obtain rfl : x = y := by unfold ieqB at hxy; simpa using hxy
              have hfe : (x != x) = false := by simp
              clear hxy heq hbl hbw hce hce' HS
              go_wp2
              go_quiet (fail)
              go_wp2
              go_roundw
              case rel => exact ⟨i2 + 1, by omega, by go_num, Below.drewN2 HBL.out _, HT.out⟩
              case measure => simp [intOf]; omega
            | false =>
              have HT : Hid (R = false) := by unfold Hid; rw [heq.out, HS.out, hxy]; rfl
              have hfe : (x != y) = true := by unfold ieqB at hxy; simpa using hxy
              clear hxy heq hbl hbw hce hce' HS
              go_wp2
              go_quiet (fail)
              go_wp2
              go_ret
              exact ⟨by rw [HT.out]; rfl, Below.drewN2 HBW.out _⟩
          · have HT : Hid (R = sameRs (kids.drop 0) (kids'.drop 0)) := by unfold Hid; rw [heq.out, HE2.out i2 (by have := HX2.out; omega) (by have := HX2'.out; have := HQ5.out; omega)]; rfl
            clear heq hbl hbw hi a1 a2 a5 b1 b2 b5
            have hlt2 : ¬ (i2 : Int) < (n2 : Int) := by omega
            obtain ⟨a1, a2, a5, b1, b2, b5, hbw⟩ := HWW.out wr HBL.out
            clear hbw
            go_wp2
            clear a1 a2 a5 b1 b2 b5 HBW hlt hlt2
            have HR3 := HT
            clear HT
            go_loopw [7, 7] (fun _ iv wr => ∃ i : Nat, i ≤ m ∧ iv = .int .i64 (i : Int) ∧ Below W.heap.size W wr ∧ Hid (R = sameRs (kids.drop i) (kids'.drop i))) (fun _ iv _ => m - (intOf iv).toNat)
            case atStart => exact ⟨0, Nat.zero_le _, rfl, HBL.out, HR3.out⟩
            case round =>
              clear HBL
              clear HR3
              obtain ⟨i3, hi, rfl, hbl, heq⟩ := hrel
              have HBL := Lib.hid hbl
              obtain ⟨a1, a2, a5, b1, b2, b5, hbw⟩ := HWW.out wr hbl
              have HBW := Lib.hid hbw
              by_cases hlt : i3 < m
              · have h1 : i3 < kids.length := by have := HM.out; omega
                have h2 : i3 < kids'.length := by have := HM'.out; have := HQ6.out; omega
                obtain ⟨b, o, p0, p1, p2, p3, p4, p5, rfl, hrk, hce⟩ := HK.out i3 h1
                obtain ⟨b', o', r0, r1, r2, r3, r4, r5, rfl, hrk', hce'⟩ := HK'.out i3 h2
                obtain ⟨c0, c1, c2, c3, c4, c5⟩ := hce _ hbw
                obtain ⟨d0, d1, d2, d3, d4, d5⟩ := hce' _ hbw
                have HS := Lib.hid (HS3.out i3 h1 h2)
                have HIC : Hid (∀ n, Calls Tryd.prog 8 #[.agg #[p0, p1, p2, p3, p4, p5], .agg #[r0, r1, r2, r3, r4, r5]] (wr.drewN n) fun e w' => e = .returned (.bool (sameR kids[i3] kids'[i3])) ∧ Below (wr.drewN n).heap.size (wr.drewN n) w') := fun n => HIH.out kids[i3] kids'[i3] p0 p1 p2 p3 p4 p5 r0 r1 r2 r3 r4 r5 (wr.drewN n) (by have := HAT.out i3 h1; have := HN2.out; omega) (by have := HAT.out i3 h1; have := HN2.out; omega) (by have := HAT'.out i3 h2; have := HN2.out; omega) (HFK.out i3 h1) (HFK'.out i3 h2) (hrk.below (Below.drewN2 hbw n)) (hrk'.below (Below.drewN2 hbw n))
                generalize sameR kids[i3] kids'[i3] = q at *
                have hlt2 : (i3 : Int) < (m : Int) := by omega
                have hlt3 : i3 < m' := by have := HQ6.out; omega
                clear hbl hbw hce hce' hrk hrk'
                go_wp2
                go_still_tail 10, (by kernel_rfl)
                change wpList _ _ _ _ _ (wr.drewN 1)
                have HB1 := Lib.hid (Below.drewN2 HBL.out 1)
                have HIC2 := Lib.hid (HIC.out 1)
                have hsz1 : W.heap.size ≤ (wr.drewN 1).heap.size := HB1.out.size
                clear a1 a2 a5 b1 b2 b5 c0 c1 c2 c3 c4 c5 d0 d1 d2 d3 d4 d5
                generalize wr.drewN 1 = wd at *
                go_wp2_with fail
                refine HIC2.out.mono ?_
                rintro e w2 ⟨rfl, hb⟩
                have HB2 := Lib.hid (HB1.out.trans (hb.mono hsz1))
                clear hb
                by_cases hqq : q = true
                · have HT : Hid (R = sameRs (kids.drop (i3 + 1)) (kids'.drop (i3 + 1))) := by unfold Hid; rw [heq.out, HS.out, hqq]; rfl
                  clear heq HS
                  subst hqq
                  go_wp2
                  go_roundw
                  case rel => exact ⟨i3 + 1, by omega, by go_num, HB2.out, HT.out⟩
                  case measure => simp [intOf]; omega
                · have hqf : q = false := by simpa using hqq
                  have HT : Hid (R = false) := by unfold Hid; rw [heq.out, HS.out, hqf]; rfl
                  clear heq HS hqq
                  subst hqf
                  go_wp2
                  go_ret
                  obtain ⟨_, _, _, _, _, _, hx⟩ := HWW.out _ HB2.out
                  exact ⟨by rw [HT.out]; rfl, hx⟩
              · have HT : Hid (R = true) := by unfold Hid; rw [heq.out, HE3.out i3 (by have := HM.out; omega) (by have := HM'.out; have := HQ6.out; omega)]
                clear heq hbl hbw
                go_wp2
                go_ret
                exact ⟨by rw [HT.out]; rfl, HBW.out⟩
end Go.Proofs.YtmfklpacpjoggaaDoor
