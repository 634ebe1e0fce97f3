/- The walks of slices.EqualFunc over nodes and of tree.Same. Conditions: at most 1048576 nodes, numbers and signs in each. -/
import Derived.Test.YtmfklpacpjoggaaDoorTrSm
import Derived.Test.YtmfklpacpjoggaaDoorTrNo
namespace Go.Proofs.YtmfklpacpjoggaaDoor
open Go Go.RowKit Go.Proofs

/-- what lies at the places of a slice of nodes -/
def KidsAt (w : World) (A : Option Addr) (kids : List RTree) : Prop :=
  ∀ i (hi : i < kids.length), ∃ b o v0 v1 v2 v3 v4 v5 v6, A = some ⟨b, o, none⟩ ∧ TN w kids[i] [v0, v1, v2, v3, v4, v5, v6] ∧ ∀ w1, Below w.heap.size w w1 →
        w1.cell? ⟨b, o + i * 7, none⟩ = some v0 ∧ w1.cell? ⟨b, o + i * 7 + 1, none⟩ = some v1 ∧ w1.cell? ⟨b, o + i * 7 + 2, none⟩ = some v2 ∧ w1.cell? ⟨b, o + i * 7 + 3, none⟩ = some v3 ∧ w1.cell? ⟨b, o + i * 7 + 4, none⟩ = some v4 ∧ w1.cell? ⟨b, o + i * 7 + 5, none⟩ = some v5 ∧ w1.cell? ⟨b, o + i * 7 + 6, none⟩ = some v6
theorem KidsAt.below {w w' : World} {A : Option Addr} {kids : List RTree} (h : KidsAt w A kids) (hb : Below w.heap.size w w') : KidsAt w' A kids := by
  intro i hi
  obtain ⟨b, o, v0, v1, v2, v3, v4, v5, v6, h1, h2, h3⟩ := h i hi
  exact ⟨b, o, v0, v1, v2, v3, v4, v5, v6, h1, TN.below hb _ _ h2, fun w1 hb1 => h3 w1 (hb.trans (hb1.mono hb.size))⟩

theorem TN.shape {w : World} {t : RTree} {v0 v1 v2 v3 v4 v5 v6 : Value} (h : TN w t [v0, v1, v2, v3, v4, v5, v6]) :
    ∃ (k a c : Int) (name : ByteArray) (A1 A2 A3 : Option Addr) (n1 c1 n2 c2 n3 c3 : Nat), v0 = .int .i64 k ∧ v1 = .int .i64 a ∧ v2 = .slice A1 n1 c1 ∧ v3 = .slice A2 n2 c2 ∧ v4 = .string name ∧ v5 = .int .i32 c ∧ v6 = .slice A3 n3 c3 := by
  cases t with
  | mk k nums text name c kids =>
    obtain ⟨a, nv, tv, A, cc, m, hvs, hrn, hrt, _, _⟩ := h.open_
    simp only [List.cons.injEq, and_true] at hvs
    obtain ⟨rfl, rfl, rfl, rfl, rfl, rfl, rfl⟩ := hvs
    obtain ⟨A1, c1, n1, rfl, _, _⟩ := hrn.opn
    obtain ⟨A2, c2, n2, rfl, _, _⟩ := hrt.opn
    exact ⟨k, a, c, name, A1, A2, A, n1, c1, n2, c2, m, cc, rfl, rfl, rfl, rfl, rfl, rfl, rfl⟩

set_option maxRecDepth 100000 in
set_option maxHeartbeats 3200000 in
theorem eqF_walk (N : Nat) (HIH : Hid (∀ t t' v0 v1 v2 v3 v4 v5 v6 u0 u1 u2 u3 u4 u5 u6 w, sizeR t ≤ N → sizeR t ≤ 1048576 → sizeR t' ≤ 1048576 → FitR t → FitR t' → TN w t [v0, v1, v2, v3, v4, v5, v6] → TN w t' [u0, u1, u2, u3, u4, u5, u6] → Calls Tryd.prog 7 #[.agg #[v0, v1, v2, v3, v4, v5, v6], .agg #[u0, u1, u2, u3, u4, u5, u6]] w fun e w' => e = .returned (.bool (sameR t t')) ∧ Below w.heap.size w w')) (kids kids' : List RTree) (A A' : Option Addr) (m m' cc cc' : Nat) (w : World)
    (hm : m = kids.length) (hm' : m' = kids'.length) (hN : sizeRs kids ≤ N) (hM : sizeRs kids ≤ 1048576) (hM' : sizeRs kids' ≤ 1048576) (hf : FitRs kids) (hf' : FitRs kids') (hk : KidsAt w A kids) (hk' : KidsAt w A' kids') :
    Calls Tryd.prog 16 #[.slice A m cc, .slice A' m' cc', .func (.func 7) #[] #[]] w fun e w' => e = .returned (.bool (sameRs kids kids')) ∧ Below w.heap.size w w' := by
  have hl := sizeRs_len kids
  have hl' := sizeRs_len kids'
  have hm2 : m ≤ 1048576 := by omega
  have hm2' : m' ≤ 1048576 := by omega
  have HK := Lib.hid hk; have HK' := Lib.hid hk'; have HM := Lib.hid hm; have HM' := Lib.hid hm'
  have HAT : Hid (∀ i (hi : i < kids.length), sizeR kids[i] ≤ sizeRs kids) := fun i hi => sizeRs_at hi
  have HAT' : Hid (∀ i (hi : i < kids'.length), sizeR kids'[i] ≤ sizeRs kids') := fun i hi => sizeRs_at hi
  have HFK : Hid (∀ i (hi : i < kids.length), FitR kids[i]) := fun i hi => FitRs_at hf hi
  have HFK' : Hid (∀ i (hi : i < kids'.length), FitR kids'[i]) := fun i hi => FitRs_at hf' hi
  have HN2 : Hid (sizeRs kids ≤ N ∧ sizeRs kids ≤ 1048576 ∧ sizeRs kids' ≤ 1048576) := ⟨hN, hM, hM'⟩
  obtain ⟨R, hR⟩ : ∃ R, R = sameRs kids kids' := ⟨_, rfl⟩
  have HR : Hid (R = sameRs (kids.drop 0) (kids'.drop 0)) := hR
  have HLE : Hid (kids.length ≠ kids'.length → R = false) := fun h => by rw [hR]; exact sameRs_len h
  have HS3 : Hid (∀ i (h1 : i < kids.length) (h2 : i < kids'.length), sameRs (kids.drop i) (kids'.drop i) = (sameR kids[i] kids'[i] && sameRs (kids.drop (i + 1)) (kids'.drop (i + 1)))) := fun i h1 h2 => sameRs_step h1 h2
  have HE3 : Hid (∀ i, kids.length ≤ i → kids'.length ≤ i → sameRs (kids.drop i) (kids'.drop i) = true) := fun i h1 h2 => sameRs_end h1 h2
  rw [← hR]
  clear hk hk' hm hm' hl hl' hN hM hM' hf hf' hR
  by_cases hnn : m = m'
  · subst hnn
    have hne : ((m : Int) != (m : Int)) = false := by simp
    go_enter Tryd.func16, Tryd.ntmps16
    go_wp2
    go_loopw [7, 8, 9, 17] (fun _ _ _ iv wr => ∃ i : Nat, i ≤ m ∧ iv = .int .i64 (i : Int) ∧ Below w.heap.size w wr ∧ Hid (R = sameRs (kids.drop i) (kids'.drop i))) (fun _ _ _ iv _ => m - (intOf iv).toNat)
    case atStart => exact ⟨0, Nat.zero_le _, rfl, Below.refl _ _, HR.out⟩
    case round =>
      obtain ⟨i, hi, rfl, hbl, heq⟩ := hrel
      have HBL := Lib.hid hbl
      by_cases hlt : i < m
      · have h1 : i < kids.length := by have := HM.out; omega
        have h2 : i < kids'.length := by have := HM'.out; omega
        obtain ⟨b, o, p0, p1, p2, p3, p4, p5, p6, rfl, hr, hce⟩ := HK.out i h1
        obtain ⟨b', o', q0, q1, q2, q3, q4, q5, q6, rfl, hr', hce'⟩ := HK'.out i h2
        obtain ⟨c0, c1, c2, c3, c4, c5, c6⟩ := hce _ hbl
        obtain ⟨k1, a1, d1, s1, A1, A2, A3, n1, x1, n2, x2, n3, x3, rfl, rfl, rfl, rfl, rfl, rfl, rfl⟩ := hr.shape
        obtain ⟨k2, a2, d2, s2, B1, B2, B3, m1, y1, m2, y2, m3, y3, rfl, rfl, rfl, rfl, rfl, rfl, rfl⟩ := hr'.shape
        have HCE := Lib.hid hce'
        have HRR := Lib.hid hr
        have HRR' := Lib.hid hr'
        have HS := Lib.hid (HS3.out i h1 h2)
        have hlt2 : (i : Int) < (m : Int) := by omega
        clear hbl hce hce' hr hr'
        have hb1 : Below w.heap.size w (wr.alloc (.cells #[.int .i64 k1, .int .i64 a1, .slice A1 n1 x1, .slice A2 n2 x2, .string s1, .int .i32 d1, .slice A3 n3 x3] 31)) := HBL.out.alloc HBL.out.size _
        obtain ⟨d0, d1', d2', d3, d4, d5, d6⟩ := HCE.out _ hb1
        have HB2 : Hid (Below w.heap.size w ((wr.alloc (.cells #[.int .i64 k1, .int .i64 a1, .slice A1 n1 x1, .slice A2 n2 x2, .string s1, .int .i32 d1, .slice A3 n3 x3] 31)).alloc (.cells #[.int .i64 k2, .int .i64 a2, .slice B1 m1 y1, .slice B2 m2 y2, .string s2, .int .i32 d2, .slice B3 m3 y3] 31))) := hb1.alloc hb1.size _
        have HIC := Lib.hid (HIH.out kids[i] kids'[i] _ _ _ _ _ _ _ _ _ _ _ _ _ _ ((wr.alloc (.cells #[.int .i64 k1, .int .i64 a1, .slice A1 n1 x1, .slice A2 n2 x2, .string s1, .int .i32 d1, .slice A3 n3 x3] 31)).alloc (.cells #[.int .i64 k2, .int .i64 a2, .slice B1 m1 y1, .slice B2 m2 y2, .string s2, .int .i32 d2, .slice B3 m3 y3] 31)) (by have := HAT.out i h1; have := HN2.out; omega) (by have := HAT.out i h1; have := HN2.out; omega) (by have := HAT'.out i h2; have := HN2.out; omega) (HFK.out i h1) (HFK'.out i h2) (TN.below HB2.out _ _ HRR.out) (TN.below HB2.out _ _ HRR'.out))
        generalize sameR kids[i] kids'[i] = q at *
        clear hb1 HRR HRR' HCE
        go_wp2_with fail
        refine HIC.out.mono ?_
        rintro e w2 ⟨rfl, hb⟩
        have HB3 := Lib.hid (HB2.out.trans (hb.mono HB2.out.size))
        clear hb
        clear c0 c1 c2 c3 c4 c5 c6 d0 d1' d2' d3 d4 d5 d6
        by_cases hqq : q = true
        · have HT : Hid (R = sameRs (kids.drop (i + 1)) (kids'.drop (i + 1))) := by unfold Hid; rw [heq.out, HS.out, hqq]; rfl
          clear heq HS
          subst hqq
          go_wp2
          go_roundw
          case rel => exact ⟨i + 1, by omega, by go_num, HB3.out, HT.out⟩
          case measure => simp [intOf]; omega
        · have hqf : q = false := by simpa using hqq
          have HT : Hid (R = false) := by unfold Hid; rw [heq.out, HS.out, hqf]; rfl
          clear heq HS hqq
          subst hqf
          go_wp2
          go_ret
          exact ⟨by rw [HT.out]; rfl, HB3.out⟩
      · have HT : Hid (R = true) := by unfold Hid; rw [heq.out, HE3.out i (by have := HM.out; omega) (by have := HM'.out; omega)]
        clear heq hbl
        go_wp2
        go_ret
        exact ⟨by rw [HT.out]; rfl, HBL.out⟩
  · have HT : Hid (R = false) := HLE.out fun e => hnn (by rw [HM.out, HM'.out, e])
    have hne : ((m : Int) != (m' : Int)) = true := by simp; omega
    go_enter Tryd.func16, Tryd.ntmps16
    go_wp2
    go_ret
    exact ⟨by rw [HT.out]; rfl, Below.refl _ _⟩
end Go.Proofs.YtmfklpacpjoggaaDoor
