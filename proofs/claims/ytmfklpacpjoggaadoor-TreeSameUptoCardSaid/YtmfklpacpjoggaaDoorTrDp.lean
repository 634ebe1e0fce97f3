/- The walks of tree.depth, Count, Good, Print. Conditions: as each theorem says. -/
import Derived.Test.YtmfklpacpjoggaaDoorTrNx
import Derived.Test.YtmfklpacpjoggaaDoorTrAs
namespace Go.Proofs.YtmfklpacpjoggaaDoor
open Go Go.RowKit Go.Proofs Fl

theorem Boxed.bl {w W : World} {vs : List Value} (h : Boxed w W vs) : Below w.heap.size w W := h.2.1
/-- do nodes lie in one another at most so deep? -/
def dpB : Nat → RTree → Bool
  | 0, _ => false
  | d + 1, .mk _ _ _ _ _ kids => kids.all fun t => dpB d t

set_option maxRecDepth 100000 in
set_option maxHeartbeats 800000 in
theorem depth_walk : ∀ (d : Nat) (t : RTree) (v0 v1 v2 v3 v4 v5 v6 : Value) (w : World) (z : Int), z = (d : Int) → d ≤ 100 → FitG t → TN w t [v0, v1, v2, v3, v4, v5, v6] →
    Calls Tryd.prog 20 #[.agg #[v0, v1, v2, v3, v4, v5, v6], .int .i64 z] w fun e w' => e = .returned (.bool (dpB d t)) ∧ Below w.heap.size w w'
  | 0, t, v0, v1, v2, v3, v4, v5, v6, w, z, hz, _, _, _ => by
    have hz0 : ¬ 0 < z := by omega
    have hz1 : -1 < z := by omega
    clear hz
    have HB : Hid (Below w.heap.size w ((w.alloc (.cells #[v0, v1, v2, v3, v4, v5, v6] 31)).alloc (.cells #[.int .i64 z] 3))) := ((Below.refl _ w).alloc (Nat.le_refl _) _).alloc (by simp) _
    have HR : Hid (dpB 0 t = false) := by unfold Hid; rw [dpB]
    generalize dpB 0 t = R at *
    go_enter Tryd.func20, Tryd.ntmps20
    go_wp2
    go_ret
    exact ⟨by rw [HR.out]; rfl, HB.out⟩
  | d + 1, .mk k nums text name c kids, v0, v1, v2, v3, v4, v5, v6, w, z, hz, hd, hf, ht => by
    obtain ⟨at1, A1, n1, c1, A2, n2, c2, A, m, cc, rfl, rfl, rfl, rfl, rfl, rfl, rfl, hm, -, hk⟩ := ht.form
    rw [FitG] at hf
    obtain ⟨R, hR⟩ : ∃ R : Bool, R = kids.any fun t => !dpB d t := ⟨_, rfl⟩
    have HR : Hid (dpB (d + 1) (.mk k nums text name c kids) = !R) := by unfold Hid; rw [hR, any_not, dpB]
    have hb0 : Below w.heap.size w ((w.alloc (.cells #[.int .i64 k, .int .i64 at1, .slice A1 n1 c1, .slice A2 n2 c2, .string name, .int .i32 c, .slice A m cc] 31)).alloc (.cells #[.int .i64 z] 3)) := ((Below.refl _ w).alloc (Nat.le_refl _) _).alloc (by simp) _
    have hz0 : 0 < z := by omega
    have hz1 : z ≤ 101 := by omega
    have hcl : ∀ i (hi : i < kids.length) v0 v1 v2 v3 v4 v5 v6 w1, Below ((w.alloc (.cells #[.int .i64 k, .int .i64 at1, .slice A1 n1 c1, .slice A2 n2 c2, .string name, .int .i32 c, .slice A m cc] 31)).alloc (.cells #[.int .i64 z] 3)).heap.size ((w.alloc (.cells #[.int .i64 k, .int .i64 at1, .slice A1 n1 c1, .slice A2 n2 c2, .string name, .int .i32 c, .slice A m cc] 31)).alloc (.cells #[.int .i64 z] 3)) w1 → TN w1 kids[i] [v0, v1, v2, v3, v4, v5, v6] →
        Calls Tryd.prog 41 #[.agg #[v0, v1, v2, v3, v4, v5, v6], .pointer (some ⟨w.heap.size + 1, 0, none⟩)] w1 fun e w' => e = .returned (.bool (!dpB d kids[i])) ∧ Below w1.heap.size w1 w' := by
      intro i hi v0 v1 v2 v3 v4 v5 v6 w1 hb htk
      have hq : w1.cell? ⟨w.heap.size + 1, 0, none⟩ = some (.int .i64 z) := by rw [hb.cell (by simp), World.cell?_alloc_at _ _ _ _ (by simp)]; rfl
      have hb1 : Below w1.heap.size w1 (w1.alloc (.cells #[v0, v1, v2, v3, v4, v5, v6] 31)) := (Below.refl _ w1).alloc (Nat.le_refl _) _
      have hq2 : (w1.alloc (.cells #[v0, v1, v2, v3, v4, v5, v6] 31)).cell? ⟨w.heap.size + 1, 0, none⟩ = some (.int .i64 z) := by rw [hb1.cell (cell_lt hq)]; exact hq
      have HC := Lib.hid (depth_walk d kids[i] v0 v1 v2 v3 v4 v5 v6 _ (z - 1) (by omega) (by omega) (FitGs_at hf.2.2.2.2.2 hi) (TN.below hb1 _ _ htk))
      have HB1 := Lib.hid hb1
      clear hq hb1 hb htk hf hz HR hR hk hm ht hb0 hd
      generalize dpB d kids[i] = b at *
      go_enter Tryd.func41, Tryd.ntmps41
      go_wp2_with fail
      (with_reducible refine HC.out.mono ?_)
      rintro e w2 ⟨rfl, hb⟩
      have HB2 := Lib.hid (HB1.out.trans (hb.mono HB1.out.size))
      clear hb hq2
      go_wp2
      go_ret
      exact ⟨rfl, HB2.out⟩
    have HCC := Lib.hid (nContains_walk kids A m cc _ ⟨w.heap.size + 1, 0, none⟩ 41 (fun t => !dpB d t) _ Tryd.func41 (by kernel_rfl) _ rfl hm (by omega) (hk.below hb0) hcl)
    rw [← hR] at HCC
    have HB0 := Lib.hid hb0
    generalize dpB (d + 1) (.mk k nums text name c kids) = R2 at *
    clear hcl hb0 hk hm hf ht hd hR hz
    go_enter Tryd.func20, Tryd.ntmps20
    go_wp2_with fail
    (with_reducible refine HCC.out.mono ?_)
    rintro e w2 ⟨rfl, hb⟩
    have HB2 := Lib.hid (HB0.out.trans (hb.mono HB0.out.size))
    clear hb
    go_wp2
    go_ret
    exact ⟨by rw [HR.out]; rfl, HB2.out⟩

set_option maxRecDepth 100000 in
set_option maxHeartbeats 800000 in
theorem tCount_walk : ∀ (N : Nat) (t : RTree) (v0 v1 v2 v3 v4 v5 v6 : Value) (w : World), sizeR t ≤ N → sizeR t ≤ 1048576 → TN w t [v0, v1, v2, v3, v4, v5, v6] →
    Calls Tryd.prog 13 #[.agg #[v0, v1, v2, v3, v4, v5, v6]] w fun e w' => e = .returned (.int .i64 (sizeR t : Int)) ∧ Below w.heap.size w w'
  | 0, t, _, _, _, _, _, _, _, _, h, _, _ => by have := sizeR_pos t; omega
  | N + 1, .mk k nums text name c kids, v0, v1, v2, v3, v4, v5, v6, w, hN, hM, ht => by
    obtain ⟨at1, A1, n1, c1, A2, n2, c2, A, m, cc, rfl, rfl, rfl, rfl, rfl, rfl, rfl, hm, -, hk⟩ := ht.form
    rw [sizeR] at hN hM ⊢
    have hlen := sizeRs_len kids
    have hm2 : m ≤ 1048576 := by omega
    have HK := Lib.hid hk
    have HM := Lib.hid hm
    have HIH : Hid (∀ t v0 v1 v2 v3 v4 v5 v6 w, sizeR t ≤ N → sizeR t ≤ 1048576 → TN w t [v0, v1, v2, v3, v4, v5, v6] → Calls Tryd.prog 13 #[.agg #[v0, v1, v2, v3, v4, v5, v6]] w fun e w' => e = .returned (.int .i64 (sizeR t : Int)) ∧ Below w.heap.size w w') := tCount_walk N
    have HTK : Hid (∀ i (hi : i < kids.length), sizeRs (kids.take (i + 1)) = sizeRs (kids.take i) + sizeR kids[i]) := fun i hi => sizeRs_take kids i hi
    have HLE : Hid (∀ i, sizeRs (kids.take i) ≤ sizeRs kids) := fun i => sizeRs_le kids i
    have HAT : Hid (∀ i (hi : i < kids.length), sizeR kids[i] ≤ sizeRs kids) := fun i hi => sizeRs_at hi
    have HN2 : Hid (1 + sizeRs kids ≤ N + 1 ∧ 1 + sizeRs kids ≤ 1048576) := by unfold Hid; omega
    have HTL : Hid (sizeRs (kids.take m) = sizeRs kids) := by unfold Hid; rw [hm, List.take_length]
    have HX0 := Lib.hid (boxed w [.int .i64 k, .int .i64 at1, .slice A1 n1 c1, .slice A2 n2 c2, .string name, .int .i32 c, .slice A m cc] 31)
    clear hk hm hlen hN hM ht
    go_enter Tryd.func13, Tryd.ntmps13
    go_wp2
    generalize w.alloc (.cells #[.int .i64 k, .int .i64 at1, .slice A1 n1 c1, .slice A2 n2 c2, .string name, .int .i32 c, .slice A m cc] 31) = W at *
    go_loopw [3, 5, 9] (fun cv _ iv wr => ∃ (i n : Nat), i ≤ m ∧ iv = .int .i64 (i : Int) ∧ cv = .int .i64 (n : Int) ∧ n ≤ 1048576 ∧ Hid (n = 1 + sizeRs (kids.take i)) ∧ Below w.heap.size w wr) (fun _ _ iv _ => m - (intOf iv).toNat)
    case atStart => exact ⟨0, 1, Nat.zero_le _, rfl, rfl, by omega, by simp [Hid, sizeRs], HX0.out.2.1⟩
    case round =>
      obtain ⟨i, n, hi, rfl, rfl, h1, hn, hbl⟩ := hrel
      have HBL := Lib.hid hbl
      by_cases him : i < m
      · have hik : i < kids.length := by have := HM.out; omega
        obtain ⟨b, o, u0, u1, u2, u3, u4, u5, u6, rfl, hr, hce⟩ := HK.out i hik
        obtain ⟨k', a', c', nm', B1, B2, B3, p1, q1, p2, q2, p3, q3, rfl, rfl, rfl, rfl, rfl, rfl, rfl⟩ := hr.shape
        obtain ⟨c0, c1, c2, c3, c4, c5, c6⟩ := hce wr hbl
        have hba := (Below.refl _ wr).alloc (Nat.le_refl _) (.cells #[.int .i64 k', .int .i64 a', .slice B1 p1 q1, .slice B2 p2 q2, .string nm', .int .i32 c', .slice B3 p3 q3] 31)
        have HIC := Lib.hid (HIH.out kids[i] _ _ _ _ _ _ _ _ (by have := HAT.out i hik; have := HN2.out; omega) (by have := HAT.out i hik; have := HN2.out; omega) (TN.below (hbl.trans (hba.mono hbl.size)) _ _ hr))
        have HBA := Lib.hid (hbl.trans (hba.mono hbl.size))
        have HTN := Lib.hid (HTK.out i hik)
        have hns : n + sizeR kids[i] ≤ 1048576 := by have := HTN.out; have := HLE.out (i + 1); have := HN2.out; have := hn.out; omega
        have HN3 : Hid (n + sizeR kids[i] = 1 + sizeRs (kids.take (i + 1))) := by unfold Hid; have := HTN.out; have := hn.out; omega
        clear hr hce hbl hn hba
        generalize sizeR kids[i] = z at *
        go_wp2_with fail
        (with_reducible refine HIC.out.mono ?_)
        rintro e w2 ⟨rfl, hb⟩
        have HB2 := Lib.hid (HBA.out.trans (hb.mono HBA.out.size))
        clear hb c0 c1 c2 c3 c4 c5 c6
        go_wp2
        go_roundw
        case rel => exact ⟨i + 1, n + z, by omega, by go_num, by go_num, hns, HN3.out, HB2.out⟩
        case measure => simp [intOf]; omega
      · have hF : n = 1 + sizeRs kids := by have := HTL.out; have := hn.out; obtain rfl : i = m := by omega
                                            omega
        have HF := Lib.hid hF
        clear hn hF hbl
        go_wp2
        go_ret
        exact ⟨by rw [← HF.out]; rfl, HBL.out⟩

set_option maxRecDepth 100000 in
theorem good31_walk (t : RTree) (v0 v1 v2 v3 v4 v5 v6 : Value) (w : World) (hf : FitG t) (ht : TN w t [v0, v1, v2, v3, v4, v5, v6]) :
    Calls Tryd.prog 12 #[.agg #[v0, v1, v2, v3, v4, v5, v6]] w fun e w' => e = .returned (.bool ((gd t 0 || gd t 1) && dpB 40 t)) ∧ Below w.heap.size w w' := by
  obtain ⟨hv, hfn, _⟩ := all_good (sizeR t)
  have hX := boxed w [v0, v1, v2, v3, v4, v5, v6] 31
  have HV : Hid (∀ W, Below w.heap.size w W → Calls Tryd.prog 18 #[.agg #[v0, v1, v2, v3, v4, v5, v6]] W fun e w' => e = .returned (.bool (gd t 0)) ∧ Below W.heap.size W w') := fun W hb => hv t _ _ _ _ _ _ _ W ⟨Nat.le_refl _, hf⟩ (TN.below hb _ _ ht)
  have HFN : Hid (∀ W, Below w.heap.size w W → Calls Tryd.prog 19 #[.agg #[v0, v1, v2, v3, v4, v5, v6]] W fun e w' => e = .returned (.bool (gd t 1)) ∧ Below W.heap.size W w') := fun W hb => hfn t _ _ _ _ _ _ _ W ⟨Nat.le_refl _, hf⟩ (TN.below hb _ _ ht)
  have HD : Hid (∀ W, Below w.heap.size w W → Calls Tryd.prog 20 #[.agg #[v0, v1, v2, v3, v4, v5, v6], .int .i64 40] W fun e w' => e = .returned (.bool (dpB 40 t)) ∧ Below W.heap.size W w') := fun W hb => depth_walk 40 t _ _ _ _ _ _ _ W 40 rfl (by omega) hf (TN.below hb _ _ ht)
  obtain ⟨at1, A1, n1, c1, A2, n2, c2, A, m, cc, k, name, c, rfl, rfl, rfl, rfl, rfl, rfl, rfl⟩ : ∃ at1 A1 n1 c1 A2 n2 c2 A m cc k name c, v0 = .int .i64 k ∧ v1 = .int .i64 at1 ∧ v2 = .slice A1 n1 c1 ∧ v3 = .slice A2 n2 c2 ∧ v4 = .string name ∧ v5 = .int .i32 c ∧ v6 = .slice A m cc := by
    obtain ⟨k, a, c, name, A1, A2, A3, n1, c1, n2, c2, n3, c3, h0, h1, h2, h3, h4, h5, h6⟩ := ht.shape
    exact ⟨a, A1, n1, c1, A2, n2, c2, A3, n3, c3, k, name, c, h0, h1, h2, h3, h4, h5, h6⟩
  have X0 := Lib.hid hX
  clear hv hfn hX hf ht
  generalize gd t 0 = b1 at *
  generalize gd t 1 = b2 at *
  generalize dpB 40 t = b3 at *
  go_enter Tryd.func12, Tryd.ntmps12
  go_wp2_with fail
  generalize w.alloc (.cells #[.int .i64 k, .int .i64 at1, .slice A1 n1 c1, .slice A2 n2 c2, .string name, .int .i32 c, .slice A m cc] 31) = W at *
  (with_reducible refine (HV.out _ X0.out.bl).mono ?_)
  rintro e w1 ⟨rfl, hb⟩
  have X1 := Lib.hid (X0.out.step hb)
  clear hb
  obtain ⟨x0, x1, x2, x3, x4, x5, x6⟩ := X1.out.c7
  cases b1
  case true =>
    go_wp2_with fail
    (with_reducible refine (HD.out _ X1.out.bl).mono ?_)
    rintro e w2 ⟨rfl, hb⟩
    have X2 := Lib.hid (X1.out.step hb)
    clear hb x0 x1 x2 x3 x4 x5 x6
    go_wp2
    go_ret
    exact ⟨by cases b3 <;> rfl, X2.out.bl⟩
  go_wp2_with fail
  (with_reducible refine (HFN.out _ X1.out.bl).mono ?_)
  rintro e w2 ⟨rfl, hb⟩
  have X2 := Lib.hid (X1.out.step hb)
  clear hb x0 x1 x2 x3 x4 x5 x6
  obtain ⟨x0, x1, x2, x3, x4, x5, x6⟩ := X2.out.c7
  cases b2
  case false =>
    go_wp2
    go_ret
    exact ⟨rfl, X2.out.bl⟩
  go_wp2_with fail
  (with_reducible refine (HD.out _ X2.out.bl).mono ?_)
  rintro e w3 ⟨rfl, hb⟩
  have X3 := Lib.hid (X2.out.step hb)
  clear hb x0 x1 x2 x3 x4 x5 x6
  go_wp2
  go_ret
  exact ⟨by cases b3 <;> rfl, X3.out.bl⟩
end Go.Proofs.YtmfklpacpjoggaaDoor
