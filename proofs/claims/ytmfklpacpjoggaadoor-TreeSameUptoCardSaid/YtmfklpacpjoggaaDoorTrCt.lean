/- Walks over the reference's trees: Count, short, small. Conditions: at most 1048576 nodes. -/
import Derived.Test.YtmfklpacpjoggaaDoorTre
import Derived.Deep.DeepCutAuto
import Derived.Deep.CutBlock
namespace Go.Proofs.YtmfklpacpjoggaaDoor
open Go Go.RowKit Go.Proofs

/-- some number from 1 on, at most m -/
def SomeN (m : Nat) (e : Ending) : Prop := ∃ n : Int, 1 ≤ n ∧ n ≤ m ∧ e = .returned (.int .i64 n)
/-- some truth -/
def SomeB (e : Ending) : Prop := ∃ b : Bool, e = .returned (.bool b)

set_option maxRecDepth 100000 in
set_option maxHeartbeats 1600000 in
theorem count_R (most : Int) : ∀ (N : Nat) (t : RTree) (v0 v1 v2 v3 v4 v5 : Value) (w : World), sizeR t ≤ N → sizeR t ≤ 1048576 → RN w t [v0, v1, v2, v3, v4, v5] →
    Calls Tryd.prog 9 #[.agg #[v0, v1, v2, v3, v4, v5], .int .i64 most] w fun e w' => SomeN (sizeR t) e ∧ Below w.heap.size w w'
  | 0, t, _, _, _, _, _, _, _, h, _, _ => by have := sizeR_pos t; omega
  | N + 1, .mk k nums text name c kids, v0, v1, v2, v3, v4, v5, w, hN, hM, hr => by
    obtain ⟨nv, tv, A, cc, m, hvs, _, _, hm, hkid⟩ := hr.open_
    simp only [List.cons.injEq, and_true] at hvs
    obtain ⟨rfl, rfl, rfl, rfl, rfl, rfl⟩ := hvs
    have HK := Lib.hid hkid
    have HM := Lib.hid hm
    have hsz : sizeR (.mk k nums text name c kids) = 1 + sizeRs kids := by rw [sizeR]
    have HSZ := Lib.hid hsz
    have hlen := sizeRs_len kids
    have hm2 : m ≤ 1048576 := by omega
    have HIH : Hid (∀ t v0 v1 v2 v3 v4 v5 w, sizeR t ≤ N → sizeR t ≤ 1048576 → RN w t [v0, v1, v2, v3, v4, v5] → Calls Tryd.prog 9 #[.agg #[v0, v1, v2, v3, v4, v5], .int .i64 most] w fun e w' => SomeN (sizeR t) e ∧ Below w.heap.size w w') := count_R most N
    have HTK : Hid (∀ i (hi : i < kids.length), sizeRs (kids.take (i + 1)) = sizeRs (kids.take i) + sizeR kids[i]) := fun i hi => sizeRs_take kids i hi
    have HLE : Hid (∀ i, sizeRs (kids.take i) ≤ sizeRs kids) := fun i => sizeRs_le kids i
    have HAT : Hid (∀ i (hi : i < kids.length), sizeR kids[i] ≤ sizeRs kids) := fun i hi => sizeRs_at hi
    have HN2 : Hid (1 + sizeRs kids ≤ N + 1 ∧ 1 + sizeRs kids ≤ 1048576) := by unfold Hid; omega
    have HB0 : Hid (Below w.heap.size w (w.alloc (.cells #[.int .i64 k, v1, v2, .string name, .int .i32 c, .slice A m cc] 26))) := (Below.refl _ w).alloc (Nat.le_refl _) _
    clear hkid hm hsz hlen hN hM hr
    go_enter Tryd.func9, Tryd.ntmps9
    go_wp2
    have hk0 : (w.alloc (.cells #[.int .i64 k, v1, v2, .string name, .int .i32 c, .slice A m cc] 26)).cell? ⟨w.heap.size, 5, none⟩ = some (.slice A m cc) := by rw [World.cell?_alloc_at _ _ _ _ rfl]; rfl
    have HK0 := Lib.hid hk0
    have hsz0 : (w.alloc (.cells #[.int .i64 k, v1, v2, .string name, .int .i32 c, .slice A m cc] 26)).heap.size = w.heap.size + 1 := by simp
    have HSZ0 := Lib.hid hsz0
    clear hk0 hsz0
    generalize w.alloc (.cells #[.int .i64 k, v1, v2, .string name, .int .i32 c, .slice A m cc] 26) = W at *
    go_loopw [5, 6] (fun cv iv wr => ∃ (i : Nat) (n : Int), i ≤ m ∧ iv = .int .i64 (i : Int) ∧ cv = .int .i64 n ∧ 1 ≤ n ∧ n ≤ 1048576 ∧ Hid (n ≤ 1 + (sizeRs (kids.take i) : Int)) ∧ Below W.heap.size W wr) (fun _ iv _ => m - (intOf iv).toNat)
    case atStart => exact ⟨0, 1, Nat.zero_le _, rfl, rfl, by omega, by omega, by simp [Hid, sizeRs], Below.refl _ _⟩
    case round =>
      obtain ⟨i, n, hi, rfl, rfl, h1, h2, hn, hbl⟩ := hrel
      have HBL := Lib.hid hbl
      have HBW : Hid (Below w.heap.size w wr) := HB0.out.trans (hbl.mono (by have := HSZ0.out; omega))
      have hk0 : wr.cell? ⟨w.heap.size, 5, none⟩ = some (.slice A m cc) := by rw [hbl.cell (by have := HSZ0.out; simp; omega)]; exact HK0.out
      have hzw : W.heap.size ≤ wr.heap.size := hbl.size
      clear hbl
      by_cases him : i < m
      · by_cases hc : n ≤ most
        · have hik : i < kids.length := by have := HM.out; omega
          obtain ⟨b, o, u0, u1, u2, u3, u4, u5, rfl, hr, hce⟩ := HK.out i hik
          obtain ⟨c0, c1, c2, c3, c4, c5⟩ := hce wr HBW.out
          have HTN := Lib.hid (HTK.out i hik)
          have HIC := Lib.hid (HIH.out kids[i] u0 u1 u2 u3 u4 u5 wr (by have := HAT.out i hik; have := HN2.out; omega) (by have := HAT.out i hik; have := HN2.out; omega) (hr.below HBW.out))
          clear hr hce
          go_wp2_with fail
          refine HIC.out.mono ?_
          rintro e w2 ⟨⟨n2, g1, g2, rfl⟩, hb⟩
          have HB2 := Lib.hid (HBL.out.trans (hb.mono hzw))
          have HN3 : Hid (n + n2 ≤ 1 + (sizeRs (kids.take (i + 1)) : Int)) := by unfold Hid; rw [HTN.out]; have := hn.out; push_cast; omega
          have hs1 : n + n2 ≤ 1048576 := by have := HN3.out; have := HLE.out (i + 1); have := HN2.out; omega
          have hs2 : 1 ≤ n + n2 := by omega
          clear hb hn
          go_wp2
          go_roundw
          case rel => exact ⟨i + 1, n + n2, by omega, by go_num, rfl, hs2, hs1, HN3.out, HB2.out⟩
          case measure => simp [intOf]; omega
        · have HF : Hid (SomeN (sizeR (.mk k nums text name c kids)) (.returned (.int .i64 n))) := ⟨n, h1, by rw [HSZ.out]; have := hn.out; have := HLE.out i; push_cast; omega, rfl⟩
          clear hn
          go_wp2
          go_ret
          exact ⟨HF.out, HBW.out⟩
      · have HF : Hid (SomeN (sizeR (.mk k nums text name c kids)) (.returned (.int .i64 n))) := ⟨n, h1, by rw [HSZ.out]; have := hn.out; have := HLE.out i; push_cast; omega, rfl⟩
        clear hn
        go_wp2
        go_ret
        exact ⟨HF.out, HBW.out⟩

theorem Reads1.slice {w : World} {v : Value} {xs : List Value} (h : Reads1 w v xs) : ∃ A n c, v = .slice A n c ∧ n = xs.length := by
  obtain ⟨a, c, rfl⟩ := h.len; exact ⟨a, _, c, rfl, rfl⟩

/-- some truth, as a value -/
def SomeBV (v : Value) : Prop := ∃ b : Bool, v = .bool b

set_option maxRecDepth 100000 in
set_option maxHeartbeats 1600000 in
theorem short_R : ∀ (N : Nat) (t : RTree) (v0 v1 v2 v3 v4 v5 : Value) (w : World), sizeR t ≤ N → sizeR t ≤ 1048576 → RN w t [v0, v1, v2, v3, v4, v5] →
    Calls Tryd.prog 10 #[.agg #[v0, v1, v2, v3, v4, v5]] w fun e w' => SomeB e ∧ Below w.heap.size w w'
  | 0, t, _, _, _, _, _, _, _, h, _, _ => by have := sizeR_pos t; omega
  | N + 1, .mk k nums text name c kids, v0, v1, v2, v3, v4, v5, w, hN, hM, hr => by
    obtain ⟨nv, tv, A, cc, m, hvs, hrn, hrt, hm, hkid⟩ := hr.open_
    simp only [List.cons.injEq, and_true] at hvs
    obtain ⟨rfl, rfl, rfl, rfl, rfl, rfl⟩ := hvs
    obtain ⟨A1, n1, c1, rfl, hx1⟩ := hrn.slice
    obtain ⟨A2, n2, c2, rfl, hx2⟩ := hrt.slice
    clear hx1 hx2
    have HK := Lib.hid hkid
    have HM := Lib.hid hm
    have hsz : sizeR (.mk k nums text name c kids) = 1 + sizeRs kids := by rw [sizeR]
    have hlen := sizeRs_len kids
    have hm2 : m ≤ 1048576 := by omega
    have HIH : Hid (∀ t v0 v1 v2 v3 v4 v5 w, sizeR t ≤ N → sizeR t ≤ 1048576 → RN w t [v0, v1, v2, v3, v4, v5] → Calls Tryd.prog 10 #[.agg #[v0, v1, v2, v3, v4, v5]] w fun e w' => SomeB e ∧ Below w.heap.size w w') := short_R N
    have HAT : Hid (∀ i (hi : i < kids.length), sizeR kids[i] ≤ sizeRs kids) := fun i hi => sizeRs_at hi
    have HN2 : Hid (1 + sizeRs kids ≤ N + 1 ∧ 1 + sizeRs kids ≤ 1048576) := by unfold Hid; omega
    have HB0 : Hid (Below w.heap.size w (w.alloc (.cells #[.int .i64 k, .slice A1 n1 c1, .slice A2 n2 c2, .string name, .int .i32 c, .slice A m cc] 26))) := (Below.refl _ w).alloc (Nat.le_refl _) _
    clear hkid hm hsz hlen hN hM hr hrn hrt
    have hk0 : (w.alloc (.cells #[.int .i64 k, .slice A1 n1 c1, .slice A2 n2 c2, .string name, .int .i32 c, .slice A m cc] 26)).cell? ⟨w.heap.size, 5, none⟩ = some (.slice A m cc) := by rw [World.cell?_alloc_at _ _ _ _ rfl]; rfl
    have HK0 := Lib.hid hk0
    have hsz0 : (w.alloc (.cells #[.int .i64 k, .slice A1 n1 c1, .slice A2 n2 c2, .string name, .int .i32 c, .slice A m cc] 26)).heap.size = w.heap.size + 1 := by simp
    have HSZ0 := Lib.hid hsz0
    clear hk0 hsz0
    go_enter Tryd.func10, Tryd.ntmps10
    go_upto_region 1 with fail
    go_cut [3] from 5 (fun bv wx => SomeBV bv ∧ wx = w.alloc (.cells #[.int .i64 k, .slice A1 n1 c1, .slice A2 n2 c2, .string name, .int .i32 c, .slice A m cc] 26))
    case first =>
      go_wp2
      all_goals
        go_meet
        exact ⟨⟨_, rfl⟩, rfl⟩
    case rest =>
      obtain ⟨⟨b0, rfl⟩, rfl⟩ := hcut
      go_wp2
      generalize w.alloc (.cells #[.int .i64 k, .slice A1 n1 c1, .slice A2 n2 c2, .string name, .int .i32 c, .slice A m cc] 26) = W at *
      go_loopw [3, 4] (fun bv iv wr => ∃ (i : Nat), i ≤ m ∧ iv = .int .i64 (i : Int) ∧ SomeBV bv ∧ Below W.heap.size W wr) (fun _ iv _ => m - (intOf iv).toNat)
      case atStart => exact ⟨0, Nat.zero_le _, rfl, ⟨_, rfl⟩, Below.refl _ _⟩
      case round =>
        obtain ⟨i, hi, rfl, ⟨ok, rfl⟩, hbl⟩ := hrel
        have HBL := Lib.hid hbl
        have HBW : Hid (Below w.heap.size w wr) := HB0.out.trans (hbl.mono (by have := HSZ0.out; omega))
        have hk0 : wr.cell? ⟨w.heap.size, 5, none⟩ = some (.slice A m cc) := by rw [hbl.cell (by have := HSZ0.out; simp; omega)]; exact HK0.out
        have hzw : W.heap.size ≤ wr.heap.size := hbl.size
        clear hbl
        by_cases him : i < m
        · cases ok with
          | true =>
            have hik : i < kids.length := by have := HM.out; omega
            obtain ⟨b, o, u0, u1, u2, u3, u4, u5, rfl, hr, hce⟩ := HK.out i hik
            obtain ⟨c0, c1, c2, c3, c4, c5⟩ := hce wr HBW.out
            have HIC := Lib.hid (HIH.out kids[i] u0 u1 u2 u3 u4 u5 wr (by have := HAT.out i hik; have := HN2.out; omega) (by have := HAT.out i hik; have := HN2.out; omega) (hr.below HBW.out))
            clear hr hce
            go_wp2_with fail
            refine HIC.out.mono ?_
            rintro e w2 ⟨⟨b2, rfl⟩, hb⟩
            have HB2 := Lib.hid (HBL.out.trans (hb.mono hzw))
            clear hb
            go_wp2
            go_roundw
            case rel => exact ⟨i + 1, by omega, by go_num, ⟨_, rfl⟩, HB2.out⟩
            case measure => simp [intOf]; omega
          | false =>
            go_wp2
            go_roundw
            case rel => first | exact ⟨i + 1, by omega, by go_num, ⟨_, rfl⟩, HBL.out⟩ | ((repeat apply Exists.intro); exact ⟨⟨by omega, by go_num, ⟨_, rfl⟩, HBL.out⟩, rfl⟩)
            case measure => simp [intOf]; omega
        · go_wp2
          go_ret
          exact ⟨⟨_, rfl⟩, HBW.out⟩

set_option maxRecDepth 100000 in
theorem small_R (t : RTree) (v0 v1 v2 v3 v4 v5 : Value) (w : World) (hM : sizeR t ≤ 1048576) (hr : RN w t [v0, v1, v2, v3, v4, v5]) :
    Calls Tryd.prog 4 #[.agg #[v0, v1, v2, v3, v4, v5]] w fun e w' => SomeB e ∧ Below w.heap.size w w' := by
  have HB0 : Hid (Below w.heap.size w (w.alloc (.cells #[v0, v1, v2, v3, v4, v5] 26))) := (Below.refl _ w).alloc (Nat.le_refl _) _
  have HCT := Lib.hid (fun w' hb => count_R 200 (sizeR t) t v0 v1 v2 v3 v4 v5 w' (Nat.le_refl _) hM (hr.below (w' := w') hb))
  have HSH := Lib.hid (fun w' hb => short_R (sizeR t) t v0 v1 v2 v3 v4 v5 w' (Nat.le_refl _) hM (hr.below (w' := w') hb))
  clear hM hr
  go_enter Tryd.func4, Tryd.ntmps4
  go_wp2_with fail
  refine (HCT.out _ HB0.out).mono ?_
  rintro e w1 ⟨⟨n, g1, g2, rfl⟩, hb⟩
  have hc0 : ∀ j, w1.cell? ⟨w.heap.size, j, none⟩ = (w.alloc (.cells #[v0, v1, v2, v3, v4, v5] 26)).cell? ⟨w.heap.size, j, none⟩ := fun j => hb.cell (p := ⟨w.heap.size, j, none⟩) (by simp)
  have d0 : w1.cell? ⟨w.heap.size, 0, none⟩ = some v0 := by rw [hc0, World.cell?_alloc_at _ _ _ _ rfl]; rfl
  have d1 : w1.cell? ⟨w.heap.size, 1, none⟩ = some v1 := by rw [hc0, World.cell?_alloc_at _ _ _ _ rfl]; rfl
  have d2 : w1.cell? ⟨w.heap.size, 2, none⟩ = some v2 := by rw [hc0, World.cell?_alloc_at _ _ _ _ rfl]; rfl
  have d3 : w1.cell? ⟨w.heap.size, 3, none⟩ = some v3 := by rw [hc0, World.cell?_alloc_at _ _ _ _ rfl]; rfl
  have d4 : w1.cell? ⟨w.heap.size, 4, none⟩ = some v4 := by rw [hc0, World.cell?_alloc_at _ _ _ _ rfl]; rfl
  have d5 : w1.cell? ⟨w.heap.size, 5, none⟩ = some v5 := by rw [hc0, World.cell?_alloc_at _ _ _ _ rfl]; rfl
  have HB1 := Lib.hid (HB0.out.trans (hb.mono HB0.out.size))
  clear hb hc0
  by_cases hn : 150 < n
  · go_wp2
    go_ret
    exact ⟨⟨_, rfl⟩, HB1.out⟩
  · go_wp2_with fail
    refine (HSH.out _ HB1.out).mono ?_
    rintro e w2 ⟨⟨b, rfl⟩, hb⟩
    have HB2 := Lib.hid (HB1.out.trans (hb.mono HB1.out.size))
    clear hb
    go_wp2
    go_ret
    exact ⟨⟨_, rfl⟩, HB2.out⟩
end Go.Proofs.YtmfklpacpjoggaaDoor
