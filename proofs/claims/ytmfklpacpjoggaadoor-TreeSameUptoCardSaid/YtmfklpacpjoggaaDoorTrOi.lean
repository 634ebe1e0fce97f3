/- The walk of of, its loop. Conditions: at most 1048576 nodes. -/
import Derived.Test.YtmfklpacpjoggaaDoorTrOh
import Derived.Deep.RegionLaw
namespace Go.Proofs.YtmfklpacpjoggaaDoor
open Go Go.RowKit Go.Proofs Fl

/-- what a cell holds -/
def gz (g : Nat) (W : World) : Value := (W.cell? ⟨g, 6, none⟩).getD (.int .i64 0)
theorem gz_of {g : Nat} {W : World} {v : Value} (h : W.cell? ⟨g, 6, none⟩ = some v) : gz g W = v := by unfold gz; rw [h]; rfl
theorem KOwn.slice {F : Nat → Prop} {w : World} {B : Nat} {v : Value} {kids : List RTree} (h : KOwn F w B v kids) : ∃ av cv, v = .slice av kids.length cv := by
  obtain ⟨vss, _, _, hown, _⟩ := h
  rcases hown.2 with ⟨rfl, h0⟩ | ⟨g, cap, cur, rfl, _⟩
  · exact ⟨none, 0, by rw [h0]⟩
  · exact ⟨_, _, rfl⟩

theorem OfI.mid {w0 w : World} {vs : List Value} {k c : Int} {nv tv : Value} {name : ByteArray} {kids : List RTree} {i : Nat} {kv : Value} {w2 w3 : World} (h : OfI w0 w vs k c nv tv name kids i kv w2) {o : Obj} (hg : (w2.alloc o).grownBy w3 kv.ownBlock) :
    Below w0.heap.size w0 w3 ∧ (∀ j, w3.cell? ⟨w.heap.size, j, none⟩ = vs[j]?) ∧ w3.cell? ⟨w.heap.size + 2, 6, none⟩ = some kv ∧ w3.frozen? ⟨w.heap.size + 2, 6, none⟩ = false := by
  have ow := h.own
  obtain ⟨_, _, _, how, _⟩ := ow
  have hs := h.sz
  have hw0 := h.w0w.size
  have lo : ∀ b, b < w.heap.size + 3 → w3.heap[b]? = w2.heap[b]? := fun b hb => by
    rw [hg.block b (by simp; omega) (fun e => by have := (World.ownsRow.lt how b e.symm).1; omega), heap_alloc_old w2 o (by omega)]
  refine ⟨?_, fun j => ?_, ?_, ?_⟩
  · refine ⟨?_, ?_, ?_, ?_, fun b hb => ?_⟩
    · exact hg.os.trans (h.below.os.trans h.w0w.os)
    · exact hg.tape.trans (h.below.tape.trans h.w0w.tape)
    · exact hg.output.trans (h.below.output.trans h.w0w.output)
    · have := hg.size; have := h.below.size; simp at *; omega
    · rw [lo b (by omega), h.below.block b (by omega)]; exact h.w0w.block b hb
  · rw [World.cell?_of_block (lo w.heap.size (by omega))]; exact h.bx j
  · rw [World.cell?_of_block (a := ⟨w.heap.size + 2, 6, none⟩) (lo (w.heap.size + 2) (by omega))]; exact h.g 6
  · rw [World.frozen?_of_block (a := ⟨w.heap.size + 2, 6, none⟩) (lo (w.heap.size + 2) (by omega))]; exact h.fg 6

theorem new7 (w : World) (us : List Value) : ∀ j, (w.alloc (.cells us.toArray 31)).cell? ⟨w.heap.size, j, none⟩ = us[j]? := fun j => by rw [World.cell?_alloc_at _ _ _ _ rfl]; simp
theorem one7 {k a c : Int} {name : ByteArray} {A1 A2 A3 : Option Addr} {n1 c1 n2 c2 n3 c3 : Nat} : ∀ u ∈ [Value.int .i64 k, .int .i64 a, .slice A1 n1 c1, .slice A2 n2 c2, .string name, .int .i32 c, .slice A3 n3 c3], u.oneCell' = true := by
  intro u hu
  simp only [List.mem_cons, List.not_mem_nil, or_false] at hu
  rcases hu with rfl | rfl | rfl | rfl | rfl | rfl | rfl <;> rfl

set_option maxRecDepth 100000 in
set_option maxHeartbeats 3200000 in
theorem of_walk (w0 : World) : ∀ (N : Nat) (t : RTree) (v0 v1 v2 v3 v4 v5 : Value) (w : World), sizeR t ≤ N → sizeR t ≤ 1048576 → RN w0 t [v0, v1, v2, v3, v4, v5] → Below w0.heap.size w0 w →
    Calls Tryd.prog 6 #[.agg #[v0, v1, v2, v3, v4, v5]] w fun e w' => OfTells w0 w t e w' ∧ Below w.heap.size w w'
  | 0, t, _, _, _, _, _, _, _, h, _, _, _ => by have := sizeR_pos t; omega
  | N + 1, .mk k nums text name c kids, v0, v1, v2, v3, v4, v5, w, hN, hM, hr, hb => by
    obtain ⟨nv, tv, A, cc, m, hvs, hrn, hrt, hm, hkid⟩ := hr.open_
    simp only [List.cons.injEq, and_true] at hvs
    obtain ⟨rfl, rfl, rfl, rfl, rfl, rfl⟩ := hvs
    have HRN := Lib.hid hrn; have HRT := Lib.hid hrt
    obtain ⟨A1, c1, n1, rfl, hz1, hz2⟩ := hrn.opn
    clear hz1 hz2
    obtain ⟨A2, c2, n2, rfl, hz1, hz2⟩ := hrt.opn
    clear hz1 hz2
    rw [sizeR] at hN hM
    have hlen := sizeRs_len kids
    have hm2 : m ≤ 1048576 := by omega
    have HK := Lib.hid hkid
    have HM := Lib.hid hm
    have HIH : Hid (∀ t v0 v1 v2 v3 v4 v5 w, sizeR t ≤ N → sizeR t ≤ 1048576 → RN w0 t [v0, v1, v2, v3, v4, v5] → Below w0.heap.size w0 w → Calls Tryd.prog 6 #[.agg #[v0, v1, v2, v3, v4, v5]] w fun e w' => OfTells w0 w t e w' ∧ Below w.heap.size w w') := of_walk w0 N
    have HAT : Hid (∀ i (hi : i < kids.length), sizeR kids[i] ≤ sizeRs kids) := fun i hi => sizeRs_at hi
    have HN2 : Hid (1 + sizeRs kids ≤ N + 1 ∧ 1 + sizeRs kids ≤ 1048576) := by unfold Hid; omega
    have HBW := Lib.hid hb
    have HST := Lib.hid (OfI.start w0 w hb (.int .i64 k) (.slice A1 n1 c1) (.slice A2 n2 c2) (.string name) (.int .i32 c) (.slice A m cc) k c (.slice A1 n1 c1) (.slice A2 n2 c2) name kids)
    clear hkid hm hlen hN hM hr hrn hrt hb
    go_enter Tryd.func6, Tryd.ntmps6
    go_wp2
    generalize ((w.alloc (.cells #[.int .i64 k, .slice A1 n1 c1, .slice A2 n2 c2, .string name, .int .i32 c, .slice A m cc] 26)).alloc (.cells #[.int .i64 0, .int .i64 0, .slice none 0 0, .slice none 0 0, .string ⟨#[]⟩, .int .i32 0, .slice none 0 0] 31)).alloc (.cells #[.int .i64 k, .int .i64 0, .slice A1 n1 c1, .slice A2 n2 c2, .string name, .int .i32 c, .slice none 0 0] 31) = W at *
    go_loopw [4] (fun iv wr => ∃ (i : Nat) (kv : Value), i ≤ m ∧ iv = .int .i64 (i : Int) ∧ Hid (OfI w0 w [.int .i64 k, .slice A1 n1 c1, .slice A2 n2 c2, .string name, .int .i32 c, .slice A m cc] k c (.slice A1 n1 c1) (.slice A2 n2 c2) name kids i kv wr)) (fun iv _ => m - (intOf iv).toNat)
    case atStart => exact ⟨0, _, Nat.zero_le _, rfl, HST.out⟩
    case round =>
      obtain ⟨i, kv, hi, rfl, hI⟩ := hrel
      clear HST
      have hkl := hI.out.own.slice
      obtain ⟨av, cv, hkv⟩ := hkl
      have htl : (kids.take i).length = i := by rw [List.length_take]; have := HM.out; omega
      rw [htl] at hkv
      subst hkv
      have HTL := Lib.hid htl
      have HLT : Hid (∀ b, (Value.slice av i cv).ownBlock = some b → b < wr.drew.heap.size) := fun b hb => by obtain ⟨_, _, _, how, _⟩ := hI.out.own; exact (World.ownsRow.lt how b hb).2
      clear htl
      have b5 : wr.cell? ⟨w.heap.size, 5, none⟩ = some (.slice A m cc) := hI.out.bx 5
      by_cases him : i < m
      · have hik : i < kids.length := by have := HM.out; omega
        obtain ⟨b, o, u0, u1, u2, u3, u4, u5, rfl, hr, hce⟩ := HK.out i hik
        have hbl : Below w0.heap.size w0 wr.drew := (HBW.out.trans (hI.out.below.mono HBW.out.size)).drew
        have hId : OfI w0 w [.int .i64 k, .slice A1 n1 c1, .slice A2 n2 c2, .string name, .int .i32 c, .slice (some ⟨b, o, none⟩) m cc] k c (.slice A1 n1 c1) (.slice A2 n2 c2) name kids i (.slice av i cv) wr.drew := hI.out.call (Below.refl _ wr).drew
        have HIC := Lib.hid (HIH.out kids[i] u0 u1 u2 u3 u4 u5 wr.drew (by have := HAT.out i hik; have := HN2.out; omega) (by have := HAT.out i hik; have := HN2.out; omega) hr hbl)
        have HCE := Lib.hid hce
        have HSS : Hid (∀ W, Below w0.heap.size w0 W → (∀ j, W.cell? ⟨w.heap.size, j, none⟩ = [Value.int .i64 k, .slice A1 n1 c1, .slice A2 n2 c2, .string name, .int .i32 c, .slice (some ⟨b, o, none⟩) m cc][j]?) → (∃ x, W.cell? ⟨w.heap.size + 2, 6, none⟩ = some x) → W.cell? ⟨w.heap.size + 2, 6, none⟩ = some (gz (w.heap.size + 2) W) ∧ W.cell? ⟨w.heap.size, 5, none⟩ = some (.slice (some ⟨b, o, none⟩) m cc) ∧ W.cell? ⟨b, o + i * 6, none⟩ = some u0 ∧ W.cell? ⟨b, o + i * 6 + 1, none⟩ = some u1 ∧ W.cell? ⟨b, o + i * 6 + 2, none⟩ = some u2 ∧ W.cell? ⟨b, o + i * 6 + 3, none⟩ = some u3 ∧ W.cell? ⟨b, o + i * 6 + 4, none⟩ = some u4 ∧ W.cell? ⟨b, o + i * 6 + 5, none⟩ = some u5) := by
          intro W hbW h1 ⟨x, h2⟩
          obtain ⟨q0, q1, q2, q3, q4, q5⟩ := HCE.out W hbW
          exact ⟨by rw [gz_of h2]; exact h2, h1 5, q0, q1, q2, q3, q4, q5⟩
        have hgz : gz (w.heap.size + 2) wr.drew = .slice av i cv := gz_of (hId.g 6)
        have hs1 := HSS.out _ hbl hId.bx ⟨_, hId.g 6⟩
        have HID := Lib.hid hId
        have HBL := Lib.hid hbl
        clear hr hce hId hbl
        go_wp2_with fail
        obtain ⟨s10, s11, s12, s13, s14, s15, s16, s17⟩ := hs1
        rw [hgz] at s10
        clear hgz
        go_region_law (first | (refine step_pushN (by rfl) _ _ (by rfl) (w.heap.size + 3) (.slice av i cv) i vss.flatten (by rfl) (World.ownsRow.alloc HO2.out _) w2.heap.size [.int .i64 k', .int .i64 a', .slice B1 p1 q1, .slice B2 p2 q2, .string nm', .int .i32 c', .slice B3 p3 q3] (by rfl) (new7 w2 _) (by rfl) one7 (by omega) (by have := HI2a.out.sz; omega) ?_; intro r cap n' w3 hn' hown hg hr; have hmid := HI2.out.mid hg; have HI3 := Lib.hid (OfI.push hik HI2.out HID.out.sz HLT.out (by rfl) HT2.out HV1.out HV2.out HT3.out hn' hown hg hr); have hg3 := hmid.2.2.1; have hfz3 := hmid.2.2.2; clear hmid hown hg hr hn') | (go_simp; go_at_call 6; refine HIC.out.mono ?_; rintro e w2 ⟨⟨k', a', c', nm', B1, B2, B3, p1, q1, p2, q2, p3, q3, rfl, ht2⟩, hb2⟩; have HT2 := Lib.hid ht2; have HI2 := Lib.hid (HID.out.call hb2); have hb02 := HBL.out.trans (hb2.mono HBL.out.size); obtain ⟨s20, s21, s22, s23, s24, s25, s26, s27⟩ := HSS.out _ hb02 HI2.out.bx ⟨_, HI2.out.g 6⟩; have hba := (Below.refl _ w2).alloc (Nat.le_refl _) (.cells #[.int .i64 k', .int .i64 a', .slice B1 p1 q1, .slice B2 p2 q2, .string nm', .int .i32 c', .slice B3 p3 q3] 31); have HI2a := Lib.hid (HI2.out.call hba); obtain ⟨s30, s31, s32, s33, s34, s35, s36, s37⟩ := HSS.out _ (hb02.trans (hba.mono hb02.size)) HI2a.out.bx ⟨_, HI2a.out.g 6⟩; rw [gz_of (HI2.out.g 6)] at s20; rw [gz_of (HI2a.out.g 6)] at s30; clear ht2 hb2 hb02 hba; obtain ⟨vss, hv1, hv2, hown2, htn2⟩ := HI2.out.own; rw [HTL.out] at hown2; have HV1 := Lib.hid hv1; have HV2 := Lib.hid hv2; have HO2 := Lib.hid hown2; have HT3 := Lib.hid htn2; clear hv1 hv2 hown2 htn2))
        all_goals
          clear s10 s11 s12 s13 s14 s15 s16 s17 s20 s21 s22 s23 s24 s25 s26 s27 s30 s31 s32 s33 s34 s35 s36 s37 hg3 hfz3
          go_wp2_with fail
          go_roundw
          case rel => exact ⟨i + 1, _, by omega, by go_num, HI3.out⟩
          case measure => simp [intOf]; omega
      · have him2 : i = kids.length := by have := HM.out; omega
        have HI2 : Hid (OfI w0 w [.int .i64 k, .slice A1 n1 c1, .slice A2 n2 c2, .string name, .int .i32 c, .slice A m cc] k c (.slice A1 n1 c1) (.slice A2 n2 c2) name kids kids.length (.slice av i cv) wr) := by unfold Hid; have := hI.out; rw [him2] at this ⊢; exact this
        have g0 : wr.cell? ⟨w.heap.size + 2, 0, none⟩ = some (.int .i64 k) := hI.out.g 0
        have g1 : wr.cell? ⟨w.heap.size + 2, 1, none⟩ = some (.int .i64 0) := hI.out.g 1
        have g2 : wr.cell? ⟨w.heap.size + 2, 2, none⟩ = some (.slice A1 n1 c1) := hI.out.g 2
        have g3 : wr.cell? ⟨w.heap.size + 2, 3, none⟩ = some (.slice A2 n2 c2) := hI.out.g 3
        have g4 : wr.cell? ⟨w.heap.size + 2, 4, none⟩ = some (.string name) := hI.out.g 4
        have g5 : wr.cell? ⟨w.heap.size + 2, 5, none⟩ = some (.int .i32 c) := hI.out.g 5
        have g6 : wr.cell? ⟨w.heap.size + 2, 6, none⟩ = some (.slice av i cv) := hI.out.g 6
        obtain ⟨z0, r0⟩ := hI.out.r 0 (by omega); obtain ⟨z1, r1⟩ := hI.out.r 1 (by omega); obtain ⟨z2, r2⟩ := hI.out.r 2 (by omega); obtain ⟨z3, r3⟩ := hI.out.r 3 (by omega); obtain ⟨z4, r4⟩ := hI.out.r 4 (by omega); obtain ⟨z5, r5⟩ := hI.out.r 5 (by omega); obtain ⟨z6, r6⟩ := hI.out.r 6 (by omega)
        have hfr := hI.out.fr
        have HR7 := Lib.hid hI.out.r
        clear him2
        go_wp2
        obtain ⟨q0, q1, q2, q3, q4, q5, q6⟩ := set7_cells wr (w.heap.size + 1) (.int .i64 k) (.int .i64 0) (.slice A1 n1 c1) (.slice A2 n2 c2) (.string name) (.int .i32 c) (.slice av i cv) HR7.out
        unfold set7 at q0 q1 q2 q3 q4 q5 q6
        refine bodyPost_ret (v := .agg #[.int .i64 k, .int .i64 0, .slice A1 n1 c1, .slice A2 n2 c2, .string name, .int .i32 c, .slice av i cv]) (by simp [results, Tryd.results6, go_sem, q0, q1, q2, q3, q4, q5, q6]) rfl ⟨⟨k, 0, c, name, A1, A2, av, n1, c1, n2, c2, i, cv, rfl, ?_⟩, ?_⟩
        · exact (HI2.out.done HRN.out HRT.out _ _ _ _ _ _ _).1
        · exact (HI2.out.done HRN.out HRT.out _ _ _ _ _ _ _).2
end Go.Proofs.YtmfklpacpjoggaaDoor
