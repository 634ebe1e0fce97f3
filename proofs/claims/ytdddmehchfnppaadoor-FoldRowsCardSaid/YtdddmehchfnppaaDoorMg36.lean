/- The walk of fold.packed. Conditions: the table of math/bits reads as its text lays it. -/
import Derived.Test.YtdddmehchfnppaaDoorMg35
namespace Go.Proofs.YtdddmehchfnppaaDoor
open Go Go.RowKit Go.Proofs Fl

theorem cut_in (v : Value) (n a t : Nat) (l : Nat → Bool) (w : World) (hn : n ≤ 1048576) (hat : a ≤ t) (htn : t ≤ n) (hb : BitsIn w v n l) :
    Calls Tryd.prog 56 #[v, .int .i64 (a : Int), .int .i64 (t : Int)] w fun e w' => ∃ v', e = .returned v' ∧ BitsIn w' v' (t - a) (fun i => l (a + i)) ∧ Below w.heap.size w w' := by
  obtain ⟨b, o, c, rfl, hc⟩ := hb
  refine (cut_any b o c n a t l w hn hat htn hc).mono ?_
  rintro e w1 ⟨g, rfl, hr, hb⟩
  exact ⟨_, rfl, .of_row hr, hb⟩

/-- row o of truths -/
def rowl (l : Nat → Bool) (n o : Nat) : Nat → Bool := fun i => l (o * n + i)
def zB (q : Int) (l : Nat → Bool) (n o : Nat) : Int := (rowB q (rowl l n o) n).getD 0
theorem rowsR_bits (pw : Nat → Nat → Nat × Int) (q : Int) (l : Nat → Bool) (F : Nat → Nat) (outer n o : Nat) (hn : 1 ≤ n) (hb : n ≤ 1048576) (ho : o < outer) (hF : ∀ j, j < outer * n → F j = fi (bI (l j))) (z : Int) (hz : rowB q (rowl l n o) n = some z) :
    rowsR (oneP pw q) F n 1 o = some (fi z) ∧ Good z := by
  have h := row_bits pw q (rowl l n o) n z hz (lineF F n 1 (o / 1) (o % 1)) (fun i hi => by
    unfold lineF rowl
    rw [Nat.div_one, Nat.mod_one, Nat.mul_one, Nat.mul_one, Nat.add_zero]
    refine hF _ ?_
    have : (o + 1) * n ≤ outer * n := Nat.mul_le_mul_right _ ho
    rw [Nat.add_mul] at this
    omega) hn hb
  exact h

set_option maxRecDepth 100000 in
set_option maxHeartbeats 4000000 in
theorem packed_any (pw : Nat → Nat → Nat × Int) (H : Nat → Prop) (q : Int) (hq : knownB q = true) (v : Value) (outer n : Nat) (l : Nat → Bool) (F : Nat → Nat) (w : World) (hH : ∀ b, H b → b < w.heap.size)
    (hn : 1 ≤ n) (hT : outer * n ≤ 1000000) (hob : outer ≤ 1000000) (hb : BitsIn w v (outer * n) l) (hF : ∀ j, j < outer * n → F j = fi (bI (l j))) (ht : TzTab w) :
    Calls Tryd.prog 30 #[.int .i64 q, v, .int .i64 (outer : Int), .int .i64 (n : Int)] w (FwOut H w (oneP pw q) F n 1 outer) := by
  obtain ⟨T, hTT⟩ : ∃ T, T = outer * n := ⟨_, rfl⟩
  rw [← hTT] at hb hT
  have hnb : outer = 0 ∨ n ≤ 1000000 := by
    rcases Nat.eq_zero_or_pos outer with e | e
    · exact .inl e
    · right
      have : 1 * n ≤ outer * n := Nat.mul_le_mul_right _ e
      omega
  have HCUT := Lib.hid (fun W (hw : Below w.heap.size w W) a t (h1 : a ≤ t) (h2 : t ≤ T) => cut_in v T a t l W (by omega) h1 h2 (hb.below hw))
  have HTZ := Lib.hid ht
  have HH := Lib.hid hH
  have HTT := Lib.hid hTT
  have HQ := Lib.hid hq
  have HRB := Lib.hid (fun o (ho : o < outer) (hnb : n ≤ 1048576) z hz => rowsR_bits pw q l F outer n o hn hnb ho hF z hz)
  have hmk := run_make_row' (P := Tryd.prog) 23 2 (.int .i64 0) 8 Tryd.underlying23 info_i64 rfl .i64 .i64 outer (by omega) (by omega)
  obtain ⟨b, o, c, rfl, _⟩ := hb
  clear ht hH hF hq hTT
  have HF0 : Hid (Fill (((w.alloc (.cells #[.slice (some ⟨b, o, none⟩) ((T + 63) / 64) c, .int .i64 (T : Int)] 30)).alloc (.cells zcells 35)).alloc (.cells (madeCells #[.int .i64 0] outer) 2)) (w.heap.size + 2) (w.heap.size + 1 + 1) 2 (fun o => .int .i64 (zB q l n o)) (.int .i64 0) outer 0) := by
    have h := Fill.made ((w.alloc (.cells #[.slice (some ⟨b, o, none⟩) ((T + 63) / 64) c, .int .i64 (T : Int)] 30)).alloc (.cells zcells 35)) (w.heap.size + 2) (by simp) 2 (fun o => .int .i64 (zB q l n o)) (.int .i64 0) outer (by unfold maxLen; omega)
    rw [show ((w.alloc (.cells #[.slice (some ⟨b, o, none⟩) ((T + 63) / 64) c, .int .i64 (T : Int)] 30)).alloc (.cells zcells 35)).heap.size = w.heap.size + 1 + 1 by simp] at h
    exact h
  obtain ⟨W0, eW0⟩ : ∃ W, W = (w.alloc (.cells #[.slice (some ⟨b, o, none⟩) ((T + 63) / 64) c, .int .i64 (T : Int)] 30)).alloc (.cells zcells 35) := ⟨_, rfl⟩
  have HW0 : Hid (W0.heap.size = w.heap.size + 2 ∧ Below w.heap.size w W0 ∧ W0.heap[w.heap.size]? = some (.cells #[.slice (some ⟨b, o, none⟩) ((T + 63) / 64) c, .int .i64 (T : Int)] 30) ∧ W0.heap[w.heap.size + 1]? = some (.cells zcells 35)) := by
    rw [eW0]
    refine ⟨by simp, bel2 w _ _, block_up (bel1 (w.alloc _) _), ?_⟩
    have h := heap_alloc_new (w.alloc (.cells #[.slice (some ⟨b, o, none⟩) ((T + 63) / 64) c, .int .i64 (T : Int)] 30)) (.cells zcells 35)
    rw [show (w.alloc (.cells #[.slice (some ⟨b, o, none⟩) ((T + 63) / 64) c, .int .i64 (T : Int)] 30)).heap.size = w.heap.size + 1 by simp] at h
    exact h
  have HBM : Hid (Below (w.heap.size + 2) W0 (W0.alloc (.cells (madeCells #[.int .i64 0] outer) 2))) := by
    have h := bel1 W0 (.cells (madeCells #[.int .i64 0] outer) 2)
    rw [HW0.out.1] at h
    exact h
  have HEW := Lib.hid eW0
  clear eW0
  go_enter Tryd.func30, Tryd.ntmps30
  go_wp2_with fail
  go_loopw [20] (fun j wr => ∃ m : Nat, m ≤ outer ∧ j = .int .i64 m ∧ Fill wr (w.heap.size + 2) (w.heap.size + 1 + 1) 2 (fun o => .int .i64 (zB q l n o)) (.int .i64 0) outer m ∧ Below (w.heap.size + 2) W0 wr ∧ ∀ j, j < m → ∃ z, rowB q (rowl l n j) n = some z) (fun j _ => outer - (intOf j).toNat)
  case atStart => exact ⟨0, Nat.zero_le _, rfl, HF0.out, by have h := HBM.out; rw [HEW.out] at h ⊢; exact h, fun j hj => absurd hj (Nat.not_lt_zero _)⟩
  case round =>
    clear hmk HF0 HBM HEW
    obtain ⟨m, hm, rfl, hf, hbl, hall⟩ := hrel
    have HF := Lib.hid hf
    have HBL := Lib.hid hbl
    have HALL := Lib.hid hall
    have HBW := Lib.hid (HW0.out.2.1.trans (hbl.mono (by omega)))
    have HKB := Lib.hid (show wr.heap[w.heap.size]? = some (.cells #[.slice (some ⟨b, o, none⟩) ((T + 63) / 64) c, .int .i64 (T : Int)] 30) by rw [hbl.block _ (by omega)]; exact HW0.out.2.2.1)
    have HKV := Lib.hid (show wr.heap[w.heap.size + 1]? = some (.cells zcells 35) by rw [hbl.block _ (by omega)]; exact HW0.out.2.2.2)
    clear hf hbl hall
    by_cases hlt : m < outer
    · have hnb2 : n ≤ 1000000 := by omega
      obtain ⟨A, eA⟩ : ∃ A, A = m * n := ⟨_, rfl⟩
      obtain ⟨B, eB⟩ : ∃ B, B = (m + 1) * n := ⟨_, rfl⟩
      have hBA : B = A + n := by rw [eA, eB, Nat.add_mul, Nat.one_mul]
      have hBT : B ≤ T := by rw [eB, HTT.out]; exact Nat.mul_le_mul_right _ hlt
      have f1 : (m : Int) * (n : Int) = (A : Int) := by rw [eA]; push_cast; rfl
      have f2 : ((m : Int) + 1) * (n : Int) = (B : Int) := by rw [eB]; push_cast; rfl
      have hlt2 : (m : Int) < (outer : Int) := by omega
      have HCT := Lib.hid (HCUT.out wr HBW.out A B (by omega) hBT)
      rw [show B - A = n by omega] at HCT
      have hAT : A ≤ 1000000 := by omega
      have hBb : B ≤ 1000000 := by omega
      have HRL : Hid ((fun i => l (A + i)) = rowl l n m) := by show _ = _; unfold rowl; rw [eA]
      rw [HRL.out] at HCT
      obtain ⟨hk0, hk1, hkf⟩ := pair_of HKB.out
      clear eA eB hBA hBT
      go_wp2_with fail
      refine HCT.out.mono ?_
      rintro e w3 ⟨v3, rfl, hbi, hb3⟩
      have HR3 := Lib.hid (row_any q HQ.out v3 n (rowl l n m) w3 (by omega) hbi (HTZ.out.below (bel_both HBW.out hb3)))
      have HB3 := Lib.hid hb3
      have hz3 : zB q l n m = (rowB q (rowl l n m) n).getD 0 := rfl
      have HRZ := Lib.hid hz3
      clear hb3 hbi hk0 hk1 hkf hz3
      generalize hrr : rowB q (rowl l n m) n = rr at HR3 HRZ
      have HRR := Lib.hid hrr
      clear hrr
      unfold RowB at HR3
      rcases rr with _ | z
      · go_wp2_with fail
        refine HR3.out.mono ?_
        rintro e w4 ⟨rfl, hb4⟩
        have HB4 := Lib.hid (bel_both HBW.out (bel_both HB3.out hb4))
        have HKV4 := Lib.hid (show w4.heap[w.heap.size + 1]? = some (.cells zcells 35) by rw [(bel_both HB3.out hb4).block _ (lt_of_block HKV.out)]; exact HKV.out)
        clear hb4
        obtain ⟨⟨h0, h1, h2, h3, h4, h5, h6, h7⟩, hz⟩ := boxed_of HKV4.out
        go_wp2
        refine bodyPost_ret (v := .tuple #[vecV 0 vnil 0 vnil vnil vnil vnil vnil, .bool false]) ?_ rfl (.inr ⟨rfl, below_set8 HB4.out (Nat.le_succ _) _ _ _ _ _ _ _ _⟩)
        exact ret_vec2 (fn := Tryd.f30) (p := 8) (u := 9) rfl _ _ (w.heap.size + 1) (by rfl) (set8_block HKV4.out _ _ _ _ _ _ _ _)
      · go_wp2_with fail
        refine HR3.out.mono ?_
        rintro e w4 ⟨rfl, hb4⟩
        have HB4 := Lib.hid (bel_both HB3.out hb4)
        have HF4 := Lib.hid (HF.out.below HB4.out)
        have HP4 := Lib.hid (HF4.out.put hlt)
        have HB5 := Lib.hid (HF4.out.bel (HBL.out.trans (HB4.out.mono (Nat.le_trans (by have := HW0.out.1; omega) HBL.out.size))) m (.int .i64 z))
        have hez : zB q l n m = z := HRZ.out
        rw [hez] at HP4
        have hc3 := HF4.out.cell hlt
        have hz3 := HF4.out.frozen m
        clear hb4 hez
        go_wp2
        go_roundw
        case rel => exact ⟨m + 1, by omega, by go_num, HP4.out, HB5.out, fun j hj => by
          by_cases e : j = m
          · rw [e]; exact ⟨z, HRR.out⟩
          · exact HALL.out j (by omega)⟩
        case measure => simp [intOf]; omega
    · obtain rfl : m = outer := by omega
      have hnn : m = 0 ∨ n ≤ 1048576 := by omega
      have HALLN : Hid (∀ cc, cc < m → ∃ z, outZ (oneP pw q) F n 1 cc z ∧ zB q l n cc = z) := fun cc hcc => by
        obtain ⟨z, hz⟩ := HALL.out cc hcc
        exact ⟨z, HRB.out cc hcc (by omega) z hz, by unfold zB; rw [hz]; rfl⟩
      have HGO : Hid (∀ j, j < m → Good (zB q l n j)) := fun j hj => by
        obtain ⟨z, hz, e⟩ := HALLN.out j hj
        rw [e]; exact hz.2
      have HFO : Hid (∀ j, j < m → outF (oneP pw q) F n 1 j = fi (zB q l n j)) := fun j hj => by
        obtain ⟨z, hz, e⟩ := HALLN.out j hj
        rw [e]; exact (outI_of hz).2
      have HI := Lib.hid (ints_any (l := (List.range m).map fun j => zB q l n j) (by rw [List.map_map]; exact HF.out.own.reads) (by simpa using hob) (fun y hy => by
        obtain ⟨j, hj, rfl⟩ := List.mem_map.1 hy
        exact HGO.out j (List.mem_range.1 hj)))
      clear HRB HCUT
      go_wp2_with fail
      refine HI.out.mono ?_
      rintro e w2 ⟨u, rfl, hou, hb2⟩
      rw [List.map_map] at hou
      have HB2 := Lib.hid (bel_both HBW.out hb2)
      have HK2 := Lib.hid (show w2.heap[w.heap.size + 1]? = some (.cells zcells 35) by rw [hb2.block _ (lt_of_block HKV.out)]; exact HKV.out)
      have HU := Lib.hid (hou.lower (show w.heap.size + 2 ≤ wr.heap.size from lt_of_block HKV.out))
      obtain ⟨ua, un, uc, hu⟩ : ∃ a n c, u = .slice a n c := by obtain ⟨a, c, e⟩ := hou.reads.len; exact ⟨a, _, c, e⟩
      subst hu
      clear hb2 hou
      have HB3 := Lib.hid (HB2.out.alloc HB2.out.size (.cells #[.int .i64 3, vnil, .int .i64 0, vnil, .slice ua un uc, vnil, vnil, vnil] 35))
      have HK3 := Lib.hid (show (w2.alloc (.cells #[.int .i64 3, vnil, .int .i64 0, vnil, .slice ua un uc, vnil, vnil, vnil] 35)).heap[w.heap.size + 1]? = some (.cells zcells 35) by rw [Below.heap_alloc _ _ _ (lt_of_block HK2.out)]; exact HK2.out)
      have HKV2 : Hid (Keeps (fun j => H j ∨ j = w.heap.size + 1) (w2.alloc (.cells #[.int .i64 3, vnil, .int .i64 0, vnil, .slice ua un uc, vnil, vnil, vnil] 35)) (NumV (vecW 3 (none, 0, 0) 0 (none, 0, 0) (ua, un, uc) (none, 0, 0) (none, 0, 0) (none, 0, 0)) 3 m (outF (oneP pw q) F n 1))) :=
        ((HU.out.keepsH (fun j e => by rcases e with e | e; have := HH.out j e; omega; omega)).imp fun W' h2 => (numV_ints ⟨⟨_, rfl, h2⟩, HGO.out⟩).congr HFO.out).step (bel1 w2 _)
      have HS3 := Lib.hid (squeeze_num (fun j => H j ∨ j = w.heap.size + 1) 3 (none, 0, 0) 0 (none, 0, 0) (ua, un, uc) (none, 0, 0) (none, 0, 0) (none, 0, 0) m (outF (oneP pw q) F n 1) _ (fun j e => by
        have h1 := HB3.out.size
        have h2 := lt_of_block HK3.out
        rcases e with e | e
        · have := HH.out j e; omega
        · omega) hob HKV2.out)
      go_wp2_with fail
      refine HS3.out.mono ?_
      rintro e w4 ⟨k4, b4, bn4, s4, i4, f4, c4, x4, rfl, hk4, hb4⟩
      have HB4 := Lib.hid (bel_both HB3.out hb4)
      have HK4 := Lib.hid (show w4.heap[w.heap.size + 1]? = some (.cells zcells 35) by rw [hb4.block _ (lt_of_block HK3.out)]; exact HK3.out)
      have HKE := Lib.hid hk4
      clear hb4 hk4
      obtain ⟨⟨h0, h1, h2, h3, h4, h5, h6, h7⟩, hz⟩ := boxed_of HK4.out
      go_wp2
      refine bodyPost_ret (v := .tuple #[vecW k4 b4 bn4 s4 i4 f4 c4 x4, .bool true]) ?_ rfl (.inl ⟨fun cc hcc => by obtain ⟨z, hz, _⟩ := HALLN.out cc hcc; exact ⟨_, hz.1⟩, k4, b4, bn4, s4, i4, f4, c4, x4, rfl, (HKE.out.set8 (.inr rfl) _ _ _ _ _ _ _ _).sub (fun _ _ e => .inl e), below_set8 HB4.out (Nat.le_succ _) _ _ _ _ _ _ _ _⟩)
      exact ret_vec2 (fn := Tryd.f30) (p := 8) (u := 9) rfl _ _ (w.heap.size + 1) (by rfl) (set8_block HK4.out _ _ _ _ _ _ _ _)
end Go.Proofs.YtdddmehchfnppaaDoor
