/- Merged texts. The walk of flat.Join at packed truths, and at nothing. Conditions: as each theorem says. The walk of scan.packed at plus. Conditions: as each theorem says. The walk of scan.packed at any function but plus. Conditions: the table of math/bits reads as its text lays it. The walk of scan.packed at any function. Conditions: the table of math/bits reads as its text lays it. -/
import Derived.Test.YtdddmehchfnppaaGreatDoorMg44
import Derived.Test.YtdddmehchfnppaaGreatDoorMg42
namespace Go.Proofs.YtdddmehchfnppaaGreatDoor
open Go Go.RowKit Go.Proofs Fl

set_option maxRecDepth 100000 in
set_option maxHeartbeats 1000000 in
theorem join_bits (g m c n T : Nat) (hT : T = m * n) (L : Nat → Nat → Bool) (S : Nat → Sl) (w : World) (hm1 : 1 ≤ m) (hn1 : 1 ≤ n) (hm : m ≤ 1000) (hn : n ≤ 1000) (hr : VBits w g m n L S) :
    Calls Tryz.prog 69 #[.slice (some ⟨g, 0, none⟩) m c] w fun e w' => ∃ g' M, M = (T + 63) / 64 ∧ e = .returned (.tuple #[vecV 1 (.slice (some ⟨g', 0, none⟩) M M) (T : Int) vnil vnil vnil vnil vnil, .bool true]) ∧ RowU w' w.heap.size g' M (packW (rowsB L n) T) ∧ Below w.heap.size w w' := by
  have HR := Lib.hid hr
  have HT := Lib.hid hT
  clear hr hT
  have HK0 := Lib.hid (heap_alloc_new w (.cells zcells 32))
  have HB0 := Lib.hid (bel1 w (.cells zcells 32))
  go_enter Tryz.func69, Tryz.ntmps69
  go_wp2_with fail
  go_loopw [4, 5, 6, 11] (fun cc kk nn jj wr => ∃ j : Nat, ∃ (p : Nat) (q : Int), j ≤ m ∧ jj = .int .i64 j ∧ kk = .int .i64 1 ∧ nn = .int .i64 p ∧ cc = .int .i64 q ∧ Hid (p = j * n) ∧ Hid ((j = 0 ∧ q = -1) ∨ (1 ≤ j ∧ q = 0)) ∧ Below w.heap.size w wr ∧ wr.heap[w.heap.size]? = some (.cells zcells 32)) (fun _ _ _ jj _ => m - (intOf jj).toNat)
  case atStart => exact ⟨0, 0, -1, Nat.zero_le _, rfl, rfl, rfl, rfl, (Nat.zero_mul n).symm, .inl ⟨rfl, rfl⟩, HB0.out, HK0.out⟩
  case round =>
    clear HB0 HK0
    obtain ⟨j, p, q, hj, rfl, rfl, rfl, rfl, hp, hq, hbl, hk⟩ := hrel
    have HBL := Lib.hid hbl
    have HK := Lib.hid hk
    clear hbl hk
    by_cases hlt : j < m
    · obtain ⟨c0, c1, c2, c3, c4, c5, c6, c7, _⟩ := HR.out.below HBL.out j hlt
      have hn0 : ((n : Int) == 0) = false := by simp; omega
      have HPN : Hid (p + n = (j + 1) * n) := by show _ = _; rw [hp.out, Nat.add_mul, Nat.one_mul]
      have hpb : p ≤ 1000000 := by
        rw [hp.out]
        have : j * n ≤ 1000 * 1000 := Nat.mul_le_mul (by omega) hn
        omega
      have hmx : max (1 : Int) 1 = 1 := by decide
      go_wp2_with fail
      refine (len_1 _ _ _ _ _ _ _ _).mono ?_
      rintro e w2 ⟨rfl, hb2⟩
      have HB2 := Lib.hid (bel_both (bel1 wr _) hb2)
      have HX2 := Lib.hid ((boxed_new wr 32 1 (.slice (S j).1 (S j).2.1 (S j).2.2) n vnil vnil vnil vnil vnil).below hb2)
      clear hb2 c0 c1 c2 c3 c4 c5 c6 c7
      obtain ⟨h0, h1, h2, h3, h4, h5, h6, h7⟩ := HX2.out
      rcases hq.out with ⟨e0, rfl⟩ | ⟨e1, rfl⟩
      · clear e0
        go_wp2_with fail
        refine (class_1 _ _ _ _ _ _ _ _).mono ?_
        rintro e w3 ⟨rfl, hb3⟩
        have HB3 := Lib.hid (bel_both HB2.out hb3)
        have HX3 := Lib.hid (HX2.out.below hb3)
        clear hb3 h0 h1 h2 h3 h4 h5 h6 h7 HX2 HB2
        obtain ⟨h0, h1, h2, h3, h4, h5, h6, h7⟩ := HX3.out
        go_wp2_with fail
        refine (kind_any _ _ _ _ _ _ _ _ _).mono ?_
        rintro e w4 ⟨rfl, hb4⟩
        have HB4 := Lib.hid (bel_both HB3.out hb4)
        have HX4 := Lib.hid (HX3.out.below hb4)
        clear hb4 h0 h1 h2 h3 h4 h5 h6 h7 HX3 HB3
        obtain ⟨h0, h1, h2, h3, h4, h5, h6, h7⟩ := HX4.out
        go_wp2_with fail
        refine (len_1 _ _ _ _ _ _ _ _).mono ?_
        rintro e w5 ⟨rfl, hb5⟩
        have HB5 := Lib.hid (bel_both HB4.out hb5)
        have HX5 := Lib.hid (HX4.out.below hb5)
        clear hb5 h0 h1 h2 h3 h4 h5 h6 h7 HX4 HB4
        obtain ⟨h0, h1, h2, h3, h4, h5, h6, h7⟩ := HX5.out
        have HBL2 := Lib.hid (bel_both HBL.out HB5.out)
        have HK2 := Lib.hid ((HB5.out.block _ (lt_of_block HK.out)).trans HK.out)
        go_wp2
        go_roundw
        case rel => exact ⟨j + 1, p + n, 0, by omega, by go_num, rfl, by go_num, rfl, HPN.out, .inr ⟨Nat.le_add_left _ _, rfl⟩, HBL2.out, HK2.out⟩
        case measure => simp [intOf]; omega
      · clear e1
        go_wp2_with fail
        refine (class_1 _ _ _ _ _ _ _ _).mono ?_
        rintro e w3 ⟨rfl, hb3⟩
        have HB3 := Lib.hid (bel_both HB2.out hb3)
        have HX3 := Lib.hid (HX2.out.below hb3)
        clear hb3 h0 h1 h2 h3 h4 h5 h6 h7 HX2 HB2
        obtain ⟨h0, h1, h2, h3, h4, h5, h6, h7⟩ := HX3.out
        go_wp2_with fail
        refine (class_1 _ _ _ _ _ _ _ _).mono ?_
        rintro e w4 ⟨rfl, hb4⟩
        have HB4 := Lib.hid (bel_both HB3.out hb4)
        have HX4 := Lib.hid (HX3.out.below hb4)
        clear hb4 h0 h1 h2 h3 h4 h5 h6 h7 HX3 HB3
        obtain ⟨h0, h1, h2, h3, h4, h5, h6, h7⟩ := HX4.out
        go_wp2_with fail
        refine (kind_any _ _ _ _ _ _ _ _ _).mono ?_
        rintro e w5 ⟨rfl, hb5⟩
        have HB5 := Lib.hid (bel_both HB4.out hb5)
        have HX5 := Lib.hid (HX4.out.below hb5)
        clear hb5 h0 h1 h2 h3 h4 h5 h6 h7 HX4 HB4
        obtain ⟨h0, h1, h2, h3, h4, h5, h6, h7⟩ := HX5.out
        go_wp2_with fail
        refine (len_1 _ _ _ _ _ _ _ _).mono ?_
        rintro e w6 ⟨rfl, hb6⟩
        have HB6 := Lib.hid (bel_both HB5.out hb6)
        have HX6 := Lib.hid (HX5.out.below hb6)
        clear hb6 h0 h1 h2 h3 h4 h5 h6 h7 HX5 HB5
        obtain ⟨h0, h1, h2, h3, h4, h5, h6, h7⟩ := HX6.out
        have HBL2 := Lib.hid (bel_both HBL.out HB6.out)
        have HK2 := Lib.hid ((HB6.out.block _ (lt_of_block HK.out)).trans HK.out)
        go_wp2
        go_roundw
        case rel => exact ⟨j + 1, p + n, 0, by omega, by go_num, rfl, by go_num, rfl, HPN.out, .inr ⟨Nat.le_add_left _ _, rfl⟩, HBL2.out, HK2.out⟩
        case measure => simp [intOf]; omega
    · obtain rfl : j = m := by omega
      have hpb : p ≤ 1000000 := by
        rw [hp.out]
        have : j * n ≤ 1000 * 1000 := Nat.mul_le_mul hm hn
        omega
      obtain rfl : q = 0 := by
        rcases hq.out with ⟨e0, _⟩ | ⟨_, e1⟩
        · omega
        · exact e1
      have HJ := Lib.hid (joined_bits g j c n T HT.out L S wr hm1 hn1 hm hn (HR.out.below HBL.out))
      clear hq
      go_wp2_with fail
      refine HJ.out.mono ?_
      rintro e w2 ⟨g2, M, hM, rfl, hr2, hb2⟩
      have HM := Lib.hid hM
      have HB2 := Lib.hid (bel_both HBL.out hb2)
      have HR2 := Lib.hid (hr2.lower (show w.heap.size ≤ wr.heap.size from HBL.out.size))
      have hg2 := hr2.low.1
      have hkw := lt_of_block HK.out
      have HK2 := Lib.hid (show w2.heap[w.heap.size]? = some (.cells zcells 32) by rw [hb2.block _ hkw]; exact HK.out)
      clear hb2 hr2 hM
      obtain ⟨⟨h0, h1, h2, h3, h4, h5, h6, h7⟩, hz⟩ := boxed_of HK2.out
      go_wp2
      refine bodyPost_ret (v := .tuple #[vecV 1 (.slice (some ⟨g2, 0, none⟩) M M) (T : Int) vnil vnil vnil vnil vnil, .bool true]) ?_ rfl ⟨g2, M, HM.out, rfl, ?_, below_set8 HB2.out (Nat.le_refl _) _ _ _ _ _ _ _ _⟩
      · exact ret_vec2 (fn := Tryz.f69) (p := 2) (u := 3) rfl _ _ w.heap.size (by rfl) (set8_block HK2.out _ _ _ _ _ _ _ _)
      · exact own_set8 HR2.out (by show some g2 ≠ _; intro e; injection e; omega) _ _ _ _ _ _ _ _

set_option maxHeartbeats 400000 in
theorem none_num (w : World) : Calls Tryz.prog 113 #[.int .i64 0] w fun e w' => e = .returned (vecV 1 vnil 0 vnil vnil vnil vnil vnil) ∧ Below w.heap.size w w' := by
  have HK := Lib.hid (heap_alloc_new w (.cells zcells 32))
  go_enter Tryz.func113, Tryz.ntmps113
  go_wp2_with fail
  refine (vbits_any none 0 0 0 _).mono ?_
  rintro e w2 ⟨rfl, hb2⟩
  have HB2 := Lib.hid (bel_both (bel1 w _) hb2)
  have HK2 := Lib.hid (show w2.heap[w.heap.size]? = some (.cells zcells 32) by rw [hb2.block _ (lt_of_block HK.out)]; exact HK.out)
  clear hb2 HK
  obtain ⟨⟨h0, h1, h2, h3, h4, h5, h6, h7⟩, hz⟩ := boxed_of HK2.out
  go_wp2
  exact bodyPost_ret (ret_vec rfl _ _ _ rfl (set8_block HK2.out _ _ _ _ _ _ _ _)) rfl ⟨rfl, below_set8 HB2.out (Nat.le_refl _) _ _ _ _ _ _ _ _⟩

set_option maxHeartbeats 400000 in
theorem join_none (a : Option Addr) (c : Nat) (w : World) : Calls Tryz.prog 69 #[.slice a 0 c] w fun e w' => e = .returned (.tuple #[vecV 1 vnil 0 vnil vnil vnil vnil vnil, .bool true]) ∧ Below w.heap.size w w' := by
  have HK := Lib.hid (heap_alloc_new w (.cells zcells 32))
  go_enter Tryz.func69, Tryz.ntmps69
  go_wp2_with fail
  go_loopw [4, 11] (fun cc jj wr => cc = .int .i64 (-1) ∧ jj = .int .i64 0 ∧ wr = w.alloc (.cells zcells 32)) (fun _ _ _ => 0)
  case atStart => exact ⟨rfl, rfl, rfl⟩
  case round =>
    obtain ⟨rfl, rfl, rfl⟩ := hrel
    go_wp2_with fail
    refine (none_num _).mono ?_
    rintro e w2 ⟨rfl, hb2⟩
    have HB2 := Lib.hid (bel_both (bel1 w _) hb2)
    have HK2 := Lib.hid (show w2.heap[w.heap.size]? = some (.cells zcells 32) by rw [hb2.block _ (lt_of_block HK.out)]; exact HK.out)
    clear hb2 HK
    obtain ⟨⟨h0, h1, h2, h3, h4, h5, h6, h7⟩, hz⟩ := boxed_of HK2.out
    go_wp2
    refine bodyPost_ret (v := .tuple #[vecV 1 vnil 0 vnil vnil vnil vnil vnil, .bool true]) ?_ rfl ⟨rfl, below_set8 HB2.out (Nat.le_refl _) _ _ _ _ _ _ _ _⟩
    exact ret_vec2 (fn := Tryz.f69) (p := 2) (u := 3) rfl _ _ w.heap.size (by rfl) (set8_block HK2.out _ _ _ _ _ _ _ _)
end Go.Proofs.YtdddmehchfnppaaGreatDoor
namespace Go.Proofs.YtdddmehchfnppaaGreatDoor
open Go Go.RowKit Go.Proofs Fl

set_option maxRecDepth 100000 in
set_option maxHeartbeats 400000 in
theorem spacked_addV (pw : Nat → Nat → Nat × Int) (H : Nat → Prop) (v : Value) (outer n T : Nat) (l : Nat → Bool) (X : Nat → Nat) (w : World) (hH : ∀ b, H b → b < w.heap.size)
    (hT : T = outer * n) (hb1 : outer ≤ 1000) (hb2 : n ≤ 1000) (hbT : T ≤ 1000000) (hb : BitsIn w v T l) (hX : ∀ j, j < T → X j = fi (bI (l j))) :
    Calls Tryz.prog 33 #[.int .i64 1, v, .int .i64 (outer : Int), .int .i64 (n : Int)] w fun e w' => (∀ c, c < T → ∃ y, scanR (oneP pw 1) X n 1 c = some y) ∧ Vec2R H w (fun u W => NumV u (leastF (getR (scanR (oneP pw 1) X n 1)) T : Nat) T (getR (scanR (oneP pw 1) X n 1)) W) e w' := by
  have hbin := hb
  obtain ⟨b, o, c, rfl, _⟩ := hb
  have HB0 := Lib.hid (bel2 w (.cells #[.slice (some ⟨b, o, none⟩) ((T + 63) / 64) c, .int .i64 (T : Int)] 26) (.cells zcells 32))
  have HK0 := Lib.hid (block_up (bel1 (w.alloc (.cells #[.slice (some ⟨b, o, none⟩) ((T + 63) / 64) c, .int .i64 (T : Int)] 26)) (.cells zcells 32)))
  have hsz : (w.alloc (.cells #[.slice (some ⟨b, o, none⟩) ((T + 63) / 64) c, .int .i64 (T : Int)] 26)).heap.size = w.heap.size + 1 := by simp
  have HK1 : Hid (((w.alloc (.cells #[.slice (some ⟨b, o, none⟩) ((T + 63) / 64) c, .int .i64 (T : Int)] 26)).alloc (.cells zcells 32)).heap[w.heap.size + 1]? = some (.cells zcells 32)) := by
    have h := heap_alloc_new (w.alloc (.cells #[.slice (some ⟨b, o, none⟩) ((T + 63) / 64) c, .int .i64 (T : Int)] 26)) (.cells zcells 32)
    rw [hsz] at h
    exact h
  have hlt : w.heap.size + 1 < ((w.alloc (.cells #[.slice (some ⟨b, o, none⟩) ((T + 63) / 64) c, .int .i64 (T : Int)] 26)).alloc (.cells zcells 32)).heap.size := lt_of_block HK1.out
  have HCN := Lib.hid (scounts_any pw (fun j => H j ∨ j = w.heap.size + 1) _ outer n T l X _ (fun j e => by
    rcases e with e | e
    · exact Nat.lt_trans (hH j e) (Nat.lt_trans (Nat.lt_succ_self _) hlt)
    · rw [e]; exact hlt) hT hb1 hb2 hbT (hbin.below HB0.out) hX)
  obtain ⟨r, hr⟩ : ∃ r, r = scanR (oneP pw 1) X n 1 := ⟨_, rfl⟩
  have HAL : Hid (∀ j, j < T → ∃ y, r j = some y) := fun j hj => by
    rw [hr]
    exact ⟨_, (cZ_scan pw l X outer n (by omega) (by rw [← hT]; exact hX) j (by rw [← hT]; exact hj)).1⟩
  rw [← hr] at HCN ⊢
  clear hbin hr hT hX hH hsz hlt
  go_enter Tryz.func33, Tryz.ntmps33
  obtain ⟨p0, p1, pf⟩ := pair_of HK0.out
  go_wp2_with fail
  refine HCN.out.mono ?_
  rintro e w6 ⟨k4, b4, bn4, s4, i4, f4, c4, x4, rfl, hk4, hb4⟩
  have HB4 := Lib.hid (bel_both HB0.out hb4)
  have HK4 := Lib.hid (show w6.heap[w.heap.size + 1]? = some (.cells zcells 32) by rw [hb4.block _ (lt_of_block HK1.out)]; exact HK1.out)
  have HKE := Lib.hid hk4
  clear hb4 hk4 p0 p1 pf HB0 HK0 HK1 HCN
  obtain ⟨⟨h0, h1, h2, h3, h4, h5, h6, h7⟩, hz⟩ := boxed_of HK4.out
  go_wp2
  refine bodyPost_ret (v := .tuple #[vecW k4 b4 bn4 s4 i4 f4 c4 x4, .bool true]) ?_ rfl ⟨HAL.out, k4, b4, bn4, s4, i4, f4, c4, x4, rfl, (HKE.out.set8 (.inr rfl) _ _ _ _ _ _ _ _).sub (fun _ _ e => .inl e), below_set8 HB4.out (Nat.le_succ _) _ _ _ _ _ _ _ _⟩
  exact ret_vec2 (fn := Tryz.f33) (p := 8) (u := 9) rfl _ _ (w.heap.size + 1) (by rfl) (set8_block HK4.out _ _ _ _ _ _ _ _)
theorem spacked_add (pw : Nat → Nat → Nat × Int) (H : Nat → Prop) (v : Value) (outer n T : Nat) (l : Nat → Bool) (X : Nat → Nat) (w : World) (hH : ∀ b, H b → b < w.heap.size)
    (hT : T = outer * n) (hb1 : outer ≤ 1000) (hb2 : n ≤ 1000) (hbT : T ≤ 1000000) (hb : BitsIn w v T l) (hX : ∀ j, j < T → X j = fi (bI (l j))) :
    Calls Tryz.prog 33 #[.int .i64 1, v, .int .i64 (outer : Int), .int .i64 (n : Int)] w (SwOut H w (scanR (oneP pw 1) X n 1) T) :=
  (spacked_addV pw H v outer n T l X w hH hT hb1 hb2 hbT hb hX).mono fun _ _ h => .inl h
end Go.Proofs.YtdddmehchfnppaaGreatDoor
namespace Go.Proofs.YtdddmehchfnppaaGreatDoor
open Go Go.RowKit Go.Proofs Fl

theorem info_vec : (Tryz.prog.info? 32).map (fun i => (i.zero, i.size, i.bytes)) = some (some (.agg zcells), 8, 160) := by kernel_rfl
theorem run_make_vecs (n : Nat) (hn : n ≤ 1000000) (w : World) :
    (Instr.makeSlice 91 (.int .i64 (n : Int)) (.int .i64 (n : Int))).run Tryz.prog w = .ok (.slice (some ⟨w.heap.size, 0, none⟩) n n) (w.alloc (.cells (madeCells zcells (n * 8)) 32)) := by
  obtain ⟨i0, hi0, hz0, hz1, hz2⟩ := info_parts info_vec
  have hr := run_make (P := Tryz.prog) w 91 32 i0 _ Tryz.underlying91 hi0 hz0 .i64 .i64 (n : Int) (n : Int) (by omega) (Int.le_refl _) (by rw [hz2]; omega) (by omega)
  rw [hz1] at hr
  simp only [Int.toNat_natCast] at hr
  exact hr

/-- a Vec in an array of cells -/
def VIs (cs : Array Value) (j : Nat) (k : Int) (s : Sl) (n : Int) : Prop :=
  cs[j * 8]? = some (.int .i64 k) ∧ cs[j * 8 + 1]? = some (.slice s.1 s.2.1 s.2.2) ∧ cs[j * 8 + 2]? = some (.int .i64 n) ∧ cs[j * 8 + 3]? = some vnil ∧ cs[j * 8 + 4]? = some vnil ∧ cs[j * 8 + 5]? = some vnil ∧ cs[j * 8 + 6]? = some vnil ∧ cs[j * 8 + 7]? = some vnil
/-- a row of m Vecs of which the first i are filled with packed truths -/
def VFill (w : World) (g m n i : Nat) (S : Nat → Sl) : Prop :=
  ∃ cs, w.heap[g]? = some (.cells cs 32) ∧ cs.size = m * 8 ∧ (∀ j, j < i → VIs cs j 1 (S j) n) ∧ ∀ j, i ≤ j → j < m → VIs cs j 0 (none, 0, 0) 0
theorem made_at (m j k : Nat) (hj : j < m) (hk : k < 8) : (madeCells zcells (m * 8))[j * 8 + k]? = zcells[k]? := by
  have h1 : j * 8 + k < m * 8 := by omega
  have h2 : (j * 8 + k) % 8 = k := by omega
  have h3 : zcells.size = 8 := rfl
  simp [madeCells, h1, h3, h2]
  match k, hk with
  | 0, _ => rfl
  | 1, _ => rfl
  | 2, _ => rfl
  | 3, _ => rfl
  | 4, _ => rfl
  | 5, _ => rfl
  | 6, _ => rfl
  | 7, _ => rfl
theorem VFill.made (w : World) (m n : Nat) (S : Nat → Sl) : VFill (w.alloc (.cells (madeCells zcells (m * 8)) 32)) w.heap.size m n 0 S := by
  refine ⟨_, heap_alloc_new w _, size_madeCells _ _, fun j hj => absurd hj (Nat.not_lt_zero _), fun j _ hj => ?_⟩
  have h := fun k hk => made_at m j k hj hk
  exact ⟨h 0 (by omega), h 1 (by omega), h 2 (by omega), h 3 (by omega), h 4 (by omega), h 5 (by omega), h 6 (by omega), h 7 (by omega)⟩
/-- eight cells of a block written -/
abbrev set8o (w : World) (G o : Nat) (a0 a1 a2 a3 a4 a5 a6 a7 : Value) : World :=
  (((((((w.setCell ⟨G, o, none⟩ a0).setCell ⟨G, o + 1, none⟩ a1).setCell ⟨G, o + 2, none⟩ a2).setCell ⟨G, o + 3, none⟩ a3).setCell ⟨G, o + 4, none⟩ a4).setCell ⟨G, o + 5, none⟩ a5).setCell ⟨G, o + 6, none⟩ a6).setCell ⟨G, o + 7, none⟩ a7
abbrev arr8 (cs : Array Value) (o : Nat) (a0 a1 a2 a3 a4 a5 a6 a7 : Value) : Array Value :=
  (((((((cs.setIfInBounds o a0).setIfInBounds (o + 1) a1).setIfInBounds (o + 2) a2).setIfInBounds (o + 3) a3).setIfInBounds (o + 4) a4).setIfInBounds (o + 5) a5).setIfInBounds (o + 6) a6).setIfInBounds (o + 7) a7
theorem set8o_block {w : World} {G o : Nat} {cs : Array Value} {e : TypeId} (h : w.heap[G]? = some (.cells cs e)) (a0 a1 a2 a3 a4 a5 a6 a7 : Value) :
    (set8o w G o a0 a1 a2 a3 a4 a5 a6 a7).heap[G]? = some (.cells (arr8 cs o a0 a1 a2 a3 a4 a5 a6 a7) e) :=
  heap_setCell_same _ G (o + 7) _ e a7 (heap_setCell_same _ G (o + 6) _ e a6 (heap_setCell_same _ G (o + 5) _ e a5 (heap_setCell_same _ G (o + 4) _ e a4 (heap_setCell_same _ G (o + 3) _ e a3 (heap_setCell_same _ G (o + 2) _ e a2 (heap_setCell_same _ G (o + 1) _ e a1 (heap_setCell_same _ G o _ e a0 h)))))))
theorem arr8_size (cs : Array Value) (o : Nat) (a0 a1 a2 a3 a4 a5 a6 a7 : Value) : (arr8 cs o a0 a1 a2 a3 a4 a5 a6 a7).size = cs.size := by simp
theorem arr8_off (cs : Array Value) (o p : Nat) (h : p < o ∨ o + 8 ≤ p) (a0 a1 a2 a3 a4 a5 a6 a7 : Value) : (arr8 cs o a0 a1 a2 a3 a4 a5 a6 a7)[p]? = cs[p]? := by
  rw [Array.getElem?_setIfInBounds_ne (by omega), Array.getElem?_setIfInBounds_ne (by omega), Array.getElem?_setIfInBounds_ne (by omega), Array.getElem?_setIfInBounds_ne (by omega), Array.getElem?_setIfInBounds_ne (by omega), Array.getElem?_setIfInBounds_ne (by omega), Array.getElem?_setIfInBounds_ne (by omega), Array.getElem?_setIfInBounds_ne (by omega)]
theorem arr8_on (cs : Array Value) (o : Nat) (h : o + 8 ≤ cs.size) (a0 a1 a2 a3 a4 a5 a6 a7 : Value) :
    (arr8 cs o a0 a1 a2 a3 a4 a5 a6 a7)[o]? = some a0 ∧ (arr8 cs o a0 a1 a2 a3 a4 a5 a6 a7)[o + 1]? = some a1 ∧ (arr8 cs o a0 a1 a2 a3 a4 a5 a6 a7)[o + 2]? = some a2 ∧ (arr8 cs o a0 a1 a2 a3 a4 a5 a6 a7)[o + 3]? = some a3 ∧
    (arr8 cs o a0 a1 a2 a3 a4 a5 a6 a7)[o + 4]? = some a4 ∧ (arr8 cs o a0 a1 a2 a3 a4 a5 a6 a7)[o + 5]? = some a5 ∧ (arr8 cs o a0 a1 a2 a3 a4 a5 a6 a7)[o + 6]? = some a6 ∧ (arr8 cs o a0 a1 a2 a3 a4 a5 a6 a7)[o + 7]? = some a7 := by
  refine ⟨?_, ?_, ?_, ?_, ?_, ?_, ?_, ?_⟩ <;>
  · repeat rw [Array.getElem?_setIfInBounds_ne (by omega)]
    exact Array.getElem?_setIfInBounds_self_of_lt (by first | omega | (simp; omega))
theorem VFill.put {w : World} {g m n i : Nat} {S : Nat → Sl} (h : VFill w g m n i S) (hi : i < m) {S' : Nat → Sl} (hS : ∀ j, j < i → S' j = S j) :
    VFill (set8o w g (i * 8) (.int .i64 1) (.slice (S' i).1 (S' i).2.1 (S' i).2.2) (.int .i64 n) vnil vnil vnil vnil vnil) g m n (i + 1) S' := by
  obtain ⟨cs, hg, hs, h1, h2⟩ := h
  refine ⟨_, set8o_block hg _ _ _ _ _ _ _ _, by rw [arr8_size]; exact hs, fun j hj => ?_, fun j hj hjm => ?_⟩
  · by_cases e : j = i
    · subst e
      exact arr8_on cs (j * 8) (by omega) _ _ _ _ _ _ _ _
    · obtain ⟨c0, c1, c2, c3, c4, c5, c6, c7⟩ := h1 j (by omega)
      unfold VIs
      rw [hS j (by omega), arr8_off _ _ _ (by omega), arr8_off _ _ _ (by omega), arr8_off _ _ _ (by omega), arr8_off _ _ _ (by omega), arr8_off _ _ _ (by omega), arr8_off _ _ _ (by omega), arr8_off _ _ _ (by omega), arr8_off _ _ _ (by omega)]
      exact ⟨c0, c1, c2, c3, c4, c5, c6, c7⟩
  · obtain ⟨c0, c1, c2, c3, c4, c5, c6, c7⟩ := h2 j (by omega) hjm
    unfold VIs
    rw [arr8_off _ _ _ (by omega), arr8_off _ _ _ (by omega), arr8_off _ _ _ (by omega), arr8_off _ _ _ (by omega), arr8_off _ _ _ (by omega), arr8_off _ _ _ (by omega), arr8_off _ _ _ (by omega), arr8_off _ _ _ (by omega)]
    exact ⟨c0, c1, c2, c3, c4, c5, c6, c7⟩
theorem VFill.below {w w' : World} {g m n i : Nat} {S : Nat → Sl} (h : VFill w g m n i S) (hb : Below w.heap.size w w') : VFill w' g m n i S := by
  obtain ⟨cs, hg, r⟩ := h
  exact ⟨cs, by rw [hb.block _ (lt_of_block hg)]; exact hg, r⟩
theorem VFill.lt {w : World} {g m n i : Nat} {S : Nat → Sl} (h : VFill w g m n i S) : g < w.heap.size := by
  obtain ⟨cs, hg, _⟩ := h
  exact lt_of_block hg
/-- the cells of the place that is filled next -/
theorem VFill.open {w : World} {g m n i : Nat} {S : Nat → Sl} (h : VFill w g m n i S) (hi : i < m) :
    w.cell? ⟨g, i * 8, none⟩ = some (.int .i64 0) ∧ w.cell? ⟨g, i * 8 + 1, none⟩ = some vnil ∧ w.cell? ⟨g, i * 8 + 2, none⟩ = some (.int .i64 0) ∧ w.cell? ⟨g, i * 8 + 3, none⟩ = some vnil ∧
    w.cell? ⟨g, i * 8 + 4, none⟩ = some vnil ∧ w.cell? ⟨g, i * 8 + 5, none⟩ = some vnil ∧ w.cell? ⟨g, i * 8 + 6, none⟩ = some vnil ∧ w.cell? ⟨g, i * 8 + 7, none⟩ = some vnil ∧ ∀ p, w.frozen? ⟨g, p, none⟩ = false := by
  obtain ⟨cs, hg, hs, _, h2⟩ := h
  obtain ⟨c0, c1, c2, c3, c4, c5, c6, c7⟩ := h2 i (Nat.le_refl _) hi
  exact ⟨by rw [cell_of_row _ g _ _ _ (0, 0) hg]; exact c0, by rw [cell_of_row _ g _ _ _ (0, 0) hg]; exact c1, by rw [cell_of_row _ g _ _ _ (0, 0) hg]; exact c2, by rw [cell_of_row _ g _ _ _ (0, 0) hg]; exact c3,
    by rw [cell_of_row _ g _ _ _ (0, 0) hg]; exact c4, by rw [cell_of_row _ g _ _ _ (0, 0) hg]; exact c5, by rw [cell_of_row _ g _ _ _ (0, 0) hg]; exact c6, by rw [cell_of_row _ g _ _ _ (0, 0) hg]; exact c7, fun p => frozen_of_row _ _ p _ _ hg⟩
theorem VFill.bits {w : World} {g m n : Nat} {S : Nat → Sl} {L : Nat → Nat → Bool} (h : VFill w g m n m S) (hb : ∀ j, j < m → BitsIn w (.agg #[.slice (S j).1 (S j).2.1 (S j).2.2, .int .i64 (n : Int)]) n (L j)) : VBits w g m n L S := by
  obtain ⟨cs, hg, hs, h1, _⟩ := h
  intro j hj
  obtain ⟨c0, c1, c2, c3, c4, c5, c6, c7⟩ := h1 j hj
  exact ⟨by rw [cell_of_row _ g _ _ _ (0, 0) hg]; exact c0, by rw [cell_of_row _ g _ _ _ (0, 0) hg]; exact c1, by rw [cell_of_row _ g _ _ _ (0, 0) hg]; exact c2, by rw [cell_of_row _ g _ _ _ (0, 0) hg]; exact c3,
    by rw [cell_of_row _ g _ _ _ (0, 0) hg]; exact c4, by rw [cell_of_row _ g _ _ _ (0, 0) hg]; exact c5, by rw [cell_of_row _ g _ _ _ (0, 0) hg]; exact c6, by rw [cell_of_row _ g _ _ _ (0, 0) hg]; exact c7, hb j hj⟩
theorem below_set8o {B : Nat} {w0 w : World} (h : Below B w0 w) {G : Nat} (hG : B ≤ G) (o : Nat) (a0 a1 a2 a3 a4 a5 a6 a7 : Value) : Below B w0 (set8o w G o a0 a1 a2 a3 a4 a5 a6 a7) :=
  (((((((h.setCell hG _).setCell hG _).setCell hG _).setCell hG _).setCell hG _).setCell hG _).setCell hG _).setCell hG _
theorem block_set8o {w : World} {G k : Nat} (hk : k ≠ G) (o : Nat) (a0 a1 a2 a3 a4 a5 a6 a7 : Value) : (set8o w G o a0 a1 a2 a3 a4 a5 a6 a7).heap[k]? = w.heap[k]? := by
  unfold set8o
  rw [Below.heap_setCell _ _ _ _ hk, Below.heap_setCell _ _ _ _ hk, Below.heap_setCell _ _ _ _ hk, Below.heap_setCell _ _ _ _ hk, Below.heap_setCell _ _ _ _ hk, Below.heap_setCell _ _ _ _ hk, Below.heap_setCell _ _ _ _ hk, Below.heap_setCell _ _ _ _ hk]
theorem own_set8o {w : World} {B : Nat} {e : TypeId} {v : Value} {xs : List Value} (h : Own1 w B e v xs) {G : Nat} (hG : v.ownBlock ≠ some G) (o : Nat) (a0 a1 a2 a3 a4 a5 a6 a7 : Value) : Own1 (set8o w G o a0 a1 a2 a3 a4 a5 a6 a7) B e v xs := by
  unfold Own1 at *
  exact ownsRow_setCell_other (ownsRow_setCell_other (ownsRow_setCell_other (ownsRow_setCell_other (ownsRow_setCell_other (ownsRow_setCell_other (ownsRow_setCell_other (ownsRow_setCell_other h hG _) hG _) hG _) hG _) hG _) hG _) hG _) hG _
end Go.Proofs.YtdddmehchfnppaaGreatDoor
namespace Go.Proofs.YtdddmehchfnppaaGreatDoor
open Go Go.RowKit Go.Proofs Fl

/-- rows of truths that scan.row made -/
def RowsMade (q : Int) (l : Nat → Bool) (n M B g outer j : Nat) (w : World) : Prop :=
  ∃ (G : Nat → Nat) (L : Nat → Nat → Bool), VFill w g outer n j (fun i => (some ⟨G i, 0, none⟩, M, M)) ∧ ∀ i, i < j → RowU w B (G i) M (packW (L i) n) ∧ SrL q (rowl l n i) n (L i)
theorem RowsMade.below {q : Int} {l : Nat → Bool} {n M B g outer j : Nat} {w w' : World} (h : RowsMade q l n M B g outer j w) (hb : Below w.heap.size w w') : RowsMade q l n M B g outer j w' := by
  obtain ⟨G, L, h1, h2⟩ := h
  exact ⟨G, L, h1.below hb, fun i hi => ⟨(h2 i hi).1.below hb, (h2 i hi).2⟩⟩
theorem RowsMade.lt {q : Int} {l : Nat → Bool} {n M B g outer j : Nat} {w : World} (h : RowsMade q l n M B g outer j w) : g < w.heap.size := by
  obtain ⟨G, L, h1, _⟩ := h
  exact h1.lt
theorem RowsMade.open {q : Int} {l : Nat → Bool} {n M B g outer j : Nat} {w : World} (h : RowsMade q l n M B g outer j w) (hj : j < outer) :
    w.cell? ⟨g, j * 8, none⟩ = some (.int .i64 0) ∧ w.cell? ⟨g, j * 8 + 1, none⟩ = some vnil ∧ w.cell? ⟨g, j * 8 + 2, none⟩ = some (.int .i64 0) ∧ w.cell? ⟨g, j * 8 + 3, none⟩ = some vnil ∧
    w.cell? ⟨g, j * 8 + 4, none⟩ = some vnil ∧ w.cell? ⟨g, j * 8 + 5, none⟩ = some vnil ∧ w.cell? ⟨g, j * 8 + 6, none⟩ = some vnil ∧ w.cell? ⟨g, j * 8 + 7, none⟩ = some vnil ∧ ∀ p, w.frozen? ⟨g, p, none⟩ = false := by
  obtain ⟨G, L, h1, _⟩ := h
  exact h1.open hj
theorem RowsMade.put {q : Int} {l : Nat → Bool} {n M B g outer j : Nat} {w : World} (h : RowsMade q l n M B g outer j w) (hj : j < outer) (hgB : g < B) {g' : Nat} {L' : Nat → Bool} (hr : RowU w B g' M (packW L' n)) (hs : SrL q (rowl l n j) n L') :
    RowsMade q l n M B g outer (j + 1) (set8o w g (j * 8) (.int .i64 1) (.slice (some ⟨g', 0, none⟩) M M) (.int .i64 n) vnil vnil vnil vnil vnil) := by
  obtain ⟨G, L, h1, h2⟩ := h
  refine ⟨fun i => if i = j then g' else G i, fun i => if i = j then L' else L i, ?_, fun i hi => ?_⟩
  · have := h1.put hj (S' := fun i => (some ⟨if i = j then g' else G i, 0, none⟩, M, M)) (fun i hi => by
      have : ¬ i = j := by omega
      simp [this])
    simpa using this
  · by_cases e : i = j
    · subst e
      simp only [if_true]
      refine ⟨own_set8o hr (by have := hr.low; show some g' ≠ some g; intro e; injection e; omega) _ _ _ _ _ _ _ _ _, hs⟩
    · simp only [e, if_false]
      obtain ⟨a, b⟩ := h2 i (by omega)
      exact ⟨own_set8o a (by have := a.low; show some (G i) ≠ some g; intro e; injection e; omega) _ _ _ _ _ _ _ _ _, b⟩
theorem RowsMade.new {q : Int} {l : Nat → Bool} {n M B outer : Nat} (w : World) : RowsMade q l n M B w.heap.size outer 0 (w.alloc (.cells (madeCells zcells (outer * 8)) 32)) :=
  ⟨fun _ => 0, fun _ _ => false, VFill.made w outer n _, fun _ hi => absurd hi (Nat.not_lt_zero _)⟩

theorem leastF_flags (F : Nat → Nat) (n : Nat) (L : Nat → Bool) (h : ∀ j, j < n → F j = flagF (L j)) : leastF F n = 1 := by
  induction n with
  | zero => rfl
  | succ k ih =>
    have h1 := ih fun j hj => h j (by omega)
    have h2 : leastF F (k + 1) = max (leastF F k) (rankF (F k)) := rfl
    have h3 : rankF (F k) = 1 := by
      rw [h k (by omega), flagF_fi, rankF_fi (good_flag _)]
      cases L k <;> rfl
    rw [h2, h1, h3]; rfl
theorem bitsIn_reads {W : World} {g M n : Nat} {l : Nat → Bool} (h : Reads1 W (.slice (some ⟨g, 0, none⟩) M M) ((List.range M).map fun j => .int .u64 (packW l n j : Nat))) (hM : M = (n + 63) / 64) : BitsIn W (.agg #[.slice (some ⟨g, 0, none⟩) M M, .int .i64 (n : Int)]) n l := by
  subst hM
  exact ⟨g, 0, _, rfl, fun j hj => reads_cell h j hj⟩
theorem pk_all (pw : Nat → Nat → Nat × Int) (q : Int) (l : Nat → Bool) (n : Nat) (L : Nat → Nat → Bool) (X : Nat → Nat) (outer T : Nat) (hT : T = outer * n) (hn : 1 ≤ n) (hb : n ≤ 1000) (hX : ∀ j, j < T → X j = fi (bI (l j))) (hs : ∀ i, i < outer → SrL q (rowl l n i) n (L i)) :
    ∀ j, j < T → scanR (oneP pw q) X n 1 j = some (fi (bI (rowsB L n j))) := by
  intro j hj
  have hd : n * (j / n) + j % n = j := Nat.div_add_mod j n
  have hm : j % n < n := Nat.mod_lt _ hn
  have ho : j / n < outer := Nat.div_lt_of_lt_mul (by rw [Nat.mul_comm, ← hT]; exact hj)
  have ej : j / n * n + j % n = j := by rw [Nat.mul_comm]; exact hd
  have e1 : scanR (oneP pw q) X n 1 j = rowR (oneP pw q) (lineF X n 1 (j / n) 0) (j % n + 1) := by
    have h := scanR_at (g := oneP pw q) (F := X) (n := n) (inner := 1) (o := j / n) (k := 0) (i := j % n) (by decide) hm
    rw [Nat.mul_one, Nat.add_zero, Nat.mul_one, ej] at h
    exact h
  rw [e1]
  exact srow_plain pw q (rowl l n (j / n)) n (L (j / n)) (hs _ ho) _ (fun i hi => by
    unfold lineF rowl
    rw [Nat.mul_one, Nat.add_zero, Nat.mul_one]
    refine hX _ ?_
    have h2 : (j / n + 1) * n ≤ outer * n := Nat.mul_le_mul_right _ ho
    rw [Nat.add_mul, ← hT] at h2
    omega) (by omega) (j % n) hm

set_option maxRecDepth 100000 in
set_option maxHeartbeats 1000000 in
theorem spacked_row (pw : Nat → Nat → Nat × Int) (H : Nat → Prop) (q : Int) (hq1 : q ≠ 1) (v : Value) (outer n T : Nat) (l : Nat → Bool) (X : Nat → Nat) (w : World) (hH : ∀ b, H b → b < w.heap.size)
    (hT : T = outer * n) (ho : 1 ≤ outer) (hn : 1 ≤ n) (hb1 : outer ≤ 1000) (hb2 : n ≤ 1000) (hb : BitsIn w v T l) (hX : ∀ j, j < T → X j = fi (bI (l j))) (ht : TzTab w) :
    Calls Tryz.prog 33 #[.int .i64 q, v, .int .i64 (outer : Int), .int .i64 (n : Int)] w (SwOut H w (scanR (oneP pw q) X n 1) T) := by
  have hTb : T ≤ 1000000 := by rw [hT]; exact Nat.mul_le_mul hb1 hb2
  have hbin := hb
  have HCUT := Lib.hid (fun W (hw : Below w.heap.size w W) a t (h1 : a ≤ t) (h2 : t ≤ T) => cut_in v T a t l W (by omega) h1 h2 (hb.below hw))
  have HTZ := Lib.hid ht
  have HH := Lib.hid hH
  have HTT := Lib.hid hT
  have HX := Lib.hid hX
  have q1 : (q == 1) = false := by simpa using hq1
  have hmk := fun W => run_make_vecs outer (by omega) W
  obtain ⟨b, o, c, rfl, _⟩ := hb
  obtain ⟨M, hM⟩ : ∃ M, M = (n + 63) / 64 := ⟨_, rfl⟩
  have HM := Lib.hid hM
  clear ht hH hX hT hq1 hbin hM
  obtain ⟨W0, eW0⟩ : ∃ W, W = (w.alloc (.cells #[.slice (some ⟨b, o, none⟩) ((T + 63) / 64) c, .int .i64 (T : Int)] 26)).alloc (.cells zcells 32) := ⟨_, rfl⟩
  have HW0 : Hid (W0.heap.size = w.heap.size + 2 ∧ Below w.heap.size w W0 ∧ W0.heap[w.heap.size]? = some (.cells #[.slice (some ⟨b, o, none⟩) ((T + 63) / 64) c, .int .i64 (T : Int)] 26) ∧ W0.heap[w.heap.size + 1]? = some (.cells zcells 32)) := by
    rw [eW0]
    refine ⟨by simp, bel2 w _ _, block_up (bel1 (w.alloc _) _), ?_⟩
    have h := heap_alloc_new (w.alloc (.cells #[.slice (some ⟨b, o, none⟩) ((T + 63) / 64) c, .int .i64 (T : Int)] 26)) (.cells zcells 32)
    rw [show (w.alloc (.cells #[.slice (some ⟨b, o, none⟩) ((T + 63) / 64) c, .int .i64 (T : Int)] 26)).heap.size = w.heap.size + 1 by simp] at h
    exact h
  have HBM : Hid (Below (w.heap.size + 2) W0 (W0.alloc (.cells (madeCells zcells (outer * 8)) 32))) := by
    have h := bel1 W0 (.cells (madeCells zcells (outer * 8)) 32)
    rw [HW0.out.1] at h
    exact h
  have HRM : Hid (RowsMade q l n M (w.heap.size + 3) (w.heap.size + 1 + 1) outer 0 (W0.alloc (.cells (madeCells zcells (outer * 8)) 32))) := by
    have h := RowsMade.new (q := q) (l := l) (n := n) (M := M) (B := w.heap.size + 3) (outer := outer) W0
    rw [HW0.out.1] at h
    exact h
  have HEW := Lib.hid eW0
  clear eW0
  go_enter Tryz.func33, Tryz.ntmps33
  go_wp2_with fail
  go_loopw [24] (fun j wr => ∃ m : Nat, m ≤ outer ∧ j = .int .i64 m ∧ RowsMade q l n M (w.heap.size + 3) (w.heap.size + 1 + 1) outer m wr ∧ Below (w.heap.size + 2) W0 wr) (fun j _ => outer - (intOf j).toNat)
  case atStart => exact ⟨0, Nat.zero_le _, rfl, by have h := HRM.out; rw [HEW.out] at h; exact h, by have h := HBM.out; rw [HEW.out] at h ⊢; exact h⟩
  case round =>
    clear hmk HRM HBM HEW
    obtain ⟨m, hm, rfl, hf, hbl⟩ := hrel
    have HF := Lib.hid hf
    have HBL := Lib.hid hbl
    have HBW := Lib.hid (HW0.out.2.1.trans (hbl.mono (by omega)))
    have HKB := Lib.hid (show wr.heap[w.heap.size]? = some (.cells #[.slice (some ⟨b, o, none⟩) ((T + 63) / 64) c, .int .i64 (T : Int)] 26) by rw [hbl.block _ (by omega)]; exact HW0.out.2.2.1)
    have HKV := Lib.hid (show wr.heap[w.heap.size + 1]? = some (.cells zcells 32) by rw [hbl.block _ (by omega)]; exact HW0.out.2.2.2)
    clear hf hbl
    by_cases hlt : m < outer
    · obtain ⟨A, eA⟩ : ∃ A, A = m * n := ⟨_, rfl⟩
      obtain ⟨B, eB⟩ : ∃ B, B = (m + 1) * n := ⟨_, rfl⟩
      have hBA : B = A + n := by rw [eA, eB, Nat.add_mul, Nat.one_mul]
      have hBT : B ≤ T := by rw [eB, HTT.out]; exact Nat.mul_le_mul_right _ hlt
      have f1 : (m : Int) * (n : Int) = (A : Int) := by rw [eA]; push_cast; rfl
      have f2 : ((m : Int) + 1) * (n : Int) = (B : Int) := by rw [eB]; push_cast; rfl
      have hlt2 : (m : Int) < (outer : Int) := by omega
      have HCT := Lib.hid (HCUT.out wr HBW.out A B (by omega) hBT)
      rw [show B - A = n by omega] at HCT
      have hAT : A ≤ 1000000 := by omega
      have hBb : B ≤ 1000000 := by omega
      have HRL : Hid ((fun i => l (A + i)) = rowl l n m) := by show _ = _; unfold rowl; rw [eA]
      rw [HRL.out] at HCT
      obtain ⟨hk0, hk1, hkf⟩ := pair_of HKB.out
      clear eA eB hBA hBT
      go_wp2_with fail
      refine HCT.out.mono ?_
      rintro e w3 ⟨v3, rfl, hbi, hb3⟩
      have HR3 := Lib.hid (srow_any q v3 n (rowl l n m) w3 (by omega) hbi (HTZ.out.below (bel_both HBW.out hb3)))
      have HB3 := Lib.hid hb3
      clear hb3 hbi hk0 hk1 hkf HCT
      unfold SrOut at HR3
      go_wp2_with fail
      refine HR3.out.mono ?_
      rintro e w4 ⟨hor, hb4⟩
      have HB4 := Lib.hid (bel_both HB3.out hb4)
      have hsz : wr.heap.size ≤ w3.heap.size := HB3.out.size
      have hkv := lt_of_block HKV.out
      rcases hor with ⟨g, L, rfl, hrow, hsr⟩ | rfl
      · have HSR := Lib.hid hsr
        rw [← HM.out] at hrow
        have hlow := hrow.low
        have hgr := HF.out.lt
        have HROW := Lib.hid (hrow.lower (show w.heap.size + 3 ≤ w3.heap.size by omega))
        rw [← HM.out]
        clear hb4 hrow hsr HR3
        have HKB4 := Lib.hid (heap_alloc_new w4 (.cells #[.slice (some ⟨g, 0, none⟩) M M, .int .i64 (n : Int)] 26))
        have HB5 := Lib.hid (bel_both HB4.out (bel1 w4 (.cells #[.slice (some ⟨g, 0, none⟩) M M, .int .i64 (n : Int)] 26)))
        have HROW5 := Lib.hid (HROW.out.below (bel1 w4 (.cells #[.slice (some ⟨g, 0, none⟩) M M, .int .i64 (n : Int)] 26)))
        go_wp2_with fail
        refine (vbits_any _ _ _ _ _).mono ?_
        rintro e w6 ⟨rfl, hb6⟩
        have HB6 := Lib.hid (bel_both HB5.out hb6)
        have HROW6 := Lib.hid (HROW5.out.below hb6)
        have HF6 := Lib.hid (HF.out.below HB6.out)
        obtain ⟨c0, c1, c2, c3, c4, c5, c6, c7, cf⟩ := HF6.out.open hlt
        have HP6 := Lib.hid (HF6.out.put hlt (Nat.lt_succ_self _) HROW6.out HSR.out)
        have HB7 := Lib.hid (below_set8o (HBL.out.trans (HB6.out.mono (show w.heap.size + 2 ≤ wr.heap.size from hkv))) (show w.heap.size + 2 ≤ w.heap.size + 1 + 1 from Nat.le_refl _) (m * 8) (.int .i64 1) (.slice (some ⟨g, 0, none⟩) M M) (.int .i64 n) vnil vnil vnil vnil vnil)
        clear hb6
        go_wp2
        go_roundw
        case rel => exact ⟨m + 1, by omega, by go_num, HP6.out, HB7.out⟩
        case measure => simp [intOf]; omega
      · have HB5 := Lib.hid (bel_both HBW.out (bel_both HB4.out (bel1 w4 (.cells #[vnil, .int .i64 0] 26))))
        have HKV5 := Lib.hid (show (w4.alloc (.cells #[vnil, .int .i64 0] 26)).heap[w.heap.size + 1]? = some (.cells zcells 32) by rw [(bel_both HB4.out (bel1 w4 _)).block _ hkv]; exact HKV.out)
        clear hb4 HR3
        obtain ⟨⟨h0, h1, h2, h3, h4, h5, h6, h7⟩, hz⟩ := boxed_of HKV5.out
        go_wp2
        refine bodyPost_ret (v := .tuple #[vecV 0 vnil 0 vnil vnil vnil vnil vnil, .bool false]) ?_ rfl (.inr ⟨rfl, below_set8 HB5.out (Nat.le_succ _) _ _ _ _ _ _ _ _⟩)
        exact ret_vec2 (fn := Tryz.f33) (p := 8) (u := 9) rfl _ _ (w.heap.size + 1) (by rfl) (set8_block HKV5.out _ _ _ _ _ _ _ _)
    · obtain rfl : m = outer := by omega
      have HJ : Hid (∃ (S : Nat → Sl) (L : Nat → Nat → Bool), VBits wr (w.heap.size + 1 + 1) m n L S ∧ ∀ i, i < m → SrL q (rowl l n i) n (L i)) := by
        obtain ⟨G, L, h1, h2⟩ := HF.out
        exact ⟨_, L, h1.bits (fun j hj => by have h := BitsIn.of_row (by rw [← HM.out]; exact (h2 j hj).1); rw [← HM.out] at h; exact h), fun i hi => (h2 i hi).2⟩
      obtain ⟨S, L, hvb, hsr⟩ := HJ.out
      have HSR := Lib.hid hsr
      have HJN := Lib.hid (join_bits (w.heap.size + 1 + 1) m m n T HTT.out L S wr ho hn hb1 hb2 hvb)
      clear hvb hsr HJ HCUT
      go_wp2_with fail
      refine HJN.out.mono ?_
      rintro e w2 ⟨g2, M2, hM2, rfl, hr2, hb2'⟩
      have HM2 := Lib.hid hM2
      have HB2 := Lib.hid (bel_both HBW.out hb2')
      have HK2 := Lib.hid (show w2.heap[w.heap.size + 1]? = some (.cells zcells 32) by rw [hb2'.block _ (lt_of_block HKV.out)]; exact HKV.out)
      have HR2 := Lib.hid hr2
      have HS2 := Lib.hid HBW.out.size
      have HKS := Lib.hid (lt_of_block HKV.out)
      clear hb2' hr2 hM2 HJN
      obtain ⟨⟨h0, h1, h2, h3, h4, h5, h6, h7⟩, hz⟩ := boxed_of HK2.out
      have hall := pk_all pw q l n L X m T HTT.out hn hb2 HX.out HSR.out
      go_wp2
      refine bodyPost_ret (v := .tuple #[vecV 1 (.slice (some ⟨g2, 0, none⟩) M2 M2) (T : Int) vnil vnil vnil vnil vnil, .bool true]) ?_ rfl (.inl ⟨fun cc hcc => ⟨_, hall cc hcc⟩, 1, (some ⟨g2, 0, none⟩, M2, M2), (T : Int), (none, 0, 0), (none, 0, 0), (none, 0, 0), (none, 0, 0), (none, 0, 0), rfl, ?_, below_set8 HB2.out (Nat.le_succ _) _ _ _ _ _ _ _ _⟩)
      · exact ret_vec2 (fn := Tryz.f33) (p := 8) (u := 9) rfl _ _ (w.heap.size + 1) (by rfl) (set8_block HK2.out _ _ _ _ _ _ _ _)
      · have hl := leastF_flags (getR (scanR (oneP pw q) X n 1)) T (rowsB L n) (fun j hj => by unfold getR; rw [hall j hj, flagF_bI]; rfl)
        rw [hl]
        have hk := (HR2.out.keepsH (H := fun j => H j ∨ j = w.heap.size + 1) (fun j e => by
          have h1 := HS2.out; have h2 := HKS.out
          rcases e with e | e
          · have := HH.out j e; omega
          · omega))
        refine (((hk.imp fun W' hrd => ?_).set8 (.inr rfl) _ _ _ _ _ _ _ _).sub (fun _ _ e => .inl e))
        refine (numV_bits (by omega) ⟨_, rfl, bitsIn_reads hrd HM2.out⟩).congr (fun j hj => ?_)
        unfold getR
        rw [hall j hj, flagF_bI]; rfl
/-- scan.packed, whatever function it is -/
theorem spacked_any (pw : Nat → Nat → Nat × Int) (H : Nat → Prop) (q : Int) (v : Value) (outer n T : Nat) (l : Nat → Bool) (X : Nat → Nat) (w : World) (hH : ∀ b, H b → b < w.heap.size)
    (hT : T = outer * n) (ho : 1 ≤ outer) (hn : 1 ≤ n) (hb1 : outer ≤ 1000) (hb2 : n ≤ 1000) (hb : BitsIn w v T l) (hX : ∀ j, j < T → X j = fi (bI (l j))) (ht : TzTab w) :
    Calls Tryz.prog 33 #[.int .i64 q, v, .int .i64 (outer : Int), .int .i64 (n : Int)] w (SwOut H w (scanR (oneP pw q) X n 1) T) := by
  by_cases h1 : q = 1
  · subst h1
    exact spacked_add pw H v outer n T l X w hH hT hb1 hb2 (by rw [hT]; exact Nat.mul_le_mul hb1 hb2) hb hX
  · exact spacked_row pw H q h1 v outer n T l X w hH hT ho hn hb1 hb2 hb hX ht
end Go.Proofs.YtdddmehchfnppaaGreatDoor
