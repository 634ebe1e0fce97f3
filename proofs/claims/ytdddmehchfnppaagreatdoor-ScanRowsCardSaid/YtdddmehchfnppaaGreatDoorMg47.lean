/- Merged texts. The walk of flat.Join at packed truths, and at nothing. Conditions: as each theorem says. The walk of scan.packed at plus. Conditions: as each theorem says. The walk of scan.packed at any function but plus. Conditions: the table of math/bits reads as its text lays it. -/
import Derived.Test.YtdddmehchfnppaaGreatDoorMg46
import Derived.Test.YtdddmehchfnppaaGreatDoorMg44
namespace Go.Proofs.YtdddmehchfnppaaGreatDoor
open Go Go.RowKit Go.Proofs Fl

set_option maxRecDepth 100000 in
set_option maxHeartbeats 1000000 in
theorem join_bits (g m c n T : Nat) (hT : T = m * n) (L : Nat → Nat → Bool) (S : Nat → Sl) (w : World) (hm1 : 1 ≤ m) (hn1 : 1 ≤ n) (hm : m ≤ 1000) (hn : n ≤ 1000) (hr : VBits w g m n L S) :
    Calls Tryz.prog 69 #[.slice (some ⟨g, 0, none⟩) m c] w fun e w' => ∃ g' M, M = (T + 63) / 64 ∧ e = .returned (.tuple #[vecV 1 (.slice (some ⟨g', 0, none⟩) M M) (T : Int) vnil vnil vnil vnil vnil, .bool true]) ∧ RowU w' w.heap.size g' M (packW (rowsB L n) T) ∧ Below w.heap.size w w' := by
  have HR := Lib.hid hr
  have HT := Lib.hid hT
  clear hr hT
  have HK0 := Lib.hid (heap_alloc_new w (.cells zcells 32))
  have HB0 := Lib.hid (bel1 w (.cells zcells 32))
  go_enter Tryz.func69, Tryz.ntmps69
  go_wp2_with fail
  go_loopw [4, 5, 6, 11] (fun cc kk nn jj wr => ∃ j : Nat, ∃ (p : Nat) (q : Int), j ≤ m ∧ jj = .int .i64 j ∧ kk = .int .i64 1 ∧ nn = .int .i64 p ∧ cc = .int .i64 q ∧ Hid (p = j * n) ∧ Hid ((j = 0 ∧ q = -1) ∨ (1 ≤ j ∧ q = 0)) ∧ Below w.heap.size w wr ∧ wr.heap[w.heap.size]? = some (.cells zcells 32)) (fun _ _ _ jj _ => m - (intOf jj).toNat)
  case atStart => exact ⟨0, 0, -1, Nat.zero_le _, rfl, rfl, rfl, rfl, (Nat.zero_mul n).symm, .inl ⟨rfl, rfl⟩, HB0.out, HK0.out⟩
  case round =>
    clear HB0 HK0
    obtain ⟨j, p, q, hj, rfl, rfl, rfl, rfl, hp, hq, hbl, hk⟩ := hrel
    have HBL := Lib.hid hbl
    have HK := Lib.hid hk
    clear hbl hk
    by_cases hlt : j < m
    · obtain ⟨c0, c1, c2, c3, c4, c5, c6, c7, _⟩ := HR.out.below HBL.out j hlt
      have hn0 : ((n : Int) == 0) = false := by simp; omega
      have HPN : Hid (p + n = (j + 1) * n) := by show _ = _; rw [hp.out, Nat.add_mul, Nat.one_mul]
      have hpb : p ≤ 1000000 := by
        rw [hp.out]
        have : j * n ≤ 1000 * 1000 := Nat.mul_le_mul (by omega) hn
        omega
      have hmx : max (1 : Int) 1 = 1 := by decide
      go_wp2_with fail
      refine (len_1 _ _ _ _ _ _ _ _).mono ?_
      rintro e w2 ⟨rfl, hb2⟩
      have HB2 := Lib.hid (bel_both (bel1 wr _) hb2)
      have HX2 := Lib.hid ((boxed_new wr 32 1 (.slice (S j).1 (S j).2.1 (S j).2.2) n vnil vnil vnil vnil vnil).below hb2)
      clear hb2 c0 c1 c2 c3 c4 c5 c6 c7
      obtain ⟨h0, h1, h2, h3, h4, h5, h6, h7⟩ := HX2.out
      rcases hq.out with ⟨e0, rfl⟩ | ⟨e1, rfl⟩
      · clear e0
        go_wp2_with fail
        refine (class_1 _ _ _ _ _ _ _ _).mono ?_
        rintro e w3 ⟨rfl, hb3⟩
        have HB3 := Lib.hid (bel_both HB2.out hb3)
        have HX3 := Lib.hid (HX2.out.below hb3)
        clear hb3 h0 h1 h2 h3 h4 h5 h6 h7 HX2 HB2
        obtain ⟨h0, h1, h2, h3, h4, h5, h6, h7⟩ := HX3.out
        go_wp2_with fail
        refine (kind_any _ _ _ _ _ _ _ _ _).mono ?_
        rintro e w4 ⟨rfl, hb4⟩
        have HB4 := Lib.hid (bel_both HB3.out hb4)
        have HX4 := Lib.hid (HX3.out.below hb4)
        clear hb4 h0 h1 h2 h3 h4 h5 h6 h7 HX3 HB3
        obtain ⟨h0, h1, h2, h3, h4, h5, h6, h7⟩ := HX4.out
        go_wp2_with fail
        refine (len_1 _ _ _ _ _ _ _ _).mono ?_
        rintro e w5 ⟨rfl, hb5⟩
        have HB5 := Lib.hid (bel_both HB4.out hb5)
        have HX5 := Lib.hid (HX4.out.below hb5)
        clear hb5 h0 h1 h2 h3 h4 h5 h6 h7 HX4 HB4
        obtain ⟨h0, h1, h2, h3, h4, h5, h6, h7⟩ := HX5.out
        have HBL2 := Lib.hid (bel_both HBL.out HB5.out)
        have HK2 := Lib.hid ((HB5.out.block _ (lt_of_block HK.out)).trans HK.out)
        go_wp2
        go_roundw
        case rel => exact ⟨j + 1, p + n, 0, by omega, by go_num, rfl, by go_num, rfl, HPN.out, .inr ⟨Nat.le_add_left _ _, rfl⟩, HBL2.out, HK2.out⟩
        case measure => simp [intOf]; omega
      · clear e1
        go_wp2_with fail
        refine (class_1 _ _ _ _ _ _ _ _).mono ?_
        rintro e w3 ⟨rfl, hb3⟩
        have HB3 := Lib.hid (bel_both HB2.out hb3)
        have HX3 := Lib.hid (HX2.out.below hb3)
        clear hb3 h0 h1 h2 h3 h4 h5 h6 h7 HX2 HB2
        obtain ⟨h0, h1, h2, h3, h4, h5, h6, h7⟩ := HX3.out
        go_wp2_with fail
        refine (class_1 _ _ _ _ _ _ _ _).mono ?_
        rintro e w4 ⟨rfl, hb4⟩
        have HB4 := Lib.hid (bel_both HB3.out hb4)
        have HX4 := Lib.hid (HX3.out.below hb4)
        clear hb4 h0 h1 h2 h3 h4 h5 h6 h7 HX3 HB3
        obtain ⟨h0, h1, h2, h3, h4, h5, h6, h7⟩ := HX4.out
        go_wp2_with fail
        refine (kind_any _ _ _ _ _ _ _ _ _).mono ?_
        rintro e w5 ⟨rfl, hb5⟩
        have HB5 := Lib.hid (bel_both HB4.out hb5)
        have HX5 := Lib.hid (HX4.out.below hb5)
        clear hb5 h0 h1 h2 h3 h4 h5 h6 h7 HX4 HB4
        obtain ⟨h0, h1, h2, h3, h4, h5, h6, h7⟩ := HX5.out
        go_wp2_with fail
        refine (len_1 _ _ _ _ _ _ _ _).mono ?_
        rintro e w6 ⟨rfl, hb6⟩
        have HB6 := Lib.hid (bel_both HB5.out hb6)
        have HX6 := Lib.hid (HX5.out.below hb6)
        clear hb6 h0 h1 h2 h3 h4 h5 h6 h7 HX5 HB5
        obtain ⟨h0, h1, h2, h3, h4, h5, h6, h7⟩ := HX6.out
        have HBL2 := Lib.hid (bel_both HBL.out HB6.out)
        have HK2 := Lib.hid ((HB6.out.block _ (lt_of_block HK.out)).trans HK.out)
        go_wp2
        go_roundw
        case rel => exact ⟨j + 1, p + n, 0, by omega, by go_num, rfl, by go_num, rfl, HPN.out, .inr ⟨Nat.le_add_left _ _, rfl⟩, HBL2.out, HK2.out⟩
        case measure => simp [intOf]; omega
    · obtain rfl : j = m := by omega
      have hpb : p ≤ 1000000 := by
        rw [hp.out]
        have : j * n ≤ 1000 * 1000 := Nat.mul_le_mul hm hn
        omega
      obtain rfl : q = 0 := by
        rcases hq.out with ⟨e0, _⟩ | ⟨_, e1⟩
        · omega
        · exact e1
      have HJ := Lib.hid (joined_bits g j c n T HT.out L S wr hm1 hn1 hm hn (HR.out.below HBL.out))
      clear hq
      go_wp2_with fail
      refine HJ.out.mono ?_
      rintro e w2 ⟨g2, M, hM, rfl, hr2, hb2⟩
      have HM := Lib.hid hM
      have HB2 := Lib.hid (bel_both HBL.out hb2)
      have HR2 := Lib.hid (hr2.lower (show w.heap.size ≤ wr.heap.size from HBL.out.size))
      have hg2 := hr2.low.1
      have hkw := lt_of_block HK.out
      have HK2 := Lib.hid (show w2.heap[w.heap.size]? = some (.cells zcells 32) by rw [hb2.block _ hkw]; exact HK.out)
      clear hb2 hr2 hM
      obtain ⟨⟨h0, h1, h2, h3, h4, h5, h6, h7⟩, hz⟩ := boxed_of HK2.out
      go_wp2
      refine bodyPost_ret (v := .tuple #[vecV 1 (.slice (some ⟨g2, 0, none⟩) M M) (T : Int) vnil vnil vnil vnil vnil, .bool true]) ?_ rfl ⟨g2, M, HM.out, rfl, ?_, below_set8 HB2.out (Nat.le_refl _) _ _ _ _ _ _ _ _⟩
      · exact ret_vec2 (fn := Tryz.f69) (p := 2) (u := 3) rfl _ _ w.heap.size (by rfl) (set8_block HK2.out _ _ _ _ _ _ _ _)
      · exact own_set8 HR2.out (by show some g2 ≠ _; intro e; injection e; omega) _ _ _ _ _ _ _ _

set_option maxHeartbeats 400000 in
theorem none_num (w : World) : Calls Tryz.prog 113 #[.int .i64 0] w fun e w' => e = .returned (vecV 1 vnil 0 vnil vnil vnil vnil vnil) ∧ Below w.heap.size w w' := by
  have HK := Lib.hid (heap_alloc_new w (.cells zcells 32))
  go_enter Tryz.func113, Tryz.ntmps113
  go_wp2_with fail
  refine (vbits_any none 0 0 0 _).mono ?_
  rintro e w2 ⟨rfl, hb2⟩
  have HB2 := Lib.hid (bel_both (bel1 w _) hb2)
  have HK2 := Lib.hid (show w2.heap[w.heap.size]? = some (.cells zcells 32) by rw [hb2.block _ (lt_of_block HK.out)]; exact HK.out)
  clear hb2 HK
  obtain ⟨⟨h0, h1, h2, h3, h4, h5, h6, h7⟩, hz⟩ := boxed_of HK2.out
  go_wp2
  exact bodyPost_ret (ret_vec rfl _ _ _ rfl (set8_block HK2.out _ _ _ _ _ _ _ _)) rfl ⟨rfl, below_set8 HB2.out (Nat.le_refl _) _ _ _ _ _ _ _ _⟩

set_option maxHeartbeats 400000 in
theorem join_none (a : Option Addr) (c : Nat) (w : World) : Calls Tryz.prog 69 #[.slice a 0 c] w fun e w' => e = .returned (.tuple #[vecV 1 vnil 0 vnil vnil vnil vnil vnil, .bool true]) ∧ Below w.heap.size w w' := by
  have HK := Lib.hid (heap_alloc_new w (.cells zcells 32))
  go_enter Tryz.func69, Tryz.ntmps69
  go_wp2_with fail
  go_loopw [4, 11] (fun cc jj wr => cc = .int .i64 (-1) ∧ jj = .int .i64 0 ∧ wr = w.alloc (.cells zcells 32)) (fun _ _ _ => 0)
  case atStart => exact ⟨rfl, rfl, rfl⟩
  case round =>
    obtain ⟨rfl, rfl, rfl⟩ := hrel
    go_wp2_with fail
    refine (none_num _).mono ?_
    rintro e w2 ⟨rfl, hb2⟩
    have HB2 := Lib.hid (bel_both (bel1 w _) hb2)
    have HK2 := Lib.hid (show w2.heap[w.heap.size]? = some (.cells zcells 32) by rw [hb2.block _ (lt_of_block HK.out)]; exact HK.out)
    clear hb2 HK
    obtain ⟨⟨h0, h1, h2, h3, h4, h5, h6, h7⟩, hz⟩ := boxed_of HK2.out
    go_wp2
    refine bodyPost_ret (v := .tuple #[vecV 1 vnil 0 vnil vnil vnil vnil vnil, .bool true]) ?_ rfl ⟨rfl, below_set8 HB2.out (Nat.le_refl _) _ _ _ _ _ _ _ _⟩
    exact ret_vec2 (fn := Tryz.f69) (p := 2) (u := 3) rfl _ _ w.heap.size (by rfl) (set8_block HK2.out _ _ _ _ _ _ _ _)
end Go.Proofs.YtdddmehchfnppaaGreatDoor
namespace Go.Proofs.YtdddmehchfnppaaGreatDoor
open Go Go.RowKit Go.Proofs Fl

set_option maxRecDepth 100000 in
set_option maxHeartbeats 400000 in
theorem spacked_addV (pw : Nat → Nat → Nat × Int) (H : Nat → Prop) (v : Value) (outer n T : Nat) (l : Nat → Bool) (X : Nat → Nat) (w : World) (hH : ∀ b, H b → b < w.heap.size)
    (hT : T = outer * n) (hb1 : outer ≤ 1000) (hb2 : n ≤ 1000) (hbT : T ≤ 1000000) (hb : BitsIn w v T l) (hX : ∀ j, j < T → X j = fi (bI (l j))) :
    Calls Tryz.prog 33 #[.int .i64 1, v, .int .i64 (outer : Int), .int .i64 (n : Int)] w fun e w' => (∀ c, c < T → ∃ y, scanR (oneP pw 1) X n 1 c = some y) ∧ Vec2R H w (fun u W => NumV u (leastF (getR (scanR (oneP pw 1) X n 1)) T : Nat) T (getR (scanR (oneP pw 1) X n 1)) W) e w' := by
  have hbin := hb
  obtain ⟨b, o, c, rfl, _⟩ := hb
  have HB0 := Lib.hid (bel2 w (.cells #[.slice (some ⟨b, o, none⟩) ((T + 63) / 64) c, .int .i64 (T : Int)] 26) (.cells zcells 32))
  have HK0 := Lib.hid (block_up (bel1 (w.alloc (.cells #[.slice (some ⟨b, o, none⟩) ((T + 63) / 64) c, .int .i64 (T : Int)] 26)) (.cells zcells 32)))
  have hsz : (w.alloc (.cells #[.slice (some ⟨b, o, none⟩) ((T + 63) / 64) c, .int .i64 (T : Int)] 26)).heap.size = w.heap.size + 1 := by simp
  have HK1 : Hid (((w.alloc (.cells #[.slice (some ⟨b, o, none⟩) ((T + 63) / 64) c, .int .i64 (T : Int)] 26)).alloc (.cells zcells 32)).heap[w.heap.size + 1]? = some (.cells zcells 32)) := by
    have h := heap_alloc_new (w.alloc (.cells #[.slice (some ⟨b, o, none⟩) ((T + 63) / 64) c, .int .i64 (T : Int)] 26)) (.cells zcells 32)
    rw [hsz] at h
    exact h
  have hlt : w.heap.size + 1 < ((w.alloc (.cells #[.slice (some ⟨b, o, none⟩) ((T + 63) / 64) c, .int .i64 (T : Int)] 26)).alloc (.cells zcells 32)).heap.size := lt_of_block HK1.out
  have HCN := Lib.hid (scounts_any pw (fun j => H j ∨ j = w.heap.size + 1) _ outer n T l X _ (fun j e => by
    rcases e with e | e
    · exact Nat.lt_trans (hH j e) (Nat.lt_trans (Nat.lt_succ_self _) hlt)
    · rw [e]; exact hlt) hT hb1 hb2 hbT (hbin.below HB0.out) hX)
  obtain ⟨r, hr⟩ : ∃ r, r = scanR (oneP pw 1) X n 1 := ⟨_, rfl⟩
  have HAL : Hid (∀ j, j < T → ∃ y, r j = some y) := fun j hj => by
    rw [hr]
    exact ⟨_, (cZ_scan pw l X outer n (by omega) (by rw [← hT]; exact hX) j (by rw [← hT]; exact hj)).1⟩
  rw [← hr] at HCN ⊢
  clear hbin hr hT hX hH hsz hlt
  go_enter Tryz.func33, Tryz.ntmps33
  obtain ⟨p0, p1, pf⟩ := pair_of HK0.out
  go_wp2_with fail
  refine HCN.out.mono ?_
  rintro e w6 ⟨k4, b4, bn4, s4, i4, f4, c4, x4, rfl, hk4, hb4⟩
  have HB4 := Lib.hid (bel_both HB0.out hb4)
  have HK4 := Lib.hid (show w6.heap[w.heap.size + 1]? = some (.cells zcells 32) by rw [hb4.block _ (lt_of_block HK1.out)]; exact HK1.out)
  have HKE := Lib.hid hk4
  clear hb4 hk4 p0 p1 pf HB0 HK0 HK1 HCN
  obtain ⟨⟨h0, h1, h2, h3, h4, h5, h6, h7⟩, hz⟩ := boxed_of HK4.out
  go_wp2
  refine bodyPost_ret (v := .tuple #[vecW k4 b4 bn4 s4 i4 f4 c4 x4, .bool true]) ?_ rfl ⟨HAL.out, k4, b4, bn4, s4, i4, f4, c4, x4, rfl, (HKE.out.set8 (.inr rfl) _ _ _ _ _ _ _ _).sub (fun _ _ e => .inl e), below_set8 HB4.out (Nat.le_succ _) _ _ _ _ _ _ _ _⟩
  exact ret_vec2 (fn := Tryz.f33) (p := 8) (u := 9) rfl _ _ (w.heap.size + 1) (by rfl) (set8_block HK4.out _ _ _ _ _ _ _ _)
theorem spacked_add (pw : Nat → Nat → Nat × Int) (H : Nat → Prop) (v : Value) (outer n T : Nat) (l : Nat → Bool) (X : Nat → Nat) (w : World) (hH : ∀ b, H b → b < w.heap.size)
    (hT : T = outer * n) (hb1 : outer ≤ 1000) (hb2 : n ≤ 1000) (hbT : T ≤ 1000000) (hb : BitsIn w v T l) (hX : ∀ j, j < T → X j = fi (bI (l j))) :
    Calls Tryz.prog 33 #[.int .i64 1, v, .int .i64 (outer : Int), .int .i64 (n : Int)] w (SwOut H w (scanR (oneP pw 1) X n 1) T) :=
  (spacked_addV pw H v outer n T l X w hH hT hb1 hb2 hbT hb hX).mono fun _ _ h => .inl h
end Go.Proofs.YtdddmehchfnppaaGreatDoor
namespace Go.Proofs.YtdddmehchfnppaaGreatDoor
open Go Go.RowKit Go.Proofs Fl

theorem info_vec : (Tryz.prog.info? 32).map (fun i => (i.zero, i.size, i.bytes)) = some (some (.agg zcells), 8, 160) := by kernel_rfl
theorem run_make_vecs (n : Nat) (hn : n ≤ 1000000) (w : World) :
    (Instr.makeSlice 91 (.int .i64 (n : Int)) (.int .i64 (n : Int))).run Tryz.prog w = .ok (.slice (some ⟨w.heap.size, 0, none⟩) n n) (w.alloc (.cells (madeCells zcells (n * 8)) 32)) := by
  obtain ⟨i0, hi0, hz0, hz1, hz2⟩ := info_parts info_vec
  have hr := run_make (P := Tryz.prog) w 91 32 i0 _ Tryz.underlying91 hi0 hz0 .i64 .i64 (n : Int) (n : Int) (by omega) (Int.le_refl _) (by rw [hz2]; omega) (by omega)
  rw [hz1] at hr
  simp only [Int.toNat_natCast] at hr
  exact hr

/-- a Vec in an array of cells -/
def VIs (cs : Array Value) (j : Nat) (k : Int) (s : Sl) (n : Int) : Prop :=
  cs[j * 8]? = some (.int .i64 k) ∧ cs[j * 8 + 1]? = some (.slice s.1 s.2.1 s.2.2) ∧ cs[j * 8 + 2]? = some (.int .i64 n) ∧ cs[j * 8 + 3]? = some vnil ∧ cs[j * 8 + 4]? = some vnil ∧ cs[j * 8 + 5]? = some vnil ∧ cs[j * 8 + 6]? = some vnil ∧ cs[j * 8 + 7]? = some vnil
/-- a row of m Vecs of which the first i are filled with packed truths -/
def VFill (w : World) (g m n i : Nat) (S : Nat → Sl) : Prop :=
  ∃ cs, w.heap[g]? = some (.cells cs 32) ∧ cs.size = m * 8 ∧ (∀ j, j < i → VIs cs j 1 (S j) n) ∧ ∀ j, i ≤ j → j < m → VIs cs j 0 (none, 0, 0) 0
theorem made_at (m j k : Nat) (hj : j < m) (hk : k < 8) : (madeCells zcells (m * 8))[j * 8 + k]? = zcells[k]? := by
  have h1 : j * 8 + k < m * 8 := by omega
  have h2 : (j * 8 + k) % 8 = k := by omega
  have h3 : zcells.size = 8 := rfl
  simp [madeCells, h1, h3, h2]
  match k, hk with
  | 0, _ => rfl
  | 1, _ => rfl
  | 2, _ => rfl
  | 3, _ => rfl
  | 4, _ => rfl
  | 5, _ => rfl
  | 6, _ => rfl
  | 7, _ => rfl
theorem VFill.made (w : World) (m n : Nat) (S : Nat → Sl) : VFill (w.alloc (.cells (madeCells zcells (m * 8)) 32)) w.heap.size m n 0 S := by
  refine ⟨_, heap_alloc_new w _, size_madeCells _ _, fun j hj => absurd hj (Nat.not_lt_zero _), fun j _ hj => ?_⟩
  have h := fun k hk => made_at m j k hj hk
  exact ⟨h 0 (by omega), h 1 (by omega), h 2 (by omega), h 3 (by omega), h 4 (by omega), h 5 (by omega), h 6 (by omega), h 7 (by omega)⟩
/-- eight cells of a block written -/
abbrev set8o (w : World) (G o : Nat) (a0 a1 a2 a3 a4 a5 a6 a7 : Value) : World :=
  (((((((w.setCell ⟨G, o, none⟩ a0).setCell ⟨G, o + 1, none⟩ a1).setCell ⟨G, o + 2, none⟩ a2).setCell ⟨G, o + 3, none⟩ a3).setCell ⟨G, o + 4, none⟩ a4).setCell ⟨G, o + 5, none⟩ a5).setCell ⟨G, o + 6, none⟩ a6).setCell ⟨G, o + 7, none⟩ a7
abbrev arr8 (cs : Array Value) (o : Nat) (a0 a1 a2 a3 a4 a5 a6 a7 : Value) : Array Value :=
  (((((((cs.setIfInBounds o a0).setIfInBounds (o + 1) a1).setIfInBounds (o + 2) a2).setIfInBounds (o + 3) a3).setIfInBounds (o + 4) a4).setIfInBounds (o + 5) a5).setIfInBounds (o + 6) a6).setIfInBounds (o + 7) a7
theorem set8o_block {w : World} {G o : Nat} {cs : Array Value} {e : TypeId} (h : w.heap[G]? = some (.cells cs e)) (a0 a1 a2 a3 a4 a5 a6 a7 : Value) :
    (set8o w G o a0 a1 a2 a3 a4 a5 a6 a7).heap[G]? = some (.cells (arr8 cs o a0 a1 a2 a3 a4 a5 a6 a7) e) :=
  heap_setCell_same _ G (o + 7) _ e a7 (heap_setCell_same _ G (o + 6) _ e a6 (heap_setCell_same _ G (o + 5) _ e a5 (heap_setCell_same _ G (o + 4) _ e a4 (heap_setCell_same _ G (o + 3) _ e a3 (heap_setCell_same _ G (o + 2) _ e a2 (heap_setCell_same _ G (o + 1) _ e a1 (heap_setCell_same _ G o _ e a0 h)))))))
theorem arr8_size (cs : Array Value) (o : Nat) (a0 a1 a2 a3 a4 a5 a6 a7 : Value) : (arr8 cs o a0 a1 a2 a3 a4 a5 a6 a7).size = cs.size := by simp
theorem arr8_off (cs : Array Value) (o p : Nat) (h : p < o ∨ o + 8 ≤ p) (a0 a1 a2 a3 a4 a5 a6 a7 : Value) : (arr8 cs o a0 a1 a2 a3 a4 a5 a6 a7)[p]? = cs[p]? := by
  rw [Array.getElem?_setIfInBounds_ne (by omega), Array.getElem?_setIfInBounds_ne (by omega), Array.getElem?_setIfInBounds_ne (by omega), Array.getElem?_setIfInBounds_ne (by omega), Array.getElem?_setIfInBounds_ne (by omega), Array.getElem?_setIfInBounds_ne (by omega), Array.getElem?_setIfInBounds_ne (by omega), Array.getElem?_setIfInBounds_ne (by omega)]
theorem arr8_on (cs : Array Value) (o : Nat) (h : o + 8 ≤ cs.size) (a0 a1 a2 a3 a4 a5 a6 a7 : Value) :
    (arr8 cs o a0 a1 a2 a3 a4 a5 a6 a7)[o]? = some a0 ∧ (arr8 cs o a0 a1 a2 a3 a4 a5 a6 a7)[o + 1]? = some a1 ∧ (arr8 cs o a0 a1 a2 a3 a4 a5 a6 a7)[o + 2]? = some a2 ∧ (arr8 cs o a0 a1 a2 a3 a4 a5 a6 a7)[o + 3]? = some a3 ∧
    (arr8 cs o a0 a1 a2 a3 a4 a5 a6 a7)[o + 4]? = some a4 ∧ (arr8 cs o a0 a1 a2 a3 a4 a5 a6 a7)[o + 5]? = some a5 ∧ (arr8 cs o a0 a1 a2 a3 a4 a5 a6 a7)[o + 6]? = some a6 ∧ (arr8 cs o a0 a1 a2 a3 a4 a5 a6 a7)[o + 7]? = some a7 := by
  refine ⟨?_, ?_, ?_, ?_, ?_, ?_, ?_, ?_⟩ <;>
  · repeat rw [Array.getElem?_setIfInBounds_ne (by omega)]
    exact Array.getElem?_setIfInBounds_self_of_lt (by first | omega | (simp; omega))
theorem VFill.put {w : World} {g m n i : Nat} {S : Nat → Sl} (h : VFill w g m n i S) (hi : i < m) {S' : Nat → Sl} (hS : ∀ j, j < i → S' j = S j) :
    VFill (set8o w g (i * 8) (.int .i64 1) (.slice (S' i).1 (S' i).2.1 (S' i).2.2) (.int .i64 n) vnil vnil vnil vnil vnil) g m n (i + 1) S' := by
  obtain ⟨cs, hg, hs, h1, h2⟩ := h
  refine ⟨_, set8o_block hg _ _ _ _ _ _ _ _, by rw [arr8_size]; exact hs, fun j hj => ?_, fun j hj hjm => ?_⟩
  · by_cases e : j = i
    · subst e
      exact arr8_on cs (j * 8) (by omega) _ _ _ _ _ _ _ _
    · obtain ⟨c0, c1, c2, c3, c4, c5, c6, c7⟩ := h1 j (by omega)
      unfold VIs
      rw [hS j (by omega), arr8_off _ _ _ (by omega), arr8_off _ _ _ (by omega), arr8_off _ _ _ (by omega), arr8_off _ _ _ (by omega), arr8_off _ _ _ (by omega), arr8_off _ _ _ (by omega), arr8_off _ _ _ (by omega), arr8_off _ _ _ (by omega)]
      exact ⟨c0, c1, c2, c3, c4, c5, c6, c7⟩
  · obtain ⟨c0, c1, c2, c3, c4, c5, c6, c7⟩ := h2 j (by omega) hjm
    unfold VIs
    rw [arr8_off _ _ _ (by omega), arr8_off _ _ _ (by omega), arr8_off _ _ _ (by omega), arr8_off _ _ _ (by omega), arr8_off _ _ _ (by omega), arr8_off _ _ _ (by omega), arr8_off _ _ _ (by omega), arr8_off _ _ _ (by omega)]
    exact ⟨c0, c1, c2, c3, c4, c5, c6, c7⟩
theorem VFill.below {w w' : World} {g m n i : Nat} {S : Nat → Sl} (h : VFill w g m n i S) (hb : Below w.heap.size w w') : VFill w' g m n i S := by
  obtain ⟨cs, hg, r⟩ := h
  exact ⟨cs, by rw [hb.block _ (lt_of_block hg)]; exact hg, r⟩
theorem VFill.lt {w : World} {g m n i : Nat} {S : Nat → Sl} (h : VFill w g m n i S) : g < w.heap.size := by
  obtain ⟨cs, hg, _⟩ := h
  exact lt_of_block hg
/-- the cells of the place that is filled next -/
theorem VFill.open {w : World} {g m n i : Nat} {S : Nat → Sl} (h : VFill w g m n i S) (hi : i < m) :
    w.cell? ⟨g, i * 8, none⟩ = some (.int .i64 0) ∧ w.cell? ⟨g, i * 8 + 1, none⟩ = some vnil ∧ w.cell? ⟨g, i * 8 + 2, none⟩ = some (.int .i64 0) ∧ w.cell? ⟨g, i * 8 + 3, none⟩ = some vnil ∧
    w.cell? ⟨g, i * 8 + 4, none⟩ = some vnil ∧ w.cell? ⟨g, i * 8 + 5, none⟩ = some vnil ∧ w.cell? ⟨g, i * 8 + 6, none⟩ = some vnil ∧ w.cell? ⟨g, i * 8 + 7, none⟩ = some vnil ∧ ∀ p, w.frozen? ⟨g, p, none⟩ = false := by
  obtain ⟨cs, hg, hs, _, h2⟩ := h
  obtain ⟨c0, c1, c2, c3, c4, c5, c6, c7⟩ := h2 i (Nat.le_refl _) hi
  exact ⟨by rw [cell_of_row _ g _ _ _ (0, 0) hg]; exact c0, by rw [cell_of_row _ g _ _ _ (0, 0) hg]; exact c1, by rw [cell_of_row _ g _ _ _ (0, 0) hg]; exact c2, by rw [cell_of_row _ g _ _ _ (0, 0) hg]; exact c3,
    by rw [cell_of_row _ g _ _ _ (0, 0) hg]; exact c4, by rw [cell_of_row _ g _ _ _ (0, 0) hg]; exact c5, by rw [cell_of_row _ g _ _ _ (0, 0) hg]; exact c6, by rw [cell_of_row _ g _ _ _ (0, 0) hg]; exact c7, fun p => frozen_of_row _ _ p _ _ hg⟩
theorem VFill.bits {w : World} {g m n : Nat} {S : Nat → Sl} {L : Nat → Nat → Bool} (h : VFill w g m n m S) (hb : ∀ j, j < m → BitsIn w (.agg #[.slice (S j).1 (S j).2.1 (S j).2.2, .int .i64 (n : Int)]) n (L j)) : VBits w g m n L S := by
  obtain ⟨cs, hg, hs, h1, _⟩ := h
  intro j hj
  obtain ⟨c0, c1, c2, c3, c4, c5, c6, c7⟩ := h1 j hj
  exact ⟨by rw [cell_of_row _ g _ _ _ (0, 0) hg]; exact c0, by rw [cell_of_row _ g _ _ _ (0, 0) hg]; exact c1, by rw [cell_of_row _ g _ _ _ (0, 0) hg]; exact c2, by rw [cell_of_row _ g _ _ _ (0, 0) hg]; exact c3,
    by rw [cell_of_row _ g _ _ _ (0, 0) hg]; exact c4, by rw [cell_of_row _ g _ _ _ (0, 0) hg]; exact c5, by rw [cell_of_row _ g _ _ _ (0, 0) hg]; exact c6, by rw [cell_of_row _ g _ _ _ (0, 0) hg]; exact c7, hb j hj⟩
theorem below_set8o {B : Nat} {w0 w : World} (h : Below B w0 w) {G : Nat} (hG : B ≤ G) (o : Nat) (a0 a1 a2 a3 a4 a5 a6 a7 : Value) : Below B w0 (set8o w G o a0 a1 a2 a3 a4 a5 a6 a7) :=
  (((((((h.setCell hG _).setCell hG _).setCell hG _).setCell hG _).setCell hG _).setCell hG _).setCell hG _).setCell hG _
theorem block_set8o {w : World} {G k : Nat} (hk : k ≠ G) (o : Nat) (a0 a1 a2 a3 a4 a5 a6 a7 : Value) : (set8o w G o a0 a1 a2 a3 a4 a5 a6 a7).heap[k]? = w.heap[k]? := by
  unfold set8o
  rw [Below.heap_setCell _ _ _ _ hk, Below.heap_setCell _ _ _ _ hk, Below.heap_setCell _ _ _ _ hk, Below.heap_setCell _ _ _ _ hk, Below.heap_setCell _ _ _ _ hk, Below.heap_setCell _ _ _ _ hk, Below.heap_setCell _ _ _ _ hk, Below.heap_setCell _ _ _ _ hk]
theorem own_set8o {w : World} {B : Nat} {e : TypeId} {v : Value} {xs : List Value} (h : Own1 w B e v xs) {G : Nat} (hG : v.ownBlock ≠ some G) (o : Nat) (a0 a1 a2 a3 a4 a5 a6 a7 : Value) : Own1 (set8o w G o a0 a1 a2 a3 a4 a5 a6 a7) B e v xs := by
  unfold Own1 at *
  exact ownsRow_setCell_other (ownsRow_setCell_other (ownsRow_setCell_other (ownsRow_setCell_other (ownsRow_setCell_other (ownsRow_setCell_other (ownsRow_setCell_other (ownsRow_setCell_other h hG _) hG _) hG _) hG _) hG _) hG _) hG _) hG _
end Go.Proofs.YtdddmehchfnppaaGreatDoor
