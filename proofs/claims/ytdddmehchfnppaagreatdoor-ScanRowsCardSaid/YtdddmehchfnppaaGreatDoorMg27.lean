/- Merged texts. scan.Scan at eight-bit numbers whose lines come to eight-bit numbers; the walk of kept of law 14. Conditions: as each theorem says. The walk of the Scan statements' own example: awake tells true. Conditions: none. -/
import Derived.Test.YtdddmehchfnppaaGreatDoorMg26
import Derived.Test.YtdddmehchfnppaaGreatDoorMg24
namespace Go.Proofs.YtdddmehchfnppaaGreatDoor
open Go Go.RowKit Go.Proofs Fl

/-- scan.Scan at eight-bit numbers whose lines come to eight-bit numbers, not to truths alone -/
theorem scan_small (H : Nat → Prop) (q : Int) (hq : knownB q = true) (w : World) (hH : ∀ b, H b → b < w.heap.size) (s : Value) (outer n inner T : Nat) (L Z : Nat → Int) (hT : T = outer * n * inner)
    (hr : Reads1 w s ((List.range T).map fun j => .int .i8 (L j))) (hL : ∀ j, j < T → -128 ≤ L j ∧ L j ≤ 127)
    (hn : 2 ≤ n) (hb1 : outer ≤ 1000) (hb2 : n ≤ 1000) (hb3 : inner ≤ 1000) (hbT : T ≤ 1000000) (hpos : 0 < T)
    (hline : ∀ b o0 c g B W F o k, o < outer → k < inner → Row64 W B g T F → b ≠ g → (∀ i, i < T → W.cell? ⟨b, o0 + i, none⟩ = some (.int .i64 (L i))) →
      Calls Tryz.prog 72 #[.int .i64 q, .slice (some ⟨b, o0, none⟩) T c, .slice (some ⟨g, 0, none⟩) T T, .int .i64 ((o * n * inner + k : Nat) : Int), .int .i64 (n : Int), .int .i64 (inner : Int)] W (LineR W B g T (o * n * inner + k) n inner Z F))
    (hg : ∀ j, j < T → -128 ≤ Z j ∧ Z j ≤ 127)
    (h2 : leastS Z T = 2) :
    Calls Tryz.prog 9 #[.int .i64 q, vecV 2 vnil 0 s vnil vnil vnil vnil, .int .i64 (outer : Int), .int .i64 (n : Int), .int .i64 (inner : Int)] w (VecOk H w (Small8 T Z)) := by
  refine scan_wholes H _ (fun W v => Reads1 W v ((List.range T).map fun j => .int .i64 (L j))) q hq 2 vnil 0 s vnil vnil vnil vnil _ _ _ (by omega) (by omega) (by omega) w (fun W => class_2 _ _ _ _ _ _ _ _) (by decide)
    (fun W W' v h hb => h.below hb) (fun W hb => ?_) (fun W v hb hv => ?_)
  · obtain ⟨a, c, rfl, hc⟩ := reads_at hr
    refine (wholes_small vnil 0 (.slice a T c) vnil vnil vnil vnil T L W (by omega) (fun w' _ => len_2 _ _ _ _ _ _ _ _ _ _) (fun w' h' j hj => ?_)).mono ?_
    · obtain ⟨b, o, rfl, hcell⟩ := hc j hj
      exact vwhole_2 _ _ _ _ _ _ _ _ _ _ _ hj _ (hL j hj).1 (hL j hj).2 w' (by rw [(bel_both hb h').cell (cell_lt hcell)]; exact hcell)
    · rintro e w' ⟨g, rfl, ho, hb2⟩
      exact ⟨_, _, _, rfl, ho.reads, hb2⟩
  · obtain ⟨a, c, rfl, hc⟩ := reads_at hv
    obtain ⟨b, o0, rfl, hc0⟩ := hc 0 (by omega)
    have hblt : b < W.heap.size := cell_lt hc0
    refine swholes_done (Hole H w W) _ q _ c T outer n inner Z W hT hb1 hb2 hb3 hbT (fun o k W2 F ho hk hb2 hrow => ?_) (fun j hj => by have := hg j hj; exact ⟨by omega, by omega⟩) (fun W2 u hb2 hu => ?_)
    · refine hline b o0 c (W.heap.size + 1) (W.heap.size + 1) W2 F o k ho hk hrow (by omega) (fun i hi2 => ?_)
      obtain ⟨b', o', e, hcell⟩ := hc i hi2
      injection e with e
      injection e with e1 e2 _
      subst e1; subst e2
      rw [hb2.cell (cell_lt hcell)]
      exact hcell
    · have hwW : w.heap.size ≤ W.heap.size := hb.size
      refine squeeze_small _ W2 u T Z (fun b0 hb0 => ?_) hu.reads hbT hg h2
      have := hb2.size
      rcases hb0 with (e | e) | e
      · have := hH b0 e; omega
      · omega
      · have hlt : W.heap.size < W2.heap.size := by
          rcases hu.2 with ⟨_, h0⟩ | ⟨g, cap, cur, hv, hbg, hg, _⟩
          · have : T = 0 := by simpa using h0
            omega
          · have := lt_of_block hg
            omega
        omega

set_option maxRecDepth 100000 in
set_option maxHeartbeats 1000000 in
/-- kept, where the numbers fit the store -/
theorem kept_yes14 (H : Nat → Prop) (R : Value → World → Prop) (P : World → Sl → Prop) (v : Value) (kind : Int) (w : World)
    (hP : ∀ W W' s, P W s → Below W.heap.size W W' → P W' s)
    (hf : ∀ W, Below w.heap.size w W → Calls Tryz.prog 29 #[v] W fun e w' => ∃ s : Sl, e = .returned (.tuple #[vecV 4 vnil 0 vnil vnil (.slice s.1 s.2.1 s.2.2) vnil vnil, .bool true]) ∧ P w' s ∧ Below W.heap.size W w')
    (hin : ∀ W s, Below w.heap.size w W → P W s → Calls Tryz.prog 30 #[vecV 4 vnil 0 vnil vnil (.slice s.1 s.2.1 s.2.2) vnil vnil, .int .i64 kind] W (IntoR H w W R)) :
    Calls Tryz.prog 7 #[v, .int .i64 kind] w (Vec2R H w R) := by
  have HP := Lib.hid hP
  have HF := Lib.hid hf
  have HI := Lib.hid hin
  clear hP hf hin
  go_enter Tryz.func7, Tryz.ntmps7
  go_wp2_with fail
  refine (HF.out _ (bel1 w _)).mono ?_
  rintro e w1 ⟨s, rfl, hp, hb1⟩
  have HB1 := Lib.hid (bel_both (bel1 w _) hb1)
  have HK1 := Lib.hid (block_up hb1)
  have HB2 := Lib.hid (bel_both HB1.out (bel1 w1 (.cells #[.int .i64 4, vnil, .int .i64 0, vnil, vnil, .slice s.1 s.2.1 s.2.2, vnil, vnil] 32)))
  have HI2 := Lib.hid (HI.out _ s HB2.out (HP.out _ _ _ hp (bel1 w1 (.cells #[.int .i64 4, vnil, .int .i64 0, vnil, vnil, .slice s.1 s.2.1 s.2.2, vnil, vnil] 32))))
  clear hb1 hp
  go_wp2_with fail
  refine HI2.out.mono ?_
  rintro e w2 ⟨k5, b5, bn5, s5, i5, f5, c5, x5, rfl, hk5, hb5⟩
  have HB5 := Lib.hid (bel_both HB2.out hb5)
  have HV5 := Lib.hid (block_up hb5)
  have HK5 := Lib.hid (show w2.heap[w.heap.size]? = some (.cells zcells 32) by
    rw [hb5.block _ (by have := lt_of_block HK1.out; simp; omega), Below.heap_alloc _ _ _ (lt_of_block HK1.out)]; exact HK1.out)
  have HKE := Lib.hid hk5
  have z1 : w.heap.size < w1.heap.size := lt_of_block HK1.out
  have z2 : w1.heap.size < w2.heap.size := lt_of_block HV5.out
  have z3 : w.heap.size < w2.heap.size := lt_of_block HK5.out
  clear hb5 hk5
  obtain ⟨⟨h0, h1, h2, h3, h4, h5, h6, h7⟩, hz⟩ := boxed_of HV5.out
  obtain ⟨⟨g0, g1, g2, g3, g4, g5, g6, g7⟩, gz⟩ := boxed_of HK5.out
  have hzs : (w1.alloc (.cells #[.int .i64 4, vnil, .int .i64 0, vnil, vnil, .slice s.1 s.2.1 s.2.2, vnil, vnil] 32)).heap.size = w1.heap.size + 1 := by simp
  have HZ := Lib.hid hzs
  clear hzs
  have HKX := Lib.hid (((HKE.out.set8 (G := w1.heap.size) (.inr ⟨by omega, by rw [HZ.out]; omega⟩) (.int .i64 k5) (.slice b5.1 b5.2.1 b5.2.2) (.int .i64 bn5) (.slice s5.1 s5.2.1 s5.2.2) (.slice i5.1 i5.2.1 i5.2.2) (.slice f5.1 f5.2.1 f5.2.2) (.slice c5.1 c5.2.1 c5.2.2) (.slice x5.1 x5.2.1 x5.2.2)).set8 (G := w.heap.size) (.inr ⟨by omega, by rw [HZ.out]; omega⟩) (.int .i64 k5) (.slice b5.1 b5.2.1 b5.2.2) (.int .i64 bn5) (.slice s5.1 s5.2.1 s5.2.2) (.slice i5.1 i5.2.1 i5.2.2) (.slice f5.1 f5.2.1 f5.2.2) (.slice c5.1 c5.2.1 c5.2.2) (.slice x5.1 x5.2.1 x5.2.2)).sub (H' := H) fun _ _ e => .inl e)
  have HBX := Lib.hid (below_set8 (below_set8 HB5.out (Nat.le_of_lt z1) (.int .i64 k5) (.slice b5.1 b5.2.1 b5.2.2) (.int .i64 bn5) (.slice s5.1 s5.2.1 s5.2.2) (.slice i5.1 i5.2.1 i5.2.2) (.slice f5.1 f5.2.1 f5.2.2) (.slice c5.1 c5.2.1 c5.2.2) (.slice x5.1 x5.2.1 x5.2.2)) (Nat.le_refl _) (.int .i64 k5) (.slice b5.1 b5.2.1 b5.2.2) (.int .i64 bn5) (.slice s5.1 s5.2.1 s5.2.2) (.slice i5.1 i5.2.1 i5.2.2) (.slice f5.1 f5.2.1 f5.2.2) (.slice c5.1 c5.2.1 c5.2.2) (.slice x5.1 x5.2.1 x5.2.2))
  have HRX := Lib.hid (set8_block (show (set8 w2 w1.heap.size (.int .i64 k5) (.slice b5.1 b5.2.1 b5.2.2) (.int .i64 bn5) (.slice s5.1 s5.2.1 s5.2.2) (.slice i5.1 i5.2.1 i5.2.2) (.slice f5.1 f5.2.1 f5.2.2) (.slice c5.1 c5.2.1 c5.2.2) (.slice x5.1 x5.2.1 x5.2.2)).heap[w.heap.size]? = some (.cells zcells 32) by rw [set8_heap _ _ _ (by omega)]; exact HK5.out) (.int .i64 k5) (.slice b5.1 b5.2.1 b5.2.2) (.int .i64 bn5) (.slice s5.1 s5.2.1 s5.2.2) (.slice i5.1 i5.2.1 i5.2.2) (.slice f5.1 f5.2.1 f5.2.2) (.slice c5.1 c5.2.1 c5.2.2) (.slice x5.1 x5.2.1 x5.2.2))
  go_wp2
  refine bodyPost_ret (v := .tuple #[vecW k5 b5 bn5 s5 i5 f5 c5 x5, .bool true]) ?_ rfl ⟨k5, b5, bn5, s5, i5, f5, c5, x5, rfl, HKX.out.step (bel1 _ _), bel_both HBX.out (bel1 _ _)⟩
  exact ret_vec2 (fn := Tryz.f7) (p := 4) (u := 5) rfl _ _ w.heap.size (by rfl) ((Below.heap_alloc _ _ _ (lt_of_block HRX.out)).trans HRX.out)
/-- kept at whole numbers that fit eight bits -/
theorem kept_small14 (v : Value) (n : Nat) (l : Nat → Int) (w : World) (hn : n ≤ 1000000) (h0 : 0 < n) (hr : Reads1 w v ((List.range n).map fun j => .float .f64 (fi (l j)))) (hl : ∀ j, j < n → -128 ≤ l j ∧ l j ≤ 127) :
    Calls Tryz.prog 7 #[v, .int .i64 2] w (Got8 n l (.bool true) w) := by
  obtain ⟨a, c, rfl, hc⟩ := reads_at hr
  obtain ⟨b, o, rfl, _⟩ := hc 0 h0
  have hg : ∀ j, j < n → Good (l j) := fun j hj => by have := hl j hj; exact ⟨by omega, by omega⟩
  refine (kept_yes14 (fun _ => False) (Small8 n l) (fun W s => Reads1 W (.slice s.1 s.2.1 s.2.2) ((List.range n).map fun j => .float .f64 (fi (l j)))) _ 2 w (fun W W' s h hb => h.below hb) (fun W hb => ?_) (fun W s hb hp => ?_)).mono got8_vec2
  · refine (floats_walk b o n c (fun i => fi (l i)) (fun i => fi (l i)) hn W (fun i hi => ?_) (fun i hi W' => tidy_fi _ (hg i hi) W')).mono ?_
    · obtain ⟨b', o', e, hcell⟩ := hc i hi
      injection e with e
      injection e with e1 e2 _
      subst e1; subst e2
      rw [hb.cell (cell_lt hcell)]
      exact hcell
    · rintro e w' ⟨u, rfl, ho, hb2⟩
      obtain ⟨a, m, c', rfl⟩ : ∃ a m c', u = .slice a m c' := by obtain ⟨a, c, e⟩ := ho.reads.len; exact ⟨a, _, c, e⟩
      exact ⟨(a, m, c'), rfl, ho.reads, hb2⟩
  · exact into_small _ w W (fun _ e => e.elim) hb 4 (by decide) (by decide) _ _ _ _ _ _ _ n l (wholesOf_floats hp hg) (fun w' _ => class_4 _ _ _ _ _ _ _ _) hn hl

end Go.Proofs.YtdddmehchfnppaaGreatDoor
namespace Go.Proofs.YtdddmehchfnppaaGreatDoor
open Go Go.RowKit Go.Proofs Fl

theorem sx_at3 (l : List Int) (P : Int → Prop) (h0 : P (l.getD 0 0)) (h1 : P (l.getD 1 0)) (h2 : P (l.getD 2 0)) (j : Nat) (h : j < 3) : P (l.getD j 0) := by
  match j, h with
  | 0, _ => exact h0
  | 1, _ => exact h1
  | 2, _ => exact h2
theorem sx_l3_small (j : Nat) (h : j < 3) : -128 ≤ ([1, 2, 3] : List Int).getD j 0 ∧ ([1, 2, 3] : List Int).getD j 0 ≤ 127 := sx_at3 [1, 2, 3] (fun z => -128 ≤ z ∧ z ≤ 127) (by decide) (by decide) (by decide) j h
theorem sx_small1 (j : Nat) (h : j < 3) : -128 ≤ ([1, 3, 6] : List Int).getD j 0 ∧ ([1, 3, 6] : List Int).getD j 0 ≤ 127 := sx_at3 [1, 3, 6] (fun z => -128 ≤ z ∧ z ≤ 127) (by decide) (by decide) (by decide) j h
theorem sx_small2 (j : Nat) (h : j < 3) : -128 ≤ ([1, -1, 2] : List Int).getD j 0 ∧ ([1, -1, 2] : List Int).getD j 0 ≤ 127 := sx_at3 [1, -1, 2] (fun z => -128 ≤ z ∧ z ≤ 127) (by decide) (by decide) (by decide) j h
theorem sx_good1 (j : Nat) (h : j < 3) : Good (([1, 3, 6] : List Int).getD j 0) := sx_at3 [1, 3, 6] Good (by decide) (by decide) (by decide) j h
theorem sx_good2 (j : Nat) (h : j < 3) : Good (([1, -1, 2] : List Int).getD j 0) := sx_at3 [1, -1, 2] Good (by decide) (by decide) (by decide) j h
theorem sx_fi_6 : (4618441417868443648 : Nat) = fi 6 := by decide +kernel

theorem sx_lt3 {P : Nat → Prop} (h0 : P 0) (h1 : P 1) (h2 : P 2) (i : Nat) (h : i < 3) : P i := by
  match i, h with
  | 0, _ => exact h0
  | 1, _ => exact h1
  | 2, _ => exact h2
theorem sx_le3 {P : Nat → Prop} (h0 : P 0) (h1 : P 1) (h2 : P 2) (h3 : P 3) (i : Nat) (h : i ≤ 3) : P i := by
  match i, h with
  | 0, _ => exact h0
  | 1, _ => exact h1
  | 2, _ => exact h2
  | 3, _ => exact h3

theorem scan_ex1 (a : Option Addr) (c : Nat) (w : World) (hr : Reads1 w (.slice a 3 c) ((List.range 3).map fun j => .int .i8 (([1, 2, 3] : List Int).getD j 0))) :
    Calls Tryz.prog 9 #[.int .i64 1, vecV 2 vnil 0 (.slice a 3 c) vnil vnil vnil vnil, .int .i64 1, .int .i64 3, .int .i64 1] w (Got8 3 (fun j => ([1, 3, 6] : List Int).getD j 0) (.int .i64 0) w) := by
  have h := scan_small (fun _ => False) 1 (by decide) w (fun _ e => e.elim) (.slice a 3 c) 1 3 1 3 (fun j => ([1, 2, 3] : List Int).getD j 0) (fun j => ([1, 3, 6] : List Int).getD j 0) rfl hr sx_l3_small (by decide) (by decide) (by decide) (by decide) (by decide) (by decide)
    (fun b o0 c g B W F o k ho hk hrow hbg hc => by
      obtain rfl : o = 0 := by omega
      obtain rfl : k = 0 := by omega
      exact line_add b o0 c 3 g B 0 3 1 (fun j => ([1, 2, 3] : List Int).getD j 0) (fun j => ([1, 3, 6] : List Int).getD j 0) F (fun i => ([0, 1, 3, 6] : List Int).getD i 0) W (by decide) (by decide) hrow hbg hc (by intro i hi; omega)
        (fun j h => sx_at3 [1, 2, 3] Good (by decide) (by decide) (by decide) j h) rfl (sx_lt3 rfl rfl rfl) (sx_le3 (by decide) (by decide) (by decide) (by decide)) (fun i => ([0, 1, 3, 6] : List Int).getD i 0) rfl (sx_lt3 rfl rfl rfl) (sx_le3 (by decide) (by decide) (by decide) (by decide)) (sx_lt3 rfl rfl rfl))
    sx_small1 (by decide)
  exact h.mono fun e w' h' => got8_ok e w' h'

theorem scan_ex2 (a : Option Addr) (c : Nat) (w : World) (hr : Reads1 w (.slice a 3 c) ((List.range 3).map fun j => .int .i8 (([1, 2, 3] : List Int).getD j 0))) :
    Calls Tryz.prog 9 #[.int .i64 2, vecV 2 vnil 0 (.slice a 3 c) vnil vnil vnil vnil, .int .i64 1, .int .i64 3, .int .i64 1] w (Got8 3 (fun j => ([1, -1, 2] : List Int).getD j 0) (.int .i64 0) w) := by
  have h := scan_small (fun _ => False) 2 (by decide) w (fun _ e => e.elim) (.slice a 3 c) 1 3 1 3 (fun j => ([1, 2, 3] : List Int).getD j 0) (fun j => ([1, -1, 2] : List Int).getD j 0) rfl hr sx_l3_small (by decide) (by decide) (by decide) (by decide) (by decide) (by decide)
    (fun b o0 c g B W F o k ho hk hrow hbg hc => by
      obtain rfl : o = 0 := by omega
      obtain rfl : k = 0 := by omega
      exact line_sub b o0 c 3 g B 0 3 1 (fun j => ([1, 2, 3] : List Int).getD j 0) (fun j => ([1, -1, 2] : List Int).getD j 0) F (fun i => ([0, 1, 3, 6] : List Int).getD i 0) W (by decide) (by decide) hrow hbg hc (by intro i hi; omega)
        (fun j h => sx_at3 [1, 2, 3] Good (by decide) (by decide) (by decide) j h) rfl (sx_lt3 rfl rfl rfl) (sx_le3 (by decide) (by decide) (by decide) (by decide)) (fun i => ([0, 1, -1, 2] : List Int).getD i 0) rfl (sx_lt3 rfl rfl rfl) (sx_le3 (by decide) (by decide) (by decide) (by decide)) (sx_lt3 rfl rfl rfl))
    sx_small2 (by decide)
  exact h.mono fun e w' h' => got8_ok e w' h'

set_option maxRecDepth 100000 in
set_option maxHeartbeats 1000000 in
theorem awake_any14 (w : World) : Calls Tryz.prog 6 #[] w fun e w' => e = .returned (.bool true) ∧ Below w.heap.size w w' := by
  have hR0 := new_reads w [1, 2, 3] #[.float .f64 4607182418800017408, .float .f64 4611686018427387904, .float .f64 4613937818241073152] 47 (by rw [fi_1, fi_2, fi_3]; rfl)
  have HK := Lib.hid (kept_small14 _ 3 (fun j => ([1, 2, 3] : List Int).getD j 0) _ (by decide) (by decide) hR0 sx_l3_small)
  have HB0 := Lib.hid (bel1 w (.cells #[.float .f64 4607182418800017408, .float .f64 4611686018427387904, .float .f64 4613937818241073152] 47))
  clear hR0
  go_enter Tryz.func6, Tryz.ntmps6
  go_wp2_with fail
  refine HK.out.mono ?_
  rintro e w1 ⟨a, c, rfl, hr, hb⟩
  have HB1 := Lib.hid (bel_both HB0.out hb)
  have HR1 := Lib.hid hr
  clear hb hr
  have HX1 := Lib.hid (boxed_new w1 32 2 vnil 0 (.slice a 3 c) vnil vnil vnil vnil)
  have HB1' := Lib.hid (bel_both HB1.out (bel1 w1 (.cells #[.int .i64 2, vnil, .int .i64 0, .slice a 3 c, vnil, vnil, vnil, vnil] 32)))
  have HR1' := Lib.hid (HR1.out.below (bel1 w1 (.cells #[.int .i64 2, vnil, .int .i64 0, .slice a 3 c, vnil, vnil, vnil, vnil] 32)))
  have HF1 := Lib.hid (scan_ex1 a c _ HR1'.out)
  go_wp2_with fail
  refine HF1.out.mono ?_
  rintro e w2 ⟨a2, c2, rfl, hr2, hb2⟩
  have HB2 := Lib.hid (bel_both HB1'.out hb2)
  have HX2 := Lib.hid (HX1.out.below hb2)
  have HS1 := Lib.hid (HR1'.out.below hb2)
  have HR2 := Lib.hid hr2
  clear hb2 hr2
  have HX2' := Lib.hid (HX2.out.below (bel1 w2 (.cells #[.int .i64 2, vnil, .int .i64 0, .slice a2 3 c2, vnil, vnil, vnil, vnil] 32)))
  have HB2' := Lib.hid (bel_both HB2.out (bel1 w2 (.cells #[.int .i64 2, vnil, .int .i64 0, .slice a2 3 c2, vnil, vnil, vnil, vnil] 32)))
  have HY2 := Lib.hid (boxed_new w2 32 2 vnil 0 (.slice a2 3 c2) vnil vnil vnil vnil)
  have HR2' := Lib.hid (HR2.out.below (bel1 w2 (.cells #[.int .i64 2, vnil, .int .i64 0, .slice a2 3 c2, vnil, vnil, vnil, vnil] 32)))
  have HS1' := Lib.hid (HS1.out.below (bel1 w2 (.cells #[.int .i64 2, vnil, .int .i64 0, .slice a2 3 c2, vnil, vnil, vnil, vnil] 32)))
  have HF2 := Lib.hid (scan_ex2 a c _ HS1'.out)
  obtain ⟨h0, h1, h2, h3, h4, h5, h6, h7⟩ := HX2'.out
  go_wp2_with fail
  refine HF2.out.mono ?_
  rintro e w3 ⟨a3, c3, rfl, hr3, hb3⟩
  have HB3 := Lib.hid (bel_both HB2'.out hb3)
  have HY3 := Lib.hid (HY2.out.below hb3)
  have HS3 := Lib.hid (HR2'.out.below hb3)
  have HR3 := Lib.hid hr3
  clear hb3 hr3 h0 h1 h2 h3 h4 h5 h6 h7
  have HB4 := Lib.hid (bel_both HB3.out (bel1 w3 (.cells #[.int .i64 2, vnil, .int .i64 0, .slice a3 3 c3, vnil, vnil, vnil, vnil] 32)))
  have HY4 := Lib.hid (HY3.out.below (bel1 w3 (.cells #[.int .i64 2, vnil, .int .i64 0, .slice a3 3 c3, vnil, vnil, vnil, vnil] 32)))
  have HZ4 := Lib.hid (boxed_new w3 32 2 vnil 0 (.slice a3 3 c3) vnil vnil vnil vnil)
  have HS4 := Lib.hid (HS3.out.below (bel1 w3 (.cells #[.int .i64 2, vnil, .int .i64 0, .slice a3 3 c3, vnil, vnil, vnil, vnil] 32)))
  have HR4 := Lib.hid (HR3.out.below (bel1 w3 (.cells #[.int .i64 2, vnil, .int .i64 0, .slice a3 3 c3, vnil, vnil, vnil, vnil] 32)))
  have HN4 := Lib.hid (nums_small a2 c2 3 _ _ (by decide) HS4.out sx_small1)
  obtain ⟨h0, h1, h2, h3, h4, h5, h6, h7⟩ := HY4.out
  go_wp2_with fail
  refine HN4.out.mono ?_
  rintro e w5 ⟨v5, rfl, hr5, hb5⟩
  have HB5 := Lib.hid (bel_both HB4.out hb5)
  have HZ5 := Lib.hid (HZ4.out.below hb5)
  have HS5 := Lib.hid (HR4.out.below hb5)
  have HB5' := Lib.hid (bel_both HB5.out (bel1 w5 (.cells #[.float .f64 4607182418800017408, .float .f64 4613937818241073152, .float .f64 4618441417868443648] 47)))
  have HZ5' := Lib.hid (HZ5.out.below (bel1 w5 (.cells #[.float .f64 4607182418800017408, .float .f64 4613937818241073152, .float .f64 4618441417868443648] 47)))
  have HS5' := Lib.hid (HS5.out.below (bel1 w5 (.cells #[.float .f64 4607182418800017408, .float .f64 4613937818241073152, .float .f64 4618441417868443648] 47)))
  have HM5 := Lib.hid (same_fi _ _ 3 (fun j => ([1, 3, 6] : List Int).getD j 0) _ (hr5.below (bel1 w5 (.cells #[.float .f64 4607182418800017408, .float .f64 4613937818241073152, .float .f64 4618441417868443648] 47))) (new_reads w5 [1, 3, 6] #[.float .f64 4607182418800017408, .float .f64 4613937818241073152, .float .f64 4618441417868443648] 47 (by rw [fi_1, fi_3, sx_fi_6]; rfl)) (by decide) sx_good1)
  clear hb5 hr5 h0 h1 h2 h3 h4 h5 h6 h7
  go_wp2_with fail
  refine HM5.out.mono ?_
  rintro e w6 ⟨rfl, hb6⟩
  have HB6 := Lib.hid (bel_both HB5'.out hb6)
  have HZ6 := Lib.hid (HZ5'.out.below hb6)
  have HS6 := Lib.hid (HS5'.out.below hb6)
  clear hb6
  have HN6 := Lib.hid (nums_small a3 c3 3 _ _ (by decide) HS6.out sx_small2)
  obtain ⟨h0, h1, h2, h3, h4, h5, h6, h7⟩ := HZ6.out
  go_wp2_with fail
  refine HN6.out.mono ?_
  rintro e w7 ⟨v7, rfl, hr7, hb7⟩
  have HB7 := Lib.hid (bel_both HB6.out hb7)
  have HB7' := Lib.hid (bel_both HB7.out (bel1 w7 (.cells #[.float .f64 4607182418800017408, .float .f64 13830554455654793216, .float .f64 4611686018427387904] 47)))
  have HM7 := Lib.hid (same_fi _ _ 3 (fun j => ([1, -1, 2] : List Int).getD j 0) _ (hr7.below (bel1 w7 (.cells #[.float .f64 4607182418800017408, .float .f64 13830554455654793216, .float .f64 4611686018427387904] 47))) (new_reads w7 [1, -1, 2] #[.float .f64 4607182418800017408, .float .f64 13830554455654793216, .float .f64 4611686018427387904] 47 (by rw [fi_1, fi_n1, fi_2]; rfl)) (by decide) sx_good2)
  clear hb7 hr7 h0 h1 h2 h3 h4 h5 h6 h7
  go_wp2_with fail
  refine HM7.out.mono ?_
  rintro e w8 ⟨rfl, hb8⟩
  have HB8 := Lib.hid (bel_both HB7'.out hb8)
  clear hb8
  go_wp2
  go_ret
  exact ⟨rfl, HB8.out⟩
end Go.Proofs.YtdddmehchfnppaaGreatDoor
