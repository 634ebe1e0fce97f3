/- Merged texts. The walk of the Fold statements' own example. Conditions: as each theorem says. The walk of the Fold statements' own example: awake tells true. Conditions: none. -/
import Derived.Test.YtdddmehchfnppaaGreatDoorMg20
namespace Go.Proofs.YtdddmehchfnppaaGreatDoor
open Go Go.RowKit Go.Proofs Fl

theorem small8_of {n : Nat} {l : Nat → Int} {k : Int} {b : Sl} {bn : Int} {s i f c x : Sl} {H : Nat → Prop} {W : World} (h : Keeps H W (Small8 n l (vecW k b bn s i f c x))) :
    ∃ a c', vecW k b bn s i f c x = vecV 2 vnil 0 (.slice a n c') vnil vnil vnil vnil ∧ Keeps H W fun W' => Reads1 W' (.slice a n c') ((List.range n).map fun j => .int .i8 (l j)) := by
  obtain ⟨s1, e1, h1⟩ := h.now
  obtain ⟨a, c', rfl, _⟩ := reads_at h1
  refine ⟨a, c', e1, h.imp fun W' h2 => ?_⟩
  obtain ⟨s2, e2, h2⟩ := h2
  rw [e1] at e2
  injection e2 with e2
  have := congrArg (fun z : Array Value => z.getD 3 undef) e2
  simp at this
  rw [this]
  exact h2

/-- a Vec of eight-bit numbers and something else are told -/
def Got8 (n : Nat) (l : Nat → Int) (t : Value) (w : World) (e : Ending) (w' : World) : Prop :=
  ∃ a c, e = .returned (.tuple #[vecV 2 vnil 0 (.slice a n c) vnil vnil vnil vnil, t]) ∧ Reads1 w' (.slice a n c) ((List.range n).map fun j => .int .i8 (l j)) ∧ Below w.heap.size w w'
theorem got8_vec2 {n : Nat} {l : Nat → Int} {H : Nat → Prop} {w : World} (e : Ending) (w' : World) (h : Vec2R H w (Small8 n l) e w') : Got8 n l (.bool true) w e w' := by
  obtain ⟨k, b, bn, s, i, f, c, x, rfl, hk, hb⟩ := h
  obtain ⟨a, c', e1, h1⟩ := small8_of hk
  exact ⟨a, c', by rw [e1], h1.now, hb⟩
theorem got8_ok {n : Nat} {l : Nat → Int} {H : Nat → Prop} {w : World} (e : Ending) (w' : World) (h : VecOk H w (Small8 n l) e w') : Got8 n l (.int .i64 0) w e w' := by
  obtain ⟨k, b, bn, s, i, f, c, x, rfl, hk, hb⟩ := h
  obtain ⟨a, c', e1, h1⟩ := small8_of hk
  exact ⟨a, c', by rw [e1], h1.now, hb⟩

/-- kept at whole numbers that fit eight bits -/
theorem kept_small (v : Value) (n : Nat) (l : Nat → Int) (w : World) (hn : n ≤ 1000000) (h0 : 0 < n) (hr : Reads1 w v ((List.range n).map fun j => .float .f64 (fi (l j)))) (hl : ∀ j, j < n → -128 ≤ l j ∧ l j ≤ 127) :
    Calls Tryz.prog 24 #[v, .int .i64 2] w (Got8 n l (.bool true) w) := by
  obtain ⟨a, c, rfl, hc⟩ := reads_at hr
  obtain ⟨b, o, rfl, _⟩ := hc 0 h0
  have hg : ∀ j, j < n → Good (l j) := fun j hj => by have := hl j hj; exact ⟨by omega, by omega⟩
  refine (kept_yes (fun _ => False) (Small8 n l) (fun W s => Reads1 W (.slice s.1 s.2.1 s.2.2) ((List.range n).map fun j => .float .f64 (fi (l j)))) _ 2 w (fun W W' s h hb => h.below hb) (fun W hb => ?_) (fun W s hb hp => ?_)).mono got8_vec2
  · refine (floats_walk b o n c (fun i => fi (l i)) (fun i => fi (l i)) hn W (fun i hi => ?_) (fun i hi W' => tidy_fi _ (hg i hi) W')).mono ?_
    · obtain ⟨b', o', e, hcell⟩ := hc i hi
      injection e with e
      injection e with e1 e2 _
      subst e1; subst e2
      rw [hb.cell (cell_lt hcell)]
      exact hcell
    · rintro e w' ⟨u, rfl, ho, hb2⟩
      obtain ⟨a, m, c', rfl⟩ : ∃ a m c', u = .slice a m c' := by obtain ⟨a, c, e⟩ := ho.reads.len; exact ⟨a, _, c, e⟩
      exact ⟨(a, m, c'), rfl, ho.reads, hb2⟩
  · exact into_small _ w W (fun _ e => e.elim) hb 4 (by decide) (by decide) _ _ _ _ _ _ _ n l (wholesOf_floats hp hg) (fun w' _ => class_4 _ _ _ _ _ _ _ _) hn hl

/-- the numbers of a Vec of eight-bit numbers are the same as a row of floats -/
theorem nums_small (a : Option Addr) (c n : Nat) (l : Nat → Int) (w : World) (hn : n ≤ 1000000) (hr : Reads1 w (.slice a n c) ((List.range n).map fun j => .int .i8 (l j))) (hl : ∀ j, j < n → -128 ≤ l j ∧ l j ≤ 127) :
    Calls Tryz.prog 13 #[vecV 2 vnil 0 (.slice a n c) vnil vnil vnil vnil] w fun e w' => ∃ v, e = .returned v ∧ Reads1 w' v ((List.range n).map fun j => .float .f64 (fi (l j))) ∧ Below w.heap.size w w' := by
  have hv : VR w (vecV 2 vnil 0 (.slice a n c) vnil vnil vnil vnil) (.small ((List.range n).map l)) := Small8.vr ⟨_, rfl, hr⟩ hl
  have h1 := numsOf_small hv
  rw [List.length_map, List.length_range] at h1
  refine (nums_walk 2 vnil 0 (.slice a n c) vnil vnil vnil vnil n _ w h1 hn).mono ?_
  rintro e w' ⟨v, rfl, ho, hb⟩
  refine ⟨v, rfl, ?_, hb⟩
  have := ho.reads
  have e2 : ((List.range n).map fun j => Value.float .f64 (floatOfInt .f64 (((List.range n).map l).getD j 0))) = (List.range n).map fun j => .float .f64 (fi (l j)) := by
    apply List.map_congr_left
    intro j hj
    have := List.mem_range.1 hj
    simp [List.getD, this, fi]
  rw [e2] at this
  exact this

theorem same_fi (va vb : Value) (n : Nat) (l : Nat → Int) (w : World) (ha : Reads1 w va ((List.range n).map fun j => .float .f64 (fi (l j)))) (hb : Reads1 w vb ((List.range n).map fun j => .float .f64 (fi (l j)))) (hn : n ≤ 1000000) (hg : ∀ j, j < n → Good (l j)) :
    Calls Tryz.prog 12 #[va, vb] w fun e w' => e = .returned (.bool true) ∧ Below w.heap.size w w' :=
  same_walk va vb n _ w ha hb hn fun i hi W => bits_fi _ (hg i hi) W

/-- a new row of floats reads as whole numbers -/
theorem new_reads (w : World) (xs : List Int) (cs : Array Value) (e : TypeId) (h : cs = (xs.map fun z => Value.float .f64 (fi z)).toArray) :
    Reads1 (w.alloc (.cells cs e)) (.slice (some ⟨w.heap.size, 0, none⟩) xs.length xs.length) ((List.range xs.length).map fun j => .float .f64 (fi (xs.getD j 0))) := by
  refine .inr ⟨w.heap.size, 0, _, _, rfl, by simp, fun i hi => ?_⟩
  have hi' : i < xs.length := by simpa using hi
  rw [cell_of_row _ w.heap.size (0 + i) cs e (0, 0) (heap_alloc_new w _), h]
  simp [List.getD, hi']

theorem fi_1 : (4607182418800017408 : Nat) = fi 1 := by decide +kernel
theorem fi_2 : (4611686018427387904 : Nat) = fi 2 := by decide +kernel
theorem fi_3 : (4613937818241073152 : Nat) = fi 3 := by decide +kernel
theorem fi_4 : (4616189618054758400 : Nat) = fi 4 := by decide +kernel
theorem fi_10 : (4621819117588971520 : Nat) = fi 10 := by decide +kernel
theorem fi_n1 : (13830554455654793216 : Nat) = fi (-1) := by decide +kernel
end Go.Proofs.YtdddmehchfnppaaGreatDoor
namespace Go.Proofs.YtdddmehchfnppaaGreatDoor
open Go Go.RowKit Go.Proofs Fl

def fX1 (_ _ j : Nat) : Int := [10, 9, 7, 4].getD j 0
def fX2 (o _ j : Nat) : Int := if o = 0 then [-1, 2].getD j 0 else [-1, 4].getD j 0

theorem l4_at (j : Nat) (h : j < 4) : ([1, 2, 3, 4] : List Int).getD j 0 = (j : Int) + 1 := by
  match j, h with
  | 0, _ => rfl
  | 1, _ => rfl
  | 2, _ => rfl
  | 3, _ => rfl

theorem small1 (j : Nat) (h : j < 1) : -128 ≤ ([10] : List Int).getD j 0 ∧ ([10] : List Int).getD j 0 ≤ 127 := by
  match j, h with
  | 0, _ => decide
theorem good1 (j : Nat) (h : j < 1) : Good (([10] : List Int).getD j 0) := by
  match j, h with
  | 0, _ => decide
theorem small2 (j : Nat) (h : j < 2) : -128 ≤ ([-1, -1] : List Int).getD j 0 ∧ ([-1, -1] : List Int).getD j 0 ≤ 127 := by
  match j, h with
  | 0, _ => decide
  | 1, _ => decide
theorem good2 (j : Nat) (h : j < 2) : Good (([-1, -1] : List Int).getD j 0) := by
  match j, h with
  | 0, _ => decide
  | 1, _ => decide
theorem out1 : (fun j => fX1 (j / 1) (j % 1) 0) = fun _ => 10 := rfl

theorem fold_ex1 (a : Option Addr) (c : Nat) (w : World) (hr : Reads1 w (.slice a 4 c) ((List.range 4).map fun j => .int .i8 (([1, 2, 3, 4] : List Int).getD j 0))) :
    Calls Tryz.prog 27 #[.int .i64 1, vecV 2 vnil 0 (.slice a 4 c) vnil vnil vnil vnil, .int .i64 1, .int .i64 4, .int .i64 1] w (Got8 1 (fun j => ([10] : List Int).getD j 0) (.int .i64 0) w) := by
  have h := fold_small (fun _ => False) 1 (by decide) w (fun _ e => e.elim) (.slice a 4 c) 1 4 1 (fun j => ([1, 2, 3, 4] : List Int).getD j 0) fX1 hr (fun j hj => by have := l4_at j (by omega); omega) (by decide) (by decide) (by decide) (by decide) (by decide) (by decide) (by decide)
    (fun o k ho hk => by
      obtain rfl : o = 0 := by omega
      obtain rfl : k = 0 := by omega
      rfl)
    (fun o k j ho hk hj W => by
      obtain rfl : o = 0 := by omega
      obtain rfl : k = 0 := by omega
      match j, hj with
      | 0, _ => exact whole_add 1 9 (by decide) (by decide) (by decide) W
      | 1, _ => exact whole_add 2 7 (by decide) (by decide) (by decide) W
      | 2, _ => exact whole_add 3 4 (by decide) (by decide) (by decide) W)
    (fun o k ho hk => by
      obtain rfl : o = 0 := by omega
      obtain rfl : k = 0 := by omega
      decide)
    (by decide)
  refine h.mono fun e w' h' => ?_
  have h2 := got8_ok e w' h'
  obtain ⟨a, c, e1, h3, h4⟩ := h2
  exact ⟨a, c, e1, h3, h4⟩

theorem fold_ex2 (a : Option Addr) (c : Nat) (w : World) (hr : Reads1 w (.slice a 4 c) ((List.range 4).map fun j => .int .i8 (([1, 2, 3, 4] : List Int).getD j 0))) :
    Calls Tryz.prog 27 #[.int .i64 2, vecV 2 vnil 0 (.slice a 4 c) vnil vnil vnil vnil, .int .i64 2, .int .i64 2, .int .i64 1] w (Got8 2 (fun j => ([-1, -1] : List Int).getD j 0) (.int .i64 0) w) := by
  have h := fold_small (fun _ => False) 2 (by decide) w (fun _ e => e.elim) (.slice a 4 c) 2 2 1 (fun j => ([1, 2, 3, 4] : List Int).getD j 0) fX2 hr (fun j hj => by have := l4_at j (by omega); omega) (by decide) (by decide) (by decide) (by decide) (by decide) (by decide) (by decide)
    (fun o k ho hk => by
      obtain rfl : k = 0 := by omega
      match o, ho with
      | 0, _ => rfl
      | 1, _ => rfl)
    (fun o k j ho hk hj W => by
      obtain rfl : k = 0 := by omega
      obtain rfl : j = 0 := by omega
      match o, ho with
      | 0, _ => exact whole_sub 1 2 (by decide) (by decide) (by decide) W
      | 1, _ => exact whole_sub 3 4 (by decide) (by decide) (by decide) W)
    (fun o k ho hk => by
      obtain rfl : k = 0 := by omega
      match o, ho with
      | 0, _ => decide
      | 1, _ => decide)
    (by decide)
  refine h.mono fun e w' h' => ?_
  have h2 := got8_ok e w' h'
  obtain ⟨a, c, e1, h3, h4⟩ := h2
  refine ⟨a, c, e1, ?_, h4⟩
  have e2 : ((List.range 2).map fun j => Value.int .i8 (([-1, -1] : List Int).getD j 0)) = (List.range 2).map fun j => .int .i8 (fX2 (j / 1) (j % 1) 0) := rfl
  rw [e2]
  exact h3

set_option maxRecDepth 100000 in
set_option maxHeartbeats 1000000 in
theorem awake_any (w : World) : Calls Tryz.prog 21 #[] w fun e w' => e = .returned (.bool true) ∧ Below w.heap.size w w' := by
  have hR0 := new_reads w [1, 2, 3, 4] #[.float .f64 4607182418800017408, .float .f64 4611686018427387904, .float .f64 4613937818241073152, .float .f64 4616189618054758400] 47 (by rw [fi_1, fi_2, fi_3, fi_4]; rfl)
  have HK := Lib.hid (kept_small _ 4 (fun j => ([1, 2, 3, 4] : List Int).getD j 0) _ (by decide) (by decide) hR0 (fun j hj => by have := l4_at j hj; omega))
  have HB0 := Lib.hid (bel1 w (.cells #[.float .f64 4607182418800017408, .float .f64 4611686018427387904, .float .f64 4613937818241073152, .float .f64 4616189618054758400] 47))
  clear hR0
  go_enter Tryz.func21, Tryz.ntmps21
  go_wp2_with fail
  refine HK.out.mono ?_
  rintro e w1 ⟨a, c, rfl, hr, hb⟩
  have HB1 := Lib.hid (bel_both HB0.out hb)
  have HR1 := Lib.hid hr
  clear hb hr
  have HX1 := Lib.hid (boxed_new w1 32 2 vnil 0 (.slice a 4 c) vnil vnil vnil vnil)
  have HB1' := Lib.hid (bel_both HB1.out (bel1 w1 (.cells #[.int .i64 2, vnil, .int .i64 0, .slice a 4 c, vnil, vnil, vnil, vnil] 32)))
  have HR1' := Lib.hid (HR1.out.below (bel1 w1 (.cells #[.int .i64 2, vnil, .int .i64 0, .slice a 4 c, vnil, vnil, vnil, vnil] 32)))
  have HF1 := Lib.hid (fold_ex1 a c _ HR1'.out)
  go_wp2_with fail
  refine HF1.out.mono ?_
  rintro e w2 ⟨a2, c2, rfl, hr2, hb2⟩
  have HB2 := Lib.hid (bel_both HB1'.out hb2)
  have HX2 := Lib.hid (HX1.out.below hb2)
  have HS1 := Lib.hid (HR1'.out.below hb2)
  have HR2 := Lib.hid hr2
  clear hb2 hr2
  have HX2' := Lib.hid (HX2.out.below (bel1 w2 (.cells #[.int .i64 2, vnil, .int .i64 0, .slice a2 1 c2, vnil, vnil, vnil, vnil] 32)))
  have HB2' := Lib.hid (bel_both HB2.out (bel1 w2 (.cells #[.int .i64 2, vnil, .int .i64 0, .slice a2 1 c2, vnil, vnil, vnil, vnil] 32)))
  have HY2 := Lib.hid (boxed_new w2 32 2 vnil 0 (.slice a2 1 c2) vnil vnil vnil vnil)
  have HR2' := Lib.hid (HR2.out.below (bel1 w2 (.cells #[.int .i64 2, vnil, .int .i64 0, .slice a2 1 c2, vnil, vnil, vnil, vnil] 32)))
  have HS1' := Lib.hid (HS1.out.below (bel1 w2 (.cells #[.int .i64 2, vnil, .int .i64 0, .slice a2 1 c2, vnil, vnil, vnil, vnil] 32)))
  have HF2 := Lib.hid (fold_ex2 a c _ HS1'.out)
  obtain ⟨h0, h1, h2, h3, h4, h5, h6, h7⟩ := HX2'.out
  go_wp2_with fail
  refine HF2.out.mono ?_
  rintro e w3 ⟨a3, c3, rfl, hr3, hb3⟩
  have HB3 := Lib.hid (bel_both HB2'.out hb3)
  have HY3 := Lib.hid (HY2.out.below hb3)
  have HS3 := Lib.hid (HR2'.out.below hb3)
  have HR3 := Lib.hid hr3
  clear hb3 hr3 h0 h1 h2 h3 h4 h5 h6 h7
  have HB4 := Lib.hid (bel_both HB3.out (bel1 w3 (.cells #[.int .i64 2, vnil, .int .i64 0, .slice a3 2 c3, vnil, vnil, vnil, vnil] 32)))
  have HY4 := Lib.hid (HY3.out.below (bel1 w3 (.cells #[.int .i64 2, vnil, .int .i64 0, .slice a3 2 c3, vnil, vnil, vnil, vnil] 32)))
  have HZ4 := Lib.hid (boxed_new w3 32 2 vnil 0 (.slice a3 2 c3) vnil vnil vnil vnil)
  have HS4 := Lib.hid (HS3.out.below (bel1 w3 (.cells #[.int .i64 2, vnil, .int .i64 0, .slice a3 2 c3, vnil, vnil, vnil, vnil] 32)))
  have HR4 := Lib.hid (HR3.out.below (bel1 w3 (.cells #[.int .i64 2, vnil, .int .i64 0, .slice a3 2 c3, vnil, vnil, vnil, vnil] 32)))
  have HN4 := Lib.hid (nums_small a2 c2 1 _ _ (by decide) HS4.out small1)
  obtain ⟨h0, h1, h2, h3, h4, h5, h6, h7⟩ := HY4.out
  go_wp2_with fail
  refine HN4.out.mono ?_
  rintro e w5 ⟨v5, rfl, hr5, hb5⟩
  have HB5 := Lib.hid (bel_both HB4.out hb5)
  have HZ5 := Lib.hid (HZ4.out.below hb5)
  have HS5 := Lib.hid (HR4.out.below hb5)
  have HB5' := Lib.hid (bel_both HB5.out (bel1 w5 (.cells #[.float .f64 4621819117588971520] 47)))
  have HZ5' := Lib.hid (HZ5.out.below (bel1 w5 (.cells #[.float .f64 4621819117588971520] 47)))
  have HS5' := Lib.hid (HS5.out.below (bel1 w5 (.cells #[.float .f64 4621819117588971520] 47)))
  have HM5 := Lib.hid (same_fi _ _ 1 (fun j => ([10] : List Int).getD j 0) _ (hr5.below (bel1 w5 (.cells #[.float .f64 4621819117588971520] 47))) (new_reads w5 [10] #[.float .f64 4621819117588971520] 47 (by rw [fi_10]; rfl)) (by decide) good1)
  clear hb5 hr5 h0 h1 h2 h3 h4 h5 h6 h7
  go_wp2_with fail
  refine HM5.out.mono ?_
  rintro e w6 ⟨rfl, hb6⟩
  have HB6 := Lib.hid (bel_both HB5'.out hb6)
  have HZ6 := Lib.hid (HZ5'.out.below hb6)
  have HS6 := Lib.hid (HS5'.out.below hb6)
  clear hb6
  have HN6 := Lib.hid (nums_small a3 c3 2 _ _ (by decide) HS6.out small2)
  obtain ⟨h0, h1, h2, h3, h4, h5, h6, h7⟩ := HZ6.out
  go_wp2_with fail
  refine HN6.out.mono ?_
  rintro e w7 ⟨v7, rfl, hr7, hb7⟩
  have HB7 := Lib.hid (bel_both HB6.out hb7)
  have HB7' := Lib.hid (bel_both HB7.out (bel1 w7 (.cells #[.float .f64 13830554455654793216, .float .f64 13830554455654793216] 47)))
  have HM7 := Lib.hid (same_fi _ _ 2 (fun j => ([-1, -1] : List Int).getD j 0) _ (hr7.below (bel1 w7 (.cells #[.float .f64 13830554455654793216, .float .f64 13830554455654793216] 47))) (new_reads w7 [-1, -1] #[.float .f64 13830554455654793216, .float .f64 13830554455654793216] 47 (by rw [fi_n1]; rfl)) (by decide) good2)
  clear hb7 hr7 h0 h1 h2 h3 h4 h5 h6 h7
  go_wp2_with fail
  refine HM7.out.mono ?_
  rintro e w8 ⟨rfl, hb8⟩
  have HB8 := Lib.hid (bel_both HB7'.out hb8)
  clear hb8
  go_wp2
  go_ret
  exact ⟨rfl, HB8.out⟩
end Go.Proofs.YtdddmehchfnppaaGreatDoor
