/- The walk of the Scan statements' own example: awake tells true. Conditions: none. -/
import Derived.Test.YtdddmehchfnppaaDoorSsm
namespace Go.Proofs.YtdddmehchfnppaaDoor
open Go Go.RowKit Go.Proofs Fl

theorem at3 (l : List Int) (P : Int → Prop) (h0 : P (l.getD 0 0)) (h1 : P (l.getD 1 0)) (h2 : P (l.getD 2 0)) (j : Nat) (h : j < 3) : P (l.getD j 0) := by
  match j, h with
  | 0, _ => exact h0
  | 1, _ => exact h1
  | 2, _ => exact h2
theorem l3_small (j : Nat) (h : j < 3) : -128 ≤ ([1, 2, 3] : List Int).getD j 0 ∧ ([1, 2, 3] : List Int).getD j 0 ≤ 127 := at3 [1, 2, 3] (fun z => -128 ≤ z ∧ z ≤ 127) (by decide) (by decide) (by decide) j h
theorem small1 (j : Nat) (h : j < 3) : -128 ≤ ([1, 3, 6] : List Int).getD j 0 ∧ ([1, 3, 6] : List Int).getD j 0 ≤ 127 := at3 [1, 3, 6] (fun z => -128 ≤ z ∧ z ≤ 127) (by decide) (by decide) (by decide) j h
theorem small2 (j : Nat) (h : j < 3) : -128 ≤ ([1, -1, 2] : List Int).getD j 0 ∧ ([1, -1, 2] : List Int).getD j 0 ≤ 127 := at3 [1, -1, 2] (fun z => -128 ≤ z ∧ z ≤ 127) (by decide) (by decide) (by decide) j h
theorem good1 (j : Nat) (h : j < 3) : Good (([1, 3, 6] : List Int).getD j 0) := at3 [1, 3, 6] Good (by decide) (by decide) (by decide) j h
theorem good2 (j : Nat) (h : j < 3) : Good (([1, -1, 2] : List Int).getD j 0) := at3 [1, -1, 2] Good (by decide) (by decide) (by decide) j h
theorem fi_6 : (4618441417868443648 : Nat) = fi 6 := by decide +kernel

theorem lt3 {P : Nat → Prop} (h0 : P 0) (h1 : P 1) (h2 : P 2) (i : Nat) (h : i < 3) : P i := by
  match i, h with
  | 0, _ => exact h0
  | 1, _ => exact h1
  | 2, _ => exact h2
theorem le3 {P : Nat → Prop} (h0 : P 0) (h1 : P 1) (h2 : P 2) (h3 : P 3) (i : Nat) (h : i ≤ 3) : P i := by
  match i, h with
  | 0, _ => exact h0
  | 1, _ => exact h1
  | 2, _ => exact h2
  | 3, _ => exact h3

theorem scan_ex1 (a : Option Addr) (c : Nat) (w : World) (hr : Reads1 w (.slice a 3 c) ((List.range 3).map fun j => .int .i8 (([1, 2, 3] : List Int).getD j 0))) :
    Calls Tryd.prog 23 #[.int .i64 1, vecV 2 vnil 0 (.slice a 3 c) vnil vnil vnil vnil, .int .i64 1, .int .i64 3, .int .i64 1] w (Got8 3 (fun j => ([1, 3, 6] : List Int).getD j 0) (.int .i64 0) w) := by
  have h := scan_small (fun _ => False) 1 (by decide) w (fun _ e => e.elim) (.slice a 3 c) 1 3 1 3 (fun j => ([1, 2, 3] : List Int).getD j 0) (fun j => ([1, 3, 6] : List Int).getD j 0) rfl hr l3_small (by decide) (by decide) (by decide) (by decide) (by decide) (by decide)
    (fun b o0 c g B W F o k ho hk hrow hbg hc => by
      obtain rfl : o = 0 := by omega
      obtain rfl : k = 0 := by omega
      exact line_add b o0 c 3 g B 0 3 1 (fun j => ([1, 2, 3] : List Int).getD j 0) (fun j => ([1, 3, 6] : List Int).getD j 0) F (fun i => ([0, 1, 3, 6] : List Int).getD i 0) W (by decide) (by decide) hrow hbg hc (by intro i hi; omega)
        (fun j h => at3 [1, 2, 3] Good (by decide) (by decide) (by decide) j h) rfl (lt3 rfl rfl rfl) (le3 (by decide) (by decide) (by decide) (by decide)) (fun i => ([0, 1, 3, 6] : List Int).getD i 0) rfl (lt3 rfl rfl rfl) (le3 (by decide) (by decide) (by decide) (by decide)) (lt3 rfl rfl rfl))
    small1 (by decide)
  exact h.mono fun e w' h' => got8_ok e w' h'

theorem scan_ex2 (a : Option Addr) (c : Nat) (w : World) (hr : Reads1 w (.slice a 3 c) ((List.range 3).map fun j => .int .i8 (([1, 2, 3] : List Int).getD j 0))) :
    Calls Tryd.prog 23 #[.int .i64 2, vecV 2 vnil 0 (.slice a 3 c) vnil vnil vnil vnil, .int .i64 1, .int .i64 3, .int .i64 1] w (Got8 3 (fun j => ([1, -1, 2] : List Int).getD j 0) (.int .i64 0) w) := by
  have h := scan_small (fun _ => False) 2 (by decide) w (fun _ e => e.elim) (.slice a 3 c) 1 3 1 3 (fun j => ([1, 2, 3] : List Int).getD j 0) (fun j => ([1, -1, 2] : List Int).getD j 0) rfl hr l3_small (by decide) (by decide) (by decide) (by decide) (by decide) (by decide)
    (fun b o0 c g B W F o k ho hk hrow hbg hc => by
      obtain rfl : o = 0 := by omega
      obtain rfl : k = 0 := by omega
      exact line_sub b o0 c 3 g B 0 3 1 (fun j => ([1, 2, 3] : List Int).getD j 0) (fun j => ([1, -1, 2] : List Int).getD j 0) F (fun i => ([0, 1, 3, 6] : List Int).getD i 0) W (by decide) (by decide) hrow hbg hc (by intro i hi; omega)
        (fun j h => at3 [1, 2, 3] Good (by decide) (by decide) (by decide) j h) rfl (lt3 rfl rfl rfl) (le3 (by decide) (by decide) (by decide) (by decide)) (fun i => ([0, 1, -1, 2] : List Int).getD i 0) rfl (lt3 rfl rfl rfl) (le3 (by decide) (by decide) (by decide) (by decide)) (lt3 rfl rfl rfl))
    small2 (by decide)
  exact h.mono fun e w' h' => got8_ok e w' h'

set_option maxRecDepth 100000 in
set_option maxHeartbeats 1000000 in
theorem awake_any14 (w : World) : Calls Tryd.prog 22 #[] w fun e w' => e = .returned (.bool true) ∧ Below w.heap.size w w' := by
  have hR0 := new_reads w [1, 2, 3] #[.float .f64 4607182418800017408, .float .f64 4611686018427387904, .float .f64 4613937818241073152] 26 (by rw [fi_1, fi_2, fi_3]; rfl)
  have HK := Lib.hid (kept_small14 _ 3 (fun j => ([1, 2, 3] : List Int).getD j 0) _ (by decide) (by decide) hR0 l3_small)
  have HB0 := Lib.hid (bel1 w (.cells #[.float .f64 4607182418800017408, .float .f64 4611686018427387904, .float .f64 4613937818241073152] 26))
  clear hR0
  go_enter Tryd.func22, Tryd.ntmps22
  go_wp2_with fail
  refine HK.out.mono ?_
  rintro e w1 ⟨a, c, rfl, hr, hb⟩
  have HB1 := Lib.hid (bel_both HB0.out hb)
  have HR1 := Lib.hid hr
  clear hb hr
  have HX1 := Lib.hid (boxed_new w1 35 2 vnil 0 (.slice a 3 c) vnil vnil vnil vnil)
  have HB1' := Lib.hid (bel_both HB1.out (bel1 w1 (.cells #[.int .i64 2, vnil, .int .i64 0, .slice a 3 c, vnil, vnil, vnil, vnil] 35)))
  have HR1' := Lib.hid (HR1.out.below (bel1 w1 (.cells #[.int .i64 2, vnil, .int .i64 0, .slice a 3 c, vnil, vnil, vnil, vnil] 35)))
  have HF1 := Lib.hid (scan_ex1 a c _ HR1'.out)
  go_wp2_with fail
  refine HF1.out.mono ?_
  rintro e w2 ⟨a2, c2, rfl, hr2, hb2⟩
  have HB2 := Lib.hid (bel_both HB1'.out hb2)
  have HX2 := Lib.hid (HX1.out.below hb2)
  have HS1 := Lib.hid (HR1'.out.below hb2)
  have HR2 := Lib.hid hr2
  clear hb2 hr2
  have HX2' := Lib.hid (HX2.out.below (bel1 w2 (.cells #[.int .i64 2, vnil, .int .i64 0, .slice a2 3 c2, vnil, vnil, vnil, vnil] 35)))
  have HB2' := Lib.hid (bel_both HB2.out (bel1 w2 (.cells #[.int .i64 2, vnil, .int .i64 0, .slice a2 3 c2, vnil, vnil, vnil, vnil] 35)))
  have HY2 := Lib.hid (boxed_new w2 35 2 vnil 0 (.slice a2 3 c2) vnil vnil vnil vnil)
  have HR2' := Lib.hid (HR2.out.below (bel1 w2 (.cells #[.int .i64 2, vnil, .int .i64 0, .slice a2 3 c2, vnil, vnil, vnil, vnil] 35)))
  have HS1' := Lib.hid (HS1.out.below (bel1 w2 (.cells #[.int .i64 2, vnil, .int .i64 0, .slice a2 3 c2, vnil, vnil, vnil, vnil] 35)))
  have HF2 := Lib.hid (scan_ex2 a c _ HS1'.out)
  obtain ⟨h0, h1, h2, h3, h4, h5, h6, h7⟩ := HX2'.out
  go_wp2_with fail
  refine HF2.out.mono ?_
  rintro e w3 ⟨a3, c3, rfl, hr3, hb3⟩
  have HB3 := Lib.hid (bel_both HB2'.out hb3)
  have HY3 := Lib.hid (HY2.out.below hb3)
  have HS3 := Lib.hid (HR2'.out.below hb3)
  have HR3 := Lib.hid hr3
  clear hb3 hr3 h0 h1 h2 h3 h4 h5 h6 h7
  have HB4 := Lib.hid (bel_both HB3.out (bel1 w3 (.cells #[.int .i64 2, vnil, .int .i64 0, .slice a3 3 c3, vnil, vnil, vnil, vnil] 35)))
  have HY4 := Lib.hid (HY3.out.below (bel1 w3 (.cells #[.int .i64 2, vnil, .int .i64 0, .slice a3 3 c3, vnil, vnil, vnil, vnil] 35)))
  have HZ4 := Lib.hid (boxed_new w3 35 2 vnil 0 (.slice a3 3 c3) vnil vnil vnil vnil)
  have HS4 := Lib.hid (HS3.out.below (bel1 w3 (.cells #[.int .i64 2, vnil, .int .i64 0, .slice a3 3 c3, vnil, vnil, vnil, vnil] 35)))
  have HR4 := Lib.hid (HR3.out.below (bel1 w3 (.cells #[.int .i64 2, vnil, .int .i64 0, .slice a3 3 c3, vnil, vnil, vnil, vnil] 35)))
  have HN4 := Lib.hid (nums_small a2 c2 3 _ _ (by decide) HS4.out small1)
  obtain ⟨h0, h1, h2, h3, h4, h5, h6, h7⟩ := HY4.out
  go_wp2_with fail
  refine HN4.out.mono ?_
  rintro e w5 ⟨v5, rfl, hr5, hb5⟩
  have HB5 := Lib.hid (bel_both HB4.out hb5)
  have HZ5 := Lib.hid (HZ4.out.below hb5)
  have HS5 := Lib.hid (HR4.out.below hb5)
  have HB5' := Lib.hid (bel_both HB5.out (bel1 w5 (.cells #[.float .f64 4607182418800017408, .float .f64 4613937818241073152, .float .f64 4618441417868443648] 26)))
  have HZ5' := Lib.hid (HZ5.out.below (bel1 w5 (.cells #[.float .f64 4607182418800017408, .float .f64 4613937818241073152, .float .f64 4618441417868443648] 26)))
  have HS5' := Lib.hid (HS5.out.below (bel1 w5 (.cells #[.float .f64 4607182418800017408, .float .f64 4613937818241073152, .float .f64 4618441417868443648] 26)))
  have HM5 := Lib.hid (same_fi _ _ 3 (fun j => ([1, 3, 6] : List Int).getD j 0) _ (hr5.below (bel1 w5 (.cells #[.float .f64 4607182418800017408, .float .f64 4613937818241073152, .float .f64 4618441417868443648] 26))) (new_reads w5 [1, 3, 6] #[.float .f64 4607182418800017408, .float .f64 4613937818241073152, .float .f64 4618441417868443648] 26 (by rw [fi_1, fi_3, fi_6]; rfl)) (by decide) good1)
  clear hb5 hr5 h0 h1 h2 h3 h4 h5 h6 h7
  go_wp2_with fail
  refine HM5.out.mono ?_
  rintro e w6 ⟨rfl, hb6⟩
  have HB6 := Lib.hid (bel_both HB5'.out hb6)
  have HZ6 := Lib.hid (HZ5'.out.below hb6)
  have HS6 := Lib.hid (HS5'.out.below hb6)
  clear hb6
  have HN6 := Lib.hid (nums_small a3 c3 3 _ _ (by decide) HS6.out small2)
  obtain ⟨h0, h1, h2, h3, h4, h5, h6, h7⟩ := HZ6.out
  go_wp2_with fail
  refine HN6.out.mono ?_
  rintro e w7 ⟨v7, rfl, hr7, hb7⟩
  have HB7 := Lib.hid (bel_both HB6.out hb7)
  have HB7' := Lib.hid (bel_both HB7.out (bel1 w7 (.cells #[.float .f64 4607182418800017408, .float .f64 13830554455654793216, .float .f64 4611686018427387904] 26)))
  have HM7 := Lib.hid (same_fi _ _ 3 (fun j => ([1, -1, 2] : List Int).getD j 0) _ (hr7.below (bel1 w7 (.cells #[.float .f64 4607182418800017408, .float .f64 13830554455654793216, .float .f64 4611686018427387904] 26))) (new_reads w7 [1, -1, 2] #[.float .f64 4607182418800017408, .float .f64 13830554455654793216, .float .f64 4611686018427387904] 26 (by rw [fi_1, fi_n1, fi_2]; rfl)) (by decide) good2)
  clear hb7 hr7 h0 h1 h2 h3 h4 h5 h6 h7
  go_wp2_with fail
  refine HM7.out.mono ?_
  rintro e w8 ⟨rfl, hb8⟩
  have HB8 := Lib.hid (bel_both HB7'.out hb8)
  clear hb8
  go_wp2
  go_ret
  exact ⟨rfl, HB8.out⟩
end Go.Proofs.YtdddmehchfnppaaDoor
