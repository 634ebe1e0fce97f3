/- The walk of the Fold statements' own example: awake tells true. Conditions: none. -/
import Derived.Test.YtdddmehchfnppaaDoorAwm
namespace Go.Proofs.YtdddmehchfnppaaDoor
open Go Go.RowKit Go.Proofs Fl

def fX1 (_ _ j : Nat) : Int := [10, 9, 7, 4].getD j 0
def fX2 (o _ j : Nat) : Int := if o = 0 then [-1, 2].getD j 0 else [-1, 4].getD j 0

theorem l4_at (j : Nat) (h : j < 4) : ([1, 2, 3, 4] : List Int).getD j 0 = (j : Int) + 1 := by
  match j, h with
  | 0, _ => rfl
  | 1, _ => rfl
  | 2, _ => rfl
  | 3, _ => rfl

theorem small1 (j : Nat) (h : j < 1) : -128 ≤ ([10] : List Int).getD j 0 ∧ ([10] : List Int).getD j 0 ≤ 127 := by
  match j, h with
  | 0, _ => decide
theorem good1 (j : Nat) (h : j < 1) : Good (([10] : List Int).getD j 0) := by
  match j, h with
  | 0, _ => decide
theorem small2 (j : Nat) (h : j < 2) : -128 ≤ ([-1, -1] : List Int).getD j 0 ∧ ([-1, -1] : List Int).getD j 0 ≤ 127 := by
  match j, h with
  | 0, _ => decide
  | 1, _ => decide
theorem good2 (j : Nat) (h : j < 2) : Good (([-1, -1] : List Int).getD j 0) := by
  match j, h with
  | 0, _ => decide
  | 1, _ => decide
theorem out1 : (fun j => fX1 (j / 1) (j % 1) 0) = fun _ => 10 := rfl

theorem fold_ex1 (a : Option Addr) (c : Nat) (w : World) (hr : Reads1 w (.slice a 4 c) ((List.range 4).map fun j => .int .i8 (([1, 2, 3, 4] : List Int).getD j 0))) :
    Calls Tryd.prog 10 #[.int .i64 1, vecV 2 vnil 0 (.slice a 4 c) vnil vnil vnil vnil, .int .i64 1, .int .i64 4, .int .i64 1] w (Got8 1 (fun j => ([10] : List Int).getD j 0) (.int .i64 0) w) := by
  have h := fold_small (fun _ => False) 1 (by decide) w (fun _ e => e.elim) (.slice a 4 c) 1 4 1 (fun j => ([1, 2, 3, 4] : List Int).getD j 0) fX1 hr (fun j hj => by have := l4_at j (by omega); omega) (by decide) (by decide) (by decide) (by decide) (by decide) (by decide) (by decide)
    (fun o k ho hk => by
      obtain rfl : o = 0 := by omega
      obtain rfl : k = 0 := by omega
      rfl)
    (fun o k j ho hk hj W => by
      obtain rfl : o = 0 := by omega
      obtain rfl : k = 0 := by omega
      match j, hj with
      | 0, _ => exact whole_add 1 9 (by decide) (by decide) (by decide) W
      | 1, _ => exact whole_add 2 7 (by decide) (by decide) (by decide) W
      | 2, _ => exact whole_add 3 4 (by decide) (by decide) (by decide) W)
    (fun o k ho hk => by
      obtain rfl : o = 0 := by omega
      obtain rfl : k = 0 := by omega
      decide)
    (by decide)
  refine h.mono fun e w' h' => ?_
  have h2 := got8_ok e w' h'
  obtain ⟨a, c, e1, h3, h4⟩ := h2
  exact ⟨a, c, e1, h3, h4⟩

theorem fold_ex2 (a : Option Addr) (c : Nat) (w : World) (hr : Reads1 w (.slice a 4 c) ((List.range 4).map fun j => .int .i8 (([1, 2, 3, 4] : List Int).getD j 0))) :
    Calls Tryd.prog 10 #[.int .i64 2, vecV 2 vnil 0 (.slice a 4 c) vnil vnil vnil vnil, .int .i64 2, .int .i64 2, .int .i64 1] w (Got8 2 (fun j => ([-1, -1] : List Int).getD j 0) (.int .i64 0) w) := by
  have h := fold_small (fun _ => False) 2 (by decide) w (fun _ e => e.elim) (.slice a 4 c) 2 2 1 (fun j => ([1, 2, 3, 4] : List Int).getD j 0) fX2 hr (fun j hj => by have := l4_at j (by omega); omega) (by decide) (by decide) (by decide) (by decide) (by decide) (by decide) (by decide)
    (fun o k ho hk => by
      obtain rfl : k = 0 := by omega
      match o, ho with
      | 0, _ => rfl
      | 1, _ => rfl)
    (fun o k j ho hk hj W => by
      obtain rfl : k = 0 := by omega
      obtain rfl : j = 0 := by omega
      match o, ho with
      | 0, _ => exact whole_sub 1 2 (by decide) (by decide) (by decide) W
      | 1, _ => exact whole_sub 3 4 (by decide) (by decide) (by decide) W)
    (fun o k ho hk => by
      obtain rfl : k = 0 := by omega
      match o, ho with
      | 0, _ => decide
      | 1, _ => decide)
    (by decide)
  refine h.mono fun e w' h' => ?_
  have h2 := got8_ok e w' h'
  obtain ⟨a, c, e1, h3, h4⟩ := h2
  refine ⟨a, c, e1, ?_, h4⟩
  have e2 : ((List.range 2).map fun j => Value.int .i8 (([-1, -1] : List Int).getD j 0)) = (List.range 2).map fun j => .int .i8 (fX2 (j / 1) (j % 1) 0) := rfl
  rw [e2]
  exact h3

set_option maxRecDepth 100000 in
set_option maxHeartbeats 1000000 in
theorem awake_any (w : World) : Calls Tryd.prog 7 #[] w fun e w' => e = .returned (.bool true) ∧ Below w.heap.size w w' := by
  have hR0 := new_reads w [1, 2, 3, 4] #[.float .f64 4607182418800017408, .float .f64 4611686018427387904, .float .f64 4613937818241073152, .float .f64 4616189618054758400] 26 (by rw [fi_1, fi_2, fi_3, fi_4]; rfl)
  have HK := Lib.hid (kept_small _ 4 (fun j => ([1, 2, 3, 4] : List Int).getD j 0) _ (by decide) (by decide) hR0 (fun j hj => by have := l4_at j hj; omega))
  have HB0 := Lib.hid (bel1 w (.cells #[.float .f64 4607182418800017408, .float .f64 4611686018427387904, .float .f64 4613937818241073152, .float .f64 4616189618054758400] 26))
  clear hR0
  go_enter Tryd.func7, Tryd.ntmps7
  go_wp2_with fail
  refine HK.out.mono ?_
  rintro e w1 ⟨a, c, rfl, hr, hb⟩
  have HB1 := Lib.hid (bel_both HB0.out hb)
  have HR1 := Lib.hid hr
  clear hb hr
  have HX1 := Lib.hid (boxed_new w1 35 2 vnil 0 (.slice a 4 c) vnil vnil vnil vnil)
  have HB1' := Lib.hid (bel_both HB1.out (bel1 w1 (.cells #[.int .i64 2, vnil, .int .i64 0, .slice a 4 c, vnil, vnil, vnil, vnil] 35)))
  have HR1' := Lib.hid (HR1.out.below (bel1 w1 (.cells #[.int .i64 2, vnil, .int .i64 0, .slice a 4 c, vnil, vnil, vnil, vnil] 35)))
  have HF1 := Lib.hid (fold_ex1 a c _ HR1'.out)
  go_wp2_with fail
  refine HF1.out.mono ?_
  rintro e w2 ⟨a2, c2, rfl, hr2, hb2⟩
  have HB2 := Lib.hid (bel_both HB1'.out hb2)
  have HX2 := Lib.hid (HX1.out.below hb2)
  have HS1 := Lib.hid (HR1'.out.below hb2)
  have HR2 := Lib.hid hr2
  clear hb2 hr2
  have HX2' := Lib.hid (HX2.out.below (bel1 w2 (.cells #[.int .i64 2, vnil, .int .i64 0, .slice a2 1 c2, vnil, vnil, vnil, vnil] 35)))
  have HB2' := Lib.hid (bel_both HB2.out (bel1 w2 (.cells #[.int .i64 2, vnil, .int .i64 0, .slice a2 1 c2, vnil, vnil, vnil, vnil] 35)))
  have HY2 := Lib.hid (boxed_new w2 35 2 vnil 0 (.slice a2 1 c2) vnil vnil vnil vnil)
  have HR2' := Lib.hid (HR2.out.below (bel1 w2 (.cells #[.int .i64 2, vnil, .int .i64 0, .slice a2 1 c2, vnil, vnil, vnil, vnil] 35)))
  have HS1' := Lib.hid (HS1.out.below (bel1 w2 (.cells #[.int .i64 2, vnil, .int .i64 0, .slice a2 1 c2, vnil, vnil, vnil, vnil] 35)))
  have HF2 := Lib.hid (fold_ex2 a c _ HS1'.out)
  obtain ⟨h0, h1, h2, h3, h4, h5, h6, h7⟩ := HX2'.out
  go_wp2_with fail
  refine HF2.out.mono ?_
  rintro e w3 ⟨a3, c3, rfl, hr3, hb3⟩
  have HB3 := Lib.hid (bel_both HB2'.out hb3)
  have HY3 := Lib.hid (HY2.out.below hb3)
  have HS3 := Lib.hid (HR2'.out.below hb3)
  have HR3 := Lib.hid hr3
  clear hb3 hr3 h0 h1 h2 h3 h4 h5 h6 h7
  have HB4 := Lib.hid (bel_both HB3.out (bel1 w3 (.cells #[.int .i64 2, vnil, .int .i64 0, .slice a3 2 c3, vnil, vnil, vnil, vnil] 35)))
  have HY4 := Lib.hid (HY3.out.below (bel1 w3 (.cells #[.int .i64 2, vnil, .int .i64 0, .slice a3 2 c3, vnil, vnil, vnil, vnil] 35)))
  have HZ4 := Lib.hid (boxed_new w3 35 2 vnil 0 (.slice a3 2 c3) vnil vnil vnil vnil)
  have HS4 := Lib.hid (HS3.out.below (bel1 w3 (.cells #[.int .i64 2, vnil, .int .i64 0, .slice a3 2 c3, vnil, vnil, vnil, vnil] 35)))
  have HR4 := Lib.hid (HR3.out.below (bel1 w3 (.cells #[.int .i64 2, vnil, .int .i64 0, .slice a3 2 c3, vnil, vnil, vnil, vnil] 35)))
  have HN4 := Lib.hid (nums_small a2 c2 1 _ _ (by decide) HS4.out small1)
  obtain ⟨h0, h1, h2, h3, h4, h5, h6, h7⟩ := HY4.out
  go_wp2_with fail
  refine HN4.out.mono ?_
  rintro e w5 ⟨v5, rfl, hr5, hb5⟩
  have HB5 := Lib.hid (bel_both HB4.out hb5)
  have HZ5 := Lib.hid (HZ4.out.below hb5)
  have HS5 := Lib.hid (HR4.out.below hb5)
  have HB5' := Lib.hid (bel_both HB5.out (bel1 w5 (.cells #[.float .f64 4621819117588971520] 26)))
  have HZ5' := Lib.hid (HZ5.out.below (bel1 w5 (.cells #[.float .f64 4621819117588971520] 26)))
  have HS5' := Lib.hid (HS5.out.below (bel1 w5 (.cells #[.float .f64 4621819117588971520] 26)))
  have HM5 := Lib.hid (same_fi _ _ 1 (fun j => ([10] : List Int).getD j 0) _ (hr5.below (bel1 w5 (.cells #[.float .f64 4621819117588971520] 26))) (new_reads w5 [10] #[.float .f64 4621819117588971520] 26 (by rw [fi_10]; rfl)) (by decide) good1)
  clear hb5 hr5 h0 h1 h2 h3 h4 h5 h6 h7
  go_wp2_with fail
  refine HM5.out.mono ?_
  rintro e w6 ⟨rfl, hb6⟩
  have HB6 := Lib.hid (bel_both HB5'.out hb6)
  have HZ6 := Lib.hid (HZ5'.out.below hb6)
  have HS6 := Lib.hid (HS5'.out.below hb6)
  clear hb6
  have HN6 := Lib.hid (nums_small a3 c3 2 _ _ (by decide) HS6.out small2)
  obtain ⟨h0, h1, h2, h3, h4, h5, h6, h7⟩ := HZ6.out
  go_wp2_with fail
  refine HN6.out.mono ?_
  rintro e w7 ⟨v7, rfl, hr7, hb7⟩
  have HB7 := Lib.hid (bel_both HB6.out hb7)
  have HB7' := Lib.hid (bel_both HB7.out (bel1 w7 (.cells #[.float .f64 13830554455654793216, .float .f64 13830554455654793216] 26)))
  have HM7 := Lib.hid (same_fi _ _ 2 (fun j => ([-1, -1] : List Int).getD j 0) _ (hr7.below (bel1 w7 (.cells #[.float .f64 13830554455654793216, .float .f64 13830554455654793216] 26))) (new_reads w7 [-1, -1] #[.float .f64 13830554455654793216, .float .f64 13830554455654793216] 26 (by rw [fi_n1]; rfl)) (by decide) good2)
  clear hb7 hr7 h0 h1 h2 h3 h4 h5 h6 h7
  go_wp2_with fail
  refine HM7.out.mono ?_
  rintro e w8 ⟨rfl, hb8⟩
  have HB8 := Lib.hid (bel_both HB7'.out hb8)
  clear hb8
  go_wp2
  go_ret
  exact ⟨rfl, HB8.out⟩
end Go.Proofs.YtdddmehchfnppaaDoor
