/- The walk of the statement ScanRows. Conditions: as each theorem says. -/
import Derived.Test.YtdddmehchfnppaaGreatDoorMg25
import Derived.Test.YtdddmehchfnppaaGreatDoorMg27
import Derived.Test.YtdddmehchfnppaaGreatDoorMg42
namespace Go.Proofs.YtdddmehchfnppaaGreatDoor
open Go Go.RowKit Go.Proofs Fl

set_option maxRecDepth 100000 in
set_option maxHeartbeats 1000000 in
theorem scanRows_far (f : Int) (a : Option Addr) (n c : Nat) (o r kd : Int) (w : World) (h : 200 < n ∨ (n ≤ 200 ∧ o < 0) ∨ (n ≤ 200 ∧ 0 ≤ o ∧ r < 0) ∨ (n ≤ 200 ∧ 0 ≤ o ∧ 0 ≤ r ∧ 200 < o) ∨ (n ≤ 200 ∧ 0 ≤ o ∧ 0 ≤ r ∧ o ≤ 200 ∧ 200 < r)) :
    Calls Tryz.prog 3 #[.int .i64 f, .slice a n c, .int .i64 o, .int .i64 r, .int .i64 kd] w fun e w' => e = .returned (.bool true) ∧ Below w.heap.size w w' := by
  rcases h with h1 | ⟨h1, h2⟩ | ⟨h1, h2, h3⟩ | ⟨h1, h2, h3, h4⟩ | ⟨h1, h2, h3, h4, h5⟩
  all_goals
    go_enter Tryz.func3, Tryz.ntmps3
    go_wp2_with fail
    refine (awake_any14 _).mono ?_
    rintro e w1 ⟨rfl, hb⟩
    have HB := Lib.hid hb
    clear hb
    go_wp2
    go_ret
    exact ⟨rfl, HB.out⟩

set_option maxRecDepth 100000 in
set_option maxHeartbeats 4000000 in
theorem scanRows_bad (q : Int) (a : Option Addr) (n c : Nat) (o r : Nat) (kd : Int) (Q : Int) (T : Nat) (w : World) (hn : n ≤ 200) (ho : o ≤ 200) (hr : r ≤ 200) (hnc : n ≤ c) (hQ : RowsN n o r Q T)
    (hK : Calls Tryz.prog 7 #[.slice a T c, .int .i64 kd] w (NoVec w)) :
    Calls Tryz.prog 3 #[.int .i64 q, .slice a n c, .int .i64 (o : Int), .int .i64 (r : Int), .int .i64 kd] w fun e w' => e = .returned (.bool true) ∧ Below w.heap.size w w' := by
  obtain ⟨cs, q0, q1, hT, hTn⟩ := hQ
  have HK := Lib.hid hK
  clear hK
  obtain ⟨A, hA⟩ : ∃ A : Int, A = Q * (o : Int) := ⟨_, rfl⟩
  have e2 : Q * (o : Int) = A := hA.symm
  have e3 : A * (r : Int) = (T : Int) := by
    rw [hA, hT]
    obtain ⟨q, rfl⟩ := Int.eq_ofNat_of_zero_le q0
    simp
  have a0 : 0 ≤ A := by rw [hA]; exact Int.mul_nonneg q0 (by omega)
  have a1 : A ≤ 90000 := by
    rw [hA]
    have : Q * (o : Int) ≤ 200 * 200 := Int.mul_le_mul (by omega) (by omega) (by omega) (by omega)
    omega
  have hTc : T ≤ c := by omega
  clear hA
  rcases cs with ⟨c1, c2, e1⟩ | ⟨rfl, rfl⟩ | ⟨c1, rfl, rfl⟩
  · have p0 : 0 ≤ (n : Int) / (o : Int) := Int.ediv_nonneg (by omega) (by omega)
    have p1 : (n : Int) / (o : Int) ≤ 200 := Int.le_trans (Int.ediv_le_self _ (by omega)) (by omega)
    obtain ⟨P, hP⟩ : ∃ P : Int, P = (n : Int) / (o : Int) := ⟨_, rfl⟩
    rw [← hP] at e1 p0 p1
    have e0 : (n : Int) / (o : Int) = P := hP.symm
    clear hP
    subst e1
    clear hT
    go_enter Tryz.func3, Tryz.ntmps3
    go_wp2_with fail
    refine HK.out.mono ?_
    rintro e w1 ⟨rfl, hb1⟩
    have HB1 := Lib.hid (bel_both hb1 (bel1 w1 (.cells #[.int .i64 0, vnil, .int .i64 0, vnil, vnil, vnil, vnil, vnil] 32)))
    clear hb1
    go_wp2_with fail
    refine (awake_any14 _).mono ?_
    rintro e w2 ⟨rfl, hb2⟩
    have HB2 := Lib.hid (bel_both HB1.out hb2)
    clear hb2
    go_wp2
    go_ret
    exact ⟨rfl, HB2.out⟩
  · obtain rfl : T = 0 := by simpa using hT
    clear hT
    clear e2 e3 a0 a1
    go_enter Tryz.func3, Tryz.ntmps3
    go_wp2_with fail
    refine HK.out.mono ?_
    rintro e w1 ⟨rfl, hb1⟩
    have HB1 := Lib.hid (bel_both hb1 (bel1 w1 (.cells #[.int .i64 0, vnil, .int .i64 0, vnil, vnil, vnil, vnil, vnil] 32)))
    clear hb1
    go_wp2_with fail
    refine (awake_any14 _).mono ?_
    rintro e w2 ⟨rfl, hb2⟩
    have HB2 := Lib.hid (bel_both HB1.out hb2)
    clear hb2
    go_wp2
    go_ret
    exact ⟨rfl, HB2.out⟩
  · obtain rfl : T = 0 := by simpa using hT
    clear hT
    clear e2 e3 a0 a1
    go_enter Tryz.func3, Tryz.ntmps3
    go_wp2_with fail
    refine HK.out.mono ?_
    rintro e w1 ⟨rfl, hb1⟩
    have HB1 := Lib.hid (bel_both hb1 (bel1 w1 (.cells #[.int .i64 0, vnil, .int .i64 0, vnil, vnil, vnil, vnil, vnil] 32)))
    clear hb1
    go_wp2_with fail
    refine (awake_any14 _).mono ?_
    rintro e w2 ⟨rfl, hb2⟩
    have HB2 := Lib.hid (bel_both HB1.out hb2)
    clear hb2
    go_wp2
    go_ret
    exact ⟨rfl, HB2.out⟩

set_option maxRecDepth 100000 in
set_option maxHeartbeats 4000000 in
theorem scanRows_err (q : Int) (a : Option Addr) (n c : Nat) (o r : Nat) (kd : Int) (Q : Int) (T : Nat) (G : Nat → Nat) (E : Int) (w : World) (hn : n ≤ 200) (ho : o ≤ 200) (hr : r ≤ 200) (hnc : n ≤ c) (hQ : RowsN n o r Q T)
    (hK : Calls Tryz.prog 7 #[.slice a T c, .int .i64 kd] w (KeptOk T G w))
    (hTd : ∀ W, Below w.heap.size w W → Calls Tryz.prog 8 #[.slice a T c] W (TidyOk T G W))
    (hF : ∀ W k b bn s i f g x, Below w.heap.size w W → (∀ W', Below W.heap.size W W' → NumV (vecW k b bn s i f g x) k T G W') → Calls Tryz.prog 9 #[.int .i64 q, vecW k b bn s i f g x, .int .i64 (o : Int), .int .i64 Q, .int .i64 (r : Int)] W (FoldErr E W))
    (hR : ∀ W v, Below w.heap.size w W → Reads1 W v ((List.range T).map fun j => .float .f64 (G j)) → Calls Tryz.prog 10 #[.int .i64 q, v, .int .i64 (o : Int), .int .i64 Q, .int .i64 (r : Int)] W (RowErr E W))
    (hE : E ≠ 0) :
    Calls Tryz.prog 3 #[.int .i64 q, .slice a n c, .int .i64 (o : Int), .int .i64 (r : Int), .int .i64 kd] w fun e w' => e = .returned (.bool true) ∧ Below w.heap.size w w' := by
  obtain ⟨cs, q0, q1, hT, hTn⟩ := hQ
  have HK := Lib.hid hK
  have HT := Lib.hid hTd
  have HF := Lib.hid hF
  have HR := Lib.hid hR
  unfold KeptOk at HK
  unfold TidyOk at HT
  clear hK hTd hF hR
  unfold FoldErr at HF
  unfold RowErr at HR
  have E1 : (E == 0) = false := by simpa using hE
  have E2 : (E != 0) = true := by simpa using hE
  clear hE
  obtain ⟨A, hA⟩ : ∃ A : Int, A = Q * (o : Int) := ⟨_, rfl⟩
  have e2 : Q * (o : Int) = A := hA.symm
  have e3 : A * (r : Int) = (T : Int) := by
    rw [hA, hT]
    obtain ⟨q, rfl⟩ := Int.eq_ofNat_of_zero_le q0
    simp
  have a0 : 0 ≤ A := by rw [hA]; exact Int.mul_nonneg q0 (by omega)
  have a1 : A ≤ 90000 := by
    rw [hA]
    have : Q * (o : Int) ≤ 200 * 200 := Int.mul_le_mul (by omega) (by omega) (by omega) (by omega)
    omega
  have hTc : T ≤ c := by omega
  clear hA
  rcases cs with ⟨c1, c2, e1⟩ | ⟨rfl, rfl⟩ | ⟨c1, rfl, rfl⟩
  · have p0 : 0 ≤ (n : Int) / (o : Int) := Int.ediv_nonneg (by omega) (by omega)
    have p1 : (n : Int) / (o : Int) ≤ 200 := Int.le_trans (Int.ediv_le_self _ (by omega)) (by omega)
    obtain ⟨P, hP⟩ : ∃ P : Int, P = (n : Int) / (o : Int) := ⟨_, rfl⟩
    rw [← hP] at e1 p0 p1
    have e0 : (n : Int) / (o : Int) = P := hP.symm
    clear hP
    subst e1
    clear hT
    go_enter Tryz.func3, Tryz.ntmps3
    go_wp2_with fail
    refine HK.out.mono ?_
    rintro e w1 ⟨k, b, bn, s, i, f, g, x, rfl, hk, hb1⟩
    have HB1 := Lib.hid (bel_both hb1 (bel1 w1 (.cells #[.int .i64 k, .slice b.1 b.2.1 b.2.2, .int .i64 bn, .slice s.1 s.2.1 s.2.2, .slice i.1 i.2.1 i.2.2, .slice f.1 f.2.1 f.2.2, .slice g.1 g.2.1 g.2.2, .slice x.1 x.2.1 x.2.2] 32)))
    have HX1 := Lib.hid (boxed_new w1 32 k (.slice b.1 b.2.1 b.2.2) bn (.slice s.1 s.2.1 s.2.2) (.slice i.1 i.2.1 i.2.2) (.slice f.1 f.2.1 f.2.2) (.slice g.1 g.2.1 g.2.2) (.slice x.1 x.2.1 x.2.2))
    have HN1 := Lib.hid (fun W' (h : Below _ _ W') => hk W' (bel_both (bel1 w1 (.cells #[.int .i64 k, .slice b.1 b.2.1 b.2.2, .int .i64 bn, .slice s.1 s.2.1 s.2.2, .slice i.1 i.2.1 i.2.2, .slice f.1 f.2.1 f.2.2, .slice g.1 g.2.1 g.2.2, .slice x.1 x.2.1 x.2.2] 32)) h))
    clear hk hb1
    go_wp2_with fail
    refine (HT.out _ HB1.out).mono ?_
    rintro e w2 ⟨v2, rfl, hv2, hb2⟩
    have HB2 := Lib.hid (bel_both HB1.out hb2)
    have HX2 := Lib.hid (HX1.out.below hb2)
    have HV2 := Lib.hid hv2
    have HN2 := Lib.hid (fun W' (h : Below w2.heap.size w2 W') => HN1.out W' (bel_both hb2 h))
    clear hv2 hb2
    obtain ⟨h0, h1, h2, h3, h4, h5, h6, h7⟩ := HX2.out
    go_wp2_with fail
    refine (HF.out _ _ _ _ _ _ _ _ _ HB2.out HN2.out).mono ?_
    clear h0 h1 h2 h3 h4 h5 h6 h7
    rintro e w3 ⟨rfl, hb3⟩
    have HB3 := Lib.hid (bel_both (bel_both HB2.out hb3) (bel1 w3 (.cells #[.int .i64 0, vnil, .int .i64 0, vnil, vnil, vnil, vnil, vnil] 32)))
    have HX3 := Lib.hid (boxed_new w3 32 0 vnil 0 vnil vnil vnil vnil vnil)
    have HV3 := Lib.hid ((HV2.out.below hb3).below (bel1 w3 (.cells #[.int .i64 0, vnil, .int .i64 0, vnil, vnil, vnil, vnil, vnil] 32)))
    clear hb3
    go_wp2_with fail
    refine (HR.out _ _ HB3.out HV3.out).mono ?_
    rintro e w4 ⟨rfl, hb4⟩
    have HB4 := Lib.hid (bel_both HB3.out hb4)
    have HX4 := Lib.hid (HX3.out.below hb4)
    clear hb4
    obtain ⟨h0, h1, h2, h3, h4, h5, h6, h7⟩ := HX4.out
    go_wp2_with fail
    refine (kind_any 0 vnil 0 vnil vnil vnil vnil vnil _).mono ?_
    rintro e w5 ⟨rfl, hb5⟩
    have HB5 := Lib.hid (bel_both HB4.out hb5)
    clear hb5 h0 h1 h2 h3 h4 h5 h6 h7
    go_wp2_with fail
    refine (awake_any14 _).mono ?_
    rintro e w6 ⟨rfl, hb6⟩
    have HB6 := Lib.hid (bel_both HB5.out hb6)
    clear hb6
    go_wp2
    go_ret
    exact ⟨rfl, HB6.out⟩
  · obtain rfl : T = 0 := by simpa using hT
    clear hT
    clear e2 e3 a0 a1
    go_enter Tryz.func3, Tryz.ntmps3
    go_wp2_with fail
    refine HK.out.mono ?_
    rintro e w1 ⟨k, b, bn, s, i, f, g, x, rfl, hk, hb1⟩
    have HB1 := Lib.hid (bel_both hb1 (bel1 w1 (.cells #[.int .i64 k, .slice b.1 b.2.1 b.2.2, .int .i64 bn, .slice s.1 s.2.1 s.2.2, .slice i.1 i.2.1 i.2.2, .slice f.1 f.2.1 f.2.2, .slice g.1 g.2.1 g.2.2, .slice x.1 x.2.1 x.2.2] 32)))
    have HX1 := Lib.hid (boxed_new w1 32 k (.slice b.1 b.2.1 b.2.2) bn (.slice s.1 s.2.1 s.2.2) (.slice i.1 i.2.1 i.2.2) (.slice f.1 f.2.1 f.2.2) (.slice g.1 g.2.1 g.2.2) (.slice x.1 x.2.1 x.2.2))
    have HN1 := Lib.hid (fun W' (h : Below _ _ W') => hk W' (bel_both (bel1 w1 (.cells #[.int .i64 k, .slice b.1 b.2.1 b.2.2, .int .i64 bn, .slice s.1 s.2.1 s.2.2, .slice i.1 i.2.1 i.2.2, .slice f.1 f.2.1 f.2.2, .slice g.1 g.2.1 g.2.2, .slice x.1 x.2.1 x.2.2] 32)) h))
    clear hk hb1
    go_wp2_with fail
    refine (HT.out _ HB1.out).mono ?_
    rintro e w2 ⟨v2, rfl, hv2, hb2⟩
    have HB2 := Lib.hid (bel_both HB1.out hb2)
    have HX2 := Lib.hid (HX1.out.below hb2)
    have HV2 := Lib.hid hv2
    have HN2 := Lib.hid (fun W' (h : Below w2.heap.size w2 W') => HN1.out W' (bel_both hb2 h))
    clear hv2 hb2
    obtain ⟨h0, h1, h2, h3, h4, h5, h6, h7⟩ := HX2.out
    go_wp2_with fail
    refine (HF.out _ _ _ _ _ _ _ _ _ HB2.out HN2.out).mono ?_
    clear h0 h1 h2 h3 h4 h5 h6 h7
    rintro e w3 ⟨rfl, hb3⟩
    have HB3 := Lib.hid (bel_both (bel_both HB2.out hb3) (bel1 w3 (.cells #[.int .i64 0, vnil, .int .i64 0, vnil, vnil, vnil, vnil, vnil] 32)))
    have HX3 := Lib.hid (boxed_new w3 32 0 vnil 0 vnil vnil vnil vnil vnil)
    have HV3 := Lib.hid ((HV2.out.below hb3).below (bel1 w3 (.cells #[.int .i64 0, vnil, .int .i64 0, vnil, vnil, vnil, vnil, vnil] 32)))
    clear hb3
    go_wp2_with fail
    refine (HR.out _ _ HB3.out HV3.out).mono ?_
    rintro e w4 ⟨rfl, hb4⟩
    have HB4 := Lib.hid (bel_both HB3.out hb4)
    have HX4 := Lib.hid (HX3.out.below hb4)
    clear hb4
    obtain ⟨h0, h1, h2, h3, h4, h5, h6, h7⟩ := HX4.out
    go_wp2_with fail
    refine (kind_any 0 vnil 0 vnil vnil vnil vnil vnil _).mono ?_
    rintro e w5 ⟨rfl, hb5⟩
    have HB5 := Lib.hid (bel_both HB4.out hb5)
    clear hb5 h0 h1 h2 h3 h4 h5 h6 h7
    go_wp2_with fail
    refine (awake_any14 _).mono ?_
    rintro e w6 ⟨rfl, hb6⟩
    have HB6 := Lib.hid (bel_both HB5.out hb6)
    clear hb6
    go_wp2
    go_ret
    exact ⟨rfl, HB6.out⟩
  · obtain rfl : T = 0 := by simpa using hT
    clear hT
    clear e2 e3 a0 a1
    go_enter Tryz.func3, Tryz.ntmps3
    go_wp2_with fail
    refine HK.out.mono ?_
    rintro e w1 ⟨k, b, bn, s, i, f, g, x, rfl, hk, hb1⟩
    have HB1 := Lib.hid (bel_both hb1 (bel1 w1 (.cells #[.int .i64 k, .slice b.1 b.2.1 b.2.2, .int .i64 bn, .slice s.1 s.2.1 s.2.2, .slice i.1 i.2.1 i.2.2, .slice f.1 f.2.1 f.2.2, .slice g.1 g.2.1 g.2.2, .slice x.1 x.2.1 x.2.2] 32)))
    have HX1 := Lib.hid (boxed_new w1 32 k (.slice b.1 b.2.1 b.2.2) bn (.slice s.1 s.2.1 s.2.2) (.slice i.1 i.2.1 i.2.2) (.slice f.1 f.2.1 f.2.2) (.slice g.1 g.2.1 g.2.2) (.slice x.1 x.2.1 x.2.2))
    have HN1 := Lib.hid (fun W' (h : Below _ _ W') => hk W' (bel_both (bel1 w1 (.cells #[.int .i64 k, .slice b.1 b.2.1 b.2.2, .int .i64 bn, .slice s.1 s.2.1 s.2.2, .slice i.1 i.2.1 i.2.2, .slice f.1 f.2.1 f.2.2, .slice g.1 g.2.1 g.2.2, .slice x.1 x.2.1 x.2.2] 32)) h))
    clear hk hb1
    go_wp2_with fail
    refine (HT.out _ HB1.out).mono ?_
    rintro e w2 ⟨v2, rfl, hv2, hb2⟩
    have HB2 := Lib.hid (bel_both HB1.out hb2)
    have HX2 := Lib.hid (HX1.out.below hb2)
    have HV2 := Lib.hid hv2
    have HN2 := Lib.hid (fun W' (h : Below w2.heap.size w2 W') => HN1.out W' (bel_both hb2 h))
    clear hv2 hb2
    obtain ⟨h0, h1, h2, h3, h4, h5, h6, h7⟩ := HX2.out
    go_wp2_with fail
    refine (HF.out _ _ _ _ _ _ _ _ _ HB2.out HN2.out).mono ?_
    clear h0 h1 h2 h3 h4 h5 h6 h7
    rintro e w3 ⟨rfl, hb3⟩
    have HB3 := Lib.hid (bel_both (bel_both HB2.out hb3) (bel1 w3 (.cells #[.int .i64 0, vnil, .int .i64 0, vnil, vnil, vnil, vnil, vnil] 32)))
    have HX3 := Lib.hid (boxed_new w3 32 0 vnil 0 vnil vnil vnil vnil vnil)
    have HV3 := Lib.hid ((HV2.out.below hb3).below (bel1 w3 (.cells #[.int .i64 0, vnil, .int .i64 0, vnil, vnil, vnil, vnil, vnil] 32)))
    clear hb3
    go_wp2_with fail
    refine (HR.out _ _ HB3.out HV3.out).mono ?_
    rintro e w4 ⟨rfl, hb4⟩
    have HB4 := Lib.hid (bel_both HB3.out hb4)
    have HX4 := Lib.hid (HX3.out.below hb4)
    clear hb4
    obtain ⟨h0, h1, h2, h3, h4, h5, h6, h7⟩ := HX4.out
    go_wp2_with fail
    refine (kind_any 0 vnil 0 vnil vnil vnil vnil vnil _).mono ?_
    rintro e w5 ⟨rfl, hb5⟩
    have HB5 := Lib.hid (bel_both HB4.out hb5)
    clear hb5 h0 h1 h2 h3 h4 h5 h6 h7
    go_wp2_with fail
    refine (awake_any14 _).mono ?_
    rintro e w6 ⟨rfl, hb6⟩
    have HB6 := Lib.hid (bel_both HB5.out hb6)
    clear hb6
    go_wp2
    go_ret
    exact ⟨rfl, HB6.out⟩

set_option maxRecDepth 100000 in
set_option maxHeartbeats 4000000 in
theorem scanRows_ok (q : Int) (a : Option Addr) (n c : Nat) (o r : Nat) (kd : Int) (Q : Int) (T : Nat) (N : Nat) (G O : Nat → Nat) (w : World) (hn : n ≤ 200) (ho : o ≤ 200) (hr : r ≤ 200) (hnc : n ≤ c) (hQ : RowsN n o r Q T)
    (hK : Calls Tryz.prog 7 #[.slice a T c, .int .i64 kd] w (KeptOk T G w))
    (hTd : ∀ W, Below w.heap.size w W → Calls Tryz.prog 8 #[.slice a T c] W (TidyOk T G W))
    (hF : ∀ W k b bn s i f g x, Below w.heap.size w W → (∀ W', Below W.heap.size W W' → NumV (vecW k b bn s i f g x) k T G W') → Calls Tryz.prog 9 #[.int .i64 q, vecW k b bn s i f g x, .int .i64 (o : Int), .int .i64 Q, .int .i64 (r : Int)] W (FoldOk (Q ≤ 1) N O W))
    (hR : ∀ W v, Below w.heap.size w W → Reads1 W v ((List.range T).map fun j => .float .f64 (G j)) → Calls Tryz.prog 10 #[.int .i64 q, v, .int .i64 (o : Int), .int .i64 Q, .int .i64 (r : Int)] W (RowOk N O W))
    (hNb : N ≤ 1000000) (hO : ∀ j, j < N → TF (O j)) :
    Calls Tryz.prog 3 #[.int .i64 q, .slice a n c, .int .i64 (o : Int), .int .i64 (r : Int), .int .i64 kd] w fun e w' => e = .returned (.bool true) ∧ Below w.heap.size w w' := by
  obtain ⟨cs, q0, q1, hT, hTn⟩ := hQ
  have HK := Lib.hid hK
  have HT := Lib.hid hTd
  have HF := Lib.hid hF
  have HR := Lib.hid hR
  unfold KeptOk at HK
  unfold TidyOk at HT
  clear hK hTd hF hR
  unfold FoldOk at HF
  unfold RowOk at HR
  have HTF := Lib.hid hO
  clear hO
  obtain ⟨A, hA⟩ : ∃ A : Int, A = Q * (o : Int) := ⟨_, rfl⟩
  have e2 : Q * (o : Int) = A := hA.symm
  have e3 : A * (r : Int) = (T : Int) := by
    rw [hA, hT]
    obtain ⟨q, rfl⟩ := Int.eq_ofNat_of_zero_le q0
    simp
  have a0 : 0 ≤ A := by rw [hA]; exact Int.mul_nonneg q0 (by omega)
  have a1 : A ≤ 90000 := by
    rw [hA]
    have : Q * (o : Int) ≤ 200 * 200 := Int.mul_le_mul (by omega) (by omega) (by omega) (by omega)
    omega
  have hTc : T ≤ c := by omega
  clear hA
  rcases cs with ⟨c1, c2, e1⟩ | ⟨rfl, rfl⟩ | ⟨c1, rfl, rfl⟩
  · have p0 : 0 ≤ (n : Int) / (o : Int) := Int.ediv_nonneg (by omega) (by omega)
    have p1 : (n : Int) / (o : Int) ≤ 200 := Int.le_trans (Int.ediv_le_self _ (by omega)) (by omega)
    obtain ⟨P, hP⟩ : ∃ P : Int, P = (n : Int) / (o : Int) := ⟨_, rfl⟩
    rw [← hP] at e1 p0 p1
    have e0 : (n : Int) / (o : Int) = P := hP.symm
    clear hP
    subst e1
    clear hT
    go_enter Tryz.func3, Tryz.ntmps3
    go_wp2_with fail
    refine HK.out.mono ?_
    rintro e w1 ⟨k, b, bn, s, i, f, g, x, rfl, hk, hb1⟩
    have HB1 := Lib.hid (bel_both hb1 (bel1 w1 (.cells #[.int .i64 k, .slice b.1 b.2.1 b.2.2, .int .i64 bn, .slice s.1 s.2.1 s.2.2, .slice i.1 i.2.1 i.2.2, .slice f.1 f.2.1 f.2.2, .slice g.1 g.2.1 g.2.2, .slice x.1 x.2.1 x.2.2] 32)))
    have HX1 := Lib.hid (boxed_new w1 32 k (.slice b.1 b.2.1 b.2.2) bn (.slice s.1 s.2.1 s.2.2) (.slice i.1 i.2.1 i.2.2) (.slice f.1 f.2.1 f.2.2) (.slice g.1 g.2.1 g.2.2) (.slice x.1 x.2.1 x.2.2))
    have HN1 := Lib.hid (fun W' (h : Below _ _ W') => hk W' (bel_both (bel1 w1 (.cells #[.int .i64 k, .slice b.1 b.2.1 b.2.2, .int .i64 bn, .slice s.1 s.2.1 s.2.2, .slice i.1 i.2.1 i.2.2, .slice f.1 f.2.1 f.2.2, .slice g.1 g.2.1 g.2.2, .slice x.1 x.2.1 x.2.2] 32)) h))
    clear hk hb1
    go_wp2_with fail
    refine (HT.out _ HB1.out).mono ?_
    rintro e w2 ⟨v2, rfl, hv2, hb2⟩
    have HB2 := Lib.hid (bel_both HB1.out hb2)
    have HX2 := Lib.hid (HX1.out.below hb2)
    have HV2 := Lib.hid hv2
    have HN2 := Lib.hid (fun W' (h : Below w2.heap.size w2 W') => HN1.out W' (bel_both hb2 h))
    clear hv2 hb2
    obtain ⟨h0, h1, h2, h3, h4, h5, h6, h7⟩ := HX2.out
    go_wp2_with fail
    refine (HF.out _ _ _ _ _ _ _ _ _ HB2.out HN2.out).mono ?_
    clear h0 h1 h2 h3 h4 h5 h6 h7
    rintro e w3 ⟨k5, b5, bn5, s5, i5, f5, g5, x5, rfl, hk5, hl5, hb3⟩
    have HB3 := Lib.hid (bel_both (bel_both HB2.out hb3) (bel1 w3 (.cells #[.int .i64 k5, .slice b5.1 b5.2.1 b5.2.2, .int .i64 bn5, .slice s5.1 s5.2.1 s5.2.2, .slice i5.1 i5.2.1 i5.2.2, .slice f5.1 f5.2.1 f5.2.2, .slice g5.1 g5.2.1 g5.2.2, .slice x5.1 x5.2.1 x5.2.2] 32)))
    have HX3 := Lib.hid (boxed_new w3 32 k5 (.slice b5.1 b5.2.1 b5.2.2) bn5 (.slice s5.1 s5.2.1 s5.2.2) (.slice i5.1 i5.2.1 i5.2.2) (.slice f5.1 f5.2.1 f5.2.2) (.slice g5.1 g5.2.1 g5.2.2) (.slice x5.1 x5.2.1 x5.2.2))
    have HV3 := Lib.hid ((HV2.out.below hb3).below (bel1 w3 (.cells #[.int .i64 k5, .slice b5.1 b5.2.1 b5.2.2, .int .i64 bn5, .slice s5.1 s5.2.1 s5.2.2, .slice i5.1 i5.2.1 i5.2.2, .slice f5.1 f5.2.1 f5.2.2, .slice g5.1 g5.2.1 g5.2.2, .slice x5.1 x5.2.1 x5.2.2] 32)))
    have HN3 := Lib.hid (fun W' (h : Below _ _ W') => hk5 W' (bel_both (bel1 w3 (.cells #[.int .i64 k5, .slice b5.1 b5.2.1 b5.2.2, .int .i64 bn5, .slice s5.1 s5.2.1 s5.2.2, .slice i5.1 i5.2.1 i5.2.2, .slice f5.1 f5.2.1 f5.2.2, .slice g5.1 g5.2.1 g5.2.2, .slice x5.1 x5.2.1 x5.2.2] 32)) h))
    have k0 : 0 < k5 := by rcases (hk5 w3 (Below.refl _ _)).kind with e | e | e | e <;> omega
    have HL := Lib.hid hl5
    clear hb3 hk5 hl5
    go_wp2_with fail
    refine (HR.out _ _ HB3.out HV3.out).mono ?_
    rintro e w4 ⟨v4, rfl, hv4, hb4⟩
    have HB4 := Lib.hid (bel_both HB3.out hb4)
    have HX4 := Lib.hid (HX3.out.below hb4)
    have HN4 := Lib.hid (fun W' (h : Below w4.heap.size w4 W') => HN3.out W' (bel_both hb4 h))
    have HV4 := Lib.hid hv4
    clear hv4 hb4
    obtain ⟨h0, h1, h2, h3, h4, h5, h6, h7⟩ := HX4.out
    go_wp2_with fail
    refine (nums_num _ _ _ _ _ _ _ _ _ _ _ hNb HN4.out).mono ?_
    rintro e w5 ⟨v5, rfl, hv5, hb5⟩
    have HB5 := Lib.hid (bel_both HB4.out hb5)
    have HX5 := Lib.hid (HX4.out.below hb5)
    have HN5 := Lib.hid (fun W' (h : Below w5.heap.size w5 W') => HN4.out W' (bel_both hb5 h))
    have HS5 := Lib.hid (same_tf _ _ _ _ _ hv5.reads (HV4.out.below hb5) hNb HTF.out)
    clear hv5 hb5 h0 h1 h2 h3 h4 h5 h6 h7
    go_wp2_with fail
    refine HS5.out.mono ?_
    rintro e w6 ⟨rfl, hb6⟩
    have HB6 := Lib.hid (bel_both HB5.out hb6)
    have HX6 := Lib.hid (HX5.out.below hb6)
    have HN6 := Lib.hid (fun W' (h : Below w6.heap.size w6 W') => HN5.out W' (bel_both hb6 h))
    clear hb6
    have HB7 := HB6
    have HX7 := HX6
    have HN7 := HN6
    by_cases hq : P / (r : Int) ≤ 1
    · go_wp2_with fail
      refine (awake_any14 _).mono ?_
      rintro e w9 ⟨rfl, hb9⟩
      have HB9 := Lib.hid (bel_both HB7.out hb9)
      clear hb9
      go_wp2
      go_ret
      exact ⟨rfl, HB9.out⟩
    · have q1 : ¬ P / (r : Int) ≤ 1 := hq
      have HT7 := Lib.hid (tight_any hNb HN7.out)
      rw [(HL.out.resolve_left q1).symm] at HT7
      obtain ⟨h0, h1, h2, h3, h4, h5, h6, h7⟩ := HX7.out
      go_wp2_with fail
      refine HT7.out.mono ?_
      rintro e w8 ⟨rfl, hb8⟩
      have HB8 := Lib.hid (bel_both HB7.out hb8)
      clear hb8 h0 h1 h2 h3 h4 h5 h6 h7
      go_wp2_with fail
      refine (awake_any14 _).mono ?_
      rintro e w9 ⟨rfl, hb9⟩
      have HB9 := Lib.hid (bel_both HB8.out hb9)
      clear hb9
      go_wp2
      go_ret
      exact ⟨rfl, HB9.out⟩
  · obtain rfl : T = 0 := by simpa using hT
    clear hT
    clear e2 e3 a0 a1
    go_enter Tryz.func3, Tryz.ntmps3
    go_wp2_with fail
    refine HK.out.mono ?_
    rintro e w1 ⟨k, b, bn, s, i, f, g, x, rfl, hk, hb1⟩
    have HB1 := Lib.hid (bel_both hb1 (bel1 w1 (.cells #[.int .i64 k, .slice b.1 b.2.1 b.2.2, .int .i64 bn, .slice s.1 s.2.1 s.2.2, .slice i.1 i.2.1 i.2.2, .slice f.1 f.2.1 f.2.2, .slice g.1 g.2.1 g.2.2, .slice x.1 x.2.1 x.2.2] 32)))
    have HX1 := Lib.hid (boxed_new w1 32 k (.slice b.1 b.2.1 b.2.2) bn (.slice s.1 s.2.1 s.2.2) (.slice i.1 i.2.1 i.2.2) (.slice f.1 f.2.1 f.2.2) (.slice g.1 g.2.1 g.2.2) (.slice x.1 x.2.1 x.2.2))
    have HN1 := Lib.hid (fun W' (h : Below _ _ W') => hk W' (bel_both (bel1 w1 (.cells #[.int .i64 k, .slice b.1 b.2.1 b.2.2, .int .i64 bn, .slice s.1 s.2.1 s.2.2, .slice i.1 i.2.1 i.2.2, .slice f.1 f.2.1 f.2.2, .slice g.1 g.2.1 g.2.2, .slice x.1 x.2.1 x.2.2] 32)) h))
    clear hk hb1
    go_wp2_with fail
    refine (HT.out _ HB1.out).mono ?_
    rintro e w2 ⟨v2, rfl, hv2, hb2⟩
    have HB2 := Lib.hid (bel_both HB1.out hb2)
    have HX2 := Lib.hid (HX1.out.below hb2)
    have HV2 := Lib.hid hv2
    have HN2 := Lib.hid (fun W' (h : Below w2.heap.size w2 W') => HN1.out W' (bel_both hb2 h))
    clear hv2 hb2
    obtain ⟨h0, h1, h2, h3, h4, h5, h6, h7⟩ := HX2.out
    go_wp2_with fail
    refine (HF.out _ _ _ _ _ _ _ _ _ HB2.out HN2.out).mono ?_
    clear h0 h1 h2 h3 h4 h5 h6 h7
    rintro e w3 ⟨k5, b5, bn5, s5, i5, f5, g5, x5, rfl, hk5, hl5, hb3⟩
    have HB3 := Lib.hid (bel_both (bel_both HB2.out hb3) (bel1 w3 (.cells #[.int .i64 k5, .slice b5.1 b5.2.1 b5.2.2, .int .i64 bn5, .slice s5.1 s5.2.1 s5.2.2, .slice i5.1 i5.2.1 i5.2.2, .slice f5.1 f5.2.1 f5.2.2, .slice g5.1 g5.2.1 g5.2.2, .slice x5.1 x5.2.1 x5.2.2] 32)))
    have HX3 := Lib.hid (boxed_new w3 32 k5 (.slice b5.1 b5.2.1 b5.2.2) bn5 (.slice s5.1 s5.2.1 s5.2.2) (.slice i5.1 i5.2.1 i5.2.2) (.slice f5.1 f5.2.1 f5.2.2) (.slice g5.1 g5.2.1 g5.2.2) (.slice x5.1 x5.2.1 x5.2.2))
    have HV3 := Lib.hid ((HV2.out.below hb3).below (bel1 w3 (.cells #[.int .i64 k5, .slice b5.1 b5.2.1 b5.2.2, .int .i64 bn5, .slice s5.1 s5.2.1 s5.2.2, .slice i5.1 i5.2.1 i5.2.2, .slice f5.1 f5.2.1 f5.2.2, .slice g5.1 g5.2.1 g5.2.2, .slice x5.1 x5.2.1 x5.2.2] 32)))
    have HN3 := Lib.hid (fun W' (h : Below _ _ W') => hk5 W' (bel_both (bel1 w3 (.cells #[.int .i64 k5, .slice b5.1 b5.2.1 b5.2.2, .int .i64 bn5, .slice s5.1 s5.2.1 s5.2.2, .slice i5.1 i5.2.1 i5.2.2, .slice f5.1 f5.2.1 f5.2.2, .slice g5.1 g5.2.1 g5.2.2, .slice x5.1 x5.2.1 x5.2.2] 32)) h))
    have k0 : 0 < k5 := by rcases (hk5 w3 (Below.refl _ _)).kind with e | e | e | e <;> omega
    have HL := Lib.hid hl5
    clear hb3 hk5 hl5
    go_wp2_with fail
    refine (HR.out _ _ HB3.out HV3.out).mono ?_
    rintro e w4 ⟨v4, rfl, hv4, hb4⟩
    have HB4 := Lib.hid (bel_both HB3.out hb4)
    have HX4 := Lib.hid (HX3.out.below hb4)
    have HN4 := Lib.hid (fun W' (h : Below w4.heap.size w4 W') => HN3.out W' (bel_both hb4 h))
    have HV4 := Lib.hid hv4
    clear hv4 hb4
    obtain ⟨h0, h1, h2, h3, h4, h5, h6, h7⟩ := HX4.out
    go_wp2_with fail
    refine (nums_num _ _ _ _ _ _ _ _ _ _ _ hNb HN4.out).mono ?_
    rintro e w5 ⟨v5, rfl, hv5, hb5⟩
    have HB5 := Lib.hid (bel_both HB4.out hb5)
    have HX5 := Lib.hid (HX4.out.below hb5)
    have HN5 := Lib.hid (fun W' (h : Below w5.heap.size w5 W') => HN4.out W' (bel_both hb5 h))
    have HS5 := Lib.hid (same_tf _ _ _ _ _ hv5.reads (HV4.out.below hb5) hNb HTF.out)
    clear hv5 hb5 h0 h1 h2 h3 h4 h5 h6 h7
    go_wp2_with fail
    refine HS5.out.mono ?_
    rintro e w6 ⟨rfl, hb6⟩
    have HB6 := Lib.hid (bel_both HB5.out hb6)
    have HX6 := Lib.hid (HX5.out.below hb6)
    have HN6 := Lib.hid (fun W' (h : Below w6.heap.size w6 W') => HN5.out W' (bel_both hb6 h))
    clear hb6
    have HB7 := HB6
    have HX7 := HX6
    have HN7 := HN6
    have q9 : (0 : Int) ≤ 1 := by decide
    go_wp2_with fail
    refine (awake_any14 _).mono ?_
    rintro e w9 ⟨rfl, hb9⟩
    have HB9 := Lib.hid (bel_both HB7.out hb9)
    clear hb9
    go_wp2
    go_ret
    exact ⟨rfl, HB9.out⟩
  · obtain rfl : T = 0 := by simpa using hT
    clear hT
    clear e2 e3 a0 a1
    go_enter Tryz.func3, Tryz.ntmps3
    go_wp2_with fail
    refine HK.out.mono ?_
    rintro e w1 ⟨k, b, bn, s, i, f, g, x, rfl, hk, hb1⟩
    have HB1 := Lib.hid (bel_both hb1 (bel1 w1 (.cells #[.int .i64 k, .slice b.1 b.2.1 b.2.2, .int .i64 bn, .slice s.1 s.2.1 s.2.2, .slice i.1 i.2.1 i.2.2, .slice f.1 f.2.1 f.2.2, .slice g.1 g.2.1 g.2.2, .slice x.1 x.2.1 x.2.2] 32)))
    have HX1 := Lib.hid (boxed_new w1 32 k (.slice b.1 b.2.1 b.2.2) bn (.slice s.1 s.2.1 s.2.2) (.slice i.1 i.2.1 i.2.2) (.slice f.1 f.2.1 f.2.2) (.slice g.1 g.2.1 g.2.2) (.slice x.1 x.2.1 x.2.2))
    have HN1 := Lib.hid (fun W' (h : Below _ _ W') => hk W' (bel_both (bel1 w1 (.cells #[.int .i64 k, .slice b.1 b.2.1 b.2.2, .int .i64 bn, .slice s.1 s.2.1 s.2.2, .slice i.1 i.2.1 i.2.2, .slice f.1 f.2.1 f.2.2, .slice g.1 g.2.1 g.2.2, .slice x.1 x.2.1 x.2.2] 32)) h))
    clear hk hb1
    go_wp2_with fail
    refine (HT.out _ HB1.out).mono ?_
    rintro e w2 ⟨v2, rfl, hv2, hb2⟩
    have HB2 := Lib.hid (bel_both HB1.out hb2)
    have HX2 := Lib.hid (HX1.out.below hb2)
    have HV2 := Lib.hid hv2
    have HN2 := Lib.hid (fun W' (h : Below w2.heap.size w2 W') => HN1.out W' (bel_both hb2 h))
    clear hv2 hb2
    obtain ⟨h0, h1, h2, h3, h4, h5, h6, h7⟩ := HX2.out
    go_wp2_with fail
    refine (HF.out _ _ _ _ _ _ _ _ _ HB2.out HN2.out).mono ?_
    clear h0 h1 h2 h3 h4 h5 h6 h7
    rintro e w3 ⟨k5, b5, bn5, s5, i5, f5, g5, x5, rfl, hk5, hl5, hb3⟩
    have HB3 := Lib.hid (bel_both (bel_both HB2.out hb3) (bel1 w3 (.cells #[.int .i64 k5, .slice b5.1 b5.2.1 b5.2.2, .int .i64 bn5, .slice s5.1 s5.2.1 s5.2.2, .slice i5.1 i5.2.1 i5.2.2, .slice f5.1 f5.2.1 f5.2.2, .slice g5.1 g5.2.1 g5.2.2, .slice x5.1 x5.2.1 x5.2.2] 32)))
    have HX3 := Lib.hid (boxed_new w3 32 k5 (.slice b5.1 b5.2.1 b5.2.2) bn5 (.slice s5.1 s5.2.1 s5.2.2) (.slice i5.1 i5.2.1 i5.2.2) (.slice f5.1 f5.2.1 f5.2.2) (.slice g5.1 g5.2.1 g5.2.2) (.slice x5.1 x5.2.1 x5.2.2))
    have HV3 := Lib.hid ((HV2.out.below hb3).below (bel1 w3 (.cells #[.int .i64 k5, .slice b5.1 b5.2.1 b5.2.2, .int .i64 bn5, .slice s5.1 s5.2.1 s5.2.2, .slice i5.1 i5.2.1 i5.2.2, .slice f5.1 f5.2.1 f5.2.2, .slice g5.1 g5.2.1 g5.2.2, .slice x5.1 x5.2.1 x5.2.2] 32)))
    have HN3 := Lib.hid (fun W' (h : Below _ _ W') => hk5 W' (bel_both (bel1 w3 (.cells #[.int .i64 k5, .slice b5.1 b5.2.1 b5.2.2, .int .i64 bn5, .slice s5.1 s5.2.1 s5.2.2, .slice i5.1 i5.2.1 i5.2.2, .slice f5.1 f5.2.1 f5.2.2, .slice g5.1 g5.2.1 g5.2.2, .slice x5.1 x5.2.1 x5.2.2] 32)) h))
    have k0 : 0 < k5 := by rcases (hk5 w3 (Below.refl _ _)).kind with e | e | e | e <;> omega
    have HL := Lib.hid hl5
    clear hb3 hk5 hl5
    go_wp2_with fail
    refine (HR.out _ _ HB3.out HV3.out).mono ?_
    rintro e w4 ⟨v4, rfl, hv4, hb4⟩
    have HB4 := Lib.hid (bel_both HB3.out hb4)
    have HX4 := Lib.hid (HX3.out.below hb4)
    have HN4 := Lib.hid (fun W' (h : Below w4.heap.size w4 W') => HN3.out W' (bel_both hb4 h))
    have HV4 := Lib.hid hv4
    clear hv4 hb4
    obtain ⟨h0, h1, h2, h3, h4, h5, h6, h7⟩ := HX4.out
    go_wp2_with fail
    refine (nums_num _ _ _ _ _ _ _ _ _ _ _ hNb HN4.out).mono ?_
    rintro e w5 ⟨v5, rfl, hv5, hb5⟩
    have HB5 := Lib.hid (bel_both HB4.out hb5)
    have HX5 := Lib.hid (HX4.out.below hb5)
    have HN5 := Lib.hid (fun W' (h : Below w5.heap.size w5 W') => HN4.out W' (bel_both hb5 h))
    have HS5 := Lib.hid (same_tf _ _ _ _ _ hv5.reads (HV4.out.below hb5) hNb HTF.out)
    clear hv5 hb5 h0 h1 h2 h3 h4 h5 h6 h7
    go_wp2_with fail
    refine HS5.out.mono ?_
    rintro e w6 ⟨rfl, hb6⟩
    have HB6 := Lib.hid (bel_both HB5.out hb6)
    have HX6 := Lib.hid (HX5.out.below hb6)
    have HN6 := Lib.hid (fun W' (h : Below w6.heap.size w6 W') => HN5.out W' (bel_both hb6 h))
    clear hb6
    have HB7 := HB6
    have HX7 := HX6
    have HN7 := HN6
    have q9 : (0 : Int) ≤ 1 := by decide
    go_wp2_with fail
    refine (awake_any14 _).mono ?_
    rintro e w9 ⟨rfl, hb9⟩
    have HB9 := Lib.hid (bel_both HB7.out hb9)
    clear hb9
    go_wp2
    go_ret
    exact ⟨rfl, HB9.out⟩

end Go.Proofs.YtdddmehchfnppaaGreatDoor
