/- The statement FoldOne. Conditions: as each theorem says. -/
import Derived.Test.YtdddmehchfnppaaGreatDoorMg37
import Derived.Test.YtdddmehchfnppaaGreatDoorMg25
import Derived.Test.YtdddmehchfnppaaGreatDoorMg24
namespace Go.Proofs.YtdddmehchfnppaaGreatDoor
open Go Go.RowKit Go.Proofs Fl

theorem alloc_size (w : World) (o : Obj) : (w.alloc o).heap.size = w.heap.size + 1 := by
  unfold World.alloc
  exact Array.size_push ..
theorem one_read (w : World) (x : Nat) (e : TypeId) : Reads1 (w.alloc (.cells #[.float .f64 x] e)) (.slice (some ⟨w.heap.size, 0, none⟩) 1 1) ((List.range 1).map fun _ => .float .f64 x) := by
  refine .inr ⟨w.heap.size, 0, 1, 1, rfl, rfl, fun i hi => ?_⟩
  have hi' : i = 0 := by simp at hi; exact hi
  subst hi'
  rw [cell_of_row _ w.heap.size (0 + 0) _ e (0, 0) (heap_alloc_new w _)]
  rfl
theorem one_read_at (w : World) (x : Nat) (e : TypeId) (B : Nat) (hB : w.heap.size = B) : Reads1 (w.alloc (.cells #[.float .f64 x] e)) (.slice (some ⟨B, 0, none⟩) 1 1) ((List.range 1).map fun _ => .float .f64 x) := by
  subst hB
  exact one_read w x e

set_option maxRecDepth 100000 in
set_option maxHeartbeats 2000000 in
theorem foldOne_bad (f : Int) (a b : Nat) (sv : Nat) (sb kb : Bool) (xa xb : Nat) (ga gb : Bool) (w : World)
    (hs1 : ∀ W, Calls Tryz.prog 15 #[.int .i64 f] W fun e w' => e = .returned (.tuple #[.float .f64 sv, .bool sb]) ∧ Below W.heap.size W w')
    (hs2 : ∀ W, Calls Tryz.prog 16 #[.int .i64 f] W fun e w' => e = .returned (.tuple #[.float .f64 sv, .bool sb]) ∧ Below W.heap.size W w')
    (hta : ∀ W, Calls Tryz.prog 17 #[.float .f64 a] W fun e w' => e = .returned (.tuple #[.float .f64 xa, .bool ga]) ∧ W = w')
    (htb : ∀ W, Calls Tryz.prog 17 #[.float .f64 b] W fun e w' => e = .returned (.tuple #[.float .f64 xb, .bool gb]) ∧ W = w')
    (hbs : ∀ W, Calls Tryz.prog 18 #[.float .f64 sv, .float .f64 sv] W fun e w' => e = .returned (.bool true) ∧ W = w')
    (hk1 : ∀ W, Calls Tryz.prog 19 #[.int .i64 f] W fun e w' => e = .returned (.bool kb) ∧ W = w')
    (hk2 : ∀ W, Calls Tryz.prog 20 #[.int .i64 f] W fun e w' => e = .returned (.bool kb) ∧ W = w')
    (hg : ga = false ∨ (ga = true ∧ gb = false)) :
    Calls Tryz.prog 4 #[.int .i64 f, .float .f64 a, .float .f64 b] w fun e w' => e = .returned (.bool true) ∧ Below w.heap.size w w' := by
  have HS1 := Lib.hid hs1
  have HS2 := Lib.hid hs2
  have HTA := Lib.hid hta
  have HTB := Lib.hid htb
  have HBS := Lib.hid hbs
  have HK1 := Lib.hid hk1
  have HK2 := Lib.hid hk2
  have bb1 : (sb != sb) = false := by simp
  have bb2 : (kb != kb) = false := by simp
  clear hs1 hs2 hta htb hbs hk1 hk2
  rcases hg with rfl | ⟨rfl, rfl⟩
  all_goals
    go_enter Tryz.func4, Tryz.ntmps4
    go_wp2_with fail
    refine (HS1.out _).mono ?_
    rintro e w1 ⟨rfl, hb1⟩
    have HB1 := Lib.hid hb1
    clear hb1
    go_wp2_with fail
    refine (HS2.out _).mono ?_
    rintro e w2 ⟨rfl, hb2⟩
    have HB2 := Lib.hid (bel_both HB1.out hb2)
    clear hb2 HB1
    go_wp2_with fail
    refine (HTA.out _).mono ?_
    rintro e w3 ⟨rfl, rfl⟩
    go_wp2_with fail
    refine (HTB.out _).mono ?_
    rintro e w3 ⟨rfl, rfl⟩
    go_wp2_with fail
    refine (HBS.out _).mono ?_
    rintro e w3 ⟨rfl, rfl⟩
    go_wp2_with fail
    refine (HK1.out _).mono ?_
    rintro e w3 ⟨rfl, rfl⟩
    go_wp2_with fail
    refine (HK2.out _).mono ?_
    rintro e w3 ⟨rfl, rfl⟩
    go_wp2_with fail
    refine (awake_any _).mono ?_
    rintro e wz ⟨rfl, hbz⟩
    have HBZ := Lib.hid (bel_both HB2.out hbz)
    clear hbz
    go_wp2
    go_ret
    exact ⟨rfl, HBZ.out⟩

set_option maxRecDepth 100000 in
set_option maxHeartbeats 4000000 in
theorem foldOne_ok (f : Int) (a b : Nat) (sv : Nat) (sb kb : Bool) (xa xb : Nat) (c : Nat) (w : World)
    (hs1 : ∀ W, Calls Tryz.prog 15 #[.int .i64 f] W fun e w' => e = .returned (.tuple #[.float .f64 sv, .bool sb]) ∧ Below W.heap.size W w')
    (hs2 : ∀ W, Calls Tryz.prog 16 #[.int .i64 f] W fun e w' => e = .returned (.tuple #[.float .f64 sv, .bool sb]) ∧ Below W.heap.size W w')
    (hta : ∀ W, Calls Tryz.prog 17 #[.float .f64 a] W fun e w' => e = .returned (.tuple #[.float .f64 xa, .bool true]) ∧ W = w')
    (htb : ∀ W, Calls Tryz.prog 17 #[.float .f64 b] W fun e w' => e = .returned (.tuple #[.float .f64 xb, .bool true]) ∧ W = w')
    (hbs : ∀ W, Calls Tryz.prog 18 #[.float .f64 sv, .float .f64 sv] W fun e w' => e = .returned (.bool true) ∧ W = w')
    (hk1 : ∀ W, Calls Tryz.prog 19 #[.int .i64 f] W fun e w' => e = .returned (.bool kb) ∧ W = w')
    (hk2 : ∀ W, Calls Tryz.prog 20 #[.int .i64 f] W fun e w' => e = .returned (.bool kb) ∧ W = w')
    (ho1 : ∀ W, Calls Tryz.prog 22 #[.int .i64 f, .float .f64 xa, .float .f64 xb] W fun e w' => e = .returned (.tuple #[.float .f64 c, .int .i64 0]) ∧ W = w')
    (ho2 : ∀ W, Calls Tryz.prog 23 #[.int .i64 f, .float .f64 xa, .float .f64 xb] W fun e w' => e = .returned (.tuple #[.float .f64 c, .int .i64 0]) ∧ W = w')
    (hbo : ∀ W, Calls Tryz.prog 18 #[.float .f64 c, .float .f64 c] W fun e w' => e = .returned (.bool true) ∧ W = w')
    (hkx : ∀ W v, Below w.heap.size w W → Reads1 W v ((List.range 1).map fun _ => .float .f64 xa) → Calls Tryz.prog 24 #[v, .int .i64 1] W (KeptK 1 1 (fun _ => xa) W))
    (hky : ∀ W v, Below w.heap.size w W → Reads1 W v ((List.range 1).map fun _ => .float .f64 xb) → Calls Tryz.prog 24 #[v, .int .i64 1] W (KeptK 1 1 (fun _ => xb) W))
    (htw : ∀ (p q : V8) (W : World), Below w.heap.size w W → Keeps (fun _ => False) W (NumV p.v p.k 1 (fun _ => xa)) → Keeps (fun _ => False) W (NumV q.v q.k 1 (fun _ => xb)) → Calls Tryz.prog 25 #[.int .i64 f, p.v, q.v] W (TwoOut (fun _ => False) W c 0))
    (hc : TF c) :
    Calls Tryz.prog 4 #[.int .i64 f, .float .f64 a, .float .f64 b] w fun e w' => e = .returned (.bool true) ∧ Below w.heap.size w w' := by
  have HS1 := Lib.hid hs1
  have HS2 := Lib.hid hs2
  have HTA := Lib.hid hta
  have HTB := Lib.hid htb
  have HBS := Lib.hid hbs
  have HK1 := Lib.hid hk1
  have HK2 := Lib.hid hk2
  have bb1 : (sb != sb) = false := by simp
  have bb2 : (kb != kb) = false := by simp
  clear hs1 hs2 hta htb hbs hk1 hk2
  have HO1 := Lib.hid ho1
  have HO2 := Lib.hid ho2
  have HBO := Lib.hid hbo
  have HKX := Lib.hid hkx
  have HKY := Lib.hid hky
  have HTW := Lib.hid htw
  unfold KeptK at HKX HKY
  unfold TwoOut at HTW
  clear ho1 ho2 hbo hkx hky htw
  have HTC := Lib.hid hc
  clear hc
  go_enter Tryz.func4, Tryz.ntmps4
  go_wp2_with fail
  refine (HS1.out _).mono ?_
  rintro e w1 ⟨rfl, hb1⟩
  have HB1 := Lib.hid hb1
  clear hb1
  go_wp2_with fail
  refine (HS2.out _).mono ?_
  rintro e w2 ⟨rfl, hb2⟩
  have HB2 := Lib.hid (bel_both HB1.out hb2)
  clear hb2 HB1
  go_wp2_with fail
  refine (HTA.out _).mono ?_
  rintro e w3 ⟨rfl, rfl⟩
  go_wp2_with fail
  refine (HTB.out _).mono ?_
  rintro e w3 ⟨rfl, rfl⟩
  go_wp2_with fail
  refine (HBS.out _).mono ?_
  rintro e w3 ⟨rfl, rfl⟩
  go_wp2_with fail
  refine (HK1.out _).mono ?_
  rintro e w3 ⟨rfl, rfl⟩
  go_wp2_with fail
  refine (HK2.out _).mono ?_
  rintro e w3 ⟨rfl, rfl⟩
  go_wp2_with fail
  refine (HO1.out _).mono ?_
  rintro e w3 ⟨rfl, rfl⟩
  go_wp2_with fail
  refine (HO2.out _).mono ?_
  rintro e w3 ⟨rfl, rfl⟩
  go_wp2_with fail
  refine (HBO.out _).mono ?_
  rintro e w3 ⟨rfl, rfl⟩
  have HBA := Lib.hid (bel_both HB2.out (bel1 w2 (.cells #[.float .f64 xa] 47)))
  have HRA := Lib.hid (one_read w2 xa 47)
  clear HS1 HS2 HTA HTB HBS HK1 HK2 HO1 HO2 HBO HB2
  go_wp2_with fail
  refine (HKX.out _ _ HBA.out HRA.out).mono ?_
  rintro e w4 ⟨k1, b1, bn1, s1, i1, f1, g1, x1, rfl, hk, -, hb4⟩
  have HB4 := Lib.hid (bel_both (bel_both HBA.out hb4) (bel1 w4 (.cells #[.int .i64 k1, .slice b1.1 b1.2.1 b1.2.2, .int .i64 bn1, .slice s1.1 s1.2.1 s1.2.2, .slice i1.1 i1.2.1 i1.2.2, .slice f1.1 f1.2.1 f1.2.2, .slice g1.1 g1.2.1 g1.2.2, .slice x1.1 x1.2.1 x1.2.2] 32)))
  have HX4 := Lib.hid (boxed_new w4 32 k1 (.slice b1.1 b1.2.1 b1.2.2) bn1 (.slice s1.1 s1.2.1 s1.2.2) (.slice i1.1 i1.2.1 i1.2.2) (.slice f1.1 f1.2.1 f1.2.2) (.slice g1.1 g1.2.1 g1.2.2) (.slice x1.1 x1.2.1 x1.2.2))
  have HN4 := Lib.hid (hk.step (bel1 w4 (.cells #[.int .i64 k1, .slice b1.1 b1.2.1 b1.2.2, .int .i64 bn1, .slice s1.1 s1.2.1 s1.2.2, .slice i1.1 i1.2.1 i1.2.2, .slice f1.1 f1.2.1 f1.2.2, .slice g1.1 g1.2.1 g1.2.2, .slice x1.1 x1.2.1 x1.2.2] 32)))
  clear hk hb4 HBA HRA HKX
  have HBB := Lib.hid (bel_both HB4.out (bel1 (w4.alloc (.cells #[.int .i64 k1, .slice b1.1 b1.2.1 b1.2.2, .int .i64 bn1, .slice s1.1 s1.2.1 s1.2.2, .slice i1.1 i1.2.1 i1.2.2, .slice f1.1 f1.2.1 f1.2.2, .slice g1.1 g1.2.1 g1.2.2, .slice x1.1 x1.2.1 x1.2.2] 32)) (.cells #[.float .f64 xb] 47)))
  have HRB := Lib.hid (one_read_at (w4.alloc (.cells #[.int .i64 k1, .slice b1.1 b1.2.1 b1.2.2, .int .i64 bn1, .slice s1.1 s1.2.1 s1.2.2, .slice i1.1 i1.2.1 i1.2.2, .slice f1.1 f1.2.1 f1.2.2, .slice g1.1 g1.2.1 g1.2.2, .slice x1.1 x1.2.1 x1.2.2] 32)) xb 47 (w4.heap.size + 1) (alloc_size _ _))
  have HX5 := Lib.hid (HX4.out.below (bel1 (w4.alloc (.cells #[.int .i64 k1, .slice b1.1 b1.2.1 b1.2.2, .int .i64 bn1, .slice s1.1 s1.2.1 s1.2.2, .slice i1.1 i1.2.1 i1.2.2, .slice f1.1 f1.2.1 f1.2.2, .slice g1.1 g1.2.1 g1.2.2, .slice x1.1 x1.2.1 x1.2.2] 32)) (.cells #[.float .f64 xb] 47)))
  have HN5 := Lib.hid (HN4.out.step (bel1 (w4.alloc (.cells #[.int .i64 k1, .slice b1.1 b1.2.1 b1.2.2, .int .i64 bn1, .slice s1.1 s1.2.1 s1.2.2, .slice i1.1 i1.2.1 i1.2.2, .slice f1.1 f1.2.1 f1.2.2, .slice g1.1 g1.2.1 g1.2.2, .slice x1.1 x1.2.1 x1.2.2] 32)) (.cells #[.float .f64 xb] 47)))
  go_wp2_with fail
  refine (HKY.out _ _ HBB.out HRB.out).mono ?_
  rintro e w6 ⟨k2, b2, bn2, s2, i2, f2, g2, x2, rfl, hk, -, hb6⟩
  have HB6 := Lib.hid (bel_both (bel_both HBB.out hb6) (bel1 w6 (.cells #[.int .i64 k2, .slice b2.1 b2.2.1 b2.2.2, .int .i64 bn2, .slice s2.1 s2.2.1 s2.2.2, .slice i2.1 i2.2.1 i2.2.2, .slice f2.1 f2.2.1 f2.2.2, .slice g2.1 g2.2.1 g2.2.2, .slice x2.1 x2.2.1 x2.2.2] 32)))
  have HX6 := Lib.hid ((HX5.out.below hb6).below (bel1 w6 (.cells #[.int .i64 k2, .slice b2.1 b2.2.1 b2.2.2, .int .i64 bn2, .slice s2.1 s2.2.1 s2.2.2, .slice i2.1 i2.2.1 i2.2.2, .slice f2.1 f2.2.1 f2.2.2, .slice g2.1 g2.2.1 g2.2.2, .slice x2.1 x2.2.1 x2.2.2] 32)))
  have HN6 := Lib.hid ((HN5.out.step hb6).step (bel1 w6 (.cells #[.int .i64 k2, .slice b2.1 b2.2.1 b2.2.2, .int .i64 bn2, .slice s2.1 s2.2.1 s2.2.2, .slice i2.1 i2.2.1 i2.2.2, .slice f2.1 f2.2.1 f2.2.2, .slice g2.1 g2.2.1 g2.2.2, .slice x2.1 x2.2.1 x2.2.2] 32)))
  have HY6 := Lib.hid (boxed_new w6 32 k2 (.slice b2.1 b2.2.1 b2.2.2) bn2 (.slice s2.1 s2.2.1 s2.2.2) (.slice i2.1 i2.2.1 i2.2.2) (.slice f2.1 f2.2.1 f2.2.2) (.slice g2.1 g2.2.1 g2.2.2) (.slice x2.1 x2.2.1 x2.2.2))
  have HM6 := Lib.hid (hk.step (bel1 w6 (.cells #[.int .i64 k2, .slice b2.1 b2.2.1 b2.2.2, .int .i64 bn2, .slice s2.1 s2.2.1 s2.2.2, .slice i2.1 i2.2.1 i2.2.2, .slice f2.1 f2.2.1 f2.2.2, .slice g2.1 g2.2.1 g2.2.2, .slice x2.1 x2.2.1 x2.2.2] 32)))
  clear hk hb6 HBB HRB HKY HX4 HN4 HB4 HX5 HN5
  obtain ⟨h0, h1, h2, h3, h4, h5, h6, h7⟩ := HX6.out
  obtain ⟨g0, g1', g2', g3', g4', g5', g6', g7'⟩ := HY6.out
  go_wp2_with fail
  refine (HTW.out ⟨k1, b1, bn1, s1, i1, f1, g1, x1⟩ ⟨k2, b2, bn2, s2, i2, f2, g2, x2⟩ _ HB6.out HN6.out HM6.out).mono ?_
  clear h0 h1 h2 h3 h4 h5 h6 h7 g0 g1' g2' g3' g4' g5' g6' g7'
  rintro e w7 (⟨-, k3, b3, bn3, s3, i3, f3, g3, x3, rfl, hk, hb7⟩ | ⟨he, -, -⟩)
  · have HB7 := Lib.hid (bel_both (bel_both HB6.out hb7) (bel1 w7 (.cells #[.int .i64 k3, .slice b3.1 b3.2.1 b3.2.2, .int .i64 bn3, .slice s3.1 s3.2.1 s3.2.2, .slice i3.1 i3.2.1 i3.2.2, .slice f3.1 f3.2.1 f3.2.2, .slice g3.1 g3.2.1 g3.2.2, .slice x3.1 x3.2.1 x3.2.2] 32)))
    have HX7 := Lib.hid (boxed_new w7 32 k3 (.slice b3.1 b3.2.1 b3.2.2) bn3 (.slice s3.1 s3.2.1 s3.2.2) (.slice i3.1 i3.2.1 i3.2.2) (.slice f3.1 f3.2.1 f3.2.2) (.slice g3.1 g3.2.1 g3.2.2) (.slice x3.1 x3.2.1 x3.2.2))
    have HN7 := Lib.hid (hk.step (bel1 w7 (.cells #[.int .i64 k3, .slice b3.1 b3.2.1 b3.2.2, .int .i64 bn3, .slice s3.1 s3.2.1 s3.2.2, .slice i3.1 i3.2.1 i3.2.2, .slice f3.1 f3.2.1 f3.2.2, .slice g3.1 g3.2.1 g3.2.2, .slice x3.1 x3.2.1 x3.2.2] 32)))
    clear hk hb7 HB6 HX6 HN6 HY6 HM6 HTW
    obtain ⟨h0, h1, h2, h3, h4, h5, h6, h7⟩ := HX7.out
    go_wp2_with fail
    refine (nums_walk _ _ _ _ _ _ _ _ _ _ _ (NumW.of HN7.out) (by decide)).mono ?_
    rintro e w8 ⟨v8, rfl, hv, hb8⟩
    have HB8 := Lib.hid (bel_both (bel_both HB7.out hb8) (bel1 w8 (.cells #[.float .f64 c] 47)))
    have HSM := Lib.hid (same_tf _ _ 1 (fun _ => c) _ (hv.reads.below (bel1 w8 (.cells #[.float .f64 c] 47))) (one_read w8 c 47) (by decide) (fun _ _ => HTC.out))
    clear hv hb8 h0 h1 h2 h3 h4 h5 h6 h7 HX7 HN7 HB7
    go_wp2_with fail
    refine HSM.out.mono ?_
    rintro e w9 ⟨rfl, hb9⟩
    have HB9 := Lib.hid (bel_both HB8.out hb9)
    clear hb9
    go_wp2_with fail
    refine (awake_any _).mono ?_
    rintro e wz ⟨rfl, hbz⟩
    have HBZ := Lib.hid (bel_both HB9.out hbz)
    clear hbz
    go_wp2
    go_ret
    exact ⟨rfl, HBZ.out⟩
  · exact absurd rfl he

set_option maxRecDepth 100000 in
set_option maxHeartbeats 4000000 in
theorem foldOne_err (f : Int) (a b : Nat) (sv : Nat) (sb kb : Bool) (xa xb : Nat) (c : Nat) (E : Int) (w : World)
    (hs1 : ∀ W, Calls Tryz.prog 15 #[.int .i64 f] W fun e w' => e = .returned (.tuple #[.float .f64 sv, .bool sb]) ∧ Below W.heap.size W w')
    (hs2 : ∀ W, Calls Tryz.prog 16 #[.int .i64 f] W fun e w' => e = .returned (.tuple #[.float .f64 sv, .bool sb]) ∧ Below W.heap.size W w')
    (hta : ∀ W, Calls Tryz.prog 17 #[.float .f64 a] W fun e w' => e = .returned (.tuple #[.float .f64 xa, .bool true]) ∧ W = w')
    (htb : ∀ W, Calls Tryz.prog 17 #[.float .f64 b] W fun e w' => e = .returned (.tuple #[.float .f64 xb, .bool true]) ∧ W = w')
    (hbs : ∀ W, Calls Tryz.prog 18 #[.float .f64 sv, .float .f64 sv] W fun e w' => e = .returned (.bool true) ∧ W = w')
    (hk1 : ∀ W, Calls Tryz.prog 19 #[.int .i64 f] W fun e w' => e = .returned (.bool kb) ∧ W = w')
    (hk2 : ∀ W, Calls Tryz.prog 20 #[.int .i64 f] W fun e w' => e = .returned (.bool kb) ∧ W = w')
    (ho1 : ∀ W, Calls Tryz.prog 22 #[.int .i64 f, .float .f64 xa, .float .f64 xb] W fun e w' => e = .returned (.tuple #[.float .f64 c, .int .i64 E]) ∧ W = w')
    (ho2 : ∀ W, Calls Tryz.prog 23 #[.int .i64 f, .float .f64 xa, .float .f64 xb] W fun e w' => e = .returned (.tuple #[.float .f64 c, .int .i64 E]) ∧ W = w')
    (hbo : ∀ W, Calls Tryz.prog 18 #[.float .f64 c, .float .f64 c] W fun e w' => e = .returned (.bool true) ∧ W = w')
    (hkx : ∀ W v, Below w.heap.size w W → Reads1 W v ((List.range 1).map fun _ => .float .f64 xa) → Calls Tryz.prog 24 #[v, .int .i64 1] W (KeptK 1 1 (fun _ => xa) W))
    (hky : ∀ W v, Below w.heap.size w W → Reads1 W v ((List.range 1).map fun _ => .float .f64 xb) → Calls Tryz.prog 24 #[v, .int .i64 1] W (KeptK 1 1 (fun _ => xb) W))
    (htw : ∀ (p q : V8) (W : World), Below w.heap.size w W → Keeps (fun _ => False) W (NumV p.v p.k 1 (fun _ => xa)) → Keeps (fun _ => False) W (NumV q.v q.k 1 (fun _ => xb)) → Calls Tryz.prog 25 #[.int .i64 f, p.v, q.v] W (TwoOut (fun _ => False) W c E))
    (hE : E ≠ 0) :
    Calls Tryz.prog 4 #[.int .i64 f, .float .f64 a, .float .f64 b] w fun e w' => e = .returned (.bool true) ∧ Below w.heap.size w w' := by
  have HS1 := Lib.hid hs1
  have HS2 := Lib.hid hs2
  have HTA := Lib.hid hta
  have HTB := Lib.hid htb
  have HBS := Lib.hid hbs
  have HK1 := Lib.hid hk1
  have HK2 := Lib.hid hk2
  have bb1 : (sb != sb) = false := by simp
  have bb2 : (kb != kb) = false := by simp
  clear hs1 hs2 hta htb hbs hk1 hk2
  have HO1 := Lib.hid ho1
  have HO2 := Lib.hid ho2
  have HBO := Lib.hid hbo
  have HKX := Lib.hid hkx
  have HKY := Lib.hid hky
  have HTW := Lib.hid htw
  unfold KeptK at HKX HKY
  unfold TwoOut at HTW
  clear ho1 ho2 hbo hkx hky htw
  have HE0 := Lib.hid hE
  have E1 : (E != 0) = true := by simpa using hE
  have E2 : (E != E) = false := by simp
  have E3 : (E == E) = true := by simp
  clear hE
  go_enter Tryz.func4, Tryz.ntmps4
  go_wp2_with fail
  refine (HS1.out _).mono ?_
  rintro e w1 ⟨rfl, hb1⟩
  have HB1 := Lib.hid hb1
  clear hb1
  go_wp2_with fail
  refine (HS2.out _).mono ?_
  rintro e w2 ⟨rfl, hb2⟩
  have HB2 := Lib.hid (bel_both HB1.out hb2)
  clear hb2 HB1
  go_wp2_with fail
  refine (HTA.out _).mono ?_
  rintro e w3 ⟨rfl, rfl⟩
  go_wp2_with fail
  refine (HTB.out _).mono ?_
  rintro e w3 ⟨rfl, rfl⟩
  go_wp2_with fail
  refine (HBS.out _).mono ?_
  rintro e w3 ⟨rfl, rfl⟩
  go_wp2_with fail
  refine (HK1.out _).mono ?_
  rintro e w3 ⟨rfl, rfl⟩
  go_wp2_with fail
  refine (HK2.out _).mono ?_
  rintro e w3 ⟨rfl, rfl⟩
  go_wp2_with fail
  refine (HO1.out _).mono ?_
  rintro e w3 ⟨rfl, rfl⟩
  go_wp2_with fail
  refine (HO2.out _).mono ?_
  rintro e w3 ⟨rfl, rfl⟩
  go_wp2_with fail
  refine (HBO.out _).mono ?_
  rintro e w3 ⟨rfl, rfl⟩
  have HBA := Lib.hid (bel_both HB2.out (bel1 w2 (.cells #[.float .f64 xa] 47)))
  have HRA := Lib.hid (one_read w2 xa 47)
  clear HS1 HS2 HTA HTB HBS HK1 HK2 HO1 HO2 HBO HB2
  go_wp2_with fail
  refine (HKX.out _ _ HBA.out HRA.out).mono ?_
  rintro e w4 ⟨k1, b1, bn1, s1, i1, f1, g1, x1, rfl, hk, -, hb4⟩
  have HB4 := Lib.hid (bel_both (bel_both HBA.out hb4) (bel1 w4 (.cells #[.int .i64 k1, .slice b1.1 b1.2.1 b1.2.2, .int .i64 bn1, .slice s1.1 s1.2.1 s1.2.2, .slice i1.1 i1.2.1 i1.2.2, .slice f1.1 f1.2.1 f1.2.2, .slice g1.1 g1.2.1 g1.2.2, .slice x1.1 x1.2.1 x1.2.2] 32)))
  have HX4 := Lib.hid (boxed_new w4 32 k1 (.slice b1.1 b1.2.1 b1.2.2) bn1 (.slice s1.1 s1.2.1 s1.2.2) (.slice i1.1 i1.2.1 i1.2.2) (.slice f1.1 f1.2.1 f1.2.2) (.slice g1.1 g1.2.1 g1.2.2) (.slice x1.1 x1.2.1 x1.2.2))
  have HN4 := Lib.hid (hk.step (bel1 w4 (.cells #[.int .i64 k1, .slice b1.1 b1.2.1 b1.2.2, .int .i64 bn1, .slice s1.1 s1.2.1 s1.2.2, .slice i1.1 i1.2.1 i1.2.2, .slice f1.1 f1.2.1 f1.2.2, .slice g1.1 g1.2.1 g1.2.2, .slice x1.1 x1.2.1 x1.2.2] 32)))
  clear hk hb4 HBA HRA HKX
  have HBB := Lib.hid (bel_both HB4.out (bel1 (w4.alloc (.cells #[.int .i64 k1, .slice b1.1 b1.2.1 b1.2.2, .int .i64 bn1, .slice s1.1 s1.2.1 s1.2.2, .slice i1.1 i1.2.1 i1.2.2, .slice f1.1 f1.2.1 f1.2.2, .slice g1.1 g1.2.1 g1.2.2, .slice x1.1 x1.2.1 x1.2.2] 32)) (.cells #[.float .f64 xb] 47)))
  have HRB := Lib.hid (one_read_at (w4.alloc (.cells #[.int .i64 k1, .slice b1.1 b1.2.1 b1.2.2, .int .i64 bn1, .slice s1.1 s1.2.1 s1.2.2, .slice i1.1 i1.2.1 i1.2.2, .slice f1.1 f1.2.1 f1.2.2, .slice g1.1 g1.2.1 g1.2.2, .slice x1.1 x1.2.1 x1.2.2] 32)) xb 47 (w4.heap.size + 1) (alloc_size _ _))
  have HX5 := Lib.hid (HX4.out.below (bel1 (w4.alloc (.cells #[.int .i64 k1, .slice b1.1 b1.2.1 b1.2.2, .int .i64 bn1, .slice s1.1 s1.2.1 s1.2.2, .slice i1.1 i1.2.1 i1.2.2, .slice f1.1 f1.2.1 f1.2.2, .slice g1.1 g1.2.1 g1.2.2, .slice x1.1 x1.2.1 x1.2.2] 32)) (.cells #[.float .f64 xb] 47)))
  have HN5 := Lib.hid (HN4.out.step (bel1 (w4.alloc (.cells #[.int .i64 k1, .slice b1.1 b1.2.1 b1.2.2, .int .i64 bn1, .slice s1.1 s1.2.1 s1.2.2, .slice i1.1 i1.2.1 i1.2.2, .slice f1.1 f1.2.1 f1.2.2, .slice g1.1 g1.2.1 g1.2.2, .slice x1.1 x1.2.1 x1.2.2] 32)) (.cells #[.float .f64 xb] 47)))
  go_wp2_with fail
  refine (HKY.out _ _ HBB.out HRB.out).mono ?_
  rintro e w6 ⟨k2, b2, bn2, s2, i2, f2, g2, x2, rfl, hk, -, hb6⟩
  have HB6 := Lib.hid (bel_both (bel_both HBB.out hb6) (bel1 w6 (.cells #[.int .i64 k2, .slice b2.1 b2.2.1 b2.2.2, .int .i64 bn2, .slice s2.1 s2.2.1 s2.2.2, .slice i2.1 i2.2.1 i2.2.2, .slice f2.1 f2.2.1 f2.2.2, .slice g2.1 g2.2.1 g2.2.2, .slice x2.1 x2.2.1 x2.2.2] 32)))
  have HX6 := Lib.hid ((HX5.out.below hb6).below (bel1 w6 (.cells #[.int .i64 k2, .slice b2.1 b2.2.1 b2.2.2, .int .i64 bn2, .slice s2.1 s2.2.1 s2.2.2, .slice i2.1 i2.2.1 i2.2.2, .slice f2.1 f2.2.1 f2.2.2, .slice g2.1 g2.2.1 g2.2.2, .slice x2.1 x2.2.1 x2.2.2] 32)))
  have HN6 := Lib.hid ((HN5.out.step hb6).step (bel1 w6 (.cells #[.int .i64 k2, .slice b2.1 b2.2.1 b2.2.2, .int .i64 bn2, .slice s2.1 s2.2.1 s2.2.2, .slice i2.1 i2.2.1 i2.2.2, .slice f2.1 f2.2.1 f2.2.2, .slice g2.1 g2.2.1 g2.2.2, .slice x2.1 x2.2.1 x2.2.2] 32)))
  have HY6 := Lib.hid (boxed_new w6 32 k2 (.slice b2.1 b2.2.1 b2.2.2) bn2 (.slice s2.1 s2.2.1 s2.2.2) (.slice i2.1 i2.2.1 i2.2.2) (.slice f2.1 f2.2.1 f2.2.2) (.slice g2.1 g2.2.1 g2.2.2) (.slice x2.1 x2.2.1 x2.2.2))
  have HM6 := Lib.hid (hk.step (bel1 w6 (.cells #[.int .i64 k2, .slice b2.1 b2.2.1 b2.2.2, .int .i64 bn2, .slice s2.1 s2.2.1 s2.2.2, .slice i2.1 i2.2.1 i2.2.2, .slice f2.1 f2.2.1 f2.2.2, .slice g2.1 g2.2.1 g2.2.2, .slice x2.1 x2.2.1 x2.2.2] 32)))
  clear hk hb6 HBB HRB HKY HX4 HN4 HB4 HX5 HN5
  obtain ⟨h0, h1, h2, h3, h4, h5, h6, h7⟩ := HX6.out
  obtain ⟨g0, g1', g2', g3', g4', g5', g6', g7'⟩ := HY6.out
  go_wp2_with fail
  refine (HTW.out ⟨k1, b1, bn1, s1, i1, f1, g1, x1⟩ ⟨k2, b2, bn2, s2, i2, f2, g2, x2⟩ _ HB6.out HN6.out HM6.out).mono ?_
  clear h0 h1 h2 h3 h4 h5 h6 h7 g0 g1' g2' g3' g4' g5' g6' g7'
  rintro e w7 (⟨he, -⟩ | ⟨-, rfl, hb7⟩)
  · exact absurd he HE0.out
  · have HB7 := Lib.hid (bel_both (bel_both HB6.out hb7) (bel1 w7 (.cells #[.int .i64 0, vnil, .int .i64 0, vnil, vnil, vnil, vnil, vnil] 32)))
    have HX7 := Lib.hid (boxed_new w7 32 0 vnil 0 vnil vnil vnil vnil vnil)
    clear hb7 HB6 HX6 HN6 HY6 HM6 HTW
    obtain ⟨h0, h1, h2, h3, h4, h5, h6, h7⟩ := HX7.out
    go_wp2_with fail
    refine (kind_any 0 vnil 0 vnil vnil vnil vnil vnil _).mono ?_
    rintro e w8 ⟨rfl, hb8⟩
    have HB8 := Lib.hid (bel_both HB7.out hb8)
    clear hb8 h0 h1 h2 h3 h4 h5 h6 h7
    go_wp2_with fail
    refine (awake_any _).mono ?_
    rintro e wz ⟨rfl, hbz⟩
    have HBZ := Lib.hid (bel_both HB8.out hbz)
    clear hbz
    go_wp2
    go_ret
    exact ⟨rfl, HBZ.out⟩

/-- what a function does to two numbers, or that there is none -/
noncomputable def rP (f : Int) (x y : Nat) : Nat × Int := if knownB f = true then oneP pwP f x y else (0, 1)
theorem rP_cases (f : Int) {x y : Nat} (hx : TF x) (hy : TF y) : ∃ c E, rP f x y = (c, E) ∧ TF c ∧ (E = 0 ∨ (c = 0 ∧ E ≠ 0)) := by
  unfold rP
  split
  · rcases oneP_cases powIs f hx hy with ⟨c, hc, e⟩ | e
    · exact ⟨c, 0, e, hc, .inl rfl⟩
    · exact ⟨0, 24, e, tf_zero, .inr ⟨rfl, by decide⟩⟩
  · exact ⟨0, 1, rfl, tf_zero, .inr ⟨rfl, by decide⟩⟩

theorem two_any (f : Int) (p q : V8) (x y c : Nat) (E : Int) (w : World) (hx : TF x) (hy : TF y) (hr : rP f x y = (c, E))
    (hP : Keeps (fun _ => False) w (NumV p.v p.k 1 (fun _ => x))) (hQ : Keeps (fun _ => False) w (NumV q.v q.k 1 (fun _ => y))) :
    Calls Tryz.prog 25 #[.int .i64 f, p.v, q.v] w (TwoOut (fun _ => False) w c E) := by
  have hcs := oneP_cases powIs f hx hy
  have hok : ∀ (H' : Nat → Prop) (W : World) (k' : Int) (G : Nat → Nat) (hG : G 0 = c) (e : Ending) (w' : World), E = 0 → VecOk H' W (fun u W' => NumV u k' 1 G W') e w' → TwoOut H' W c E e w' := by
    rintro H' W k' G hG e w' hE ⟨k, b, bn, s, i, ff, cc, xx, rfl, hk, hb⟩
    refine .inl ⟨hE, k, b, bn, s, i, ff, cc, xx, rfl, hk.imp fun W' h => ?_, hb⟩
    have h2 := h.numW
    exact ⟨h2.cls, h2.len, fun j hj => by
      obtain rfl : j = 0 := by omega
      have := h2.num 0 (by decide)
      rw [hG] at this
      exact this⟩
  by_cases h1 : 1 ≤ f ∧ f ≤ 8
  · have hk : knownB f = true := decide_eq_true (.inl h1)
    have hr2 : oneP pwP f x y = (c, E) := by rw [← hr]; exact (if_pos hk).symm
    refine two_arith (fun _ => False) f c E p q w (fun _ h => h.elim) h1.1 h1.2 (fun W H' hb hH' => (aapply_any H' f h1.1 h1.2 p q 1 1 (fun _ => x) (fun _ => y) W hH' (by decide) (by decide) (fun W' hb' => (hP.step (bel_both hb hb')).now) (fun W' hb' => (hQ.step (bel_both hb hb')).now)).mono ?_)
    rintro e w' (⟨h, _⟩ | ⟨N, h, hA⟩)
    · cases h
    · obtain rfl : N = 1 := by injection h with h; exact h.symm
      rcases hA with ⟨hall, hv⟩ | ⟨⟨c0, _, hbad⟩, rfl, hb2⟩
      · have h0 := hall 0 (by decide)
        have h0' : (oneP pwP f x y).2 = 0 := h0
        refine hok H' W _ _ (by show (oneP pwP f x y).1 = c; rw [hr2]) e w' (by rw [hr2] at h0'; exact h0') hv
      · have hb' : (oneP pwP f x y).2 ≠ 0 := hbad
        rcases hcs with ⟨z, _, e⟩ | e
        · rw [e] at hb'; exact absurd rfl hb'
        · rw [hr2] at e
          injection e with e1 e2
          exact .inr ⟨by rw [e2]; decide, by rw [e2], hb2⟩
  · by_cases h2 : 11 ≤ f ∧ f ≤ 16
    · have hk : knownB f = true := decide_eq_true (.inr (.inl h2))
      have hr2 : oneP pwP f x y = (c, E) := by rw [← hr]; exact (if_pos hk).symm
      rw [oneP_rel h2.1 h2.2] at hr2
      injection hr2 with e1 e2
      refine two_relate (fun _ => False) f c E p q w (fun _ h => h.elim) h2.1 h2.2 (fun W H' hb hH' => (rapply_any H' f h2.1 h2.2 p q 1 1 (fun _ => x) (fun _ => y) W hH' (by decide) (by decide) (fun W' hb' => (hP.step (bel_both hb hb')).now) (fun W' hb' => (hQ.step (bel_both hb hb')).now)).mono ?_)
      rintro e w' (⟨h, _⟩ | ⟨N, h, hv⟩)
      · cases h
      · obtain rfl : N = 1 := by injection h with h; exact h.symm
        exact hok H' W _ (fun _ => flagF (relB f x y)) e1 e w' e2.symm hv
    · refine two_logic (fun _ => False) f c E p q w (fun _ h => h.elim) h1 h2 (fun W H' hb hH' => ?_)
      by_cases h3 : 21 ≤ f ∧ f ≤ 24
      · have hk : knownB f = true := decide_eq_true (.inr (.inr h3))
        have hr2 : oneP pwP f x y = (c, E) := by rw [← hr]; exact (if_pos hk).symm
        rw [oneP_log h3.1] at hr2
        refine (lapply_same H' f h3.1 h3.2 p q 1 (fun _ => x) (fun _ => y) W hH' (by decide) (by decide) (hP.step hb) (hQ.step hb)).mono ?_
        rintro e w' (⟨h, _⟩ | ⟨N, h, hA⟩)
        · cases h
        · obtain rfl : N = 1 := by injection h with h; exact h.symm
          rcases hA with ⟨hall, hv⟩ | ⟨⟨c0, _, hbad⟩, rfl, hb2⟩
          · have h0 := hall 0 (by decide)
            have h0' : (isT x && isT y) = true := h0
            rw [logP_yes h0'] at hr2
            injection hr2 with e1 e2
            exact hok H' W _ (fun _ => flagF (logB f (tv x) (tv y))) e1 e w' e2.symm hv
          · have hb' : (isT x && isT y) = false := hbad
            rw [logP_no hb'] at hr2
            injection hr2 with e1 e2
            exact .inr ⟨by rw [← e2]; decide, by rw [← e2], hb2⟩
      · have hk : knownB f = false := decide_eq_false (by omega)
        have hr2 : ((0 : Nat), (1 : Int)) = (c, E) := by rw [← hr]; exact (if_neg (by rw [hk]; decide)).symm
        injection hr2 with e1 e2
        refine (lapply_unknown f hk p q W).mono ?_
        rintro e w' ⟨rfl, hb2⟩
        exact .inr ⟨by rw [← e2]; decide, by rw [← e2], hb2⟩

theorem start_all (f : Int) : ∃ sv sb, TF sv ∧ (∀ W, Calls Tryz.prog 15 #[.int .i64 f] W fun e w' => e = .returned (.tuple #[.float .f64 sv, .bool sb]) ∧ Below W.heap.size W w') ∧
    (∀ W, Calls Tryz.prog 16 #[.int .i64 f] W fun e w' => e = .returned (.tuple #[.float .f64 sv, .bool sb]) ∧ Below W.heap.size W w') := by
  cases hk : knownB f with
  | true =>
    refine ⟨(startF f).getD 0, (startF f).isSome, ?_, fun W => start_any f hk W, fun W => rstart_any f hk W⟩
    cases hs : startF f with
    | none => exact tf_zero
    | some x => exact startF_tf hs
  | false => exact ⟨0, false, tf_zero, fun W => start_unknown f hk W, fun W => rstart_unknown f hk W⟩

theorem foldOne_any (f : Int) (a : Nat) (ha : a < 18446744073709551616) (b : Nat) (hb : b < 18446744073709551616) {w : World} :
    Calls Tryz.prog 4 #[.int .i64 f, .float .f64 a, .float .f64 b] w fun e w' => e = .returned (.bool true) ∧ Below w.heap.size w w' := by
  obtain ⟨sv, sb, hsv, hs1, hs2⟩ := start_all f
  rcases ok_cases ha with ⟨_, hxa, _, hta⟩ | ⟨_, _, hta⟩
  · rcases ok_cases hb with ⟨_, hxb, _, htb⟩ | ⟨_, _, htb⟩
    · obtain ⟨c, E, hr, hc, hE⟩ := rP_cases f hxa hxb
      have ho1 : ∀ W, Calls Tryz.prog 22 #[.int .i64 f, .float .f64 (tidF a), .float .f64 (tidF b)] W fun e w' => e = .returned (.tuple #[.float .f64 c, .int .i64 E]) ∧ W = w' := fun W => by
        cases hk : knownB f with
        | true =>
          have h := one_any powIs f hk _ _ hxa hxb W
          rw [show oneP pwP f (tidF a) (tidF b) = (c, E) by rw [← hr]; exact (if_pos hk).symm] at h
          exact h
        | false =>
          have h : ((0 : Nat), (1 : Int)) = (c, E) := by rw [← hr]; exact (if_neg (by rw [hk]; decide)).symm
          injection h with h1 h2
          rw [← h1, ← h2]
          exact one_unknown f hk _ _ W
      have ho2 : ∀ W, Calls Tryz.prog 23 #[.int .i64 f, .float .f64 (tidF a), .float .f64 (tidF b)] W fun e w' => e = .returned (.tuple #[.float .f64 c, .int .i64 E]) ∧ W = w' := fun W => by
        cases hk : knownB f with
        | true =>
          have h := rone_any powIs f hk _ _ hxa hxb W
          rw [show oneP pwP f (tidF a) (tidF b) = (c, E) by rw [← hr]; exact (if_pos hk).symm] at h
          exact h
        | false =>
          have h : ((0 : Nat), (1 : Int)) = (c, E) := by rw [← hr]; exact (if_neg (by rw [hk]; decide)).symm
          injection h with h1 h2
          rw [← h1, ← h2]
          exact rone_unknown f hk _ _ W
      have hkp : ∀ x, TF x → ∀ W v, Below w.heap.size w W → Reads1 W v ((List.range 1).map fun _ => .float .f64 x) → Calls Tryz.prog 24 #[v, .int .i64 1] W (KeptK 1 1 (fun _ => x) W) :=
        fun x hx W v _ hv => kept_tf 1 1 1 (fun _ => x) W v (by decide) hv (fun _ _ => hx) (fun h => absurd h (by decide))
      have htw : ∀ (p q : V8) (W : World), Below w.heap.size w W → Keeps (fun _ => False) W (NumV p.v p.k 1 (fun _ => tidF a)) → Keeps (fun _ => False) W (NumV q.v q.k 1 (fun _ => tidF b)) → Calls Tryz.prog 25 #[.int .i64 f, p.v, q.v] W (TwoOut (fun _ => False) W c E) :=
        fun p q W _ hP hQ => two_any f p q _ _ c E W hxa hxb hr hP hQ
      by_cases h0 : E = 0
      · subst h0
        exact foldOne_ok f a b sv sb (knownB f) _ _ c w hs1 hs2 hta htb (fun W => bits_tf hsv W) (fun W => known_any f W) (fun W => rknown_any f W) ho1 ho2 (fun W => bits_tf hc W) (hkp _ hxa) (hkp _ hxb) htw hc
      · exact foldOne_err f a b sv sb (knownB f) _ _ c E w hs1 hs2 hta htb (fun W => bits_tf hsv W) (fun W => known_any f W) (fun W => rknown_any f W) ho1 ho2 (fun W => bits_tf hc W) (hkp _ hxa) (hkp _ hxb) htw h0
    · exact foldOne_bad f a b sv sb (knownB f) _ _ true false w hs1 hs2 hta htb (fun W => bits_tf hsv W) (fun W => known_any f W) (fun W => rknown_any f W) (.inr ⟨rfl, rfl⟩)
  · rcases ok_cases hb with ⟨_, _, _, htb⟩ | ⟨_, _, htb⟩
    · exact foldOne_bad f a b sv sb (knownB f) _ _ false true w hs1 hs2 hta htb (fun W => bits_tf hsv W) (fun W => known_any f W) (fun W => rknown_any f W) (.inl rfl)
    · exact foldOne_bad f a b sv sb (knownB f) _ _ false false w hs1 hs2 hta htb (fun W => bits_tf hsv W) (fun W => known_any f W) (fun W => rknown_any f W) (.inl rfl)
end Go.Proofs.YtdddmehchfnppaaGreatDoor
