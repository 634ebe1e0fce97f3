/- The walks of fold.Two, and of One, Start and logic.Apply at a function that there is not. Conditions: as each theorem says. -/
import Derived.Test.YtdddmehchfnppaaGreatDoorMg36
import Derived.Test.YtdddmehchfnppaaGreatDoorMg17
namespace Go.Proofs.YtdddmehchfnppaaGreatDoor
open Go Go.RowKit Go.Proofs Fl

/-- what comes of two lists of one number -/
def TwoOut (H : Nat → Prop) (w : World) (c : Nat) (E : Int) (e : Ending) (w' : World) : Prop :=
  (E = 0 ∧ ∃ (k : Int) (b : Sl) (bn : Int) (s i f g x : Sl), e = .returned (.tuple #[vecW k b bn s i f g x, .int .i64 0]) ∧ Keeps H w' (NumW (vecW k b bn s i f g x) 1 (fun _ => c)) ∧ Below w.heap.size w w') ∨
  (E ≠ 0 ∧ e = .returned (.tuple #[vecV 0 vnil 0 vnil vnil vnil vnil vnil, .int .i64 E]) ∧ Below w.heap.size w w')

set_option maxRecDepth 100000 in
set_option maxHeartbeats 2000000 in
theorem two_arith (H : Nat → Prop) (f : Int) (c : Nat) (E : Int) (p q : V8) (w : World) (hH : ∀ b, H b → b < w.heap.size) (h1 : 1 ≤ f) (h2 : f ≤ 8)
    (hA : ∀ (W : World) (H' : Nat → Prop), Below w.heap.size w W → (∀ b, H' b → b < W.heap.size) → Calls Tryz.prog 51 #[.int .i64 f, p.v, q.v] W (TwoOut H' W c E)) :
    Calls Tryz.prog 25 #[.int .i64 f, p.v, q.v] w (TwoOut H w c E) := by
  have HA := Lib.hid hA
  have HH := Lib.hid hH
  have HS0 := Lib.hid (St2.new w p q)
  unfold TwoOut at HA
  clear hA hH
  go_enter Tryz.func25, Tryz.ntmps25
  obtain ⟨h0, h1, h2, h3, h4, h5, h6, h7⟩ := HS0.out.one
  obtain ⟨g0, g1, g2, g3, g4, g5, g6, g7⟩ := HS0.out.two
  go_wp2_with fail
  refine (HA.out _ (fun j => H j ∨ j = w.heap.size + 2) HS0.out.bel (fun j e => by
    have h1 := HS0.out.sz
    rcases e with e | e
    · have := HH.out j e; omega
    · omega)).mono ?_
  clear h0 h1 h2 h3 h4 h5 h6 h7 g0 g1 g2 g3 g4 g5 g6 g7
  rintro e w9 (⟨he, k5, b5, bn5, s5, i5, f5, c5, x5, rfl, hk9, hb9⟩ | ⟨he, rfl, hb9⟩)
  · have HS9 := Lib.hid (HS0.out.step hb9)
    have HKE := Lib.hid hk9
    have HE := Lib.hid he
    clear hb9 hk9 he
    obtain ⟨⟨h0, h1, h2, h3, h4, h5, h6, h7⟩, hz⟩ := boxed_of HS9.out.res
    go_wp2
    refine bodyPost_ret (v := .tuple #[vecW k5 b5 bn5 s5 i5 f5 c5 x5, .int .i64 0]) ?_ rfl (.inl ⟨HE.out, k5, b5, bn5, s5, i5, f5, c5, x5, rfl, (HKE.out.set8 (.inr rfl) _ _ _ _ _ _ _ _).sub (fun _ _ e => .inl e), below_set8 HS9.out.bel (Nat.le_add_right _ 2) _ _ _ _ _ _ _ _⟩)
    exact ret_vec2 (fn := Tryz.f25) (p := 6) (u := 7) rfl _ _ (w.heap.size + 2) (by rfl) (set8_block HS9.out.res _ _ _ _ _ _ _ _)
  · have HS9 := Lib.hid (HS0.out.step hb9)
    have HE := Lib.hid he
    clear hb9 he
    obtain ⟨⟨h0, h1, h2, h3, h4, h5, h6, h7⟩, hz⟩ := boxed_of HS9.out.res
    go_wp2
    refine bodyPost_ret (v := .tuple #[vecV 0 vnil 0 vnil vnil vnil vnil vnil, .int .i64 E]) ?_ rfl (.inr ⟨HE.out, rfl, below_set8 HS9.out.bel (Nat.le_add_right _ 2) _ _ _ _ _ _ _ _⟩)
    exact ret_vec2 (fn := Tryz.f25) (p := 6) (u := 7) rfl _ _ (w.heap.size + 2) (by rfl) (set8_block HS9.out.res _ _ _ _ _ _ _ _)

set_option maxRecDepth 100000 in
set_option maxHeartbeats 2000000 in
theorem two_relate (H : Nat → Prop) (f : Int) (c : Nat) (E : Int) (p q : V8) (w : World) (hH : ∀ b, H b → b < w.heap.size) (h1 : 11 ≤ f) (h2 : f ≤ 16)
    (hA : ∀ (W : World) (H' : Nat → Prop), Below w.heap.size w W → (∀ b, H' b → b < W.heap.size) → Calls Tryz.prog 52 #[.int .i64 f, p.v, q.v] W (TwoOut H' W c E)) :
    Calls Tryz.prog 25 #[.int .i64 f, p.v, q.v] w (TwoOut H w c E) := by
  have HA := Lib.hid hA
  have HH := Lib.hid hH
  have HS0 := Lib.hid (St2.new w p q)
  unfold TwoOut at HA
  have q1 : ¬ f ≤ 8 := by omega
  clear hA hH
  go_enter Tryz.func25, Tryz.ntmps25
  obtain ⟨h0, h1, h2, h3, h4, h5, h6, h7⟩ := HS0.out.one
  obtain ⟨g0, g1, g2, g3, g4, g5, g6, g7⟩ := HS0.out.two
  go_wp2_with fail
  refine (HA.out _ (fun j => H j ∨ j = w.heap.size + 2) HS0.out.bel (fun j e => by
    have h1 := HS0.out.sz
    rcases e with e | e
    · have := HH.out j e; omega
    · omega)).mono ?_
  clear h0 h1 h2 h3 h4 h5 h6 h7 g0 g1 g2 g3 g4 g5 g6 g7
  rintro e w9 (⟨he, k5, b5, bn5, s5, i5, f5, c5, x5, rfl, hk9, hb9⟩ | ⟨he, rfl, hb9⟩)
  · have HS9 := Lib.hid (HS0.out.step hb9)
    have HKE := Lib.hid hk9
    have HE := Lib.hid he
    clear hb9 hk9 he
    obtain ⟨⟨h0, h1, h2, h3, h4, h5, h6, h7⟩, hz⟩ := boxed_of HS9.out.res
    go_wp2
    refine bodyPost_ret (v := .tuple #[vecW k5 b5 bn5 s5 i5 f5 c5 x5, .int .i64 0]) ?_ rfl (.inl ⟨HE.out, k5, b5, bn5, s5, i5, f5, c5, x5, rfl, (HKE.out.set8 (.inr rfl) _ _ _ _ _ _ _ _).sub (fun _ _ e => .inl e), below_set8 HS9.out.bel (Nat.le_add_right _ 2) _ _ _ _ _ _ _ _⟩)
    exact ret_vec2 (fn := Tryz.f25) (p := 6) (u := 7) rfl _ _ (w.heap.size + 2) (by rfl) (set8_block HS9.out.res _ _ _ _ _ _ _ _)
  · have HS9 := Lib.hid (HS0.out.step hb9)
    have HE := Lib.hid he
    clear hb9 he
    obtain ⟨⟨h0, h1, h2, h3, h4, h5, h6, h7⟩, hz⟩ := boxed_of HS9.out.res
    go_wp2
    refine bodyPost_ret (v := .tuple #[vecV 0 vnil 0 vnil vnil vnil vnil vnil, .int .i64 E]) ?_ rfl (.inr ⟨HE.out, rfl, below_set8 HS9.out.bel (Nat.le_add_right _ 2) _ _ _ _ _ _ _ _⟩)
    exact ret_vec2 (fn := Tryz.f25) (p := 6) (u := 7) rfl _ _ (w.heap.size + 2) (by rfl) (set8_block HS9.out.res _ _ _ _ _ _ _ _)

set_option maxRecDepth 100000 in
set_option maxHeartbeats 2000000 in
theorem two_logic (H : Nat → Prop) (f : Int) (c : Nat) (E : Int) (p q : V8) (w : World) (hH : ∀ b, H b → b < w.heap.size) (h1 : ¬ (1 ≤ f ∧ f ≤ 8)) (h2 : ¬ (11 ≤ f ∧ f ≤ 16))
    (hA : ∀ (W : World) (H' : Nat → Prop), Below w.heap.size w W → (∀ b, H' b → b < W.heap.size) → Calls Tryz.prog 53 #[.int .i64 f, p.v, q.v] W (TwoOut H' W c E)) :
    Calls Tryz.prog 25 #[.int .i64 f, p.v, q.v] w (TwoOut H w c E) := by
  have HA := Lib.hid hA
  have HH := Lib.hid hH
  have HS0 := Lib.hid (St2.new w p q)
  unfold TwoOut at HA
  have hcase : f < 1 ∨ (8 < f ∧ f < 11) ∨ 16 < f := by omega
  clear hA hH h1 h2
  rcases hcase with h | ⟨h, h'⟩ | h
  all_goals
    go_enter Tryz.func25, Tryz.ntmps25
    obtain ⟨h0, h1, h2, h3, h4, h5, h6, h7⟩ := HS0.out.one
    obtain ⟨g0, g1, g2, g3, g4, g5, g6, g7⟩ := HS0.out.two
    go_wp2_with fail
    refine (HA.out _ (fun j => H j ∨ j = w.heap.size + 2) HS0.out.bel (fun j e => by
      have h1 := HS0.out.sz
      rcases e with e | e
      · have := HH.out j e; omega
      · omega)).mono ?_
    clear h0 h1 h2 h3 h4 h5 h6 h7 g0 g1 g2 g3 g4 g5 g6 g7
    rintro e w9 (⟨he, k5, b5, bn5, s5, i5, f5, c5, x5, rfl, hk9, hb9⟩ | ⟨he, rfl, hb9⟩)
    · have HS9 := Lib.hid (HS0.out.step hb9)
      have HKE := Lib.hid hk9
      have HE := Lib.hid he
      clear hb9 hk9 he
      obtain ⟨⟨h0, h1, h2, h3, h4, h5, h6, h7⟩, hz⟩ := boxed_of HS9.out.res
      go_wp2
      refine bodyPost_ret (v := .tuple #[vecW k5 b5 bn5 s5 i5 f5 c5 x5, .int .i64 0]) ?_ rfl (.inl ⟨HE.out, k5, b5, bn5, s5, i5, f5, c5, x5, rfl, (HKE.out.set8 (.inr rfl) _ _ _ _ _ _ _ _).sub (fun _ _ e => .inl e), below_set8 HS9.out.bel (Nat.le_add_right _ 2) _ _ _ _ _ _ _ _⟩)
      exact ret_vec2 (fn := Tryz.f25) (p := 6) (u := 7) rfl _ _ (w.heap.size + 2) (by rfl) (set8_block HS9.out.res _ _ _ _ _ _ _ _)
    · have HS9 := Lib.hid (HS0.out.step hb9)
      have HE := Lib.hid he
      clear hb9 he
      obtain ⟨⟨h0, h1, h2, h3, h4, h5, h6, h7⟩, hz⟩ := boxed_of HS9.out.res
      go_wp2
      refine bodyPost_ret (v := .tuple #[vecV 0 vnil 0 vnil vnil vnil vnil vnil, .int .i64 E]) ?_ rfl (.inr ⟨HE.out, rfl, below_set8 HS9.out.bel (Nat.le_add_right _ 2) _ _ _ _ _ _ _ _⟩)
      exact ret_vec2 (fn := Tryz.f25) (p := 6) (u := 7) rfl _ _ (w.heap.size + 2) (by rfl) (set8_block HS9.out.res _ _ _ _ _ _ _ _)

set_option maxRecDepth 100000 in
set_option maxHeartbeats 1000000 in
theorem ltable_unknown (f : Int) (hk : knownB f = false) (w : World) : Calls Tryz.prog 87 #[.int .i64 f] w fun e w' => e = .returned (.tuple #[.int .u8 0, .bool false]) ∧ w = w' := by
  unfold knownB at hk
  rw [decide_eq_false_iff_not] at hk
  have n21 : (f == 21) = false := by simp; omega
  have n22 : (f == 22) = false := by simp; omega
  have n23 : (f == 23) = false := by simp; omega
  have n24 : (f == 24) = false := by simp; omega
  clear hk
  go_enter Tryz.func87, Tryz.ntmps87
  go_wp2
  go_ret2
  exact ⟨rfl, rfl⟩
set_option maxRecDepth 100000 in
set_option maxHeartbeats 1000000 in
theorem lapply_unknown (f : Int) (hk : knownB f = false) (p q : V8) (w : World) : Calls Tryz.prog 53 #[.int .i64 f, p.v, q.v] w fun e w' => e = .returned (.tuple #[vecV 0 vnil 0 vnil vnil vnil vnil vnil, .int .i64 1]) ∧ Below w.heap.size w w' := by
  have HT := Lib.hid (fun W => ltable_unknown f hk W)
  have HS0 := Lib.hid (St2.new w p q)
  clear hk
  go_enter Tryz.func53, Tryz.ntmps53
  go_wp2_with fail
  refine (HT.out _).mono ?_
  rintro e w1 ⟨rfl, hw⟩
  rw [hw] at HS0
  clear hw
  obtain ⟨⟨h0, h1, h2, h3, h4, h5, h6, h7⟩, hz⟩ := boxed_of HS0.out.res
  go_wp2
  refine bodyPost_ret (v := .tuple #[vecV 0 vnil 0 vnil vnil vnil vnil vnil, .int .i64 1]) ?_ rfl ⟨rfl, below_set8 HS0.out.bel (Nat.le_add_right _ 2) _ _ _ _ _ _ _ _⟩
  exact ret_vec2 (fn := Tryz.f53) (p := 6) (u := 7) rfl _ _ (w.heap.size + 2) (by rfl) (set8_block HS0.out.res _ _ _ _ _ _ _ _)
set_option maxRecDepth 100000 in
set_option maxHeartbeats 1000000 in
theorem one_unknown (f : Int) (hk : knownB f = false) (a b : Nat) (w : World) : Calls Tryz.prog 22 #[.int .i64 f, .float .f64 a, .float .f64 b] w fun e w' => e = .returned (.tuple #[.float .f64 0, .int .i64 1]) ∧ w = w' := by
  unfold knownB at hk
  rw [decide_eq_false_iff_not] at hk
  have hcase : f < 1 ∨ (8 < f ∧ f < 11) ∨ (16 < f ∧ f < 21) ∨ 24 < f := by omega
  clear hk
  rcases hcase with h | ⟨h, h'⟩ | ⟨h, h'⟩ | h
  all_goals
    go_enter Tryz.func22, Tryz.ntmps22
    go_wp2
    go_ret2
    exact ⟨rfl, rfl⟩
set_option maxRecDepth 100000 in
set_option maxHeartbeats 1000000 in
theorem rone_unknown (f : Int) (hk : knownB f = false) (a b : Nat) (w : World) : Calls Tryz.prog 23 #[.int .i64 f, .float .f64 a, .float .f64 b] w fun e w' => e = .returned (.tuple #[.float .f64 0, .int .i64 1]) ∧ w = w' := by
  have HK := Lib.hid (fun W => hk ▸ rknown_any f W)
  clear hk
  go_enter Tryz.func23, Tryz.ntmps23
  go_wp2_with fail
  refine (HK.out _).mono ?_
  rintro e w1 ⟨rfl, rfl⟩
  go_wp2
  go_ret2
  exact ⟨rfl, rfl⟩
set_option maxRecDepth 100000 in
set_option maxHeartbeats 2000000 in
theorem start_unknown (f : Int) (hk : knownB f = false) (w : World) : Calls Tryz.prog 15 #[.int .i64 f] w (StartR none w) := by
  unfold knownB at hk
  rw [decide_eq_false_iff_not] at hk
  have n1 : (f == 1) = false := by simp; omega
  have m1 : ((1 : Int) == f) = false := by simp; omega
  have n2 : (f == 2) = false := by simp; omega
  have m2 : ((2 : Int) == f) = false := by simp; omega
  have n3 : (f == 3) = false := by simp; omega
  have m3 : ((3 : Int) == f) = false := by simp; omega
  have n4 : (f == 4) = false := by simp; omega
  have m4 : ((4 : Int) == f) = false := by simp; omega
  have n5 : (f == 5) = false := by simp; omega
  have m5 : ((5 : Int) == f) = false := by simp; omega
  have n6 : (f == 6) = false := by simp; omega
  have m6 : ((6 : Int) == f) = false := by simp; omega
  have n7 : (f == 7) = false := by simp; omega
  have m7 : ((7 : Int) == f) = false := by simp; omega
  have n8 : (f == 8) = false := by simp; omega
  have m8 : ((8 : Int) == f) = false := by simp; omega
  have n11 : (f == 11) = false := by simp; omega
  have m11 : ((11 : Int) == f) = false := by simp; omega
  have n12 : (f == 12) = false := by simp; omega
  have m12 : ((12 : Int) == f) = false := by simp; omega
  have n13 : (f == 13) = false := by simp; omega
  have m13 : ((13 : Int) == f) = false := by simp; omega
  have n14 : (f == 14) = false := by simp; omega
  have m14 : ((14 : Int) == f) = false := by simp; omega
  have n15 : (f == 15) = false := by simp; omega
  have m15 : ((15 : Int) == f) = false := by simp; omega
  have n16 : (f == 16) = false := by simp; omega
  have m16 : ((16 : Int) == f) = false := by simp; omega
  have n21 : (f == 21) = false := by simp; omega
  have m21 : ((21 : Int) == f) = false := by simp; omega
  have n22 : (f == 22) = false := by simp; omega
  have m22 : ((22 : Int) == f) = false := by simp; omega
  have n23 : (f == 23) = false := by simp; omega
  have m23 : ((23 : Int) == f) = false := by simp; omega
  have n24 : (f == 24) = false := by simp; omega
  have m24 : ((24 : Int) == f) = false := by simp; omega
  clear hk
  go_enter Tryz.func15, Tryz.ntmps15
  go_wp2
  go_ret2
  exact ⟨rfl, Below.refl _ _⟩
set_option maxRecDepth 100000 in
set_option maxHeartbeats 4000000 in
theorem rstart_unknown (f : Int) (hk : knownB f = false) (w : World) : Calls Tryz.prog 16 #[.int .i64 f] w (StartR none w) := by
  unfold knownB at hk
  rw [decide_eq_false_iff_not] at hk
  have n1 : (f == 1) = false := by simp; omega
  have m1 : ((1 : Int) == f) = false := by simp; omega
  have n2 : (f == 2) = false := by simp; omega
  have m2 : ((2 : Int) == f) = false := by simp; omega
  have n3 : (f == 3) = false := by simp; omega
  have m3 : ((3 : Int) == f) = false := by simp; omega
  have n4 : (f == 4) = false := by simp; omega
  have m4 : ((4 : Int) == f) = false := by simp; omega
  have n5 : (f == 5) = false := by simp; omega
  have m5 : ((5 : Int) == f) = false := by simp; omega
  have n6 : (f == 6) = false := by simp; omega
  have m6 : ((6 : Int) == f) = false := by simp; omega
  have n7 : (f == 7) = false := by simp; omega
  have m7 : ((7 : Int) == f) = false := by simp; omega
  have n8 : (f == 8) = false := by simp; omega
  have m8 : ((8 : Int) == f) = false := by simp; omega
  have n11 : (f == 11) = false := by simp; omega
  have m11 : ((11 : Int) == f) = false := by simp; omega
  have n12 : (f == 12) = false := by simp; omega
  have m12 : ((12 : Int) == f) = false := by simp; omega
  have n13 : (f == 13) = false := by simp; omega
  have m13 : ((13 : Int) == f) = false := by simp; omega
  have n14 : (f == 14) = false := by simp; omega
  have m14 : ((14 : Int) == f) = false := by simp; omega
  have n15 : (f == 15) = false := by simp; omega
  have m15 : ((15 : Int) == f) = false := by simp; omega
  have n16 : (f == 16) = false := by simp; omega
  have m16 : ((16 : Int) == f) = false := by simp; omega
  have n21 : (f == 21) = false := by simp; omega
  have m21 : ((21 : Int) == f) = false := by simp; omega
  have n22 : (f == 22) = false := by simp; omega
  have m22 : ((22 : Int) == f) = false := by simp; omega
  have n23 : (f == 23) = false := by simp; omega
  have m23 : ((23 : Int) == f) = false := by simp; omega
  have n24 : (f == 24) = false := by simp; omega
  have m24 : ((24 : Int) == f) = false := by simp; omega
  clear hk
  go_enter Tryz.func16, Tryz.ntmps16
  go_wp2_with fail
  refine wp_loop_rounds 8 ?_
  repeat (rw [rounds_succ]; go_wp2)
  go_ret2
  exact ⟨rfl, bel2 _ _ _⟩
end Go.Proofs.YtdddmehchfnppaaGreatDoor
