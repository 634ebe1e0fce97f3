/- rebuslaw14.kept in all its ways. Conditions: as each theorem says. -/
import Derived.Test.YtdddmehchfnppaaGreatDoorMg25
import Derived.Test.YtdddmehchfnppaaGreatDoorMg26
namespace Go.Proofs.YtdddmehchfnppaaGreatDoor
open Go Go.RowKit Go.Proofs Fl

set_option maxRecDepth 100000 in
set_option maxHeartbeats 1000000 in
/-- kept, where the numbers fit the store -/
theorem skept_yes (H : Nat → Prop) (R : Value → World → Prop) (P : World → Sl → Prop) (v : Value) (kind : Int) (w : World)
    (hP : ∀ W W' s, P W s → Below W.heap.size W W' → P W' s)
    (hf : ∀ W, Below w.heap.size w W → Calls Tryz.prog 29 #[v] W fun e w' => ∃ s : Sl, e = .returned (.tuple #[vecV 4 vnil 0 vnil vnil (.slice s.1 s.2.1 s.2.2) vnil vnil, .bool true]) ∧ P w' s ∧ Below W.heap.size W w')
    (hin : ∀ W s, Below w.heap.size w W → P W s → Calls Tryz.prog 30 #[vecV 4 vnil 0 vnil vnil (.slice s.1 s.2.1 s.2.2) vnil vnil, .int .i64 kind] W (IntoR H w W R)) :
    Calls Tryz.prog 7 #[v, .int .i64 kind] w (Vec2R H w R) := by
  have HP := Lib.hid hP
  have HF := Lib.hid hf
  have HI := Lib.hid hin
  clear hP hf hin
  go_enter Tryz.func7, Tryz.ntmps7
  go_wp2_with fail
  refine (HF.out _ (bel1 w _)).mono ?_
  rintro e w1 ⟨s, rfl, hp, hb1⟩
  have HB1 := Lib.hid (bel_both (bel1 w _) hb1)
  have HK1 := Lib.hid (block_up hb1)
  have HB2 := Lib.hid (bel_both HB1.out (bel1 w1 (.cells #[.int .i64 4, vnil, .int .i64 0, vnil, vnil, .slice s.1 s.2.1 s.2.2, vnil, vnil] 32)))
  have HI2 := Lib.hid (HI.out _ s HB2.out (HP.out _ _ _ hp (bel1 w1 (.cells #[.int .i64 4, vnil, .int .i64 0, vnil, vnil, .slice s.1 s.2.1 s.2.2, vnil, vnil] 32))))
  clear hb1 hp
  go_wp2_with fail
  refine HI2.out.mono ?_
  rintro e w2 ⟨k5, b5, bn5, s5, i5, f5, c5, x5, rfl, hk5, hb5⟩
  have HB5 := Lib.hid (bel_both HB2.out hb5)
  have HV5 := Lib.hid (block_up hb5)
  have HK5 := Lib.hid (show w2.heap[w.heap.size]? = some (.cells zcells 32) by
    rw [hb5.block _ (by have := lt_of_block HK1.out; simp; omega), Below.heap_alloc _ _ _ (lt_of_block HK1.out)]; exact HK1.out)
  have HKE := Lib.hid hk5
  have z1 : w.heap.size < w1.heap.size := lt_of_block HK1.out
  have z2 : w1.heap.size < w2.heap.size := lt_of_block HV5.out
  have z3 : w.heap.size < w2.heap.size := lt_of_block HK5.out
  clear hb5 hk5
  obtain ⟨⟨h0, h1, h2, h3, h4, h5, h6, h7⟩, hz⟩ := boxed_of HV5.out
  obtain ⟨⟨g0, g1, g2, g3, g4, g5, g6, g7⟩, gz⟩ := boxed_of HK5.out
  have hzs : (w1.alloc (.cells #[.int .i64 4, vnil, .int .i64 0, vnil, vnil, .slice s.1 s.2.1 s.2.2, vnil, vnil] 32)).heap.size = w1.heap.size + 1 := by simp
  have HZ := Lib.hid hzs
  clear hzs
  have HKX := Lib.hid (((HKE.out.set8 (G := w1.heap.size) (.inr ⟨by omega, by rw [HZ.out]; omega⟩) (.int .i64 k5) (.slice b5.1 b5.2.1 b5.2.2) (.int .i64 bn5) (.slice s5.1 s5.2.1 s5.2.2) (.slice i5.1 i5.2.1 i5.2.2) (.slice f5.1 f5.2.1 f5.2.2) (.slice c5.1 c5.2.1 c5.2.2) (.slice x5.1 x5.2.1 x5.2.2)).set8 (G := w.heap.size) (.inr ⟨by omega, by rw [HZ.out]; omega⟩) (.int .i64 k5) (.slice b5.1 b5.2.1 b5.2.2) (.int .i64 bn5) (.slice s5.1 s5.2.1 s5.2.2) (.slice i5.1 i5.2.1 i5.2.2) (.slice f5.1 f5.2.1 f5.2.2) (.slice c5.1 c5.2.1 c5.2.2) (.slice x5.1 x5.2.1 x5.2.2)).sub (H' := H) fun _ _ e => .inl e)
  have HBX := Lib.hid (below_set8 (below_set8 HB5.out (Nat.le_of_lt z1) (.int .i64 k5) (.slice b5.1 b5.2.1 b5.2.2) (.int .i64 bn5) (.slice s5.1 s5.2.1 s5.2.2) (.slice i5.1 i5.2.1 i5.2.2) (.slice f5.1 f5.2.1 f5.2.2) (.slice c5.1 c5.2.1 c5.2.2) (.slice x5.1 x5.2.1 x5.2.2)) (Nat.le_refl _) (.int .i64 k5) (.slice b5.1 b5.2.1 b5.2.2) (.int .i64 bn5) (.slice s5.1 s5.2.1 s5.2.2) (.slice i5.1 i5.2.1 i5.2.2) (.slice f5.1 f5.2.1 f5.2.2) (.slice c5.1 c5.2.1 c5.2.2) (.slice x5.1 x5.2.1 x5.2.2))
  have HRX := Lib.hid (set8_block (show (set8 w2 w1.heap.size (.int .i64 k5) (.slice b5.1 b5.2.1 b5.2.2) (.int .i64 bn5) (.slice s5.1 s5.2.1 s5.2.2) (.slice i5.1 i5.2.1 i5.2.2) (.slice f5.1 f5.2.1 f5.2.2) (.slice c5.1 c5.2.1 c5.2.2) (.slice x5.1 x5.2.1 x5.2.2)).heap[w.heap.size]? = some (.cells zcells 32) by rw [set8_heap _ _ _ (by omega)]; exact HK5.out) (.int .i64 k5) (.slice b5.1 b5.2.1 b5.2.2) (.int .i64 bn5) (.slice s5.1 s5.2.1 s5.2.2) (.slice i5.1 i5.2.1 i5.2.2) (.slice f5.1 f5.2.1 f5.2.2) (.slice c5.1 c5.2.1 c5.2.2) (.slice x5.1 x5.2.1 x5.2.2))
  go_wp2
  refine bodyPost_ret (v := .tuple #[vecW k5 b5 bn5 s5 i5 f5 c5 x5, .bool true]) ?_ rfl ⟨k5, b5, bn5, s5, i5, f5, c5, x5, rfl, HKX.out.step (bel1 _ _), bel_both HBX.out (bel1 _ _)⟩
  exact ret_vec2 (fn := Tryz.f7) (p := 4) (u := 5) rfl _ _ w.heap.size (by rfl) ((Below.heap_alloc _ _ _ (lt_of_block HRX.out)).trans HRX.out)

set_option maxRecDepth 100000 in
set_option maxHeartbeats 1000000 in
theorem skept_no (H : Nat → Prop) (R : Sl → World → Prop) (v : Value) (kind : Int) (w : World)
    (hf : ∀ W, Below w.heap.size w W → Calls Tryz.prog 29 #[v] W fun e w' => ∃ s : Sl, e = .returned (.tuple #[vecV 4 vnil 0 vnil vnil (.slice s.1 s.2.1 s.2.2) vnil vnil, .bool true]) ∧ Keeps (Hole H w W) w' (R s) ∧ Below W.heap.size W w')
    (hin : ∀ W s, Below w.heap.size w W → R s W → Calls Tryz.prog 30 #[vecV 4 vnil 0 vnil vnil (.slice s.1 s.2.1 s.2.2) vnil vnil, .int .i64 kind] W (NoVec W)) :
    Calls Tryz.prog 7 #[v, .int .i64 kind] w fun e w' => ∃ s : Sl, e = .returned (.tuple #[vecV 4 vnil 0 vnil vnil (.slice s.1 s.2.1 s.2.2) vnil vnil, .bool true]) ∧ Keeps H w' (R s) ∧ Below w.heap.size w w' := by
  have HF := Lib.hid hf
  have HI := Lib.hid hin
  clear hf hin
  go_enter Tryz.func7, Tryz.ntmps7
  go_wp2_with fail
  refine (HF.out _ (bel1 w _)).mono ?_
  rintro e w1 ⟨s, rfl, hp, hb1⟩
  have HB1 := Lib.hid (bel_both (bel1 w _) hb1)
  have HK1 := Lib.hid (block_up hb1)
  have HP1 := Lib.hid (hp.sub (H' := fun j => H j ∨ j = w.heap.size) fun j _ e => e.imp id fun e => by simp; omega)
  have HB2 := Lib.hid (bel_both HB1.out (bel1 w1 (.cells #[.int .i64 4, vnil, .int .i64 0, vnil, vnil, .slice s.1 s.2.1 s.2.2, vnil, vnil] 32)))
  have HP2 := Lib.hid (HP1.out.step (bel1 w1 (.cells #[.int .i64 4, vnil, .int .i64 0, vnil, vnil, .slice s.1 s.2.1 s.2.2, vnil, vnil] 32)))
  have HI2 := Lib.hid (HI.out _ s HB2.out HP2.out.now)
  clear hb1 hp
  go_wp2_with fail
  refine HI2.out.mono ?_
  rintro e w2 ⟨rfl, hb5⟩
  have HB5 := Lib.hid (bel_both HB2.out hb5)
  have HP5 := Lib.hid (HP2.out.step hb5)
  have HV5 := Lib.hid (block_up hb5)
  have HK5 := Lib.hid (show w2.heap[w.heap.size]? = some (.cells zcells 32) by
    rw [hb5.block _ (by have := lt_of_block HK1.out; simp; omega), Below.heap_alloc _ _ _ (lt_of_block HK1.out)]; exact HK1.out)
  have z1 : w.heap.size < w1.heap.size := lt_of_block HK1.out
  have z2 : w1.heap.size < w2.heap.size := lt_of_block HV5.out
  have z3 : w.heap.size < w2.heap.size := lt_of_block HK5.out
  clear hb5
  obtain ⟨⟨h0, h1, h2, h3, h4, h5, h6, h7⟩, hz⟩ := boxed_of HV5.out
  obtain ⟨⟨g0, g1, g2, g3, g4, g5, g6, g7⟩, gz⟩ := boxed_of HK5.out
  have HKX := Lib.hid ((HP5.out.set8 (.inr rfl) (.int .i64 4) vnil (.int .i64 0) vnil vnil (.slice s.1 s.2.1 s.2.2) vnil vnil).sub (H' := H) fun _ _ e => .inl e)
  have HBX := Lib.hid (below_set8 HB5.out (Nat.le_refl _) (.int .i64 4) vnil (.int .i64 0) vnil vnil (.slice s.1 s.2.1 s.2.2) vnil vnil)
  have HRX := Lib.hid (set8_block HK5.out (.int .i64 4) vnil (.int .i64 0) vnil vnil (.slice s.1 s.2.1 s.2.2) vnil vnil)
  go_wp2
  refine bodyPost_ret (v := .tuple #[vecV 4 vnil 0 vnil vnil (.slice s.1 s.2.1 s.2.2) vnil vnil, .bool true]) ?_ rfl ⟨s, rfl, HKX.out.step (bel1 _ _), bel_both HBX.out (bel1 _ _)⟩
  exact ret_vec2 (fn := Tryz.f7) (p := 4) (u := 5) rfl _ _ w.heap.size (by rfl) ((Below.heap_alloc _ _ _ (lt_of_block HRX.out)).trans HRX.out)

set_option maxRecDepth 100000 in
set_option maxHeartbeats 1000000 in
theorem skept_bad (v : Value) (kind : Int) (hk : kind ≠ 0) (w : World)
    (hf : ∀ W, Below w.heap.size w W → Calls Tryz.prog 29 #[v] W (NoVec W)) :
    Calls Tryz.prog 7 #[v, .int .i64 kind] w (NoVec w) := by
  have HF := Lib.hid hf
  have HI := Lib.hid (fun W => into_zero kind W hk)
  clear hf
  go_enter Tryz.func7, Tryz.ntmps7
  go_wp2_with fail
  refine (HF.out _ (bel1 w _)).mono ?_
  rintro e w1 ⟨rfl, hb1⟩
  have HB1 := Lib.hid (bel_both (bel1 w _) hb1)
  have HK1 := Lib.hid (block_up hb1)
  have HB2 := Lib.hid (bel_both HB1.out (bel1 w1 (.cells zcells 32)))
  clear hb1
  go_wp2_with fail
  refine (HI.out _).mono ?_
  rintro e w2 ⟨rfl, hb5⟩
  have HB5 := Lib.hid (bel_both HB2.out hb5)
  have HV5 := Lib.hid (block_up hb5)
  have HK5 := Lib.hid (show w2.heap[w.heap.size]? = some (.cells zcells 32) by
    rw [hb5.block _ (by have := lt_of_block HK1.out; simp; omega), Below.heap_alloc _ _ _ (lt_of_block HK1.out)]; exact HK1.out)
  have z1 : w.heap.size < w1.heap.size := lt_of_block HK1.out
  have z2 : w1.heap.size < w2.heap.size := lt_of_block HV5.out
  have z3 : w.heap.size < w2.heap.size := lt_of_block HK5.out
  clear hb5
  obtain ⟨⟨h0, h1, h2, h3, h4, h5, h6, h7⟩, hz⟩ := boxed_of HV5.out
  obtain ⟨⟨g0, g1, g2, g3, g4, g5, g6, g7⟩, gz⟩ := boxed_of HK5.out
  have HBX := Lib.hid (below_set8 HB5.out (Nat.le_refl _) (.int .i64 0) vnil (.int .i64 0) vnil vnil vnil vnil vnil)
  have HRX := Lib.hid (set8_block HK5.out (.int .i64 0) vnil (.int .i64 0) vnil vnil vnil vnil vnil)
  go_wp2
  refine bodyPost_ret (v := .tuple #[vecV 0 vnil 0 vnil vnil vnil vnil vnil, .bool false]) ?_ rfl ⟨rfl, bel_both HBX.out (bel1 _ _)⟩
  exact ret_vec2 (fn := Tryz.f7) (p := 4) (u := 5) rfl _ _ w.heap.size (by rfl) ((Below.heap_alloc _ _ _ (lt_of_block HRX.out)).trans HRX.out)

set_option maxRecDepth 100000 in
set_option maxHeartbeats 1000000 in
theorem skept_bad0 (v : Value) (w : World)
    (hf : ∀ W, Below w.heap.size w W → Calls Tryz.prog 29 #[v] W (NoVec W)) :
    Calls Tryz.prog 7 #[v, .int .i64 0] w (NoVec w) := by
  have HF := Lib.hid hf
  have HI := Lib.hid (fun W => into_zero0 W)
  clear hf
  go_enter Tryz.func7, Tryz.ntmps7
  go_wp2_with fail
  refine (HF.out _ (bel1 w _)).mono ?_
  rintro e w1 ⟨rfl, hb1⟩
  have HB1 := Lib.hid (bel_both (bel1 w _) hb1)
  have HK1 := Lib.hid (block_up hb1)
  have HB2 := Lib.hid (bel_both HB1.out (bel1 w1 (.cells zcells 32)))
  clear hb1
  go_wp2_with fail
  refine (HI.out _).mono ?_
  rintro e w2 ⟨rfl, hb5⟩
  have HB5 := Lib.hid (bel_both HB2.out hb5)
  have HV5 := Lib.hid (block_up hb5)
  have HK5 := Lib.hid (show w2.heap[w.heap.size]? = some (.cells zcells 32) by
    rw [hb5.block _ (by have := lt_of_block HK1.out; simp; omega), Below.heap_alloc _ _ _ (lt_of_block HK1.out)]; exact HK1.out)
  have z1 : w.heap.size < w1.heap.size := lt_of_block HK1.out
  have z2 : w1.heap.size < w2.heap.size := lt_of_block HV5.out
  have z3 : w.heap.size < w2.heap.size := lt_of_block HK5.out
  clear hb5
  obtain ⟨⟨h0, h1, h2, h3, h4, h5, h6, h7⟩, hz⟩ := boxed_of HV5.out
  obtain ⟨⟨g0, g1, g2, g3, g4, g5, g6, g7⟩, gz⟩ := boxed_of HK5.out
  have HBX := Lib.hid (below_set8 (below_set8 HB5.out (Nat.le_of_lt z1) (.int .i64 0) vnil (.int .i64 0) vnil vnil vnil vnil vnil) (Nat.le_refl _) (.int .i64 0) vnil (.int .i64 0) vnil vnil vnil vnil vnil)
  have HKY := Lib.hid (show (set8 w2 w1.heap.size (.int .i64 0) vnil (.int .i64 0) vnil vnil vnil vnil vnil).heap[w.heap.size]? = some (.cells zcells 32) by rw [set8_heap _ _ _ (by omega)]; exact HK5.out)
  have HRX := Lib.hid (set8_block HKY.out (.int .i64 0) vnil (.int .i64 0) vnil vnil vnil vnil vnil)
  go_wp2
  refine bodyPost_ret (v := .tuple #[vecV 0 vnil 0 vnil vnil vnil vnil vnil, .bool false]) ?_ rfl ⟨rfl, bel_both HBX.out (bel1 _ _)⟩
  exact ret_vec2 (fn := Tryz.f7) (p := 4) (u := 5) rfl _ _ w.heap.size (by rfl) ((Below.heap_alloc _ _ _ (lt_of_block HRX.out)).trans HRX.out)

set_option maxRecDepth 100000 in
set_option maxHeartbeats 1000000 in
theorem skept_four (H : Nat → Prop) (R : Sl → World → Prop) (v : Value) (w : World)
    (hf : ∀ W, Below w.heap.size w W → Calls Tryz.prog 29 #[v] W fun e w' => ∃ s : Sl, e = .returned (.tuple #[vecV 4 vnil 0 vnil vnil (.slice s.1 s.2.1 s.2.2) vnil vnil, .bool true]) ∧ Keeps (Hole H w W) w' (R s) ∧ Below W.heap.size W w')
    (hin : ∀ W s, Below w.heap.size w W → R s W → Calls Tryz.prog 30 #[vecV 4 vnil 0 vnil vnil (.slice s.1 s.2.1 s.2.2) vnil vnil, .int .i64 4] W fun e w' => e = .returned (.tuple #[vecV 4 vnil 0 vnil vnil (.slice s.1 s.2.1 s.2.2) vnil vnil, .bool true]) ∧ Below W.heap.size W w') :
    Calls Tryz.prog 7 #[v, .int .i64 4] w fun e w' => ∃ s : Sl, e = .returned (.tuple #[vecV 4 vnil 0 vnil vnil (.slice s.1 s.2.1 s.2.2) vnil vnil, .bool true]) ∧ Keeps H w' (R s) ∧ Below w.heap.size w w' := by
  have HF := Lib.hid hf
  have HI := Lib.hid hin
  clear hf hin
  go_enter Tryz.func7, Tryz.ntmps7
  go_wp2_with fail
  refine (HF.out _ (bel1 w _)).mono ?_
  rintro e w1 ⟨s, rfl, hp, hb1⟩
  have HB1 := Lib.hid (bel_both (bel1 w _) hb1)
  have HK1 := Lib.hid (block_up hb1)
  have HP1 := Lib.hid (hp.sub (H' := fun j => H j ∨ j = w.heap.size) fun j _ e => e.imp id fun e => by simp; omega)
  have HB2 := Lib.hid (bel_both HB1.out (bel1 w1 (.cells #[.int .i64 4, vnil, .int .i64 0, vnil, vnil, .slice s.1 s.2.1 s.2.2, vnil, vnil] 32)))
  have HP2 := Lib.hid (HP1.out.below' (bel1 w1 (.cells #[.int .i64 4, vnil, .int .i64 0, vnil, vnil, .slice s.1 s.2.1 s.2.2, vnil, vnil] 32)) (fun j => (H j ∨ j = w.heap.size) ∨ j = w1.heap.size) fun j hj e => e.elim id fun e => by omega)
  have HI2 := Lib.hid (HI.out _ s HB2.out HP2.out.now)
  clear hb1 hp
  go_wp2_with fail
  refine HI2.out.mono ?_
  rintro e w2 ⟨rfl, hb5⟩
  have HB5 := Lib.hid (bel_both HB2.out hb5)
  have HP5 := Lib.hid (HP2.out.step hb5)
  have HV5 := Lib.hid (block_up hb5)
  have HK5 := Lib.hid (show w2.heap[w.heap.size]? = some (.cells zcells 32) by
    rw [hb5.block _ (by have := lt_of_block HK1.out; simp; omega), Below.heap_alloc _ _ _ (lt_of_block HK1.out)]; exact HK1.out)
  have z1 : w.heap.size < w1.heap.size := lt_of_block HK1.out
  have z2 : w1.heap.size < w2.heap.size := lt_of_block HV5.out
  have z3 : w.heap.size < w2.heap.size := lt_of_block HK5.out
  clear hb5
  obtain ⟨⟨h0, h1, h2, h3, h4, h5, h6, h7⟩, hz⟩ := boxed_of HV5.out
  obtain ⟨⟨g0, g1, g2, g3, g4, g5, g6, g7⟩, gz⟩ := boxed_of HK5.out
  have HKX := Lib.hid (((HP5.out.set8 (.inr rfl) (.int .i64 4) vnil (.int .i64 0) vnil vnil (.slice s.1 s.2.1 s.2.2) vnil vnil).set8 (.inl (.inr rfl)) (.int .i64 4) vnil (.int .i64 0) vnil vnil (.slice s.1 s.2.1 s.2.2) vnil vnil).sub (H' := H) fun _ _ e => .inl (.inl e))
  have HBX := Lib.hid (below_set8 (below_set8 HB5.out (Nat.le_of_lt z1) (.int .i64 4) vnil (.int .i64 0) vnil vnil (.slice s.1 s.2.1 s.2.2) vnil vnil) (Nat.le_refl _) (.int .i64 4) vnil (.int .i64 0) vnil vnil (.slice s.1 s.2.1 s.2.2) vnil vnil)
  have HRX := Lib.hid (set8_block (show (set8 w2 w1.heap.size (.int .i64 4) vnil (.int .i64 0) vnil vnil (.slice s.1 s.2.1 s.2.2) vnil vnil).heap[w.heap.size]? = some (.cells zcells 32) by rw [set8_heap _ _ _ (by omega)]; exact HK5.out) (.int .i64 4) vnil (.int .i64 0) vnil vnil (.slice s.1 s.2.1 s.2.2) vnil vnil)
  go_wp2
  refine bodyPost_ret (v := .tuple #[vecV 4 vnil 0 vnil vnil (.slice s.1 s.2.1 s.2.2) vnil vnil, .bool true]) ?_ rfl ⟨s, rfl, HKX.out.step (bel1 _ _), bel_both HBX.out (bel1 _ _)⟩
  exact ret_vec2 (fn := Tryz.f7) (p := 4) (u := 5) rfl _ _ w.heap.size (by rfl) ((Below.heap_alloc _ _ _ (lt_of_block HRX.out)).trans HRX.out)

theorem skept_all (H : Nat → Prop) (v : Value) (kind : Int) (n : Nat) (F : Nat → Nat) (w : World) (hH : ∀ b, H b → b < w.heap.size) (hn : n ≤ 1000000)
    (hr : Reads1 w v ((List.range n).map fun j => .float .f64 (F j))) (hF : ∀ j, j < n → F j < 18446744073709551616) :
    Calls Tryz.prog 7 #[v, .int .i64 kind] w (KpOut H kind n F w) := by
  have hfl : ∀ W, Below w.heap.size w W → Calls Tryz.prog 29 #[v] W (FlsOut n F W) := fun W hb => floats_all (hr.below hb) hn hF
  rcases first_bad (fun j => okF (F j)) n with hall | ⟨K, hK, hbad, hlow⟩
  · have hyes : ∀ j, j < n → okF (F j) = true := hall
    have htf : ∀ j, j < n → TF (tidF (F j)) := fun j hj => by
      rcases ok_cases (hF j hj) with h | h
      · exact h.2.1
      · rw [hyes j hj] at h; cases h.1
    -- Floats tells its row, kept outside the hole so far
    have hfk : ∀ W, Below w.heap.size w W → Calls Tryz.prog 29 #[v] W fun e w' => ∃ s : Sl, e = .returned (.tuple #[vecV 4 vnil 0 vnil vnil (.slice s.1 s.2.1 s.2.2) vnil vnil, .bool true]) ∧ Keeps (Hole H w W) w' (fun W' => FloatV n (fun j => tidF (F j)) (vecV 4 vnil 0 vnil vnil (.slice s.1 s.2.1 s.2.2) vnil vnil) W') ∧ Below W.heap.size W w' := by
      intro W hb
      refine (hfl W hb).mono ?_
      rintro e w' (⟨_, a, m, c, rfl, ho, hb2⟩ | ⟨⟨j, hj, hb0⟩, _⟩)
      · exact ⟨(a, m, c), rfl, (ho.keepsH (Hole.lt hH hb)).imp fun W' h => ⟨⟨_, rfl, h⟩, htf⟩, hb2⟩
      · rw [hyes j hj] at hb0; cases hb0
    have fin : ((kind = 1 ∨ kind = 2 ∨ kind = 3) → fitB kind (fun j => tidF (F j)) n = false) → ∀ (e : Ending) (w' : World), (∃ s : Sl, e = .returned (.tuple #[vecV 4 vnil 0 vnil vnil (.slice s.1 s.2.1 s.2.2) vnil vnil, .bool true]) ∧ Keeps H w' (fun W' => FloatV n (fun j => tidF (F j)) (vecV 4 vnil 0 vnil vnil (.slice s.1 s.2.1 s.2.2) vnil vnil) W') ∧ Below w.heap.size w w') → KpOut H kind n F w e w' := by
      rintro hno e w' ⟨s, rfl, hk, hb⟩
      exact .inl ⟨hyes, 4, (none, 0, 0), 0, (none, 0, 0), (none, 0, 0), s, (none, 0, 0), (none, 0, 0), rfl, (fun h1 h2 => by rw [hno h1] at h2; cases h2), hk.imp fun W' h => numV_floats h, hb⟩
    have hnm : ∀ (W : World) (s : Sl), FloatV n (fun j => tidF (F j)) (vecV 4 vnil 0 vnil vnil (.slice s.1 s.2.1 s.2.2) vnil vnil) W → ∀ W', Below W.heap.size W W' → NumV (vecW 4 (none, 0, 0) 0 (none, 0, 0) (none, 0, 0) s (none, 0, 0) (none, 0, 0)) 4 n (fun j => tidF (F j)) W' := by
      intro W s h W' hb
      obtain ⟨⟨s', e, hr'⟩, ht⟩ := h
      exact numV_floats ⟨⟨s', e, hr'.below hb⟩, ht⟩
    by_cases h4 : kind = 4
    · subst h4
      refine (skept_four H _ v w hfk (fun W s hb hp => ?_)).mono (fin fun h => by omega)
      refine (into_same (fun _ => False) (fun u t W' => u = vecV 4 vnil 0 vnil vnil (.slice s.1 s.2.1 s.2.2) vnil vnil ∧ t = true) 4 (none, 0, 0) 0 (none, 0, 0) (none, 0, 0) s (none, 0, 0) (none, 0, 0) W (Keeps.const ⟨rfl, rfl⟩)).mono ?_
      rintro e w' ⟨k, b, bn, s2, i, f, c, x, t, rfl, hk, hb2⟩
      obtain ⟨e1, e2⟩ := hk.now
      exact ⟨by rw [e1, e2], hb2⟩
    · by_cases h123 : kind = 1 ∨ kind = 2 ∨ kind = 3
      · cases hfit : fitB kind (fun j => tidF (F j)) n with
        | true =>
          refine (skept_yes H (fun u W' => NumV u kind n (fun j => tidF (F j)) W') (fun W s => FloatV n (fun j => tidF (F j)) (vecV 4 vnil 0 vnil vnil (.slice s.1 s.2.1 s.2.2) vnil vnil) W) v kind w (fun W W' s h hb => ?_) (fun W hb => (hfk W hb).mono ?_) (fun W s hb hp => ?_)).mono ?_
          · obtain ⟨⟨s', e, hr'⟩, ht⟩ := h
            exact ⟨⟨s', e, hr'.below hb⟩, ht⟩
          · rintro e w' ⟨s, rfl, hk, hb2⟩
            exact ⟨s, rfl, hk.now, hb2⟩
          · exact (into_small3 (Hole H w W) kind h123 4 (none, 0, 0) 0 (none, 0, 0) (none, 0, 0) s (none, 0, 0) (none, 0, 0) n _ W rfl (Hole.lt hH hb) hn (hnm W s hp)).mono fun e w' h => sub_intoR hfit e w' h
          · rintro e w' ⟨k, b, bn, s, i, f, c, x, rfl, hk, hb⟩
            have ek : k = kind := by
              have h1 := hk.now.kindEq
              exact h1
            subst ek
            exact .inl ⟨hyes, k, b, bn, s, i, f, c, x, rfl, fun _ _ => rfl, hk, hb⟩
        | false =>
          refine (skept_no H _ v kind w hfk (fun W s hb hp => ?_)).mono (fin fun _ => hfit)
          refine (into_small3 (fun _ => False) kind h123 4 (none, 0, 0) 0 (none, 0, 0) (none, 0, 0) s (none, 0, 0) (none, 0, 0) n _ W rfl (fun _ h => h.elim) hn (hnm W s hp)).mono ?_
          rintro e w' ⟨k, b, bn, s2, i, f, c, x, t, rfl, hk, hb2⟩
          obtain ⟨e1, e2, e3⟩ := hk.now
          rw [hfit] at e1
          exact ⟨by rw [e3 e1, e1], hb2⟩
      · refine (skept_no H _ v kind w hfk (fun W s hb hp => ?_)).mono (fin fun h => absurd h h123)
        exact into_other kind 4 vnil 0 vnil vnil (.slice s.1 s.2.1 s.2.2) vnil vnil W (fun e => h4 e.symm) (by decide) (by omega) (by omega) (by omega) h4 (fun W' hb' => (hnm W s hp W' hb').cls)
  · have hno : ∀ W, Below w.heap.size w W → Calls Tryz.prog 29 #[v] W (NoVec W) := by
      intro W hb
      refine (hfl W hb).mono ?_
      rintro e w' (⟨hall, _⟩ | ⟨_, h⟩)
      · rw [hall K hK] at hbad; cases hbad
      · exact h
    by_cases h0 : kind = 0
    · subst h0
      exact (skept_bad0 v w hno).mono fun e w' h => .inr ⟨⟨K, hK, hbad⟩, h⟩
    · exact (skept_bad v kind h0 w hno).mono fun e w' h => .inr ⟨⟨K, hK, hbad⟩, h⟩

/-- kept at tidy numbers -/
theorem skept_tf (kd : Int) (n T : Nat) (F : Nat → Nat) (W : World) (v : Value) (hT : T ≤ 1000000) (hv : Reads1 W v ((List.range T).map fun j => .float .f64 (F j))) (hF : ∀ j, j < T → TF (F j))
    (h3 : 2 ≤ n → 0 < T ∨ ((kd = 1 ∨ kd = 2) ∧ fitB kd F T = true)) :
    Calls Tryz.prog 7 #[v, .int .i64 kd] W (KeptK n T F W) := by
  refine (skept_all (fun _ => False) v kd T F W (fun _ h => h.elim) hT hv (fun j hj => (hF j hj).lt)).mono ?_
  have e : ∀ j, j < T → tidF (F j) = F j := fun j hj => tidF_tf (hF j hj)
  rintro e0 w' (⟨_, k, b, bn, s, i, f, cc, x, rfl, hk, hn, hb⟩ | ⟨⟨j, hj, h0⟩, _⟩)
  · refine ⟨k, b, bn, s, i, f, cc, x, rfl, hn.imp fun W' h => h.congr fun j hj => (e j hj).symm, fun h2 hk3 => ?_, hb⟩
    rcases h3 h2 with h | ⟨h, hfit⟩
    · exact h
    · by_cases hT0 : T = 0
      · have hfit2 : fitB kd (fun j => tidF (F j)) T = true := by
          rw [← hfit]
          unfold fitB
          rw [hT0]
          rfl
        have := hk (by omega) hfit2
        omega
      · omega
  · rw [okF_tf (hF j hj)] at h0; cases h0

end Go.Proofs.YtdddmehchfnppaaGreatDoor
