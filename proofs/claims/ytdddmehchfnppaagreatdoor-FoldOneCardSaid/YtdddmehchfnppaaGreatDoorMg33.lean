/- Merged texts. The walk of fold.Fold at numbers where n is 1 or 0. Conditions: as each theorem says. Numbers in any store bear what fold.Fold asks of them. Conditions: as each theorem says. squeeze.Into at a store that there is not, and at no Vec. Conditions: as each theorem says. -/
import Derived.Test.YtdddmehchfnppaaGreatDoorMg32
namespace Go.Proofs.YtdddmehchfnppaaGreatDoor
open Go Go.RowKit Go.Proofs Fl

set_option maxRecDepth 100000 in
set_option maxHeartbeats 1000000 in
theorem fold_one (q : Int) (hq : knownB q = true) (k : Int) (b : Sl) (bn : Int) (s i f c x : Sl) (T outer inner : Nat) (F : Nat → Nat) (w : World)
    (hN : ∀ W, Below w.heap.size w W → NumX k b bn s i f c x T F W) :
    Calls Tryz.prog 27 #[.int .i64 q, vecW k b bn s i f c x, .int .i64 (outer : Int), .int .i64 1, .int .i64 (inner : Int)] w fun e w' => e = .returned (.tuple #[vecW k b bn s i f c x, .int .i64 0]) ∧ Below w.heap.size w w' := by
  have HK := Lib.hid (fun W => hq ▸ known_any q W)
  have HS := Lib.hid (St.new w k (.slice b.1 b.2.1 b.2.2) bn (.slice s.1 s.2.1 s.2.2) (.slice i.1 i.2.1 i.2.2) (.slice f.1 f.2.1 f.2.2) (.slice c.1 c.2.1 c.2.2) (.slice x.1 x.2.1 x.2.2))
  have HC := Lib.hid (fun W (hw : Below w.heap.size w W) => (hN W hw).num.cls)
  have o1 : ¬ (outer : Int) < 0 := by omega
  have r1 : ¬ (inner : Int) < 0 := by omega
  clear hq hN
  go_enter Tryz.func27, Tryz.ntmps27
  go_wp2_with fail
  refine (HK.out _).mono ?_
  rintro e w1 ⟨rfl, hw⟩
  rw [hw] at HS
  clear hw
  obtain ⟨h0, h1, h2, h3, h4, h5, h6, h7⟩ := HS.out.box
  go_wp2_with fail
  refine (HC.out _ HS.out.bel).mono ?_
  rintro e w2 ⟨rfl, hb2⟩
  have HS2 := Lib.hid (HS.out.step hb2)
  clear hb2 h0 h1 h2 h3 h4 h5 h6 h7 HS
  obtain ⟨h0, h1, h2, h3, h4, h5, h6, h7⟩ := HS2.out.box
  obtain ⟨⟨g0, g1, g2, g3, g4, g5, g6, g7⟩, gz⟩ := boxed_of HS2.out.res
  go_wp2
  refine bodyPost_ret (v := .tuple #[vecW k b bn s i f c x, .int .i64 0]) ?_ rfl ⟨rfl, below_set8 HS2.out.bel (Nat.le_succ _) _ _ _ _ _ _ _ _⟩
  exact ret_vec2 (fn := Tryz.f27) (p := 10) (u := 11) rfl _ _ (w.heap.size + 1) (by rfl) (set8_block HS2.out.res _ _ _ _ _ _ _ _)

set_option maxRecDepth 100000 in
set_option maxHeartbeats 1000000 in
theorem fold_none (H : Nat → Prop) (q : Int) (hq : knownB q = true) (k : Int) (b : Sl) (bn : Int) (s i f c x : Sl) (T outer inner : Nat) (F : Nat → Nat) (w : World) (hH : ∀ b, H b → b < w.heap.size)
    (hb1 : outer ≤ 1000) (hb3 : inner ≤ 1000) (hbN : outer * inner ≤ 1000000)
    (hN : ∀ W, Below w.heap.size w W → NumX k b bn s i f c x T F W) :
    Calls Tryz.prog 27 #[.int .i64 q, vecW k b bn s i f c x, .int .i64 (outer : Int), .int .i64 0, .int .i64 (inner : Int)] w (StOut H w (startF q) (outer * inner)) := by
  have HK := Lib.hid (fun W => hq ▸ known_any q W)
  have HS := Lib.hid (St.new w k (.slice b.1 b.2.1 b.2.2) bn (.slice s.1 s.2.1 s.2.2) (.slice i.1 i.2.1 i.2.2) (.slice f.1 f.2.1 f.2.2) (.slice c.1 c.2.1 c.2.2) (.slice x.1 x.2.1 x.2.2))
  have HC := Lib.hid (fun W (hw : Below w.heap.size w W) => (hN W hw).num.cls)
  have HSTT := Lib.hid (fun W (hw : Below w.heap.size w W) => starts_any (Hole H w W) q hq (outer * inner) hbN W (hole_lt hH hw))
  have o1 : ¬ (outer : Int) < 0 := by omega
  have r1 : ¬ (inner : Int) < 0 := by omega
  obtain ⟨N, hNN⟩ : ∃ N, N = outer * inner := ⟨_, rfl⟩
  have f1 : (outer : Int) * (inner : Int) = (N : Int) := by rw [hNN]; push_cast; rfl
  have hNb : N ≤ 1000000 := by omega
  rw [← hNN] at HSTT ⊢
  clear hq hN hbN hNN hH
  go_enter Tryz.func27, Tryz.ntmps27
  go_wp2_with fail
  refine (HK.out _).mono ?_
  rintro e w1 ⟨rfl, hw⟩
  rw [hw] at HS
  clear hw
  obtain ⟨h0, h1, h2, h3, h4, h5, h6, h7⟩ := HS.out.box
  go_wp2_with fail
  refine (HC.out _ HS.out.bel).mono ?_
  rintro e w2 ⟨rfl, hb2⟩
  have HS2 := Lib.hid (HS.out.step hb2)
  clear hb2 h0 h1 h2 h3 h4 h5 h6 h7 HS
  have HST2 := Lib.hid (HSTT.out _ HS2.out.bel)
  go_wp2_with fail
  refine HST2.out.mono ?_
  rintro e w5 (⟨sx, hsx, k5, b5, bn5, s5, i5, f5, c5, x5, rfl, hk5, hb5⟩ | ⟨hsx, rfl, hb5⟩)
  · have HS5 := Lib.hid (HS2.out.step hb5)
    have HSX := Lib.hid hsx
    have HK5 := Lib.hid (hk5.sub (H' := fun j => H j ∨ j = w.heap.size + 1) fun j _ e => e.imp id fun e => by have := HS2.out.sz; omega)
    clear hb5 hk5 hsx
    have z5 : w.heap.size < w5.heap.size := HS5.out.box.lt
    have z5' : w.heap.size + 1 < w5.heap.size := HS5.out.sz
    have HKE := Lib.hid ((HK5.out.set8 (.inr rfl) (.int .i64 k5) (.slice b5.1 b5.2.1 b5.2.2) (.int .i64 bn5) (.slice s5.1 s5.2.1 s5.2.2) (.slice i5.1 i5.2.1 i5.2.2) (.slice f5.1 f5.2.1 f5.2.2) (.slice c5.1 c5.2.1 c5.2.2) (.slice x5.1 x5.2.1 x5.2.2)).sub (H' := H) fun _ _ e => .inl e)
    obtain ⟨⟨h0, h1, h2, h3, h4, h5, h6, h7⟩, hz⟩ := boxed_of HS5.out.res
    go_wp2
    refine bodyPost_ret (v := .tuple #[vecW k5 b5 bn5 s5 i5 f5 c5 x5, .int .i64 0]) ?_ rfl (.inl ⟨sx, HSX.out, k5, b5, bn5, s5, i5, f5, c5, x5, rfl, HKE.out, below_set8 HS5.out.bel (Nat.le_succ _) _ _ _ _ _ _ _ _⟩)
    exact ret_vec2 (fn := Tryz.f27) (p := 10) (u := 11) rfl _ _ (w.heap.size + 1) (by rfl) (set8_block HS5.out.res _ _ _ _ _ _ _ _)
  · have HS5 := Lib.hid (HS2.out.step hb5)
    have HSX := Lib.hid hsx
    clear hb5 hsx
    have z5 : w.heap.size < w5.heap.size := HS5.out.box.lt
    have z5' : w.heap.size + 1 < w5.heap.size := HS5.out.sz
    obtain ⟨⟨h0, h1, h2, h3, h4, h5, h6, h7⟩, hz⟩ := boxed_of HS5.out.res
    go_wp2
    refine bodyPost_ret (v := .tuple #[vecV 0 vnil 0 vnil vnil vnil vnil vnil, .int .i64 24]) ?_ rfl (.inr ⟨HSX.out, rfl, below_set8 HS5.out.bel (Nat.le_succ _) _ _ _ _ _ _ _ _⟩)
    exact ret_vec2 (fn := Tryz.f27) (p := 10) (u := 11) rfl _ _ (w.heap.size + 1) (by rfl) (set8_block HS5.out.res _ _ _ _ _ _ _ _)
end Go.Proofs.YtdddmehchfnppaaGreatDoor
namespace Go.Proofs.YtdddmehchfnppaaGreatDoor
open Go Go.RowKit Go.Proofs Fl

theorem numX_of {k : Int} {b : Sl} {bn : Int} {s i f c x : Sl} {n : Nat} {F : Nat → Nat} {w : World} (h : NumV (vecW k b bn s i f c x) k n F w) : NumX k b bn s i f c x n F w := by
  refine ⟨h, fun hk => ?_, fun hk => ?_⟩
  · obtain ⟨l, s', e, hb, hf⟩ := h.bitsX hk
    injection e with e
    have e1 := congrArg (fun a : Array Value => a.getD 1 undef) e
    have e2 := congrArg (fun a : Array Value => a.getD 2 undef) e
    have e1' : Value.slice b.1 b.2.1 b.2.2 = s' := e1
    have e2' : Value.int .i64 bn = .int .i64 (n : Int) := e2
    rw [e1', e2']
    exact ⟨l, hb, fun j hj => by rw [hf j hj, flagF_bI]⟩
  · obtain ⟨L, s', e, hr, hf⟩ := h.intsX hk
    injection e with e
    have e1 := congrArg (fun a : Array Value => a.getD 4 undef) e
    have e1' : Value.slice i.1 i.2.1 i.2.2 = s' := e1
    rw [e1']
    have e3 : ((List.range n).map fun j => Value.int .i64 (zOf (F j))) = (List.range n).map fun j => .int .i64 (L j) := by
      apply List.map_congr_left
      intro j hj
      obtain ⟨ef, hg⟩ := hf j (List.mem_range.1 hj)
      rw [ef, zOf_of (wholeP_fi hg)]
    rw [e3]
    exact hr

/-- Tight: the store is the least -/
theorem vkind_any (k : Int) (b : Value) (bn : Int) (s i f c x : Value) (w : World) :
    Calls Tryz.prog 11 #[vecV k b bn s i f c x] w fun e w' => e = .returned (.int .i64 k) ∧ Below w.heap.size w w' := by
  go_enter Tryz.func11, Tryz.ntmps11
  go_wp2
  go_ret
  exact ⟨rfl, bel1 _ _⟩
theorem least_any {k : Int} {b : Value} {bn : Int} {s i f c x : Value} {n : Nat} {F : Nat → Nat} {w : World} (hn : n ≤ 1000000) (hN : ∀ W, Below w.heap.size w W → NumV (vecV k b bn s i f c x) k n F W) :
    Calls Tryz.prog 40 #[vecV k b bn s i f c x] w fun e w' => e = .returned (.int .i64 (leastF F n : Nat)) ∧ Below w.heap.size w w' := by
  rcases (hN w (Below.refl _ _)).kind with e | e | e | e
  · exact least_whole k (.inl e) _ bn _ _ _ _ _ n F w (by omega) hN
  · exact least_whole k (.inr (.inl e)) _ bn _ _ _ _ _ n F w (by omega) hN
  · exact least_whole k (.inr (.inr e)) _ bn _ _ _ _ _ n F w (by omega) hN
  · subst e
    exact least_float _ bn _ _ _ _ _ n F w (by omega) hN
set_option maxRecDepth 100000 in
set_option maxHeartbeats 1000000 in
theorem tight_any {k : Int} {b : Value} {bn : Int} {s i f c x : Value} {n : Nat} {F : Nat → Nat} {w : World} (hn : n ≤ 1000000) (hN : ∀ W, Below w.heap.size w W → NumV (vecV k b bn s i f c x) k n F W) :
    Calls Tryz.prog 14 #[vecV k b bn s i f c x] w fun e w' => e = .returned (.bool (k == (leastF F n : Nat))) ∧ Below w.heap.size w w' := by
  have HC := Lib.hid (fun W => vkind_any k b bn s i f c x W)
  have HL := Lib.hid (fun W (hw : Below w.heap.size w W) => least_any hn (fun W' hw' => hN W' (bel_both hw hw')))
  clear hN
  go_enter Tryz.func14, Tryz.ntmps14
  go_wp2_with fail
  go_region_with (first
    | (go_at_call 11; go_loud ((refine (HC.out _).mono ?_); rintro e w1 ⟨rfl, hb1⟩); obtain ⟨hc1, hf1⟩ := bcell2 hb1; have hz1 := hb1.size)
    | (go_at_call 40; go_loud ((refine (HL.out _ ?_).mono ?_); exact bel_both (bel1 w _).drew hb1; rintro e w2 ⟨rfl, hb2⟩); obtain ⟨hc2, hf2⟩ := bcell2 hb2; have hz2 := hb2.size))
  all_goals
    go_wp2
    go_ret
    exact ⟨rfl, bel_both (bel_both (bel1 w _).drew hb1) hb2⟩
end Go.Proofs.YtdddmehchfnppaaGreatDoor
namespace Go.Proofs.YtdddmehchfnppaaGreatDoor
open Go Go.RowKit Go.Proofs Fl

set_option maxRecDepth 100000 in
set_option maxHeartbeats 1000000 in
theorem into_other (kd : Int) (k : Int) (b : Value) (bn : Int) (s i f c x : Value) (w : World) (hk : k ≠ kd) (hk0 : k ≠ 0) (h1 : kd ≠ 1) (h2 : kd ≠ 2) (h3 : kd ≠ 3) (h4 : kd ≠ 4)
    (hcl : ∀ W, Below w.heap.size w W → Calls Tryz.prog 31 #[vecV k b bn s i f c x] W fun e w2 => e = .returned (.int .i64 0) ∧ Below W.heap.size W w2) :
    Calls Tryz.prog 30 #[vecV k b bn s i f c x, .int .i64 kd] w (NoVec w) := by
  have HK := Lib.hid (fun W => kind_any k b bn s i f c x W)
  have HC := Lib.hid hcl
  have e2 : (k == kd) = false := by simpa using hk
  have e0 : (k == 0) = false := by simpa using hk0
  have g1 : (kd == 1) = false := by simpa using h1
  have g2 : (kd == 2) = false := by simpa using h2
  have g3 : (kd == 3) = false := by simpa using h3
  have g4 : (kd == 4) = false := by simpa using h4
  clear hcl
  go_enter Tryz.func30, Tryz.ntmps30
  go_wp2_with fail
  refine (HK.out _).mono ?_
  rintro e w1 ⟨rfl, hb1⟩
  have HS1 := Lib.hid ((St.new w k b bn s i f c x).step hb1)
  obtain ⟨h0, h1, h2, h3, h4, h5, h6, h7⟩ := HS1.out.box
  clear hb1
  go_wp2_with fail
  refine (HC.out _ HS1.out.bel).mono ?_
  rintro e w2 ⟨rfl, hb2⟩
  have HS2 := Lib.hid (HS1.out.step hb2)
  clear hb2 h0 h1 h2 h3 h4 h5 h6 h7 HS1
  obtain ⟨h0, h1, h2, h3, h4, h5, h6, h7⟩ := HS2.out.box
  go_wp2_with fail
  refine (HK.out _).mono ?_
  rintro e w3 ⟨rfl, hb3⟩
  have HS3 := Lib.hid (HS2.out.step hb3)
  clear hb3 h0 h1 h2 h3 h4 h5 h6 h7 HS2
  obtain ⟨⟨h0, h1, h2, h3, h4, h5, h6, h7⟩, hz⟩ := boxed_of HS3.out.res
  go_wp2
  refine bodyPost_ret (v := .tuple #[vecV 0 vnil 0 vnil vnil vnil vnil vnil, .bool false]) ?_ rfl ⟨rfl, below_set8 HS3.out.bel (Nat.le_succ _) _ _ _ _ _ _ _ _⟩
  exact ret_vec2 (fn := Tryz.f30) (p := 4) (u := 5) rfl _ _ (w.heap.size + 1) (by rfl) (set8_block HS3.out.res _ _ _ _ _ _ _ _)

set_option maxRecDepth 100000 in
set_option maxHeartbeats 1000000 in
theorem into_zero (kd : Int) (w : World) (hk : kd ≠ 0) :
    Calls Tryz.prog 30 #[vecV 0 vnil 0 vnil vnil vnil vnil vnil, .int .i64 kd] w (NoVec w) := by
  have HK := Lib.hid (fun W => kind_any 0 vnil 0 vnil vnil vnil vnil vnil W)
  have HC := Lib.hid (fun W => class_0 vnil 0 vnil vnil vnil vnil vnil W)
  have e2 : ((0 : Int) == kd) = false := by simp; omega
  go_enter Tryz.func30, Tryz.ntmps30
  go_wp2_with fail
  refine (HK.out _).mono ?_
  rintro e w1 ⟨rfl, hb1⟩
  have HS1 := Lib.hid ((St.new w 0 vnil 0 vnil vnil vnil vnil vnil).step hb1)
  obtain ⟨h0, h1, h2, h3, h4, h5, h6, h7⟩ := HS1.out.box
  clear hb1
  go_wp2_with fail
  refine (HC.out _).mono ?_
  rintro e w2 ⟨rfl, hb2⟩
  have HS2 := Lib.hid (HS1.out.step hb2)
  clear hb2 h0 h1 h2 h3 h4 h5 h6 h7 HS1
  obtain ⟨h0, h1, h2, h3, h4, h5, h6, h7⟩ := HS2.out.box
  go_wp2_with fail
  refine (HK.out _).mono ?_
  rintro e w3 ⟨rfl, hb3⟩
  have HS3 := Lib.hid (HS2.out.step hb3)
  clear hb3 h0 h1 h2 h3 h4 h5 h6 h7 HS2
  obtain ⟨⟨h0, h1, h2, h3, h4, h5, h6, h7⟩, hz⟩ := boxed_of HS3.out.res
  go_wp2
  refine bodyPost_ret (v := .tuple #[vecV 0 vnil 0 vnil vnil vnil vnil vnil, .bool false]) ?_ rfl ⟨rfl, below_set8 HS3.out.bel (Nat.le_succ _) _ _ _ _ _ _ _ _⟩
  exact ret_vec2 (fn := Tryz.f30) (p := 4) (u := 5) rfl _ _ (w.heap.size + 1) (by rfl) (set8_block HS3.out.res _ _ _ _ _ _ _ _)
end Go.Proofs.YtdddmehchfnppaaGreatDoor
