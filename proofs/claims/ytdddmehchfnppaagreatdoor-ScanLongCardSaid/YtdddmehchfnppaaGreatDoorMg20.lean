/- Merged texts. The walk of fold.Fold at numbers where n is 1 or 0. Conditions: as each theorem says. Numbers in any store bear what fold.Fold asks of them. Conditions: as each theorem says. squeeze.Into at a store that there is not, and at no Vec. Conditions: as each theorem says. The walk of vec.Floats where one is no number. Conditions: as each theorem says. Tidy, in the program and in the reference, in one word; vec.Floats at any floats. Conditions: as each theorem says. fold.Fold at eight-bit numbers whose rows come to eight-bit numbers; the walk of kept. Conditions: as each theorem says. -/
import Derived.Test.YtdddmehchfnppaaGreatDoorMg19
import Derived.Test.YtdddmehchfnppaaGreatDoorMg07
namespace Go.Proofs.YtdddmehchfnppaaGreatDoor
open Go Go.RowKit Go.Proofs Fl

set_option maxRecDepth 100000 in
set_option maxHeartbeats 1000000 in
theorem fold_one (q : Int) (hq : knownB q = true) (k : Int) (b : Sl) (bn : Int) (s i f c x : Sl) (T outer inner : Nat) (F : Nat → Nat) (w : World)
    (hN : ∀ W, Below w.heap.size w W → NumX k b bn s i f c x T F W) :
    Calls Tryz.prog 27 #[.int .i64 q, vecW k b bn s i f c x, .int .i64 (outer : Int), .int .i64 1, .int .i64 (inner : Int)] w fun e w' => e = .returned (.tuple #[vecW k b bn s i f c x, .int .i64 0]) ∧ Below w.heap.size w w' := by
  have HK := Lib.hid (fun W => hq ▸ known_any q W)
  have HS := Lib.hid (St.new w k (.slice b.1 b.2.1 b.2.2) bn (.slice s.1 s.2.1 s.2.2) (.slice i.1 i.2.1 i.2.2) (.slice f.1 f.2.1 f.2.2) (.slice c.1 c.2.1 c.2.2) (.slice x.1 x.2.1 x.2.2))
  have HC := Lib.hid (fun W (hw : Below w.heap.size w W) => (hN W hw).num.cls)
  have o1 : ¬ (outer : Int) < 0 := by omega
  have r1 : ¬ (inner : Int) < 0 := by omega
  clear hq hN
  go_enter Tryz.func27, Tryz.ntmps27
  go_wp2_with fail
  refine (HK.out _).mono ?_
  rintro e w1 ⟨rfl, hw⟩
  rw [hw] at HS
  clear hw
  obtain ⟨h0, h1, h2, h3, h4, h5, h6, h7⟩ := HS.out.box
  go_wp2_with fail
  refine (HC.out _ HS.out.bel).mono ?_
  rintro e w2 ⟨rfl, hb2⟩
  have HS2 := Lib.hid (HS.out.step hb2)
  clear hb2 h0 h1 h2 h3 h4 h5 h6 h7 HS
  obtain ⟨h0, h1, h2, h3, h4, h5, h6, h7⟩ := HS2.out.box
  obtain ⟨⟨g0, g1, g2, g3, g4, g5, g6, g7⟩, gz⟩ := boxed_of HS2.out.res
  go_wp2
  refine bodyPost_ret (v := .tuple #[vecW k b bn s i f c x, .int .i64 0]) ?_ rfl ⟨rfl, below_set8 HS2.out.bel (Nat.le_succ _) _ _ _ _ _ _ _ _⟩
  exact ret_vec2 (fn := Tryz.f27) (p := 10) (u := 11) rfl _ _ (w.heap.size + 1) (by rfl) (set8_block HS2.out.res _ _ _ _ _ _ _ _)

set_option maxRecDepth 100000 in
set_option maxHeartbeats 1000000 in
theorem fold_none (H : Nat → Prop) (q : Int) (hq : knownB q = true) (k : Int) (b : Sl) (bn : Int) (s i f c x : Sl) (T outer inner : Nat) (F : Nat → Nat) (w : World) (hH : ∀ b, H b → b < w.heap.size)
    (hb1 : outer ≤ 1000) (hb3 : inner ≤ 1000) (hbN : outer * inner ≤ 1000000)
    (hN : ∀ W, Below w.heap.size w W → NumX k b bn s i f c x T F W) :
    Calls Tryz.prog 27 #[.int .i64 q, vecW k b bn s i f c x, .int .i64 (outer : Int), .int .i64 0, .int .i64 (inner : Int)] w (StOut H w (startF q) (outer * inner)) := by
  have HK := Lib.hid (fun W => hq ▸ known_any q W)
  have HS := Lib.hid (St.new w k (.slice b.1 b.2.1 b.2.2) bn (.slice s.1 s.2.1 s.2.2) (.slice i.1 i.2.1 i.2.2) (.slice f.1 f.2.1 f.2.2) (.slice c.1 c.2.1 c.2.2) (.slice x.1 x.2.1 x.2.2))
  have HC := Lib.hid (fun W (hw : Below w.heap.size w W) => (hN W hw).num.cls)
  have HSTT := Lib.hid (fun W (hw : Below w.heap.size w W) => starts_any (Hole H w W) q hq (outer * inner) hbN W (hole_lt hH hw))
  have o1 : ¬ (outer : Int) < 0 := by omega
  have r1 : ¬ (inner : Int) < 0 := by omega
  obtain ⟨N, hNN⟩ : ∃ N, N = outer * inner := ⟨_, rfl⟩
  have f1 : (outer : Int) * (inner : Int) = (N : Int) := by rw [hNN]; push_cast; rfl
  have hNb : N ≤ 1000000 := by omega
  rw [← hNN] at HSTT ⊢
  clear hq hN hbN hNN hH
  go_enter Tryz.func27, Tryz.ntmps27
  go_wp2_with fail
  refine (HK.out _).mono ?_
  rintro e w1 ⟨rfl, hw⟩
  rw [hw] at HS
  clear hw
  obtain ⟨h0, h1, h2, h3, h4, h5, h6, h7⟩ := HS.out.box
  go_wp2_with fail
  refine (HC.out _ HS.out.bel).mono ?_
  rintro e w2 ⟨rfl, hb2⟩
  have HS2 := Lib.hid (HS.out.step hb2)
  clear hb2 h0 h1 h2 h3 h4 h5 h6 h7 HS
  have HST2 := Lib.hid (HSTT.out _ HS2.out.bel)
  go_wp2_with fail
  refine HST2.out.mono ?_
  rintro e w5 (⟨sx, hsx, k5, b5, bn5, s5, i5, f5, c5, x5, rfl, hk5, hb5⟩ | ⟨hsx, rfl, hb5⟩)
  · have HS5 := Lib.hid (HS2.out.step hb5)
    have HSX := Lib.hid hsx
    have HK5 := Lib.hid (hk5.sub (H' := fun j => H j ∨ j = w.heap.size + 1) fun j _ e => e.imp id fun e => by have := HS2.out.sz; omega)
    clear hb5 hk5 hsx
    have z5 : w.heap.size < w5.heap.size := HS5.out.box.lt
    have z5' : w.heap.size + 1 < w5.heap.size := HS5.out.sz
    have HKE := Lib.hid ((HK5.out.set8 (.inr rfl) (.int .i64 k5) (.slice b5.1 b5.2.1 b5.2.2) (.int .i64 bn5) (.slice s5.1 s5.2.1 s5.2.2) (.slice i5.1 i5.2.1 i5.2.2) (.slice f5.1 f5.2.1 f5.2.2) (.slice c5.1 c5.2.1 c5.2.2) (.slice x5.1 x5.2.1 x5.2.2)).sub (H' := H) fun _ _ e => .inl e)
    obtain ⟨⟨h0, h1, h2, h3, h4, h5, h6, h7⟩, hz⟩ := boxed_of HS5.out.res
    go_wp2
    refine bodyPost_ret (v := .tuple #[vecW k5 b5 bn5 s5 i5 f5 c5 x5, .int .i64 0]) ?_ rfl (.inl ⟨sx, HSX.out, k5, b5, bn5, s5, i5, f5, c5, x5, rfl, HKE.out, below_set8 HS5.out.bel (Nat.le_succ _) _ _ _ _ _ _ _ _⟩)
    exact ret_vec2 (fn := Tryz.f27) (p := 10) (u := 11) rfl _ _ (w.heap.size + 1) (by rfl) (set8_block HS5.out.res _ _ _ _ _ _ _ _)
  · have HS5 := Lib.hid (HS2.out.step hb5)
    have HSX := Lib.hid hsx
    clear hb5 hsx
    have z5 : w.heap.size < w5.heap.size := HS5.out.box.lt
    have z5' : w.heap.size + 1 < w5.heap.size := HS5.out.sz
    obtain ⟨⟨h0, h1, h2, h3, h4, h5, h6, h7⟩, hz⟩ := boxed_of HS5.out.res
    go_wp2
    refine bodyPost_ret (v := .tuple #[vecV 0 vnil 0 vnil vnil vnil vnil vnil, .int .i64 24]) ?_ rfl (.inr ⟨HSX.out, rfl, below_set8 HS5.out.bel (Nat.le_succ _) _ _ _ _ _ _ _ _⟩)
    exact ret_vec2 (fn := Tryz.f27) (p := 10) (u := 11) rfl _ _ (w.heap.size + 1) (by rfl) (set8_block HS5.out.res _ _ _ _ _ _ _ _)
end Go.Proofs.YtdddmehchfnppaaGreatDoor
namespace Go.Proofs.YtdddmehchfnppaaGreatDoor
open Go Go.RowKit Go.Proofs Fl

theorem numX_of {k : Int} {b : Sl} {bn : Int} {s i f c x : Sl} {n : Nat} {F : Nat → Nat} {w : World} (h : NumV (vecW k b bn s i f c x) k n F w) : NumX k b bn s i f c x n F w := by
  refine ⟨h, fun hk => ?_, fun hk => ?_⟩
  · obtain ⟨l, s', e, hb, hf⟩ := h.bitsX hk
    injection e with e
    have e1 := congrArg (fun a : Array Value => a.getD 1 undef) e
    have e2 := congrArg (fun a : Array Value => a.getD 2 undef) e
    have e1' : Value.slice b.1 b.2.1 b.2.2 = s' := e1
    have e2' : Value.int .i64 bn = .int .i64 (n : Int) := e2
    rw [e1', e2']
    exact ⟨l, hb, fun j hj => by rw [hf j hj, flagF_bI]⟩
  · obtain ⟨L, s', e, hr, hf⟩ := h.intsX hk
    injection e with e
    have e1 := congrArg (fun a : Array Value => a.getD 4 undef) e
    have e1' : Value.slice i.1 i.2.1 i.2.2 = s' := e1
    rw [e1']
    have e3 : ((List.range n).map fun j => Value.int .i64 (zOf (F j))) = (List.range n).map fun j => .int .i64 (L j) := by
      apply List.map_congr_left
      intro j hj
      obtain ⟨ef, hg⟩ := hf j (List.mem_range.1 hj)
      rw [ef, zOf_of (wholeP_fi hg)]
    rw [e3]
    exact hr

/-- Tight: the store is the least -/
theorem vkind_any (k : Int) (b : Value) (bn : Int) (s i f c x : Value) (w : World) :
    Calls Tryz.prog 11 #[vecV k b bn s i f c x] w fun e w' => e = .returned (.int .i64 k) ∧ Below w.heap.size w w' := by
  go_enter Tryz.func11, Tryz.ntmps11
  go_wp2
  go_ret
  exact ⟨rfl, bel1 _ _⟩
theorem least_any {k : Int} {b : Value} {bn : Int} {s i f c x : Value} {n : Nat} {F : Nat → Nat} {w : World} (hn : n ≤ 1000000) (hN : ∀ W, Below w.heap.size w W → NumV (vecV k b bn s i f c x) k n F W) :
    Calls Tryz.prog 40 #[vecV k b bn s i f c x] w fun e w' => e = .returned (.int .i64 (leastF F n : Nat)) ∧ Below w.heap.size w w' := by
  rcases (hN w (Below.refl _ _)).kind with e | e | e | e
  · exact least_whole k (.inl e) _ bn _ _ _ _ _ n F w (by omega) hN
  · exact least_whole k (.inr (.inl e)) _ bn _ _ _ _ _ n F w (by omega) hN
  · exact least_whole k (.inr (.inr e)) _ bn _ _ _ _ _ n F w (by omega) hN
  · subst e
    exact least_float _ bn _ _ _ _ _ n F w (by omega) hN
set_option maxRecDepth 100000 in
set_option maxHeartbeats 1000000 in
theorem tight_any {k : Int} {b : Value} {bn : Int} {s i f c x : Value} {n : Nat} {F : Nat → Nat} {w : World} (hn : n ≤ 1000000) (hN : ∀ W, Below w.heap.size w W → NumV (vecV k b bn s i f c x) k n F W) :
    Calls Tryz.prog 14 #[vecV k b bn s i f c x] w fun e w' => e = .returned (.bool (k == (leastF F n : Nat))) ∧ Below w.heap.size w w' := by
  have HC := Lib.hid (fun W => vkind_any k b bn s i f c x W)
  have HL := Lib.hid (fun W (hw : Below w.heap.size w W) => least_any hn (fun W' hw' => hN W' (bel_both hw hw')))
  clear hN
  go_enter Tryz.func14, Tryz.ntmps14
  go_wp2_with fail
  go_region_with (first
    | (go_at_call 11; go_loud ((refine (HC.out _).mono ?_); rintro e w1 ⟨rfl, hb1⟩); obtain ⟨hc1, hf1⟩ := bcell2 hb1; have hz1 := hb1.size)
    | (go_at_call 40; go_loud ((refine (HL.out _ ?_).mono ?_); exact bel_both (bel1 w _).drew hb1; rintro e w2 ⟨rfl, hb2⟩); obtain ⟨hc2, hf2⟩ := bcell2 hb2; have hz2 := hb2.size))
  all_goals
    go_wp2
    go_ret
    exact ⟨rfl, bel_both (bel_both (bel1 w _).drew hb1) hb2⟩
end Go.Proofs.YtdddmehchfnppaaGreatDoor
namespace Go.Proofs.YtdddmehchfnppaaGreatDoor
open Go Go.RowKit Go.Proofs Fl

set_option maxRecDepth 100000 in
set_option maxHeartbeats 1000000 in
theorem into_other (kd : Int) (k : Int) (b : Value) (bn : Int) (s i f c x : Value) (w : World) (hk : k ≠ kd) (hk0 : k ≠ 0) (h1 : kd ≠ 1) (h2 : kd ≠ 2) (h3 : kd ≠ 3) (h4 : kd ≠ 4)
    (hcl : ∀ W, Below w.heap.size w W → Calls Tryz.prog 31 #[vecV k b bn s i f c x] W fun e w2 => e = .returned (.int .i64 0) ∧ Below W.heap.size W w2) :
    Calls Tryz.prog 30 #[vecV k b bn s i f c x, .int .i64 kd] w (NoVec w) := by
  have HK := Lib.hid (fun W => kind_any k b bn s i f c x W)
  have HC := Lib.hid hcl
  have e2 : (k == kd) = false := by simpa using hk
  have e0 : (k == 0) = false := by simpa using hk0
  have g1 : (kd == 1) = false := by simpa using h1
  have g2 : (kd == 2) = false := by simpa using h2
  have g3 : (kd == 3) = false := by simpa using h3
  have g4 : (kd == 4) = false := by simpa using h4
  clear hcl
  go_enter Tryz.func30, Tryz.ntmps30
  go_wp2_with fail
  refine (HK.out _).mono ?_
  rintro e w1 ⟨rfl, hb1⟩
  have HS1 := Lib.hid ((St.new w k b bn s i f c x).step hb1)
  obtain ⟨h0, h1, h2, h3, h4, h5, h6, h7⟩ := HS1.out.box
  clear hb1
  go_wp2_with fail
  refine (HC.out _ HS1.out.bel).mono ?_
  rintro e w2 ⟨rfl, hb2⟩
  have HS2 := Lib.hid (HS1.out.step hb2)
  clear hb2 h0 h1 h2 h3 h4 h5 h6 h7 HS1
  obtain ⟨h0, h1, h2, h3, h4, h5, h6, h7⟩ := HS2.out.box
  go_wp2_with fail
  refine (HK.out _).mono ?_
  rintro e w3 ⟨rfl, hb3⟩
  have HS3 := Lib.hid (HS2.out.step hb3)
  clear hb3 h0 h1 h2 h3 h4 h5 h6 h7 HS2
  obtain ⟨⟨h0, h1, h2, h3, h4, h5, h6, h7⟩, hz⟩ := boxed_of HS3.out.res
  go_wp2
  refine bodyPost_ret (v := .tuple #[vecV 0 vnil 0 vnil vnil vnil vnil vnil, .bool false]) ?_ rfl ⟨rfl, below_set8 HS3.out.bel (Nat.le_succ _) _ _ _ _ _ _ _ _⟩
  exact ret_vec2 (fn := Tryz.f30) (p := 4) (u := 5) rfl _ _ (w.heap.size + 1) (by rfl) (set8_block HS3.out.res _ _ _ _ _ _ _ _)

set_option maxRecDepth 100000 in
set_option maxHeartbeats 1000000 in
theorem into_zero (kd : Int) (w : World) (hk : kd ≠ 0) :
    Calls Tryz.prog 30 #[vecV 0 vnil 0 vnil vnil vnil vnil vnil, .int .i64 kd] w (NoVec w) := by
  have HK := Lib.hid (fun W => kind_any 0 vnil 0 vnil vnil vnil vnil vnil W)
  have HC := Lib.hid (fun W => class_0 vnil 0 vnil vnil vnil vnil vnil W)
  have e2 : ((0 : Int) == kd) = false := by simp; omega
  go_enter Tryz.func30, Tryz.ntmps30
  go_wp2_with fail
  refine (HK.out _).mono ?_
  rintro e w1 ⟨rfl, hb1⟩
  have HS1 := Lib.hid ((St.new w 0 vnil 0 vnil vnil vnil vnil vnil).step hb1)
  obtain ⟨h0, h1, h2, h3, h4, h5, h6, h7⟩ := HS1.out.box
  clear hb1
  go_wp2_with fail
  refine (HC.out _).mono ?_
  rintro e w2 ⟨rfl, hb2⟩
  have HS2 := Lib.hid (HS1.out.step hb2)
  clear hb2 h0 h1 h2 h3 h4 h5 h6 h7 HS1
  obtain ⟨h0, h1, h2, h3, h4, h5, h6, h7⟩ := HS2.out.box
  go_wp2_with fail
  refine (HK.out _).mono ?_
  rintro e w3 ⟨rfl, hb3⟩
  have HS3 := Lib.hid (HS2.out.step hb3)
  clear hb3 h0 h1 h2 h3 h4 h5 h6 h7 HS2
  obtain ⟨⟨h0, h1, h2, h3, h4, h5, h6, h7⟩, hz⟩ := boxed_of HS3.out.res
  go_wp2
  refine bodyPost_ret (v := .tuple #[vecV 0 vnil 0 vnil vnil vnil vnil vnil, .bool false]) ?_ rfl ⟨rfl, below_set8 HS3.out.bel (Nat.le_succ _) _ _ _ _ _ _ _ _⟩
  exact ret_vec2 (fn := Tryz.f30) (p := 4) (u := 5) rfl _ _ (w.heap.size + 1) (by rfl) (set8_block HS3.out.res _ _ _ _ _ _ _ _)
end Go.Proofs.YtdddmehchfnppaaGreatDoor
namespace Go.Proofs.YtdddmehchfnppaaGreatDoor
open Go Go.RowKit Go.Proofs Fl

set_option maxRecDepth 100000 in
set_option maxHeartbeats 1000000 in
theorem floats_bad (b o n c : Nat) (x y : Nat → Nat) (hn : n ≤ 1000000) (w : World) (hc : ∀ i, i < n → w.cell? ⟨b, o + i, none⟩ = some (.float .f64 (x i)))
    (K : Nat) (hK : K < n) (ht : ∀ i, i < K → ∀ W, Calls Tryz.prog 60 #[.float .f64 (x i)] W fun e w' => e = .returned (.tuple #[.float .f64 (y i), .bool true]) ∧ W = w')
    (hbad : ∀ W, Calls Tryz.prog 60 #[.float .f64 (x K)] W fun e w' => e = .returned (.tuple #[.float .f64 0, .bool false]) ∧ W = w') :
    Calls Tryz.prog 29 #[.slice (some ⟨b, o, none⟩) n c] w (NoVec w) := by
  have HC : Hid (∀ wr, Below w.heap.size w wr → ∀ i, i < n → wr.cell? ⟨b, o + i, none⟩ = some (.float .f64 (x i))) := by
    intro wr hb i h
    rw [hb.cell (cell_lt (hc i h))]; exact hc i h
  have HT := Lib.hid ht
  have HBAD := Lib.hid hbad
  have hmk := run_make_row' (P := Tryz.prog) 22 47 (.float .f64 0) 8 Tryz.underlying22 info_f64 rfl .i64 .i64 n (by omega) (by omega)
  clear hc ht hbad
  have hsz : (w.alloc (.cells zcells 32)).heap.size = w.heap.size + 1 := by simp
  have HF0 := Lib.hid (Fill.made (w.alloc (.cells zcells 32)) w.heap.size (by simp) 47 (fun j => .float .f64 (y j)) (.float .f64 0) n (by unfold maxLen; omega))
  rw [hsz] at HF0
  have HB0 := Lib.hid (bel2 w (.cells zcells 32) (.cells (madeCells #[.float .f64 0] n) 47))
  have HK0 := Lib.hid (block_up (bel1 (w.alloc (.cells zcells 32)) (.cells (madeCells #[.float .f64 0] n) 47)))
  clear hsz
  go_enter Tryz.func29, Tryz.ntmps29
  go_wp2
  go_loopw [14] (fun j wr => ∃ m : Nat, m ≤ K ∧ j = .int .i64 m ∧ Fill wr w.heap.size (w.heap.size + 1) 47 (fun j => .float .f64 (y j)) (.float .f64 0) n m ∧ Below w.heap.size w wr ∧ wr.heap[w.heap.size]? = some (.cells zcells 32)) (fun j _ => n - (intOf j).toNat)
  case atStart => exact ⟨0, Nat.zero_le _, rfl, HF0.out, HB0.out, HK0.out⟩
  case round =>
    obtain ⟨m, hm, rfl, hf, hbl, hk⟩ := hrel
    have HF := Lib.hid hf
    have HBL := Lib.hid hbl
    have HK := Lib.hid hk
    clear hf hbl hk
    have hlt : m < n := by omega
    have hcell := HC.out wr HBL.out m hlt
    by_cases hmK : m < K
    · have hc3 := HF.out.cell hlt
      have hz3 := HF.out.frozen m
      have HP := Lib.hid (HF.out.put hlt)
      have HB3 := Lib.hid (HF.out.bel HBL.out m (.float .f64 (y m)))
      have HK3 := Lib.hid (show (wr.setCell ⟨w.heap.size + 1, m, none⟩ (.float .f64 (y m))).heap[w.heap.size]? = some (.cells zcells 32) by rw [Below.heap_setCell _ _ _ _ (by simp)]; exact HK.out)
      have hst := fun md => store_float hc3 hz3 .f64 (y m) md
      have HTM := Lib.hid (HT.out m hmK)
      go_wp2_with fail
      refine (HTM.out _).mono ?_
      rintro e w3 ⟨rfl, rfl⟩
      go_wp2
      go_roundw
      case rel => exact ⟨m + 1, by omega, by go_num, HP.out, HB3.out, HK3.out⟩
      case measure => simp [intOf]; omega
    · obtain rfl : m = K := by omega
      obtain ⟨⟨h0, h1, h2, h3, h4, h5, h6, h7⟩, hz⟩ := boxed_of HK.out
      go_wp2_with fail
      refine (HBAD.out _).mono ?_
      rintro e w3 ⟨rfl, rfl⟩
      go_wp2
      refine bodyPost_ret (v := .tuple #[vecV 0 vnil 0 vnil vnil vnil vnil vnil, .bool false]) ?_ rfl ⟨rfl, below_set8 HBL.out (Nat.le_refl _) _ _ _ _ _ _ _ _⟩
      exact ret_vec2 (fn := Tryz.f29) (p := 2) (u := 3) rfl _ _ w.heap.size (by rfl) (set8_block HK.out _ _ _ _ _ _ _ _)
end Go.Proofs.YtdddmehchfnppaaGreatDoor
namespace Go.Proofs.YtdddmehchfnppaaGreatDoor
open Go Go.RowKit Go.Proofs Fl

/-- a float is a number -/
def okF (b : Nat) : Bool := (doneP b).2 == 0
/-- the tidy form of a float -/
def tidF (b : Nat) : Nat := (doneP b).1
theorem ok_cases {b : Nat} (hb : b < 18446744073709551616) : (okF b = true ∧ TF (tidF b) ∧ (∀ W, Calls Tryz.prog 60 #[.float .f64 b] W fun e w' => e = .returned (.tuple #[.float .f64 (tidF b), .bool true]) ∧ W = w') ∧ (∀ W, Calls Tryz.prog 17 #[.float .f64 b] W fun e w' => e = .returned (.tuple #[.float .f64 (tidF b), .bool true]) ∧ W = w')) ∨
    (okF b = false ∧ (∀ W, Calls Tryz.prog 60 #[.float .f64 b] W fun e w' => e = .returned (.tuple #[.float .f64 0, .bool false]) ∧ W = w') ∧ (∀ W, Calls Tryz.prog 17 #[.float .f64 b] W fun e w' => e = .returned (.tuple #[.float .f64 0, .bool false]) ∧ W = w')) := by
  rcases classify b hb with ⟨s, Z, hz, rfl⟩ | h
  · left
    have e := doneP_num s hz
    have e1 : tidF (W s Z) = tid s Z := by unfold tidF; rw [e]
    have e2 : okF (W s Z) = true := by unfold okF; rw [e]; rfl
    have e3 : TF (tid s Z) := by
      rcases doneP_cases hb with ⟨c, hc, e4⟩ | e4
      · rw [e] at e4
        injection e4 with e4 _
        rw [e4]; exact hc
      · rw [e] at e4
        injection e4 with _ e5
        cases e5
    rw [e1]
    exact ⟨e2, e3, fun W => ntidy_num s hz W, fun W => rtidy_num s hz W⟩
  · right
    have e : doneP b = (0, 24) := by rcases h with ⟨s, rfl⟩ | h; exact doneP_inf s; exact doneP_nan h
    exact ⟨by unfold okF; rw [e]; rfl, fun W => ntidy_bad h W, fun W => rtidy_bad h W⟩

/-- vec.Floats at any floats -/
def FlsOut (n : Nat) (F : Nat → Nat) (w : World) (e : Ending) (w' : World) : Prop :=
  ((∀ j, j < n → okF (F j) = true) ∧ ∃ a m c, e = .returned (.tuple #[vecV 4 vnil 0 vnil vnil (.slice a m c) vnil vnil, .bool true]) ∧ Own1 w' w.heap.size 47 (.slice a m c) ((List.range n).map fun j => .float .f64 (tidF (F j))) ∧ Below w.heap.size w w') ∨
  ((∃ j, j < n ∧ okF (F j) = false) ∧ NoVec w e w')
theorem floats_all {w : World} {v : Value} {n : Nat} {F : Nat → Nat} (hr : Reads1 w v ((List.range n).map fun j => .float .f64 (F j))) (hn : n ≤ 1000000) (hF : ∀ j, j < n → F j < 18446744073709551616) :
    Calls Tryz.prog 29 #[v] w (FlsOut n F w) := by
  obtain ⟨a, c, rfl, hc⟩ := reads_at hr
  by_cases h0 : n = 0
  · subst h0
    refine (floats_any hr hn (fun j hj => absurd hj (Nat.not_lt_zero _))).mono ?_
    rintro e w' ⟨a2, m, c2, rfl, ho, hb⟩
    exact .inl ⟨fun j hj => absurd hj (Nat.not_lt_zero _), a2, m, c2, rfl, ho, hb⟩
  · obtain ⟨b, o, rfl, _⟩ := hc 0 (by omega)
    have hcell : ∀ i, i < n → w.cell? ⟨b, o + i, none⟩ = some (.float .f64 (F i)) := fun i hi => reads_cell hr i hi
    have hyes : ∀ j, j < n → okF (F j) = true → ∀ W, Calls Tryz.prog 60 #[.float .f64 (F j)] W fun e w' => e = .returned (.tuple #[.float .f64 (tidF (F j)), .bool true]) ∧ W = w' := fun j hj ho => by
      rcases ok_cases (hF j hj) with h | h
      · exact h.2.2.1
      · rw [h.1] at ho; cases ho
    rcases first_bad (fun j => okF (F j)) n with hall | ⟨K, hK, hbad, hlow⟩
    · refine (floats_walk b o n c F (fun j => tidF (F j)) hn w hcell (fun i hi => hyes i hi (hall i hi))).mono ?_
      rintro e w' ⟨u, rfl, ho, hb⟩
      obtain ⟨a2, m, c2, rfl⟩ : ∃ a m c', u = .slice a m c' := by obtain ⟨a, c, e⟩ := ho.reads.len; exact ⟨a, _, c, e⟩
      exact .inl ⟨hall, a2, m, c2, rfl, ho, hb⟩
    · refine (floats_bad b o n c F (fun j => tidF (F j)) hn w hcell K hK (fun i hi => hyes i (by omega) (hlow i hi)) ?_).mono fun e w' h => .inr ⟨⟨K, hK, hbad⟩, h⟩
      rcases ok_cases (hF K hK) with h | h
      · rw [h.1] at hbad; cases hbad
      · exact h.2.1
end Go.Proofs.YtdddmehchfnppaaGreatDoor
namespace Go.Proofs.YtdddmehchfnppaaGreatDoor
open Go Go.RowKit Go.Proofs Fl

/-- squeeze.Squeeze at whole numbers that fit eight bits and not one -/
theorem squeeze_small (H : Nat → Prop) (w : World) (u : Value) (n : Nat) (l : Nat → Int) (hH : ∀ b, H b → b < w.heap.size) (hr : Reads1 w u ((List.range n).map fun j => .int .i64 (l j))) (hn : n ≤ 1000000) (hl : ∀ j, j < n → -128 ≤ l j ∧ l j ≤ 127) (h2 : leastS l n = 2) :
    Calls Tryz.prog 73 #[vecV 3 vnil 0 vnil u vnil vnil vnil] w (VecR H w (Small8 n l)) := by
  refine squeeze_any H (Small8 n l) 2 3 vnil 0 vnil u vnil vnil vnil w (fun W hb => ?_) (fun W hb => ?_)
  · have hw := wholesOf_ints (hr.below hb)
    obtain ⟨a, c, rfl, hc⟩ := reads_at (hr.below hb)
    have := least_ints vnil 0 vnil (.slice a n c) vnil vnil vnil n l W hn (fun w' h' => hw.len w' h') (fun w' h' j hj => by
      obtain ⟨b, o, rfl, hcell⟩ := hc j hj
      exact vwhole_3 _ _ _ _ _ _ _ _ _ _ _ hj _ w' (by rw [h'.cell (cell_lt hcell)]; exact hcell))
    rw [h2] at this
    exact this
  · exact into_small H w W hH hb 3 (by decide) (by decide) vnil 0 vnil u vnil vnil vnil n l (wholesOf_ints (hr.below hb)) (fun w' _ => class_3 _ _ _ _ _ _ _ _) hn hl

theorem small8_class {n : Nat} {l : Nat → Int} {u : Value} {w : World} (_ : Small8 n l u w) : True := trivial

theorem outS_map (X : Nat → Nat → Nat → Int) (inner cnt : Nat) : (outS X inner cnt).map (Value.int .i64) = (List.range cnt).map fun j => .int .i64 (X (j / inner) (j % inner) 0) := by
  unfold outS
  rw [List.map_map]
  rfl

/-- fold.Fold at eight-bit numbers whose rows come to eight-bit numbers, not to truths alone -/
theorem fold_small (H : Nat → Prop) (q : Int) (hq : knownB q = true) (w : World) (hH : ∀ b, H b → b < w.heap.size) (s : Value) (outer n inner : Nat) (L : Nat → Int) (X : Nat → Nat → Nat → Int)
    (hr : Reads1 w s ((List.range (outer * n * inner)).map fun j => .int .i8 (L j))) (hL : ∀ j, j < outer * n * inner → -128 ≤ L j ∧ L j ≤ 127)
    (hn : 2 ≤ n) (hb1 : outer ≤ 1000) (hb2 : n ≤ 1000) (hb3 : inner ≤ 1000) (hbT : outer * n * inner ≤ 1000000) (hbN : outer * inner ≤ 1000000) (hpos : 0 < outer * n * inner)
    (hX : ∀ o k, o < outer → k < inner → X o k (n - 1) = L (o * n * inner + k + (n - 1) * inner))
    (hw : ∀ o k j, o < outer → k < inner → j + 1 < n → ∀ W, Calls Tryz.prog 104 #[.int .i64 q, .int .i64 (L (o * n * inner + k + j * inner)), .int .i64 (X o k (j + 1))] W fun e w' => e = .returned (.tuple #[.int .i64 (X o k j), .bool true]) ∧ W = w')
    (hg : ∀ o k, o < outer → k < inner → -128 ≤ X o k 0 ∧ X o k 0 ≤ 127)
    (h2 : leastS (fun j => X (j / inner) (j % inner) 0) (outer * inner) = 2) :
    Calls Tryz.prog 27 #[.int .i64 q, vecV 2 vnil 0 s vnil vnil vnil vnil, .int .i64 (outer : Int), .int .i64 (n : Int), .int .i64 (inner : Int)] w
      (VecOk H w (Small8 (outer * inner) fun j => X (j / inner) (j % inner) 0)) := by
  have hi : 0 < inner := by
    rcases Nat.eq_zero_or_pos inner with e | e
    · rw [e, Nat.mul_zero] at hpos; omega
    · exact e
  obtain ⟨T, hT⟩ : ∃ T, T = outer * n * inner := ⟨_, rfl⟩
  refine fold_wholes H _ (fun W v => Reads1 W v ((List.range T).map fun j => .int .i64 (L j))) q hq 2 vnil 0 s vnil vnil vnil vnil _ _ _ (by omega) (by omega) (by omega) w (fun W => class_2 _ _ _ _ _ _ _ _) (by decide)
    (fun W W' v h hb => h.below hb) (fun W hb => ?_) (fun W v hb hv => ?_)
  · rw [← hT] at hr hL
    obtain ⟨a, c, rfl, hc⟩ := reads_at hr
    refine (wholes_small vnil 0 (.slice a T c) vnil vnil vnil vnil T L W (by omega) (fun w' _ => len_2 _ _ _ _ _ _ _ _ _ _) (fun w' h' j hj => ?_)).mono ?_
    · obtain ⟨b, o, rfl, hcell⟩ := hc j hj
      exact vwhole_2 _ _ _ _ _ _ _ _ _ _ _ hj _ (hL j hj).1 (hL j hj).2 w' (by rw [(bel_both hb h').cell (cell_lt hcell)]; exact hcell)
    · rintro e w' ⟨g, rfl, ho, hb2⟩
      exact ⟨_, _, _, rfl, ho.reads, hb2⟩
  · obtain ⟨a, c, rfl, hc⟩ := reads_at hv
    obtain ⟨b, o0, rfl, _⟩ := hc 0 (by omega)
    refine fwholes_done (Hole H w W) _ q b o0 c T outer n inner L X W hT (by omega) hb1 hb2 hb3 hbT hbN (fun i hi2 => ?_) hX hw (fun o k ho hk => by have := hg o k ho hk; exact ⟨by omega, by omega⟩) (fun W2 u hb2 hu => ?_)
    · obtain ⟨b', o', e, hcell⟩ := hc i (by rw [hT]; exact hi2)
      injection e with e
      injection e with e1 e2 _
      subst e1; subst e2
      exact hcell
    · rw [outS_map] at hu
      have hwW : w.heap.size ≤ W.heap.size := hb.size
      refine squeeze_small _ W2 u (outer * inner) (fun j => X (j / inner) (j % inner) 0) (fun b0 hb0 => ?_) hu.reads hbN (fun j hj => ?_) h2
      · have := hb2.size
        rcases hb0 with (e | e) | e
        · have := hH b0 e; omega
        · omega
        · have := hu.reads
          have hlt : W.heap.size < W2.heap.size := by
            rcases hu.2 with ⟨_, h0⟩ | ⟨g, cap, cur, hv, hbg, hg, _⟩
            · have : outer * inner = 0 := by simpa using h0
              have : 0 < outer * inner := by
                have ho : 0 < outer := by
                  rcases Nat.eq_zero_or_pos outer with e | e
                  · rw [e, Nat.zero_mul, Nat.zero_mul] at hpos; omega
                  · exact e
                exact Nat.mul_pos ho hi
              omega
            · have := lt_of_block hg
              omega
          omega
      · exact hg _ _ (Nat.div_lt_of_lt_mul (by rw [Nat.mul_comm]; exact hj)) (Nat.mod_lt _ hi)

theorem set8_heap (w : World) (G b : Nat) (h : b ≠ G) (a0 a1 a2 a3 a4 a5 a6 a7 : Value) : (set8 w G a0 a1 a2 a3 a4 a5 a6 a7).heap[b]? = w.heap[b]? := by
  unfold set8
  rw [Below.heap_setCell _ _ _ _ h, Below.heap_setCell _ _ _ _ h, Below.heap_setCell _ _ _ _ h, Below.heap_setCell _ _ _ _ h, Below.heap_setCell _ _ _ _ h, Below.heap_setCell _ _ _ _ h, Below.heap_setCell _ _ _ _ h, Below.heap_setCell _ _ _ _ h]

set_option maxRecDepth 100000 in
set_option maxHeartbeats 1000000 in
/-- kept, where the numbers fit the store -/
theorem kept_yes (H : Nat → Prop) (R : Value → World → Prop) (P : World → Sl → Prop) (v : Value) (kind : Int) (w : World)
    (hP : ∀ W W' s, P W s → Below W.heap.size W W' → P W' s)
    (hf : ∀ W, Below w.heap.size w W → Calls Tryz.prog 29 #[v] W fun e w' => ∃ s : Sl, e = .returned (.tuple #[vecV 4 vnil 0 vnil vnil (.slice s.1 s.2.1 s.2.2) vnil vnil, .bool true]) ∧ P w' s ∧ Below W.heap.size W w')
    (hin : ∀ W s, Below w.heap.size w W → P W s → Calls Tryz.prog 30 #[vecV 4 vnil 0 vnil vnil (.slice s.1 s.2.1 s.2.2) vnil vnil, .int .i64 kind] W (IntoR H w W R)) :
    Calls Tryz.prog 24 #[v, .int .i64 kind] w (Vec2R H w R) := by
  have HP := Lib.hid hP
  have HF := Lib.hid hf
  have HI := Lib.hid hin
  clear hP hf hin
  go_enter Tryz.func24, Tryz.ntmps24
  go_wp2_with fail
  refine (HF.out _ (bel1 w _)).mono ?_
  rintro e w1 ⟨s, rfl, hp, hb1⟩
  have HB1 := Lib.hid (bel_both (bel1 w _) hb1)
  have HK1 := Lib.hid (block_up hb1)
  have HB2 := Lib.hid (bel_both HB1.out (bel1 w1 (.cells #[.int .i64 4, vnil, .int .i64 0, vnil, vnil, .slice s.1 s.2.1 s.2.2, vnil, vnil] 32)))
  have HI2 := Lib.hid (HI.out _ s HB2.out (HP.out _ _ _ hp (bel1 w1 (.cells #[.int .i64 4, vnil, .int .i64 0, vnil, vnil, .slice s.1 s.2.1 s.2.2, vnil, vnil] 32))))
  clear hb1 hp
  go_wp2_with fail
  refine HI2.out.mono ?_
  rintro e w2 ⟨k5, b5, bn5, s5, i5, f5, c5, x5, rfl, hk5, hb5⟩
  have HB5 := Lib.hid (bel_both HB2.out hb5)
  have HV5 := Lib.hid (block_up hb5)
  have HK5 := Lib.hid (show w2.heap[w.heap.size]? = some (.cells zcells 32) by
    rw [hb5.block _ (by have := lt_of_block HK1.out; simp; omega), Below.heap_alloc _ _ _ (lt_of_block HK1.out)]; exact HK1.out)
  have HKE := Lib.hid hk5
  have z1 : w.heap.size < w1.heap.size := lt_of_block HK1.out
  have z2 : w1.heap.size < w2.heap.size := lt_of_block HV5.out
  have z3 : w.heap.size < w2.heap.size := lt_of_block HK5.out
  clear hb5 hk5
  obtain ⟨⟨h0, h1, h2, h3, h4, h5, h6, h7⟩, hz⟩ := boxed_of HV5.out
  obtain ⟨⟨g0, g1, g2, g3, g4, g5, g6, g7⟩, gz⟩ := boxed_of HK5.out
  have hzs : (w1.alloc (.cells #[.int .i64 4, vnil, .int .i64 0, vnil, vnil, .slice s.1 s.2.1 s.2.2, vnil, vnil] 32)).heap.size = w1.heap.size + 1 := by simp
  have HZ := Lib.hid hzs
  clear hzs
  have HKX := Lib.hid (((HKE.out.set8 (G := w1.heap.size) (.inr ⟨by omega, by rw [HZ.out]; omega⟩) (.int .i64 k5) (.slice b5.1 b5.2.1 b5.2.2) (.int .i64 bn5) (.slice s5.1 s5.2.1 s5.2.2) (.slice i5.1 i5.2.1 i5.2.2) (.slice f5.1 f5.2.1 f5.2.2) (.slice c5.1 c5.2.1 c5.2.2) (.slice x5.1 x5.2.1 x5.2.2)).set8 (G := w.heap.size) (.inr ⟨by omega, by rw [HZ.out]; omega⟩) (.int .i64 k5) (.slice b5.1 b5.2.1 b5.2.2) (.int .i64 bn5) (.slice s5.1 s5.2.1 s5.2.2) (.slice i5.1 i5.2.1 i5.2.2) (.slice f5.1 f5.2.1 f5.2.2) (.slice c5.1 c5.2.1 c5.2.2) (.slice x5.1 x5.2.1 x5.2.2)).sub (H' := H) fun _ _ e => .inl e)
  have HBX := Lib.hid (below_set8 (below_set8 HB5.out (Nat.le_of_lt z1) (.int .i64 k5) (.slice b5.1 b5.2.1 b5.2.2) (.int .i64 bn5) (.slice s5.1 s5.2.1 s5.2.2) (.slice i5.1 i5.2.1 i5.2.2) (.slice f5.1 f5.2.1 f5.2.2) (.slice c5.1 c5.2.1 c5.2.2) (.slice x5.1 x5.2.1 x5.2.2)) (Nat.le_refl _) (.int .i64 k5) (.slice b5.1 b5.2.1 b5.2.2) (.int .i64 bn5) (.slice s5.1 s5.2.1 s5.2.2) (.slice i5.1 i5.2.1 i5.2.2) (.slice f5.1 f5.2.1 f5.2.2) (.slice c5.1 c5.2.1 c5.2.2) (.slice x5.1 x5.2.1 x5.2.2))
  have HRX := Lib.hid (set8_block (show (set8 w2 w1.heap.size (.int .i64 k5) (.slice b5.1 b5.2.1 b5.2.2) (.int .i64 bn5) (.slice s5.1 s5.2.1 s5.2.2) (.slice i5.1 i5.2.1 i5.2.2) (.slice f5.1 f5.2.1 f5.2.2) (.slice c5.1 c5.2.1 c5.2.2) (.slice x5.1 x5.2.1 x5.2.2)).heap[w.heap.size]? = some (.cells zcells 32) by rw [set8_heap _ _ _ (by omega)]; exact HK5.out) (.int .i64 k5) (.slice b5.1 b5.2.1 b5.2.2) (.int .i64 bn5) (.slice s5.1 s5.2.1 s5.2.2) (.slice i5.1 i5.2.1 i5.2.2) (.slice f5.1 f5.2.1 f5.2.2) (.slice c5.1 c5.2.1 c5.2.2) (.slice x5.1 x5.2.1 x5.2.2))
  go_wp2
  refine bodyPost_ret (v := .tuple #[vecW k5 b5 bn5 s5 i5 f5 c5 x5, .bool true]) ?_ rfl ⟨k5, b5, bn5, s5, i5, f5, c5, x5, rfl, HKX.out.step (bel1 _ _), bel_both HBX.out (bel1 _ _)⟩
  exact ret_vec2 (fn := Tryz.f24) (p := 4) (u := 5) rfl _ _ w.heap.size (by rfl) ((Below.heap_alloc _ _ _ (lt_of_block HRX.out)).trans HRX.out)
end Go.Proofs.YtdddmehchfnppaaGreatDoor
