/- The walks of the writer's more over operators and calls. Conditions: as each theorem says. -/
import Derived.Test.YtmfklpacpjoggaaDoorTrNw
namespace Go.Proofs.YtmfklpacpjoggaaDoor
open Go Go.RowKit Go.Proofs Fl

theorem joinP_len (a b : List Int) : a.length + b.length ≤ (joinP a b).length ∧ (joinP a b).length ≤ a.length + b.length + 1 := by
  unfold joinP; split <;> simp <;> omega

set_option maxRecDepth 100000 in
set_option maxHeartbeats 800000 in
theorem more_16 (w0 : World) (nums : List Nat) (text : List Int) (name : ByteArray) (c : Int) (t0 : RTree) (s0 : List Int) (H0 : Hid (NodeP 17 w0 t0 s0)) :
    NodeP 28 w0 (.mk 16 nums text name c [t0]) (joinP s0 [c]) := by
  intro v0 v1 v2 v3 v4 v5 v6 w g v l ht hb hw hl
  obtain ⟨at1, A1, n1, c1, A2, n2, c2, A, m, cc, rfl, rfl, rfl, rfl, rfl, rfl, rfl, hm, -, hk⟩ := ht.form
  obtain ⟨b, o, u0, u1, u2, u3, u4, u5, u6, rfl, hr0, hc0⟩ := hk.kid0
  obtain rfl : m = 1 := by simpa using hm
  have hb1 := (Below.refl _ w).alloc (Nat.le_refl _) (.cells #[.int .i64 16, .int .i64 at1, .slice A1 n1 c1, .slice A2 n2 c2, .string name, .int .i32 c, .slice (some ⟨b, o, none⟩) 1 cc] 31)
  obtain ⟨ha, hg⟩ := hw.below hb1
  have hjl := joinP_len s0 [c]
  have hj2 := joinP_len l s0
  have hbW := hb.trans (hb1.mono hb.size)
  simp only [List.length_singleton] at hjl
  have HC0 := Lib.hid (H0.out _ _ _ _ _ _ _ _ g v l hr0 hbW ha (by omega))
  have HG := Lib.hid hg
  have HNA := Lib.hid (nodeAt_new hw [.int .i64 16, .int .i64 at1, .slice A1 n1 c1, .slice A2 n2 c2, .string name, .int .i32 c, .slice (some ⟨b, o, none⟩) 1 cc] 31)
  have HLL : Hid ((joinP l s0).length + 1 ≤ 1099511627000) := by unfold Hid; omega
  obtain ⟨y0, y1, y2, y3, y4, y5, y6⟩ := kidC_of hc0 hbW
  clear ht hb hw hl hb1 ha hg H0 hk hr0 hc0 hm hjl hj2 hbW
  go_enter Tryd.func28, Tryd.ntmps28
  go_wp2_with fail
  (with_reducible refine HC0.out.mono ?_)
  rintro e w1 ⟨rfl, v', hw', hg', hb'⟩
  have HW1 := Lib.hid hw'
  have HG1 := Lib.hid (HG.out.trans hg')
  have HN1 := Lib.hid (HNA.out.grew hg')
  have HP := Lib.hid (put_new1 c w1.heap.size rfl hb' hw' HLL.out)
  obtain ⟨x0, x1, x2, x3, x4, x5, x6⟩ := HN1.out.c7
  clear hw' hg' hb' y0 y1 y2 y3 y4 y5 y6
  go_wp2_with fail
  (with_reducible refine HP.out.mono ?_)
  rintro e w2 ⟨rfl, v2, hw2, hg2, hb2⟩
  have HF : Hid (Stepped w0 w g v (joinP l (joinP s0 [c])) w2) := ⟨v2, by rw [← joinP_assoc]; exact hw2, HG1.out.trans hg2, hb2⟩
  clear hw2 hg2 hb2 x0 x1 x2 x3 x4 x5 x6
  go_wp2
  go_end0
  exact ⟨rfl, HF.out⟩

/-- a function of nodes tells something of one tree -/
def TellsT (f : FuncId) (w0 : World) (t : RTree) (b : Bool) : Prop := ∀ v0 v1 v2 v3 v4 v5 v6 w, TN w0 t [v0, v1, v2, v3, v4, v5, v6] → Below w0.heap.size w0 w → Calls Tryd.prog f #[.agg #[v0, v1, v2, v3, v4, v5, v6]] w fun e w' => e = .returned (.bool b) ∧ Below w.heap.size w w'

theorem slashed_13 (w0 : World) (nums : List Nat) (text : List Int) (name : ByteArray) (c : Int) (kids : List RTree) : TellsT 45 w0 (.mk 13 nums text name c kids) (slashB c) := by
  intro v0 v1 v2 v3 v4 v5 v6 w ht _
  obtain ⟨at1, A1, n1, c1, A2, n2, c2, A, m, cc, rfl, rfl, rfl, rfl, rfl, rfl, rfl, -, -, -⟩ := ht.form
  have HS := Lib.hid (slash_walk c)
  have HB : Hid (Below w.heap.size w (w.alloc (.cells #[.int .i64 13, .int .i64 at1, .slice A1 n1 c1, .slice A2 n2 c2, .string name, .int .i32 c, .slice A m cc] 31))) := (Below.refl _ w).alloc (Nat.le_refl _) _
  generalize slashB c = R at *
  clear ht
  go_enter Tryd.func45, Tryd.ntmps45
  go_wp2_with fail
  (with_reducible refine (HS.out _).mono ?_)
  rintro e w1 ⟨rfl, rfl⟩
  go_wp2
  go_ret
  exact ⟨rfl, HB.out⟩

set_option maxRecDepth 100000 in
theorem slashed_16 (w0 : World) (k : Int) (hk16 : k = 16 ∨ k = 17) (nums : List Nat) (text : List Int) (name : ByteArray) (c : Int) (t0 : RTree) (ts : List RTree) (R : Bool) (H0 : Hid (TellsT 45 w0 t0 R)) : TellsT 45 w0 (.mk k nums text name c (t0 :: ts)) R := by
  intro v0 v1 v2 v3 v4 v5 v6 w ht hb
  obtain ⟨at1, A1, n1, c1, A2, n2, c2, A, m, cc, rfl, rfl, rfl, rfl, rfl, rfl, rfl, hm, -, hk⟩ := ht.form
  obtain ⟨b, o, u0, u1, u2, u3, u4, u5, u6, rfl, hr0, hc0⟩ := hk.kid0
  have hm1 : 0 < m := by rw [hm]; simp
  have hb1 := (Below.refl _ w).alloc (Nat.le_refl _) (.cells #[.int .i64 k, .int .i64 at1, .slice A1 n1 c1, .slice A2 n2 c2, .string name, .int .i32 c, .slice (some ⟨b, o, none⟩) m cc] 31)
  have HB := Lib.hid hb1
  have hbW := hb.trans (hb1.mono hb.size)
  have HC := Lib.hid (H0.out _ _ _ _ _ _ _ _ hr0 hbW)
  obtain ⟨y0, y1, y2, y3, y4, y5, y6⟩ := kidC_of hc0 hbW
  clear ht hb hbW hk hr0 hc0 hm hb1 H0
  rcases hk16 with rfl | rfl
  all_goals
    go_enter Tryd.func45, Tryd.ntmps45
    go_wp2_with fail
    (with_reducible refine HC.out.mono ?_)
    rintro e w1 ⟨rfl, hb⟩
    have HB2 := Lib.hid (HB.out.trans (hb.mono HB.out.size))
    clear hb y0 y1 y2 y3 y4 y5 y6
    go_wp2
    go_ret
    exact ⟨rfl, HB2.out⟩

/-- a node without brackets -/
theorem inside_plain (w0 : World) (t : RTree) (s : List Int) (H : Hid (NodeP 17 w0 t s)) : ∀ v0 v1 v2 v3 v4 v5 v6 w g v l, TN w0 t [v0, v1, v2, v3, v4, v5, v6] → Below w0.heap.size w0 w → WSt w w0.heap.size g v l → l.length + 2 * s.length ≤ 1099511627000 →
    Calls Tryd.prog 24 #[.pointer (some ⟨g, 0, none⟩), .agg #[v0, v1, v2, v3, v4, v5, v6], .bool true] w fun e w' => e = .returned (.tuple #[]) ∧ Stepped w0 w g v (joinP l s) w' := by
  intro v0 v1 v2 v3 v4 v5 v6 w g v l ht hb hw hl
  have hb1 := (Below.refl _ w).alloc (Nat.le_refl _) (.cells #[v0, v1, v2, v3, v4, v5, v6] 31)
  obtain ⟨ha, hg⟩ := hw.below hb1
  have HC := Lib.hid (H.out _ _ _ _ _ _ _ _ g v l ht (hb.trans (hb1.mono hb.size)) ha hl)
  have HG := Lib.hid hg
  clear ht hb hw hl hb1 ha hg H
  go_enter Tryd.func24, Tryd.ntmps24
  go_wp2_with fail
  (with_reducible refine HC.out.mono ?_)
  rintro e w1 ⟨rfl, v', hw', hg', hb'⟩
  have HF : Hid (Stepped w0 w g v (joinP l s) w1) := ⟨v', hw', HG.out.trans hg', hb'⟩
  clear hw' hg' hb'
  go_wp2
  exact bodyPost_ret (results_none rfl _ _ _) rfl ⟨rfl, HF.out⟩

/-- what a drawn region in more may lean on -/
def H9 (w0 : World) (g : Nat) (v : Value) (l : List Int) (wa : World) (b1 : Nat) (vs : List Value) (W : World) : Prop := Below w0.heap.size w0 W ∧ WSt W w0.heap.size g v l ∧ Grew g v wa W v ∧ NodeAt W g v b1 vs
/-- the same, behind something written -/
def D9 (w0 : World) (g : Nat) (v : Value) (l : List Int) (wa : World) (b1 : Nat) (vs : List Value) (W : World) : Prop := ∃ v', Below w0.heap.size w0 W ∧ WSt W w0.heap.size g v' l ∧ Grew g v wa W v' ∧ NodeAt W g v' b1 vs
theorem H9.done {w0 wa W W' : World} {g : Nat} {v : Value} {l l' : List Int} {b1 : Nat} {vs : List Value} (h : H9 w0 g v l wa b1 vs W) (k : Stepped w0 W g v l' W') : D9 w0 g v l' wa b1 vs W' := by
  obtain ⟨v', h1, h2, h3⟩ := k
  exact ⟨v', h3, h1, h.2.2.1.trans h2, h.2.2.2.grew h2⟩
theorem H9.step {w0 wa W W' : World} {g : Nat} {v : Value} {l : List Int} {b1 : Nat} {vs : List Value} (h : H9 w0 g v l wa b1 vs W) (hb : Below W.heap.size W W') : H9 w0 g v l wa b1 vs W' := by
  obtain ⟨h1, h2⟩ := h.2.1.below hb
  exact ⟨h.1.trans (hb.mono h.1.size), h1, h.2.2.1.trans h2, h.2.2.2.grew h2⟩

set_option maxRecDepth 100000 in
set_option maxHeartbeats 1600000 in
theorem more_9 (w0 : World) (nums : List Nat) (text : List Int) (name : ByteArray) (c : Int) (t0 t1 : RTree) (s0 s1 : List Int) (H0 : Hid (NodeP 17 w0 t0 s0)) (H1 : Hid (NodeP 17 w0 t1 s1)) (HS : Hid (TellsT 45 w0 t0 false)) (hs0 : s0 ≠ []) (hs1 : s1 ≠ []) :
    NodeP 28 w0 (.mk 9 nums text name c [t0, t1]) (joinP s0 s1) := by
  intro v0 v1 v2 v3 v4 v5 v6 w g v l ht hb hw hl
  obtain ⟨at1, A1, n1, c1, A2, n2, c2, A, m, cc, rfl, rfl, rfl, rfl, rfl, rfl, rfl, hm, -, hk⟩ := ht.form
  obtain ⟨b, o, u0, u1, u2, u3, u4, u5, u6, rfl, hr0, hc0⟩ := hk.kid0
  obtain ⟨p0, p1, p2, p3, p4, p5, p6, hr1, hc1⟩ := hk.kid1
  obtain rfl : m = 2 := by simpa using hm
  have hb1 := (Below.refl _ w).alloc (Nat.le_refl _) (.cells #[.int .i64 9, .int .i64 at1, .slice A1 n1 c1, .slice A2 n2 c2, .string name, .int .i32 c, .slice (some ⟨b, o, none⟩) 2 cc] 31)
  obtain ⟨ha, hg⟩ := hw.below hb1
  have hjl := joinP_len s0 s1
  have hj2 := joinP_len l s0
  have hs1l : 0 < s1.length := List.length_pos_iff.2 hs1
  have hs0l : 0 < s0.length := List.length_pos_iff.2 hs0
  have hbW := hb.trans (hb1.mono hb.size)
  have HI := Lib.hid (inside_plain w0 t0 s0 H0 u0 u1 u2 u3 u4 u5 u6)
  have HNA := nodeAt_new hw [.int .i64 9, .int .i64 at1, .slice A1 n1 c1, .slice A2 n2 c2, .string name, .int .i32 c, .slice (some ⟨b, o, none⟩) 2 cc] 31
  have h9 : H9 w0 g v l w w.heap.size [.int .i64 9, .int .i64 at1, .slice A1 n1 c1, .slice A2 n2 c2, .string name, .int .i32 c, .slice (some ⟨b, o, none⟩) 2 cc] (w.alloc (.cells #[.int .i64 9, .int .i64 at1, .slice A1 n1 c1, .slice A2 n2 c2, .string name, .int .i32 c, .slice (some ⟨b, o, none⟩) 2 cc] 31)) := ⟨hbW, ha, hg, HNA⟩
  have hL0 : l.length + 2 * s0.length ≤ 1099511627000 := by omega
  have HLL : Hid ((joinP l s0).length + 2 * s1.length ≤ 1099511627000) := by unfold Hid; omega
  have HR0 := Lib.hid hr0; have HR1 := Lib.hid hr1; have HK0 := Lib.hid hc0; have HK1 := Lib.hid hc1
  have HI2 : Hid (∀ W, H9 w0 g v l w w.heap.size [.int .i64 9, .int .i64 at1, .slice A1 n1 c1, .slice A2 n2 c2, .string name, .int .i32 c, .slice (some ⟨b, o, none⟩) 2 cc] W → Calls Tryd.prog 24 #[.pointer (some ⟨g, 0, none⟩), .agg #[u0, u1, u2, u3, u4, u5, u6], .bool true] W fun e w' => e = .returned (.tuple #[]) ∧ Stepped w0 W g v (joinP l s0) w') := fun W h => HI.out W g v l hr0 h.1 h.2.1 hL0
  have HSS : Hid (∀ W, H9 w0 g v l w w.heap.size [.int .i64 9, .int .i64 at1, .slice A1 n1 c1, .slice A2 n2 c2, .string name, .int .i32 c, .slice (some ⟨b, o, none⟩) 2 cc] W → Calls Tryd.prog 45 #[.agg #[u0, u1, u2, u3, u4, u5, u6]] W fun e w' => e = .returned (.bool false) ∧ Below W.heap.size W w') := fun W h => HS.out _ _ _ _ _ _ _ W hr0 h.1
  have H9H := Lib.hid h9
  clear ht hb hw hl hb1 ha hg H0 hk hr0 hc0 hr1 hc1 hm hjl hj2 hbW HNA h9 HI HS hs1 hs1l hs0 hs0l hL0
  go_enter Tryd.func28, Tryd.ntmps28
  go_wp2_with fail
  generalize w.alloc (.cells #[.int .i64 9, .int .i64 at1, .slice A1 n1 c1, .slice A2 n2 c2, .string name, .int .i32 c, .slice (some ⟨b, o, none⟩) 2 cc] 31) = W at *
  have hs : ∀ W, H9 w0 g v l w w.heap.size [.int .i64 9, .int .i64 at1, .slice A1 n1 c1, .slice A2 n2 c2, .string name, .int .i32 c, .slice (some ⟨b, o, none⟩) 2 cc] W → W.cell? ⟨w.heap.size, 6, none⟩ = some (.slice (some ⟨b, o, none⟩) 2 cc) ∧ W.cell? ⟨b, o, none⟩ = some u0 ∧ W.cell? ⟨b, o + 1, none⟩ = some u1 ∧ W.cell? ⟨b, o + 2, none⟩ = some u2 ∧ W.cell? ⟨b, o + 3, none⟩ = some u3 ∧ W.cell? ⟨b, o + 4, none⟩ = some u4 ∧ W.cell? ⟨b, o + 5, none⟩ = some u5 ∧ W.cell? ⟨b, o + 6, none⟩ = some u6 := fun W h =>
    ⟨h.2.2.2.c7.2.2.2.2.2.2, (kidC_of HK0.out h.1).1, (kidC_of HK0.out h.1).2.1, (kidC_of HK0.out h.1).2.2.1, (kidC_of HK0.out h.1).2.2.2.1, (kidC_of HK0.out h.1).2.2.2.2.1, (kidC_of HK0.out h.1).2.2.2.2.2.1, (kidC_of HK0.out h.1).2.2.2.2.2.2⟩
  have hs' : ∀ W, D9 w0 g v (joinP l s0) w w.heap.size [.int .i64 9, .int .i64 at1, .slice A1 n1 c1, .slice A2 n2 c2, .string name, .int .i32 c, .slice (some ⟨b, o, none⟩) 2 cc] W → W.cell? ⟨w.heap.size, 6, none⟩ = some (.slice (some ⟨b, o, none⟩) 2 cc) ∧ W.cell? ⟨b, o, none⟩ = some u0 ∧ W.cell? ⟨b, o + 1, none⟩ = some u1 ∧ W.cell? ⟨b, o + 2, none⟩ = some u2 ∧ W.cell? ⟨b, o + 3, none⟩ = some u3 ∧ W.cell? ⟨b, o + 4, none⟩ = some u4 ∧ W.cell? ⟨b, o + 5, none⟩ = some u5 ∧ W.cell? ⟨b, o + 6, none⟩ = some u6 := fun W ⟨_, h⟩ =>
    ⟨h.2.2.2.c7.2.2.2.2.2.2, (kidC_of HK0.out h.1).1, (kidC_of HK0.out h.1).2.1, (kidC_of HK0.out h.1).2.2.1, (kidC_of HK0.out h.1).2.2.2.1, (kidC_of HK0.out h.1).2.2.2.2.1, (kidC_of HK0.out h.1).2.2.2.2.2.1, (kidC_of HK0.out h.1).2.2.2.2.2.2⟩
  have HSA := Lib.hid hs
  have HSD := Lib.hid hs'
  have h9d := H9H.out.step (Below.refl _ W).drew
  have hs1 := hs _ h9d
  clear hs hs'
  go_region_held3 (fun W => W.cell? ⟨w.heap.size, 6, none⟩ = some (.slice (some ⟨b, o, none⟩) 2 cc) ∧ W.cell? ⟨b, o, none⟩ = some u0 ∧ W.cell? ⟨b, o + 1, none⟩ = some u1 ∧ W.cell? ⟨b, o + 2, none⟩ = some u2 ∧ W.cell? ⟨b, o + 3, none⟩ = some u3 ∧ W.cell? ⟨b, o + 4, none⟩ = some u4 ∧ W.cell? ⟨b, o + 5, none⟩ = some u5 ∧ W.cell? ⟨b, o + 6, none⟩ = some u6) (first | assumption | exact hs1) (first | (go_at_call 45; refine (HSS.out _ (by assumption)).mono ?_; rintro e w2 ⟨rfl, hb2⟩; have h92 := (‹H9 _ _ _ _ _ _ _ _›).step hb2; have hs2 := HSA.out _ h92) | (go_at_call 24; refine (HI2.out _ (by assumption)).mono ?_; rintro e w3 ⟨rfl, hst⟩; have h93 := H9.done h92 hst; have hs3 := HSD.out _ h93))
  all_goals
    obtain ⟨v1, hb1, hw1, hg1, hn1⟩ := h93
    have HW1 := Lib.hid hw1
    have HG1 := Lib.hid hg1
    have HN1 := Lib.hid hn1
    have HC1 := Lib.hid (H1.out _ _ _ _ _ _ _ _ g v1 _ HR1.out hb1 hw1 HLL.out)
    obtain ⟨x0, x1, x2, x3, x4, x5, x6⟩ := hn1.c7
    obtain ⟨y0, y1, y2, y3, y4, y5, y6⟩ := kidC_of HK1.out hb1
    clear hb1 hw1 hg1 hn1 hst hs3 hs1 h9d hs2 h92
    go_wp2_with fail
    (with_reducible refine HC1.out.mono ?_)
    rintro e w4 ⟨rfl, v2, hw2, hg2, hb2⟩
    have HF : Hid (Stepped w0 w g v (joinP l (joinP s0 s1)) w4) := ⟨v2, by rw [← joinP_assoc]; exact hw2, HG1.out.trans hg2, hb2⟩
    clear hw2 hg2 hb2 x0 x1 x2 x3 x4 x5 x6 y0 y1 y2 y3 y4 y5 y6
    go_wp2
    go_end0
    exact ⟨rfl, HF.out⟩
end Go.Proofs.YtmfklpacpjoggaaDoor
