/- The walk of the Fold statements' own example. Conditions: as each theorem says. -/
import Derived.Test.YtdddmehchfnppaaDoorAwl
namespace Go.Proofs.YtdddmehchfnppaaDoor
open Go Go.RowKit Go.Proofs Fl

theorem small8_of {n : Nat} {l : Nat → Int} {k : Int} {b : Sl} {bn : Int} {s i f c x : Sl} {H : Nat → Prop} {W : World} (h : Keeps H W (Small8 n l (vecW k b bn s i f c x))) :
    ∃ a c', vecW k b bn s i f c x = vecV 2 vnil 0 (.slice a n c') vnil vnil vnil vnil ∧ Keeps H W fun W' => Reads1 W' (.slice a n c') ((List.range n).map fun j => .int .i8 (l j)) := by
  obtain ⟨s1, e1, h1⟩ := h.now
  obtain ⟨a, c', rfl, _⟩ := reads_at h1
  refine ⟨a, c', e1, h.imp fun W' h2 => ?_⟩
  obtain ⟨s2, e2, h2⟩ := h2
  rw [e1] at e2
  injection e2 with e2
  have := congrArg (fun z : Array Value => z.getD 3 undef) e2
  simp at this
  rw [this]
  exact h2

/-- a Vec of eight-bit numbers and something else are told -/
def Got8 (n : Nat) (l : Nat → Int) (t : Value) (w : World) (e : Ending) (w' : World) : Prop :=
  ∃ a c, e = .returned (.tuple #[vecV 2 vnil 0 (.slice a n c) vnil vnil vnil vnil, t]) ∧ Reads1 w' (.slice a n c) ((List.range n).map fun j => .int .i8 (l j)) ∧ Below w.heap.size w w'
theorem got8_vec2 {n : Nat} {l : Nat → Int} {H : Nat → Prop} {w : World} (e : Ending) (w' : World) (h : Vec2R H w (Small8 n l) e w') : Got8 n l (.bool true) w e w' := by
  obtain ⟨k, b, bn, s, i, f, c, x, rfl, hk, hb⟩ := h
  obtain ⟨a, c', e1, h1⟩ := small8_of hk
  exact ⟨a, c', by rw [e1], h1.now, hb⟩
theorem got8_ok {n : Nat} {l : Nat → Int} {H : Nat → Prop} {w : World} (e : Ending) (w' : World) (h : VecOk H w (Small8 n l) e w') : Got8 n l (.int .i64 0) w e w' := by
  obtain ⟨k, b, bn, s, i, f, c, x, rfl, hk, hb⟩ := h
  obtain ⟨a, c', e1, h1⟩ := small8_of hk
  exact ⟨a, c', by rw [e1], h1.now, hb⟩

/-- kept at whole numbers that fit eight bits -/
theorem kept_small (v : Value) (n : Nat) (l : Nat → Int) (w : World) (hn : n ≤ 1000000) (h0 : 0 < n) (hr : Reads1 w v ((List.range n).map fun j => .float .f64 (fi (l j)))) (hl : ∀ j, j < n → -128 ≤ l j ∧ l j ≤ 127) :
    Calls Tryd.prog 9 #[v, .int .i64 2] w (Got8 n l (.bool true) w) := by
  obtain ⟨a, c, rfl, hc⟩ := reads_at hr
  obtain ⟨b, o, rfl, _⟩ := hc 0 h0
  have hg : ∀ j, j < n → Good (l j) := fun j hj => by have := hl j hj; exact ⟨by omega, by omega⟩
  refine (kept_yes (fun _ => False) (Small8 n l) (fun W s => Reads1 W (.slice s.1 s.2.1 s.2.2) ((List.range n).map fun j => .float .f64 (fi (l j)))) _ 2 w (fun W W' s h hb => h.below hb) (fun W hb => ?_) (fun W s hb hp => ?_)).mono got8_vec2
  · refine (floats_walk b o n c (fun i => fi (l i)) (fun i => fi (l i)) hn W (fun i hi => ?_) (fun i hi W' => tidy_fi _ (hg i hi) W')).mono ?_
    · obtain ⟨b', o', e, hcell⟩ := hc i hi
      injection e with e
      injection e with e1 e2 _
      subst e1; subst e2
      rw [hb.cell (cell_lt hcell)]
      exact hcell
    · rintro e w' ⟨u, rfl, ho, hb2⟩
      obtain ⟨a, m, c', rfl⟩ : ∃ a m c', u = .slice a m c' := by obtain ⟨a, c, e⟩ := ho.reads.len; exact ⟨a, _, c, e⟩
      exact ⟨(a, m, c'), rfl, ho.reads, hb2⟩
  · exact into_small _ w W (fun _ e => e.elim) hb 4 (by decide) (by decide) _ _ _ _ _ _ _ n l (wholesOf_floats hp hg) (fun w' _ => class_4 _ _ _ _ _ _ _ _) hn hl

/-- the numbers of a Vec of eight-bit numbers are the same as a row of floats -/
theorem nums_small (a : Option Addr) (c n : Nat) (l : Nat → Int) (w : World) (hn : n ≤ 1000000) (hr : Reads1 w (.slice a n c) ((List.range n).map fun j => .int .i8 (l j))) (hl : ∀ j, j < n → -128 ≤ l j ∧ l j ≤ 127) :
    Calls Tryd.prog 13 #[vecV 2 vnil 0 (.slice a n c) vnil vnil vnil vnil] w fun e w' => ∃ v, e = .returned v ∧ Reads1 w' v ((List.range n).map fun j => .float .f64 (fi (l j))) ∧ Below w.heap.size w w' := by
  have hv : VR w (vecV 2 vnil 0 (.slice a n c) vnil vnil vnil vnil) (.small ((List.range n).map l)) := Small8.vr ⟨_, rfl, hr⟩ hl
  have h1 := numsOf_small hv
  rw [List.length_map, List.length_range] at h1
  refine (nums_walk 2 vnil 0 (.slice a n c) vnil vnil vnil vnil n _ w h1 hn).mono ?_
  rintro e w' ⟨v, rfl, ho, hb⟩
  refine ⟨v, rfl, ?_, hb⟩
  have := ho.reads
  have e2 : ((List.range n).map fun j => Value.float .f64 (floatOfInt .f64 (((List.range n).map l).getD j 0))) = (List.range n).map fun j => .float .f64 (fi (l j)) := by
    apply List.map_congr_left
    intro j hj
    have := List.mem_range.1 hj
    simp [List.getD, this, fi]
  rw [e2] at this
  exact this

theorem same_fi (va vb : Value) (n : Nat) (l : Nat → Int) (w : World) (ha : Reads1 w va ((List.range n).map fun j => .float .f64 (fi (l j)))) (hb : Reads1 w vb ((List.range n).map fun j => .float .f64 (fi (l j)))) (hn : n ≤ 1000000) (hg : ∀ j, j < n → Good (l j)) :
    Calls Tryd.prog 12 #[va, vb] w fun e w' => e = .returned (.bool true) ∧ Below w.heap.size w w' :=
  same_walk va vb n _ w ha hb hn fun i hi W => bits_fi _ (hg i hi) W

/-- a new row of floats reads as whole numbers -/
theorem new_reads (w : World) (xs : List Int) (cs : Array Value) (e : TypeId) (h : cs = (xs.map fun z => Value.float .f64 (fi z)).toArray) :
    Reads1 (w.alloc (.cells cs e)) (.slice (some ⟨w.heap.size, 0, none⟩) xs.length xs.length) ((List.range xs.length).map fun j => .float .f64 (fi (xs.getD j 0))) := by
  refine .inr ⟨w.heap.size, 0, _, _, rfl, by simp, fun i hi => ?_⟩
  have hi' : i < xs.length := by simpa using hi
  rw [cell_of_row _ w.heap.size (0 + i) cs e (0, 0) (heap_alloc_new w _), h]
  simp [List.getD, hi']

theorem fi_1 : (4607182418800017408 : Nat) = fi 1 := by decide +kernel
theorem fi_2 : (4611686018427387904 : Nat) = fi 2 := by decide +kernel
theorem fi_3 : (4613937818241073152 : Nat) = fi 3 := by decide +kernel
theorem fi_4 : (4616189618054758400 : Nat) = fi 4 := by decide +kernel
theorem fi_10 : (4621819117588971520 : Nat) = fi 10 := by decide +kernel
theorem fi_n1 : (13830554455654793216 : Nat) = fi (-1) := by decide +kernel
end Go.Proofs.YtdddmehchfnppaaDoor
