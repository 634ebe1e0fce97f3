/- The walk of the law TreeSame. Conditions: at most 1048576 nodes, numbers and signs in each. -/
import Derived.Test.YtmfklpacpjoggaaDoorTrOi
import Derived.Test.YtmfklpacpjoggaaDoorTrAw
import Derived.Test.YtmfklpacpjoggaaDoorTrSq
import Derived.Deep.DeepCutAuto
import Derived.Deep.CutBlock
namespace Go.Proofs.YtmfklpacpjoggaaDoor
open Go Go.RowKit Go.Proofs Fl

theorem RN.shape {w : World} {t : RTree} {v0 v1 v2 v3 v4 v5 : Value} (h : RN w t [v0, v1, v2, v3, v4, v5]) : ∃ (k c : Int) (name : ByteArray) (A1 A2 A3 : Option Addr) (n1 c1 n2 c2 n3 c3 : Nat), v0 = .int .i64 k ∧ v1 = .slice A1 n1 c1 ∧ v2 = .slice A2 n2 c2 ∧ v3 = .string name ∧ v4 = .int .i32 c ∧ v5 = .slice A3 n3 c3 := by
  cases t with
  | mk k nums text name c kids =>
    obtain ⟨nv, tv, A, cc, m, hvs, hrn, hrt, _, _⟩ := h.open_
    simp only [List.cons.injEq, and_true] at hvs
    obtain ⟨rfl, rfl, rfl, rfl, rfl, rfl⟩ := hvs
    obtain ⟨A1, c1, n1, rfl, _, _⟩ := hrn.opn
    obtain ⟨A2, c2, n2, rfl, _, _⟩ := hrt.opn
    exact ⟨k, c, name, A1, A2, A, n1, c1, n2, c2, m, cc, rfl, rfl, rfl, rfl, rfl, rfl⟩

theorem allEq_comm {α : Type} {p : α → α → Bool} (h : ∀ x y, p x y = p y x) : ∀ a b : List α, allEq p a b = allEq p b a
  | [], [] => rfl
  | [], _ :: _ => rfl
  | _ :: _, [] => rfl
  | x :: xs, y :: ys => by rw [allEq, allEq, h x y, allEq_comm h xs ys]

mutual
theorem sameR_comm : ∀ a b : RTree, sameR a b = sameR b a
  | .mk k nums text name c kids, .mk k' nums' text' name' c' kids' => by
    rw [sameR, sameR, sameRs_comm kids kids']
    have e1 : decide (k = k') = decide (k' = k) := decide_eq_decide.2 eq_comm
    have e2 : decide (name = name') = decide (name' = name) := decide_eq_decide.2 eq_comm
    have e3 : decide (c = c') = decide (c' = c) := decide_eq_decide.2 eq_comm
    have e4 : allEq feqB nums nums' = allEq feqB nums' nums := allEq_comm feq_comm _ _
    have e5 : allEq ieqB text text' = allEq ieqB text' text := allEq_comm ieq_comm _ _
    rw [e1, e2, e3, e4, e5]
theorem sameRs_comm : ∀ a b : List RTree, sameRs a b = sameRs b a
  | [], [] => rfl
  | [], _ :: _ => by simp [sameRs]
  | _ :: _, [] => by simp [sameRs]
  | a :: ra, b :: rb => by rw [sameRs, sameRs, sameR_comm a b, sameRs_comm ra rb]
end

/-- both arguments boxed -/
structure Bx2 (w W : World) (xs ys : List Value) : Prop where
  below : Below w.heap.size w W
  sz : w.heap.size + 2 ≤ W.heap.size
  ca : ∀ j, W.cell? ⟨w.heap.size, j, none⟩ = xs[j]?
  cb : ∀ j, W.cell? ⟨w.heap.size + 1, j, none⟩ = ys[j]?
theorem Bx2.start (w : World) (xs ys : List Value) (T : TypeId) : Bx2 w ((w.alloc (.cells xs.toArray T)).alloc (.cells ys.toArray T)) xs ys := by
  refine ⟨((Below.refl _ w).alloc (Nat.le_refl _) _).alloc (by simp) _, by simp, fun j => ?_, fun j => ?_⟩
  · rw [World.cell?_alloc_past _ _ _ (by simp), World.cell?_alloc_at _ _ _ _ rfl]; simp
  · rw [World.cell?_alloc_at _ _ _ _ (by simp)]; simp
theorem Bx2.step {w W W' : World} {xs ys : List Value} (h : Bx2 w W xs ys) (hb : Below W.heap.size W W') : Bx2 w W' xs ys := by
  have hz := h.sz
  refine ⟨h.below.trans (hb.mono h.below.size), by have := hb.size; omega, fun j => ?_, fun j => ?_⟩
  · rw [hb.cell (p := ⟨w.heap.size, j, none⟩) (by simp; omega)]; exact h.ca j
  · rw [hb.cell (p := ⟨w.heap.size + 1, j, none⟩) (by simp; omega)]; exact h.cb j
theorem Bx2.c6 {w W : World} {x0 x1 x2 x3 x4 x5 y0 y1 y2 y3 y4 y5 : Value} (h : Bx2 w W [x0, x1, x2, x3, x4, x5] [y0, y1, y2, y3, y4, y5]) :
    (W.cell? ⟨w.heap.size, 0, none⟩ = some x0 ∧ W.cell? ⟨w.heap.size, 1, none⟩ = some x1 ∧ W.cell? ⟨w.heap.size, 2, none⟩ = some x2 ∧ W.cell? ⟨w.heap.size, 3, none⟩ = some x3 ∧ W.cell? ⟨w.heap.size, 4, none⟩ = some x4 ∧ W.cell? ⟨w.heap.size, 5, none⟩ = some x5) ∧
    (W.cell? ⟨w.heap.size + 1, 0, none⟩ = some y0 ∧ W.cell? ⟨w.heap.size + 1, 1, none⟩ = some y1 ∧ W.cell? ⟨w.heap.size + 1, 2, none⟩ = some y2 ∧ W.cell? ⟨w.heap.size + 1, 3, none⟩ = some y3 ∧ W.cell? ⟨w.heap.size + 1, 4, none⟩ = some y4 ∧ W.cell? ⟨w.heap.size + 1, 5, none⟩ = some y5) :=
  ⟨⟨h.ca 0, h.ca 1, h.ca 2, h.ca 3, h.ca 4, h.ca 5⟩, ⟨h.cb 0, h.cb 1, h.cb 2, h.cb 3, h.cb 4, h.cb 5⟩⟩

theorem Bx2.of_s {w W : World} {xs ys : List Value} {P Q : Prop} (h : P ∧ Q ∧ Bx2 w W xs ys) : Bx2 w W xs ys := h.2.2
theorem Bx2.s {w W : World} {x0 x1 x2 x3 x4 x5 y0 y1 y2 y3 y4 y5 : Value} (h : Bx2 w W [x0, x1, x2, x3, x4, x5] [y0, y1, y2, y3, y4, y5]) :
    (W.cell? ⟨w.heap.size, 0, none⟩ = some x0 ∧ W.cell? ⟨w.heap.size, 1, none⟩ = some x1 ∧ W.cell? ⟨w.heap.size, 2, none⟩ = some x2 ∧ W.cell? ⟨w.heap.size, 3, none⟩ = some x3 ∧ W.cell? ⟨w.heap.size, 4, none⟩ = some x4 ∧ W.cell? ⟨w.heap.size, 5, none⟩ = some x5) ∧
    (W.cell? ⟨w.heap.size + 1, 0, none⟩ = some y0 ∧ W.cell? ⟨w.heap.size + 1, 1, none⟩ = some y1 ∧ W.cell? ⟨w.heap.size + 1, 2, none⟩ = some y2 ∧ W.cell? ⟨w.heap.size + 1, 3, none⟩ = some y3 ∧ W.cell? ⟨w.heap.size + 1, 4, none⟩ = some y4 ∧ W.cell? ⟨w.heap.size + 1, 5, none⟩ = some y5) ∧ Bx2 w W [x0, x1, x2, x3, x4, x5] [y0, y1, y2, y3, y4, y5] := ⟨h.c6.1, h.c6.2, h⟩
theorem Bx2.alloc {w W : World} {xs ys : List Value} (h : Bx2 w W xs ys) (o : Obj) : Bx2 w (W.alloc o) xs ys := h.step ((Below.refl _ W).alloc (Nat.le_refl _) o)
theorem Bx2.drew {w W : World} {xs ys : List Value} (h : Bx2 w W xs ys) : Bx2 w W.drew xs ys := h.step (Below.refl _ W).drew
theorem Bx2.set {w W : World} {xs ys : List Value} (h : Bx2 w W xs ys) {b j : Nat} (hb : w.heap.size + 2 ≤ b) (v : Value) : Bx2 w (W.setCell ⟨b, j, none⟩ v) xs ys := by
  have k : ∀ i, i < w.heap.size + 2 → (W.setCell ⟨b, j, none⟩ v).heap[i]? = W.heap[i]? := fun i hi => Below.heap_setCell _ _ _ _ (by simp; omega)
  refine ⟨h.below.setCell (by simp; omega) _, by have := h.sz; simpa [World.setCell] using this, fun i => ?_, fun i => ?_⟩
  · rw [World.cell?_of_block (a := ⟨w.heap.size, i, none⟩) (k _ (by simp))]; exact h.ca i
  · rw [World.cell?_of_block (a := ⟨w.heap.size + 1, i, none⟩) (k _ (by simp))]; exact h.cb i
theorem sz1 {w : World} {o : Obj} {n : Nat} (h : (w.alloc o).heap.size ≤ n) : w.heap.size < n := by simp at h; omega
theorem sz2 {w : World} {o o' : Obj} {n : Nat} (h : ((w.alloc o).alloc o').heap.size ≤ n) : w.heap.size + 1 < n := by simp at h; omega
theorem bcell2 {W w1 : World} (hb : Below W.heap.size W w1) : (∀ b o, b < W.heap.size → w1.cell? ⟨b, o, none⟩ = W.cell? ⟨b, o, none⟩) ∧ (∀ b o, b < W.heap.size → w1.frozen? ⟨b, o, none⟩ = W.frozen? ⟨b, o, none⟩) :=
  ⟨fun b o h => hb.cell (p := ⟨b, o, none⟩) h, fun b o h => hb.frozen (p := ⟨b, o, none⟩) h⟩

/-- two variables made and filled, and nothing else turned -/
structure Done8 (w4 wx : World) (b7 b8 : Nat) (ua ub : List Value) : Prop where
  b0 : Below 0 w4 wx
  keep : ∀ b, b < w4.heap.size → b ≠ b7 → b ≠ b8 → wx.heap[b]? = w4.heap[b]?
  c7 : ∀ j, wx.cell? ⟨b7, j, none⟩ = ua[j]?
  f7 : ∀ j, wx.frozen? ⟨b7, j, none⟩ = false
  c8 : ∀ j, wx.cell? ⟨b8, j, none⟩ = ub[j]?
  f8 : ∀ j, wx.frozen? ⟨b8, j, none⟩ = false
  lt7 : b7 < wx.heap.size
  lt8 : b8 < wx.heap.size
  ne : b7 ≠ b8
theorem Done8.swap {w4 wx : World} {b7 b8 : Nat} {ua ub : List Value} (h : Done8 w4 wx b7 b8 ua ub) : Done8 w4 wx b8 b7 ub ua := ⟨h.b0, fun b h1 h2 h3 => h.keep b h1 h3 h2, h.c8, h.f8, h.c7, h.f7, h.lt8, h.lt7, fun e => h.ne e.symm⟩
theorem done_aa (w4 : World) (ua ub : List Value) (T T' : TypeId) : Done8 w4 ((w4.alloc (.cells ua.toArray T)).alloc (.cells ub.toArray T')) w4.heap.size (w4.heap.size + 1) ua ub := by
  refine ⟨((Below.refl _ _).alloc (Nat.zero_le _) _).alloc (Nat.zero_le _) _, fun b h1 _ _ => ?_, fun j => ?_, fun j => ?_, fun j => ?_, fun j => ?_, by simp; omega, by simp, by omega⟩
  · rw [heap_alloc_old _ _ (by simp; omega), heap_alloc_old _ _ h1]
  · rw [World.cell?_alloc_past _ _ _ (by simp), World.cell?_alloc_at _ _ _ _ rfl]; simp
  · rw [World.frozen?_alloc_past _ _ _ (by simp), World.frozen?_alloc_at _ _ _ _ rfl]
  · rw [World.cell?_alloc_at _ _ _ _ (by simp)]; simp
  · rw [World.frozen?_alloc_at _ _ _ _ (by simp)]
/-- seven cells that may be written -/
def Seven (w : World) (R : Nat) : Prop := ∃ z0 z1 z2 z3 z4 z5 z6, ∀ j, w.cell? ⟨R, j, none⟩ = [z0, z1, z2, z3, z4, z5, z6][j]?
theorem set7_at (w : World) (R : Nat) (u0 u1 u2 u3 u4 u5 u6 : Value) (h : Seven w R) : ∀ j, (set7 w R u0 u1 u2 u3 u4 u5 u6).cell? ⟨R, j, none⟩ = [u0, u1, u2, u3, u4, u5, u6][j]? := by
  obtain ⟨z0, z1, z2, z3, z4, z5, z6, hz⟩ := h
  obtain ⟨q0, q1, q2, q3, q4, q5, q6⟩ := set7_cells w R u0 u1 u2 u3 u4 u5 u6 (fun j hj => by
    rw [hz]
    rcases (show j = 0 ∨ j = 1 ∨ j = 2 ∨ j = 3 ∨ j = 4 ∨ j = 5 ∨ j = 6 by omega) with rfl | rfl | rfl | rfl | rfl | rfl | rfl
    all_goals exact ⟨_, rfl⟩)
  intro j
  rcases (show j = 0 ∨ j = 1 ∨ j = 2 ∨ j = 3 ∨ j = 4 ∨ j = 5 ∨ j = 6 ∨ 7 ≤ j by omega) with rfl | rfl | rfl | rfl | rfl | rfl | rfl | h
  · exact q0
  · exact q1
  · exact q2
  · exact q3
  · exact q4
  · exact q5
  · exact q6
  · have o : ∀ (w : World) (i : Nat) (u : Value), i < 7 → (w.setCell ⟨R, i, none⟩ u).cell? ⟨R, j, none⟩ = w.cell? ⟨R, j, none⟩ := fun w i u hi => World.cell?_setCell_other w _ _ _ (fun e => by injection e; omega)
    unfold set7
    rw [o _ 6 _ (by omega), o _ 5 _ (by omega), o _ 4 _ (by omega), o _ 3 _ (by omega), o _ 2 _ (by omega), o _ 1 _ (by omega), o _ 0 _ (by omega), hz, List.getElem?_eq_none (by simpa using h), List.getElem?_eq_none (by simpa using h)]
theorem set7_frozen (w : World) (R : Nat) (u0 u1 u2 u3 u4 u5 u6 : Value) (a : Addr) : (set7 w R u0 u1 u2 u3 u4 u5 u6).frozen? a = w.frozen? a := by
  unfold set7; simp only [World.frozen?_setCell]
theorem set7_b0 (w : World) (R : Nat) (u0 u1 u2 u3 u4 u5 u6 : Value) : Below 0 w (set7 w R u0 u1 u2 u3 u4 u5 u6) :=
  (((((((Below.refl 0 w).setCell (Nat.zero_le _) _).setCell (Nat.zero_le _) _).setCell (Nat.zero_le _) _).setCell (Nat.zero_le _) _).setCell (Nat.zero_le _) _).setCell (Nat.zero_le _) _).setCell (Nat.zero_le _) _
theorem done_sa (w4 : World) (R : Nat) (hR : R < w4.heap.size) (h7 : Seven w4 R) (hf : ∀ j, w4.frozen? ⟨R, j, none⟩ = false) (u0 u1 u2 u3 u4 u5 u6 : Value) (ub : List Value) (T : TypeId) :
    Done8 w4 ((set7 w4 R u0 u1 u2 u3 u4 u5 u6).alloc (.cells ub.toArray T)) R w4.heap.size [u0, u1, u2, u3, u4, u5, u6] ub := by
  have hz := set7_size w4 R u0 u1 u2 u3 u4 u5 u6
  refine ⟨(set7_b0 _ _ _ _ _ _ _ _ _).alloc (Nat.zero_le _) _, fun b h1 h2 _ => ?_, fun j => ?_, fun j => ?_, fun j => ?_, fun j => ?_, by simp [hz]; omega, by simp [hz], by omega⟩
  · rw [heap_alloc_old _ _ (by omega), set7_block _ _ _ _ _ _ _ _ _ _ h2]
  · rw [World.cell?_alloc_past _ _ _ (by simp [hz]; omega)]; exact set7_at w4 R _ _ _ _ _ _ _ h7 j
  · rw [World.frozen?_alloc_past _ _ _ (by simp [hz]; omega), set7_frozen]; exact hf j
  · rw [World.cell?_alloc_at _ _ _ _ hz.symm]; simp
  · rw [World.frozen?_alloc_at _ _ _ _ hz.symm]
theorem done_ss (w4 : World) (R R' : Nat) (hne : R ≠ R') (hR : R < w4.heap.size) (hR' : R' < w4.heap.size) (h7 : Seven w4 R) (h7' : Seven w4 R') (hf : ∀ j, w4.frozen? ⟨R, j, none⟩ = false) (hf' : ∀ j, w4.frozen? ⟨R', j, none⟩ = false) (u0 u1 u2 u3 u4 u5 u6 t0 t1 t2 t3 t4 t5 t6 : Value) :
    Done8 w4 (set7 (set7 w4 R u0 u1 u2 u3 u4 u5 u6) R' t0 t1 t2 t3 t4 t5 t6) R R' [u0, u1, u2, u3, u4, u5, u6] [t0, t1, t2, t3, t4, t5, t6] := by
  have cb : ∀ j, (set7 w4 R u0 u1 u2 u3 u4 u5 u6).cell? ⟨R', j, none⟩ = w4.cell? ⟨R', j, none⟩ := fun j => World.cell?_of_block (a := ⟨R', j, none⟩) (set7_block _ _ _ _ _ _ _ _ _ _ (fun e => hne e.symm))
  refine ⟨(set7_b0 _ _ _ _ _ _ _ _ _).trans (set7_b0 _ _ _ _ _ _ _ _ _), fun b _ h2 h3 => ?_, fun j => ?_, fun j => ?_, fun j => ?_, fun j => ?_, by rw [set7_size, set7_size]; exact hR, by rw [set7_size, set7_size]; exact hR', hne⟩
  · rw [set7_block _ _ _ _ _ _ _ _ _ _ h3, set7_block _ _ _ _ _ _ _ _ _ _ h2]
  · rw [World.cell?_of_block (a := ⟨R, j, none⟩) (set7_block _ _ _ _ _ _ _ _ _ _ hne)]; exact set7_at w4 R _ _ _ _ _ _ _ h7 j
  · rw [set7_frozen, set7_frozen]; exact hf j
  · refine set7_at _ R' _ _ _ _ _ _ _ ?_ j
    obtain ⟨z0, z1, z2, z3, z4, z5, z6, hz⟩ := h7'
    exact ⟨z0, z1, z2, z3, z4, z5, z6, fun j => by rw [cb]; exact hz j⟩
  · rw [set7_frozen, set7_frozen]; exact hf' j

/-- a variable that may be filled -/
def SV (w : World) (R : Nat) : Prop := Seven w R ∧ (∀ j, w.frozen? ⟨R, j, none⟩ = false) ∧ R < w.heap.size
theorem SV.new (X : World) (R : Nat) (h : R = X.heap.size) (z0 z1 z2 z3 z4 z5 z6 : Value) (T : TypeId) : SV (X.alloc (.cells #[z0, z1, z2, z3, z4, z5, z6] T)) R := by
  subst h
  exact ⟨⟨z0, z1, z2, z3, z4, z5, z6, fun j => by rw [World.cell?_alloc_at _ _ _ _ rfl]; simp⟩, fun j => by rw [World.frozen?_alloc_at _ _ _ _ rfl], by simp⟩
theorem SV.new0 (X : World) (z0 z1 z2 z3 z4 z5 z6 : Value) (T : TypeId) : SV (X.alloc (.cells #[z0, z1, z2, z3, z4, z5, z6] T)) X.heap.size := SV.new X _ rfl _ _ _ _ _ _ _ _
theorem SV.new1 (X : World) (o : Obj) (z0 z1 z2 z3 z4 z5 z6 : Value) (T : TypeId) : SV ((X.alloc o).alloc (.cells #[z0, z1, z2, z3, z4, z5, z6] T)) (X.heap.size + 1) := SV.new _ _ (by simp) _ _ _ _ _ _ _ _
theorem SV.below {X W : World} {R : Nat} (h : SV X R) (hb : Below X.heap.size X W) : SV W R := by
  obtain ⟨⟨z0, z1, z2, z3, z4, z5, z6, hz⟩, hf, hlt⟩ := h
  exact ⟨⟨z0, z1, z2, z3, z4, z5, z6, fun j => by rw [hb.cell (p := ⟨R, j, none⟩) hlt]; exact hz j⟩, fun j => by rw [hb.frozen (p := ⟨R, j, none⟩) hlt]; exact hf j, by have := hb.size; omega⟩
theorem SV.past {X : World} {R : Nat} (h : SV X R) (o : Obj) : SV (X.alloc o) R := h.below ((Below.refl _ X).alloc (Nat.le_refl _) o)
theorem SV.drew {X : World} {R : Nat} (h : SV X R) : SV X.drew R := h.below (Below.refl _ X).drew
abbrev set7r (w : World) (R : Nat) (u0 u1 u2 u3 u4 u5 u6 : Value) : World :=
  ((((((w.setCell ⟨R, 0, none⟩ u0).setCell ⟨R, 1, none⟩ u1).setCell ⟨R, 2, none⟩ u2).setCell ⟨R, 3, none⟩ u3).setCell ⟨R, 4, none⟩ u4).setCell ⟨R, 5, none⟩ u5).setCell ⟨R, 6, none⟩ u6
theorem done_sa' {w4 : World} {R : Nat} (h : SV w4 R) (u0 u1 u2 u3 u4 u5 u6 : Value) (ub : List Value) (T : TypeId) : Done8 w4 ((set7r w4 R u0 u1 u2 u3 u4 u5 u6).alloc (.cells ub.toArray T)) R w4.heap.size [u0, u1, u2, u3, u4, u5, u6] ub := done_sa w4 R h.2.2 h.1 h.2.1 _ _ _ _ _ _ _ _ _
theorem done_ss' {w4 : World} {R R' : Nat} (hne : R ≠ R') (h : SV w4 R) (h' : SV w4 R') (u0 u1 u2 u3 u4 u5 u6 t0 t1 t2 t3 t4 t5 t6 : Value) : Done8 w4 (set7r (set7r w4 R u0 u1 u2 u3 u4 u5 u6) R' t0 t1 t2 t3 t4 t5 t6) R R' [u0, u1, u2, u3, u4, u5, u6] [t0, t1, t2, t3, t4, t5, t6] := done_ss w4 R R' hne h.2.2 h'.2.2 h.1 h'.1 h.2.1 h'.2.1 _ _ _ _ _ _ _ _ _ _ _ _ _ _

/-- both trees made, each in a variable of its own -/
structure MadeW (w wx : World) (b7 b8 : Nat) (ua ub : List Value) (ta tb : RTree) (xs ys : List Value) : Prop where
  bx : Bx2 w wx xs ys
  lo7 : w.heap.size + 2 ≤ b7
  lo8 : w.heap.size + 2 ≤ b8
  lt7 : b7 < wx.heap.size
  lt8 : b8 < wx.heap.size
  ne : b7 ≠ b8
  c7 : ∀ j, wx.cell? ⟨b7, j, none⟩ = ua[j]?
  f7 : ∀ j, wx.frozen? ⟨b7, j, none⟩ = false
  c8 : ∀ j, wx.cell? ⟨b8, j, none⟩ = ub[j]?
  ta : TNF (fun b => b ≠ b7 ∧ b ≠ b8 ∧ b < wx.heap.size) wx ta ua
  tb : TNF (fun b => b ≠ b7 ∧ b ≠ b8 ∧ b < wx.heap.size) wx tb ub
theorem made_of {w w3 w4 wx : World} {b7 b8 : Nat} {ua ub : List Value} {ta tb : RTree} {xs ys : List Value} (hd : Done8 w4 wx b7 b8 ua ub) (hx : Bx2 w w4 xs ys) (lo7 : w.heap.size + 2 ≤ b7) (lo8 : w.heap.size + 2 ≤ b8) {Fa Fb : Nat → Prop} (hta : TNF Fa w3 ta ua) (htb : TNF Fb w4 tb ub)
    (k34 : ∀ b, b < w3.heap.size → w4.heap[b]? = w3.heap[b]?) (h34 : w3.heap.size ≤ w4.heap.size) (hFa : ∀ b, Fa b → b ≠ b7 ∧ b ≠ b8 ∧ b < w3.heap.size) (hFb : ∀ b, Fb b → b ≠ b7 ∧ b ≠ b8 ∧ b < w4.heap.size) : MadeW w wx b7 b8 ua ub ta tb xs ys := by
  have hsz := hd.b0.size
  have hz := hx.sz
  have kb : ∀ b, b < w.heap.size + 2 → wx.heap[b]? = w4.heap[b]? := fun b hb => hd.keep b (by omega) (by omega) (by omega)
  refine ⟨⟨?_, by omega, fun j => ?_, fun j => ?_⟩, lo7, lo8, hd.lt7, hd.lt8, hd.ne, hd.c7, hd.f7, hd.c8, ?_, ?_⟩
  · exact ⟨hd.b0.os.trans hx.below.os, hd.b0.tape.trans hx.below.tape, hd.b0.output.trans hx.below.output, by have := hx.below.size; omega, fun b hb => by rw [kb b (by omega)]; exact hx.below.block b hb⟩
  · rw [World.cell?_of_block (a := ⟨w.heap.size, j, none⟩) (kb _ (by simp))]; exact hx.ca j
  · rw [World.cell?_of_block (a := ⟨w.heap.size + 1, j, none⟩) (kb _ (by simp))]; exact hx.cb j
  · exact TNF.keep (fun b hb => ⟨(hFa b hb).1, (hFa b hb).2.1, by have := (hFa b hb).2.2; omega⟩) (fun b hb => by rw [hd.keep b (by have := (hFa b hb).2.2; omega) (hFa b hb).1 (hFa b hb).2.1]; exact k34 b (hFa b hb).2.2) _ _ hta
  · exact TNF.keep (fun b hb => ⟨(hFb b hb).1, (hFb b hb).2.1, by have := (hFb b hb).2.2; omega⟩) (fun b hb => hd.keep b (hFb b hb).2.2 (hFb b hb).1 (hFb b hb).2.1) _ _ htb
/-- what the first drawn region leaves -/
def Made (w : World) (ta tb : RTree) (xs ys : List Value) (x y : Value) (wx : World) : Prop := ∃ (b7 b8 : Nat) (k a c : Int) (name : ByteArray) (P1 P2 P3 : Option Addr) (p1 q1 p2 q2 p3 q3 : Nat) (k' a' c' : Int) (name' : ByteArray) (Q1 Q2 Q3 : Option Addr) (r1 s1 r2 s2 r3 s3 : Nat),
  x = .pointer (some ⟨b7, 0, none⟩) ∧ y = .pointer (some ⟨b8, 0, none⟩) ∧ MadeW w wx b7 b8 [.int .i64 k, .int .i64 a, .slice P1 p1 q1, .slice P2 p2 q2, .string name, .int .i32 c, .slice P3 p3 q3] [.int .i64 k', .int .i64 a', .slice Q1 r1 s1, .slice Q2 r2 s2, .string name', .int .i32 c', .slice Q3 r3 s3] ta tb xs ys

/-- what the second drawn region leans on -/
structure J5 (w W : World) (b7 b8 : Nat) (ua ub : List Value) (ta tb : RTree) (xs ys : List Value) : Prop where
  bx : Bx2 w W xs ys
  lt7 : b7 < W.heap.size
  lt8 : b8 < W.heap.size
  c7 : ∀ j, W.cell? ⟨b7, j, none⟩ = ua[j]?
  c8 : ∀ j, W.cell? ⟨b8, j, none⟩ = ub[j]?
  ta : TN W ta ua
  tb : TN W tb ub
theorem J5.step {w W W' : World} {b7 b8 : Nat} {ua ub : List Value} {ta tb : RTree} {xs ys : List Value} (h : J5 w W b7 b8 ua ub ta tb xs ys) (hb : Below W.heap.size W W') : J5 w W' b7 b8 ua ub ta tb xs ys := by
  have hz := hb.size
  have h1 := h.lt7
  have h2 := h.lt8
  exact ⟨h.bx.step hb, by omega, by omega, fun j => by rw [hb.cell (p := ⟨b7, j, none⟩) h.lt7]; exact h.c7 j, fun j => by rw [hb.cell (p := ⟨b8, j, none⟩) h.lt8]; exact h.c8 j, TN.below hb _ _ h.ta, TN.below hb _ _ h.tb⟩
theorem J5.drew {w W : World} {b7 b8 : Nat} {ua ub : List Value} {ta tb : RTree} {xs ys : List Value} (h : J5 w W b7 b8 ua ub ta tb xs ys) : J5 w W.drew b7 b8 ua ub ta tb xs ys := h.step (Below.refl _ W).drew
theorem MadeW.j5 {w wx : World} {b7 b8 : Nat} {k a c : Int} {v2 v3 v4 v5 v6 : Value} {ub : List Value} {ta tb : RTree} {xs ys : List Value} (h : MadeW w wx b7 b8 [.int .i64 k, .int .i64 a, v2, v3, v4, v5, v6] ub ta tb xs ys) :
    J5 w (wx.setCell ⟨b7, 1, none⟩ (.int .i64 c)) b7 b8 [.int .i64 k, .int .i64 c, v2, v3, v4, v5, v6] ub ta tb xs ys := by
  have hk : ∀ b, b ≠ b7 → (wx.setCell ⟨b7, 1, none⟩ (.int .i64 c)).heap[b]? = wx.heap[b]? := fun b hb => Below.heap_setCell _ _ _ _ (by simpa using hb)
  have hz : (wx.setCell ⟨b7, 1, none⟩ (.int .i64 c)).heap.size = wx.heap.size := by simp [World.setCell]
  refine ⟨h.bx.set h.lo7 _, by rw [hz]; exact h.lt7, by rw [hz]; exact h.lt8, fun j => ?_, fun j => ?_, ?_, ?_⟩
  · by_cases e : j = 1
    · subst e; exact World.cell?_setCell_same _ _ _ (h.c7 1)
    · rw [World.cell?_setCell_other _ _ _ _ (fun e2 => e (by injection e2 with _ e3; exact e3.symm)), h.c7]
      rcases (show j = 0 ∨ 2 ≤ j by omega) with rfl | h1
      · rfl
      · obtain ⟨i, rfl⟩ : ∃ i, j = i + 2 := ⟨j - 2, by omega⟩
        rfl
  · rw [World.cell?_of_block (a := ⟨b8, j, none⟩) (hk b8 h.ne.symm)]; exact h.c8 j
  · exact TN.moved (TNF.tn _ _ (TNF.keep (F' := fun _ => True) (fun _ _ => trivial) (fun b hb => hk b hb.1) _ _ h.ta)) c
  · exact TNF.tn _ _ (TNF.keep (F' := fun _ => True) (fun _ _ => trivial) (fun b hb => hk b hb.1) _ _ h.tb)
theorem J5.of_s {w W : World} {b7 b8 : Nat} {ua ub : List Value} {ta tb : RTree} {xs ys : List Value} {P Q R T : Prop} (h : P ∧ Q ∧ R ∧ T ∧ J5 w W b7 b8 ua ub ta tb xs ys) : J5 w W b7 b8 ua ub ta tb xs ys := h.2.2.2.2
theorem J5.s {w W : World} {b7 b8 : Nat} {p0 p1 p2 p3 p4 p5 p6 q0 q1 q2 q3 q4 q5 q6 x0 x1 x2 x3 x4 x5 y0 y1 y2 y3 y4 y5 : Value} {ta tb : RTree} (h : J5 w W b7 b8 [p0, p1, p2, p3, p4, p5, p6] [q0, q1, q2, q3, q4, q5, q6] ta tb [x0, x1, x2, x3, x4, x5] [y0, y1, y2, y3, y4, y5]) :
    (W.cell? ⟨w.heap.size, 0, none⟩ = some x0 ∧ W.cell? ⟨w.heap.size, 1, none⟩ = some x1 ∧ W.cell? ⟨w.heap.size, 2, none⟩ = some x2 ∧ W.cell? ⟨w.heap.size, 3, none⟩ = some x3 ∧ W.cell? ⟨w.heap.size, 4, none⟩ = some x4 ∧ W.cell? ⟨w.heap.size, 5, none⟩ = some x5) ∧
    (W.cell? ⟨w.heap.size + 1, 0, none⟩ = some y0 ∧ W.cell? ⟨w.heap.size + 1, 1, none⟩ = some y1 ∧ W.cell? ⟨w.heap.size + 1, 2, none⟩ = some y2 ∧ W.cell? ⟨w.heap.size + 1, 3, none⟩ = some y3 ∧ W.cell? ⟨w.heap.size + 1, 4, none⟩ = some y4 ∧ W.cell? ⟨w.heap.size + 1, 5, none⟩ = some y5) ∧
    (W.cell? ⟨b7, 0, none⟩ = some p0 ∧ W.cell? ⟨b7, 1, none⟩ = some p1 ∧ W.cell? ⟨b7, 2, none⟩ = some p2 ∧ W.cell? ⟨b7, 3, none⟩ = some p3 ∧ W.cell? ⟨b7, 4, none⟩ = some p4 ∧ W.cell? ⟨b7, 5, none⟩ = some p5 ∧ W.cell? ⟨b7, 6, none⟩ = some p6) ∧
    (W.cell? ⟨b8, 0, none⟩ = some q0 ∧ W.cell? ⟨b8, 1, none⟩ = some q1 ∧ W.cell? ⟨b8, 2, none⟩ = some q2 ∧ W.cell? ⟨b8, 3, none⟩ = some q3 ∧ W.cell? ⟨b8, 4, none⟩ = some q4 ∧ W.cell? ⟨b8, 5, none⟩ = some q5 ∧ W.cell? ⟨b8, 6, none⟩ = some q6) ∧
    J5 w W b7 b8 [p0, p1, p2, p3, p4, p5, p6] [q0, q1, q2, q3, q4, q5, q6] ta tb [x0, x1, x2, x3, x4, x5] [y0, y1, y2, y3, y4, y5] :=
  ⟨h.bx.c6.1, h.bx.c6.2, ⟨h.c7 0, h.c7 1, h.c7 2, h.c7 3, h.c7 4, h.c7 5, h.c7 6⟩, ⟨h.c8 0, h.c8 1, h.c8 2, h.c8 3, h.c8 4, h.c8 5, h.c8 6⟩, h⟩

set_option maxRecDepth 100000 in
set_option maxHeartbeats 6400000 in
theorem treeSame_walk (ta tb : RTree) (a0 a1 a2 a3 a4 a5 b0 b1 b2 b3 b4 b5 : Value) (at_ : Int) (w : World) (hMa : sizeR ta ≤ 1048576) (hMb : sizeR tb ≤ 1048576) (hfa : FitR ta) (hfb : FitR tb) (hra : RN w ta [a0, a1, a2, a3, a4, a5]) (hrb : RN w tb [b0, b1, b2, b3, b4, b5]) :
    Calls Tryd.prog 3 #[.agg #[a0, a1, a2, a3, a4, a5], .agg #[b0, b1, b2, b3, b4, b5], .int .i64 at_] w fun e w' => e = .returned (.bool true) ∧ Below w.heap.size w w' := by
  have HSA : Hid (∀ W, Below w.heap.size w W → Calls Tryd.prog 4 #[.agg #[a0, a1, a2, a3, a4, a5]] W fun e w' => SomeB e ∧ Below W.heap.size W w') := fun W hb => small_R ta _ _ _ _ _ _ W hMa (hra.below hb)
  have HSB : Hid (∀ W, Below w.heap.size w W → Calls Tryd.prog 4 #[.agg #[b0, b1, b2, b3, b4, b5]] W fun e w' => SomeB e ∧ Below W.heap.size W w') := fun W hb => small_R tb _ _ _ _ _ _ W hMb (hrb.below hb)
  have HOA : Hid (∀ W, Bx2 w W [a0, a1, a2, a3, a4, a5] [b0, b1, b2, b3, b4, b5] → Calls Tryd.prog 6 #[.agg #[a0, a1, a2, a3, a4, a5]] W fun e w' => OfTells w W ta e w' ∧ Below W.heap.size W w') := fun W hb => of_walk w _ ta _ _ _ _ _ _ W (Nat.le_refl _) hMa hra hb.below
  have HOB : Hid (∀ W, Bx2 w W [a0, a1, a2, a3, a4, a5] [b0, b1, b2, b3, b4, b5] → Calls Tryd.prog 6 #[.agg #[b0, b1, b2, b3, b4, b5]] W fun e w' => OfTells w W tb e w' ∧ Below W.heap.size W w') := fun W hb => of_walk w _ tb _ _ _ _ _ _ W (Nat.le_refl _) hMb hrb hb.below
  have HRA := Lib.hid hra; have HRB := Lib.hid hrb
  obtain ⟨ka, ca, na, A1, A2, A3, m1, d1, m2, d2, m3, d3, rfl, rfl, rfl, rfl, rfl, rfl⟩ := hra.shape
  obtain ⟨kb, cb, nb, B1, B2, B3, l1, f1, l2, f2, l3, f3, rfl, rfl, rfl, rfl, rfl, rfl⟩ := hrb.shape
  have HX0 := Lib.hid (Bx2.start w [.int .i64 ka, .slice A1 m1 d1, .slice A2 m2 d2, .string na, .int .i32 ca, .slice A3 m3 d3] [.int .i64 kb, .slice B1 l1 f1, .slice B2 l2 f2, .string nb, .int .i32 cb, .slice B3 l3 f3] 26)
  have HAW := Lib.hid awake31_walk
  have HSZ : Hid (sizeR ta ≤ 1048576 ∧ sizeR tb ≤ 1048576 ∧ FitR ta ∧ FitR tb) := ⟨hMa, hMb, hfa, hfb⟩
  clear hra hrb hMa hMb hfa hfb
  go_enter Tryd.func3, Tryd.ntmps3
  go_wp2_with fail
  generalize (w.alloc (.cells #[.int .i64 ka, .slice A1 m1 d1, .slice A2 m2 d2, .string na, .int .i32 ca, .slice A3 m3 d3] 26)).alloc (.cells #[.int .i64 kb, .slice B1 l1 f1, .slice B2 l2 f2, .string nb, .int .i32 cb, .slice B3 l3 f3] 26) = W at *
  refine (HSA.out _ HX0.out.below).mono ?_
  rintro e w1 ⟨⟨ok1, rfl⟩, hb⟩
  have HX1 := Lib.hid (HX0.out.step hb)
  clear hb
  obtain ⟨⟨x0, x1, x2, x3, x4, x5⟩, ⟨y0, y1, y2, y3, y4, y5⟩⟩ := HX1.out.c6
  cases ok1
  case false =>
    go_wp2_with fail
    refine (HAW.out _).mono ?_
    rintro e w2 ⟨rfl, hb⟩
    have HX2 := Lib.hid (HX1.out.step hb)
    clear hb
    go_wp2
    go_ret
    exact ⟨rfl, HX2.out.below⟩
  go_wp2_with fail
  refine (HSB.out _ HX1.out.below).mono ?_
  rintro e w2 ⟨⟨ok2, rfl⟩, hb⟩
  have HX2 := Lib.hid (HX1.out.step hb)
  clear hb x0 x1 x2 x3 x4 x5 y0 y1 y2 y3 y4 y5
  obtain ⟨⟨x0, x1, x2, x3, x4, x5⟩, ⟨y0, y1, y2, y3, y4, y5⟩⟩ := HX2.out.c6
  cases ok2
  case false =>
    go_wp2_with fail
    refine (HAW.out _).mono ?_
    rintro e w3 ⟨rfl, hb⟩
    have HX3 := Lib.hid (HX2.out.step hb)
    clear hb
    go_wp2
    go_ret
    exact ⟨rfl, HX3.out.below⟩
  have HX2d := Lib.hid (HX2.out.step (Below.refl _ w2).drew)
  have hz2 : w.heap.size + 2 ≤ w2.heap.size := HX2.out.sz
  go_wp2_with fail
  go_cut [7, 8] from 9 (fun x y wx => Made w ta tb [.int .i64 ka, .slice A1 m1 d1, .slice A2 m2 d2, .string na, .int .i32 ca, .slice A3 m3 d3] [.int .i64 kb, .slice B1 l1 f1, .slice B2 l2 f2, .string nb, .int .i32 cb, .slice B3 l3 f3] x y wx)
  case first =>
    have hx1 : Bx2 w w2.drew [.int .i64 ka, .slice A1 m1 d1, .slice A2 m2 d2, .string na, .int .i32 ca, .slice A3 m3 d3] [.int .i64 kb, .slice B1 l1 f1, .slice B2 l2 f2, .string nb, .int .i32 cb, .slice B3 l3 f3] := HX2d.out
    have hx0 := HX2.out
    clear x0 x1 x2 x3 x4 x5 y0 y1 y2 y3 y4 y5
    go_region_held3 (fun W => (W.cell? ⟨w.heap.size, 0, none⟩ = some (.int .i64 ka) ∧ W.cell? ⟨w.heap.size, 1, none⟩ = some (.slice A1 m1 d1) ∧ W.cell? ⟨w.heap.size, 2, none⟩ = some (.slice A2 m2 d2) ∧ W.cell? ⟨w.heap.size, 3, none⟩ = some (.string na) ∧ W.cell? ⟨w.heap.size, 4, none⟩ = some (.int .i32 ca) ∧ W.cell? ⟨w.heap.size, 5, none⟩ = some (.slice A3 m3 d3)) ∧ (W.cell? ⟨w.heap.size + 1, 0, none⟩ = some (.int .i64 kb) ∧ W.cell? ⟨w.heap.size + 1, 1, none⟩ = some (.slice B1 l1 f1) ∧ W.cell? ⟨w.heap.size + 1, 2, none⟩ = some (.slice B2 l2 f2) ∧ W.cell? ⟨w.heap.size + 1, 3, none⟩ = some (.string nb) ∧ W.cell? ⟨w.heap.size + 1, 4, none⟩ = some (.int .i32 cb) ∧ W.cell? ⟨w.heap.size + 1, 5, none⟩ = some (.slice B3 l3 f3)) ∧ Bx2 w W [.int .i64 ka, .slice A1 m1 d1, .slice A2 m2 d2, .string na, .int .i32 ca, .slice A3 m3 d3] [.int .i64 kb, .slice B1 l1 f1, .slice B2 l2 f2, .string nb, .int .i32 cb, .slice B3 l3 f3])
      (first | (with_reducible assumption) | (with_reducible (refine Bx2.s ?_); repeat (first | (with_reducible assumption) | (with_reducible exact Bx2.of_s (by assumption)) | (with_reducible refine Bx2.drew ?_) | (with_reducible refine Bx2.set ?_ (by first | omega | (simp; omega)) _) | (with_reducible refine Bx2.alloc ?_ _))))
      (first | (go_at_call 6; (with_reducible refine (HOA.out _ (by repeat (first | (with_reducible assumption) | (with_reducible exact Bx2.of_s (by assumption)) | (with_reducible refine Bx2.drew ?_) | (with_reducible refine Bx2.set ?_ (by first | omega | (simp; omega)) _) | (with_reducible refine Bx2.alloc ?_ _)))).mono ?_); rintro e w3 ⟨⟨k', a', c', nm', P1, P2, P3, p1, q1, p2, q2, p3, q3, rfl, hta⟩, hb3⟩; obtain ⟨hc3, hf3⟩ := bcell2 hb3; have hz3 := hb3.size; (first | (have hy32 : w2.heap.size + 1 < w3.heap.size := sz2 hz3; have hy31 := Nat.lt_of_succ_lt hy32) | (have hy31 : w2.heap.size < w3.heap.size := sz1 hz3) | skip); have hx3 : Bx2 w w3 [.int .i64 ka, .slice A1 m1 d1, .slice A2 m2 d2, .string na, .int .i32 ca, .slice A3 m3 d3] [.int .i64 kb, .slice B1 l1 f1, .slice B2 l2 f2, .string nb, .int .i32 cb, .slice B3 l3 f3] := Bx2.step (by repeat (first | (with_reducible assumption) | (with_reducible exact Bx2.of_s (by assumption)) | (with_reducible refine Bx2.drew ?_) | (with_reducible refine Bx2.set ?_ (by first | omega | (simp; omega)) _) | (with_reducible refine Bx2.alloc ?_ _))) hb3; have hs3 := hx3.sz; have HTA := Lib.hid hta; have HB3 := Lib.hid hb3; clear hta hb3) | (go_at_call 6; (with_reducible refine (HOB.out _ (by repeat (first | (with_reducible assumption) | (with_reducible exact Bx2.of_s (by assumption)) | (with_reducible refine Bx2.drew ?_) | (with_reducible refine Bx2.set ?_ (by first | omega | (simp; omega)) _) | (with_reducible refine Bx2.alloc ?_ _)))).mono ?_); rintro e w4 ⟨⟨k'', a'', c'', nm'', Q1, Q2, Q3, r1, s1, r2, s2, r3, s3, rfl, htb⟩, hb4⟩; obtain ⟨hc4, hf4⟩ := bcell2 hb4; have hz4 := hb4.size; have hz34 : w3.heap.size ≤ w4.heap.size := (by first | exact hz4 | exact Nat.le_of_lt (sz1 hz4) | exact Nat.le_of_lt (Nat.lt_of_succ_lt (sz2 hz4))); (first | have hy42 := Nat.lt_of_lt_of_le hy32 hz34 | skip); (first | have hy41 := Nat.lt_of_lt_of_le hy31 hz34 | skip); (first | (have hy44 : w3.heap.size + 1 < w4.heap.size := sz2 hz4; have hy43 := Nat.lt_of_succ_lt hy44) | (have hy43 : w3.heap.size < w4.heap.size := sz1 hz4) | skip); have hx4 : Bx2 w w4 [.int .i64 ka, .slice A1 m1 d1, .slice A2 m2 d2, .string na, .int .i32 ca, .slice A3 m3 d3] [.int .i64 kb, .slice B1 l1 f1, .slice B2 l2 f2, .string nb, .int .i32 cb, .slice B3 l3 f3] := Bx2.step (by repeat (first | (with_reducible assumption) | (with_reducible exact Bx2.of_s (by assumption)) | (with_reducible refine Bx2.drew ?_) | (with_reducible refine Bx2.set ?_ (by first | omega | (simp; omega)) _) | (with_reducible refine Bx2.alloc ?_ _))) hb4; have hs4 := hx4.sz; have HTB := Lib.hid htb; have HB4 := Lib.hid hb4; clear htb hb4))
    all_goals
      have k34 : ∀ b, b < w3.heap.size → w4.heap[b]? = w3.heap[b]? := fun b hb => by
        rw [HB4.out.block b (by first | exact hb | (simp <;> omega) | omega)] <;> first | rfl | (exact heap_alloc_old _ _ hb) | (exact (heap_alloc_old _ _ (by simp <;> omega)).trans (heap_alloc_old _ _ hb))
      have h34 : w3.heap.size ≤ w4.heap.size := hz34
      go_wp2
      go_meet
      have hsa := HTA.out
      have hsb := HTB.out
      refine ⟨_, _, _, _, _, _, _, _, _, _, _, _, _, _, _, _, _, _, _, _, _, _, _, _, _, _, _, _, rfl, rfl, made_of (w3 := w3) (w4 := w4) (Fa := _) (Fb := _) ?_ hx4 ?_ ?_ hsa hsb k34 h34 ?_ ?_⟩
      · first
          | (with_reducible exact done_aa w4 _ _ _ _)
          | (with_reducible exact (done_aa w4 _ _ _ _).swap)
          | (with_reducible refine done_sa' ?_ _ _ _ _ _ _ _ _ _; ((repeat (first | (with_reducible exact SV.new0 _ _ _ _ _ _ _ _ _) | (with_reducible exact SV.new1 _ _ _ _ _ _ _ _ _ _) | (with_reducible refine SV.drew ?_) | (with_reducible refine SV.past ?_ _) | (with_reducible refine SV.below ?_ HB4.out) | (with_reducible refine SV.below ?_ HB3.out)))))
          | (with_reducible refine (done_sa' ?_ _ _ _ _ _ _ _ _ _).swap; ((repeat (first | (with_reducible exact SV.new0 _ _ _ _ _ _ _ _ _) | (with_reducible exact SV.new1 _ _ _ _ _ _ _ _ _ _) | (with_reducible refine SV.drew ?_) | (with_reducible refine SV.past ?_ _) | (with_reducible refine SV.below ?_ HB4.out) | (with_reducible refine SV.below ?_ HB3.out)))))
          | (with_reducible refine done_ss' (by omega) ?_ ?_ _ _ _ _ _ _ _ _ _ _ _ _ _ _; ((repeat (first | (with_reducible exact SV.new0 _ _ _ _ _ _ _ _ _) | (with_reducible exact SV.new1 _ _ _ _ _ _ _ _ _ _) | (with_reducible refine SV.drew ?_) | (with_reducible refine SV.past ?_ _) | (with_reducible refine SV.below ?_ HB4.out) | (with_reducible refine SV.below ?_ HB3.out)))); ((repeat (first | (with_reducible exact SV.new0 _ _ _ _ _ _ _ _ _) | (with_reducible exact SV.new1 _ _ _ _ _ _ _ _ _ _) | (with_reducible refine SV.drew ?_) | (with_reducible refine SV.past ?_ _) | (with_reducible refine SV.below ?_ HB4.out) | (with_reducible refine SV.below ?_ HB3.out)))))
          | (with_reducible refine (done_ss' (by omega) ?_ ?_ _ _ _ _ _ _ _ _ _ _ _ _ _ _).swap; ((repeat (first | (with_reducible exact SV.new0 _ _ _ _ _ _ _ _ _) | (with_reducible exact SV.new1 _ _ _ _ _ _ _ _ _ _) | (with_reducible refine SV.drew ?_) | (with_reducible refine SV.past ?_ _) | (with_reducible refine SV.below ?_ HB4.out) | (with_reducible refine SV.below ?_ HB3.out)))); ((repeat (first | (with_reducible exact SV.new0 _ _ _ _ _ _ _ _ _) | (with_reducible exact SV.new1 _ _ _ _ _ _ _ _ _ _) | (with_reducible refine SV.drew ?_) | (with_reducible refine SV.past ?_ _) | (with_reducible refine SV.below ?_ HB4.out) | (with_reducible refine SV.below ?_ HB3.out)))))
      · omega
      · omega
      · intro b hb
        have h1 := hb.1
        have h2 := hb.2
        try simp at h1
        refine ⟨?_, ?_, h2⟩ <;> omega
      · intro b hb
        have h1 := hb.1
        have h2 := hb.2
        try simp at h1
        refine ⟨?_, ?_, h2⟩ <;> omega
  case rest =>
    obtain ⟨b7, b8, k, a, c, nm, P1, P2, P3, p1, q1, p2, q2, p3, q3, k', a', c', nm', Q1, Q2, Q3, r1, s1, r2, s2, r3, s3, rfl, rfl, hm⟩ := hcut
    have hj := hm.j5 (c := at_)
    have hg1 := hm.c7 1
    have hf1 := hm.f7 1
    simp only [List.getElem?_cons_succ, List.getElem?_cons_zero] at hg1
    have HJ := Lib.hid hj
    obtain ⟨R1, hR1⟩ : ∃ R, R = sameR ta tb := ⟨_, rfl⟩
    obtain ⟨R2, hR2⟩ : ∃ R, R = sameR ta ta := ⟨_, rfl⟩
    have HS1 : Hid (∀ W, J5 w W b7 b8 [.int .i64 k, .int .i64 at_, .slice P1 p1 q1, .slice P2 p2 q2, .string nm, .int .i32 c, .slice P3 p3 q3] [.int .i64 k', .int .i64 a', .slice Q1 r1 s1, .slice Q2 r2 s2, .string nm', .int .i32 c', .slice Q3 r3 s3] ta tb [.int .i64 ka, .slice A1 m1 d1, .slice A2 m2 d2, .string na, .int .i32 ca, .slice A3 m3 d3] [.int .i64 kb, .slice B1 l1 f1, .slice B2 l2 f2, .string nb, .int .i32 cb, .slice B3 l3 f3] → Calls Tryd.prog 7 #[.agg #[.int .i64 k, .int .i64 at_, .slice P1 p1 q1, .slice P2 p2 q2, .string nm, .int .i32 c, .slice P3 p3 q3], .agg #[.int .i64 k', .int .i64 a', .slice Q1 r1 s1, .slice Q2 r2 s2, .string nm', .int .i32 c', .slice Q3 r3 s3]] W fun e w' => e = .returned (.bool R1) ∧ Below W.heap.size W w') := by
      unfold Hid; intro W h; have := tSame_walk _ ta tb _ _ _ _ _ _ _ _ _ _ _ _ _ _ W (Nat.le_refl _) HSZ.out.1 HSZ.out.2.1 HSZ.out.2.2.1 HSZ.out.2.2.2 h.ta h.tb; rw [← hR1] at this; exact this
    have HS2 : Hid (∀ W, J5 w W b7 b8 [.int .i64 k, .int .i64 at_, .slice P1 p1 q1, .slice P2 p2 q2, .string nm, .int .i32 c, .slice P3 p3 q3] [.int .i64 k', .int .i64 a', .slice Q1 r1 s1, .slice Q2 r2 s2, .string nm', .int .i32 c', .slice Q3 r3 s3] ta tb [.int .i64 ka, .slice A1 m1 d1, .slice A2 m2 d2, .string na, .int .i32 ca, .slice A3 m3 d3] [.int .i64 kb, .slice B1 l1 f1, .slice B2 l2 f2, .string nb, .int .i32 cb, .slice B3 l3 f3] → Calls Tryd.prog 7 #[.agg #[.int .i64 k', .int .i64 a', .slice Q1 r1 s1, .slice Q2 r2 s2, .string nm', .int .i32 c', .slice Q3 r3 s3], .agg #[.int .i64 k, .int .i64 at_, .slice P1 p1 q1, .slice P2 p2 q2, .string nm, .int .i32 c, .slice P3 p3 q3]] W fun e w' => e = .returned (.bool R1) ∧ Below W.heap.size W w') := by
      unfold Hid; intro W h; have := tSame_walk _ tb ta _ _ _ _ _ _ _ _ _ _ _ _ _ _ W (Nat.le_refl _) HSZ.out.2.1 HSZ.out.1 HSZ.out.2.2.2 HSZ.out.2.2.1 h.tb h.ta; rw [sameR_comm tb ta, ← hR1] at this; exact this
    have HS3 : Hid (∀ W, J5 w W b7 b8 [.int .i64 k, .int .i64 at_, .slice P1 p1 q1, .slice P2 p2 q2, .string nm, .int .i32 c, .slice P3 p3 q3] [.int .i64 k', .int .i64 a', .slice Q1 r1 s1, .slice Q2 r2 s2, .string nm', .int .i32 c', .slice Q3 r3 s3] ta tb [.int .i64 ka, .slice A1 m1 d1, .slice A2 m2 d2, .string na, .int .i32 ca, .slice A3 m3 d3] [.int .i64 kb, .slice B1 l1 f1, .slice B2 l2 f2, .string nb, .int .i32 cb, .slice B3 l3 f3] → Calls Tryd.prog 7 #[.agg #[.int .i64 k, .int .i64 at_, .slice P1 p1 q1, .slice P2 p2 q2, .string nm, .int .i32 c, .slice P3 p3 q3], .agg #[.int .i64 k, .int .i64 at_, .slice P1 p1 q1, .slice P2 p2 q2, .string nm, .int .i32 c, .slice P3 p3 q3]] W fun e w' => e = .returned (.bool R2) ∧ Below W.heap.size W w') := by
      unfold Hid; intro W h; have := tSame_walk _ ta ta _ _ _ _ _ _ _ _ _ _ _ _ _ _ W (Nat.le_refl _) HSZ.out.1 HSZ.out.1 HSZ.out.2.2.1 HSZ.out.2.2.1 h.ta h.ta; rw [← hR2] at this; exact this
    have HR1 : Hid (∀ W, J5 w W b7 b8 [.int .i64 k, .int .i64 at_, .slice P1 p1 q1, .slice P2 p2 q2, .string nm, .int .i32 c, .slice P3 p3 q3] [.int .i64 k', .int .i64 a', .slice Q1 r1 s1, .slice Q2 r2 s2, .string nm', .int .i32 c', .slice Q3 r3 s3] ta tb [.int .i64 ka, .slice A1 m1 d1, .slice A2 m2 d2, .string na, .int .i32 ca, .slice A3 m3 d3] [.int .i64 kb, .slice B1 l1 f1, .slice B2 l2 f2, .string nb, .int .i32 cb, .slice B3 l3 f3] → Calls Tryd.prog 8 #[.agg #[.int .i64 ka, .slice A1 m1 d1, .slice A2 m2 d2, .string na, .int .i32 ca, .slice A3 m3 d3], .agg #[.int .i64 kb, .slice B1 l1 f1, .slice B2 l2 f2, .string nb, .int .i32 cb, .slice B3 l3 f3]] W fun e w' => e = .returned (.bool R1) ∧ Below W.heap.size W w') := by
      unfold Hid; intro W h; have := rSame_walk _ ta tb _ _ _ _ _ _ _ _ _ _ _ _ W (Nat.le_refl _) HSZ.out.1 HSZ.out.2.1 HSZ.out.2.2.1 HSZ.out.2.2.2 (RN.below h.bx.below _ _ HRA.out) (RN.below h.bx.below _ _ HRB.out); rw [← hR1] at this; exact this
    have HR3 : Hid (∀ W, J5 w W b7 b8 [.int .i64 k, .int .i64 at_, .slice P1 p1 q1, .slice P2 p2 q2, .string nm, .int .i32 c, .slice P3 p3 q3] [.int .i64 k', .int .i64 a', .slice Q1 r1 s1, .slice Q2 r2 s2, .string nm', .int .i32 c', .slice Q3 r3 s3] ta tb [.int .i64 ka, .slice A1 m1 d1, .slice A2 m2 d2, .string na, .int .i32 ca, .slice A3 m3 d3] [.int .i64 kb, .slice B1 l1 f1, .slice B2 l2 f2, .string nb, .int .i32 cb, .slice B3 l3 f3] → Calls Tryd.prog 8 #[.agg #[.int .i64 ka, .slice A1 m1 d1, .slice A2 m2 d2, .string na, .int .i32 ca, .slice A3 m3 d3], .agg #[.int .i64 ka, .slice A1 m1 d1, .slice A2 m2 d2, .string na, .int .i32 ca, .slice A3 m3 d3]] W fun e w' => e = .returned (.bool R2) ∧ Below W.heap.size W w') := by
      unfold Hid; intro W h; have := rSame_walk _ ta ta _ _ _ _ _ _ _ _ _ _ _ _ W (Nat.le_refl _) HSZ.out.1 HSZ.out.1 HSZ.out.2.2.1 HSZ.out.2.2.1 (RN.below h.bx.below _ _ HRA.out) (RN.below h.bx.below _ _ HRA.out); rw [← hR2] at this; exact this
    clear hm hR1 hR2
    have hsq : (R1 == R1) = true := by simp
    have hsq2 : (R2 == R2) = true := by simp
    go_wp2_with fail
    generalize wc.setCell ⟨b7, 1, none⟩ (.int .i64 at_) = W5 at *
    have hj0 := hj.drew
    go_region_held3 (fun W => (W.cell? ⟨w.heap.size, 0, none⟩ = some (.int .i64 ka) ∧ W.cell? ⟨w.heap.size, 1, none⟩ = some (.slice A1 m1 d1) ∧ W.cell? ⟨w.heap.size, 2, none⟩ = some (.slice A2 m2 d2) ∧ W.cell? ⟨w.heap.size, 3, none⟩ = some (.string na) ∧ W.cell? ⟨w.heap.size, 4, none⟩ = some (.int .i32 ca) ∧ W.cell? ⟨w.heap.size, 5, none⟩ = some (.slice A3 m3 d3)) ∧ (W.cell? ⟨w.heap.size + 1, 0, none⟩ = some (.int .i64 kb) ∧ W.cell? ⟨w.heap.size + 1, 1, none⟩ = some (.slice B1 l1 f1) ∧ W.cell? ⟨w.heap.size + 1, 2, none⟩ = some (.slice B2 l2 f2) ∧ W.cell? ⟨w.heap.size + 1, 3, none⟩ = some (.string nb) ∧ W.cell? ⟨w.heap.size + 1, 4, none⟩ = some (.int .i32 cb) ∧ W.cell? ⟨w.heap.size + 1, 5, none⟩ = some (.slice B3 l3 f3)) ∧ (W.cell? ⟨b7, 0, none⟩ = some (.int .i64 k) ∧ W.cell? ⟨b7, 1, none⟩ = some (.int .i64 at_) ∧ W.cell? ⟨b7, 2, none⟩ = some (.slice P1 p1 q1) ∧ W.cell? ⟨b7, 3, none⟩ = some (.slice P2 p2 q2) ∧ W.cell? ⟨b7, 4, none⟩ = some (.string nm) ∧ W.cell? ⟨b7, 5, none⟩ = some (.int .i32 c) ∧ W.cell? ⟨b7, 6, none⟩ = some (.slice P3 p3 q3)) ∧ (W.cell? ⟨b8, 0, none⟩ = some (.int .i64 k') ∧ W.cell? ⟨b8, 1, none⟩ = some (.int .i64 a') ∧ W.cell? ⟨b8, 2, none⟩ = some (.slice Q1 r1 s1) ∧ W.cell? ⟨b8, 3, none⟩ = some (.slice Q2 r2 s2) ∧ W.cell? ⟨b8, 4, none⟩ = some (.string nm') ∧ W.cell? ⟨b8, 5, none⟩ = some (.int .i32 c') ∧ W.cell? ⟨b8, 6, none⟩ = some (.slice Q3 r3 s3)) ∧ J5 w W b7 b8 [.int .i64 k, .int .i64 at_, .slice P1 p1 q1, .slice P2 p2 q2, .string nm, .int .i32 c, .slice P3 p3 q3] [.int .i64 k', .int .i64 a', .slice Q1 r1 s1, .slice Q2 r2 s2, .string nm', .int .i32 c', .slice Q3 r3 s3] ta tb [.int .i64 ka, .slice A1 m1 d1, .slice A2 m2 d2, .string na, .int .i32 ca, .slice A3 m3 d3] [.int .i64 kb, .slice B1 l1 f1, .slice B2 l2 f2, .string nb, .int .i32 cb, .slice B3 l3 f3])
      (first | (with_reducible assumption) | (with_reducible (refine J5.s ?_); repeat (first | (with_reducible assumption) | (with_reducible exact J5.of_s (by assumption)) | (with_reducible refine J5.drew ?_))))
      (first | (go_at_call 7; (with_reducible refine (HS1.out _ (by repeat (first | (with_reducible assumption) | (with_reducible exact J5.of_s (by assumption)) | (with_reducible refine J5.drew ?_)))).mono ?_); rintro e wa ⟨rfl, hba⟩; have hja : J5 w wa b7 b8 [.int .i64 k, .int .i64 at_, .slice P1 p1 q1, .slice P2 p2 q2, .string nm, .int .i32 c, .slice P3 p3 q3] [.int .i64 k', .int .i64 a', .slice Q1 r1 s1, .slice Q2 r2 s2, .string nm', .int .i32 c', .slice Q3 r3 s3] ta tb [.int .i64 ka, .slice A1 m1 d1, .slice A2 m2 d2, .string na, .int .i32 ca, .slice A3 m3 d3] [.int .i64 kb, .slice B1 l1 f1, .slice B2 l2 f2, .string nb, .int .i32 cb, .slice B3 l3 f3] := J5.step (by repeat (first | (with_reducible assumption) | (with_reducible exact J5.of_s (by assumption)) | (with_reducible refine J5.drew ?_))) hba; clear hba) | (go_at_call 7; (with_reducible refine (HS2.out _ (by repeat (first | (with_reducible assumption) | (with_reducible exact J5.of_s (by assumption)) | (with_reducible refine J5.drew ?_)))).mono ?_); rintro e wb ⟨rfl, hbb⟩; have hjb : J5 w wb b7 b8 [.int .i64 k, .int .i64 at_, .slice P1 p1 q1, .slice P2 p2 q2, .string nm, .int .i32 c, .slice P3 p3 q3] [.int .i64 k', .int .i64 a', .slice Q1 r1 s1, .slice Q2 r2 s2, .string nm', .int .i32 c', .slice Q3 r3 s3] ta tb [.int .i64 ka, .slice A1 m1 d1, .slice A2 m2 d2, .string na, .int .i32 ca, .slice A3 m3 d3] [.int .i64 kb, .slice B1 l1 f1, .slice B2 l2 f2, .string nb, .int .i32 cb, .slice B3 l3 f3] := J5.step (by repeat (first | (with_reducible assumption) | (with_reducible exact J5.of_s (by assumption)) | (with_reducible refine J5.drew ?_))) hbb; clear hbb) | (go_at_call 7; (with_reducible refine (HS3.out _ (by repeat (first | (with_reducible assumption) | (with_reducible exact J5.of_s (by assumption)) | (with_reducible refine J5.drew ?_)))).mono ?_); rintro e wc ⟨rfl, hbc⟩; have hjc : J5 w wc b7 b8 [.int .i64 k, .int .i64 at_, .slice P1 p1 q1, .slice P2 p2 q2, .string nm, .int .i32 c, .slice P3 p3 q3] [.int .i64 k', .int .i64 a', .slice Q1 r1 s1, .slice Q2 r2 s2, .string nm', .int .i32 c', .slice Q3 r3 s3] ta tb [.int .i64 ka, .slice A1 m1 d1, .slice A2 m2 d2, .string na, .int .i32 ca, .slice A3 m3 d3] [.int .i64 kb, .slice B1 l1 f1, .slice B2 l2 f2, .string nb, .int .i32 cb, .slice B3 l3 f3] := J5.step (by repeat (first | (with_reducible assumption) | (with_reducible exact J5.of_s (by assumption)) | (with_reducible refine J5.drew ?_))) hbc; clear hbc) | (go_at_call 8; (with_reducible refine (HR1.out _ (by repeat (first | (with_reducible assumption) | (with_reducible exact J5.of_s (by assumption)) | (with_reducible refine J5.drew ?_)))).mono ?_); rintro e wd ⟨rfl, hbd⟩; have hjd : J5 w wd b7 b8 [.int .i64 k, .int .i64 at_, .slice P1 p1 q1, .slice P2 p2 q2, .string nm, .int .i32 c, .slice P3 p3 q3] [.int .i64 k', .int .i64 a', .slice Q1 r1 s1, .slice Q2 r2 s2, .string nm', .int .i32 c', .slice Q3 r3 s3] ta tb [.int .i64 ka, .slice A1 m1 d1, .slice A2 m2 d2, .string na, .int .i32 ca, .slice A3 m3 d3] [.int .i64 kb, .slice B1 l1 f1, .slice B2 l2 f2, .string nb, .int .i32 cb, .slice B3 l3 f3] := J5.step (by repeat (first | (with_reducible assumption) | (with_reducible exact J5.of_s (by assumption)) | (with_reducible refine J5.drew ?_))) hbd; clear hbd) | (go_at_call 8; (with_reducible refine (HR3.out _ (by repeat (first | (with_reducible assumption) | (with_reducible exact J5.of_s (by assumption)) | (with_reducible refine J5.drew ?_)))).mono ?_); rintro e wf ⟨rfl, hbf⟩; have hjf : J5 w wf b7 b8 [.int .i64 k, .int .i64 at_, .slice P1 p1 q1, .slice P2 p2 q2, .string nm, .int .i32 c, .slice P3 p3 q3] [.int .i64 k', .int .i64 a', .slice Q1 r1 s1, .slice Q2 r2 s2, .string nm', .int .i32 c', .slice Q3 r3 s3] ta tb [.int .i64 ka, .slice A1 m1 d1, .slice A2 m2 d2, .string na, .int .i32 ca, .slice A3 m3 d3] [.int .i64 kb, .slice B1 l1 f1, .slice B2 l2 f2, .string nb, .int .i32 cb, .slice B3 l3 f3] := J5.step (by repeat (first | (with_reducible assumption) | (with_reducible exact J5.of_s (by assumption)) | (with_reducible refine J5.drew ?_))) hbf; clear hbf) | (go_at_call 5; (with_reducible refine (HAW.out _).mono ?_); rintro e w6 ⟨rfl, hb6⟩; have hj6 : J5 w w6 b7 b8 [.int .i64 k, .int .i64 at_, .slice P1 p1 q1, .slice P2 p2 q2, .string nm, .int .i32 c, .slice P3 p3 q3] [.int .i64 k', .int .i64 a', .slice Q1 r1 s1, .slice Q2 r2 s2, .string nm', .int .i32 c', .slice Q3 r3 s3] ta tb [.int .i64 ka, .slice A1 m1 d1, .slice A2 m2 d2, .string na, .int .i32 ca, .slice A3 m3 d3] [.int .i64 kb, .slice B1 l1 f1, .slice B2 l2 f2, .string nb, .int .i32 cb, .slice B3 l3 f3] := J5.step (by repeat (first | (with_reducible assumption) | (with_reducible exact J5.of_s (by assumption)) | (with_reducible refine J5.drew ?_))) hb6; clear hb6))
    all_goals
      have hfin := Lib.hid hj6.bx.below
      clear hj hj0 hja hjb hjc hjd hjf hj6 hsq hsq2 hg1 hf1
      go_wp2
      go_ret
      exact ⟨rfl, hfin.out⟩
end Go.Proofs.YtmfklpacpjoggaaDoor
