/- The walk of lex.quoted. Conditions: at most 4096 signs. -/
import Derived.Test.YtnhnaallalgefaaDoorLexF
import Derived.Deep.RegionLaw
import Derived.Deep.AppendLies
namespace Go.Proofs.YtnhnaallalgefaaDoor
open Go Go.RowKit Go.Proofs Fl

/-- one rune appended to a row that the call owns, at a step of a region that draws -/
theorem step_app1 {ops : Array Oper} {o : Oper} {a : Act} {K : Act → World → Prop} {Q : Exit → Act → World → Prop} {E : Prop} {w : World} (hgd : o.guard = none) (s x : Operand)
    (ho : o.op = .call { callee := .builtin .append, args := #[s, x], argTypes := #[26, 26] })
    (B : Nat) (v : Value) (l : List Int) (hs : a.eval s = v) (hown : OwnR w B v l) (c : Int) (g0 : Nat) (hx : a.eval x = .slice (some ⟨g0, 0, none⟩) 1 1) (hc : w.cell? ⟨g0, 0, none⟩ = some (.int .i32 c)) (hl : l.length ≤ 1099511627776) (hB : B ≤ w.heap.size)
    (h : ∀ av nn cv w', OwnR w' B (.slice av nn cv) (l ++ [c]) → (∀ w0, Below B w0 w → Below B w0 w') → w.heap.size ≤ w'.heap.size → K (a.put o.dst (.slice av nn cv)) w') :
    if Region.wanted o (yielded ops a.tmps) = true then Oper.wp Tryd.prog o a w K Q else E := by
  obtain ⟨i0, hi0, hz0, hz1, hz2⟩ := info_parts info_i32
  refine step_append_lies w hgd s x 26 ho B 21 i0 (.int .i32 0) 1 4 Tryd.underlying26 hi0 hz0 hz1 hz2 rfl (by omega) v l.length _ hs hown ⟨g0, 0, none⟩ 1 1 [.int .i32 c] hx rfl ?_ (by simp [Value.oneCell']) (by omega) (by unfold maxLen; omega) (by omega) hB _ rfl ?_
  · intro j u hj
    cases j with
    | zero => simp at hj; rw [← hj]; exact hc
    | succ j => simp at hj
  · intro g cap w' hown' hg _ hlt
    refine h _ _ _ w' ?_ ?_ hg.size
    · unfold OwnR
      rw [List.length_append, List.map_append]
      exact hown'
    · intro w0 hb
      exact hb.grown hg hB fun k hk => (World.ownsRow.lt hown k hk).1

/-- the same in a list of operations -/
theorem wpList_app2 {ops : Array Oper} {rest : List Oper} {o : Oper} {a : Act} {Q : Exit → Act → World → Prop} {w : World} (hgd : o.guard = none) (s x : Operand)
    (ho : o.op = .call { callee := .builtin .append, args := #[s, x], argTypes := #[26, 26] })
    (B : Nat) (v : Value) (l : List Int) (hs : a.eval s = v) (hown : OwnR w B v l) (c : Int)
    (hx : a.eval x = .slice (some ⟨w.heap.size, 0, none⟩) 1 1) (hl : l.length ≤ 1099511627776) (hB : B ≤ w.heap.size)
    (h : ∀ av nn cv w', OwnR w' B (.slice av nn cv) (l ++ [c]) → (∀ w0, Below B w0 w → Below B w0 w') → wpList Tryd.prog ops Q rest (a.put o.dst (.slice av nn cv)) w') :
    wpList Tryd.prog ops Q (o :: rest) a (w.alloc (.cells #[.int .i32 c] 21)) := by
  refine wpList_app1 hgd s x ho B v l hs hown c hx hl hB fun v' w' h1 h2 _ _ => ?_
  obtain ⟨av, cv, rfl⟩ := h1.len
  exact h _ _ _ _ h1 h2

theorem cell_set_other (w : World) (v : Value) {a b : Addr} (h : a ≠ b) : (w.setCell a v).cell? b = w.cell? b := World.cell?_setCell_other w _ _ _ h
theorem cell_set_same (w : World) (v : Value) {a : Addr} {u : Value} (h : w.cell? a = some u) : (w.setCell a v).cell? a = some v := World.cell?_setCell_same w _ _ h

/-- the memory of lex.quoted: its result, its word, the word's text -/
structure QS (w : World) (i : Int) (acc : List Int) (tv : Value) (wr : World) : Prop where
  below : Below w.heap.size w wr
  sz : w.heap.size + 2 ≤ wr.heap.size
  own : OwnR wr (w.heap.size + 2) tv acc
  t0 : wr.cell? ⟨w.heap.size + 1, 0, none⟩ = some (.int .i64 2)
  t1 : wr.cell? ⟨w.heap.size + 1, 1, none⟩ = some (.int .i64 i)
  t2 : wr.cell? ⟨w.heap.size + 1, 2, none⟩ = some (.float .f64 0)
  t3 : wr.cell? ⟨w.heap.size + 1, 3, none⟩ = some tv
  t4 : wr.cell? ⟨w.heap.size + 1, 4, none⟩ = some (.string ⟨#[]⟩)
  t5 : wr.cell? ⟨w.heap.size + 1, 5, none⟩ = some (.int .i32 0)
  r : ∀ j, j < 6 → ∃ v, wr.cell? ⟨w.heap.size, j, none⟩ = some v
  f0 : ∀ j, wr.frozen? ⟨w.heap.size, j, none⟩ = false
  f1 : ∀ j, wr.frozen? ⟨w.heap.size + 1, j, none⟩ = false

theorem QS.drew {w wr : World} {i : Int} {acc : List Int} {tv : Value} (h : QS w i acc tv wr) : QS w i acc tv wr.drew :=
  ⟨h.below.drew, h.sz, h.own, h.t0, h.t1, h.t2, h.t3, h.t4, h.t5, h.r, h.f0, h.f1⟩

theorem QS.step {w wr w' : World} {i c : Int} {acc : List Int} {tv tv' : Value} (h : QS w i acc tv wr) (ho : OwnR w' (w.heap.size + 2) tv' (acc ++ [c])) (hb : Below (w.heap.size + 2) wr w') : QS w i (acc ++ [c]) tv' (w'.setCell ⟨w.heap.size + 1, 3, none⟩ tv') := by
  have c1 : ∀ j, w'.cell? ⟨w.heap.size + 1, j, none⟩ = wr.cell? ⟨w.heap.size + 1, j, none⟩ := fun j => hb.cell (p := ⟨w.heap.size + 1, j, none⟩) (by simp)
  have c0 : ∀ j, w'.cell? ⟨w.heap.size, j, none⟩ = wr.cell? ⟨w.heap.size, j, none⟩ := fun j => hb.cell (p := ⟨w.heap.size, j, none⟩) (by simp)
  have g1 : ∀ j, w'.frozen? ⟨w.heap.size + 1, j, none⟩ = wr.frozen? ⟨w.heap.size + 1, j, none⟩ := fun j => hb.frozen (p := ⟨w.heap.size + 1, j, none⟩) (by simp)
  have g0 : ∀ j, w'.frozen? ⟨w.heap.size, j, none⟩ = wr.frozen? ⟨w.heap.size, j, none⟩ := fun j => hb.frozen (p := ⟨w.heap.size, j, none⟩) (by simp)
  refine ⟨((h.below.trans (hb.mono (by omega)))).setCell (by simp) _, ?_, ownsRow_setCell_below ho (by simp) _, ?_, ?_, ?_, ?_, ?_, ?_, ?_, ?_, ?_⟩
  · have := h.sz; have := hb.size; simp; omega
  · exact (cell_set_other w' tv' (by simp)).trans ((c1 0).trans h.t0)
  · exact (cell_set_other w' tv' (by simp)).trans ((c1 1).trans h.t1)
  · exact (cell_set_other w' tv' (by simp)).trans ((c1 2).trans h.t2)
  · exact cell_set_same w' tv' ((c1 3).trans h.t3)
  · exact (cell_set_other w' tv' (by simp)).trans ((c1 4).trans h.t4)
  · exact (cell_set_other w' tv' (by simp)).trans ((c1 5).trans h.t5)
  · intro j hj; obtain ⟨v, hv⟩ := h.r j hj; exact ⟨v, (cell_set_other w' tv' (by simp)).trans ((c0 j).trans hv)⟩
  · intro j; rw [World.frozen?_setCell, g0]; exact h.f0 j
  · intro j; rw [World.frozen?_setCell, g1]; exact h.f1 j

/-- six cells set -/
def set6 (w : World) (R : Nat) (u0 u1 u2 u3 u4 u5 : Value) : World :=
  (((((w.setCell ⟨R, 0, none⟩ u0).setCell ⟨R, 1, none⟩ u1).setCell ⟨R, 2, none⟩ u2).setCell ⟨R, 3, none⟩ u3).setCell ⟨R, 4, none⟩ u4).setCell ⟨R, 5, none⟩ u5
theorem set6_cells (w : World) (R : Nat) (u0 u1 u2 u3 u4 u5 : Value) (h : ∀ j, j < 6 → ∃ v, w.cell? ⟨R, j, none⟩ = some v) :
    (set6 w R u0 u1 u2 u3 u4 u5).cell? ⟨R, 0, none⟩ = some u0 ∧ (set6 w R u0 u1 u2 u3 u4 u5).cell? ⟨R, 1, none⟩ = some u1 ∧ (set6 w R u0 u1 u2 u3 u4 u5).cell? ⟨R, 2, none⟩ = some u2 ∧
    (set6 w R u0 u1 u2 u3 u4 u5).cell? ⟨R, 3, none⟩ = some u3 ∧ (set6 w R u0 u1 u2 u3 u4 u5).cell? ⟨R, 4, none⟩ = some u4 ∧ (set6 w R u0 u1 u2 u3 u4 u5).cell? ⟨R, 5, none⟩ = some u5 := by
  obtain ⟨v0, r0⟩ := h 0 (by omega); obtain ⟨v1, r1⟩ := h 1 (by omega); obtain ⟨v2, r2⟩ := h 2 (by omega); obtain ⟨v3, r3⟩ := h 3 (by omega); obtain ⟨v4, r4⟩ := h 4 (by omega); obtain ⟨v5, r5⟩ := h 5 (by omega)
  have o : ∀ (w : World) (i j : Nat) (u : Value), i ≠ j → (w.setCell ⟨R, i, none⟩ u).cell? ⟨R, j, none⟩ = w.cell? ⟨R, j, none⟩ := fun w i j u hij => cell_set_other w u (fun e => hij (by injection e))
  unfold set6
  refine ⟨?_, ?_, ?_, ?_, ?_, ?_⟩
  · rw [o _ 5 0 _ (by omega), o _ 4 0 _ (by omega), o _ 3 0 _ (by omega), o _ 2 0 _ (by omega), o _ 1 0 _ (by omega)]; exact cell_set_same _ _ r0
  · rw [o _ 5 1 _ (by omega), o _ 4 1 _ (by omega), o _ 3 1 _ (by omega), o _ 2 1 _ (by omega)]; exact cell_set_same _ _ ((o _ 0 1 _ (by omega)).trans r1)
  · rw [o _ 5 2 _ (by omega), o _ 4 2 _ (by omega), o _ 3 2 _ (by omega)]; exact cell_set_same _ _ ((o _ 1 2 _ (by omega)).trans ((o _ 0 2 _ (by omega)).trans r2))
  · rw [o _ 5 3 _ (by omega), o _ 4 3 _ (by omega)]; exact cell_set_same _ _ ((o _ 2 3 _ (by omega)).trans ((o _ 1 3 _ (by omega)).trans ((o _ 0 3 _ (by omega)).trans r3)))
  · rw [o _ 5 4 _ (by omega)]; exact cell_set_same _ _ ((o _ 3 4 _ (by omega)).trans ((o _ 2 4 _ (by omega)).trans ((o _ 1 4 _ (by omega)).trans ((o _ 0 4 _ (by omega)).trans r4))))
  · exact cell_set_same _ _ ((o _ 4 5 _ (by omega)).trans ((o _ 3 5 _ (by omega)).trans ((o _ 2 5 _ (by omega)).trans ((o _ 1 5 _ (by omega)).trans ((o _ 0 5 _ (by omega)).trans r5)))))
theorem set6_below {w wr : World} (h : Below w.heap.size w wr) (R : Nat) (hR : w.heap.size ≤ R) (u0 u1 u2 u3 u4 u5 : Value) : Below w.heap.size w (set6 wr R u0 u1 u2 u3 u4 u5) :=
  (((((h.setCell hR _).setCell hR _).setCell hR _).setCell hR _).setCell hR _).setCell hR _
theorem set6_own {wr : World} {B : Nat} {v : Value} {l : List Int} (h : OwnR wr B v l) (R : Nat) (hR : R < B) (u0 u1 u2 u3 u4 u5 : Value) : OwnR (set6 wr R u0 u1 u2 u3 u4 u5) B v l :=
  ownsRow_setCell_below (ownsRow_setCell_below (ownsRow_setCell_below (ownsRow_setCell_below (ownsRow_setCell_below (ownsRow_setCell_below h hR _) hR _) hR _) hR _) hR _) hR _
end Go.Proofs.YtnhnaallalgefaaDoor
