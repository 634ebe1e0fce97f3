/- The walk of of, whole. Conditions: at most 1048576 nodes. -/
import Derived.Test.YtmfklpacpjoggaaDoorTrOg
namespace Go.Proofs.YtmfklpacpjoggaaDoor
open Go Go.RowKit Go.Proofs Fl

/-- what of tells -/
def OfTells (w0 w : World) (t : RTree) (e : Ending) (w' : World) : Prop := ∃ (k a c : Int) (name : ByteArray) (A1 A2 A3 : Option Addr) (n1 c1 n2 c2 n3 c3 : Nat), e = .returned (.agg #[.int .i64 k, .int .i64 a, .slice A1 n1 c1, .slice A2 n2 c2, .string name, .int .i32 c, .slice A3 n3 c3]) ∧
  TNF (fun b => (b < w0.heap.size ∨ w.heap.size ≤ b) ∧ b < w'.heap.size) w' t [.int .i64 k, .int .i64 a, .slice A1 n1 c1, .slice A2 n2 c2, .string name, .int .i32 c, .slice A3 n3 c3]

theorem OfI.start (w0 w : World) (hb : Below w0.heap.size w0 w) (x0 x1 x2 x3 x4 x5 : Value) (k c : Int) (nv tv : Value) (name : ByteArray) (kids : List RTree) : OfI w0 w [x0, x1, x2, x3, x4, x5] k c nv tv name kids 0 (.slice none 0 0)
    (((w.alloc (.cells #[x0, x1, x2, x3, x4, x5] 26)).alloc (.cells #[.int .i64 0, .int .i64 0, .slice none 0 0, .slice none 0 0, .string ⟨#[]⟩, .int .i32 0, .slice none 0 0] 31)).alloc (.cells #[.int .i64 k, .int .i64 0, nv, tv, .string name, .int .i32 c, .slice none 0 0] 31)) := by
  refine ⟨(((Below.refl _ w).alloc (Nat.le_refl _) _).alloc (by simp) _).alloc (by simp; omega) _, hb, by simp, fun j => ?_, fun j hj => ?_, fun j => ?_, fun j => ?_, fun j => ?_, KOwn.nil _ _ _⟩
  · rw [World.cell?_alloc_past _ _ _ (by simp <;> omega), World.cell?_alloc_past _ _ _ (by simp), World.cell?_alloc_at _ _ _ _ rfl]; simp
  · rw [World.cell?_alloc_past _ _ _ (by simp), World.cell?_alloc_at _ _ _ _ (by simp)]
    rcases (show j = 0 ∨ j = 1 ∨ j = 2 ∨ j = 3 ∨ j = 4 ∨ j = 5 ∨ j = 6 by omega) with rfl | rfl | rfl | rfl | rfl | rfl | rfl
    all_goals exact ⟨_, rfl⟩
  · rw [World.frozen?_alloc_past _ _ _ (by simp), World.frozen?_alloc_at _ _ _ _ (by simp)]
  · rw [World.cell?_alloc_at _ _ _ _ (by simp)]; simp
  · rw [World.frozen?_alloc_at _ _ _ _ (by simp)]

def set7 (w : World) (R : Nat) (u0 u1 u2 u3 u4 u5 u6 : Value) : World :=
  ((((((w.setCell ⟨R, 0, none⟩ u0).setCell ⟨R, 1, none⟩ u1).setCell ⟨R, 2, none⟩ u2).setCell ⟨R, 3, none⟩ u3).setCell ⟨R, 4, none⟩ u4).setCell ⟨R, 5, none⟩ u5).setCell ⟨R, 6, none⟩ u6
theorem set7_block (w : World) (R : Nat) (u0 u1 u2 u3 u4 u5 u6 : Value) (b : Nat) (h : b ≠ R) : (set7 w R u0 u1 u2 u3 u4 u5 u6).heap[b]? = w.heap[b]? := by
  unfold set7
  rw [Below.heap_setCell _ _ _ _ (by simpa using h), Below.heap_setCell _ _ _ _ (by simpa using h), Below.heap_setCell _ _ _ _ (by simpa using h), Below.heap_setCell _ _ _ _ (by simpa using h), Below.heap_setCell _ _ _ _ (by simpa using h), Below.heap_setCell _ _ _ _ (by simpa using h), Below.heap_setCell _ _ _ _ (by simpa using h)]
theorem set7_size (w : World) (R : Nat) (u0 u1 u2 u3 u4 u5 u6 : Value) : (set7 w R u0 u1 u2 u3 u4 u5 u6).heap.size = w.heap.size := by unfold set7; simp [World.setCell]
theorem set7_cells (w : World) (R : Nat) (u0 u1 u2 u3 u4 u5 u6 : Value) (h : ∀ j, j < 7 → ∃ v, w.cell? ⟨R, j, none⟩ = some v) :
    (set7 w R u0 u1 u2 u3 u4 u5 u6).cell? ⟨R, 0, none⟩ = some u0 ∧ (set7 w R u0 u1 u2 u3 u4 u5 u6).cell? ⟨R, 1, none⟩ = some u1 ∧ (set7 w R u0 u1 u2 u3 u4 u5 u6).cell? ⟨R, 2, none⟩ = some u2 ∧
    (set7 w R u0 u1 u2 u3 u4 u5 u6).cell? ⟨R, 3, none⟩ = some u3 ∧ (set7 w R u0 u1 u2 u3 u4 u5 u6).cell? ⟨R, 4, none⟩ = some u4 ∧ (set7 w R u0 u1 u2 u3 u4 u5 u6).cell? ⟨R, 5, none⟩ = some u5 ∧ (set7 w R u0 u1 u2 u3 u4 u5 u6).cell? ⟨R, 6, none⟩ = some u6 := by
  obtain ⟨v0, h0⟩ := h 0 (by omega); obtain ⟨v1, h1⟩ := h 1 (by omega); obtain ⟨v2, h2⟩ := h 2 (by omega); obtain ⟨v3, h3⟩ := h 3 (by omega); obtain ⟨v4, h4⟩ := h 4 (by omega); obtain ⟨v5, h5⟩ := h 5 (by omega); obtain ⟨v6, h6⟩ := h 6 (by omega)
  have o : ∀ (w : World) (i j : Nat) (u : Value), i ≠ j → (w.setCell ⟨R, i, none⟩ u).cell? ⟨R, j, none⟩ = w.cell? ⟨R, j, none⟩ := fun w i j u hij => World.cell?_setCell_other w _ _ _ (fun e => hij (by injection e))
  have s : ∀ (w : World) (i : Nat) (u v : Value), w.cell? ⟨R, i, none⟩ = some v → (w.setCell ⟨R, i, none⟩ u).cell? ⟨R, i, none⟩ = some u := fun w i u v h => World.cell?_setCell_same w _ _ h
  unfold set7
  refine ⟨?_, ?_, ?_, ?_, ?_, ?_, ?_⟩
  · rw [o _ 6 0 _ (by omega), o _ 5 0 _ (by omega), o _ 4 0 _ (by omega), o _ 3 0 _ (by omega), o _ 2 0 _ (by omega), o _ 1 0 _ (by omega)]; exact s _ _ _ _ h0
  · rw [o _ 6 1 _ (by omega), o _ 5 1 _ (by omega), o _ 4 1 _ (by omega), o _ 3 1 _ (by omega), o _ 2 1 _ (by omega)]; exact s _ _ _ v1 (by rw [o _ 0 1 _ (by omega)]; exact h1)
  · rw [o _ 6 2 _ (by omega), o _ 5 2 _ (by omega), o _ 4 2 _ (by omega), o _ 3 2 _ (by omega)]; exact s _ _ _ v2 (by rw [o _ 1 2 _ (by omega), o _ 0 2 _ (by omega)]; exact h2)
  · rw [o _ 6 3 _ (by omega), o _ 5 3 _ (by omega), o _ 4 3 _ (by omega)]; exact s _ _ _ v3 (by rw [o _ 2 3 _ (by omega), o _ 1 3 _ (by omega), o _ 0 3 _ (by omega)]; exact h3)
  · rw [o _ 6 4 _ (by omega), o _ 5 4 _ (by omega)]; exact s _ _ _ v4 (by rw [o _ 3 4 _ (by omega), o _ 2 4 _ (by omega), o _ 1 4 _ (by omega), o _ 0 4 _ (by omega)]; exact h4)
  · rw [o _ 6 5 _ (by omega)]; exact s _ _ _ v5 (by rw [o _ 4 5 _ (by omega), o _ 3 5 _ (by omega), o _ 2 5 _ (by omega), o _ 1 5 _ (by omega), o _ 0 5 _ (by omega)]; exact h5)
  · exact s _ _ _ v6 (by rw [o _ 5 6 _ (by omega), o _ 4 6 _ (by omega), o _ 3 6 _ (by omega), o _ 2 6 _ (by omega), o _ 1 6 _ (by omega), o _ 0 6 _ (by omega)]; exact h6)

theorem set7_below {w wr : World} (h : Below w.heap.size w wr) (R : Nat) (hR : w.heap.size ≤ R) (u0 u1 u2 u3 u4 u5 u6 : Value) : Below w.heap.size w (set7 wr R u0 u1 u2 u3 u4 u5 u6) :=
  ((((((h.setCell hR _).setCell hR _).setCell hR _).setCell hR _).setCell hR _).setCell hR _).setCell hR _

/-- the end of of: the tree in its last world -/
theorem OfI.done {w0 w : World} {vs : List Value} {k c : Int} {nums : List Nat} {text : List Int} {nv tv : Value} {name : ByteArray} {kids : List RTree} {kv : Value} {wr : World} (h : OfI w0 w vs k c nv tv name kids kids.length kv wr)
    (hn : Reads1 w0 nv (nums.map (Value.float .f64))) (ht : Reads1 w0 tv (text.map (Value.int .i32))) (u0 u1 u2 u3 u4 u5 u6 : Value) :
    TNF (fun b => (b < w0.heap.size ∨ w.heap.size ≤ b) ∧ b < (set7 wr (w.heap.size + 1) u0 u1 u2 u3 u4 u5 u6).heap.size) (set7 wr (w.heap.size + 1) u0 u1 u2 u3 u4 u5 u6) (.mk k nums text name c kids) [.int .i64 k, .int .i64 0, nv, tv, .string name, .int .i32 c, kv] ∧ Below w.heap.size w (set7 wr (w.heap.size + 1) u0 u1 u2 u3 u4 u5 u6) := by
  have hw0 := h.w0w.size
  have hsz := h.sz
  have hbl : Below w.heap.size w (set7 wr (w.heap.size + 1) u0 u1 u2 u3 u4 u5 u6) := set7_below h.below _ (by omega) _ _ _ _ _ _ _
  refine ⟨?_, hbl⟩
  have hb0 : ∀ b, b < w0.heap.size → (set7 wr (w.heap.size + 1) u0 u1 u2 u3 u4 u5 u6).heap[b]? = w0.heap[b]? := fun b hb => by rw [hbl.block b (by omega)]; exact h.w0w.block b hb
  have hF0 : ∀ b, b < w0.heap.size → ((b < w0.heap.size ∨ w.heap.size ≤ b) ∧ b < (set7 wr (w.heap.size + 1) u0 u1 u2 u3 u4 u5 u6).heap.size) := fun b hb => ⟨.inl hb, by rw [set7_size]; omega⟩
  rw [TNF]
  refine ⟨0, nv, tv, kv, rfl, (Reads1.foot hn).keep hF0 hb0, (Reads1.foot ht).keep hF0 hb0, ?_⟩
  have ow := h.own
  rw [List.take_length] at ow
  by_cases hk : kids = []
  · subst hk
    obtain ⟨vss, _, _, hown, _⟩ := ow
    rcases hown.2 with ⟨rfl, _⟩ | ⟨g, cap, cur, rfl, _⟩
    · exact .inl ⟨rfl, _, _, rfl⟩
    · exact .inl ⟨rfl, _, _, rfl⟩
  · obtain ⟨r, cc, rfl, hc, hr1, hr2, htk⟩ := ow.tks hk
    have keep : ∀ b, w.heap.size + 3 ≤ b ∨ b < w.heap.size → (set7 wr (w.heap.size + 1) u0 u1 u2 u3 u4 u5 u6).heap[b]? = wr.heap[b]? := fun b hb => set7_block _ _ _ _ _ _ _ _ _ _ (by omega)
    -- the row's own block beside the blocks of its nodes
    have htk2 : TKsF (fun b => ((b < w0.heap.size ∨ w.heap.size + 3 ≤ b) ∧ b < wr.heap.size)) wr r 0 kids := by
      exact TKsF.weaken (fun b hF => ⟨hF.1, hF.2.2⟩) r 0 kids htk
    refine .inr ⟨hk, r, 0, cc, rfl, hc, ⟨.inr (by omega), by rw [set7_size]; omega⟩, ?_⟩
    exact TKsF.keep (F := fun b => ((b < w0.heap.size ∨ w.heap.size + 3 ≤ b) ∧ b < wr.heap.size)) (fun b hF => ⟨by rcases hF.1 with h1 | h1 <;> omega, by rw [set7_size]; exact hF.2⟩) (fun b hF => keep b (by rcases hF.1 with h1 | h1 <;> omega)) r ⟨.inr hr1, hr2⟩ 0 kids htk2
end Go.Proofs.YtmfklpacpjoggaaDoor
