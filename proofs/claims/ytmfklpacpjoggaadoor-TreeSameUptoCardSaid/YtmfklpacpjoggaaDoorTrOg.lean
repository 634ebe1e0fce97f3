/- The walk of of. Conditions: at most 1048576 nodes. -/
import Derived.Test.YtmfklpacpjoggaaDoorTrOf
namespace Go.Proofs.YtmfklpacpjoggaaDoor
open Go Go.RowKit Go.Proofs Fl

theorem info_node : (Tryd.prog.info? 31).map (fun i => (i.zero, i.size, i.bytes)) = some (some (.agg #[.int .i64 0, .int .i64 0, .slice none 0 0, .slice none 0 0, .string ⟨#[]⟩, .int .i32 0, .slice none 0 0]), 7, 112) := by kernel_rfl

/-- one node appended to a row, at a step of a region that draws its order -/
theorem step_pushN {ops : Array Oper} {o : Oper} {a : Act} {K : Act → World → Prop} {Q : Exit → Act → World → Prop} {E : Prop} {w : World} (hgd : o.guard = none) (s x : Operand)
    (ho : o.op = .call { callee := .builtin .append, args := #[s, x], argTypes := #[29, 29] })
    (B : Nat) (v : Value) (n : Nat) (xs : List Value) (hs : a.eval s = v) (hown : w.ownsRow B 31 7 v n xs) (G : Nat) (us : List Value) (hx : a.eval x = .slice (some ⟨G, 0, none⟩) 1 1) (hG : ∀ j, w.cell? ⟨G, j, none⟩ = us[j]?) (hl : us.length = 7) (h1 : ∀ u ∈ us, u.oneCell' = true) (hn : n ≤ 1048576) (hB : B ≤ w.heap.size)
    (h : ∀ r cap n' w', n' = n + 1 → w'.ownsRow B 31 7 (.slice (some ⟨r, 0, none⟩) n' cap) n' (xs ++ us) → w.grownBy w' v.ownBlock → (v.ownBlock = some r ∨ r = w.heap.size) → K (a.put o.dst (.slice (some ⟨r, 0, none⟩) n' cap)) w') :
    if Region.wanted o (yielded ops a.tmps) = true then Oper.wp Tryd.prog o a w K Q else E := by
  obtain ⟨i0, hi0, hz0, hz1, hz2⟩ := info_parts info_node
  refine step_append_lies w hgd s x 29 ho B 31 i0 _ 7 112 Tryd.underlying29 hi0 hz0 hz1 hz2 rfl (by omega) v n xs hs hown ⟨G, 0, none⟩ 1 1 us hx (by omega) ?_ h1 (by omega) (by unfold maxLen; omega) (by omega) hB _ rfl ?_
  · intro j u hj
    have e : (⟨G, 0, none⟩ : Addr).add j = ⟨G, j, none⟩ := by
      unfold Addr.add; split
      · rename_i h0; rw [h0]
      · simp
    rw [e, hG]; exact hj
  · intro r cap w' hown' hg hr _
    exact h r cap _ w' rfl hown' hg hr

/-- the blocks of the nodes in a row under way -/
def FK (w0 w : World) (kv : Value) (W : World) (b : Nat) : Prop := (b < w0.heap.size ∨ w.heap.size + 3 ≤ b) ∧ kv.ownBlock ≠ some b ∧ b < W.heap.size
/-- the memory of of -/
structure OfI (w0 w : World) (vs : List Value) (k c : Int) (nv tv : Value) (name : ByteArray) (kids : List RTree) (i : Nat) (kv : Value) (wr : World) : Prop where
  below : Below w.heap.size w wr
  w0w : Below w0.heap.size w0 w
  sz : w.heap.size + 3 ≤ wr.heap.size
  bx : ∀ j, wr.cell? ⟨w.heap.size, j, none⟩ = vs[j]?
  r : ∀ j, j < 7 → ∃ v, wr.cell? ⟨w.heap.size + 1, j, none⟩ = some v
  fr : ∀ j, wr.frozen? ⟨w.heap.size + 1, j, none⟩ = false
  g : ∀ j, wr.cell? ⟨w.heap.size + 2, j, none⟩ = [.int .i64 k, .int .i64 0, nv, tv, .string name, .int .i32 c, kv][j]?
  fg : ∀ j, wr.frozen? ⟨w.heap.size + 2, j, none⟩ = false
  own : KOwn (FK w0 w kv wr) wr (w.heap.size + 3) kv (kids.take i)

theorem ownsRow_below2 {w w' : World} {B : Nat} {e : TypeId} {s n : Nat} {v : Value} {xs : List Value} (h : w.ownsRow B e s v n xs) (hb : Below w.heap.size w w') : w'.ownsRow B e s v n xs := by
  refine ⟨h.1, ?_⟩
  rcases h.2 with h2 | ⟨g, cap, cur, hv, hbg, hg, r⟩
  · exact .inl h2
  · refine .inr ⟨g, cap, cur, hv, hbg, ?_, r⟩
    have hlt : g < w.heap.size := by
      rcases Nat.lt_or_ge g w.heap.size with hlt | hge
      · exact hlt
      · rw [Array.getElem?_eq_none hge] at hg; cases hg
    rw [hb.block g hlt]; exact hg

theorem OfI.call {w0 w : World} {vs : List Value} {k c : Int} {nv tv : Value} {name : ByteArray} {kids : List RTree} {i : Nat} {kv : Value} {wr w2 : World} (h : OfI w0 w vs k c nv tv name kids i kv wr) (hb : Below wr.heap.size wr w2) : OfI w0 w vs k c nv tv name kids i kv w2 := by
  have hz := h.sz
  have hz2 := hb.size
  have ce : ∀ (b j : Nat), b < wr.heap.size → w2.cell? ⟨b, j, none⟩ = wr.cell? ⟨b, j, none⟩ := fun b j hlt => hb.cell (p := ⟨b, j, none⟩) hlt
  have fe : ∀ (b j : Nat), b < wr.heap.size → w2.frozen? ⟨b, j, none⟩ = wr.frozen? ⟨b, j, none⟩ := fun b j hlt => hb.frozen (p := ⟨b, j, none⟩) hlt
  obtain ⟨vss, hl, h7, hown, ht⟩ := h.own
  refine ⟨h.below.trans (hb.mono h.below.size), h.w0w, by omega, fun j => by rw [ce _ _ (by omega)]; exact h.bx j, fun j hj => by rw [ce _ _ (by omega)]; exact h.r j hj, fun j => by rw [fe _ _ (by omega)]; exact h.fr j,
    fun j => by rw [ce _ _ (by omega)]; exact h.g j, fun j => by rw [fe _ _ (by omega)]; exact h.fg j, vss, hl, h7, ownsRow_below2 hown hb, fun j hj hj2 => ?_⟩
  exact TNF.keep (fun b hF => ⟨hF.1, hF.2.1, by have := hF.2.2; omega⟩) (fun b hF => hb.block b hF.2.2) _ _ (ht j hj hj2)

theorem OfI.push {w0 w : World} {vs : List Value} {k c : Int} {nv tv : Value} {name : ByteArray} {kids : List RTree} {i : Nat} (hi : i < kids.length) {kv : Value} {w2 : World} {z : Nat} (h : OfI w0 w vs k c nv tv name kids i kv w2) (hz : w.heap.size + 3 ≤ z) (hkz : ∀ b, kv.ownBlock = some b → b < z)
    {us : List Value} (hl7 : us.length = 7) (ht : TNF (fun b => (b < w0.heap.size ∨ z ≤ b) ∧ b < w2.heap.size) w2 kids[i] us) {o : Obj} {w3 : World} {r cap n' : Nat} {vss : List (List Value)} (hv1 : vss.length = (kids.take i).length) (hv2 : ∀ v ∈ vss, v.length = 7) (hv3 : ∀ j (hj : j < (kids.take i).length) (h2 : j < vss.length), TNF (FK w0 w kv w2) w2 (kids.take i)[j] vss[j])
    (hn' : n' = i + 1) (hown : w3.ownsRow (w.heap.size + 3) 31 7 (.slice (some ⟨r, 0, none⟩) n' cap) n' (vss.flatten ++ us)) (hg : (w2.alloc o).grownBy w3 kv.ownBlock) (hr : kv.ownBlock = some r ∨ r = (w2.alloc o).heap.size) :
    OfI w0 w vs k c nv tv name kids (i + 1) (.slice (some ⟨r, 0, none⟩) n' cap) (w3.setCell ⟨w.heap.size + 2, 6, none⟩ (.slice (some ⟨r, 0, none⟩) n' cap)) := by
  have hs := h.sz
  have hsz3 : w2.heap.size + 1 ≤ w3.heap.size := by have := hg.size; simpa using this
  have ow := h.own
  obtain ⟨_, _, _, how, _⟩ := ow
  have hlo : ∀ b, kv.ownBlock = some b → w.heap.size + 3 ≤ b ∧ b < w2.heap.size := fun b hb => World.ownsRow.lt how b hb
  have hr2 : w.heap.size + 3 ≤ r := by
    rcases hr with e | e
    · exact (hlo r e).1
    · rw [e]; simp; omega
  have hw0 := h.w0w.size
  have sz4 : (w3.setCell ⟨w.heap.size + 2, 6, none⟩ (.slice (some ⟨r, 0, none⟩) n' cap)).heap.size = w3.heap.size := by simp [World.setCell]
  have same : ∀ b, b < w2.heap.size → kv.ownBlock ≠ some b → b ≠ w.heap.size + 2 → (w3.setCell ⟨w.heap.size + 2, 6, none⟩ (.slice (some ⟨r, 0, none⟩) n' cap)).heap[b]? = w2.heap[b]? := by
    intro b hb h1 h2
    rw [Below.heap_setCell _ _ _ _ (by simpa using h2), hg.block b (by simp; omega) h1.symm, heap_alloc_old w2 o hb]
  have lowne : ∀ b, b < w.heap.size + 3 → kv.ownBlock ≠ some b := fun b hb e => by have := (hlo b e).1; omega
  have ce : ∀ b j, b < w.heap.size + 3 → b ≠ w.heap.size + 2 → (w3.setCell ⟨w.heap.size + 2, 6, none⟩ (.slice (some ⟨r, 0, none⟩) n' cap)).cell? ⟨b, j, none⟩ = w2.cell? ⟨b, j, none⟩ := fun b j h1 h2 => World.cell?_of_block (same b (by omega) (lowne b h1) h2)
  have fe : ∀ b j, b < w.heap.size + 3 → b ≠ w.heap.size + 2 → (w3.setCell ⟨w.heap.size + 2, 6, none⟩ (.slice (some ⟨r, 0, none⟩) n' cap)).frozen? ⟨b, j, none⟩ = w2.frozen? ⟨b, j, none⟩ := fun b j h1 h2 => World.frozen?_of_block (same b (by omega) (lowne b h1) h2)
  have gb : w3.heap[w.heap.size + 2]? = w2.heap[w.heap.size + 2]? := by rw [hg.block _ (by simp; omega) (lowne _ (by omega)).symm, heap_alloc_old w2 o (by omega)]
  have gc : ∀ j, w3.cell? ⟨w.heap.size + 2, j, none⟩ = [.int .i64 k, .int .i64 0, nv, tv, .string name, .int .i32 c, kv][j]? := fun j => by rw [World.cell?_of_block gb]; exact h.g j
  refine ⟨?_, h.w0w, ?_, fun j => ?_, fun j hj => ?_, fun j => ?_, fun j => ?_, fun j => ?_, ?_⟩
  · refine ⟨?_, ?_, ?_, ?_, fun b hb => ?_⟩
    · exact hg.os.trans h.below.os
    · exact hg.tape.trans h.below.tape
    · exact hg.output.trans h.below.output
    · have := h.below.size; rw [sz4]; omega
    · rw [same b (by omega) (lowne b (by omega)) (by omega)]; exact h.below.block b hb
  · rw [sz4]; omega
  · rw [ce _ _ (by omega) (by omega)]; exact h.bx j
  · rw [ce _ _ (by omega) (by omega)]; exact h.r j hj
  · rw [fe _ _ (by omega) (by omega)]; exact h.fr j
  · by_cases e : j = 6
    · subst e; exact World.cell?_setCell_same _ _ _ (gc 6)
    · rw [World.cell?_setCell_other _ _ _ _ (fun e2 => e (by injection e2 with _ e3; exact e3.symm)), gc]
      rcases (show j < 6 ∨ 7 ≤ j by omega) with h1 | h1
      · rcases (show j = 0 ∨ j = 1 ∨ j = 2 ∨ j = 3 ∨ j = 4 ∨ j = 5 by omega) with rfl | rfl | rfl | rfl | rfl | rfl <;> rfl
      · rw [List.getElem?_eq_none (by simpa using h1), List.getElem?_eq_none (by simpa using h1)]
  · rw [World.frozen?_setCell, World.frozen?_of_block (a := ⟨w.heap.size + 2, j, none⟩) gb]; exact h.fg j
  · refine ⟨vss ++ [us], ?_, ?_, ?_, ?_⟩
    · rw [List.length_append, hv1, List.length_take, List.length_take]; simp; omega
    · intro v hv
      rcases List.mem_append.1 hv with hv | hv
      · exact hv2 v hv
      · obtain rfl : v = us := by simpa using hv
        exact hl7
    · have e1 : (vss ++ [us]).flatten = vss.flatten ++ us := by simp
      have e2 : (kids.take (i + 1)).length = n' := by rw [List.length_take]; omega
      rw [e1, e2]
      exact ownsRow_setCell_other hown (by simp [Value.ownBlock]; omega) _
    · have tl : (kids.take i).length = i := by rw [List.length_take]; omega
      intro j hj hj2
      rcases Nat.lt_or_ge j i with h1 | h1
      · rw [List.getElem_append_left (by omega)]
        have := hv3 j (by omega) (by omega)
        rw [List.getElem_take] at this ⊢
        have q1 : ∀ b, FK w0 w kv w2 b → FK w0 w (.slice (some ⟨r, 0, none⟩) n' cap) (w3.setCell ⟨w.heap.size + 2, 6, none⟩ (.slice (some ⟨r, 0, none⟩) n' cap)) b := fun b hF => ⟨hF.1, fun e => by
          have e' : r = b := by simpa [Value.ownBlock] using e
          rcases hr with e2 | e2
          · exact hF.2.1 (by rw [← e']; exact e2)
          · have := hF.2.2; rw [e2] at e'; simp at e'; omega, by have := hF.2.2; rw [sz4]; omega⟩
        exact TNF.keep q1 (fun b hF => same b hF.2.2 hF.2.1 (by rcases hF.1 with h2 | h2 <;> omega)) _ _ this
      · obtain rfl : j = i := by have := hj; rw [List.length_take] at this; omega
        have e3 : (vss ++ [us])[j]'(by simp; omega) = us := by rw [List.getElem_append_right (by omega)]; simp [hv1, tl]
        rw [e3, List.getElem_take]
        have q1 : ∀ b, ((b < w0.heap.size ∨ z ≤ b) ∧ b < w2.heap.size) → FK w0 w (.slice (some ⟨r, 0, none⟩) n' cap) (w3.setCell ⟨w.heap.size + 2, 6, none⟩ (.slice (some ⟨r, 0, none⟩) n' cap)) b := fun b hF => ⟨by rcases hF.1 with h2 | h2 <;> omega, fun e => by
          have e' : r = b := by simpa [Value.ownBlock] using e
          rcases hr with e2 | e2
          · have := hkz r e2
            have := (hlo r e2).1
            rcases hF.1 with h2 | h2 <;> omega
          · have := hF.2; rw [e2] at e'; simp at e'; omega, by have := hF.2; rw [sz4]; omega⟩
        exact TNF.keep q1 (fun b hF => same b hF.2 (fun e => by
          have := hkz b e
          have := (hlo b e).1
          rcases hF.1 with h2 | h2 <;> omega) (by rcases hF.1 with h2 | h2 <;> omega)) _ _ ht
end Go.Proofs.YtmfklpacpjoggaaDoor
