/- Trees as the reference keeps them, in memory. Conditions: as each theorem says. -/
import Derived.Test.YtmfklpacpjoggaaDoorVal
namespace Go.Proofs.YtmfklpacpjoggaaDoor
open Go Go.RowKit Go.Proofs

/-- a node of the reference's -/
inductive RTree where
  | mk (kind : Int) (nums : List Nat) (text : List Int) (name : ByteArray) (char : Int) (kids : List RTree)

mutual
/-- six values that are a node -/
def RN (w : World) : RTree → List Value → Prop
  | .mk k nums text name c kids, vs => ∃ nv tv kv, vs = [.int .i64 k, nv, tv, .string name, .int .i32 c, kv] ∧ Reads1 w nv (nums.map (Value.float .f64)) ∧ Reads1 w tv (text.map (Value.int .i32)) ∧
      ((kids = [] ∧ ∃ a cc, kv = .slice a 0 cc) ∨ (kids ≠ [] ∧ ∃ b o cc, kv = .slice (some ⟨b, o, none⟩) kids.length cc ∧ RKs w b o kids))
/-- nodes that lie behind one another from a place on -/
def RKs (w : World) (b : Nat) : Nat → List RTree → Prop
  | _, [] => True
  | o, t :: ts => (∃ v0 v1 v2 v3 v4 v5, w.cell? ⟨b, o, none⟩ = some v0 ∧ w.cell? ⟨b, o + 1, none⟩ = some v1 ∧ w.cell? ⟨b, o + 2, none⟩ = some v2 ∧ w.cell? ⟨b, o + 3, none⟩ = some v3 ∧ w.cell? ⟨b, o + 4, none⟩ = some v4 ∧ w.cell? ⟨b, o + 5, none⟩ = some v5 ∧
      RN w t [v0, v1, v2, v3, v4, v5]) ∧ RKs w b (o + 6) ts
end

mutual
theorem RN.below {w w' : World} (hb : Below w.heap.size w w') : ∀ (t : RTree) (vs : List Value), RN w t vs → RN w' t vs
  | .mk k nums text name c kids, vs, h => by
    rw [RN] at h ⊢
    obtain ⟨nv, tv, kv, h1, h2, h3, h4⟩ := h
    refine ⟨nv, tv, kv, h1, h2.below hb, h3.below hb, ?_⟩
    rcases h4 with h4 | ⟨h4, b, o, cc, h5, h6⟩
    · exact .inl h4
    · exact .inr ⟨h4, b, o, cc, h5, RKs.below hb b o kids h6⟩
theorem RKs.below {w w' : World} (hb : Below w.heap.size w w') (b : Nat) : ∀ (o : Nat) (ts : List RTree), RKs w b o ts → RKs w' b o ts
  | _, [], _ => by rw [RKs]; trivial
  | o, t :: ts, h => by
    rw [RKs] at h ⊢
    obtain ⟨⟨v0, v1, v2, v3, v4, v5, h0, h1, h2, h3, h4, h5, h6⟩, h7⟩ := h
    have k : ∀ {p : Addr} {v : Value}, w.cell? p = some v → w'.cell? p = some v := fun {p v} h => by rw [hb.cell (cell_lt h)]; exact h
    exact ⟨⟨v0, v1, v2, v3, v4, v5, k h0, k h1, k h2, k h3, k h4, k h5, RN.below hb t _ h6⟩, RKs.below hb b (o + 6) ts h7⟩
end

theorem RKs.at_ {w : World} {b : Nat} : ∀ {ts : List RTree} {o i : Nat} (hi : i < ts.length), RKs w b o ts → ∃ v0 v1 v2 v3 v4 v5, w.cell? ⟨b, o + i * 6, none⟩ = some v0 ∧ w.cell? ⟨b, o + i * 6 + 1, none⟩ = some v1 ∧ w.cell? ⟨b, o + i * 6 + 2, none⟩ = some v2 ∧
    w.cell? ⟨b, o + i * 6 + 3, none⟩ = some v3 ∧ w.cell? ⟨b, o + i * 6 + 4, none⟩ = some v4 ∧ w.cell? ⟨b, o + i * 6 + 5, none⟩ = some v5 ∧ RN w ts[i] [v0, v1, v2, v3, v4, v5]
  | [], _, _, hi, _ => by simp at hi
  | t :: ts, o, 0, _, h => by
    rw [RKs] at h
    simpa using h.1
  | t :: ts, o, i + 1, hi, h => by
    rw [RKs] at h
    have := RKs.at_ (ts := ts) (o := o + 6) (i := i) (by simpa using hi) h.2
    have e : o + 6 + i * 6 = o + (i + 1) * 6 := by omega
    rw [e] at this
    simpa using this

mutual
/-- how many nodes there are -/
def sizeR : RTree → Nat
  | .mk _ _ _ _ _ kids => 1 + sizeRs kids
def sizeRs : List RTree → Nat
  | [] => 0
  | t :: ts => sizeR t + sizeRs ts
end
theorem sizeR_pos : ∀ t : RTree, 1 ≤ sizeR t
  | .mk _ _ _ _ _ _ => by rw [sizeR]; omega
theorem sizeRs_at : ∀ {ts : List RTree} {i : Nat} (hi : i < ts.length), sizeR ts[i] ≤ sizeRs ts
  | [], _, hi => by simp at hi
  | t :: ts, 0, _ => by rw [sizeRs]; simp
  | t :: ts, i + 1, hi => by
    have := sizeRs_at (ts := ts) (i := i) (by simpa using hi)
    rw [sizeRs]; simp; omega
theorem sizeRs_len : ∀ ts : List RTree, ts.length ≤ sizeRs ts
  | [] => by simp [sizeRs]
  | t :: ts => by have := sizeRs_len ts; have := sizeR_pos t; rw [sizeRs]; simp; omega
theorem sizeRs_take : ∀ (ts : List RTree) (i : Nat) (hi : i < ts.length), sizeRs (ts.take (i + 1)) = sizeRs (ts.take i) + sizeR ts[i]
  | [], _, hi => by simp at hi
  | t :: ts, 0, _ => by simp [sizeRs]
  | t :: ts, i + 1, hi => by
    have := sizeRs_take ts i (by simpa using hi)
    simp only [List.take_succ_cons, sizeRs, List.getElem_cons_succ]
    omega
theorem sizeRs_le : ∀ (ts : List RTree) (i : Nat), sizeRs (ts.take i) ≤ sizeRs ts
  | [], i => by simp
  | t :: ts, 0 => by simp [sizeRs]
  | t :: ts, i + 1 => by have := sizeRs_le ts i; simp only [List.take_succ_cons, sizeRs]; omega

/-- a node's slice of nodes, written out: its length, and what lies at each of its places -/
theorem RN.open_ {w : World} {k : Int} {nums : List Nat} {text : List Int} {name : ByteArray} {c : Int} {kids : List RTree} {vs : List Value} (h : RN w (.mk k nums text name c kids) vs) :
    ∃ nv tv A cc m, vs = [.int .i64 k, nv, tv, .string name, .int .i32 c, .slice A m cc] ∧ Reads1 w nv (nums.map (Value.float .f64)) ∧ Reads1 w tv (text.map (Value.int .i32)) ∧ m = kids.length ∧
      ∀ i (hi : i < kids.length), ∃ b o v0 v1 v2 v3 v4 v5, A = some ⟨b, o, none⟩ ∧ RN w kids[i] [v0, v1, v2, v3, v4, v5] ∧ ∀ w1, Below w.heap.size w w1 →
        w1.cell? ⟨b, o + i * 6, none⟩ = some v0 ∧ w1.cell? ⟨b, o + i * 6 + 1, none⟩ = some v1 ∧ w1.cell? ⟨b, o + i * 6 + 2, none⟩ = some v2 ∧ w1.cell? ⟨b, o + i * 6 + 3, none⟩ = some v3 ∧ w1.cell? ⟨b, o + i * 6 + 4, none⟩ = some v4 ∧ w1.cell? ⟨b, o + i * 6 + 5, none⟩ = some v5 := by
  rw [RN] at h
  obtain ⟨nv, tv, kv, h1, h2, h3, h4⟩ := h
  rcases h4 with ⟨rfl, a, cc, rfl⟩ | ⟨h4, b, o, cc, rfl, h6⟩
  · exact ⟨nv, tv, a, cc, 0, h1, h2, h3, rfl, fun i hi => by simp at hi⟩
  · refine ⟨nv, tv, _, cc, _, h1, h2, h3, rfl, fun i hi => ?_⟩
    obtain ⟨v0, v1, v2, v3, v4, v5, c0, c1, c2, c3, c4, c5, hr⟩ := RKs.at_ hi h6
    refine ⟨b, o, v0, v1, v2, v3, v4, v5, rfl, hr, fun w1 hb => ?_⟩
    have k : ∀ {p : Addr} {v : Value}, w.cell? p = some v → w1.cell? p = some v := fun {p v} h => by rw [hb.cell (cell_lt h)]; exact h
    exact ⟨k c0, k c1, k c2, k c3, k c4, k c5⟩
end Go.Proofs.YtmfklpacpjoggaaDoor
