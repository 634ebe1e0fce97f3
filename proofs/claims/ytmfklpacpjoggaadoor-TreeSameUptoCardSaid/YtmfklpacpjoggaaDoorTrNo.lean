/- Trees as the program keeps them, in memory. Conditions: as each theorem says. -/
import Derived.Test.YtmfklpacpjoggaaDoorTrCt
namespace Go.Proofs.YtmfklpacpjoggaaDoor
open Go Go.RowKit Go.Proofs

mutual
/-- seven values that are a node of the program's, wherever it stands -/
def TN (w : World) : RTree → List Value → Prop
  | .mk k nums text name c kids, vs => ∃ (at_ : Int) (nv tv kv : Value), vs = [.int .i64 k, .int .i64 at_, nv, tv, .string name, .int .i32 c, kv] ∧ Reads1 w nv (nums.map (Value.float .f64)) ∧ Reads1 w tv (text.map (Value.int .i32)) ∧
      ((kids = [] ∧ ∃ a cc, kv = .slice a 0 cc) ∨ (kids ≠ [] ∧ ∃ b o cc, kv = .slice (some ⟨b, o, none⟩) kids.length cc ∧ kids.length ≤ cc ∧ TKs w b o kids))
/-- nodes that lie behind one another from a place on -/
def TKs (w : World) (b : Nat) : Nat → List RTree → Prop
  | _, [] => True
  | o, t :: ts => (∃ v0 v1 v2 v3 v4 v5 v6, w.cell? ⟨b, o, none⟩ = some v0 ∧ w.cell? ⟨b, o + 1, none⟩ = some v1 ∧ w.cell? ⟨b, o + 2, none⟩ = some v2 ∧ w.cell? ⟨b, o + 3, none⟩ = some v3 ∧ w.cell? ⟨b, o + 4, none⟩ = some v4 ∧ w.cell? ⟨b, o + 5, none⟩ = some v5 ∧ w.cell? ⟨b, o + 6, none⟩ = some v6 ∧
      TN w t [v0, v1, v2, v3, v4, v5, v6]) ∧ TKs w b (o + 7) ts
end

mutual
theorem TN.below {w w' : World} (hb : Below w.heap.size w w') : ∀ (t : RTree) (vs : List Value), TN w t vs → TN w' t vs
  | .mk k nums text name c kids, vs, h => by
    rw [TN] at h ⊢
    obtain ⟨a, nv, tv, kv, h1, h2, h3, h4⟩ := h
    refine ⟨a, nv, tv, kv, h1, h2.below hb, h3.below hb, ?_⟩
    rcases h4 with h4 | ⟨h4, b, o, cc, h5, h5c, h6⟩
    · exact .inl h4
    · exact .inr ⟨h4, b, o, cc, h5, h5c, TKs.below hb b o kids h6⟩
theorem TKs.below {w w' : World} (hb : Below w.heap.size w w') (b : Nat) : ∀ (o : Nat) (ts : List RTree), TKs w b o ts → TKs w' b o ts
  | _, [], _ => by rw [TKs]; trivial
  | o, t :: ts, h => by
    rw [TKs] at h ⊢
    obtain ⟨⟨v0, v1, v2, v3, v4, v5, v6, h0, h1, h2, h3, h4, h5, h6, h8⟩, h7⟩ := h
    have k : ∀ {p : Addr} {v : Value}, w.cell? p = some v → w'.cell? p = some v := fun {p v} h => by rw [hb.cell (cell_lt h)]; exact h
    exact ⟨⟨v0, v1, v2, v3, v4, v5, v6, k h0, k h1, k h2, k h3, k h4, k h5, k h6, TN.below hb t _ h8⟩, TKs.below hb b (o + 7) ts h7⟩
end

theorem TKs.at_ {w : World} {b : Nat} : ∀ {ts : List RTree} {o i : Nat} (hi : i < ts.length), TKs w b o ts → ∃ v0 v1 v2 v3 v4 v5 v6, w.cell? ⟨b, o + i * 7, none⟩ = some v0 ∧ w.cell? ⟨b, o + i * 7 + 1, none⟩ = some v1 ∧ w.cell? ⟨b, o + i * 7 + 2, none⟩ = some v2 ∧
    w.cell? ⟨b, o + i * 7 + 3, none⟩ = some v3 ∧ w.cell? ⟨b, o + i * 7 + 4, none⟩ = some v4 ∧ w.cell? ⟨b, o + i * 7 + 5, none⟩ = some v5 ∧ w.cell? ⟨b, o + i * 7 + 6, none⟩ = some v6 ∧ TN w ts[i] [v0, v1, v2, v3, v4, v5, v6]
  | [], _, _, hi, _ => by simp at hi
  | t :: ts, o, 0, _, h => by
    rw [TKs] at h
    simpa using h.1
  | t :: ts, o, i + 1, hi, h => by
    rw [TKs] at h
    have := TKs.at_ (ts := ts) (o := o + 7) (i := i) (by simpa using hi) h.2
    have e : o + 7 + i * 7 = o + (i + 1) * 7 := by omega
    rw [e] at this
    simpa using this

/-- a node's slice of nodes, written out: its length, and what lies at each of its places -/
theorem TN.open_ {w : World} {k : Int} {nums : List Nat} {text : List Int} {name : ByteArray} {c : Int} {kids : List RTree} {vs : List Value} (h : TN w (.mk k nums text name c kids) vs) :
    ∃ (at_ : Int) (nv tv : Value) (A : Option Addr) (cc m : Nat), vs = [.int .i64 k, .int .i64 at_, nv, tv, .string name, .int .i32 c, .slice A m cc] ∧ Reads1 w nv (nums.map (Value.float .f64)) ∧ Reads1 w tv (text.map (Value.int .i32)) ∧ m = kids.length ∧
      ∀ i (hi : i < kids.length), ∃ b o v0 v1 v2 v3 v4 v5 v6, A = some ⟨b, o, none⟩ ∧ TN w kids[i] [v0, v1, v2, v3, v4, v5, v6] ∧ ∀ w1, Below w.heap.size w w1 →
        w1.cell? ⟨b, o + i * 7, none⟩ = some v0 ∧ w1.cell? ⟨b, o + i * 7 + 1, none⟩ = some v1 ∧ w1.cell? ⟨b, o + i * 7 + 2, none⟩ = some v2 ∧ w1.cell? ⟨b, o + i * 7 + 3, none⟩ = some v3 ∧ w1.cell? ⟨b, o + i * 7 + 4, none⟩ = some v4 ∧ w1.cell? ⟨b, o + i * 7 + 5, none⟩ = some v5 ∧ w1.cell? ⟨b, o + i * 7 + 6, none⟩ = some v6 := by
  rw [TN] at h
  obtain ⟨at_, nv, tv, kv, h1, h2, h3, h4⟩ := h
  rcases h4 with ⟨rfl, a, cc, rfl⟩ | ⟨h4, b, o, cc, rfl, _, h6⟩
  · exact ⟨at_, nv, tv, a, cc, 0, h1, h2, h3, rfl, fun i hi => by simp at hi⟩
  · refine ⟨at_, nv, tv, _, cc, _, h1, h2, h3, rfl, fun i hi => ?_⟩
    obtain ⟨v0, v1, v2, v3, v4, v5, v6, c0, c1, c2, c3, c4, c5, c6, hr⟩ := TKs.at_ hi h6
    refine ⟨b, o, v0, v1, v2, v3, v4, v5, v6, rfl, hr, fun w1 hb => ?_⟩
    have k : ∀ {p : Addr} {v : Value}, w.cell? p = some v → w1.cell? p = some v := fun {p v} h => by rw [hb.cell (cell_lt h)]; exact h
    exact ⟨k c0, k c1, k c2, k c3, k c4, k c5, k c6⟩

theorem TN.cap {w : World} {k : Int} {nums : List Nat} {text : List Int} {name : ByteArray} {c : Int} {kids : List RTree} {u0 u1 u2 u3 u4 u5 : Value} {A : Option Addr} {m cc : Nat} (h : TN w (.mk k nums text name c kids) [u0, u1, u2, u3, u4, u5, .slice A m cc]) : m ≤ cc := by
  rw [TN] at h
  obtain ⟨at_, nv, tv, kv, h1, h2, h3, h4⟩ := h
  simp only [List.cons.injEq, and_true] at h1
  obtain ⟨_, _, _, _, _, _, h7⟩ := h1
  rcases h4 with ⟨_, a, c2, rfl⟩ | ⟨_, b, o, c2, rfl, hc, _⟩
  · cases h7; omega
  · cases h7; exact hc

/-- the position of a node does not count -/
theorem TN.moved {w : World} {t : RTree} {k v1 v2 v3 v4 v5 v6 : Value} (h : TN w t [k, v1, v2, v3, v4, v5, v6]) (a : Int) : TN w t [k, .int .i64 a, v2, v3, v4, v5, v6] := by
  cases t with
  | mk k nums text name c kids =>
    rw [TN] at h ⊢
    obtain ⟨at_, nv, tv, kv, h1, h2, h3, h4⟩ := h
    simp only [List.cons.injEq, and_true] at h1
    obtain ⟨rfl, rfl, rfl, rfl, rfl, rfl, rfl⟩ := h1
    exact ⟨a, _, _, _, rfl, h2, h3, h4⟩
end Go.Proofs.YtmfklpacpjoggaaDoor
