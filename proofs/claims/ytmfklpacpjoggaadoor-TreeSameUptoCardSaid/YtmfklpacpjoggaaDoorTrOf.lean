/- The program's tree of a reference's tree: memory with its footprint; the walk of of. Conditions: at most 1048576 nodes. -/
import Derived.Test.YtmfklpacpjoggaaDoorTrNd
import Derived.Deep.RegionHeld3
import Derived.Deep.AppendLies
namespace Go.Proofs.YtmfklpacpjoggaaDoor
open Go Go.RowKit Go.Proofs Fl

/-- a slice that reads as a list, out of blocks of a kind -/
def ReadsF (F : Nat → Prop) (w : World) (v : Value) (xs : List Value) : Prop :=
  (∃ a c, v = .slice a 0 c ∧ xs = []) ∨
  (∃ b o n c, v = .slice (some ⟨b, o, none⟩) n c ∧ n = xs.length ∧ F b ∧ ∀ i (h : i < xs.length), w.cell? ⟨b, o + i, none⟩ = some xs[i])
theorem ReadsF.reads {F : Nat → Prop} {w : World} {v : Value} {xs : List Value} (h : ReadsF F w v xs) : Reads1 w v xs := by
  rcases h with h | ⟨b, o, n, c, h1, h2, _, h3⟩
  · exact .inl h
  · exact .inr ⟨b, o, n, c, h1, h2, h3⟩
theorem ReadsF.keep {F F' : Nat → Prop} {w w' : World} {v : Value} {xs : List Value} (hF : ∀ b, F b → F' b) (hk : ∀ b, F b → w'.heap[b]? = w.heap[b]?) (h : ReadsF F w v xs) : ReadsF F' w' v xs := by
  rcases h with h | ⟨b, o, n, c, h1, h2, hb, h3⟩
  · exact .inl h
  · exact .inr ⟨b, o, n, c, h1, h2, hF b hb, fun i hi => by rw [World.cell?_of_block (hk b hb)]; exact h3 i hi⟩
theorem Reads1.foot {w : World} {v : Value} {xs : List Value} (h : Reads1 w v xs) : ReadsF (fun b => b < w.heap.size) w v xs := by
  rcases h with h | ⟨b, o, n, c, h1, h2, h3⟩
  · exact .inl h
  · cases xs with
    | nil => subst h1; subst h2; exact .inl ⟨_, c, rfl, rfl⟩
    | cons x xs => exact .inr ⟨b, o, n, c, h1, h2, cell_lt (h3 0 (by simp)), h3⟩

mutual
/-- seven values that are a node, out of blocks of a kind -/
def TNF (F : Nat → Prop) (w : World) : RTree → List Value → Prop
  | .mk k nums text name c kids, vs => ∃ (at_ : Int) (nv tv kv : Value), vs = [.int .i64 k, .int .i64 at_, nv, tv, .string name, .int .i32 c, kv] ∧ ReadsF F w nv (nums.map (Value.float .f64)) ∧ ReadsF F w tv (text.map (Value.int .i32)) ∧
      ((kids = [] ∧ ∃ a cc, kv = .slice a 0 cc) ∨ (kids ≠ [] ∧ ∃ b o cc, kv = .slice (some ⟨b, o, none⟩) kids.length cc ∧ kids.length ≤ cc ∧ F b ∧ TKsF F w b o kids))
def TKsF (F : Nat → Prop) (w : World) (b : Nat) : Nat → List RTree → Prop
  | _, [] => True
  | o, t :: ts => (∃ v0 v1 v2 v3 v4 v5 v6, w.cell? ⟨b, o, none⟩ = some v0 ∧ w.cell? ⟨b, o + 1, none⟩ = some v1 ∧ w.cell? ⟨b, o + 2, none⟩ = some v2 ∧ w.cell? ⟨b, o + 3, none⟩ = some v3 ∧ w.cell? ⟨b, o + 4, none⟩ = some v4 ∧ w.cell? ⟨b, o + 5, none⟩ = some v5 ∧ w.cell? ⟨b, o + 6, none⟩ = some v6 ∧
      TNF F w t [v0, v1, v2, v3, v4, v5, v6]) ∧ TKsF F w b (o + 7) ts
end
mutual
theorem TNF.tn {F : Nat → Prop} {w : World} : ∀ (t : RTree) (vs : List Value), TNF F w t vs → TN w t vs
  | .mk k nums text name c kids, vs, h => by
    rw [TNF] at h
    rw [TN]
    obtain ⟨a, nv, tv, kv, h1, h2, h3, h4⟩ := h
    refine ⟨a, nv, tv, kv, h1, h2.reads, h3.reads, ?_⟩
    rcases h4 with h4 | ⟨h4, b, o, cc, h5, h5c, _, h6⟩
    · exact .inl h4
    · exact .inr ⟨h4, b, o, cc, h5, h5c, TKsF.tks b o kids h6⟩
theorem TKsF.tks {F : Nat → Prop} {w : World} (b : Nat) : ∀ (o : Nat) (ts : List RTree), TKsF F w b o ts → TKs w b o ts
  | _, [], _ => by rw [TKs]; trivial
  | o, t :: ts, h => by
    rw [TKsF] at h
    rw [TKs]
    obtain ⟨⟨v0, v1, v2, v3, v4, v5, v6, h0, h1, h2, h3, h4, h5, h6, h8⟩, h7⟩ := h
    exact ⟨⟨v0, v1, v2, v3, v4, v5, v6, h0, h1, h2, h3, h4, h5, h6, TNF.tn t _ h8⟩, TKsF.tks b (o + 7) ts h7⟩
end
mutual
theorem TNF.keep {F F' : Nat → Prop} {w w' : World} (hF : ∀ b, F b → F' b) (hk : ∀ b, F b → w'.heap[b]? = w.heap[b]?) : ∀ (t : RTree) (vs : List Value), TNF F w t vs → TNF F' w' t vs
  | .mk k nums text name c kids, vs, h => by
    rw [TNF] at h ⊢
    obtain ⟨a, nv, tv, kv, h1, h2, h3, h4⟩ := h
    refine ⟨a, nv, tv, kv, h1, h2.keep hF hk, h3.keep hF hk, ?_⟩
    rcases h4 with h4 | ⟨h4, b, o, cc, h5, h5c, hb, h6⟩
    · exact .inl h4
    · exact .inr ⟨h4, b, o, cc, h5, h5c, hF b hb, TKsF.keep hF hk b hb o kids h6⟩
theorem TKsF.keep {F F' : Nat → Prop} {w w' : World} (hF : ∀ b, F b → F' b) (hk : ∀ b, F b → w'.heap[b]? = w.heap[b]?) (b : Nat) (hb : F b) : ∀ (o : Nat) (ts : List RTree), TKsF F w b o ts → TKsF F' w' b o ts
  | _, [], _ => by rw [TKsF]; trivial
  | o, t :: ts, h => by
    rw [TKsF] at h ⊢
    obtain ⟨⟨v0, v1, v2, v3, v4, v5, v6, h0, h1, h2, h3, h4, h5, h6, h8⟩, h7⟩ := h
    have k : ∀ {i : Nat} {v : Value}, w.cell? ⟨b, i, none⟩ = some v → w'.cell? ⟨b, i, none⟩ = some v := fun {i v} h => by rw [World.cell?_of_block (hk b hb)]; exact h
    exact ⟨⟨v0, v1, v2, v3, v4, v5, v6, k h0, k h1, k h2, k h3, k h4, k h5, k h6, TNF.keep hF hk t _ h8⟩, TKsF.keep hF hk b hb (o + 7) ts h7⟩
end

theorem TKsF.weaken {F F' : Nat → Prop} {w : World} (hF : ∀ b, F b → F' b) (b : Nat) : ∀ (o : Nat) (ts : List RTree), TKsF F w b o ts → TKsF F' w b o ts
  | _, [], _ => by rw [TKsF]; trivial
  | o, t :: ts, h => by
    rw [TKsF] at h ⊢
    obtain ⟨⟨v0, v1, v2, v3, v4, v5, v6, h0, h1, h2, h3, h4, h5, h6, h8⟩, h7⟩ := h
    exact ⟨⟨v0, v1, v2, v3, v4, v5, v6, h0, h1, h2, h3, h4, h5, h6, TNF.keep hF (fun _ _ => rfl) t _ h8⟩, TKsF.weaken hF b (o + 7) ts h7⟩

/-- a row of nodes that the call owns -/
def KOwn (F : Nat → Prop) (w : World) (B : Nat) (v : Value) (kids : List RTree) : Prop :=
  ∃ vss : List (List Value), vss.length = kids.length ∧ (∀ vs ∈ vss, vs.length = 7) ∧ w.ownsRow B 31 7 v kids.length vss.flatten ∧ ∀ i (h : i < kids.length) (h2 : i < vss.length), TNF F w kids[i] vss[i]
theorem KOwn.nil (F : Nat → Prop) (w : World) (B : Nat) : KOwn F w B (.slice none 0 0) [] :=
  ⟨[], rfl, by simp, World.ownsRow_nil w B _ _, fun i h => by simp at h⟩
theorem flat7 : ∀ (vss : List (List Value)) (_ : ∀ vs ∈ vss, vs.length = 7) (i j : Nat) (hi : i < vss.length) (_ : j < 7), vss.flatten[i * 7 + j]? = vss[i][j]?
  | [], _, i, _, hi, _ => by simp at hi
  | vs :: vss, h, 0, j, _, hj => by
    have := h vs (by simp)
    rw [List.flatten_cons, List.getElem?_append_left (by omega)]; simp
  | vs :: vss, h, i + 1, j, hi, hj => by
    have h7 := h vs (by simp)
    rw [List.flatten_cons, List.getElem?_append_right (by omega)]
    have e : (i + 1) * 7 + j - vs.length = i * 7 + j := by omega
    rw [e, flat7 vss (fun v hv => h v (by simp [hv])) i j (by simpa using hi) hj]
    simp
theorem KOwn.tks {F : Nat → Prop} {w : World} {B : Nat} {v : Value} {kids : List RTree} (h : KOwn F w B v kids) (hne : kids ≠ []) : ∃ r cc, v = .slice (some ⟨r, 0, none⟩) kids.length cc ∧ kids.length ≤ cc ∧ B ≤ r ∧ r < w.heap.size ∧ TKsF F w r 0 kids := by
  obtain ⟨vss, hl, h7, hown, ht⟩ := h
  have hn : 0 < kids.length := List.length_pos_iff.2 hne
  have hlt := World.ownsRow.lt hown
  have hcell : ∀ {g : Nat}, v.ownBlock = some g → ∀ j u, vss.flatten[j]? = some u → w.cell? ((⟨g, 0, none⟩ : Addr).add j) = some u := fun hg => World.ownsRow.cells hown hg
  rcases hown.2 with ⟨_, h0⟩ | ⟨r, cap, cur, rfl, hbr, hg, hnc, _⟩
  · omega
  · refine ⟨r, cap, rfl, hnc, hbr, (hlt r rfl).2, ?_⟩
    have key : ∀ (n o : Nat) (ts : List RTree), ts = kids.drop n → o = n * 7 → TKsF F w r o ts := by
      intro n o ts
      induction ts generalizing n o with
      | nil => intro _ _; rw [TKsF]; trivial
      | cons t ts ih =>
        intro h1 h2
        have hnl : n < kids.length := by
          rcases Nat.lt_or_ge n kids.length with h | h
          · exact h
          · rw [List.drop_eq_nil_of_le h] at h1; cases h1
        rw [List.drop_eq_getElem_cons hnl] at h1
        obtain ⟨rfl, h3⟩ := List.cons.inj h1
        have hvl := h7 vss[n] (List.getElem_mem (by omega))
        obtain ⟨v0, v1, v2, v3, v4, v5, v6, hv⟩ : ∃ v0 v1 v2 v3 v4 v5 v6, vss[n] = [v0, v1, v2, v3, v4, v5, v6] := by
          match vss[n], hvl with
          | [v0, v1, v2, v3, v4, v5, v6], _ => exact ⟨v0, v1, v2, v3, v4, v5, v6, rfl⟩
        have ht2 := ht n hnl (by omega)
        rw [hv] at ht2
        have hc : ∀ j u, j < 7 → [v0, v1, v2, v3, v4, v5, v6][j]? = some u → w.cell? ⟨r, o + j, none⟩ = some u := by
          intro j u hj hu
          have := hcell (g := r) rfl (n * 7 + j) u (by rw [flat7 vss h7 n j (by omega) hj, hv]; exact hu)
          rw [h2]
          have e : (⟨r, 0, none⟩ : Addr).add (n * 7 + j) = ⟨r, n * 7 + j, none⟩ := by
            unfold Addr.add; split
            · rename_i h0; rw [h0]
            · simp
          rw [← e]; exact this
        rw [TKsF]
        exact ⟨⟨v0, v1, v2, v3, v4, v5, v6, hc 0 _ (by omega) rfl, hc 1 _ (by omega) rfl, hc 2 _ (by omega) rfl, hc 3 _ (by omega) rfl, hc 4 _ (by omega) rfl, hc 5 _ (by omega) rfl, hc 6 _ (by omega) rfl, ht2⟩, ih (n + 1) (o + 7) h3 (by omega)⟩
    exact key 0 0 kids rfl rfl
end Go.Proofs.YtmfklpacpjoggaaDoor
