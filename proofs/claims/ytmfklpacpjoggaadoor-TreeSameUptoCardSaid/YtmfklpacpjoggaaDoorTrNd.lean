/- A node of the program's, taken apart: what a walk through it wants. Conditions: as each theorem says. -/
import Derived.Test.YtmfklpacpjoggaaDoorTrNm
namespace Go.Proofs.YtmfklpacpjoggaaDoor
open Go Go.RowKit Go.Proofs Fl

mutual
/-- a tree whose parts are no longer than a call can hold -/
def FitG : RTree → Prop
  | .mk _ nums text name _ kids => nums.length ≤ 1048576 ∧ (∀ x ∈ nums, x < 18446744073709551616) ∧ text.length ≤ 1048576 ∧ name.size ≤ 70368744177664 ∧ kids.length ≤ 1048576 ∧ FitGs kids
def FitGs : List RTree → Prop
  | [] => True
  | t :: ts => FitG t ∧ FitGs ts
end
theorem FitGs_at : ∀ {ts : List RTree} (_ : FitGs ts) {i : Nat} (hi : i < ts.length), FitG ts[i]
  | [], _, _, hi => by simp at hi
  | t :: ts, h, 0, _ => by rw [FitGs] at h; exact h.1
  | t :: ts, h, i + 1, hi => by rw [FitGs] at h; exact FitGs_at h.2 (by simpa using hi)

/-- what a walk through a node wants -/
structure NodeW (N : Nat) (w : World) (A1 : Option Addr) (n1 c1 : Nat) (A2 : Option Addr) (n2 c2 : Nat) (name : ByteArray) (A : Option Addr) (m cc : Nat) (nums : List Nat) (text : List Int) (kids : List RTree) : Prop where
  hn : n1 = nums.length
  ht : n2 = text.length
  hm : m = kids.length
  hrn : Reads1 w (.slice A1 n1 c1) (nums.map (Value.float .f64))
  hrt : Reads1 w (.slice A2 n2 c2) (text.map (Value.int .i32))
  hkid : KidsAt w A kids
  hcap : m ≤ cc
  fn : nums.length ≤ 1048576
  fx : ∀ x ∈ nums, x < 18446744073709551616
  ft : text.length ≤ 1048576
  fs : name.size ≤ 70368744177664
  fm : m ≤ 1048576
  ok : ∀ i (hi : i < kids.length), sizeR kids[i] ≤ N ∧ FitG kids[i]

theorem TN.node {N : Nat} {w : World} {k : Int} {nums : List Nat} {text : List Int} {name : ByteArray} {c : Int} {kids : List RTree} {vs : List Value} (h : TN w (.mk k nums text name c kids) vs) (hf : FitG (.mk k nums text name c kids)) (hN : sizeR (.mk k nums text name c kids) ≤ N + 1) :
    ∃ at1 A1 n1 c1 A2 n2 c2 A m cc, vs = [.int .i64 k, .int .i64 at1, .slice A1 n1 c1, .slice A2 n2 c2, .string name, .int .i32 c, .slice A m cc] ∧ NodeW N w A1 n1 c1 A2 n2 c2 name A m cc nums text kids := by
  obtain ⟨at1, nv, tv, A, cc, m, rfl, hrn, hrt, hm, hkid⟩ := h.open_
  obtain ⟨A1, c1, n1, rfl, hn1, _⟩ := hrn.opn
  obtain ⟨A2, c2, n2, rfl, hn2, _⟩ := hrt.opn
  rw [FitG] at hf
  rw [sizeR] at hN
  refine ⟨at1, A1, n1, c1, A2, n2, c2, A, m, cc, rfl, ⟨by simpa using hn1, by simpa using hn2, hm, hrn, hrt, hkid, h.cap, hf.1, hf.2.1, hf.2.2.1, hf.2.2.2.1, by rw [hm]; exact hf.2.2.2.2.1, fun i hi => ⟨?_, FitGs_at hf.2.2.2.2.2 hi⟩⟩⟩
  have := sizeRs_at hi
  omega

/-- Below, and nothing more -/
theorem KidsAt.tail {w : World} {b o : Nat} {t : RTree} {ts : List RTree} (h : KidsAt w (some ⟨b, o, none⟩) (t :: ts)) : KidsAt w (some ⟨b, o + 7, none⟩) ts := by
  intro i hi
  obtain ⟨b', o', v0, v1, v2, v3, v4, v5, v6, h1, h2, h3⟩ := h (i + 1) (by simpa using hi)
  cases h1
  refine ⟨b, o + 7, v0, v1, v2, v3, v4, v5, v6, rfl, by simpa using h2, fun w1 hb => ?_⟩
  have := h3 w1 hb
  have e : o + (i + 1) * 7 = o + 7 + i * 7 := by omega
  rwa [e] at this
theorem KidsAt.front {w : World} {A : Option Addr} {ts us : List RTree} (h : KidsAt w A (ts ++ us)) : KidsAt w A ts := by
  intro i hi
  have := h i (by simp; omega)
  rwa [List.getElem_append_left hi] at this

/-- the child at a place: its cells, as the walk spells them -/
def KidC (w : World) (b o : Nat) (v0 v1 v2 v3 v4 v5 v6 : Value) : Prop := ∀ w1, Below w.heap.size w w1 → w1.cell? ⟨b, o, none⟩ = some v0 ∧ w1.cell? ⟨b, o + 1, none⟩ = some v1 ∧ w1.cell? ⟨b, o + 2, none⟩ = some v2 ∧ w1.cell? ⟨b, o + 3, none⟩ = some v3 ∧ w1.cell? ⟨b, o + 4, none⟩ = some v4 ∧ w1.cell? ⟨b, o + 5, none⟩ = some v5 ∧ w1.cell? ⟨b, o + 6, none⟩ = some v6
theorem KidsAt.kid {w : World} {A : Option Addr} {kids : List RTree} (h : KidsAt w A kids) (i : Nat) (hi : i < kids.length) : ∃ b o v0 v1 v2 v3 v4 v5 v6, A = some ⟨b, o, none⟩ ∧ TN w kids[i] [v0, v1, v2, v3, v4, v5, v6] ∧ KidC w b (o + i * 7) v0 v1 v2 v3 v4 v5 v6 := h i hi
theorem KidsAt.kid0 {w : World} {A : Option Addr} {t : RTree} {ts : List RTree} (h : KidsAt w A (t :: ts)) : ∃ b o v0 v1 v2 v3 v4 v5 v6, A = some ⟨b, o, none⟩ ∧ TN w t [v0, v1, v2, v3, v4, v5, v6] ∧ KidC w b o v0 v1 v2 v3 v4 v5 v6 := by
  obtain ⟨b, o, v0, v1, v2, v3, v4, v5, v6, h1, h2, h3⟩ := h.kid 0 (by simp)
  exact ⟨b, o, v0, v1, v2, v3, v4, v5, v6, h1, by simpa using h2, by simpa using h3⟩
theorem KidsAt.kid1 {w : World} {b o : Nat} {t t1 : RTree} {ts : List RTree} (h : KidsAt w (some ⟨b, o, none⟩) (t :: t1 :: ts)) : ∃ v0 v1 v2 v3 v4 v5 v6, TN w t1 [v0, v1, v2, v3, v4, v5, v6] ∧ KidC w b (o + 7) v0 v1 v2 v3 v4 v5 v6 := by
  obtain ⟨b', o', v0, v1, v2, v3, v4, v5, v6, h1, h2, h3⟩ := h.kid 1 (by simp)
  cases h1
  exact ⟨v0, v1, v2, v3, v4, v5, v6, by simpa using h2, by simpa using h3⟩
theorem KidsAt.kid2 {w : World} {b o : Nat} {t t1 t2 : RTree} {ts : List RTree} (h : KidsAt w (some ⟨b, o, none⟩) (t :: t1 :: t2 :: ts)) : ∃ v0 v1 v2 v3 v4 v5 v6, TN w t2 [v0, v1, v2, v3, v4, v5, v6] ∧ KidC w b (o + 14) v0 v1 v2 v3 v4 v5 v6 := by
  obtain ⟨b', o', v0, v1, v2, v3, v4, v5, v6, h1, h2, h3⟩ := h.kid 2 (by simp)
  cases h1
  exact ⟨v0, v1, v2, v3, v4, v5, v6, by simpa using h2, by simpa using h3⟩

theorem plainB_len {k : Int} {nums : List Nat} {text : List Int} {name : ByteArray} {c : Int} {kids : List RTree} {n : Int} {nm ch : Bool} (hn : 0 ≤ n) (h : (kids.length : Int) ≠ n) : plainB k nums text name c kids n nm ch = false := by
  unfold plainB; rw [decide_eq_false (by omega), decide_eq_false h]; simp
theorem runes_of {w : World} {A : Option Addr} {n c : Nat} {l : List Int} (h : Reads1 w (.slice A n c) (l.map (Value.int .i32))) : Runes w (.slice A n c) l := by
  rcases h with ⟨a, cc, h1, h2⟩ | ⟨b, o, n', cc, h1, h2, h3⟩
  · exact .inl ⟨a, cc, h1, by simpa using h2⟩
  · exact .inr ⟨b, o, n', cc, h1, by simpa using h2, fun i hi => by have := h3 i (by simpa using hi); simpa using this⟩
end Go.Proofs.YtmfklpacpjoggaaDoor
