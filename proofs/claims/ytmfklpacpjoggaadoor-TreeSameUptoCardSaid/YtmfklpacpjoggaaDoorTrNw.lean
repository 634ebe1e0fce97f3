/- The walks of the writer's node over some kinds of nodes, of inside, slashed. Conditions: as each theorem says. -/
import Derived.Test.YtmfklpacpjoggaaDoorTrWr
import Derived.Deep.RegionHeld3
namespace Go.Proofs.YtmfklpacpjoggaaDoor
open Go Go.RowKit Go.Proofs Fl

/-- a node boxed beside the writer -/
def NodeAt (W : World) (g : Nat) (v : Value) (b : Nat) (vs : List Value) : Prop := b ≠ g ∧ v.ownBlock ≠ some b ∧ b < W.heap.size ∧ ∀ i, W.cell? ⟨b, i, none⟩ = vs[i]?
theorem NodeAt.grew {w w' : World} {g : Nat} {v v' : Value} {b : Nat} {vs : List Value} (h : NodeAt w g v b vs) (k : Grew g v w w' v') : NodeAt w' g v' b vs := by
  have hz := k.b0.size
  refine ⟨h.1, fun e => ?_, by have := h.2.2.1; omega, fun i => ?_⟩
  · rcases k.row b e with h1 | h1
    · exact h.2.1 h1
    · have := h.2.2.1; omega
  · rw [World.cell?_of_block (k.keep b h.2.2.1 h.1 h.2.1)]; exact h.2.2.2 i
theorem nodeAt_new {w : World} {B g : Nat} {v : Value} {l : List Int} (hw : WSt w B g v l) (vs : List Value) (T : TypeId) : NodeAt (w.alloc (.cells vs.toArray T)) g v w.heap.size vs :=
  ⟨by have := hw.lt; omega, fun e => by have := (World.ownsRow.lt hw.own _ e).2; omega, by simp, fun i => by rw [World.cell?_alloc_at _ _ _ _ rfl]; simp⟩
theorem NodeAt.c7 {W : World} {g : Nat} {v : Value} {b : Nat} {v0 v1 v2 v3 v4 v5 v6 : Value} (h : NodeAt W g v b [v0, v1, v2, v3, v4, v5, v6]) : W.cell? ⟨b, 0, none⟩ = some v0 ∧ W.cell? ⟨b, 1, none⟩ = some v1 ∧ W.cell? ⟨b, 2, none⟩ = some v2 ∧
    W.cell? ⟨b, 3, none⟩ = some v3 ∧ W.cell? ⟨b, 4, none⟩ = some v4 ∧ W.cell? ⟨b, 5, none⟩ = some v5 ∧ W.cell? ⟨b, 6, none⟩ = some v6 := ⟨h.2.2.2 0, h.2.2.2 1, h.2.2.2 2, h.2.2.2 3, h.2.2.2 4, h.2.2.2 5, h.2.2.2 6⟩

/-- a step of the writer: what it has written, and that no more was -/
def Stepped (w0 W : World) (g : Nat) (v : Value) (l : List Int) (w' : World) : Prop := ∃ v', WSt w' w0.heap.size g v' l ∧ Grew g v W w' v' ∧ Below w0.heap.size w0 w'
theorem Stepped.mk' {w0 W w' : World} {g : Nat} {v v' : Value} {l l' : List Int} (hb : Below w0.heap.size w0 W) (hw : WSt W w0.heap.size g v l) (h : WSt w' w0.heap.size g v' l' ∧ Grew g v W w' v') : Stepped w0 W g v l' w' :=
  ⟨v', h.1, h.2, hb.trans (hw.belowB h.2)⟩

theorem put_new1 {w0 W : World} {g : Nat} {v : Value} {l : List Int} (c : Int) (G : Nat) (hG : W.heap.size = G) (hb : Below w0.heap.size w0 W) (hw : WSt W w0.heap.size g v l) (hl : l.length + 1 ≤ 1099511627000) :
    Calls Tryd.prog 21 #[.pointer (some ⟨g, 0, none⟩), .slice (some ⟨G, 0, none⟩) 1 1] (W.alloc (.cells #[.int .i32 c] 21)) fun e w' => e = .returned (.tuple #[]) ∧ Stepped w0 W g v (joinP l [c]) w' := by
  subst hG
  obtain ⟨ha, hg⟩ := hw.below ((Below.refl _ W).alloc (Nat.le_refl _) (.cells #[.int .i32 c] 21))
  refine (put_walk _ g v W.heap.size 0 1 1 l [c] _ (by simp) ha ?_ rfl (by simpa using hl)).mono ?_
  · exact ⟨by have := hw.lt; omega, fun e => by have := (World.ownsRow.lt hw.own _ e).2; omega, by simp, one_cells W c⟩
  · rintro e w' ⟨he, v', hw', hg'⟩
    exact ⟨he, Stepped.mk' hb hw ⟨hw', hg.trans hg'⟩⟩

/-- the writer writes a node's text -/
def NodeP (f : FuncId) (w0 : World) (t : RTree) (s : List Int) : Prop := ∀ v0 v1 v2 v3 v4 v5 v6 w g v l, TN w0 t [v0, v1, v2, v3, v4, v5, v6] → Below w0.heap.size w0 w → WSt w w0.heap.size g v l → l.length + 2 * s.length ≤ 1099511627000 →
  Calls Tryd.prog f #[.pointer (some ⟨g, 0, none⟩), .agg #[v0, v1, v2, v3, v4, v5, v6]] w fun e w' => e = .returned (.tuple #[]) ∧ Stepped w0 w g v (joinP l s) w'

theorem TN.form {w : World} {k : Int} {nums : List Nat} {text : List Int} {name : ByteArray} {c : Int} {kids : List RTree} {v0 v1 v2 v3 v4 v5 v6 : Value} (h : TN w (.mk k nums text name c kids) [v0, v1, v2, v3, v4, v5, v6]) :
    ∃ at1 A1 n1 c1 A2 n2 c2 A m cc, v0 = .int .i64 k ∧ v1 = .int .i64 at1 ∧ v2 = .slice A1 n1 c1 ∧ v3 = .slice A2 n2 c2 ∧ v4 = .string name ∧ v5 = .int .i32 c ∧ v6 = .slice A m cc ∧ m = kids.length ∧ m ≤ cc ∧ KidsAt w A kids := by
  have hc := h
  obtain ⟨at1, nv, tv, A, cc, m, hvs, hrn, hrt, hm, hkid⟩ := h.open_
  simp only [List.cons.injEq, and_true] at hvs
  obtain ⟨rfl, rfl, rfl, rfl, rfl, rfl, rfl⟩ := hvs
  obtain ⟨A1, c1, n1, rfl, _, _⟩ := hrn.opn
  obtain ⟨A2, c2, n2, rfl, _, _⟩ := hrt.opn
  exact ⟨at1, A1, n1, c1, A2, n2, c2, A, m, cc, rfl, rfl, rfl, rfl, rfl, rfl, rfl, hm, hc.cap, hkid⟩

set_option maxRecDepth 100000 in
set_option maxHeartbeats 400000 in
theorem node_13 (w0 : World) (nums : List Nat) (text : List Int) (name : ByteArray) (c : Int) (kids : List RTree) : NodeP 17 w0 (.mk 13 nums text name c kids) [c] := by
  intro v0 v1 v2 v3 v4 v5 v6 w g v l ht hb hw hl
  obtain ⟨at1, A1, n1, c1, A2, n2, c2, A, m, cc, rfl, rfl, rfl, rfl, rfl, rfl, rfl, -, -, -⟩ := ht.form
  have hb1 := (Below.refl _ w).alloc (Nat.le_refl _) (.cells #[.int .i64 13, .int .i64 at1, .slice A1 n1 c1, .slice A2 n2 c2, .string name, .int .i32 c, .slice A m cc] 31)
  obtain ⟨ha, hg⟩ := hw.below hb1
  have HP := Lib.hid (put_new1 c (w.heap.size + 1) (by simp) (hb.trans (hb1.mono hb.size)) ha (by simp at hl; omega))
  have HG := Lib.hid hg
  clear ht hb hw hl hb1 ha hg
  go_enter Tryd.func17, Tryd.ntmps17
  go_wp2_with fail
  (with_reducible refine HP.out.mono ?_)
  rintro e w1 ⟨rfl, v', hw', hg', hb'⟩
  have HF : Hid (Stepped w0 w g v (joinP l [c]) w1) := ⟨v', hw', HG.out.trans hg', hb'⟩
  clear hw' hg' hb'
  go_wp2
  go_end0
  exact ⟨rfl, HF.out⟩

set_option maxRecDepth 100000 in
set_option maxHeartbeats 400000 in
theorem node_5 (w0 : World) (nums : List Nat) (text : List Int) (name : ByteArray) (c : Int) (kids : List RTree) : NodeP 17 w0 (.mk 5 nums text name c kids) [9077] := by
  intro v0 v1 v2 v3 v4 v5 v6 w g v l ht hb hw hl
  obtain ⟨at1, A1, n1, c1, A2, n2, c2, A, m, cc, rfl, rfl, rfl, rfl, rfl, rfl, rfl, -, -, -⟩ := ht.form
  have hb1 := (Below.refl _ w).alloc (Nat.le_refl _) (.cells #[.int .i64 5, .int .i64 at1, .slice A1 n1 c1, .slice A2 n2 c2, .string name, .int .i32 c, .slice A m cc] 31)
  obtain ⟨ha, hg⟩ := hw.below hb1
  have HP := Lib.hid (put_new1 9077 (w.heap.size + 1) (by simp) (hb.trans (hb1.mono hb.size)) ha (by simp at hl; omega))
  have HG := Lib.hid hg
  clear ht hb hw hl hb1 ha hg
  go_enter Tryd.func17, Tryd.ntmps17
  go_wp2_with fail
  (with_reducible refine HP.out.mono ?_)
  rintro e w1 ⟨rfl, v', hw', hg', hb'⟩
  have HF : Hid (Stepped w0 w g v (joinP l [9077]) w1) := ⟨v', hw', HG.out.trans hg', hb'⟩
  clear hw' hg' hb'
  go_wp2
  go_end0
  exact ⟨rfl, HF.out⟩

set_option maxRecDepth 100000 in
set_option maxHeartbeats 400000 in
/-- nodes of the kinds that node hands on -/
theorem node_more (w0 : World) (k : Int) (hk : k = 9 ∨ k = 16) (nums : List Nat) (text : List Int) (name : ByteArray) (c : Int) (kids : List RTree) (s : List Int) (HM : Hid (NodeP 28 w0 (.mk k nums text name c kids) s)) :
    NodeP 17 w0 (.mk k nums text name c kids) s := by
  intro v0 v1 v2 v3 v4 v5 v6 w g v l ht hb hw hl
  have ht' := ht
  obtain ⟨at1, A1, n1, c1, A2, n2, c2, A, m, cc, rfl, rfl, rfl, rfl, rfl, rfl, rfl, -, -, -⟩ := ht.form
  have hb1 := (Below.refl _ w).alloc (Nat.le_refl _) (.cells #[.int .i64 k, .int .i64 at1, .slice A1 n1 c1, .slice A2 n2 c2, .string name, .int .i32 c, .slice A m cc] 31)
  obtain ⟨ha, hg⟩ := hw.below hb1
  have HP := Lib.hid (HM.out _ _ _ _ _ _ _ _ g v l ht' (hb.trans (hb1.mono hb.size)) ha hl)
  have HG := Lib.hid hg
  clear ht ht' hb hw hl hb1 ha hg HM
  rcases hk with rfl | rfl
  all_goals
    go_enter Tryd.func17, Tryd.ntmps17
    go_wp2_with fail
    (with_reducible refine HP.out.mono ?_)
    rintro e w1 ⟨rfl, v', hw', hg', hb'⟩
    have HF : Hid (Stepped w0 w g v (joinP l s) w1) := ⟨v', hw', HG.out.trans hg', hb'⟩
    clear hw' hg' hb'
    go_wp2
    go_end0
    exact ⟨rfl, HF.out⟩

theorem kidC_of {w0 w : World} {b o : Nat} {v0 v1 v2 v3 v4 v5 v6 : Value} (h : KidC w0 b o v0 v1 v2 v3 v4 v5 v6) (hb : Below w0.heap.size w0 w) : w.cell? ⟨b, o, none⟩ = some v0 ∧ w.cell? ⟨b, o + 1, none⟩ = some v1 ∧ w.cell? ⟨b, o + 2, none⟩ = some v2 ∧ w.cell? ⟨b, o + 3, none⟩ = some v3 ∧ w.cell? ⟨b, o + 4, none⟩ = some v4 ∧ w.cell? ⟨b, o + 5, none⟩ = some v5 ∧ w.cell? ⟨b, o + 6, none⟩ = some v6 := h w hb

theorem joinP_assoc (a b c : List Int) : joinP (joinP a b) c = joinP a (joinP b c) := by
  by_cases ha : a = []
  · subst ha; rw [joinP_nil, joinP_nil]
  by_cases hb : b = []
  · subst hb; rw [joinP_nil]; congr 1; unfold joinP; simp
  by_cases hc : c = []
  · subst hc; unfold joinP; simp
  obtain ⟨b', z, hz⟩ : ∃ b' z, b = b' ++ [z] := ⟨b.dropLast, b.getLast hb, (List.dropLast_concat_getLast _).symm⟩
  obtain ⟨y, b'', hy⟩ : ∃ y b'', b = y :: b'' := by cases b with | nil => exact absurd rfl hb | cons y r => exact ⟨y, r, rfl⟩
  have h1 : ∀ x : List Int, (x ++ b).getLastD 0 = z := fun x => by rw [hz, ← List.append_assoc]; simp
  have h2 : ∀ x : List Int, (b ++ x).headD 0 = y := fun x => by rw [hy]; rfl
  have h3 : b.getLastD 0 = z := by rw [hz]; simp
  have h4 : b.headD 0 = y := by rw [hy]; rfl
  have h5 : (a ++ [32] ++ b).getLastD 0 = z := h1 _
  have h6 : (b ++ [32] ++ c).headD 0 = y := by rw [List.append_assoc]; exact h2 _
  unfold joinP
  simp only [ne_eq, ha, hb, hc, not_false_eq_true, true_and, h3, h4]
  cases h7 : blankB (a.getLastD 0) y <;> cases h8 : blankB z (c.headD 0) <;> simp_all
end Go.Proofs.YtmfklpacpjoggaaDoor
