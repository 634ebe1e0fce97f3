/- Walks of tree.plain and of slices.IndexFunc, slices.ContainsFunc over nodes. Conditions: as each theorem says. -/
import Derived.Test.YtmfklpacpjoggaaDoorTrGd
import Derived.Test.YtmfklpacpjoggaaDoorTrSp
namespace Go.Proofs.YtmfklpacpjoggaaDoor
open Go Go.RowKit Go.Proofs

/-- a node lies in a block of its own, laid behind what was there -/
def Boxed (w W : World) (vs : List Value) : Prop := (∀ i, W.cell? ⟨w.heap.size, i, none⟩ = vs[i]?) ∧ Below w.heap.size w W ∧ w.heap.size < W.heap.size
theorem boxed (w : World) (vs : List Value) (T : TypeId) : Boxed w (w.alloc (.cells vs.toArray T)) vs :=
  ⟨fun i => by rw [World.cell?_alloc_at _ _ _ _ rfl]; simp, (Below.refl _ w).alloc (Nat.le_refl _) _, by simp⟩
theorem Boxed.step {w W W' : World} {vs : List Value} (h : Boxed w W vs) (hb : Below W.heap.size W W') : Boxed w W' vs :=
  ⟨fun i => by rw [hb.cell (p := ⟨w.heap.size, i, none⟩) h.2.2]; exact h.1 i, h.2.1.trans (hb.mono (by have := h.2.2; omega)), by have := hb.size; have := h.2.2; omega⟩
theorem Boxed.c7 {w W : World} {v0 v1 v2 v3 v4 v5 v6 : Value} (h : Boxed w W [v0, v1, v2, v3, v4, v5, v6]) : W.cell? ⟨w.heap.size, 0, none⟩ = some v0 ∧ W.cell? ⟨w.heap.size, 1, none⟩ = some v1 ∧ W.cell? ⟨w.heap.size, 2, none⟩ = some v2 ∧
    W.cell? ⟨w.heap.size, 3, none⟩ = some v3 ∧ W.cell? ⟨w.heap.size, 4, none⟩ = some v4 ∧ W.cell? ⟨w.heap.size, 5, none⟩ = some v5 ∧ W.cell? ⟨w.heap.size, 6, none⟩ = some v6 := ⟨h.1 0, h.1 1, h.1 2, h.1 3, h.1 4, h.1 5, h.1 6⟩

set_option maxRecDepth 100000 in
set_option maxHeartbeats 3200000 in
theorem plain_walk (k at1 : Int) (A1 : Option Addr) (n1 c1 : Nat) (A2 : Option Addr) (n2 c2 : Nat) (name : ByteArray) (c : Int) (A : Option Addr) (m cc : Nat) (nums : List Nat) (text : List Int) (kids : List RTree)
    (hn : n1 = nums.length) (ht : n2 = text.length) (hm : m = kids.length) (kn : Int) (nm ch : Bool) (w : World) :
    Calls Tryd.prog 29 #[.agg #[.int .i64 k, .int .i64 at1, .slice A1 n1 c1, .slice A2 n2 c2, .string name, .int .i32 c, .slice A m cc], .int .i64 kn, .bool nm, .bool ch] w
      fun e w' => e = .returned (.bool (plainB k nums text name c kids kn nm ch)) ∧ Below w.heap.size w w' := by
  obtain ⟨R, hR⟩ : ∃ R, R = plainB k nums text name c kids kn nm ch := ⟨_, rfl⟩
  have HR : Hid (R = ((decide (kn < 0) || decide ((m : Int) = kn)) && (nm || decide (name.toList = [])) && (ch || decide (c = 0)) && (decide (k = 1) || decide (n1 = 0)) && (decide (k = 2) || decide (n2 = 0)))) := by
    unfold Hid; rw [hR, hn, ht, hm]; rfl
  rw [← hR]
  clear hR hn ht hm
  go_enter Tryd.func29, Tryd.ntmps29
  go_wp2
  all_goals go_ret
  all_goals exact ⟨by rw [HR.out]; clear HR; first | rfl | (show Ending.returned (Value.bool _) = _; refine congrArg (fun b => Ending.returned (Value.bool b)) ?_; first | (simp [*]; done) | (rw [Bool.eq_iff_iff]; simp [*]; done) | (rw [Bool.eq_iff_iff]; simp [*]; omega)), (Below.refl _ w).alloc (Nat.le_refl _) _⟩
end Go.Proofs.YtmfklpacpjoggaaDoor
