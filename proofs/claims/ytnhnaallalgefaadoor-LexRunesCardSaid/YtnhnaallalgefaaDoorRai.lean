/- The walk of trouble.Raise. Conditions: as each theorem says. -/
import Derived.Test.YtnhnaallalgefaaDoorMem
namespace Go.Proofs.YtnhnaallalgefaaDoor
open Go Go.RowKit Go.Proofs

/-- a trouble that came through no function -/
def Raised (w : World) (c a : Int) (v : Value) : Prop := ∃ b, v = .iface 60 (.pointer (some ⟨b, 0, none⟩)) ∧ w.cell? ⟨b, 0, none⟩ = some (.int .i64 c) ∧ w.cell? ⟨b, 1, none⟩ = some (.int .i64 a)
theorem Raised.below {w w' : World} {c a : Int} {v : Value} (h : Raised w c a v) (hb : Below w.heap.size w w') : Raised w' c a v := by
  obtain ⟨b, h1, h2, h3⟩ := h
  exact ⟨b, h1, by rw [hb.cell (cell_lt h2)]; exact h2, by rw [hb.cell (cell_lt h3)]; exact h3⟩
theorem raised_walk (c a : Int) (hc : c ≠ 0) (w : World) : Calls Tryd.prog 72 #[.int .i64 c, .int .i64 a] w fun e w' => ∃ v, e = .returned v ∧ Raised w' c a v ∧ Below w.heap.size w w' := by
  have HW : Hid (Raised (w.alloc (.cells #[.int .i64 c, .int .i64 a] 66)) c a (.iface 60 (.pointer (some ⟨w.heap.size, 0, none⟩)))) :=
    ⟨w.heap.size, rfl, by rw [World.cell?_alloc_at _ _ _ _ (by simp)]; rfl, by rw [World.cell?_alloc_at _ _ _ _ (by simp)]; rfl⟩
  go_enter Tryd.func72, Tryd.ntmps72
  go_wp2
  go_ret
  exact ⟨_, rfl, HW.out, (Below.refl _ w).alloc (Nat.le_refl _) _⟩
end Go.Proofs.YtnhnaallalgefaaDoor
