/- The example of layer 30, awake. No conditions. -/
import Derived.Test.YtnhnaallalgefaaDoorLexL
namespace Go.Proofs.YtnhnaallalgefaaDoor
open Go Go.RowKit Go.Proofs Fl

theorem ex_read : readS [97, 8592, 49, 112, 51] ((2 : Nat) : Int) = some (4620693217682128896, 5) := by decide +kernel
theorem ex_word0 : wordS [97, 8592, 49, 112, 51] 0 = some ({ kind := 3, at_ := 0, name := seg [97, 8592, 49, 112, 51] 0 1 }, 1) := by
  have h1 : nameEnd [97, 8592, 49, 112, 51] 0 = 1 := by
    rw [nameEnd_yes (by decide) (by decide), nameEnd_no (by decide) (by decide)]
  unfold wordS
  rw [if_neg (by decide), if_neg (by decide), if_pos (by decide)]
  unfold nameS
  rw [h1]
  rfl
theorem ex_word1 : wordS [97, 8592, 49, 112, 51] 1 = some ({ kind := 6, at_ := 1, char := 8592 }, 2) := by
  unfold wordS
  rw [if_neg (by decide), if_neg (by decide), if_neg (by decide), if_neg (by decide)]
  rfl
theorem ex_word2 : wordS [97, 8592, 49, 112, 51] 2 = some ({ kind := 1, at_ := 2, num := 4620693217682128896 }, 5) := by
  unfold wordS
  rw [if_pos (by decide)]
  unfold numberS
  rw [ex_read]
  rfl
theorem ex_cut : cutS [97, 8592, 49, 112, 51] = .ok [{ kind := 3, at_ := 0, name := seg [97, 8592, 49, 112, 51] 0 1 }, { kind := 6, at_ := 1, char := 8592 }, { kind := 1, at_ := 2, num := 4620693217682128896 }] := by
  show cutF [97, 8592, 49, 112, 51] 5 0 = _
  rw [cutF_word (by decide) (by decide) (by decide) ex_word0, cutF_word (by decide) (by decide) (by decide) ex_word1, cutF_word (by decide) (by decide) (by decide) ex_word2, cutF_end (by decide)]
  rfl

theorem ToksOwn.cells {w : World} {B : Nat} {v : Value} {ps : List (Tok × Value)} (h : ToksOwn w B v ps) (hn : 0 < ps.length) :
    ∃ g cap, v = .slice (some ⟨g, 0, none⟩) ps.length cap ∧ ∀ j, j < ps.length * 6 → w.cell? ⟨g, j, none⟩ = (cellsT ps)[j]? := by
  obtain ⟨g, cap, hv, _, _⟩ := h.1.form hn
  subst hv
  exact ⟨g, cap, rfl, fun j hj => World.ownsRow.cellAt h.1 j hj⟩

set_option maxRecDepth 100000 in
set_option maxHeartbeats 1600000 in
theorem awake30_walk (w : World) : Calls Tryd.prog 54 #[] w fun e w' => e = .returned (.bool true) ∧ Below w.heap.size w w' := by
  have hr : Runes (w.alloc (.cells #[.int .i32 97, .int .i32 8592, .int .i32 49, .int .i32 112, .int .i32 51] 21)) (.slice (some ⟨w.heap.size, 0, none⟩) 5 5) [97, 8592, 49, 112, 51] := by
    refine .inr ⟨w.heap.size, 0, 5, 5, rfl, rfl, fun i hi => ?_⟩
    rw [Nat.zero_add, World.cell?_alloc_at _ _ _ _ rfl]
    simp at hi
    rcases (show i = 0 ∨ i = 1 ∨ i = 2 ∨ i = 3 ∨ i = 4 by omega) with rfl | rfl | rfl | rfl | rfl <;> rfl
  have HCUT := Lib.hid (cut_walk _ 5 5 _ _ hr (Nat.le_refl _) (by decide))
  rw [ex_cut] at HCUT
  have HB : Hid (Below w.heap.size w (w.alloc (.cells #[.int .i32 97, .int .i32 8592, .int .i32 49, .int .i32 112, .int .i32 51] 21))) := (Below.refl _ w).alloc (Nat.le_refl _) _
  have hnn : ∀ w, (binOp .eql 48 .nilIface .nilIface).run Tryd.prog w = .ok (.bool true) w := fun w => by kernel_rfl
  have hfe : ∀ w, (binOp .eql 22 (.float .f64 4620693217682128896) (.float .f64 4620693217682128896)).run Tryd.prog w = .ok (.bool true) w := fun w => by kernel_rfl
  clear hr
  go_enter Tryd.func54, Tryd.ntmps54
  go_wp2_with fail
  refine HCUT.out.mono ?_
  rintro e w1 ⟨he, hb⟩
  obtain ⟨v, ps, hps, rfl, ho⟩ := he
  have hb2 := HB.out.trans (hb.mono HB.out.size)
  have HB2 := Lib.hid hb2
  clear hb hb2
  have hlen : ps.length = 3 := by have := congrArg List.length hps; simpa using this
  obtain ⟨g, cap, hv, hc⟩ := ho.cells (by omega)
  subst hv
  rw [hlen] at hc
  rw [hlen]
  obtain ⟨p0, p1, p2, rfl⟩ : ∃ p0 p1 p2, ps = [p0, p1, p2] := by
    match ps, hlen with
    | [a, b, c], _ => exact ⟨a, b, c, rfl⟩
  simp only [List.map_cons, List.map_nil, List.cons.injEq, and_true] at hps
  obtain ⟨h0, h1, h2⟩ := hps
  have c0 : w1.cell? ⟨g, 0, none⟩ = some (.int .i64 3) := by have := hc 0 (by omega); simpa [cellsT, tokC, h0] using this
  have c6 : w1.cell? ⟨g, 6, none⟩ = some (.int .i64 6) := by have := hc 6 (by omega); simpa [cellsT, tokC, h1] using this
  have c7 : w1.cell? ⟨g, 7, none⟩ = some (.int .i64 1) := by have := hc 7 (by omega); simpa [cellsT, tokC, h1] using this
  have c14 : w1.cell? ⟨g, 14, none⟩ = some (.float .f64 4620693217682128896) := by have := hc 14 (by omega); simpa [cellsT, tokC, h2] using this
  clear hc ho h0 h1 h2 hlen HCUT HB
  go_wp2
  go_ret
  exact ⟨rfl, HB2.out⟩
end Go.Proofs.YtnhnaallalgefaaDoor
