/- trouble.Of, At, Is. Conditions: the type handle of error lies in its variable. -/
import Derived.Test.YtnhnaallalgefaaDoorTrG
namespace Go.Proofs.YtnhnaallalgefaaDoor
open Go Go.RowKit Go.Proofs

theorem at_walk (c a : Int) (v : Value) (l : List ByteArray) (w : World) (he : ErrT w) (h : Chain w c a v l) :
    Calls Tryd.prog 34 #[v] w fun e w' => e = .returned (.int .i64 a) ∧ Below w.heap.size w w' := by
  obtain ⟨b, hE, h0, h1⟩ := h.end_
  have hbt := cell_lt h1
  have HB0 : Hid (Below w.heap.size w (w.alloc (.cells #[.pointer none] 60))) := (Below.refl _ w).alloc (Nat.le_refl _) _
  have HA := Lib.hid (AsTr_walk c a v l b _ (he.below HB0.out) (h.below HB0.out) (hE.below HB0.out) ⟨w.heap.size, 0, none⟩ (.pointer none) (by simp) (by simp))
  have H1 : Hid ((w.alloc (.cells #[.pointer none] 60)).cell? ⟨b, 1, none⟩ = some (.int .i64 a)) := cell_al h1 _
  clear h hE h0 h1 he
  go_enter Tryd.func34, Tryd.ntmps34
  go_wp2_with fail
  refine HA.out.mono ?_
  rintro e w' ⟨rfl, hs⟩
  have hc := hs.cell
  have hb1 := (hs.other ⟨b, 1, none⟩ (by simp at hbt ⊢; omega) (by simp at hbt ⊢; omega)).trans H1.out
  have HB := Lib.hid (hs.below w.heap.size w (Nat.le_refl _) HB0.out)
  clear hs hbt
  go_wp2
  go_ret
  exact ⟨rfl, HB.out⟩

theorem atCl_walk (c : Int) (w : World) (he : ErrT w) :
    Calls Tryd.prog 34 #[.iface 52 (.int .i64 c)] w fun e w' => e = .returned (.int .i64 (-1)) ∧ Below w.heap.size w w' := by
  have HB0 : Hid (Below w.heap.size w (w.alloc (.cells #[.pointer none] 60))) := (Below.refl _ w).alloc (Nat.le_refl _) _
  have HA := Lib.hid (AsTr_class c _ (he.below HB0.out) ⟨w.heap.size, 0, none⟩ (.pointer none) (by simp) (by simp))
  clear he
  go_enter Tryd.func34, Tryd.ntmps34
  go_wp2_with fail
  refine HA.out.mono ?_
  rintro e w' ⟨rfl, hs⟩
  have HB := Lib.hid (HB0.out.trans (hs.mono (by simp)))
  clear hs
  go_wp2
  go_ret
  exact ⟨rfl, HB.out⟩

theorem atNil_walk (w : World) : Calls Tryd.prog 34 #[.nilIface] w fun e w' => e = .returned (.int .i64 (-1)) ∧ Below w.heap.size w w' := by
  have HB0 : Hid (Below w.heap.size w (w.alloc (.cells #[.pointer none] 60))) := (Below.refl _ w).alloc (Nat.le_refl _) _
  go_enter Tryd.func34, Tryd.ntmps34
  go_wp2_with fail
  refine (asNil_walk _ _).mono ?_
  rintro e w' ⟨rfl, rfl⟩
  go_wp2
  go_ret
  exact ⟨rfl, HB0.out⟩

theorem of_walk (c a : Int) (v : Value) (n : Nat) (w : World) (he : ErrT w) (h : Pos w c a v n) :
    Calls Tryd.prog 33 #[v] w fun e w' => e = .returned (.int .i64 c) ∧ Below w.heap.size w w' := by
  have HB0 : Hid (Below w.heap.size w (w.alloc (.cells #[.int .i64 0] 52))) := (Below.refl _ w).alloc (Nat.le_refl _) _
  have HA := Lib.hid (AsCl_walk c a v n _ (he.below HB0.out) (h.below HB0.out) ⟨w.heap.size, 0, none⟩ (.int .i64 0) (by simp) (by simp))
  clear h he
  go_enter Tryd.func33, Tryd.ntmps33
  go_wp2_with fail
  refine HA.out.mono ?_
  rintro e w' ⟨rfl, hs⟩
  have hc := hs.cell
  have HB := Lib.hid (hs.below w.heap.size w (Nat.le_refl _) HB0.out)
  clear hs
  go_wp2
  go_ret
  exact ⟨rfl, HB.out⟩

theorem ofNil_walk (w : World) : Calls Tryd.prog 33 #[.nilIface] w fun e w' => e = .returned (.int .i64 0) ∧ Below w.heap.size w w' := by
  have HB0 : Hid (Below w.heap.size w (w.alloc (.cells #[.int .i64 0] 52))) := (Below.refl _ w).alloc (Nat.le_refl _) _
  go_enter Tryd.func33, Tryd.ntmps33
  go_wp2_with fail
  refine (asNil_walk _ _).mono ?_
  rintro e w' ⟨rfl, rfl⟩
  go_wp2
  go_ret
  exact ⟨rfl, HB0.out⟩

theorem is0_walk (c a : Int) (v : Value) (n : Nat) (w : World) (he : ErrT w) (h : Pos w c a v n) (hc : c ≠ 0) :
    Calls Tryd.prog 45 #[v, .int .i64 0] w fun e w' => e = .returned (.bool false) ∧ Below w.heap.size w w' := by
  have HO := Lib.hid (of_walk c a v n w he h)
  clear h he
  go_enter Tryd.func45, Tryd.ntmps45
  go_wp2_with fail
  refine HO.out.mono ?_
  rintro e w' ⟨rfl, hs⟩
  have HB := Lib.hid hs
  clear hs
  go_wp2
  go_ret
  exact ⟨by simp [hc], HB.out⟩

theorem isO_walk (c a o : Int) (v : Value) (n : Nat) (w : World) (h : Pos w c a v n) (ho : o ≠ 0) :
    Calls Tryd.prog 45 #[v, .int .i64 o] w fun e w' => e = .returned (.bool (decide (c = o))) ∧ w' = w := by
  have HO := Lib.hid (Is_walk c a o v n w h)
  clear h
  go_enter Tryd.func45, Tryd.ntmps45
  go_wp2_with fail
  refine HO.out.mono ?_
  rintro e w' ⟨rfl, rfl⟩
  go_wp2
  go_ret
  exact ⟨rfl, rfl⟩

theorem IsNil_walk (o : Int) (w : World) : Calls Tryd.prog 38 #[.nilIface, .iface 52 (.int .i64 o)] w fun e w' => e = .returned (.bool false) ∧ w' = w := by
  have h0 : ∀ w, (binOp .eql 48 .nilIface .nilIface).run Tryd.prog w = .ok (.bool true) w := fun w => by kernel_rfl
  have h1 := fun w => run_eql_iface_nil_left (P := Tryd.prog) w 52 (.int .i64 o) Tryd.underlying48
  go_enter Tryd.func38, Tryd.ntmps38
  go_wp2
  go_ret
  exact ⟨rfl, rfl⟩

theorem is0Nil_walk (w : World) : Calls Tryd.prog 45 #[.nilIface, .int .i64 0] w fun e w' => e = .returned (.bool true) ∧ Below w.heap.size w w' := by
  go_enter Tryd.func45, Tryd.ntmps45
  go_wp2_with fail
  refine (ofNil_walk _).mono ?_
  rintro e w' ⟨rfl, hs⟩
  have HB := Lib.hid hs
  clear hs
  go_wp2
  go_ret
  exact ⟨rfl, HB.out⟩

theorem isONil_walk (o : Int) (w : World) (ho : o ≠ 0) : Calls Tryd.prog 45 #[.nilIface, .int .i64 o] w fun e w' => e = .returned (.bool false) ∧ w' = w := by
  go_enter Tryd.func45, Tryd.ntmps45
  go_wp2_with fail
  refine (IsNil_walk o _).mono ?_
  rintro e w' ⟨rfl, rfl⟩
  go_wp2
  go_ret
  exact ⟨rfl, rfl⟩
end Go.Proofs.YtnhnaallalgefaaDoor
