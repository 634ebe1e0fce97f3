/- The walk of the statement LitApart. Conditions: the table of math/bits reads as its text lays it. -/
import Derived.Test.YtopdkllbemgmlaaDoorLitS
import Derived.Deep.RegionWith
namespace Go.Proofs.YtopdkllbemgmlaaDoor
open Go Go.RowKit Go.Proofs Fl

/-- what holds at every step of the last expression -/
def HeldT (w0 W : World) : Prop := TzTab W ∧ Below w0.heap.size w0 W
theorem HeldT.step {w0 W W2 : World} (h : HeldT w0 W) (hb : Below W.heap.size W W2) : HeldT w0 W2 := ⟨h.1.below hb, h.2.trans (hb.mono h.2.size)⟩

theorem HeldT.tab {w0 W : World} (h : HeldT w0 W) : TzTab W := h.1

set_option maxRecDepth 100000 in
set_option maxHeartbeats 1600000 in
theorem litApart_num (x y bx by_ : Nat) (lx ly : List Int) (S T : ByteArray) (w : World) (ht : TzTab w)
    (hx : ∀ w, Calls Tryd.prog 8 #[.float .f64 x] w fun e w' => e = .returned (.tuple #[.float .f64 bx, .bool true]) ∧ w = w')
    (hy : ∀ w, Calls Tryd.prog 8 #[.float .f64 y] w fun e w' => e = .returned (.tuple #[.float .f64 by_, .bool true]) ∧ w = w')
    (hwx : ∀ w, TzTab w → Calls Tryd.prog 10 #[.float .f64 bx] w fun e w' => Wrote w lx e w')
    (hwy : ∀ w, TzTab w → Calls Tryd.prog 10 #[.float .f64 by_] w fun e w' => Wrote w ly e w')
    (hS : runesBytes lx = S) (hT : runesBytes ly = T)
    (hst : S.toList ≠ T.toList) (hfo : FloatKind.f64.format.order bx by_ ≠ some .eq) :
    Calls Tryd.prog 6 #[.float .f64 x, .float .f64 y] w fun e w' => e = .returned (.bool true) ∧ Below w.heap.size w w' := by
  have hfo' : (FloatKind.f64.format.order bx by_ == some .eq) = false := beq_eq_false_iff_ne.2 hfo
  have hst' : (S.toList == T.toList) = false := beq_eq_false_iff_ne.2 hst
  have HX := Lib.hid hx
  have HY := Lib.hid hy
  have HWX := Lib.hid hwx
  have HWY := Lib.hid hwy
  have hs0 : HeldT w w.drew := ⟨ht, (Below.refl _ _).drew⟩
  have HCX : Hid (∀ W v, Runes W v lx → (convert 26 9 v).run Tryd.prog W = .ok (.string S) W) := by rw [← hS]; exact fun W v h => conv_runes h
  have HCY : Hid (∀ W v, Runes W v ly → (convert 26 9 v).run Tryd.prog W = .ok (.string T) W) := by rw [← hT]; exact fun W v h => conv_runes h
  clear hx hy hwx hwy hS hT ht
  go_enter Tryd.func6, Tryd.ntmps6
  go_wp2_with fail
  refine (HX.out _).mono ?_
  rintro e w' ⟨rfl, rfl⟩
  go_wp2_with fail
  refine (HY.out _).mono ?_
  rintro e w' ⟨rfl, rfl⟩
  go_wp2_with fail
  go_region_with (first | (go_at_call_of 10 (Value.float .f64 bx); refine (HWX.out _ (HeldT.tab (w0 := w) (by assumption))).mono ?_; rintro e w2 ⟨v, rfl, ho, hb⟩; have hs2 := HeldT.step (w0 := w) (by assumption) hb; have hr := ho.runes; have cx := HCX.out _ _ hr; (try have cy := HCY.out _ _ (Runes.below (l := ly) (by assumption) hb)); clear ho) | (go_at_call_of 10 (Value.float .f64 by_); refine (HWY.out _ (HeldT.tab (w0 := w) (by assumption))).mono ?_; rintro e w2 ⟨v, rfl, ho, hb⟩; have hs2 := HeldT.step (w0 := w) (by assumption) hb; have hr := ho.runes; have cy := HCY.out _ _ hr; (try have cx := HCX.out _ _ (Runes.below (l := lx) (by assumption) hb)); clear ho) | (go_at_call 9; refine (awake_any _ (HeldT.tab (w0 := w) (by assumption))).mono ?_; rintro e w4 ⟨rfl, hb4⟩; have hs4 := HeldT.step (w0 := w) (by assumption) hb4))
  all_goals
    have hfin := hs4.2
    clear hs4
    go_wp2
    go_ret
    exact ⟨rfl, hfin⟩

set_option maxRecDepth 100000 in
set_option maxHeartbeats 1600000 in
theorem litApart_same (x y bx : Nat) (lx : List Int) (S : ByteArray) (w : World) (ht : TzTab w)
    (hx : ∀ w, Calls Tryd.prog 8 #[.float .f64 x] w fun e w' => e = .returned (.tuple #[.float .f64 bx, .bool true]) ∧ w = w')
    (hy : ∀ w, Calls Tryd.prog 8 #[.float .f64 y] w fun e w' => e = .returned (.tuple #[.float .f64 bx, .bool true]) ∧ w = w')
    (hwx : ∀ w, TzTab w → Calls Tryd.prog 10 #[.float .f64 bx] w fun e w' => Wrote w lx e w')
    (hS : runesBytes lx = S)
    (hfo : FloatKind.f64.format.order bx bx = some .eq) :
    Calls Tryd.prog 6 #[.float .f64 x, .float .f64 y] w fun e w' => e = .returned (.bool true) ∧ Below w.heap.size w w' := by
  have HX := Lib.hid hx
  have HY := Lib.hid hy
  have HWX := Lib.hid hwx
  have hs0 : HeldT w w.drew := ⟨ht, (Below.refl _ _).drew⟩
  have HCX : Hid (∀ W v, Runes W v lx → (convert 26 9 v).run Tryd.prog W = .ok (.string S) W) := by rw [← hS]; exact fun W v h => conv_runes h
  clear hx hy hwx hS ht
  go_enter Tryd.func6, Tryd.ntmps6
  go_wp2_with fail
  refine (HX.out _).mono ?_
  rintro e w' ⟨rfl, rfl⟩
  go_wp2_with fail
  refine (HY.out _).mono ?_
  rintro e w' ⟨rfl, rfl⟩
  go_wp2_with fail
  go_region_with (first | (go_at_call 10; refine (HWX.out _ (HeldT.tab (w0 := w) (by assumption))).mono ?_; rintro e w2 ⟨v, rfl, ho, hb⟩; have hs2 := HeldT.step (w0 := w) (by assumption) hb; have hr := ho.runes; have cx := HCX.out _ _ hr; (try have cy := HCX.out _ _ (Runes.below (l := lx) (by assumption) hb)); clear ho) | (go_at_call 9; refine (awake_any _ (HeldT.tab (w0 := w) (by assumption))).mono ?_; rintro e w4 ⟨rfl, hb4⟩; have hs4 := HeldT.step (w0 := w) (by assumption) hb4))
  all_goals
    have hfin := hs4.2
    clear hs4
    go_wp2
    go_ret
    exact ⟨rfl, hfin⟩
end Go.Proofs.YtopdkllbemgmlaaDoor
