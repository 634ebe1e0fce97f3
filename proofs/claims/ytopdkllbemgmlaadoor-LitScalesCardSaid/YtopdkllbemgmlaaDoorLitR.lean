/- The walk of the statement LitScales. Conditions: the table of math/bits reads as its text lays it. -/
import Derived.Test.YtopdkllbemgmlaaDoorLitQ
namespace Go.Proofs.YtopdkllbemgmlaaDoor
open Go Go.RowKit Go.Proofs Fl

theorem scaleV_form (n p : Int) : ∃ b t, scaleV n p = .tuple #[.float .f64 b, .bool t] ∧ IsNum b := by
  cases h : scaleS n p with
  | none => exact ⟨0, false, scaleV_no h, isNum_zero⟩
  | some b => exact ⟨b, true, scaleV_yes h, scaleS_num h⟩

/-- the two calls of Scale tell the same -/
structure SameScale (n p : Int) (b : Nat) (t : Bool) : Prop where
  l : ∀ w, Calls Tryd.prog 15 #[.int .i64 n, .int .i64 p] w fun e w' => e = .returned (.tuple #[.float .f64 b, .bool t]) ∧ w = w'
  r : ∀ w, Calls Tryd.prog 16 #[.int .i64 n, .int .i64 p] w fun e w' => e = .returned (.tuple #[.float .f64 b, .bool t]) ∧ w = w'
  num : IsNum b

theorem sameScale (n p : Int) : ∃ b t, SameScale n p b t := by
  obtain ⟨b, t, h, hb⟩ := scaleV_form n p
  exact ⟨b, t, by rw [← h]; exact lscale_any n p, by rw [← h]; exact rscale_any n p, hb⟩

set_option maxRecDepth 100000 in
set_option maxHeartbeats 800000 in
theorem litScales_bad (n p : Int) (x b : Nat) (t : Bool) (hs : SameScale n p b t) (hx : (∃ s, x = infw s) ∨ (Ieee.double.read x).isNaN = true) (w : World) (ht : TzTab w) :
    Calls Tryd.prog 5 #[.int .i64 n, .int .i64 p, .float .f64 x] w fun e w' => e = .returned (.bool true) ∧ Below w.heap.size w w' := by
  have HS := Lib.hid hs
  have HT := Lib.hid ht
  have HX := Lib.hid (rtidy_bad hx)
  clear hs ht hx
  cases t
  all_goals
    go_enter Tryd.func5, Tryd.ntmps5
    go_wp2_with fail
    refine (HS.out.l _).mono ?_
    rintro e w' ⟨rfl, rfl⟩
    go_wp2_with fail
    refine (HS.out.r _).mono ?_
    rintro e w' ⟨rfl, rfl⟩
    go_wp2_with fail
    refine (bits_num HS.out.num _).mono ?_
    rintro e w' ⟨rfl, rfl⟩
    go_wp2_with fail
    refine (HX.out _).mono ?_
    rintro e w' ⟨rfl, rfl⟩
    go_wp2_with fail
    refine (awake_any _ HT.out).mono ?_
    rintro e w' ⟨rfl, hbl⟩
    go_wp2_with fail
    go_ret
    exact ⟨rfl, hbl⟩

set_option maxRecDepth 100000 in
set_option maxHeartbeats 800000 in
theorem litScales_num (n p : Int) (x b y : Nat) (t : Bool) (hs : SameScale n p b t) (hy : IsNum y) (m k : Int)
    (hx : ∀ w, Calls Tryd.prog 8 #[.float .f64 x] w fun e w' => e = .returned (.tuple #[.float .f64 y, .bool true]) ∧ w = w')
    (hm : (∃ q : Int, m = 2 * q + 1) ∨ FloatKind.f64.format.order y 0 = some .eq ∧ m = 0) (hmb : -9007199254740992 ≤ m) (hmb2 : m ≤ 9007199254740992)
    (hz : scaleS m k = some y) (w : World) (ht : TzTab w)
    (h1 : ∀ w0, w = w0 → Calls Tryd.prog 17 #[.float .f64 y] w0 fun e w' => e = .returned (.tuple #[.int .i64 m, .int .i64 k]) ∧ w0 = w')
    (h2 : ∀ w, Calls Tryd.prog 18 #[.float .f64 y] w fun e w' => e = .returned (.tuple #[.int .i64 m, .int .i64 k]) ∧ w = w') :
    Calls Tryd.prog 5 #[.int .i64 n, .int .i64 p, .float .f64 x] w fun e w' => e = .returned (.bool true) ∧ Below w.heap.size w w' := by
  have HS := Lib.hid hs
  have HT := Lib.hid ht
  have HX := Lib.hid hx
  have H1 := Lib.hid (h1 w rfl)
  have H2 := Lib.hid h2
  have HY := Lib.hid hy
  have hsc := rscale_any m k
  rw [scaleV_yes hz] at hsc
  have HC := Lib.hid hsc
  clear hs ht hx h1 h2 hz hsc hy
  cases t
  all_goals
    rcases hm with ⟨q, hq⟩ | ⟨ho, hm0⟩
    · have hr' : ¬ m.tmod 2 = 0 := fun h => by have := Int.dvd_of_tmod_eq_zero h; omega
      have hr : (m.tmod 2 != 0) = true := by rw [bne_iff_ne]; exact hr'
      clear hq
      go_enter Tryd.func5, Tryd.ntmps5
      go_wp2_with fail
      refine (HS.out.l _).mono ?_
      rintro e w' ⟨rfl, rfl⟩
      go_wp2_with fail
      refine (HS.out.r _).mono ?_
      rintro e w' ⟨rfl, rfl⟩
      go_wp2_with fail
      refine (bits_num HS.out.num _).mono ?_
      rintro e w' ⟨rfl, rfl⟩
      go_wp2_with fail
      refine (HX.out _).mono ?_
      rintro e w' ⟨rfl, rfl⟩
      go_wp2_with fail
      refine H1.out.mono ?_
      rintro e w' ⟨rfl, rfl⟩
      go_wp2_with fail
      refine (H2.out _).mono ?_
      rintro e w' ⟨rfl, rfl⟩
      go_wp2_with fail
      refine (HC.out _).mono ?_
      rintro e w' ⟨rfl, rfl⟩
      go_wp2_with fail
      refine (bits_num HY.out _).mono ?_
      rintro e w' ⟨rfl, rfl⟩
      go_wp2_with fail
      refine (awake_any _ HT.out).mono ?_
      rintro e w' ⟨rfl, hbl⟩
      go_wp2_with fail
      go_ret
      exact ⟨rfl, hbl⟩
    · subst hm0
      go_enter Tryd.func5, Tryd.ntmps5
      go_wp2_with fail
      refine (HS.out.l _).mono ?_
      rintro e w' ⟨rfl, rfl⟩
      go_wp2_with fail
      refine (HS.out.r _).mono ?_
      rintro e w' ⟨rfl, rfl⟩
      go_wp2_with fail
      refine (bits_num HS.out.num _).mono ?_
      rintro e w' ⟨rfl, rfl⟩
      go_wp2_with fail
      refine (HX.out _).mono ?_
      rintro e w' ⟨rfl, rfl⟩
      go_wp2_with fail
      refine H1.out.mono ?_
      rintro e w' ⟨rfl, rfl⟩
      go_wp2_with fail
      refine (H2.out _).mono ?_
      rintro e w' ⟨rfl, rfl⟩
      go_wp2_with fail
      refine (HC.out _).mono ?_
      rintro e w' ⟨rfl, rfl⟩
      go_wp2_with fail
      refine (bits_num HY.out _).mono ?_
      rintro e w' ⟨rfl, rfl⟩
      go_wp2_with fail
      refine (awake_any _ HT.out).mono ?_
      rintro e w' ⟨rfl, hbl⟩
      go_wp2_with fail
      go_ret
      exact ⟨rfl, hbl⟩

set_option maxHeartbeats 400000 in
theorem lparts_zero (w : World) :
    Calls Tryd.prog 17 #[.float .f64 0] w fun e w' => e = .returned (.tuple #[.int .i64 0, .int .i64 0]) ∧ w = w' := by
  have h : FloatKind.f64.format.order 0 0 = some .eq := by decide
  go_enter Tryd.func17, Tryd.ntmps17
  go_wp2
  go_ret2
  exact ⟨rfl, rfl⟩
set_option maxHeartbeats 400000 in
theorem rparts_zero (w : World) :
    Calls Tryd.prog 18 #[.float .f64 0] w fun e w' => e = .returned (.tuple #[.int .i64 0, .int .i64 0]) ∧ w = w' := by
  have h : FloatKind.f64.format.order 0 0 = some .eq := by decide
  go_enter Tryd.func18, Tryd.ntmps18
  go_wp2
  go_ret2
  exact ⟨rfl, rfl⟩

theorem litScales_any (n p : Int) (x : Nat) (hx : x < 18446744073709551616) {w : World} (ht : TzTab w) :
    Calls Tryd.prog 5 #[.int .i64 n, .int .i64 p, .float .f64 x] w fun e w' => e = .returned (.bool true) ∧ Below w.heap.size w w' := by
  obtain ⟨b, t, hs⟩ := sameScale n p
  rcases classify x hx with ⟨s, Z, hz, rfl⟩ | h
  · by_cases h0 : Z = 0
    · have ho : FloatKind.f64.format.order 0 0 = some .eq := by decide
      have hsc : scaleS 0 0 = some 0 := by unfold scaleS; rw [if_pos ⟨by decide, by decide, by decide⟩, if_pos rfl]
      refine litScales_num n p (W s Z) b 0 t hs isNum_zero 0 0 (fun w => ?_) (.inr ⟨ho, rfl⟩) (by omega) (by omega) hsc w ht (fun w0 _ => lparts_zero w0) rparts_zero
      have := rtidy_num s hz w
      rwa [tid, if_pos h0] at this
    · obtain ⟨z, r, hr⟩ := odd_parts Z h0
      have hZ : Z = (2 * r + 1) * 2^z := by rw [hr, Nat.mul_comm]
      rw [hZ] at hz h0 ⊢
      have hodd : (2 * r + 1) % 2 = 1 := by omega
      obtain ⟨b0, b3⟩ := odd_bounds hz hodd rfl
      obtain ⟨b1, b2⟩ := sg_bd s (show 2 * r + 1 ≤ 9007199254740992 by omega)
      refine litScales_num n p _ b (W s ((2 * r + 1) * 2^z)) t hs ⟨s, _, hz, rfl⟩ (sg s (2 * r + 1)) ((z : Int) - 1074) (fun w => ?_) (.inl ?_) b1 b2 (scale_parts s hodd hz) w ht (fun w0 e => ?_) (rparts_exact s hodd hz)
      · have := rtidy_num s hz w
        rwa [tid, if_neg h0] at this
      · unfold sg; split
        · exact ⟨-(r : Int) - 1, by omega⟩
        · exact ⟨r, by omega⟩
      · subst e; exact lparts_exact s hodd hz _ ht
  · exact litScales_bad n p x b t hs h w ht
end Go.Proofs.YtopdkllbemgmlaaDoor
