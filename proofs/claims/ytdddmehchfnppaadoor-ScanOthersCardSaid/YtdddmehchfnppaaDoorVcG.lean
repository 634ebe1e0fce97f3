/- The walks of whole numbers' sums and differences, and of fold.whole at them; a Vec's numbers as whole ones. Conditions: as each theorem says. -/
import Derived.Test.YtdddmehchfnppaaDoorVcE
import Derived.Test.YtdddmehchfnppaaDoorLitB
namespace Go.Proofs.YtdddmehchfnppaaDoor
open Go Go.RowKit Go.Proofs Fl

/-- not too great -/
abbrev Good (n : Int) : Prop := -9007199254740992 ≤ n ∧ n ≤ 9007199254740992

set_option maxHeartbeats 1000000 in
theorem good_any (a : Int) (h : Good a) (w : World) : Calls Tryd.prog 107 #[.int .i64 a] w fun e w' => e = .returned (.bool true) ∧ w = w' := by
  obtain ⟨h1, h2⟩ := h
  go_enter Tryd.func107, Tryd.ntmps107
  go_wp2
  go_ret
  exact ⟨by simp, rfl⟩
set_option maxHeartbeats 1000000 in
theorem fit_any (a : Int) (h : Good a) (w : World) : Calls Tryd.prog 109 #[.int .i64 a] w fun e w' => e = .returned (.tuple #[.int .i64 a, .bool true]) ∧ w = w' := by
  obtain ⟨h1, h2⟩ := h
  go_enter Tryd.func109, Tryd.ntmps109
  go_wp2
  go_ret2
  exact ⟨by simp, rfl⟩
set_option maxHeartbeats 1000000 in
theorem pair_any (a : Int) (w : World) : Calls Tryd.prog 108 #[.int .i64 a, .bool true] w fun e w' => e = .returned (.tuple #[.int .i64 a, .bool true]) ∧ w = w' := by
  go_enter Tryd.func108, Tryd.ntmps108
  go_wp2
  go_ret2
  exact ⟨rfl, rfl⟩

set_option maxHeartbeats 1000000 in
theorem addInt_good (a b : Int) (ha : Good a) (hb : Good b) (hs : Good (a + b)) (w : World) : Calls Tryd.prog 88 #[.int .i64 a, .int .i64 b] w fun e w' => e = .returned (.tuple #[.int .i64 (a + b), .bool true]) ∧ w = w' := by
  have HA := Lib.hid (good_any a ha)
  have HB := Lib.hid (good_any b hb)
  have HF := Lib.hid (fit_any (a + b) hs)
  have HP := Lib.hid (pair_any (a + b))
  obtain ⟨h1, h2⟩ := ha
  obtain ⟨h3, h4⟩ := hb
  obtain ⟨h5, h6⟩ := hs
  go_enter Tryd.func88, Tryd.ntmps88
  go_wp2_with fail
  refine (HA.out _).mono ?_
  rintro e w' ⟨rfl, rfl⟩
  go_wp2_with fail
  refine (HB.out _).mono ?_
  rintro e w' ⟨rfl, rfl⟩
  go_wp2_with fail
  refine (HF.out _).mono ?_
  rintro e w' ⟨rfl, rfl⟩
  go_wp2_with fail
  refine (HP.out _).mono ?_
  rintro e w' ⟨rfl, rfl⟩
  go_wp2
  go_ret2
  exact ⟨rfl, rfl⟩
set_option maxHeartbeats 1000000 in
theorem subInt_good (a b : Int) (ha : Good a) (hb : Good b) (hs : Good (a - b)) (w : World) : Calls Tryd.prog 89 #[.int .i64 a, .int .i64 b] w fun e w' => e = .returned (.tuple #[.int .i64 (a - b), .bool true]) ∧ w = w' := by
  have HA := Lib.hid (good_any a ha)
  have HB := Lib.hid (good_any b hb)
  have HF := Lib.hid (fit_any (a - b) hs)
  have HP := Lib.hid (pair_any (a - b))
  obtain ⟨h1, h2⟩ := ha
  obtain ⟨h3, h4⟩ := hb
  obtain ⟨h5, h6⟩ := hs
  go_enter Tryd.func89, Tryd.ntmps89
  go_wp2_with fail
  refine (HA.out _).mono ?_
  rintro e w' ⟨rfl, rfl⟩
  go_wp2_with fail
  refine (HB.out _).mono ?_
  rintro e w' ⟨rfl, rfl⟩
  go_wp2_with fail
  refine (HF.out _).mono ?_
  rintro e w' ⟨rfl, rfl⟩
  go_wp2_with fail
  refine (HP.out _).mono ?_
  rintro e w' ⟨rfl, rfl⟩
  go_wp2
  go_ret2
  exact ⟨rfl, rfl⟩

set_option maxHeartbeats 1000000 in
theorem whole_add (a b : Int) (ha : Good a) (hb : Good b) (hs : Good (a + b)) (w : World) : Calls Tryd.prog 60 #[.int .i64 1, .int .i64 a, .int .i64 b] w fun e w' => e = .returned (.tuple #[.int .i64 (a + b), .bool true]) ∧ w = w' := by
  have HA := Lib.hid (addInt_good a b ha hb hs)
  clear ha hb hs
  go_enter Tryd.func60, Tryd.ntmps60
  go_wp2_with fail
  refine (HA.out _).mono ?_
  rintro e w' ⟨rfl, rfl⟩
  go_wp2
  go_ret2
  exact ⟨rfl, rfl⟩
set_option maxHeartbeats 1000000 in
theorem whole_sub (a b : Int) (ha : Good a) (hb : Good b) (hs : Good (a - b)) (w : World) : Calls Tryd.prog 60 #[.int .i64 2, .int .i64 a, .int .i64 b] w fun e w' => e = .returned (.tuple #[.int .i64 (a - b), .bool true]) ∧ w = w' := by
  have HA := Lib.hid (subInt_good a b ha hb hs)
  clear ha hb hs
  go_enter Tryd.func60, Tryd.ntmps60
  go_wp2_with fail
  refine (HA.out _).mono ?_
  rintro e w' ⟨rfl, rfl⟩
  go_wp2
  go_ret2
  exact ⟨rfl, rfl⟩

/-- the least store of a whole number -/
def rankS (n : Int) : Nat := if n = 0 ∨ n = 1 then 1 else if -128 ≤ n ∧ n ≤ 127 then 2 else 3
set_option maxHeartbeats 1000000 in
theorem rank_any (n : Int) (w : World) : Calls Tryd.prog 69 #[.int .i64 n] w fun e w' => e = .returned (.int .i64 (rankS n : Nat)) ∧ w = w' := by
  go_enter Tryd.func69, Tryd.ntmps69
  go_wp2
  all_goals go_ret
  all_goals refine ⟨?_, rfl⟩
  all_goals refine congrArg (fun b => Ending.returned (.int .i64 b)) ?_
  all_goals unfold rankS
  all_goals (try simp only [beq_iff_eq, beq_eq_false_iff_ne, ne_eq] at *)
  all_goals first | (rw [if_pos (by omega)]; rfl) | (rw [if_neg (by omega), if_pos (by omega)]; rfl) | (rw [if_neg (by omega), if_neg (by omega)]; rfl)
end Go.Proofs.YtdddmehchfnppaaDoor
