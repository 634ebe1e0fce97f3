/- The walks of the statements LitReads and LitScales. Conditions: the table of math/bits reads as its text lays it. -/
import Derived.Test.YtopdkllbemgmlaaDoorLitP
namespace Go.Proofs.YtopdkllbemgmlaaDoor
open Go Go.RowKit Go.Proofs Fl

/-- a number's float -/
def IsNum (b : Nat) : Prop := ∃ s Z, Rep Z ∧ b = W s Z
theorem isNum_zero : IsNum 0 := ⟨false, 0, rep_zero, W_zero.symm⟩

theorem scaleS_num {n p : Int} {b : Nat} (h : scaleS n p = some b) : IsNum b := by
  unfold scaleS at h
  split at h
  · rename_i hc
    split at h
    · cases h; exact isNum_zero
    · obtain ⟨Z, hz, rfl⟩ := Option.map_eq_some_iff.1 h
      refine ⟨_, Z, ?_, rfl⟩
      unfold scaleOk at hz
      split at hz
      · split at hz
        · rename_i hl
          cases hz
          exact (up_fits true hc.1 _ hl).1
        · cases hz
      · split at hz
        · rename_i hl
          cases hz
          exact (down_fits true hc.1 _ hl).1
        · cases hz
  · cases h

theorem readS_num {l : List Int} {at_ : Int} {b j : Nat} (h : readS l at_ = some (b, j)) : IsNum b := by
  unfold readS at h
  split at h
  · rename_i hin
    split at h
    · cases h
    · rename_i n e hw
      have hb := wholeS_bounds hw (by omega)
      split at h
      · split at h
        · cases h
        · rename_i p e2 hw2
          obtain ⟨x, hx, he⟩ := Option.map_eq_some_iff.1 h
          cases he
          exact scaleS_num hx
      · cases h
        exact ⟨_, _, rep_unit (m := n.natAbs) (by omega), ofInt n (by omega)⟩
  · cases h

theorem bits_num {b : Nat} (h : IsNum b) (w : World) :
    Calls Tryd.prog 13 #[.float .f64 b, .float .f64 b] w fun e w' => e = .returned (.bool true) ∧ w = w' := by
  obtain ⟨s, Z, hz, rfl⟩ := h
  exact bits_same s hz w

/-- both readings in one word -/
def readV (r : Option (Nat × Nat)) (at_ : Int) : Value :=
  match r with
  | some (b, j) => .tuple #[.float .f64 b, .int .i64 j, .bool true]
  | none => .tuple #[.float .f64 0, .int .i64 at_, .bool false]
theorem readTells_v {r : Option (Nat × Nat)} {at_ : Int} {e : Ending} (h : ReadTells r at_ e) : e = .returned (readV r at_) := by
  cases r with
  | none => exact h
  | some p => exact h

theorem readV_form (r : Option (Nat × Nat)) (at_ : Int) (hr : ∀ b j, r = some (b, j) → IsNum b) : ∃ b j t, readV r at_ = .tuple #[.float .f64 b, .int .i64 j, .bool t] ∧ IsNum b := by
  cases r with
  | none => exact ⟨0, at_, false, rfl, isNum_zero⟩
  | some p => obtain ⟨b, j⟩ := p; exact ⟨b, j, true, rfl, hr b j rfl⟩

set_option maxHeartbeats 800000 in
theorem litReads_core (a : Option Addr) (n c : Nat) (at_ : Int) (w : World) (ht : TzTab w) (b : Nat) (j : Int) (t : Bool) (hb : IsNum b) (h300 : ¬ 300 < n)
    (h1 : ∀ w0, w = w0 → Calls Tryd.prog 11 #[.slice a n c, .int .i64 at_] w0 fun e w' => e = .returned (.tuple #[.float .f64 b, .int .i64 j, .bool t]) ∧ w0 = w')
    (h2 : ∀ w0, w = w0 → Calls Tryd.prog 14 #[.slice a n c, .int .i64 at_] w0 fun e w' => e = .returned (.tuple #[.float .f64 b, .int .i64 j, .bool t]) ∧ w0 = w') :
    Calls Tryd.prog 4 #[.slice a n c, .int .i64 at_] w fun e w' => e = .returned (.bool true) ∧ Below w.heap.size w w' := by
  have H1 := Lib.hid (h1 w rfl)
  have H2 := Lib.hid (h2 w rfl)
  have HT := Lib.hid ht
  have HB := Lib.hid hb
  clear h1 h2 ht hb
  go_enter Tryd.func4, Tryd.ntmps4
  go_wp2_with fail
  refine H1.out.mono ?_
  rintro e w' ⟨rfl, rfl⟩
  go_wp2_with fail
  refine H2.out.mono ?_
  rintro e w' ⟨rfl, rfl⟩
  go_wp2_with fail
  refine (bits_num HB.out _).mono ?_
  rintro e w' ⟨rfl, rfl⟩
  go_wp2_with fail
  refine (awake_any w HT.out).mono ?_
  rintro e w' ⟨rfl, hbl⟩
  go_wp2_with fail
  go_ret
  exact ⟨rfl, hbl⟩

set_option maxHeartbeats 800000 in
theorem litReads_long (a : Option Addr) (n c : Nat) (at_ : Int) (w : World) (ht : TzTab w) (h300 : 300 < n) :
    Calls Tryd.prog 4 #[.slice a n c, .int .i64 at_] w fun e w' => e = .returned (.bool true) ∧ Below w.heap.size w w' := by
  have HT := Lib.hid ht
  clear ht
  go_enter Tryd.func4, Tryd.ntmps4
  go_wp2_with fail
  refine (awake_any w HT.out).mono ?_
  rintro e w' ⟨rfl, hbl⟩
  go_wp2_with fail
  go_ret
  exact ⟨rfl, hbl⟩

theorem litReads_any {w : World} {v : Value} {l : List Int} (h : Runes w v l) (at_ : Int) (ht : TzTab w) :
    Calls Tryd.prog 4 #[v, .int .i64 at_] w fun e w' => e = .returned (.bool true) ∧ Below w.heap.size w w' := by
  obtain ⟨a, c, hv⟩ : ∃ a c, v = .slice a l.length c := by
    rcases h with ⟨a, c, rfl, rfl⟩ | ⟨b, o, n, c, rfl, hn, _⟩
    · exact ⟨a, c, rfl⟩
    · exact ⟨_, c, by rw [hn]⟩
  subst hv
  by_cases h300 : 300 < l.length
  · exact litReads_long a _ c at_ w ht h300
  obtain ⟨b, j, t, hv, hb⟩ := readV_form (readS l at_) at_ (fun b j e => readS_num e)
  refine litReads_core a _ c at_ w ht b j t hb h300 ?_ ?_
  · rintro w0 rfl
    refine (lread_any h (by omega) at_).mono ?_
    rintro e w' ⟨he, rfl⟩
    exact ⟨by rw [readTells_v he, hv], rfl⟩
  · rintro w0 rfl
    refine (rread_any h (by omega) at_).mono ?_
    rintro e w' ⟨he, rfl⟩
    exact ⟨by rw [readTells_v he, hv], rfl⟩
end Go.Proofs.YtopdkllbemgmlaaDoor
