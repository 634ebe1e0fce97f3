/- The walk of squeeze.Least at whole numbers. Conditions: as each theorem says. -/
import Derived.Test.YtdddmehchfnppaaDoorVcI
namespace Go.Proofs.YtdddmehchfnppaaDoor
open Go Go.RowKit Go.Proofs Fl

/-- the least store of the first k of a list of whole numbers -/
def leastS (l : Nat → Int) : Nat → Nat
  | 0 => 1
  | k + 1 => max (leastS l k) (rankS (l k))
theorem rankS_le (n : Int) : 1 ≤ rankS n ∧ rankS n ≤ 3 := by unfold rankS; split <;> (try split) <;> omega
theorem leastS_le (l : Nat → Int) (k : Nat) : 1 ≤ leastS l k ∧ leastS l k ≤ 3 := by
  induction k with
  | zero => simp [leastS]
  | succ k ih => have := rankS_le (l k); unfold leastS; omega
theorem leastS_mono (l : Nat → Int) {a b : Nat} (h : a ≤ b) : leastS l a ≤ leastS l b := by
  induction b with
  | zero => have : a = 0 := by omega
            subst this; exact Nat.le_refl _
  | succ b ih =>
    by_cases e : a = b + 1
    · subst e; exact Nat.le_refl _
    · have h1 := ih (by omega)
      have h2 : leastS l (b + 1) = max (leastS l b) (rankS (l b)) := rfl
      omega

set_option maxRecDepth 100000 in
set_option maxHeartbeats 1000000 in
theorem least_ints (b : Value) (bn : Int) (s i f c x : Value) (n : Nat) (l : Nat → Int) (w : World) (hn : n ≤ 1000000)
    (hlen : ∀ w', Below w.heap.size w w' → Calls Tryd.prog 38 #[vecV 3 b bn s i f c x] w' fun e w2 => e = .returned (.int .i64 n) ∧ Below w'.heap.size w' w2)
    (hwh : ∀ w', Below w.heap.size w w' → ∀ j, j < n → Calls Tryd.prog 59 #[vecV 3 b bn s i f c x, .int .i64 (j : Nat)] w' fun e w2 => e = .returned (.tuple #[.int .i64 (l j), .bool true]) ∧ Below w'.heap.size w' w2) :
    Calls Tryd.prog 41 #[vecV 3 b bn s i f c x] w fun e w' => e = .returned (.int .i64 (leastS l n : Nat)) ∧ Below w.heap.size w w' := by
  have HK := Lib.hid (fun W => kind_any 3 b bn s i f c x W)
  have HC := Lib.hid (fun W => class_3 b bn s i f c x W)
  have HLN := Lib.hid hlen
  have HW := Lib.hid hwh
  clear hlen hwh
  go_enter Tryd.func41, Tryd.ntmps41
  go_wp2_with fail
  refine (HC.out _).mono ?_
  rintro e w1 ⟨rfl, hb1⟩
  have HX1 := Lib.hid ((boxed_new w 35 3 b bn s i f c x).below hb1)
  have HB1 := Lib.hid (bel_both (bel1 w _) hb1)
  clear hb1
  obtain ⟨h0, h1, h2, h3, h4, h5, h6, h7⟩ := HX1.out
  go_wp2_with fail
  refine (HK.out _).mono ?_
  rintro e w2 ⟨rfl, hb2⟩
  have HX2 := Lib.hid (HX1.out.below hb2)
  have HB2 := Lib.hid (bel_both HB1.out hb2)
  clear hb2 h0 h1 h2 h3 h4 h5 h6 h7 HX1 HB1
  obtain ⟨h0, h1, h2, h3, h4, h5, h6, h7⟩ := HX2.out
  go_wp2_with fail
  refine (HLN.out _ HB2.out).mono ?_
  rintro e w3 ⟨rfl, hb3⟩
  have HX3 := Lib.hid (HX2.out.below hb3)
  have HB3 := Lib.hid (bel_both HB2.out hb3)
  clear hb3 h0 h1 h2 h3 h4 h5 h6 h7 HX2 HB2
  go_wp2_with fail
  go_loopw [3, 19] (fun q j wr => ∃ m : Nat, m ≤ n ∧ j = .int .i64 m ∧ q = .int .i64 (leastS l m : Nat) ∧ Below w.heap.size w wr ∧ Boxed wr w.heap.size 3 b bn s i f c x) (fun _ j _ => n - (intOf j).toNat)
  case atStart => exact ⟨0, Nat.zero_le _, rfl, rfl, HB3.out, HX3.out⟩
  case round =>
    obtain ⟨m, hm, rfl, rfl, hbl, hx⟩ := hrel
    have HBL := Lib.hid hbl
    have HX := Lib.hid hx
    clear hbl
    by_cases hlt : m < n
    · obtain ⟨h0, h1, h2, h3, h4, h5, h6, h7⟩ := hx
      go_wp2_with fail
      refine (HW.out _ HBL.out m hlt).mono ?_
      rintro e w4 ⟨rfl, hb4⟩
      have HX4 := Lib.hid (HX.out.below hb4)
      have HB4 := Lib.hid (bel_both HBL.out hb4)
      have HR := Lib.hid (rank_any (l m))
      have HM : Hid (leastS l (m + 1) = max (leastS l m) (rankS (l m))) := rfl
      have HM3 := Lib.hid (leastS_mono l (show m + 1 ≤ n by omega))
      have HL3 := Lib.hid (leastS_le l n)
      clear hb4 h0 h1 h2 h3 h4 h5 h6 h7 HX
      obtain ⟨h0, h1, h2, h3, h4, h5, h6, h7⟩ := HX4.out
      generalize leastS l m = p at *
      generalize rankS (l m) = r at *
      go_wp2_with fail
      refine (HR.out _).mono ?_
      rintro e w5 ⟨rfl, rfl⟩
      go_wp2_with fail
      case isTrue h3 =>
        refine (HK.out _).mono ?_
        rintro e w6 ⟨rfl, hb6⟩
        have HB6 := Lib.hid (bel_both HB4.out hb6)
        have HE : Hid (((leastS l n : Nat) : Int) = 3) := by
          have e1 := HM.out
          have e2 := HM3.out
          have e3 := HL3.out
          show _ = _
          omega
        clear hb6
        go_wp2
        go_ret
        exact ⟨by rw [HE.out]; rfl, HB6.out⟩
      case roundEnd h3 =>
        exact ⟨⟨m + 1, by omega, by go_num, by rw [HM.out]; exact congrArg _ (by omega), HB4.out, HX4.out⟩, by simp [intOf]; omega⟩
    · obtain rfl : m = n := by omega
      clear hx
      go_wp2
      go_ret
      exact ⟨rfl, HBL.out⟩
end Go.Proofs.YtdddmehchfnppaaDoor
