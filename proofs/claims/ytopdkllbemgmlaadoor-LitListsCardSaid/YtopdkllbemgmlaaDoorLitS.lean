/- The walk of the statement LitWrites. Conditions: the table of math/bits reads as its text lays it. -/
import Derived.Test.YtopdkllbemgmlaaDoorLitQ
import Derived.Deep.RegionHeld3
namespace Go.Proofs.YtopdkllbemgmlaaDoor
open Go Go.RowKit Go.Proofs Fl

/-- every number is written somehow -/
theorem wr_ex (s : Bool) {Z : Nat} (hz : Rep Z) : ∃ l, WrIs s Z l := by
  by_cases hw : IsWhole Z
  · obtain ⟨m, hm, hZ⟩ := hw
    exact ⟨_, .inl ⟨m, hm, hZ, rfl⟩⟩
  · have h0 : Z ≠ 0 := by rintro rfl; exact hw ⟨0, by omega, by simp⟩
    obtain ⟨z, r, hr⟩ := odd_parts Z h0
    exact ⟨_, .inr ⟨hw, 2 * r + 1, z, by omega, by rw [hr, Nat.mul_comm], rfl⟩⟩

theorem wr_len {s : Bool} {Z : Nat} (hz : Rep Z) {l : List Int} (h : WrIs s Z l) : 0 < l.length ∧ l.length ≤ 60 := by
  rcases h with ⟨m, hm, hZ, hl⟩ | ⟨hn, q, j, hq, hZ, hl⟩
  · obtain ⟨b1, b2⟩ := sg_bd s hm
    rw [hl]
    exact ⟨List.length_pos_iff.2 (writeS_ne _), by have := writeS_len _ b1 b2; omega⟩
  · rw [hZ] at hz
    obtain ⟨b0, b3⟩ := odd_bounds hz hq rfl
    obtain ⟨b1, b2⟩ := sg_bd s (show q ≤ 9007199254740992 by omega)
    have h1 := writeS_len _ b1 b2
    have h2 := writeS_len ((j : Int) - 1074) (by omega) (by omega)
    rw [hl]; simp; omega

theorem readS_whole (s : Bool) {Z : Nat} (hz : Rep Z) (htidy : Z = 0 → s = false) {l : List Int} (hl : WrIs s Z l) : readS l 0 = some (W s Z, l.length) := by
  have := readS_back s hz htidy hl [] [] (.inl rfl)
  simpa using this

/-- what holds at every step of the last expression -/
def HeldS (w0 W : World) (v : Value) (l : List Int) : Prop := Runes W v l ∧ TzTab W ∧ Below w0.heap.size w0 W
theorem HeldS.step {w0 W W2 : World} {v : Value} {l : List Int} {S : ByteArray} (hS : S = runesBytes l) (h : (convert 26 9 v).run Tryd.prog W = .ok (.string S) W ∧ HeldS w0 W v l) (hb : Below W.heap.size W W2) :
    (convert 26 9 v).run Tryd.prog W2 = .ok (.string S) W2 ∧ HeldS w0 W2 v l := by
  obtain ⟨_, h1, h2, h3⟩ := h
  have h1' := h1.below hb
  exact ⟨by rw [hS]; exact conv_runes h1', h1', h2.below hb, h3.trans (hb.mono h3.size)⟩

set_option maxRecDepth 100000 in
set_option maxHeartbeats 800000 in
theorem litWrites_num (x : Nat) (s : Bool) (Z : Nat) (hz : Rep Z) (htidy : Z = 0 → s = false) (w : World) (ht : TzTab w)
    (hx : ∀ w, Calls Tryd.prog 8 #[.float .f64 x] w fun e w' => e = .returned (.tuple #[.float .f64 (W s Z), .bool true]) ∧ w = w') :
    Calls Tryd.prog 3 #[.float .f64 x] w fun e w' => e = .returned (.bool true) ∧ Below w.heap.size w w' := by
  obtain ⟨l, hl⟩ := wr_ex s hz
  have hlen := wr_len hz hl
  have hread := readS_whole s hz htidy hl
  have HX := Lib.hid hx
  have HT := Lib.hid ht
  have HW := Lib.hid (fun w ht => lWrite_any s hz hl w ht)
  have HR := Lib.hid (rWrite_any s hz hl)
  have HBt := Lib.hid (bits_same s hz)
  have HL : Hid (∀ w v, Runes w v l → Calls Tryd.prog 11 #[v, .int .i64 0] w fun e w' => e = .returned (.tuple #[.float .f64 (W s Z), .int .i64 l.length, .bool true]) ∧ w = w') := by
    intro w v h
    have := lread_any h (by omega) 0
    rw [hread] at this
    exact this
  have hsz : (runesBytes l).size ≤ 240 := by have := runesBytes_size_le l; omega
  clear hx ht hl hread hz htidy
  have hconv : ∀ W v, Runes W v l → (convert 26 9 v).run Tryd.prog W = .ok (.string (runesBytes l)) W := fun W v h => conv_runes h
  generalize hSl : runesBytes l = S at *
  have HSl := Lib.hid hSl.symm
  clear hSl
  generalize W s Z = y at *
  go_enter Tryd.func3, Tryd.ntmps3
  go_wp2_with fail
  refine (HX.out _).mono ?_
  rintro e w' ⟨rfl, rfl⟩
  go_wp2_with fail
  refine (HW.out _ HT.out).mono ?_
  rintro e w1 ⟨v, rfl, ho, hb1⟩
  have hr := ho.runes
  obtain ⟨a, c, hv⟩ := ho.len
  clear ho
  subst hv
  have HT1 := Lib.hid (HT.out.below hb1)
  go_wp2_with fail
  refine (HL.out _ _ hr).mono ?_
  rintro e w' ⟨rfl, rfl⟩
  go_wp2_with fail
  have hc1 := hconv w1.drew (.slice a l.length c) hr
  have hs1 : HeldS w w1.drew (.slice a l.length c) l := ⟨hr, HT1.out, hb1.drew⟩
  clear hconv hr hb1
  go_region_held3 (fun W => (convert 26 9 (.slice a l.length c)).run Tryd.prog W = .ok (.string S) W ∧ HeldS w W (.slice a l.length c) l) (first | assumption | exact ⟨hc1, hs1⟩) (first | (go_at_call 12; refine (HR.out _).mono ?_; rintro e w2 ⟨rfl, hb2⟩; have hs2 := HeldS.step HSl.out (by assumption) hb2) | (go_at_call 13; refine (HBt.out _).mono ?_; rintro e w3 ⟨rfl, rfl⟩) | (go_at_call 9; refine (awake_any _ (‹_ ∧ HeldS _ _ _ _›).2.2.1).mono ?_; rintro e w4 ⟨rfl, hb4⟩; have hs4 := HeldS.step HSl.out (by assumption) hb4))
  all_goals
    have hfin := hs4.2.2.2
    clear hs4
    go_wp2
    go_ret
    exact ⟨rfl, hfin⟩

set_option maxHeartbeats 800000 in
theorem litWrites_bad (x : Nat) (hx : (∃ s, x = infw s) ∨ (Ieee.double.read x).isNaN = true) (w : World) (ht : TzTab w) :
    Calls Tryd.prog 3 #[.float .f64 x] w fun e w' => e = .returned (.bool true) ∧ Below w.heap.size w w' := by
  have HT := Lib.hid ht
  have HX := Lib.hid (rtidy_bad hx)
  clear ht hx
  go_enter Tryd.func3, Tryd.ntmps3
  go_wp2_with fail
  refine (HX.out _).mono ?_
  rintro e w' ⟨rfl, rfl⟩
  go_wp2_with fail
  refine (awake_any _ HT.out).mono ?_
  rintro e w' ⟨rfl, hbl⟩
  go_wp2_with fail
  go_ret
  exact ⟨rfl, hbl⟩

/-- Tidy of a number is a number without a signed zero -/
theorem tidy_ex (s : Bool) {Z : Nat} (hz : Rep Z) : ∃ s' , (Z = 0 → s' = false) ∧
    ∀ w, Calls Tryd.prog 8 #[.float .f64 (W s Z)] w fun e w' => e = .returned (.tuple #[.float .f64 (W s' Z), .bool true]) ∧ w = w' := by
  by_cases h0 : Z = 0
  · refine ⟨false, fun _ => rfl, fun w => ?_⟩
    have := rtidy_num s hz w
    rw [tid, if_pos h0] at this
    rw [h0, W_zero]
    rw [h0] at this
    exact this
  · refine ⟨s, fun h => absurd h h0, fun w => ?_⟩
    have := rtidy_num s hz w
    rwa [tid, if_neg h0] at this

theorem litWrites_any (x : Nat) (hx : x < 18446744073709551616) {w : World} (ht : TzTab w) :
    Calls Tryd.prog 3 #[.float .f64 x] w fun e w' => e = .returned (.bool true) ∧ Below w.heap.size w w' := by
  rcases classify x hx with ⟨s, Z, hz, rfl⟩ | h
  · obtain ⟨s', h1, h2⟩ := tidy_ex s hz
    exact litWrites_num _ s' Z hz h1 w ht h2
  · exact litWrites_bad x h w ht
end Go.Proofs.YtopdkllbemgmlaaDoor
