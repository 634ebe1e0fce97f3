/- The walk of the law LexNames. No conditions. -/
import Derived.Test.YtnhnaallalgefaaLexM
import Derived.Test.YtnhnaallalgefaaLexD
namespace Go.Proofs.Ytnhnaallalgefaa
open Go Go.RowKit Go.Proofs Fl

theorem isVerb_walk (c : Int) (w : World) : Calls Try.prog 5 #[.int .i32 c] w fun e w' => e = .returned (.bool (decide (c ∈ verbL))) ∧ Below w.heap.size w w' := by
  generalize hD : decide (c ∈ verbL) = D
  go_enter Try.func5, Try.ntmps5
  go_wp2_with fail
  refine (in_at c verbL _ _ (by decide +kernel)).mono ?_
  rintro e w' ⟨rfl, hb⟩
  rw [hD]
  have HB := Lib.hid hb
  clear hb hD
  go_wp2
  go_ret
  exact ⟨rfl, HB.out⟩

set_option maxRecDepth 100000 in
theorem names_off (c : Int) (s : ByteArray) (w : World) (hs : 200 < s.size) :
    Calls Try.prog 3 #[.int .i32 c, .string s] w fun e w' => e = .returned (.bool true) ∧ Below w.heap.size w w' := by
  have HA := Lib.hid (awake30_walk w)
  go_enter Try.func3, Try.ntmps3
  go_wp2_with fail
  refine HA.out.mono ?_
  rintro e w' ⟨rfl, hb⟩
  have HB := Lib.hid hb
  clear hb
  go_wp2
  go_ret
  exact ⟨rfl, HB.out⟩

set_option maxRecDepth 100000 in
set_option maxHeartbeats 3200000 in
theorem names_main (c : Int) (s : ByteArray) (w : World) (hs : s.size ≤ 200) :
    Calls Try.prog 3 #[.int .i32 c, .string s] w fun e w' => e = .returned (.bool true) ∧ Below w.heap.size w w' := by
  have HV := Lib.hid (isVerb_walk c)
  have HIN : Hid (∀ v w', Runes w' v verbsL → Calls Try.prog 6 #[.int .i32 c, v] w' fun e w2 => e = .returned (.bool (decide (c ∈ verbL))) ∧ w' = w2) := fun v w' h => rIn_walk c v verbsL w' h (by decide)
  have HUP := Lib.hid (upper_walk s)
  have HG : Hid (∀ w, Calls Try.prog 9 #[.string s] w fun e w' => e = .returned (.bool (goodB (runesOf s))) ∧ Below w.heap.size w w') := fun w => good_walk s w (by omega)
  have HRG : Hid (∀ v w', Runes w' v (runesOf s) → Calls Try.prog 10 #[v] w' fun e w2 => e = .returned (.bool (goodB (runesOf s))) ∧ w' = w2) := fun v w' h => rGood_walk v _ w' h (by have := runesOf_len s; omega)
  have HCV : Hid (∀ w, ∃ cc w', (convert 9 25 (.string s)).run Try.prog w = .ok (.slice (some ⟨w.heap.size, 0, none⟩) (runesOf s).length cc) w' ∧
    Runes w' (.slice (some ⟨w.heap.size, 0, none⟩) (runesOf s).length cc) (runesOf s) ∧ Below w.heap.size w w' ∧ (runesOf s).length ≤ cc) := fun w => conv_str s w (by omega)
  generalize decide (c ∈ verbL) = D at *
  have hDD : (D == D) = true := by simp
  generalize goodB (runesOf s) = Gd at *
  have hGG : (Gd == Gd) = true := by simp
  have HCASE : Hid ((s.size = 0 ∧ upB s = false) ∨ (∃ h : 0 < s.size, ((s[0]'h).toNat < 65 ∧ upB s = false) ∨ (65 ≤ (s[0]'h).toNat ∧ (s[0]'h).toNat ≤ 90 ∧ upB s = true) ∨ (90 < (s[0]'h).toNat ∧ upB s = false))) := by
    by_cases h : 0 < s.size
    · right
      refine ⟨h, ?_⟩
      rw [upB_eq h]
      by_cases h1 : 65 ≤ (s[0]'h).toNat
      · by_cases h2 : (s[0]'h).toNat ≤ 90
        · exact .inr (.inl ⟨h1, h2, by rw [decide_eq_true h1, decide_eq_true h2]; rfl⟩)
        · exact .inr (.inr ⟨by omega, by rw [decide_eq_false h2]; simp⟩)
      · exact .inl ⟨by omega, by rw [decide_eq_false h1]; rfl⟩
    · exact .inl ⟨by omega, upB_nil (by omega)⟩
  rcases HCASE.out with ⟨h0, hu⟩ | ⟨h0, ⟨h1, hu⟩ | ⟨h1, h2, hu⟩ | ⟨h1, hu⟩⟩
  all_goals
    rw [hu] at HUP
    clear hu HCASE
    try (have h3 : ((s[0]'h0).toNat : Int) < 65 := by omega)
    try (have h3 : (65 : Int) ≤ ((s[0]'h0).toNat : Int) := by omega)
    try (have h4 : ((s[0]'h0).toNat : Int) ≤ 90 := by omega)
    try (have h4 : (90 : Int) < ((s[0]'h0).toNat : Int) := by omega)
    try (have h5 : decide (((s[0]'h0).toNat : Int) ≤ 90) = true := by simp; omega)
    try (have h5 : decide (((s[0]'h0).toNat : Int) ≤ 90) = false := by simp; omega)
    go_enter Try.func3, Try.ntmps3
    go_wp2_with fail
    refine (HV.out _).mono ?_
    rintro e w1 ⟨rfl, hb⟩
    have HB1 := Lib.hid hb
    clear hb
    go_wp2_with fail
    refine (verbs_walk _).mono ?_
    rintro e w2 ⟨v, rfl, hr, hb⟩
    have HB2 := Lib.hid (HB1.out.trans (hb.mono HB1.out.size))
    have HR2 := Lib.hid hr
    clear hb hr
    go_wp2_with fail
    refine (HIN.out _ _ HR2.out).mono ?_
    rintro e w' ⟨rfl, rfl⟩
    go_wp2_with fail
    refine (HUP.out _).mono ?_
    rintro e w' ⟨rfl, rfl⟩
    go_wp2_with fail
    refine (HG.out _).mono ?_
    rintro e w3 ⟨rfl, hb⟩
    have HB3 := Lib.hid (HB2.out.trans (hb.mono HB2.out.size))
    clear hb
    obtain ⟨cc, w4, hcv, hr4, hb4, _⟩ := HCV.out w3
    have HR4 := Lib.hid hr4
    have HB4 := Lib.hid (HB3.out.trans (hb4.mono HB3.out.size))
    clear hr4 hb4
    go_wp2_with fail
    refine (HRG.out _ _ HR4.out).mono ?_
    rintro e w' ⟨rfl, rfl⟩
    go_wp2_with fail
    refine (awake30_walk _).mono ?_
    rintro e w5 ⟨rfl, hb⟩
    have HB5 := Lib.hid (HB4.out.trans (hb.mono HB4.out.size))
    clear hb
    go_wp2
    go_ret
    exact ⟨rfl, HB5.out⟩

theorem names_any (c : Int) (s : ByteArray) (w : World) : Calls Try.prog 3 #[.int .i32 c, .string s] w fun e w' => e = .returned (.bool true) ∧ Below w.heap.size w w' := by
  by_cases hs : 200 < s.size
  · exact names_off c s w hs
  · exact names_main c s w (by omega)
end Go.Proofs.Ytnhnaallalgefaa
