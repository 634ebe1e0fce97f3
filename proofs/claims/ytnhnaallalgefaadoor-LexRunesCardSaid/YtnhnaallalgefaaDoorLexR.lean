/- The walk of the law LexRunes. Conditions: the tables of unicode/utf8 read as their texts lay them; the type handle of error lies in its variable. -/
import Derived.Test.YtnhnaallalgefaaDoorLexQ
import Derived.Test.YtnhnaallalgefaaDoorLexM
import Derived.Test.YtnhnaallalgefaaDoorTrH
namespace Go.Proofs.YtnhnaallalgefaaDoor
open Go Go.RowKit Go.Proofs

/-- what is carried along -/
structure RB (w0 w : World) : Prop where
  below : Below w0.heap.size w0 w
  err : ErrT w
  tab : U8T w
theorem RB.step {w0 w w' : World} (h : RB w0 w) (hb : Below w.heap.size w w') : RB w0 w' := ⟨h.below.trans (hb.mono h.below.size), h.err.below hb, h.tab.below hb⟩

theorem RnTells.bad {s : ByteArray} {e : Ending} {w' : World} (h : RnTells s e w') (hw : whyS s ≠ 0) : ∃ v, e = .returned (.tuple #[.slice none 0 0, v]) ∧ Raised w' (whyS s) 0 v := by
  rcases h with ⟨_, h⟩ | ⟨h, _⟩
  · exact h
  · exact absurd h hw
theorem RnTells.good {s : ByteArray} {e : Ending} {w' : World} (h : RnTells s e w') (hw : whyS s = 0) : ∃ A n cc, e = .returned (.tuple #[.slice A n cc, .nilIface]) ∧ Runes w' (.slice A n cc) (runesOf s) := by
  rcases h with ⟨h, _⟩ | ⟨_, h⟩
  · exact absurd hw h
  · exact h

theorem runes_conv {w : World} {v : Value} {l : List Int} (h : Runes w v l) : (convert 26 9 v).run Tryd.prog w = .ok (.string (runesBytes l)) w := conv_runes2 h

set_option maxRecDepth 100000 in
set_option maxHeartbeats 1600000 in
theorem lexRunes_off (s : ByteArray) (w : World) (hs : 20000 < s.size) : Calls Tryd.prog 13 #[.string s] w fun e w' => e = .returned (.bool true) ∧ Below w.heap.size w w' := by
  have HA := Lib.hid (awake30_walk w)
  go_enter Tryd.func13, Tryd.ntmps13
  go_wp2_with fail
  refine HA.out.mono ?_
  rintro e w' ⟨rfl, hb⟩
  have HB := Lib.hid hb
  clear hb
  go_wp2
  go_ret
  exact ⟨rfl, HB.out⟩

set_option maxRecDepth 100000 in
set_option maxHeartbeats 3200000 in
theorem lexRunes_bad (s : ByteArray) (w : World) (hs : s.size ≤ 20000) (he : ErrT w) (ht : U8T w) (hwhy : whyS s ≠ 0)
    (HV : Hid (∀ w, U8T w → Calls Tryd.prog 56 #[.string s] w fun e w' => e = .returned (.bool (Lib.validD s.data.toList)) ∧ Below w.heap.size w w')) :
    Calls Tryd.prog 13 #[.string s] w fun e w' => e = .returned (.bool true) ∧ Below w.heap.size w w' := by
  have H0 : Hid (RB w w) := ⟨Below.refl _ _, he, ht⟩
  have HRN := Lib.hid (runes_walk s w ht HV)
  have HCT : Hid (∀ w, Calls Tryd.prog 57 #[.string s] w fun e w' => e = .returned (.int .i64 ((runesOf s).length : Int)) ∧ Below w.heap.size w w') := fun w => count_walk s w (by omega)
  have HOF : Hid (∀ w' v c, Raised w' c 0 v → RB w w' → Calls Tryd.prog 33 #[v] w' fun e w2 => e = .returned (.int .i64 c) ∧ Below w'.heap.size w' w2) :=
    fun w' v c hr h => of_walk c 0 v 1 w' h.err (.inr ⟨[], rfl, hr⟩)
  have HAT : Hid (∀ w' v c, Raised w' c 0 v → RB w w' → Calls Tryd.prog 34 #[v] w' fun e w2 => e = .returned (.int .i64 0) ∧ Below w'.heap.size w' w2) :=
    fun w' v c hr h => at_walk c 0 v [] w' h.err hr
  have HWY := Lib.hid hwhy
  clear he ht hwhy
  obtain ⟨n, hn⟩ : ∃ n, n = (runesOf s).length := ⟨_, rfl⟩
  rw [← hn] at HCT
  have hn2 : n ≤ 20000 := by have := runesOf_len s; omega
  by_cases h1 : 16384 < s.size
  · have hw : whyS s = 26 := by unfold whyS; rw [if_pos h1]
    have HW := Lib.hid hw
    clear hn hw
    go_enter Tryd.func13, Tryd.ntmps13
    go_wp2_with fail
    refine HRN.out.mono ?_
    rintro e w1 ⟨hr, hb⟩
    have H1 := Lib.hid (H0.out.step hb)
    clear hb
    have hx := hr.bad HWY.out
    clear hr
    obtain ⟨v, rfl, hr⟩ := hx
    rw [HW.out] at hr
    have HR := Lib.hid hr
    clear hr
    go_wp2_with fail
    refine (HOF.out _ _ _ HR.out H1.out).mono ?_
    rintro e w2 ⟨rfl, hb⟩
    have HR2 := Lib.hid (HR.out.below hb)
    have H2 := Lib.hid (H1.out.step hb)
    clear hb
    go_wp2_with fail
    refine (HAT.out _ _ _ HR2.out H2.out).mono ?_
    rintro e w3 ⟨rfl, hb⟩
    have H3 := Lib.hid (H2.out.step hb)
    clear hb
    go_wp2_with fail
    refine (awake30_walk _).mono ?_
    rintro e w4 ⟨rfl, hb⟩
    have H4 := Lib.hid (H3.out.step hb)
    clear hb
    go_wp2
    go_ret
    exact ⟨rfl, H4.out.below⟩
  · cases hv : Lib.validD s.data.toList with
    | false =>
      have hw : whyS s = 20 := by unfold whyS; rw [if_neg h1, if_pos hv]
      have HW := Lib.hid hw
      rw [hv] at HV
      clear hn hw hv
      go_enter Tryd.func13, Tryd.ntmps13
      go_wp2_with fail
      refine HRN.out.mono ?_
      rintro e w1 ⟨hr, hb⟩
      have H1 := Lib.hid (H0.out.step hb)
      clear hb
      have hx := hr.bad HWY.out
      clear hr
      obtain ⟨v, rfl, hr⟩ := hx
      rw [HW.out] at hr
      have HR := Lib.hid hr
      clear hr
      go_wp2_with fail
      refine (HV.out _ H1.out.tab).mono ?_
      rintro e w1b ⟨rfl, hb⟩
      have HRb := Lib.hid (HR.out.below hb)
      have H1b := Lib.hid (H1.out.step hb)
      clear hb
      go_wp2_with fail
      refine (HV.out _ H1b.out.tab).mono ?_
      rintro e w1c ⟨rfl, hb⟩
      have HRc := Lib.hid (HRb.out.below hb)
      have H1c := Lib.hid (H1b.out.step hb)
      clear hb
      go_wp2_with fail
      refine (HOF.out _ _ _ HRc.out H1c.out).mono ?_
      rintro e w2 ⟨rfl, hb⟩
      have HR2 := Lib.hid (HRc.out.below hb)
      have H2 := Lib.hid (H1c.out.step hb)
      clear hb
      go_wp2_with fail
      refine (HAT.out _ _ _ HR2.out H2.out).mono ?_
      rintro e w3 ⟨rfl, hb⟩
      have H3 := Lib.hid (H2.out.step hb)
      clear hb
      go_wp2_with fail
      refine (awake30_walk _).mono ?_
      rintro e w4 ⟨rfl, hb⟩
      have H4 := Lib.hid (H3.out.step hb)
      clear hb
      go_wp2
      go_ret
      exact ⟨rfl, H4.out.below⟩
    | true =>
      have h4 : 4096 < n := by
        apply Classical.byContradiction
        intro h
        exact HWY.out (by unfold whyS; rw [if_neg h1, if_neg (by rw [hv]; simp), if_neg (by omega)])
      have hw : whyS s = 26 := by unfold whyS; rw [if_neg h1, if_neg (by rw [hv]; simp), if_pos (by omega)]
      have HW := Lib.hid hw
      rw [hv] at HV
      clear hn hw hv
      go_enter Tryd.func13, Tryd.ntmps13
      go_wp2_with fail
      refine HRN.out.mono ?_
      rintro e w1 ⟨hr, hb⟩
      have H1 := Lib.hid (H0.out.step hb)
      clear hb
      have hx := hr.bad HWY.out
      clear hr
      obtain ⟨v, rfl, hr⟩ := hx
      rw [HW.out] at hr
      have HR := Lib.hid hr
      clear hr
      go_wp2_with fail
      refine (HV.out _ H1.out.tab).mono ?_
      rintro e w1b ⟨rfl, hb⟩
      have HRb := Lib.hid (HR.out.below hb)
      have H1b := Lib.hid (H1.out.step hb)
      clear hb
      go_wp2_with fail
      refine (HCT.out _).mono ?_
      rintro e w1c ⟨rfl, hb⟩
      have HRc := Lib.hid (HRb.out.below hb)
      have H1c := Lib.hid (H1b.out.step hb)
      clear hb
      go_wp2_with fail
      refine (HOF.out _ _ _ HRc.out H1c.out).mono ?_
      rintro e w2 ⟨rfl, hb⟩
      have HR2 := Lib.hid (HRc.out.below hb)
      have H2 := Lib.hid (H1c.out.step hb)
      clear hb
      go_wp2_with fail
      refine (HAT.out _ _ _ HR2.out H2.out).mono ?_
      rintro e w3 ⟨rfl, hb⟩
      have H3 := Lib.hid (H2.out.step hb)
      clear hb
      go_wp2_with fail
      refine (awake30_walk _).mono ?_
      rintro e w4 ⟨rfl, hb⟩
      have H4 := Lib.hid (H3.out.step hb)
      clear hb
      go_wp2
      go_ret
      exact ⟨rfl, H4.out.below⟩

set_option maxRecDepth 100000 in
set_option maxHeartbeats 3200000 in
theorem lexRunes_good (s : ByteArray) (w : World) (he : ErrT w) (ht : U8T w) (hwhy : whyS s = 0)
    (HV : Hid (∀ w, U8T w → Calls Tryd.prog 56 #[.string s] w fun e w' => e = .returned (.bool (Lib.validD s.data.toList)) ∧ Below w.heap.size w w')) :
    Calls Tryd.prog 13 #[.string s] w fun e w' => e = .returned (.bool true) ∧ Below w.heap.size w w' := by
  have hall : s.size ≤ 16384 ∧ Lib.validD s.data.toList = true ∧ (runesOf s).length ≤ 4096 := by
    unfold whyS at hwhy
    split at hwhy
    · omega
    · split at hwhy
      · omega
      · split at hwhy
        · omega
        · rename_i h1 h2 h3
          exact ⟨by omega, by simpa using h2, by omega⟩
  obtain ⟨hs, hv, hl⟩ := hall
  have H0 : Hid (RB w w) := ⟨Below.refl _ _, he, ht⟩
  have HRN := Lib.hid (runes_walk s w ht HV)
  have HCT : Hid (∀ w, Calls Tryd.prog 57 #[.string s] w fun e w' => e = .returned (.int .i64 ((runesOf s).length : Int)) ∧ Below w.heap.size w w') := fun w => count_walk s w (by omega)
  have HCV : Hid (∀ w, ∃ cc w', (convert 9 26 (.string s)).run Tryd.prog w = .ok (.slice (some ⟨w.heap.size, 0, none⟩) (runesOf s).length cc) w' ∧
    Runes w' (.slice (some ⟨w.heap.size, 0, none⟩) (runesOf s).length cc) (runesOf s) ∧ Below w.heap.size w w' ∧ (runesOf s).length ≤ cc) := fun w => conv_str s w (by omega)
  have HEQ : Hid (∀ w va vb, Runes w va (runesOf s) → Runes w vb (runesOf s) → Calls Tryd.prog 58 #[va, vb] w fun e w' => e = .returned (.bool true) ∧ Below w.heap.size w w') := by
    intro w va vb h1 h2
    have := runesEq_walk va vb _ _ w h1 h2 (by omega) (by omega)
    rwa [decide_eq_true rfl] at this
  have HST : Hid (∀ w v, Runes w v (runesOf s) → (convert 26 9 v).run Tryd.prog w = .ok (.string s) w) := by
    intro w v h
    have := runes_conv h
    rwa [str_runes s hv] at this
  have HWY := Lib.hid hwhy
  rw [hv] at HV
  obtain ⟨n, hn⟩ : ∃ n, n = (runesOf s).length := ⟨_, rfl⟩
  rw [← hn] at HCT HCV hl
  clear he ht hwhy hv hn
  have hss : (s.toList == s.toList) = true := by simp
  go_enter Tryd.func13, Tryd.ntmps13
  go_wp2_with fail
  refine HRN.out.mono ?_
  rintro e w1 ⟨hr, hb⟩
  have H1 := Lib.hid (H0.out.step hb)
  clear hb
  have hx := hr.good HWY.out
  clear hr
  obtain ⟨A, m, cc, rfl, hr⟩ := hx
  have HR := Lib.hid hr
  clear hr
  go_wp2_with fail
  refine (HV.out _ H1.out.tab).mono ?_
  rintro e w1b ⟨rfl, hb⟩
  have HRb := Lib.hid (HR.out.below hb)
  have H1b := Lib.hid (H1.out.step hb)
  clear hb
  go_wp2_with fail
  refine (HCT.out _).mono ?_
  rintro e w1c ⟨rfl, hb⟩
  have HRc := Lib.hid (HRb.out.below hb)
  have H1c := Lib.hid (H1b.out.step hb)
  clear hb
  go_wp2_with fail
  refine (HV.out _ H1c.out.tab).mono ?_
  rintro e w1d ⟨rfl, hb⟩
  have HRd := Lib.hid (HRc.out.below hb)
  have H1d := Lib.hid (H1c.out.step hb)
  clear hb
  go_wp2_with fail
  refine (ofNil_walk _).mono ?_
  rintro e w2 ⟨rfl, hb⟩
  have HR2 := Lib.hid (HRd.out.below hb)
  have H2 := Lib.hid (H1d.out.step hb)
  clear hb
  obtain ⟨c4, w4, hcv, hr4, hb4, _⟩ := HCV.out w2
  have HR4 := Lib.hid hr4
  have HRl := Lib.hid (HR2.out.below hb4)
  have H4 := Lib.hid (H2.out.step hb4)
  clear hr4 hb4
  go_wp2_with fail
  refine (HEQ.out _ _ _ HRl.out HR4.out).mono ?_
  rintro e w5 ⟨rfl, hb⟩
  have hst := HST.out _ _ (HRl.out.below hb)
  have H5 := Lib.hid (H4.out.step hb)
  clear hb
  go_wp2_with fail
  refine (awake30_walk _).mono ?_
  rintro e w6 ⟨rfl, hb⟩
  have H6 := Lib.hid (H5.out.step hb)
  clear hb
  go_wp2
  go_ret
  exact ⟨rfl, H6.out.below⟩

theorem lexRunes_any (s : ByteArray) (w : World) (he : ErrT w) (ht : U8T w)
    (HV : Hid (∀ w, U8T w → Calls Tryd.prog 56 #[.string s] w fun e w' => e = .returned (.bool (Lib.validD s.data.toList)) ∧ Below w.heap.size w w')) :
    Calls Tryd.prog 13 #[.string s] w fun e w' => e = .returned (.bool true) ∧ Below w.heap.size w w' := by
  by_cases hs : 20000 < s.size
  · exact lexRunes_off s w hs
  · by_cases hw : whyS s = 0
    · exact lexRunes_good s w he ht hw HV
    · exact lexRunes_bad s w (by omega) he ht hw HV
end Go.Proofs.YtnhnaallalgefaaDoor
