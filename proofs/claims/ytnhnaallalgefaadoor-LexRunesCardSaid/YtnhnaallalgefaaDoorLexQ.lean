/- The walk of lex.Runes. Conditions: the tables of unicode/utf8 read as their texts lay them. -/
import Derived.Test.YtnhnaallalgefaaDoorLexP
import Derived.Shelf.Unicode.DecodeSlow
namespace Go.Proofs.YtnhnaallalgefaaDoor
open Go Go.RowKit Go.Proofs

/-- the tables of unicode/utf8 -/
def U8T (w : World) : Prop := Lib.Utf8Tabs 1 2 w
theorem U8T.below {w w' : World} (h : U8T w) (hb : Below w.heap.size w w') : U8T w' := Utf8Tabs_below h hb

/-- why a text has no signs: 26 too many, 20 no text; 0: it has -/
def whyS (s : ByteArray) : Int := if 16384 < s.size then 26 else if Lib.validD s.data.toList = false then 20 else if 4096 < (runesOf s).length then 26 else 0

/-- what lex.Runes tells -/
def RnTells (s : ByteArray) (e : Ending) (w' : World) : Prop :=
  (whyS s ≠ 0 ∧ ∃ v, e = .returned (.tuple #[.slice none 0 0, v]) ∧ Raised w' (whyS s) 0 v) ∨
  (whyS s = 0 ∧ ∃ A n cc, e = .returned (.tuple #[.slice A n cc, .nilIface]) ∧ Runes w' (.slice A n cc) (runesOf s))

set_option maxRecDepth 100000 in
set_option maxHeartbeats 1600000 in
theorem runes_walk (s : ByteArray) (w : World) (ht : U8T w)
    (HV : Hid (∀ w, U8T w → Calls Tryd.prog 56 #[.string s] w fun e w' => e = .returned (.bool (Lib.validD s.data.toList)) ∧ Below w.heap.size w w')) :
    Calls Tryd.prog 55 #[.string s] w fun e w' => RnTells s e w' ∧ Below w.heap.size w w' := by
  have HT := Lib.hid ht
  clear ht
  by_cases h1 : 16384 < s.size
  · have HW : Hid (whyS s = 26) := by unfold Hid whyS; rw [if_pos h1]
    go_enter Tryd.func55, Tryd.ntmps55
    go_wp2_with fail
    refine (raised_walk 26 0 (by omega) _).mono ?_
    rintro e w2 ⟨v2, rfl, hr2, hb2⟩
    have HR2 : Hid (RnTells s (.returned (.tuple #[.slice none 0 0, v2])) w2) := .inl ⟨by rw [HW.out]; omega, v2, rfl, by rw [HW.out]; exact hr2⟩
    have HB := Lib.hid hb2
    clear hr2 hb2
    go_wp2
    go_ret2
    exact ⟨HR2.out, HB.out⟩
  · cases hv : Lib.validD s.data.toList with
    | false =>
      have HW : Hid (whyS s = 20) := by unfold Hid whyS; rw [if_neg h1, if_pos hv]
      rw [hv] at HV
      clear hv
      go_enter Tryd.func55, Tryd.ntmps55
      go_wp2_with fail
      refine (HV.out _ HT.out).mono ?_
      rintro e w1 ⟨rfl, hb1⟩
      have HB1 := Lib.hid hb1
      clear hb1
      go_wp2_with fail
      refine (raised_walk 20 0 (by omega) _).mono ?_
      rintro e w2 ⟨v2, rfl, hr2, hb2⟩
      have HR2 : Hid (RnTells s (.returned (.tuple #[.slice none 0 0, v2])) w2) := .inl ⟨by rw [HW.out]; omega, v2, rfl, by rw [HW.out]; exact hr2⟩
      have HB := Lib.hid (HB1.out.trans (hb2.mono HB1.out.size))
      clear hr2 hb2
      go_wp2
      go_ret2
      exact ⟨HR2.out, HB.out⟩
    | true =>
      rw [hv] at HV
      have HCV : Hid (∀ w, ∃ cc w', (convert 9 26 (.string s)).run Tryd.prog w = .ok (.slice (some ⟨w.heap.size, 0, none⟩) (runesOf s).length cc) w' ∧
        Runes w' (.slice (some ⟨w.heap.size, 0, none⟩) (runesOf s).length cc) (runesOf s) ∧ Below w.heap.size w w' ∧ (runesOf s).length ≤ cc) := fun w => conv_str s w (by omega)
      obtain ⟨n, hn⟩ : ∃ n, n = (runesOf s).length := ⟨_, rfl⟩
      rw [← hn] at HCV
      by_cases h2 : 4096 < n
      · have HW : Hid (whyS s = 26) := by unfold Hid whyS; rw [if_neg h1, if_neg (by rw [hv]; simp), if_pos (by omega)]
        clear hv hn
        go_enter Tryd.func55, Tryd.ntmps55
        go_wp2_with fail
        refine (HV.out _ HT.out).mono ?_
        rintro e w1 ⟨rfl, hb1⟩
        have HB1 := Lib.hid hb1
        clear hb1
        obtain ⟨cc, w4, hcv, _, hb4, _⟩ := HCV.out w1
        have HB4 := Lib.hid (HB1.out.trans (hb4.mono HB1.out.size))
        clear hb4
        go_wp2_with fail
        refine (raised_walk 26 0 (by omega) _).mono ?_
        rintro e w2 ⟨v2, rfl, hr2, hb2⟩
        have HR2 : Hid (RnTells s (.returned (.tuple #[.slice none 0 0, v2])) w2) := .inl ⟨by rw [HW.out]; omega, v2, rfl, by rw [HW.out]; exact hr2⟩
        have HB := Lib.hid (HB4.out.trans (hb2.mono HB4.out.size))
        clear hr2 hb2
        go_wp2
        go_ret2
        exact ⟨HR2.out, HB.out⟩
      · have HW : Hid (whyS s = 0) := by unfold Hid whyS; rw [if_neg h1, if_neg (by rw [hv]; simp), if_neg (by omega)]
        clear hv hn
        go_enter Tryd.func55, Tryd.ntmps55
        go_wp2_with fail
        refine (HV.out _ HT.out).mono ?_
        rintro e w1 ⟨rfl, hb1⟩
        have HB1 := Lib.hid hb1
        clear hb1
        obtain ⟨cc, w4, hcv, hr4, hb4, _⟩ := HCV.out w1
        have HB4 := Lib.hid (HB1.out.trans (hb4.mono HB1.out.size))
        have HR4 : Hid (RnTells s (.returned (.tuple #[.slice (some ⟨w1.heap.size, 0, none⟩) n cc, .nilIface])) w4) := .inr ⟨HW.out, _, _, _, rfl, hr4⟩
        clear hb4 hr4
        go_wp2
        go_ret2
        exact ⟨HR4.out, HB4.out⟩
end Go.Proofs.YtnhnaallalgefaaDoor
