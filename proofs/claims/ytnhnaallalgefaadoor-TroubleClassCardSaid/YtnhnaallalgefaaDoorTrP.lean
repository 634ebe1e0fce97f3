/- The walks of the laws TroubleShows and TroubleClass. Conditions: as each theorem says. -/
import Derived.Test.YtnhnaallalgefaaDoorTrO
namespace Go.Proofs.YtnhnaallalgefaaDoor
open Go Go.RowKit Go.Proofs

set_option maxRecDepth 100000 in
set_option maxHeartbeats 1600000 in
theorem rShow_off (c a : Int) (A : Option Addr) (n cc : Nat) (l : List Int) (w : World) (hn : n = l.length) (hl : l.length ≤ 35184372088832) (hp : a < 0 ∨ (l.length : Int) < a ∨ 4096 < l.length) :
    Calls Tryd.prog 32 #[.int .i64 c, .int .i64 a, .slice A n cc] w fun e w' => e = .returned (.string (showS (word c) a l)) ∧ Below w.heap.size w w' := by
  have HS : Hid (showS (word c) a l = word c ++ ⟨#[10]⟩) := by
    unfold Hid showS; rw [if_pos hp]
  have hp' : a < 0 ∨ (n : Int) < a ∨ 4096 < n := by rw [hn]; exact hp
  have hl' : n ≤ 35184372088832 := by omega
  have hW := word_size c
  clear hn hl hp
  have HP := Lib.hid hp'
  clear hp'
  generalize hSn : word c = S at *
  have HSN := Lib.hid hSn
  clear hSn
  go_enter Tryd.func32, Tryd.ntmps32
  go_wp2_with fail
  refine (rWord_walk c _).mono ?_
  rintro e w1 ⟨rfl, hb1⟩
  have HB1 := Lib.hid hb1
  clear hb1
  rw [HSN.out]
  have a1 := fun w => run_string_add_sum (P := Tryd.prog) w S ⟨#[10]⟩ (by rw [size_nl]; omega)
  by_cases h1 : a < 0
  · go_wp2
    go_ret
    exact ⟨by rw [HS.out]; rfl, HB1.out⟩
  · have h1' : 0 ≤ a := by omega
    by_cases h2 : (n : Int) < a
    · go_wp2
      go_ret
      exact ⟨by rw [HS.out]; rfl, HB1.out⟩
    · have h3 : 4096 < n := (HP.out.resolve_left h1).resolve_left h2
      go_wp2
      go_ret
      exact ⟨by rw [HS.out]; rfl, HB1.out⟩

theorem rShow_any (c a : Int) (A : Option Addr) (n cc : Nat) (l : List Int) (w : World) (hr : Runes w (.slice A n cc) l) (hl : l.length ≤ 35184372088832) :
    Calls Tryd.prog 32 #[.int .i64 c, .int .i64 a, .slice A n cc] w fun e w' => e = .returned (.string (showS (word c) a l)) ∧ Below w.heap.size w w' := by
  by_cases hp : a < 0 ∨ (l.length : Int) < a ∨ 4096 < l.length
  · obtain ⟨A', cc', n', hv', hn, _⟩ := hr.open_
    obtain ⟨rfl, rfl, rfl⟩ : A = A' ∧ n = n' ∧ cc = cc' := by simpa using hv'
    exact rShow_off c a A n cc l w hn hl hp
  · obtain ⟨p, rfl⟩ := Int.eq_ofNat_of_zero_le (show 0 ≤ a by omega)
    exact rShow_line c p A n cc l w hr (by omega) (by omega)

set_option maxRecDepth 100000 in
set_option maxHeartbeats 1600000 in
theorem shows_off (c a : Int) (vn : Value) (ss : List ByteArray) (A : Option Addr) (n cc : Nat) (w : World) (hs : Sts w vn ss) (hsl : ss.length ≤ 8796093022208) (hb : smallB ss = false ∨ 600 < n ∧ n ≤ 4096) (hl : n ≤ 35184372088832) (he : ErrT w) :
    Calls Tryd.prog 8 #[.int .i64 c, .int .i64 a, vn, .slice A n cc] w fun e w' => e = .returned (.bool true) ∧ Below w.heap.size w w' := by
  have HS := Lib.hid (small_walk vn ss w hs hsl)
  have HA := Lib.hid (awake_walk w he)
  have HBB := Lib.hid hb
  obtain ⟨A2, cc2, n2, hv, hn, _⟩ := hs.open_
  have HNL := Lib.hid hn
  clear hn
  subst hv
  clear hs hsl he hb
  go_enter Tryd.func8, Tryd.ntmps8
  go_wp2_with fail
  refine HS.out.mono ?_
  rintro e w' ⟨rfl, rfl⟩
  by_cases hb : smallB ss = false
  · rw [hb]
    clear hb
    go_wp2_with fail
    refine HA.out.mono ?_
    rintro e w' ⟨rfl, hb⟩
    have HB := Lib.hid hb
    clear hb
    go_wp2
    go_ret
    exact ⟨rfl, HB.out⟩
  · have hb' : smallB ss = true := by simpa using hb
    rw [hb']
    obtain ⟨hn1, hn2⟩ := HBB.out.resolve_left hb
    clear hb hb' HBB
    have h1 : decide (600 < n) = true := by simpa using hn1
    have h2 : decide (n ≤ 4096) = true := by simpa using hn2
    go_wp2_with fail
    refine HA.out.mono ?_
    rintro e w' ⟨rfl, hb⟩
    have HB := Lib.hid hb
    clear hb
    go_wp2
    go_ret
    exact ⟨rfl, HB.out⟩

set_option maxRecDepth 100000 in
set_option maxHeartbeats 1600000 in
theorem shows_zero (a : Int) (vn : Value) (ss : List ByteArray) (A : Option Addr) (n cc : Nat) (w : World) (hs : Sts w vn ss) (hb : smallB ss = true) (hn : ¬ (600 < n ∧ n ≤ 4096)) (hl : n ≤ 35184372088832) (he : ErrT w) :
    Calls Tryd.prog 8 #[.int .i64 0, .int .i64 a, vn, .slice A n cc] w fun e w' => e = .returned (.bool true) ∧ Below w.heap.size w w' := by
  have hsm := smallB_true hb
  have HS := Lib.hid (small_walk vn ss w hs (by omega))
  have HM := Lib.hid (made0_walk a vn ss w hs (by omega))
  have HE := Lib.hid he
  obtain ⟨A2, cc2, n2, hv, hn2, _⟩ := hs.open_
  have HNL := Lib.hid hn2
  clear hn2
  subst hv
  clear hs he hsm
  go_enter Tryd.func8, Tryd.ntmps8
  go_wp2_with fail
  refine HS.out.mono ?_
  rintro e w' ⟨rfl, rfl⟩
  rw [hb]
  clear hb
  have HN := Lib.hid hn
  clear hn
  by_cases h6 : 600 < n
  · have h1 : decide (600 < n) = true := by simpa using h6
    have h2 : 4096 < n := by have := HN.out; omega
    go_wp2_with fail
    refine HM.out.mono ?_
    rintro e w' ⟨rfl, rfl⟩
    go_wp2_with fail
    refine (showNil_walk _ _ _ _).mono ?_
    rintro e w2 ⟨rfl, hb2⟩
    have HB2 := Lib.hid hb2
    clear hb2
    go_wp2_with fail
    refine (awake_walk _ (HE.out.below HB2.out)).mono ?_
    rintro e w3 ⟨rfl, hb3⟩
    have HB3 := Lib.hid (HB2.out.trans (hb3.mono HB2.out.size))
    clear hb3
    go_wp2
    go_ret
    exact ⟨rfl, HB3.out⟩
  · have h1 : decide (600 < n) = false := by simpa using h6
    go_wp2_with fail
    refine HM.out.mono ?_
    rintro e w' ⟨rfl, rfl⟩
    go_wp2_with fail
    refine (showNil_walk _ _ _ _).mono ?_
    rintro e w2 ⟨rfl, hb2⟩
    have HB2 := Lib.hid hb2
    clear hb2
    go_wp2_with fail
    refine (awake_walk _ (HE.out.below HB2.out)).mono ?_
    rintro e w3 ⟨rfl, hb3⟩
    have HB3 := Lib.hid (HB2.out.trans (hb3.mono HB2.out.size))
    clear hb3
    go_wp2
    go_ret
    exact ⟨rfl, HB3.out⟩

set_option maxRecDepth 100000 in
set_option maxHeartbeats 1600000 in
theorem shows_main (c a : Int) (hc : c ≠ 0) (vn : Value) (ss : List ByteArray) (A : Option Addr) (n cc : Nat) (l : List Int) (w : World) (hs : Sts w vn ss) (hb : smallB ss = true) (hn : ¬ (600 < n ∧ n ≤ 4096)) (hl : n ≤ 35184372088832)
    (hr : Runes w (.slice A n cc) l) (hcc : n ≤ cc) (he : ErrT w) :
    Calls Tryd.prog 8 #[.int .i64 c, .int .i64 a, vn, .slice A n cc] w fun e w' => e = .returned (.bool true) ∧ Below w.heap.size w w' := by
  have hll : l.length ≤ 35184372088832 := by
    obtain ⟨A', cc', n', hv', hn, _⟩ := hr.open_
    obtain ⟨rfl, rfl, rfl⟩ : A = A' ∧ n = n' ∧ cc = cc' := by simpa using hv'
    omega
  have hsm := smallB_true hb
  have HS := Lib.hid (small_walk vn ss w hs (by omega))
  have HM : Hid (Calls Tryd.prog 31 #[.int .i64 c, .int .i64 a, vn] w fun e w' => ∃ v, e = .returned v ∧ TB w vn c a v ss w') :=
    (made_walk c a hc vn ss w hs (by omega)).mono fun e w' ⟨v, h1, h2, h3⟩ => ⟨v, h1, h3, he.below h3, hs.below h3, h2⟩
  have HSH : Hid (∀ v w1, TB w vn c a v ss w1 → Calls Tryd.prog 30 #[v, .slice A n cc] w1 fun e w' => e = .returned (.string (showS (word c) a l)) ∧ Below w1.heap.size w1 w') := by
    intro v w1 h
    exact show_any c a hc v A n cc l w1 (hr.below h.below) hcc hll (fun w' hb => of_walk c a v (ss.length + 1) w' (h.err.below hb) (.inr ⟨ss, rfl, h.ch.below hb⟩)) (fun w' hb => at_walk c a v ss w' (h.err.below hb) (h.ch.below hb))
  have HRS : Hid (∀ w1, Below w.heap.size w w1 → Calls Tryd.prog 32 #[.int .i64 c, .int .i64 a, .slice A n cc] w1 fun e w' => e = .returned (.string (showS (word c) a l)) ∧ Below w1.heap.size w1 w') :=
    fun w1 hb => rShow_any c a A n cc l w1 (hr.below hb) hll
  have hcz : (c == 0) = false := by simpa using hc
  obtain ⟨A2, cc2, n2, hv, hn2, _⟩ := hs.open_
  have HNL := Lib.hid hn2
  clear hn2
  subst hv
  clear hs he hsm hr hll
  have HN := Lib.hid hn
  clear hn
  generalize showS (word c) a l = R at *
  have hRR : (R.toList == R.toList) = true := by simp
  by_cases h6 : 600 < n
  all_goals
    have h2 : n ≤ 600 ∨ 4096 < n := by have := HN.out; omega
    have H2 := Lib.hid h2
    clear h2
    try (have h3 : 4096 < n := by have := HN.out; omega)
    clear H2
    go_enter Tryd.func8, Tryd.ntmps8
    go_wp2_with fail
    refine HS.out.mono ?_
    rintro e w' ⟨rfl, rfl⟩
    rw [hb]
    clear hb
    go_wp2_with fail
    refine HM.out.mono ?_
    rintro e w2 ⟨v, rfl, h2⟩
    have H2 := Lib.hid h2
    clear h2
    go_wp2_with fail
    refine (HSH.out _ _ H2.out).mono ?_
    rintro e w3 ⟨rfl, hb3⟩
    have H3 := Lib.hid (H2.out.step hb3)
    clear hb3 H2
    go_wp2_with fail
    refine (HRS.out _ H3.out.below).mono ?_
    rintro e w4 ⟨rfl, hb4⟩
    have H4 := Lib.hid (H3.out.step hb4)
    clear hb4 H3
    go_wp2_with fail
    refine (awake_walk _ H4.out.err).mono ?_
    rintro e w5 ⟨rfl, hb5⟩
    have H5 := Lib.hid (H4.out.step hb5)
    clear hb5 H4
    go_wp2
    go_ret
    exact ⟨rfl, H5.out.below⟩

theorem shows_any (c a : Int) (vn : Value) (ss : List ByteArray) (A : Option Addr) (n cc : Nat) (l : List Int) (w : World) (hs : Sts w vn ss) (hsl : ss.length ≤ 8796093022208)
    (hr : Runes w (.slice A n cc) l) (hcc : n ≤ cc) (hl : n ≤ 35184372088832) (he : ErrT w) :
    Calls Tryd.prog 8 #[.int .i64 c, .int .i64 a, vn, .slice A n cc] w fun e w' => e = .returned (.bool true) ∧ Below w.heap.size w w' := by
  by_cases hn : 600 < n ∧ n ≤ 4096
  · exact shows_off c a vn ss A n cc w hs hsl (.inr hn) (by omega) he
  cases hb : smallB ss with
  | false => exact shows_off c a vn ss A n cc w hs hsl (.inl hb) (by omega) he
  | true =>
    by_cases hc : c = 0
    · subst hc; exact shows_zero a vn ss A n cc w hs hb hn (by omega) he
    · exact shows_main c a hc vn ss A n cc l w hs hb hn hl hr hcc he

theorem showS_neg (s : ByteArray) (l : List Int) : showS s (-1) l = s ++ ⟨#[10]⟩ := by unfold showS; rw [if_pos (by omega)]

set_option maxRecDepth 100000 in
set_option maxHeartbeats 1600000 in
theorem class_off (c : Int) (A : Option Addr) (n cc : Nat) (w : World) (hb : c = 0 ∨ 600 < n) (hl : n ≤ 35184372088832) (he : ErrT w) :
    Calls Tryd.prog 9 #[.int .i64 c, .slice A n cc] w fun e w' => e = .returned (.bool true) ∧ Below w.heap.size w w' := by
  have HA := Lib.hid (awake_walk w he)
  clear he
  have HB := Lib.hid hb
  clear hb
  by_cases hc : c = 0
  · subst hc
    go_enter Tryd.func9, Tryd.ntmps9
    go_wp2_with fail
    refine HA.out.mono ?_
    rintro e w' ⟨rfl, hb⟩
    have HB2 := Lib.hid hb
    clear hb
    go_wp2
    go_ret
    exact ⟨rfl, HB2.out⟩
  · have hn := HB.out.resolve_left hc
    have hcz : (c == 0) = false := by simpa using hc
    go_enter Tryd.func9, Tryd.ntmps9
    go_wp2_with fail
    refine HA.out.mono ?_
    rintro e w' ⟨rfl, hb⟩
    have HB2 := Lib.hid hb
    clear hb
    go_wp2
    go_ret
    exact ⟨rfl, HB2.out⟩

set_option maxRecDepth 100000 in
set_option maxHeartbeats 1600000 in
theorem class_main (c : Int) (hc : c ≠ 0) (A : Option Addr) (n cc : Nat) (l : List Int) (w : World) (hn : n ≤ 600) (hr : Runes w (.slice A n cc) l) (hcc : n ≤ cc) (he : ErrT w) :
    Calls Tryd.prog 9 #[.int .i64 c, .slice A n cc] w fun e w' => e = .returned (.bool true) ∧ Below w.heap.size w w' := by
  have hll : l.length ≤ 35184372088832 := by
    obtain ⟨A', cc', n', hv', hn, _⟩ := hr.open_
    obtain ⟨rfl, rfl, rfl⟩ : A = A' ∧ n = n' ∧ cc = cc' := by simpa using hv'
    omega
  have HOF : Hid (∀ w', Below w.heap.size w w' → Calls Tryd.prog 33 #[.iface 52 (.int .i64 c)] w' fun e w2 => e = .returned (.int .i64 c) ∧ Below w'.heap.size w' w2) :=
    fun w' hb => of_walk c 0 _ 0 w' (he.below hb) (.inl ⟨rfl, rfl⟩)
  have HAT : Hid (∀ w', Below w.heap.size w w' → Calls Tryd.prog 34 #[.iface 52 (.int .i64 c)] w' fun e w2 => e = .returned (.int .i64 (-1)) ∧ Below w'.heap.size w' w2) :=
    fun w' hb => atCl_walk c w' (he.below hb)
  have HSH : Hid (∀ w1, Below w.heap.size w w1 → Calls Tryd.prog 30 #[.iface 52 (.int .i64 c), .slice A n cc] w1 fun e w' => e = .returned (.string (word c ++ ⟨#[10]⟩)) ∧ Below w1.heap.size w1 w') := by
    intro w1 hb
    have := show_any c (-1) hc _ A n cc l w1 (hr.below hb) hcc hll (fun w' hb2 => HOF.out w' (hb.trans (hb2.mono hb.size))) (fun w' hb2 => HAT.out w' (hb.trans (hb2.mono hb.size)))
    rwa [showS_neg] at this
  have HE := Lib.hid he
  have hcz : (c == 0) = false := by simpa using hc
  have hcs : (c == c) = true := by simp
  clear hr hll he hcc
  have hsz := word_size c
  have HW := Lib.hid (word_walk c)
  have HRW := Lib.hid (rWord_walk c)
  have HTX := Lib.hid (textCl_walk c)
  generalize word c = S at *
  have a1 := fun w => run_string_add_sum (P := Tryd.prog) w S ⟨#[10]⟩ (by rw [size_nl]; omega)
  have hS1 : (S.toList == S.toList) = true := by simp
  have hS2 : ((S ++ ⟨#[10]⟩).toList == (S ++ ⟨#[10]⟩).toList) = true := by simp
  clear hsz
  go_enter Tryd.func9, Tryd.ntmps9
  go_wp2_with fail
  refine (HOF.out _ (Below.refl _ _)).mono ?_
  rintro e w1 ⟨rfl, hb1⟩
  have HB1 := Lib.hid hb1
  clear hb1
  go_wp2_with fail
  refine (HAT.out _ HB1.out).mono ?_
  rintro e w2 ⟨rfl, hb2⟩
  have HB2 := Lib.hid (HB1.out.trans (hb2.mono HB1.out.size))
  clear hb2 HB1
  go_wp2_with fail
  refine (namesCl_walk c _).mono ?_
  rintro e w' ⟨rfl, rfl⟩
  go_wp2_with fail
  refine (HTX.out _).mono ?_
  rintro e w' ⟨rfl, rfl⟩
  go_wp2_with fail
  refine (HRW.out _).mono ?_
  rintro e w3 ⟨rfl, hb3⟩
  have HB3 := Lib.hid (HB2.out.trans (hb3.mono HB2.out.size))
  clear hb3 HB2
  go_wp2_with fail
  refine (HSH.out _ HB3.out).mono ?_
  rintro e w4 ⟨rfl, hb4⟩
  have HB4 := Lib.hid (HB3.out.trans (hb4.mono HB3.out.size))
  clear hb4 HB3
  go_wp2_with fail
  refine (HRW.out _).mono ?_
  rintro e w5 ⟨rfl, hb5⟩
  have HB5 := Lib.hid (HB4.out.trans (hb5.mono HB4.out.size))
  clear hb5 HB4
  go_wp2_with fail
  refine (awake_walk _ (HE.out.below HB5.out)).mono ?_
  rintro e w6 ⟨rfl, hb6⟩
  have HB6 := Lib.hid (HB5.out.trans (hb6.mono HB5.out.size))
  clear hb6 HB5
  go_wp2
  go_ret
  exact ⟨rfl, HB6.out⟩

theorem class_any (c : Int) (A : Option Addr) (n cc : Nat) (l : List Int) (w : World) (hr : Runes w (.slice A n cc) l) (hcc : n ≤ cc) (hl : n ≤ 35184372088832) (he : ErrT w) :
    Calls Tryd.prog 9 #[.int .i64 c, .slice A n cc] w fun e w' => e = .returned (.bool true) ∧ Below w.heap.size w w' := by
  by_cases hb : c = 0 ∨ 600 < n
  · exact class_off c A n cc w hb hl he
  · exact class_main c (by omega) A n cc l w (by omega) hr hcc he
end Go.Proofs.YtnhnaallalgefaaDoor
