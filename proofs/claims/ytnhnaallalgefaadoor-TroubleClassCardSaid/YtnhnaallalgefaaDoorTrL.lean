/- The walk of the law TroubleTells. Conditions: the type handle of error lies in its variable; fewer than 2^43 names. -/
import Derived.Test.YtnhnaallalgefaaDoorTrK
namespace Go.Proofs.YtnhnaallalgefaaDoor
open Go Go.RowKit Go.Proofs

/-- what the laws carry from call to call -/
structure TB (w0 : World) (vn : Value) (c a : Int) (v : Value) (ss : List ByteArray) (w : World) : Prop where
  below : Below w0.heap.size w0 w
  err : ErrT w
  sts : Sts w vn ss
  ch : Chain w c a v ss

theorem TB.step {w0 : World} {vn : Value} {c a : Int} {v : Value} {ss : List ByteArray} {w w' : World} (h : TB w0 vn c a v ss w) (hb : Below w.heap.size w w') : TB w0 vn c a v ss w' :=
  ⟨h.below.trans (hb.mono h.below.size), h.err.below hb, h.sts.below hb, h.ch.below hb⟩

theorem TB.drewN {w0 : World} {vn : Value} {c a : Int} {v : Value} {ss : List ByteArray} {w : World} (h : TB w0 vn c a v ss w) (m : Nat) : TB w0 vn c a v ss (w.drewN m) :=
  h.step (Below.drewN (Below.refl _ _) m)

theorem smallB_true {ss : List ByteArray} (h : smallB ss = true) : ss.length ≤ 60 ∧ ∀ s ∈ ss, s.size ≤ 200 := by
  unfold smallB at h
  rw [Bool.and_eq_true, decide_eq_true_eq, List.all_eq_true] at h
  exact ⟨h.1, fun s hs => by simpa using h.2 s hs⟩

set_option maxRecDepth 100000 in
set_option maxHeartbeats 1000000 in
theorem tells_big (c a o : Int) (vn : Value) (ss : List ByteArray) (w : World) (hs : Sts w vn ss) (hl : ss.length ≤ 8796093022208) (hb : smallB ss = false) (he : ErrT w) :
    Calls Tryd.prog 11 #[.int .i64 c, .int .i64 a, vn, .int .i64 o] w fun e w' => e = .returned (.bool true) ∧ Below w.heap.size w w' := by
  have HS := Lib.hid (small_walk vn ss w hs hl)
  have HA := Lib.hid (awake_walk w he)
  obtain ⟨A, cc, n, hv, hn, _⟩ := hs.open_
  have HNL := Lib.hid hn
  clear hn
  subst hv
  clear hs hl he
  go_enter Tryd.func11, Tryd.ntmps11
  go_wp2_with fail
  refine HS.out.mono ?_
  rintro e w' ⟨rfl, rfl⟩
  rw [hb]
  clear hb
  go_wp2_with fail
  refine HA.out.mono ?_
  rintro e w' ⟨rfl, hb⟩
  have HB := Lib.hid hb
  clear hb
  go_wp2
  go_ret
  exact ⟨rfl, HB.out⟩

set_option maxRecDepth 100000 in
set_option maxHeartbeats 1000000 in
theorem tells_zero (a o : Int) (vn : Value) (ss : List ByteArray) (w : World) (hs : Sts w vn ss) (hb : smallB ss = true) (he : ErrT w) :
    Calls Tryd.prog 11 #[.int .i64 0, .int .i64 a, vn, .int .i64 o] w fun e w' => e = .returned (.bool true) ∧ Below w.heap.size w w' := by
  have hsm := smallB_true hb
  have HS := Lib.hid (small_walk vn ss w hs (by omega))
  have HM := Lib.hid (made0_walk a vn ss w hs (by omega))
  have HE := Lib.hid he
  have hnn : ∀ w, (binOp .eql 48 .nilIface .nilIface).run Tryd.prog w = .ok (.bool true) w := fun w => by kernel_rfl
  have hemp : ((⟨#[]⟩ : ByteArray).toList == (⟨#[]⟩ : ByteArray).toList) = true := by simp
  obtain ⟨A, cc, n, hv, hn, _⟩ := hs.open_
  have HNL := Lib.hid hn
  clear hn
  subst hv
  clear hs he hsm
  go_enter Tryd.func11, Tryd.ntmps11
  go_wp2_with fail
  refine HS.out.mono ?_
  rintro e w1 ⟨rfl, hw⟩
  have HW : Hid (Below w.heap.size w w1) := by rw [Hid, hw]; exact Below.refl _ _
  obtain rfl := hw
  rw [hb]
  clear hb
  go_wp2_with fail
  refine HM.out.mono ?_
  rintro e w2 ⟨rfl, rfl⟩
  go_wp2_with fail
  refine (ofNil_walk _).mono ?_
  rintro e w3 ⟨rfl, hb3⟩
  have HB3 := Lib.hid hb3
  clear hb3
  go_wp2_with fail
  refine (atNil_walk _).mono ?_
  rintro e w4 ⟨rfl, hb4⟩
  have HB4 := Lib.hid (HB3.out.trans (hb4.mono HB3.out.size))
  clear hb4
  go_wp2_with fail
  refine (namesNil_walk _).mono ?_
  rintro e w5 ⟨rfl, rfl⟩
  go_wp2_with fail
  refine (textNil_walk _).mono ?_
  rintro e w6 ⟨rfl, rfl⟩
  have HI : Hid (Calls Tryd.prog 45 #[.nilIface, .int .i64 o] w6 fun e w' => e = .returned (.bool (decide (o = 0))) ∧ Below w6.heap.size w6 w') := by
    by_cases ho : o = 0
    · subst ho; exact (is0Nil_walk _).mono fun e w' ⟨h1, h2⟩ => ⟨by rw [h1]; simp, h2⟩
    · exact (isONil_walk o _ ho).mono fun e w' ⟨h1, h2⟩ => ⟨by rw [h1]; simp [ho], by rw [h2]; exact Below.refl _ _⟩
  go_wp2_with fail
  refine HI.out.mono ?_
  rintro e w7 ⟨rfl, hb7⟩
  have HB7 := Lib.hid (HB4.out.trans (hb7.mono HB4.out.size))
  clear hb7
  by_cases ho : o = 0
  · subst ho
    go_wp2_with fail
    refine (awake_walk _ (HE.out.below HB7.out)).mono ?_
    rintro e w8 ⟨rfl, hb8⟩
    have HB8 := Lib.hid (HB7.out.trans (hb8.mono HB7.out.size))
    clear hb8
    go_wp2
    go_ret
    exact ⟨rfl, HB8.out⟩
  · have hd : decide (o = 0) = false := decide_eq_false ho
    rw [hd]
    have h3 : (o == 0) = false := by simpa using ho
    go_wp2_with fail
    refine (awake_walk _ (HE.out.below HB7.out)).mono ?_
    rintro e w8 ⟨rfl, hb8⟩
    have HB8 := Lib.hid (HB7.out.trans (hb8.mono HB7.out.size))
    clear hb8
    go_wp2
    go_ret
    exact ⟨rfl, HB8.out⟩

set_option maxRecDepth 100000 in
set_option maxHeartbeats 1600000 in
theorem tells_main (c a o : Int) (hc : c ≠ 0) (vn : Value) (ss : List ByteArray) (w : World) (hs : Sts w vn ss) (hb : smallB ss = true) (he : ErrT w) :
    Calls Tryd.prog 11 #[.int .i64 c, .int .i64 a, vn, .int .i64 o] w fun e w' => e = .returned (.bool true) ∧ Below w.heap.size w w' := by
  have hsm := smallB_true hb
  have HSM := Lib.hid hsm
  have HS := Lib.hid (small_walk vn ss w hs (by omega))
  have HM : Hid (Calls Tryd.prog 31 #[.int .i64 c, .int .i64 a, vn] w fun e w' => ∃ v, e = .returned v ∧ TB w vn c a v ss w') :=
    (made_walk c a hc vn ss w hs (by omega)).mono fun e w' ⟨v, h1, h2, h3⟩ => ⟨v, h1, h3, he.below h3, hs.below h3, h2⟩
  have HCN := Lib.hid hc
  have hn0 := Tb.eqlNil
  have hcc : (c == 0) = false := by simpa using hc
  obtain ⟨A, cc, n, hv, hn, _⟩ := hs.open_
  have HNL := Lib.hid hn
  clear hn
  subst hv
  clear hs he hsm
  go_enter Tryd.func11, Tryd.ntmps11
  go_wp2_with fail
  refine HS.out.mono ?_
  rintro e w1 ⟨rfl, rfl⟩
  rw [hb]
  clear hb
  go_wp2_with fail
  refine HM.out.mono ?_
  rintro e w2 ⟨v, rfl, h2⟩
  obtain ⟨t, x, rfl⟩ := h2.ch.notNil
  have H2 := Lib.hid h2
  clear h2
  go_wp2_with fail
  refine (of_walk c a _ (ss.length + 1) _ H2.out.err (.inr ⟨ss, rfl, H2.out.ch⟩)).mono ?_
  rintro e w3 ⟨rfl, hb3⟩
  have H3 := Lib.hid (H2.out.step hb3)
  clear hb3
  go_wp2_with fail
  refine (at_walk c a _ ss _ H3.out.err H3.out.ch).mono ?_
  rintro e w4 ⟨rfl, hb4⟩
  have H4 := Lib.hid (H3.out.step hb4)
  clear hb4
  go_wp2_with fail
  refine (names_walk c a _ ss _ H4.out.ch (by have := HSM.out.1; omega)).mono ?_
  rintro e w5 ⟨l, rfl, ho5, hb5⟩
  have H5 := Lib.hid (H4.out.step hb5)
  have HO5 := Lib.hid (Own1.sts ho5)
  clear hb5 ho5
  go_wp2_with fail
  refine (texts_walk _ _ ss ss _ HO5.out H5.out.sts (by have := HSM.out.1; omega) (by have := HSM.out.1; omega)).mono ?_
  rintro e w6 ⟨rfl, m6, rfl⟩
  have H6 := Lib.hid (H5.out.drewN m6)
  rw [decide_eq_true (rfl : ss = ss)]
  generalize w5.drewN m6 = w6 at *
  go_wp2_with fail
  refine (text_walk c a ss _ _ (by have := HSM.out.1; omega) HSM.out.2 H6.out.ch).mono ?_
  rintro e w7 ⟨rfl, m7, rfl⟩
  have H7 := Lib.hid (H6.out.drewN m7)
  generalize w6.drewN m7 = w7 at *
  go_wp2_with fail
  refine (rText_walk c _ ss _ H7.out.sts HSM.out.1 HSM.out.2).mono ?_
  rintro e w8 ⟨rfl, hb8⟩
  have H8 := Lib.hid (H7.out.step hb8)
  clear hb8
  generalize textOf c ss = T at *
  have hT : (T.toList == T.toList) = true := by simp
  have HI : Hid (Calls Tryd.prog 45 #[.iface t x, .int .i64 o] w8 fun e w' => e = .returned (.bool (decide (o = c))) ∧ Below w8.heap.size w8 w') := by
    by_cases ho : o = 0
    · subst ho; exact (is0_walk c a _ _ _ H8.out.err (.inr ⟨ss, rfl, H8.out.ch⟩) HCN.out).mono fun e w' ⟨h1, h2⟩ => ⟨by rw [h1, decide_eq_false (fun e => HCN.out e.symm)], h2⟩
    · exact (isO_walk c a o _ _ _ (.inr ⟨ss, rfl, H8.out.ch⟩) ho).mono fun e w' ⟨h1, h2⟩ => ⟨by rw [h1]; congr 2; exact decide_eq_decide.2 eq_comm, by rw [h2]; exact Below.refl _ _⟩
  go_wp2_with fail
  refine HI.out.mono ?_
  rintro e w9 ⟨rfl, hb9⟩
  have H9 := Lib.hid (H8.out.step hb9)
  clear hb9 HI HS HM H2 H3 H4 H5 H6 H7 H8 HO5
  have hW : ((word c).toList == (word c).toList) = true := by simp
  generalize hoc : decide (o = c) = oc at *
  have hoc2 : (o == c) = oc := by rw [← hoc]; rfl
  have hoc3 : (oc == oc) = true := by simp
  go_wp2_with fail
  refine (word_walk c _).mono ?_
  rintro e w10 ⟨rfl, rfl⟩
  go_wp2_with fail
  refine (rWord_walk c _).mono ?_
  rintro e w11 ⟨rfl, hb11⟩
  have H11 := Lib.hid (H9.out.step hb11)
  clear hb11 H9
  go_wp2_with fail
  refine (errCl_walk c _).mono ?_
  rintro e w12 ⟨rfl, rfl⟩
  go_wp2_with fail
  refine (rWord_walk c _).mono ?_
  rintro e w13 ⟨rfl, hb13⟩
  have H13 := Lib.hid (H11.out.step hb13)
  clear hb13 H11
  go_wp2_with fail
  refine (awake_walk _ H13.out.err).mono ?_
  rintro e w14 ⟨rfl, hb14⟩
  have H14 := Lib.hid (H13.out.step hb14)
  clear hb14 H13
  go_wp2
  go_ret
  exact ⟨rfl, H14.out.below⟩

theorem tells_any (c a o : Int) (vn : Value) (ss : List ByteArray) (w : World) (hs : Sts w vn ss) (hl : ss.length ≤ 8796093022208) (he : ErrT w) :
    Calls Tryd.prog 11 #[.int .i64 c, .int .i64 a, vn, .int .i64 o] w fun e w' => e = .returned (.bool true) ∧ Below w.heap.size w w' := by
  cases hb : smallB ss with
  | false => exact tells_big c a o vn ss w hs hl hb he
  | true =>
    by_cases hc : c = 0
    · subst hc; exact tells_zero a o vn ss w hs hb he
    · exact tells_main c a o hc vn ss w hs hb he
end Go.Proofs.YtnhnaallalgefaaDoor
