/- Merged texts. The walk of the reference's Power; powers are what both tell. Conditions: as each theorem says. fold.Fold and the reference's Fold at numbers: both tell the same, whatever comes of it. Conditions: as each theorem says. A region that loads a Vec, calls, and puts the Vec that is told into a new variable, in whatever order. Conditions: as each theorem says. Two Vecs that a function takes: their boxes; the walks of arith.Length and arith.at; which element goes with a place. Conditions: as each theorem says. Arrays: a plain word for them, and what it is that memory holds one. Conditions: as each theorem says. -/
import Derived.Test.YtiahegjdkejjpaaGreatMg09
import Derived.Test.YtiahegjdkejjpaaGreatMg08
import Derived.Test.YtiahegjdkejjpaaGreatMg01
import Derived.Test.YtiahegjdkejjpaaGreatMg03
import Derived.Test.YtiahegjdkejjpaaGreatMg02
namespace Go.Proofs.YtiahegjdkejjpaaGreat
open Go Go.RowKit Go.Proofs Fl
theorem ret_i64 {a b : Int} (h : a = b) : Ending.returned (.int .i64 a) = .returned (.int .i64 b) := by rw [h]
theorem fi_1023 : (4652209618980700160 : Nat) = fi 1023 := by decide +kernel
theorem fi_n1023 : (13875581655835475968 : Nat) = fi (-1023) := by decide +kernel
theorem ord_fi (n m : Int) (hn : Good n) (hm : Good m) : FloatKind.f64.format.order (fi n) (fi m) = some (compare n m) := order_fi n m (natAbs_good hn) (natAbs_good hm)
theorem ord_gt (n m : Int) (hn : Good n) (hm : Good m) : (FloatKind.f64.format.order (fi n) (fi m) == some .gt) = decide (m < n) := by
 rw [ord_fi n m hn hm]
 rcases Int.lt_trichotomy n m with h | h | h
 ·rw [cmp_lt h, decide_eq_false (by omega)]; rfl
 ·rw [h, cmp_eq, decide_eq_false (by omega)]; rfl
 ·rw [cmp_gt h, decide_eq_true h]; rfl
theorem ord_lt (n m : Int) (hn : Good n) (hm : Good m) : (FloatKind.f64.format.order (fi n) (fi m) == some .lt) = decide (n < m) := by
 rw [ord_fi n m hn hm]
 rcases Int.lt_trichotomy n m with h | h | h
 ·rw [cmp_lt h, decide_eq_true h]; rfl
 ·rw [h, cmp_eq, decide_eq_false (by omega)]; rfl
 ·rw [cmp_gt h, decide_eq_false (by omega)]; rfl
theorem ord_eq (n m : Int) (hn : Good n) (hm : Good m) : (FloatKind.f64.format.order (fi n) (fi m) == some .eq) = decide (n = m) := by
 rw [ord_fi n m hn hm]
 rcases Int.lt_trichotomy n m with h | h | h
 ·rw [cmp_lt h, decide_eq_false (by omega)]; rfl
 ·rw [h, cmp_eq, decide_eq_true rfl]; rfl
 ·rw [cmp_gt h, decide_eq_false (by omega)]; rfl
theorem range_up {n : Int} (hg : Good n) (h0 : 0 ≤ n) (h1 : n ≤ 1023) :
  (FloatKind.f64.format.order (fi n) 4652209618980700160 == some .gt) = false ∧ ¬ FloatKind.f64.format.order (fi n) 4652209618980700160 = some .gt ∧
  (FloatKind.f64.format.order (fi n) 13875581655835475968 == some .lt) = false ∧ ¬ FloatKind.f64.format.order (fi n) 13875581655835475968 = some .lt ∧
  (FloatKind.f64.format.order (fi n) 0 == some .gt || FloatKind.f64.format.order (fi n) 0 == some .eq) = true := by
 have a := ord_gt n 1023 hg (by decide)
 have b := ord_lt n (-1023) hg (by decide)
 have c := ord_gt n 0 hg (by decide)
 have d := ord_eq n 0 hg (by decide)
 rw [← fi_1023, decide_eq_false (by omega)] at a
 rw [← fi_n1023, decide_eq_false (by omega)] at b
 rw [fi_zero] at c d
 refine ⟨a, beq_eq_false_iff_ne.1 a, b, beq_eq_false_iff_ne.1 b, ?_⟩
 rw [c, d]
 simp; omega
theorem range_down {n : Int} (hg : Good n) (h0 : n < 0) (h1 : -1023 ≤ n) :
  (FloatKind.f64.format.order (fi n) 4652209618980700160 == some .gt) = false ∧ ¬ FloatKind.f64.format.order (fi n) 4652209618980700160 = some .gt ∧
  (FloatKind.f64.format.order (fi n) 13875581655835475968 == some .lt) = false ∧ ¬ FloatKind.f64.format.order (fi n) 13875581655835475968 = some .lt ∧
  (FloatKind.f64.format.order (fi n) 0 == some .gt || FloatKind.f64.format.order (fi n) 0 == some .eq) = false := by
 have a := ord_gt n 1023 hg (by decide)
 have b := ord_lt n (-1023) hg (by decide)
 have c := ord_gt n 0 hg (by decide)
 have d := ord_eq n 0 hg (by decide)
 rw [← fi_1023, decide_eq_false (by omega)] at a
 rw [← fi_n1023, decide_eq_false (by omega)] at b
 rw [fi_zero] at c d
 refine ⟨a, beq_eq_false_iff_ne.1 a, b, beq_eq_false_iff_ne.1 b, ?_⟩
 rw [c, d]
 simp; omega
set_option maxHeartbeats 400000 in
theorem size_any (n : Int) (hg : Good n) (w : World) :
  Calls Tryz.prog 144 #[.int .i64 n] w fun e w' => e = .returned (.int .i64 (n.natAbs : Nat)) ∧ w = w' := by
 obtain ⟨g1, g2⟩ := hg
 by_cases h : n < 0
 ·go_enter Tryz.func144, Tryz.ntmps144
  go_wp2
  go_ret
  exact ⟨ret_i64 (by omega), rfl⟩
 ·go_enter Tryz.func144, Tryz.ntmps144
  go_wp2
  go_ret
  exact ⟨ret_i64 (by omega), rfl⟩
set_option maxRecDepth 100000 in
set_option maxHeartbeats 1000000 in
theorem rpow_up (a : Nat) (t : Bool) (ha : Cl t a) (n : Int) (hn0 : 0 ≤ n) (hn1 : n ≤ 1023) (w : World) :
  Calls Tryz.prog 115 #[.float .f64 a, .float .f64 (fi n)] w fun e w' => e = .returned (.tuple #[.float .f64 (powP a n).1, .int .i64 (powP a n).2]) ∧ w = w' := by
 have hgn : Good n := ⟨by omega, by omega⟩
 have HW := Lib.hid (fun W => rwhole_fi n hgn W)
 have hcv := fun W => conv_fi n hgn W
 have HSZ := Lib.hid (fun W => size_any n hgn W)
 obtain ⟨g1, g2, g3, g4, g5⟩ := range_up hgn hn0 hn1
 have HP := Lib.hid (powP_up (a := a) hn0 hn1)
 generalize powP a n = R at *
 have HA := Lib.hid ha
 have HO := Lib.hid (cl_one t)
 have hnb : n.natAbs ≤ 1023 := by omega
 clear hgn hn0 hn1
 clear ha
 go_enter Tryz.func115, Tryz.ntmps115
 go_wp2_with fail
 refine (HW.out _).mono ?_
 rintro e w1 ⟨rfl, rfl⟩
 go_wp2_with fail
 refine (HSZ.out _).mono ?_
 rintro e w1 ⟨rfl, rfl⟩
 go_wp2
 go_loop [6, 7, 8] (fun k o x => ∃ (K O X : Nat), K ≤ 1023 ∧ k = .int .i64 K ∧ o = .float .f64 O ∧ x = .float .f64 X ∧ Cl t O ∧ Cl t X ∧ powF K O X = powF n.natAbs 4607182418800017408 a) (fun k _ _ => (intOf k).toNat)
 case atStart => exact ⟨n.natAbs, 4607182418800017408, a, hnb, rfl, rfl, rfl, HO.out, HA.out, rfl⟩
 case round =>
  obtain ⟨K, O, X, hK, rfl, rfl, rfl, ho, hx, hpw⟩ := hrel
  have HOO := Lib.hid ho
  have HXX := Lib.hid hx
  have HPW := Lib.hid hpw
  clear ho hx hpw
  by_cases h0 : K = 0
  ·subst h0
   have HQ : Hid (R = doneP O) := by
    show _ = _
    rw [HP.out, ← HPW.out, powF_zero]
   have HD := Lib.hid (fun W => rdone_any O HOO.out.lt W)
   go_wp2_with fail
   refine (HD.out _).mono ?_
   rintro e w2 ⟨rfl, rfl⟩
   go_wp2
   go_ret2
   exact ⟨by rw [HQ.out]; rfl, rfl⟩
  ·skip
   have HM1 := HOO.out.mul HXX.out
   have HM2 := HXX.out.mul HXX.out
   have hop1 := fun w => run_float_arith (P := Tryz.prog) w .mul 50 .f64 _ _ _ HM1.1
   have hop2 := fun w => run_float_arith (P := Tryz.prog) w .mul 50 .f64 _ _ _ HM2.1
   have HN1 := Lib.hid HM1.2
   have HN2 := Lib.hid HM2.2
   have HPP := Lib.hid (powF_pos O X h0)
   clear HM1 HM2
   generalize opB .mul O X = OX at *
   generalize opB .mul X X = XX at *
   have p0 : 0 < K := by omega
   by_cases h2 : K % 2 = 1
   ·have e2 : (((K : Int) % 2) == 1) = true := by simp; omega
    have HP2 : Hid ((if K % 2 = 1 then OX else O) = OX) := if_pos h2
    clear h2
    by_cases h1 : 1 < K
    ·have HP3 : Hid ((if 1 < K then XX else X) = XX) := if_pos h1
     go_wp2
     go_round
     case rel => exact ⟨K / 2, OX, XX, by omega, by go_num, rfl, rfl, HN1.out, HN2.out, by rw [← HPW.out, HPP.out, HP2.out, HP3.out]⟩
     case measure => simp [intOf]; omega
    ·have HP3 : Hid ((if 1 < K then XX else X) = X) := if_neg h1
     go_wp2
     go_round
     case rel => exact ⟨K / 2, OX, X, by omega, by go_num, rfl, rfl, HN1.out, HXX.out, by rw [← HPW.out, HPP.out, HP2.out, HP3.out]⟩
     case measure => simp [intOf]; omega
   ·have e2 : (((K : Int) % 2) == 1) = false := by simp; omega
    have HP2 : Hid ((if K % 2 = 1 then OX else O) = O) := if_neg h2
    have h1 : 1 < K := by omega
    clear h2
    have HP3 : Hid ((if 1 < K then XX else X) = XX) := if_pos h1
    go_wp2
    go_round
    case rel => exact ⟨K / 2, O, XX, by omega, by go_num, rfl, rfl, HOO.out, HN2.out, by rw [← HPW.out, HPP.out, HP2.out, HP3.out]⟩
    case measure => simp [intOf]; omega
set_option maxRecDepth 100000 in
set_option maxHeartbeats 1000000 in
theorem rpow_down (a : Nat) (t : Bool) (ha : Cl t a) (n : Int) (hn0 : n < 0) (hn1 : -1023 ≤ n) (w : World) :
  Calls Tryz.prog 115 #[.float .f64 a, .float .f64 (fi n)] w fun e w' => e = .returned (.tuple #[.float .f64 (powP a n).1, .int .i64 (powP a n).2]) ∧ w = w' := by
 have hgn : Good n := ⟨by omega, by omega⟩
 have HW := Lib.hid (fun W => rwhole_fi n hgn W)
 have hcv := fun W => conv_fi n hgn W
 have HSZ := Lib.hid (fun W => size_any n hgn W)
 obtain ⟨g1, g2, g3, g4, g5⟩ := range_down hgn hn0 hn1
 have HP := Lib.hid (powP_down (a := a) hn0 hn1)
 generalize powP a n = R at *
 have HA := Lib.hid ha
 have HO := Lib.hid (cl_one t)
 have hnb : n.natAbs ≤ 1023 := by omega
 clear hgn hn0 hn1
 clear ha
 go_enter Tryz.func115, Tryz.ntmps115
 go_wp2_with fail
 refine (HW.out _).mono ?_
 rintro e w1 ⟨rfl, rfl⟩
 go_wp2_with fail
 refine (HSZ.out _).mono ?_
 rintro e w1 ⟨rfl, rfl⟩
 go_wp2
 go_loop [6, 7, 8] (fun k o x => ∃ (K O X : Nat), K ≤ 1023 ∧ k = .int .i64 K ∧ o = .float .f64 O ∧ x = .float .f64 X ∧ Cl t O ∧ Cl t X ∧ powF K O X = powF n.natAbs 4607182418800017408 a) (fun k _ _ => (intOf k).toNat)
 case atStart => exact ⟨n.natAbs, 4607182418800017408, a, hnb, rfl, rfl, rfl, HO.out, HA.out, rfl⟩
 case round =>
  obtain ⟨K, O, X, hK, rfl, rfl, rfl, ho, hx, hpw⟩ := hrel
  have HOO := Lib.hid ho
  have HXX := Lib.hid hx
  have HPW := Lib.hid hpw
  clear ho hx hpw
  by_cases h0 : K = 0
  ·subst h0
   have HQ : Hid (R = if (doneP O).2 = 0 ∧ (doneP O).1 ≠ 0 then doneP (opB .quo 4607182418800017408 O) else (0, 24)) := by
    show _ = _
    rw [HP.out, ← HPW.out, powF_zero]
   rcases cl_cases HOO.out with ⟨s, Z, hz, rfl⟩ | ⟨s, rfl⟩
   ·have hd := doneP_num s hz
    have HD := Lib.hid (fun W => finite_num s hz W)
    rw [hd] at HQ
    have h3 := fo_eq s false hz rep_zero
    rw [W_zero, sg_zero] at h3
    by_cases hz0 : Z = 0
    ·have HQ2 : Hid (R = (0, 24)) := by
      show _ = _
      rw [HQ.out, if_neg (fun h => h.2 (if_pos hz0))]
     rw [decide_eq_true (by rw [sg_eq_zero]; exact hz0)] at h3
     have h3' := beq_iff_eq.1 h3
     clear hd hz hz0
     generalize W s Z = O at *
     generalize tid s Z = O' at *
     go_wp2_with fail
     refine (HD.out _).mono ?_
     rintro e w2 ⟨rfl, rfl⟩
     go_wp2
     go_ret2
     exact ⟨by rw [HQ2.out]; rfl, rfl⟩
    ·obtain ⟨hq1, hq2⟩ := quo_one s hz hz0
     have hne : tid s Z ≠ 0 := fun e => by
      have e2 : tid s Z = W s Z := if_neg hz0
      have e : W s Z = 0 := e2 ▸ e
      have h4 := fo_eq s false hz rep_zero
      rw [W_zero, sg_zero, e, decide_eq_false (by rw [sg_eq_zero]; exact hz0)] at h4
      have : (FloatKind.f64.format.order 0 0 == some .eq) = true := by decide
      rw [this] at h4
      cases h4
     have HQ2 : Hid (R = doneP (opB .quo 4607182418800017408 (W s Z))) := by
      show _ = _
      rw [HQ.out, if_pos ⟨rfl, hne⟩]
     rw [decide_eq_false (by rw [sg_eq_zero]; exact hz0)] at h3
     have h3' := beq_eq_false_iff_ne.1 h3
     have hop := fun w => run_float_arith (P := Tryz.prog) w .quo 50 .f64 _ _ _ hq1
     have HD2 := Lib.hid (fun W => rdone_any _ hq2 W)
     clear hd hz hz0 hq1 hq2 hne
     generalize opB .quo 4607182418800017408 (W s Z) = P at *
     generalize W s Z = O at *
     generalize tid s Z = O' at *
     go_wp2_with fail
     refine (HD.out _).mono ?_
     rintro e w2 ⟨rfl, rfl⟩
     go_wp2_with fail
     refine (HD2.out _).mono ?_
     rintro e w2 ⟨rfl, rfl⟩
     go_wp2
     go_ret2
     exact ⟨by rw [HQ2.out]; rfl, rfl⟩
   ·have HD := Lib.hid (fun W => finite_inf s W)
    rw [doneP_inf] at HQ
    have HQ2 : Hid (R = (0, 24)) := by
     show _ = _
     rw [HQ.out, if_neg (fun h => absurd h.1 (by decide))]
    generalize infw s = O at *
    go_wp2_with fail
    refine (HD.out _).mono ?_
    rintro e w2 ⟨rfl, rfl⟩
    go_wp2
    go_ret2
    exact ⟨by rw [HQ2.out]; rfl, rfl⟩
  ·skip
   have HM1 := HOO.out.mul HXX.out
   have HM2 := HXX.out.mul HXX.out
   have hop1 := fun w => run_float_arith (P := Tryz.prog) w .mul 50 .f64 _ _ _ HM1.1
   have hop2 := fun w => run_float_arith (P := Tryz.prog) w .mul 50 .f64 _ _ _ HM2.1
   have HN1 := Lib.hid HM1.2
   have HN2 := Lib.hid HM2.2
   have HPP := Lib.hid (powF_pos O X h0)
   clear HM1 HM2
   generalize opB .mul O X = OX at *
   generalize opB .mul X X = XX at *
   have p0 : 0 < K := by omega
   by_cases h2 : K % 2 = 1
   ·have e2 : (((K : Int) % 2) == 1) = true := by simp; omega
    have HP2 : Hid ((if K % 2 = 1 then OX else O) = OX) := if_pos h2
    clear h2
    by_cases h1 : 1 < K
    ·have HP3 : Hid ((if 1 < K then XX else X) = XX) := if_pos h1
     go_wp2
     go_round
     case rel => exact ⟨K / 2, OX, XX, by omega, by go_num, rfl, rfl, HN1.out, HN2.out, by rw [← HPW.out, HPP.out, HP2.out, HP3.out]⟩
     case measure => simp [intOf]; omega
    ·have HP3 : Hid ((if 1 < K then XX else X) = X) := if_neg h1
     go_wp2
     go_round
     case rel => exact ⟨K / 2, OX, X, by omega, by go_num, rfl, rfl, HN1.out, HXX.out, by rw [← HPW.out, HPP.out, HP2.out, HP3.out]⟩
     case measure => simp [intOf]; omega
   ·have e2 : (((K : Int) % 2) == 1) = false := by simp; omega
    have HP2 : Hid ((if K % 2 = 1 then OX else O) = O) := if_neg h2
    have h1 : 1 < K := by omega
    clear h2
    have HP3 : Hid ((if 1 < K then XX else X) = XX) := if_pos h1
    go_wp2
    go_round
    case rel => exact ⟨K / 2, O, XX, by omega, by go_num, rfl, rfl, HOO.out, HN2.out, by rw [← HPW.out, HPP.out, HP2.out, HP3.out]⟩
    case measure => simp [intOf]; omega
set_option maxRecDepth 100000 in
set_option maxHeartbeats 1000000 in
theorem rpow_far (a : Nat) (n : Int) (hg : Good n) (hn : n < -1023 ∨ 1023 < n) (w : World) :
  Calls Tryz.prog 115 #[.float .f64 a, .float .f64 (fi n)] w fun e w' => e = .returned (.tuple #[.float .f64 (powP a n).1, .int .i64 (powP a n).2]) ∧ w = w' := by
 have HW := Lib.hid (fun W => rwhole_fi n hg W)
 have hp : powP a n = (0, 24) := if_pos hn
 rw [hp]
 clear hp
 have p := ord_gt n 1023 hg (by decide)
 have q := ord_lt n (-1023) hg (by decide)
 rw [← fi_1023] at p
 rw [← fi_n1023] at q
 by_cases h1 : 1023 < n
 ·rw [decide_eq_true h1] at p
  have p' := beq_iff_eq.1 p
  clear hn hg q h1
  go_enter Tryz.func115, Tryz.ntmps115
  go_wp2_with fail
  refine (HW.out _).mono ?_
  rintro e w1 ⟨rfl, rfl⟩
  go_wp2
  go_ret2
  exact ⟨rfl, rfl⟩
 ·rw [decide_eq_false h1] at p
  rw [decide_eq_true (by omega)] at q
  have p' := beq_eq_false_iff_ne.1 p
  have q' := beq_iff_eq.1 q
  clear hn hg h1
  go_enter Tryz.func115, Tryz.ntmps115
  go_wp2_with fail
  refine (HW.out _).mono ?_
  rintro e w1 ⟨rfl, rfl⟩
  go_wp2
  go_ret2
  exact ⟨rfl, rfl⟩
set_option maxRecDepth 100000 in
set_option maxHeartbeats 1000000 in
theorem rpow_not (a : Nat) (s : Bool) {Z : Nat} (hz : Rep Z) (hn : ¬ IsWhole Z) (w : World) :
  Calls Tryz.prog 115 #[.float .f64 a, .float .f64 (W s Z)] w fun e w' => e = .returned (.tuple #[.float .f64 0, .int .i64 24]) ∧ w = w' := by
 have HW := Lib.hid (fun W => rwhole_no' s hz hn W)
 generalize W s Z = b at *
 clear hz hn
 go_enter Tryz.func115, Tryz.ntmps115
 go_wp2_with fail
 refine (HW.out _).mono ?_
 rintro e w1 ⟨rfl, rfl⟩
 go_wp2
 go_ret2
 exact ⟨rfl, rfl⟩
theorem rpow_any (a b : Nat) (ha : TF a) (hb : TF b) (w : World) :
  Calls Tryz.prog 115 #[.float .f64 a, .float .f64 b] w fun e w' => e = .returned (.tuple #[.float .f64 (pwP a b).1, .int .i64 (pwP a b).2]) ∧ w = w' := by
 rcases whole_cases hb with ⟨n, hg, rfl, e⟩ | ⟨e, s, Z, hz, rfl, hn⟩
 ·have e2 : pwP a (fi n) = powP a n := by unfold pwP; rw [e]
  rw [e2]
  obtain ⟨t, hc⟩ := cl_tf ha
  by_cases h1 : n < -1023 ∨ 1023 < n
  ·exact rpow_far a n hg h1 w
  ·by_cases h0 : 0 ≤ n
   ·exact rpow_up a t hc n h0 (by omega) w
   ·exact rpow_down a t hc n (by omega) (by omega) w
 ·have e2 : pwP a (W s Z) = (0, 24) := by unfold pwP; rw [e]
  rw [e2]
  exact rpow_not a s hz hn w
theorem powIs : PowIs pwP := by
 refine ⟨fun a b ha hb W => npow_any a b ha hb W, fun a b ha hb W => rpow_any a b ha hb W, fun a b ha hb => ?_⟩
 unfold pwP
 split
 ·exact .inr rfl
 ·exact powP_tf ha _
structure NumW (v : Value) (n : Nat) (F : Nat → Nat) (w : World) : Prop where
 cls : Calls Tryz.prog 21 #[v] w fun e w2 => e = .returned (.int .i64 0) ∧ Below w.heap.size w w2
 len : Calls Tryz.prog 38 #[v] w fun e w2 => e = .returned (.int .i64 n) ∧ Below w.heap.size w w2
 num : ∀ j, j < n → Calls Tryz.prog 57 #[v, .int .i64 (j : Nat)] w fun e w2 => e = .returned (.float .f64 (F j)) ∧ Below w.heap.size w w2
theorem NumV.numW {v : Value} {k : Int} {n : Nat} {F : Nat → Nat} {w : World} (h : NumV v k n F w) : NumW v n F w := ⟨h.cls, h.len, h.num⟩
theorem NumW.of {v : Value} {n : Nat} {F : Nat → Nat} {w : World} {H : Nat → Prop} (h : Keeps H w (NumW v n F)) : NumsOf w v n F :=
 ⟨fun _ hb => (h.step hb).now.cls, fun _ hb => (h.step hb).now.len, fun _ hb j hj => (h.step hb).now.num j hj⟩
structure LdS (w0 : World) (G : Nat) (k : Int) (b : Value) (bn : Int) (s i f c x : Value) (W : World) : Prop where
 box : Boxed W G k b bn s i f c x
 bel : Below w0.heap.size w0 W
 old : G < w0.heap.size
theorem LdS.new {w0 : World} {G : Nat} {k : Int} {b : Value} {bn : Int} {s i f c x : Value} (h : Boxed w0 G k b bn s i f c x) : LdS w0 G k b bn s i f c x w0 := ⟨h, Below.refl _ _, h.lt⟩
theorem LdS.step {w0 W W' : World} {G : Nat} {k : Int} {b : Value} {bn : Int} {s i f c x : Value} (h : LdS w0 G k b bn s i f c x W) (hb : Below W.heap.size W W') : LdS w0 G k b bn s i f c x W' := ⟨h.box.below hb, bel_both h.bel hb, h.old⟩
theorem LdS.al {w0 W : World} {G : Nat} {k : Int} {b : Value} {bn : Int} {s i f c x : Value} (h : LdS w0 G k b bn s i f c x W) (o : Obj) : LdS w0 G k b bn s i f c x (W.alloc o) := h.step (bel1 W o)
theorem LdS.dr {w0 W : World} {G : Nat} {k : Int} {b : Value} {bn : Int} {s i f c x : Value} (h : LdS w0 G k b bn s i f c x W) : LdS w0 G k b bn s i f c x W.drew := h.step (Below.refl _ W).drew
theorem LdS.put {w0 W : World} {G : Nat} {k : Int} {b : Value} {bn : Int} {s i f c x : Value} (h : LdS w0 G k b bn s i f c x W) {g j : Nat} (ha : w0.heap.size ≤ g) (u : Value) : LdS w0 G k b bn s i f c x (W.setCell ⟨g, j, none⟩ u) :=
 ⟨h.box.set (by show g ≠ _; have := h.old; omega) u, h.bel.setCell (by show _ ≤ g; omega) u, h.old⟩
theorem LdS.put8 {w0 W : World} {G : Nat} {k : Int} {b : Value} {bn : Int} {s i f c x : Value} (h : LdS w0 G k b bn s i f c x W) {g : Nat} (ha : w0.heap.size ≤ g) (a0 a1 a2 a3 a4 a5 a6 a7 : Value) : LdS w0 G k b bn s i f c x (set8 W g a0 a1 a2 a3 a4 a5 a6 a7) :=
 (((((((h.put ha _).put ha _).put ha _).put ha _).put ha _).put ha _).put ha _).put ha _
theorem LdS.self {w0 W : World} {G : Nat} {k : Int} {b : Value} {bn : Int} {s i f c x : Value} (h : LdS w0 G k b bn s i f c x W) : LdS w0 G k b bn s i f c x W := h
theorem LdS.sz {w0 W : World} {G : Nat} {k : Int} {b : Value} {bn : Int} {s i f c x : Value} (h : LdS w0 G k b bn s i f c x W) : w0.heap.size ≤ W.heap.size := h.bel.size
theorem blk_al {w1 w2 : World} {o : Obj} (hb : Below (w1.alloc o).heap.size (w1.alloc o) w2) : w2.heap[w1.heap.size]? = some o := block_up hb
theorem blk_dr {w1 w2 : World} {o : Obj} (hb : Below (w1.alloc o).drew.heap.size (w1.alloc o).drew w2) : w2.heap[w1.heap.size]? = some o := by
 rw [hb.block _ (by simp [World.drew])]
 exact heap_alloc_new w1 o
theorem lt_al (w1 : World) (o : Obj) : w1.heap.size < (w1.alloc o).heap.size := by simp
theorem lt_dr (w1 : World) (o : Obj) : w1.heap.size < (w1.alloc o).drew.heap.size := by simp [World.drew]
theorem le_dr (w1 : World) : w1.heap.size ≤ w1.drew.heap.size := (show Below w1.heap.size w1 w1.drew from (Below.refl _ _).drew).size
structure V8 where
 k : Int
 b : Sl
 bn : Int
 s : Sl
 i : Sl
 f : Sl
 c : Sl
 x : Sl
abbrev V8.v (p : V8) : Value := vecW p.k p.b p.bn p.s p.i p.f p.c p.x
abbrev BoxP (W : World) (G : Nat) (p : V8) : Prop := Boxed W G p.k (.slice p.b.1 p.b.2.1 p.b.2.2) p.bn (.slice p.s.1 p.s.2.1 p.s.2.2) (.slice p.i.1 p.i.2.1 p.i.2.2) (.slice p.f.1 p.f.2.1 p.f.2.2) (.slice p.c.1 p.c.2.1 p.c.2.2) (.slice p.x.1 p.x.2.1 p.x.2.2)
abbrev V8.o (p : V8) : Obj := .cells #[.int .i64 p.k, .slice p.b.1 p.b.2.1 p.b.2.2, .int .i64 p.bn, .slice p.s.1 p.s.2.1 p.s.2.2, .slice p.i.1 p.i.2.1 p.i.2.2, .slice p.f.1 p.f.2.1 p.f.2.2, .slice p.c.1 p.c.2.1 p.c.2.2, .slice p.x.1 p.x.2.1 p.x.2.2] 38
theorem boxP_new (w : World) (p : V8) : BoxP (w.alloc p.o) w.heap.size p := boxed_new w 38 _ _ _ _ _ _ _ _
structure St2 (w W : World) (p q : V8) : Prop where
 one : BoxP W w.heap.size p
 two : BoxP W (w.heap.size + 1) q
 res : W.heap[w.heap.size + 2]? = some (.cells zcells 38)
 bel : Below w.heap.size w W
theorem St2.step {w W W' : World} {p q : V8} (h : St2 w W p q) (hb : Below W.heap.size W W') : St2 w W' p q :=
 ⟨h.one.below hb, h.two.below hb, by rw [hb.block _ (boxed_of h.res).1.lt]; exact h.res, bel_both h.bel hb⟩
theorem St2.new (w : World) (p q : V8) : St2 w (((w.alloc p.o).alloc q.o).alloc (.cells zcells 38)) p q := by
 have h1 := boxP_new w p
 have h2 := boxP_new (w.alloc p.o) q
 have h3 := heap_alloc_new ((w.alloc p.o).alloc q.o) (.cells zcells 38)
 have e1 : (w.alloc p.o).heap.size = w.heap.size + 1 := by simp
 have e2 : ((w.alloc p.o).alloc q.o).heap.size = w.heap.size + 2 := by simp
 rw [e1] at h2
 rw [e2] at h3
 exact ⟨(h1.below (bel1 _ _)).below (bel1 _ _), h2.below (bel1 _ _), h3, bel_both (bel2 w _ _) (bel1 _ _)⟩
theorem St2.al {w W : World} {p q : V8} (h : St2 w W p q) (o : Obj) : St2 w (W.alloc o) p q := h.step (bel1 W o)
theorem St2.dr {w W : World} {p q : V8} (h : St2 w W p q) : St2 w W.drew p q := h.step (Below.refl _ W).drew
theorem St2.put {w W : World} {p q : V8} (h : St2 w W p q) {g j : Nat} (ha : w.heap.size + 3 ≤ g) (u : Value) : St2 w (W.setCell ⟨g, j, none⟩ u) p q :=
 ⟨h.one.set (by show g ≠ _; omega) u, h.two.set (by show g ≠ _; omega) u, by rw [Below.heap_setCell _ _ _ _ (by show _ ≠ g; omega)]; exact h.res, h.bel.setCell (by show _ ≤ g; omega) u⟩
theorem St2.sz {w W : World} {p q : V8} (h : St2 w W p q) : w.heap.size + 3 ≤ W.heap.size := (boxed_of h.res).1.lt
theorem St2.self {w W : World} {p q : V8} (h : St2 w W p q) : St2 w W p q := h
theorem St2.more {w W W' : World} {p q : V8} (h : St2 w W p q) (hb : Below (w.heap.size + 3) W W') : St2 w W' p q :=
 ⟨h.one.of fun j => hb.cell (p := ⟨w.heap.size, j, none⟩) (by show w.heap.size < _; omega), h.two.of fun j => hb.cell (p := ⟨w.heap.size + 1, j, none⟩) (by show w.heap.size + 1 < _; omega), by rw [hb.block _ (by omega)]; exact h.res, h.bel.trans (hb.mono (by omega))⟩
def lenP (m n : Nat) : Option Nat := if m = n then some m else if m = 1 then some n else if n = 1 then some m else none
def ixP (m i : Nat) : Nat := if m = 1 then 0 else i
theorem ixP_lt {m n N i : Nat} (h : lenP m n = some N) (hi : i < N) : ixP m i < m ∧ ixP n i < n := by
 unfold lenP at h
 unfold ixP
 split at h
 ·injection h with h; constructor <;> split <;> omega
 ·split at h
  ·injection h with h; constructor <;> split <;> omega
  ·split at h
   ·injection h with h; constructor <;> split <;> omega
   ·cases h
theorem lenP_le {m n N B : Nat} (h : lenP m n = some N) (hm : m ≤ B) (hn : n ≤ B) : N ≤ B := by
 unfold lenP at h
 split at h
 ·injection h with h; omega
 ·split at h
  ·injection h with h; omega
  ·split at h
   ·injection h with h; omega
   ·cases h
theorem lenP_comm (m n : Nat) : lenP m n = lenP n m := by
 unfold lenP
 by_cases h1 : m = n
 ·subst h1; rfl
 ·have h1' : ¬ n = m := fun e => h1 e.symm
  simp only [if_neg h1, if_neg h1']
  split <;> split <;> first | rfl | omega | (congr 1; omega)
set_option maxHeartbeats 400000 in
theorem length_any (m n : Nat) (w : World) : Calls Tryz.prog 65 #[.int .i64 (m : Int), .int .i64 (n : Int)] w fun e w' => e = .returned (.tuple #[.int .i64 ((lenP m n).getD 0 : Nat), .bool (lenP m n).isSome]) ∧ w = w' := by
 by_cases h1 : m = n
 ·subst h1
  have e : lenP m m = some m := if_pos rfl
  rw [e]
  go_enter Tryz.func65, Tryz.ntmps65
  go_wp2
  go_ret2
  exact ⟨rfl, rfl⟩
 ·have f1 : ((m : Int) == (n : Int)) = false := by simp; omega
  by_cases h2 : m = 1
  ·have e : lenP m n = some n := by unfold lenP; rw [if_neg h1, if_pos h2]
   rw [e]
   have f2 : ((m : Int) == 1) = true := by simp; omega
   clear h1 h2
   go_enter Tryz.func65, Tryz.ntmps65
   go_wp2
   go_ret2
   exact ⟨rfl, rfl⟩
  ·have f2 : ((m : Int) == 1) = false := by simp; omega
   by_cases h3 : n = 1
   ·have e : lenP m n = some m := by unfold lenP; rw [if_neg h1, if_neg h2, if_pos h3]
    rw [e]
    have f3 : ((n : Int) == 1) = true := by simp; omega
    clear h1 h2 h3
    go_enter Tryz.func65, Tryz.ntmps65
    go_wp2
    go_ret2
    exact ⟨rfl, rfl⟩
   ·have e : lenP m n = none := by unfold lenP; rw [if_neg h1, if_neg h2, if_neg h3]
    rw [e]
    have f3 : ((n : Int) == 1) = false := by simp; omega
    clear h1 h2 h3
    go_enter Tryz.func65, Tryz.ntmps65
    go_wp2
    go_ret2
    exact ⟨rfl, rfl⟩
set_option maxHeartbeats 400000 in
theorem at_any (p : V8) (m i : Nat) (w : World) (hL : ∀ W, Below w.heap.size w W → Calls Tryz.prog 38 #[p.v] W fun e w2 => e = .returned (.int .i64 (m : Nat)) ∧ Below W.heap.size W w2) :
  Calls Tryz.prog 103 #[p.v, .int .i64 (i : Int)] w fun e w' => e = .returned (.int .i64 (ixP m i : Nat)) ∧ Below w.heap.size w w' := by
 have HL := Lib.hid hL
 clear hL
 by_cases h : m = 1
 ·have HX : Hid (ixP m i = 0) := if_pos h
  have e1 : ((m : Int) == 1) = true := by simp; omega
  clear h
  go_enter Tryz.func103, Tryz.ntmps103
  go_wp2_with fail
  refine (HL.out _ (bel1 w _)).mono ?_
  rintro e w1 ⟨rfl, hb1⟩
  have HB := Lib.hid (bel_both (bel1 w _) hb1)
  clear hb1
  go_wp2
  go_ret
  exact ⟨by rw [HX.out]; rfl, HB.out⟩
 ·have HX : Hid (ixP m i = i) := if_neg h
  have e1 : ((m : Int) == 1) = false := by simp; omega
  clear h
  go_enter Tryz.func103, Tryz.ntmps103
  go_wp2_with fail
  refine (HL.out _ (bel1 w _)).mono ?_
  rintro e w1 ⟨rfl, hb1⟩
  have HB := Lib.hid (bel_both (bel1 w _) hb1)
  clear hb1
  go_wp2
  go_ret
  exact ⟨by rw [HX.out]; rfl, HB.out⟩
inductive PA where
 | nums (s : List Nat) (l : List Nat)
 | chars (s : List Nat) (l : List Int)
 | boxes (s : List Nat) (l : List PA)
instance : Inhabited PA := ⟨.nums [] []⟩
def PA.shape : PA → List Nat
 | .nums s _ => s | .chars s _ => s | .boxes s _ => s
def PA.len : PA → Nat
 | .nums _ l => l.length | .chars _ l => l.length | .boxes _ l => l.length
def PA.fill : PA → Nat
 | .nums _ _ => 0 | .chars _ _ => 1 | .boxes _ _ => 2
abbrev sv (h : Sl) : Value := .slice h.1 h.2.1 h.2.2
abbrev nilS : Sl := (none, 0, 0)
abbrev RdH (H : Nat → Prop) (w : World) (v : Value) (xs : List Value) : Prop := Keeps H w fun W => Reads1 W v xs
structure Lat (H : Nat → Prop) (w w' : World) : Prop where
 size : w.heap.size ≤ w'.heap.size
 block : ∀ b, b < w.heap.size → ¬ H b → w'.heap[b]? = w.heap[b]?
theorem Lat.below {H : Nat → Prop} {w w' : World} (h : Below w.heap.size w w') : Lat H w w' := ⟨h.size, fun b hb _ => h.block b hb⟩
theorem Lat.set {H : Nat → Prop} {w : World} {a : Addr} (ha : H a.block) (u : Value) : Lat H w (w.setCell a u) :=
 ⟨by rw [size_setCell']; exact Nat.le_refl _, fun b _ hn => Below.heap_setCell _ _ _ _ (fun e => hn (by rw [e]; exact ha))⟩
theorem Lat.trans {H : Nat → Prop} {a b c : World} (h : Lat H a b) (k : Lat H b c) : Lat H a c :=
 ⟨Nat.le_trans h.size k.size, fun x hx hn => by rw [k.block x (Nat.lt_of_lt_of_le hx h.size) hn, h.block x hx hn]⟩
theorem Keeps.lat {H : Nat → Prop} {w w' : World} {R : World → Prop} (h : Keeps H w R) (g : Lat H w w') : Keeps H w' R :=
 fun W hz hb => h W (Nat.le_trans g.size hz) fun b hl hn => by rw [hb b (Nat.lt_of_lt_of_le hl g.size) hn, g.block b hl hn]
theorem RdH.len {H : Nat → Prop} {w : World} {v : Value} {xs : List Value} (h : RdH H w v xs) : ∃ a c, v = .slice a xs.length c := Reads1.len h.now
abbrev ShV (H : Nat → Prop) (w : World) (h : Sl) (s : List Nat) : Prop := RdH H w (sv h) (s.map fun n : Nat => .int .i64 (n : Int))
theorem ShV.len {H : Nat → Prop} {w : World} {h : Sl} {s : List Nat} (g : ShV H w h s) : h.2.1 = s.length := by
 obtain ⟨a, c, e⟩ := RdH.len g
 unfold sv at e
 injection e with _ e _
 simpa using e
theorem shV_nil (H : Nat → Prop) (w : World) : ShV H w nilS [] := fun _ _ _ => .inl ⟨none, 0, rfl, rfl⟩
structure NumS (H : Nat → Prop) (w : World) (p : V8) (l : List Nat) : Prop where
 num : Keeps H w (NumV p.v p.k l.length (fun j => l.getD j 0))
 least : p.k = (leastF (fun j => l.getD j 0) l.length : Nat)
abbrev zbP : V8 := ⟨1, nilS, 0, nilS, nilS, nilS, nilS, nilS⟩
def NumA (H : Nat → Prop) (w : World) (p : V8) (l : List Nat) : Prop := NumS H w p l ∨ (l = [] ∧ p = zbP)
theorem NumA.lat {H : Nat → Prop} {w w' : World} {p : V8} {l : List Nat} (g : NumA H w p l) (k : Lat H w w') : NumA H w' p l := by
 rcases g with g | g
 ·exact .inl ⟨g.num.lat k, g.least⟩
 ·exact .inr g
theorem NumA.sub {H H' : Nat → Prop} {w : World} {p : V8} {l : List Nat} (g : NumA H w p l) (hs : ∀ j, j < w.heap.size → H' j → H j) : NumA H' w p l := by
 rcases g with g | g
 ·exact .inl ⟨g.num.sub hs, g.least⟩
 ·exact .inr g
abbrev charsP (c : Sl) : V8 := ⟨5, nilS, 0, nilS, nilS, nilS, c, nilS⟩
abbrev boxesP (x : Sl) : V8 := ⟨6, nilS, 0, nilS, nilS, nilS, nilS, x⟩
abbrev zeroP : V8 := ⟨0, nilS, 0, nilS, nilS, nilS, nilS, nilS⟩
abbrev arrL (h : Sl) (p : V8) : List Value := [sv h, .int .i64 p.k, sv p.b, .int .i64 p.bn, sv p.s, sv p.i, sv p.f, sv p.c, sv p.x]
abbrev arrV (h : Sl) (p : V8) : Value := .agg #[sv h, .int .i64 p.k, sv p.b, .int .i64 p.bn, sv p.s, sv p.i, sv p.f, sv p.c, sv p.x]
def At9 (w : World) (b o : Nat) (h : Sl) (p : V8) : Prop :=
 w.cell? ⟨b, o, none⟩ = some (sv h) ∧ w.cell? ⟨b, o + 1, none⟩ = some (.int .i64 p.k) ∧ w.cell? ⟨b, o + 2, none⟩ = some (sv p.b) ∧ w.cell? ⟨b, o + 3, none⟩ = some (.int .i64 p.bn) ∧ w.cell? ⟨b, o + 4, none⟩ = some (sv p.s) ∧
  w.cell? ⟨b, o + 5, none⟩ = some (sv p.i) ∧ w.cell? ⟨b, o + 6, none⟩ = some (sv p.f) ∧ w.cell? ⟨b, o + 7, none⟩ = some (sv p.c) ∧ w.cell? ⟨b, o + 8, none⟩ = some (sv p.x)
theorem At9.of {w w' : World} {b o : Nat} {h : Sl} {p : V8} (g : At9 w b o h p) (e : ∀ j, w'.cell? ⟨b, j, none⟩ = w.cell? ⟨b, j, none⟩) : At9 w' b o h p := by
 unfold At9
 rw [e, e, e, e, e, e, e, e, e]
 exact g
theorem At9.lt {w : World} {b o : Nat} {h : Sl} {p : V8} (g : At9 w b o h p) : b < w.heap.size := cell_lt g.1
theorem At9.below {w w' : World} {b o : Nat} {h : Sl} {p : V8} (g : At9 w b o h p) (hb : Below w.heap.size w w') : At9 w' b o h p := g.of fun _ => hb.cell g.lt
theorem At9.lat {H : Nat → Prop} {w w' : World} {b o : Nat} {h : Sl} {p : V8} (g : At9 w b o h p) (hn : ¬ H b) (k : Lat H w w') : At9 w' b o h p := g.of fun _ => World.cell?_of_block (w := w) (k.block b g.lt hn)
mutual
def AV (H : Nat → Prop) (w : World) : PA → Sl → V8 → Prop
 | .nums s l, h, p => ShV H w h s ∧ NumA H w p l
 | .chars s l, h, p => ShV H w h s ∧ ∃ c, p = charsP c ∧ RdH H w (sv c) (l.map (Value.int .i32))
 | .boxes s l, h, p => ShV H w h s ∧ ∃ x, p = boxesP x ∧ x.2.1 = l.length ∧ ((l = [] ∧ True) ∨ ∃ b o, x.1 = some ⟨b, o, none⟩ ∧ ¬ H b ∧ AVs H w b o l)
def AVs (H : Nat → Prop) (w : World) (b : Nat) : Nat → List PA → Prop
 | _, [] => True
 | o, a :: ar => (∃ h p, At9 w b o h p ∧ AV H w a h p) ∧ AVs H w b (o + 9) ar
end
mutual
theorem AV.lat {H : Nat → Prop} {w w' : World} (k : Lat H w w') : ∀ {a : PA} {h : Sl} {p : V8}, AV H w a h p → AV H w' a h p
 | .nums s l, h, p, g => by
  rw [AV] at g ⊢
  exact ⟨g.1.lat k, g.2.lat k⟩
 | .chars s l, h, p, g => by
  rw [AV] at g ⊢
  obtain ⟨g1, c, g2, g3⟩ := g
  exact ⟨g1.lat k, c, g2, g3.lat k⟩
 | .boxes s l, h, p, g => by
  rw [AV] at g ⊢
  obtain ⟨g1, x, g2, g3, g4⟩ := g
  refine ⟨g1.lat k, x, g2, g3, ?_⟩
  rcases g4 with g4 | ⟨b, o, g5, hn, g6⟩
  ·exact .inl g4
  ·exact .inr ⟨b, o, g5, hn, AVs.lat k hn g6⟩
theorem AVs.lat {H : Nat → Prop} {w w' : World} (k : Lat H w w') {b : Nat} (hn : ¬ H b) : ∀ {o : Nat} {l : List PA}, AVs H w b o l → AVs H w' b o l
 | _, [], _ => by rw [AVs]; trivial
 | o, a :: ar, g => by
  rw [AVs] at g ⊢
  obtain ⟨⟨h, p, g1, g2⟩, g3⟩ := g
  exact ⟨⟨h, p, g1.lat hn k, AV.lat k g2⟩, AVs.lat k hn g3⟩
end
theorem AV.step {H : Nat → Prop} {w w' : World} {a : PA} {h : Sl} {p : V8} (g : AV H w a h p) (hb : Below w.heap.size w w') : AV H w' a h p := AV.lat (Lat.below hb) g
mutual
theorem AV.sub {H H' : Nat → Prop} {w : World} (hs : ∀ b, b < w.heap.size → H' b → H b) : ∀ {a : PA} {h : Sl} {p : V8}, AV H w a h p → AV H' w a h p
 | .nums s l, h, p, g => by
  rw [AV] at g ⊢
  exact ⟨g.1.sub hs, g.2.sub hs⟩
 | .chars s l, h, p, g => by
  rw [AV] at g ⊢
  obtain ⟨g1, c, g2, g3⟩ := g
  exact ⟨g1.sub hs, c, g2, g3.sub hs⟩
 | .boxes s l, h, p, g => by
  rw [AV] at g ⊢
  obtain ⟨g1, x, g2, g3, g4⟩ := g
  refine ⟨g1.sub hs, x, g2, g3, ?_⟩
  rcases g4 with g4 | ⟨b, o, g5, hn, g6⟩
  ·exact .inl g4
  ·cases l with
   | nil => exact .inl ⟨rfl, trivial⟩
   | cons a ar =>
    have hl : b < w.heap.size := by rw [AVs] at g6; obtain ⟨⟨_, _, h9, _⟩, _⟩ := g6; exact h9.lt
    exact .inr ⟨b, o, g5, fun e => hn (hs b hl e), AVs.sub hs g6⟩
theorem AVs.sub {H H' : Nat → Prop} {w : World} (hs : ∀ b, b < w.heap.size → H' b → H b) {b : Nat} : ∀ {o : Nat} {l : List PA}, AVs H w b o l → AVs H' w b o l
 | _, [], _ => by rw [AVs]; trivial
 | o, a :: ar, g => by
  rw [AVs] at g ⊢
  obtain ⟨⟨h, p, g1, g2⟩, g3⟩ := g
  exact ⟨⟨h, p, g1, AV.sub hs g2⟩, AVs.sub hs g3⟩
end
theorem AV.arg {H : Nat → Prop} {w W : World} {a : PA} {h : Sl} {p : V8} (g : AV H w a h p) (hb : Below w.heap.size w W) : AV (Hole H w W) W a h p := by
 have g2 : AV (Hole H w W) w a h p := AV.sub (fun b hl e => by
  rcases e with e | ⟨e, _⟩
  ·exact e
  ·omega) g
 exact AV.lat (Lat.below hb) g2
theorem AVs.at_ {H : Nat → Prop} {w : World} {b : Nat} : ∀ {l : List PA} {o i : Nat} (hi : i < l.length), AVs H w b o l → ∃ h p, At9 w b (o + i * 9) h p ∧ AV H w l[i] h p
 | [], _, _, hi, _ => by simp at hi
 | a :: ar, o, 0, _, g => by
  rw [AVs] at g
  simpa using g.1
 | a :: ar, o, i + 1, hi, g => by
  rw [AVs] at g
  have := AVs.at_ (l := ar) (o := o + 9) (i := i) (by simpa using hi) g.2
  have e : o + 9 + i * 9 = o + (i + 1) * 9 := by omega
  rw [e] at this
  simpa using this
theorem avs_of {H : Nat → Prop} {w : World} {b : Nat} : ∀ (l : List PA) (o : Nat), (∀ i (h : i < l.length), ∃ h p, At9 w b (o + i * 9) h p ∧ AV H w l[i] h p) → AVs H w b o l
 | [], _, _ => by rw [AVs]; trivial
 | a :: ar, o, g => by
  rw [AVs]
  refine ⟨?_, avs_of ar (o + 9) fun i hi => ?_⟩
  ·have := g 0 (by simp); simpa using this
  ·have := g (i + 1) (by simpa using hi)
   have e : o + (i + 1) * 9 = o + 9 + i * 9 := by omega
   rw [e] at this
   simpa using this
theorem AV.shape {H : Nat → Prop} {w : World} {a : PA} {h : Sl} {p : V8} (g : AV H w a h p) : ShV H w h a.shape := by
 cases a <;> (rw [AV] at g; exact g.1)
theorem AV.nums {H : Nat → Prop} {w : World} {s : List Nat} {l : List Nat} {h : Sl} {p : V8} (g : AV H w (.nums s l) h p) : NumA H w p l := by rw [AV] at g; exact g.2
theorem AV.chars {H : Nat → Prop} {w : World} {s : List Nat} {l : List Int} {h : Sl} {p : V8} (g : AV H w (.chars s l) h p) : ∃ c, p = charsP c ∧ RdH H w (sv c) (l.map (Value.int .i32)) := by rw [AV] at g; exact g.2
theorem AV.boxes {H : Nat → Prop} {w : World} {s : List Nat} {l : List PA} {h : Sl} {p : V8} (g : AV H w (.boxes s l) h p) :
  ∃ A n c, p = boxesP (A, n, c) ∧ n = l.length ∧ ∀ i (hi : i < l.length), ∃ b o h p, A = some ⟨b, o, none⟩ ∧ ¬ H b ∧ AV H w l[i] h p ∧ ∀ w1, Lat H w w1 → At9 w1 b (o + i * 9) h p := by
 rw [AV] at g
 obtain ⟨_, ⟨A, n, c⟩, rfl, hn, g4⟩ := g
 refine ⟨A, n, c, rfl, hn, fun i hi => ?_⟩
 rcases g4 with ⟨rfl, _⟩ | ⟨b, o, g5, hb, g6⟩
 ·simp at hi
 ·obtain ⟨h, p, g7, g8⟩ := AVs.at_ hi g6
  exact ⟨b, o, h, p, g5, hb, g8, fun w1 k => g7.lat hb k⟩
end Go.Proofs.YtiahegjdkejjpaaGreat
