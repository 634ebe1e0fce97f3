/- Merged texts. The walk of rebusref24.Two at boxes, over contracts. Conditions: as the theorem says. rebusref24.Two of any two good arrays tells twoE. Conditions: no list longer than 1000000. The memory of the laws: a variable that holds what the reference tells of two plain arrays. Conditions: as each theorem says. -/
import Derived.Test.YtiahegjdkejjpaaGreatMg36
import Derived.Test.YtiahegjdkejjpaaGreatMg35
namespace Go.Proofs.YtiahegjdkejjpaaGreat
open Go Go.RowKit Go.Proofs Fl
set_option maxRecDepth 100000 in
set_option maxHeartbeats 4000000 in
theorem rtwo_boxes {H H1 H2 : Nat → Prop} (f : Int) {a b : PA} {h1 x1 h2 x2 : Sl} {f1 f2 : Int} (r : Int × PA) (w : World) (n : Nat) (hnb : n ≤ 1000000) (R : Nat → Int × PA) (sh : List Nat) (hH : ∀ b, H b → b < w.heap.size) (hk : knownB f = true) (ga : PV H1 w (rawP a) h1 x1 f1) (gb : PV H2 w (rawP b) h2 x2 f2) (sa : a.shape.length ≤ 1048576) (sb : b.shape.length ≤ 1048576) (hfr : (frameE a b).1 = 0) (hL : lenP a.len b.len = some n) (hsa : RdH H w (sv h1) (shInts a.shape)) (hsb : RdH H w (sv h2) (shInts b.shape)) (hsh : (frameE a b).2 = sh) (hff : (f1 = 2) ∨ (f1 ≠ 2 ∧ f2 = 2)) (hPA : ∀ i, i < n → ∀ W, Below w.heap.size w W → Calls Tryz.prog 31 #[plV h1 x1 f1, .int .i64 (i : Int)] W (PvS H1 w W (rawP (partA a i)))) (hPB : ∀ i, i < n → ∀ W, Below w.heap.size w W → Calls Tryz.prog 31 #[plV h2 x2 f2, .int .i64 (i : Int)] W (PvS H2 w W (rawP (partA b i))))
  (hIH : ∀ i, i < n → ∀ (w1 w2 W : World) (u1 u2 y1 y2 : Sl) (g1 g2 : Int), Below w.heap.size w W → Below w1.heap.size w1 W → Below w2.heap.size w2 W → PvA H1 w w1 (partA a i) u1 y1 g1 → PvA H2 w w2 (partA b i) u2 y2 g2 → Calls Tryz.prog 11 #[.int .i64 f, plV u1 y1 g1, plV u2 y2 g2] W (RtU (Hole H w W) W (R i)))
  (hok : (∀ j, j < n → (R j).1 = 0) → r.1 = 0 ∧ rawP r.2 = .mk (sh.map Int.ofNat) ((List.range n).map fun j => RI.mk 2 0 0 [rawP (R j).2]) 2) (hbad : ∀ c, c < n → (∀ j, j < c → (R j).1 = 0) → (R c).1 ≠ 0 → r.1 = (R c).1) :
  Calls Tryz.prog 11 #[.int .i64 f, plV h1 x1 f1, plV h2 x2 f2] w (RtU H w r) := by
 have HKN := Lib.hid (fun W => rknown_any f W)
 rw [hk] at HKN
 have HS0 := Lib.hid (P3.new w h1 x1 f1 h2 x2 f2)
 have HFR := Lib.hid (fun W (hs : P3 w W h1 x1 f1 h2 x2 f2) => rframe_any (a := a) (b := b) f1 f2 W (rd_nat (Keeps.lat (pv_heads ga).1 (Lat.below hs.p2.bel)).now) (rd_nat (Keeps.lat (pv_heads gb).1 (Lat.below hs.p2.bel)).now) (pv_heads ga).2.2 (pv_heads gb).2.2 sa sb)
 unfold FrR at HFR
 have HLN : Hid (∀ W, Calls Tryz.prog 28 #[.int .i64 (x1.2.1 : Nat), .int .i64 (x2.2.1 : Nat)] W fun e w' => e = .returned (.int .i64 (n : Nat)) ∧ W = w') := fun W => by
  have h := rlen_any a.len b.len n hL W
  rwa [← (pv_heads ga).2.2, ← (pv_heads gb).2.2] at h
 have HPA := Lib.hid hPA
 have HPB := Lib.hid hPB
 have HIH := Lib.hid hIH
 clear hPA hPB hIH
 have HOK := Lib.hid hok
 have HBAD := Lib.hid hbad
 have HSA := Lib.hid hsa
 have HSB := Lib.hid hsb
 have HH := Lib.hid hH
 have HSH := Lib.hid hsh
 clear ga gb hk sa sb hL hok hbad hsa hsb hH hsh
 go_enter Tryz.func11, Tryz.ntmps11
 go_wp2_with fail
 refine (HKN.out _).mono ?_
 rintro e w1 ⟨rfl, hw1⟩
 rw [hw1] at HS0
 clear hw1
 obtain ⟨p0, p1, p2⟩ := at3_c HS0.out.p2.one
 obtain ⟨q0, q1, q2⟩ := at3_c HS0.out.p2.two
 go_wp2_with fail
 refine (HFR.out _ HS0.out).mono ?_
 clear p0 p1 p2 q0 q1 q2
 rintro e w2 ⟨⟨_, s, rfl, hs⟩ | ⟨hne, _⟩, hb2⟩
 case inr => exact absurd hfr hne
 have HS2 := Lib.hid (HS0.out.step hb2)
 have HSS := Lib.hid hs
 clear hb2 HS0 HFR hs hfr
 obtain ⟨p0, p1, p2⟩ := at3_c HS2.out.p2.one
 obtain ⟨q0, q1, q2⟩ := at3_c HS2.out.p2.two
 go_wp2_with fail
 refine (HLN.out _).mono ?_
 rintro e w3 ⟨rfl, rfl⟩
 have HRD : Hid (RdH H w (sv s) (shInts sh)) := by
  rcases HSS.out with ⟨rfl, h⟩ | ⟨rfl, h⟩
  ·unfold Hid; rw [← HSH.out, h]; exact HSA.out
  ·unfold Hid; rw [← HSH.out, h]; exact HSB.out
 clear HSS HSA HSB HSH HLN
 go_upto_region 7 with fail
 go_cut [47] from 19 (fun v wx => v = .bool false ∧ wx = w2)
 case first =>
  rcases hff with rfl | ⟨hn2, rfl⟩
  ·go_wp2
   go_meet
   exact ⟨rfl, rfl⟩
  ·have e2 : (f1 != 2) = true := by simpa using hn2
   go_wp2
   go_meet
   exact ⟨rfl, rfl⟩
 obtain ⟨rfl, hwc⟩ := hcut
 have hwd := hwc.symm
 subst hwd
 clear p0 p1 p2 q0 q1 q2
 obtain ⟨wa, hwa⟩ : ∃ wa, wa = w2 := ⟨_, rfl⟩
 subst hwa
 go_wp2_with fail
 obtain ⟨U, hU⟩ : ∃ U, U = wa.alloc (plO s nilS 2) := ⟨_, rfl⟩
 have HU0 := Lib.hid hU
 obtain ⟨G, hG⟩ : ∃ G, G = wa.heap.size := ⟨_, rfl⟩
 have hbU : Below wa.heap.size wa U := by rw [hU]; exact bel1 _ _
 have hgb := HS2.out.sz
 have hsU : U.heap.size = wa.heap.size + 1 := by rw [hU]; simp
 have HI0 : Hid (RtI (fun b => H b ∨ b = w.heap.size + 2 ∨ b = G) w U G h1 x1 f1 h2 x2 f2 s 2 ((List.range 0).map fun j => RI.mk 2 0 0 [rawP (R j).2]) (.slice none 0 0) U) :=
  ⟨IOwn.nil _ _ _, by rw [hU, hG]; exact heap_alloc_new wa _, HS2.out.step hbU, Lat.below (Below.refl _ _), by omega, by omega⟩
 have HKU : Hid (∀ b, (fun b => H b ∨ b = w.heap.size + 2 ∨ b = G) b → b < U.heap.size) := fun b e => by
  rcases e with e | e | e
  ·have := HH.out b e; omega
  ·omega
  ·omega
 have HRU : Hid (RdH (fun b => H b ∨ b = w.heap.size + 2 ∨ b = G) U (sv s) (shInts sh)) := Keeps.lat (Keeps.sub HRD.out fun b hb e => by
  rcases e with e | e | e
  ·exact e
  ·omega
  ·omega) (Lat.below (bel_both HS2.out.p2.bel hbU))
 have hgU : w.heap.size + 3 ≤ U.heap.size := by omega
 clear hU hbU hsU HS2 HRD hgb
 rw [← HU0.out, ← hG]
 clear hG
 go_loopw [16] (fun iv wr => ∃ (c : Nat) (v : Value), c ≤ n ∧ iv = .int .i64 (c : Int) ∧ (∀ j, j < c → (R j).1 = 0) ∧ RtI (fun b => H b ∨ b = w.heap.size + 2 ∨ b = G) w U G h1 x1 f1 h2 x2 f2 s 2 ((List.range c).map fun j => RI.mk 2 0 0 [rawP (R j).2]) v wr) (fun iv _ => n - (intOf iv).toNat)
 case atStart => exact ⟨0, _, Nat.zero_le _, rfl, fun j hj => absurd hj (Nat.not_lt_zero _), HI0.out⟩
 case round =>
  obtain ⟨c, v, hc, rfl, hall, hti⟩ := hrel
  have HTI := Lib.hid hti
  have HALL := Lib.hid hall
  clear hti hall HI0 HU0
  obtain ⟨vA, vn, vc, hvn⟩ : ∃ A n c, v = .slice A n c := by obtain ⟨a, c, e⟩ := HTI.out.own.len; exact ⟨a, _, c, e⟩
  subst hvn
  by_cases hlt : c < n
  ·have hlt2 : (c : Int) < (n : Int) := by omega
   have HST : Hid (RtS w wr h1 x1 f1 h2 x2 f2 wr) := ⟨HTI.out.p3, Below.refl _ _, by have := HTI.out.sz; omega⟩
   have HA := Lib.hid (fun W (hs : RtS w wr h1 x1 f1 h2 x2 f2 W) => HPA.out c hlt W hs.p3.p2.bel)
   have HB := Lib.hid (fun W (hs : RtS w wr h1 x1 f1 h2 x2 f2 W) => HPB.out c hlt W hs.p3.p2.bel)
   have HTW := Lib.hid (fun (w1 w2 W : World) (u1 u2 y1 y2 : Sl) (g1 g2 : Int) (hs : RtS w wr h1 x1 f1 h2 x2 f2 W) => HIH.out c hlt w1 w2 W u1 u2 y1 y2 g1 g2 hs.p3.p2.bel)
   unfold PvS at HA HB
   unfold RtU at HTW
   have HKW : Hid (∀ b, (fun b => (H b ∨ b = w.heap.size + 2 ∨ b = G) ∨ (Value.slice vA vn vc).ownBlock = some b) b → H b ∨ (w.heap.size ≤ b ∧ b < wr.heap.size)) := fun b e => by
    have h8 := HTI.out.sz
    have h9 := HTI.out.old
    have h10 := HTI.out.big
    rcases e with (e | e | e) | e
    ·exact .inl e
    ·exact .inr ⟨by omega, by omega⟩
    ·exact .inr ⟨by omega, by omega⟩
    ·have h11 := HTI.out.own.own_lt e
     exact .inr ⟨by omega, by omega⟩
   have HRC : Hid (∃ rc, rc = R c) := ⟨_, rfl⟩
   obtain ⟨rc, hrc⟩ := HRC.out
   rw [← hrc] at HTW
   have HRCE := Lib.hid hrc
   clear hrc HRC
   go_upto_region 23 with fail
   go_cut [17, 18] from 94 to 121 (fun v e wx => RtMid w wr (fun b => (H b ∨ b = w.heap.size + 2 ∨ b = G) ∨ (Value.slice vA vn vc).ownBlock = some b) h1 x1 f1 h2 x2 f2 rc v e wx)
   case first =>
    have hs0 := HST.out.dr
    have hs00 := HST.out
    go_region_held3 (fun W => ((W.cell? ⟨w.heap.size, 0, none⟩ = some (.slice h1.1 h1.2.1 h1.2.2) ∧ W.cell? ⟨w.heap.size, 1, none⟩ = some (.slice x1.1 x1.2.1 x1.2.2) ∧ W.cell? ⟨w.heap.size, 2, none⟩ = some (.int .i64 f1)) ∧ (W.cell? ⟨w.heap.size + 1, 0, none⟩ = some (.slice h2.1 h2.2.1 h2.2.2) ∧ W.cell? ⟨w.heap.size + 1, 1, none⟩ = some (.slice x2.1 x2.2.1 x2.2.2) ∧ W.cell? ⟨w.heap.size + 1, 2, none⟩ = some (.int .i64 f2))) ∧ RtS w wr h1 x1 f1 h2 x2 f2 W)
     (first | (with_reducible assumption) | (with_reducible (refine rts_s ?_); repeat (first | (with_reducible assumption) | (with_reducible refine RtS.dr ?_) | (with_reducible refine RtS.put ?_ (by first | assumption | omega | (simp; omega)) _) | (with_reducible refine RtS.al ?_ _))))
     (first
      | (go_at_call 31; (with_reducible refine (HA.out _ ?_).mono ?_); exact RtS.self (by repeat (first | (with_reducible assumption) | (with_reducible refine RtS.dr ?_) | (with_reducible refine RtS.al ?_ _))); rintro e w1 ⟨u1, y1, g1, rfl, hpa, hb1⟩; have hpv1 : PvA H1 w w1 (partA a c) u1 y1 g1 := hpa; have hst1 : RtS w wr h1 x1 f1 h2 x2 f2 w1 := RtS.step (by repeat (first | (with_reducible assumption) | (with_reducible refine RtS.dr ?_) | (with_reducible refine RtS.al ?_ _))) hb1; obtain ⟨hc1, hfz1⟩ := bcell2 hb1; have hz1 := hb1.size; have hs1z := hst1.bel.size; (first | (have hsq1 : wr.heap.size < w1.heap.size := Nat.lt_of_lt_of_le (lt_al _ _) hz1) | (have hsq1 : wr.heap.size < w1.heap.size := Nat.lt_of_lt_of_le (lt_dr _ _) hz1) | skip); have HB1 := Lib.hid hb1; clear hb1; clear hpa)
      | (go_at_call 31; (with_reducible refine (HB.out _ ?_).mono ?_); exact RtS.self (by repeat (first | (with_reducible assumption) | (with_reducible refine RtS.dr ?_) | (with_reducible refine RtS.al ?_ _))); rintro e w2 ⟨u2, y2, g2, rfl, hpb, hb2⟩; have hpv2 : PvA H2 w w2 (partA b c) u2 y2 g2 := hpb; have hbl2 : BelT w1 w2 := BelT.step (by repeat (first | (with_reducible exact BelT.refl _) | (with_reducible refine BelT.dr ?_) | (with_reducible refine BelT.al ?_ _))) hb2; have hst2 : RtS w wr h1 x1 f1 h2 x2 f2 w2 := RtS.step (by repeat (first | (with_reducible assumption) | (with_reducible refine RtS.dr ?_) | (with_reducible refine RtS.al ?_ _))) hb2; obtain ⟨hc2, hfz2⟩ := bcell2 hb2; have hz2 := hb2.size; have hs2z := hst2.bel.size; (first | (have hsq2 : w1.heap.size < w2.heap.size := Nat.lt_of_lt_of_le (lt_al _ _) hz2) | (have hsq2 : w1.heap.size < w2.heap.size := Nat.lt_of_lt_of_le (lt_dr _ _) hz2) | (have hsq2 : w1.heap.size ≤ w2.heap.size := hz2) | skip); (first | (have hsr2 : wr.heap.size < w2.heap.size := Nat.lt_of_lt_of_le hsq1 (Nat.le_of_lt hsq2)) | (have hsr2 : wr.heap.size < w2.heap.size := Nat.lt_of_lt_of_le hsq1 hsq2) | skip); have HB2 := Lib.hid hb2; clear hb2; clear hpb)
      | (go_at_call 11; (with_reducible refine (HTW.out w1 w2 _ _ _ _ _ _ _ ?_ ?_ ?_ hpv1 hpv2).mono ?_); exact RtS.self (by repeat (first | (with_reducible assumption) | (with_reducible refine RtS.dr ?_) | (with_reducible refine RtS.al ?_ _))); exact BelT.self (by repeat (first | (with_reducible assumption) | (with_reducible refine BelT.dr ?_) | (with_reducible refine BelT.al ?_ _))); exact BelT.self (by repeat (first | (with_reducible exact BelT.refl _) | (with_reducible refine BelT.dr ?_) | (with_reducible refine BelT.al ?_ _))); rintro e w5 ⟨h5, x5, g5, rfl, hpv5, hb5⟩; have hst5 : RtS w wr h1 x1 f1 h2 x2 f2 w5 := RtS.step (by repeat (first | (with_reducible assumption) | (with_reducible refine RtS.dr ?_) | (with_reducible refine RtS.al ?_ _))) hb5; obtain ⟨hc5, hfz5⟩ := bcell2 hb5; have hz5 := hb5.size; have hs5z := hst5.bel.size; (first | (have hsq5 : w2.heap.size < w5.heap.size := Nat.lt_of_lt_of_le (lt_al _ _) hz5) | (have hsq5 : w2.heap.size < w5.heap.size := Nat.lt_of_lt_of_le (lt_dr _ _) hz5) | (have hsq5 : w2.heap.size ≤ w5.heap.size := hz5) | skip); (first | (have hsr5 : wr.heap.size < w5.heap.size := Nat.lt_of_lt_of_le hsr2 hsq5) | skip); (first | (have hsr6 : w1.heap.size < w5.heap.size := Nat.lt_of_lt_of_le hsq2 hsq5) | skip); have HB5 := Lib.hid hb5; have HPV5 := Lib.hid hpv5; clear hpv5))
    all_goals
     go_wp2
     go_meet
     first
      | (with_reducible exact rtMid_new HKW.out HPV5.out hst2.bel.size hst5)
      | (with_reducible exact rtMid_new HKW.out HPV5.out (RtS.dr hst2).bel.size hst5)
      | (with_reducible refine rtMid_old HKW.out HPV5.out hst5 (ZO.step ?_ HB5.out) ?_ ?_; all_goals (first | (with_reducible exact Nat.le_refl _) | exact hst1.bel.size | exact hst2.bel.size | (repeat (first | (with_reducible exact ZO.new _ _) | (with_reducible refine ZO.dr ?_) | (with_reducible refine ZO.step ?_ HB2.out) | (with_reducible refine ZO.step ?_ HB1.out)))))
   obtain ⟨V, h5, x5, g5, rfl, rfl, hVz, hVb, hpv, hst⟩ := hcut
   have HTI2 := Lib.hid (HTI.out.step hst.bel)
   have HVB := Lib.hid hVb
   have HPV := Lib.hid hpv
   obtain ⟨wb, hwb⟩ : ∃ wb, wb = wc := ⟨_, rfl⟩
   subst hwb
   clear hst hVb hpv HPA HPB HIH HA HB HTW HST
   by_cases h0 : rc.1 = 0
   ·have ne : (rc.1 != 0) = false := by simpa using h0
    have HZ : Hid ((R c).1 = 0) := by unfold Hid; rw [← HRCE.out]; exact h0
    have HAL : Hid (∀ j, j < c + 1 → (R j).1 = 0) := fun j hj => by
     by_cases e : j = c
     ·subst e; exact HZ.out
     ·exact HALL.out j (by omega)
    have HTK : Hid (((List.range (c + 1)).map fun j => RI.mk 2 0 0 [rawP (R j).2]) = ((List.range c).map fun j => RI.mk 2 0 0 [rawP (R j).2]) ++ [RI.mk 2 0 0 [rawP (R c).2]]) := by unfold Hid; rw [List.range_succ, List.map_append]; rfl
    have HLB : Hid (((List.range c).map fun j => RI.mk 2 0 0 [rawP (R j).2]).length ≤ 1048576) := by unfold Hid; simp; omega
    rw [← HRCE.out] at HTK
    generalize ((List.range c).map fun j => RI.mk 2 0 0 [rawP (R j).2]) = lc at HTI2 HTK HLB
    obtain ⟨⟨e0, e1, e2⟩, ez⟩ := block3 HTI2.out.out
    obtain ⟨⟨d0, d1, d2⟩, dz⟩ := block3 HVB.out
    have HBX := Lib.hid (bel1 wb (plO h5 x5 g5))
    have HTW := Lib.hid (HTI2.out.step HBX.out)
    have HGG : Hid (wb.heap.size + 1 = (wb.alloc (plO h5 x5 g5)).heap.size) := by unfold Hid; simp
    have HSZ : Hid (U.heap.size ≤ (wb.alloc (plO h5 x5 g5)).heap.size) := HTW.out.sz
    have HAV : Hid (IV (fun b => (fun b => H b ∨ b = w.heap.size + 2 ∨ b = G) b ∨ (Value.slice vA vn vc).ownBlock = some b) (wb.alloc (plO h5 x5 g5)) (.mk 2 0 0 [rawP rc.2]) 2 0 0 (some ⟨wb.heap.size, 0, none⟩, 1, 1)) := by
     have hpw := HPV.out h0
     have h8 := HTI2.out.sz
     refine iv_box ?_ (PV.sub (fun b hb e => ?_) (hpw.step HBX.out)) (at3_box wb h5 x5 g5)
     ·rintro (e | e)
      ·have := HKU.out _ e; omega
      ·have := (HTI2.out.own.own_lt e).2; omega
     ·exact e
    have g1 := fun o => cell_box1 e1 o
    have g2 := fun o o' => cell_box2 e1 o o'
    have hst0 := fun md => st_item (wb.alloc (plO h5 x5 g5)) 2 0 0 0 (.slice none 0 0) 53 md
    have u1 : (wb.alloc (plO h5 x5 g5)).frozen? ⟨G, 1, none⟩ = false := by rw [HBX.out.frozen (p := ⟨G, 1, none⟩) (by show G < _; have := HTI2.out.old; have := HTI2.out.sz; omega)]; exact ez 1
    clear h0
    go_wp2_with (at_builtin; refine wpList_pushI' rfl (.tmp 115) (.tmp 119) rfl (fun b => H b ∨ b = w.heap.size + 2 ∨ b = G) U.heap.size (.slice vA vn vc) lc rfl HTW.out.own ⟨2, 0, 0, (some ⟨wb.heap.size, 0, none⟩, 1, 1)⟩ (.mk 2 0 0 [rawP rc.2]) HAV.out (wb.heap.size + 1) HGG.out rfl HLB.out HSZ.out ?_; intro v' w' hown' hbw hlat hat2; (obtain ⟨vA', vn', vc', hvn'⟩ : ∃ A n c, v' = .slice A n c := by (obtain ⟨a, c, e⟩ := hown'.len; exact ⟨a, _, c, e⟩)); subst hvn'; have HBW := Lib.hid (hbw _ (Below.refl _ _)); have HP := Lib.hid (HTW.out.push (.inr (.inr rfl)) HKU.out hown' HBW.out); (obtain ⟨⟨q0, q1, q2⟩, qz⟩ := block3 (show w'.heap[G]? = _ from (HBW.out.block _ HTW.out.old).trans HTW.out.out)); clear hown' hbw hlat hat2)
    go_roundw
    case rel => exact ⟨c + 1, _, by omega, by go_num, HAL.out, by rw [HTK.out]; exact HP.out⟩
    case measure => simp [intOf]; omega
   ·have ne : (rc.1 != 0) = true := by simpa using h0
    have HE : Hid (r.1 = rc.1) := by
     unfold Hid
     rw [HRCE.out]
     exact HBAD.out c hlt HALL.out (by rw [← HRCE.out]; exact h0)
    have HN := Lib.hid h0
    have HS9 := Lib.hid HTI2.out.p3
    clear h0
    obtain ⟨⟨y0, y1, y2⟩, yz⟩ := block3 HS9.out.res
    go_wp2
    refine bodyPost_ret (v := .tuple #[plV nilS nilS 0, .int .i64 rc.1]) ?_ rfl (rtU_err HE.out HN.out (below_set3 HS9.out.p2.bel (Nat.le_add_right _ 2) _ _ _))
    exact ret_plain2 (fn := Tryz.f11) (p := 6) (u := 7) rfl _ _ (w.heap.size + 2) (by rfl) (set3_block HS9.out.res _ _ _)
  ·obtain rfl : c = n := by omega
   have hge : ¬ (c : Int) < (c : Int) := by omega
   obtain ⟨hr1, hr2⟩ := HOK.out HALL.out
   have HR1 := Lib.hid hr1
   obtain ⟨x', hx', hpv⟩ := HTI.out.done (H := H) (.inr (.inr rfl)) (.inr (.inl rfl)) (fun b e => .inl e) HKU.out HRU.out (sv s) (.slice vA vn vc) (.int .i64 2)
   obtain ⟨xA, xn, xc⟩ := x'
   have h9 : Value.slice vA vn vc = .slice xA xn xc := hx'
   injection h9 with h10 h11 h12
   subst h10; subst h11; subst h12
   rw [← hr2] at hpv
   have HPV := Lib.hid hpv
   obtain ⟨⟨e0, e1, e2⟩, ez⟩ := block3 HTI.out.out
   obtain ⟨⟨z0, z1, z2⟩, zz⟩ := block3 HTI.out.p3.res
   have HRB := Lib.hid (set3_block HTI.out.p3.res (sv s) (.slice vA vn vc) (.int .i64 2))
   have HBB := Lib.hid (below_set3 HTI.out.p3.p2.bel (G := w.heap.size + 2) (by omega) (sv s) (.slice vA vn vc) (.int .i64 2))
   clear hpv hx' hr1 hr2
   go_wp2
   refine bodyPost_ret (v := .tuple #[plV s (vA, vn, vc) 2, .int .i64 0]) ?_ rfl (rtU_ok HR1.out HPV.out HBB.out)
   exact ret_plain2 (fn := Tryz.f11) (p := 6) (u := 7) rfl _ _ (w.heap.size + 2) (by rfl) HRB.out
theorem raw_flat {p : PA} {k : Int} {n : Nat} {c : Int} (e : rawP p = .mk [] [.mk k n c []] k) (hk : k ≠ 2) : p.fill ≠ 2 ∧ p.shape = [] := by
 obtain ⟨items, e2, _⟩ := rawP_mk p
 rw [e2] at e
 injection e with e3 _ e5
 exact ⟨fun h => by rw [h] at e5; exact hk e5.symm, by simpa using e3⟩
theorem flat_part {a : PA} (i : Nat) (h : a.fill ≠ 2) : ∃ k n c, rawP (partA a i) = .mk [] [.mk k n c []] k ∧ k ≠ 2 := by
 cases a with
 | nums s l => exact ⟨0, _, 0, by rw [partA, rawP]; rfl, by decide⟩
 | chars s l => exact ⟨1, 0, _, by rw [partA, rawP]; rfl, by decide⟩
 | boxes s l => exact absurd rfl h
theorem rawBs_map (l : List PA) : rawBs l = l.map fun a => RI.mk 2 0 0 [rawP a] := by
 induction l with
 | nil => rw [rawBs]; rfl
 | cons a l ih => rw [rawBs, ih]; rfl
theorem at_nums {H : Nat → Prop} {w : World} {s l : List Nat} {h x : Sl} {f : Int} (g : PV H w (rawP (.nums s l)) h x f) (i : Nat) (hi : ixP l.length i < l.length) (hl : l.length ≤ 1000000) (W : World) (hb : Below w.heap.size w W) :
  Calls Tryz.prog 30 #[plV h x f, .int .i64 (i : Int)] W (AtR 0 (l.getD (ixP l.length i) 0) 0 W) := by
 rw [rawP] at g
 have hm : (l.map fun x => RI.mk 0 x 0 []).length = l.length := by simp
 have h1 := rat24_any g i (by rw [hm]; exact hi) (by rw [hm]; omega) W hb
 have e : (l.map fun x => RI.mk 0 x 0 [])[ixP (l.map fun x => RI.mk 0 x 0 []).length i]'(by rw [hm]; exact hi) = .mk 0 (l.getD (ixP l.length i) 0) 0 [] := by
  simp [List.getD, hi]
 rw [e] at h1
 exact h1.mono fun _ _ t => atR_of t
theorem at_chars {H : Nat → Prop} {w : World} {s : List Nat} {l : List Int} {h x : Sl} {f : Int} (g : PV H w (rawP (.chars s l)) h x f) (i : Nat) (hi : ixP l.length i < l.length) (hl : l.length ≤ 1000000) (W : World) (hb : Below w.heap.size w W) :
  Calls Tryz.prog 30 #[plV h x f, .int .i64 (i : Int)] W (AtR 1 0 (l.getD (ixP l.length i) 0) W) := by
 rw [rawP] at g
 have hm : (l.map fun c => RI.mk 1 0 c []).length = l.length := by simp
 have h1 := rat24_any g i (by rw [hm]; exact hi) (by rw [hm]; omega) W hb
 have e : (l.map fun c => RI.mk 1 0 c [])[ixP (l.map fun c => RI.mk 1 0 c []).length i]'(by rw [hm]; exact hi) = .mk 1 0 (l.getD (ixP l.length i) 0) [] := by
  simp [List.getD, hi]
 rw [e] at h1
 exact h1.mono fun _ _ t => atR_of t
theorem pair_01 {f : Int} (hf : f = 13 ∨ f = 16) (x : Nat) (hx : TF x) (c : Int) (W : World) (y1 y2 : Sl) :
  Calls Tryz.prog 29 #[.int .i64 f, itV 0 x 0 y1, itV 1 0 c y2] W fun e w' => e = .returned (.tuple #[itV 0 (flagF (false == decide (f = 13))) 0 nilS, .int .i64 0]) ∧ Below W.heap.size W w' := by
 rcases hf with rfl | rfl
 ·exact rpair_over 13 0 1 x 0 0 c y1 y2 false (.inl rfl) (.inr ⟨rfl, rfl⟩) (fun W b1 b2 hs => rapply_two 13 0 1 false b1 b2 x 0 y1 0 c y2 (.inl ⟨.inl ⟨rfl, rfl⟩, .inl ⟨rfl, rfl⟩⟩) W hs hx tf_zero) W
 ·exact rpair_over 16 0 1 x 0 0 c y1 y2 true (.inr ⟨rfl, rfl⟩) (.inr ⟨rfl, rfl⟩) (fun W b1 b2 hs => rapply_two 16 0 1 true b1 b2 x 0 y1 0 c y2 (.inl ⟨.inr ⟨rfl, rfl⟩, .inl ⟨rfl, rfl⟩⟩) W hs hx tf_zero) W
theorem pair_10 {f : Int} (hf : f = 13 ∨ f = 16) (x : Nat) (hx : TF x) (c : Int) (W : World) (y1 y2 : Sl) :
  Calls Tryz.prog 29 #[.int .i64 f, itV 1 0 c y1, itV 0 x 0 y2] W fun e w' => e = .returned (.tuple #[itV 0 (flagF (false == decide (f = 13))) 0 nilS, .int .i64 0]) ∧ Below W.heap.size W w' := by
 rcases hf with rfl | rfl
 ·exact rpair_over 13 1 0 0 x c 0 y1 y2 false (.inl rfl) (.inl rfl) (fun W b1 b2 hs => rapply_two 13 1 0 false b1 b2 0 c y1 x 0 y2 (.inl ⟨.inl ⟨rfl, rfl⟩, .inr (.inl ⟨rfl, rfl⟩)⟩) W hs tf_zero hx) W
 ·exact rpair_over 16 1 0 0 x c 0 y1 y2 true (.inr ⟨rfl, rfl⟩) (.inl rfl) (fun W b1 b2 hs => rapply_two 16 1 0 true b1 b2 0 c y1 x 0 y2 (.inl ⟨.inr ⟨rfl, rfl⟩, .inr (.inl ⟨rfl, rfl⟩)⟩) W hs tf_zero hx) W
theorem pair_11 {f : Int} (hf : f = 13 ∨ f = 16) (c c2 : Int) (W : World) (y1 y2 : Sl) :
  Calls Tryz.prog 29 #[.int .i64 f, itV 1 0 c y1, itV 1 0 c2 y2] W fun e w' => e = .returned (.tuple #[itV 0 (flagF (decide (c = c2) == decide (f = 13))) 0 nilS, .int .i64 0]) ∧ Below W.heap.size W w' := by
 by_cases h : c = c2
 ·subst h
  rw [decide_eq_true rfl]
  rcases hf with rfl | rfl
  ·exact rpair_over 13 1 1 0 0 c c y1 y2 true (.inl rfl) (.inl rfl) (fun W b1 b2 hs => rapply_two 13 1 1 true b1 b2 0 c y1 0 c y2 (.inr ⟨.inl ⟨rfl, rfl⟩, rfl, rfl, rfl⟩) W hs tf_zero tf_zero) W
  ·exact rpair_over 16 1 1 0 0 c c y1 y2 false (.inr ⟨rfl, rfl⟩) (.inl rfl) (fun W b1 b2 hs => rapply_two 16 1 1 false b1 b2 0 c y1 0 c y2 (.inr ⟨.inr ⟨rfl, rfl⟩, rfl, rfl, rfl⟩) W hs tf_zero tf_zero) W
 ·have hne : (c == c2) = false := by simpa using h
  rw [decide_eq_false h]
  rcases hf with rfl | rfl
  ·exact rpair_over 13 1 1 0 0 c c2 y1 y2 false (.inl rfl) (.inl rfl) (fun W b1 b2 hs => rapply_two 13 1 1 false b1 b2 0 c y1 0 c2 y2 (.inl ⟨.inl ⟨rfl, rfl⟩, .inr (.inr ⟨rfl, rfl, hne⟩)⟩) W hs tf_zero tf_zero) W
  ·exact rpair_over 16 1 1 0 0 c c2 y1 y2 true (.inr ⟨rfl, rfl⟩) (.inl rfl) (fun W b1 b2 hs => rapply_two 16 1 1 true b1 b2 0 c y1 0 c2 y2 (.inl ⟨.inr ⟨rfl, rfl⟩, .inr (.inr ⟨rfl, rfl, hne⟩)⟩) W hs tf_zero tf_zero) W
noncomputable def elE (f : Int) (a b : PA) (c : Nat) : Nat × Int :=
 match a, b with
 | .nums _ l, .nums _ m => oneP pwP f (l.getD (ixP l.length c) 0) (m.getD (ixP m.length c) 0)
 | _, _ => (flagF (sameC a b c == decide (f = 13)), 0)
theorem flatR_ok {f : Int} {a b : PA} (ha : a.fill ≠ 2) (hb : b.fill ≠ 2) (h13 : (a.fill = 0 ∧ b.fill = 0) ∨ f = 13 ∨ f = 16) (h : ∀ j, j < lenE a b → (elE f a b j).2 = 0) :
  (flatR f a b).1 = 0 ∧ rawP (flatR f a b).2 = .mk ((frameE a b).2.map Int.ofNat) ((List.range (lenE a b)).map fun j => RI.mk 0 (elE f a b j).1 0 []) 0 := by
 have key : flatE f a b = (0, (List.range (lenE a b)).map fun j => (elE f a b j).1) := by
  have el : (f = 13 ∨ f = 16) → (if f = 13 ∨ f = 16 then ((0 : Int), (List.range (lenE a b)).map fun c => flagF (sameC a b c == decide (f = 13))) else (24, [])) = (0, (List.range (lenE a b)).map fun c => flagF (sameC a b c == decide (f = 13))) := fun h => if_pos h
  cases a with
  | boxes s l => exact absurd rfl ha
  | nums sa la =>
   cases b with
   | boxes s l => exact absurd rfl hb
   | nums sb lb =>
    rw [flatE_nums]
    rcases numsE_cases (lenE (.nums sa la) (.nums sb lb)) (fun c => oneP pwP f (la.getD (ixP la.length c) 0) (lb.getD (ixP lb.length c) 0)) with ⟨⟨c, hc, h1⟩, _⟩ | ⟨_, h2⟩
    ·exact absurd (h c hc) h1
    ·rw [h2]; rfl
   | chars sb lb => exact el (h13.resolve_left fun e => by cases e.2)
  | chars sa la =>
   cases b with
   | boxes s l => exact absurd rfl hb
   | nums sb lb => exact el (h13.resolve_left fun e => by cases e.1)
   | chars sb lb => exact el (h13.resolve_left fun e => by cases e.1)
 unfold flatR
 rw [key]
 refine ⟨rfl, ?_⟩
 rw [if_neg (by simp), rawP, List.map_map]
 rfl
theorem flatR_bad {f : Int} {sa la sb lb : List Nat} {d e : Nat} (ga : GoodA d (.nums sa la)) (gb : GoodA e (.nums sb lb)) (hfr : (frameE (.nums sa la) (.nums sb lb)).1 = 0) {c : Nat} (hc : c < lenE (.nums sa la) (.nums sb lb)) (h : (elE f (.nums sa la) (.nums sb lb) c).2 ≠ 0) : (flatR f (.nums sa la) (.nums sb lb)).1 = (elE f (.nums sa la) (.nums sb lb) c).2 := by
 have hij := ixP_both ga gb hfr hc
 have h24 : (elE f (.nums sa la) (.nums sb lb) c).2 = 24 := by
  show (oneP pwP f _ _).2 = 24
  rcases oneP_cases powIs f (show TF (la.getD (ixP la.length c) 0) from ga.nums _ hij.1) (show TF (lb.getD (ixP lb.length c) 0) from gb.nums _ hij.2) with ⟨y, hy, e1⟩ | e1
  ·exact absurd (by show (oneP pwP f _ _).2 = 0; rw [e1]) h
  ·rw [e1]
 rw [h24]
 have key : flatE f (.nums sa la) (.nums sb lb) = (24, []) := by
  rw [flatE_nums]
  rcases numsE_cases (lenE (.nums sa la) (.nums sb lb)) (fun c => oneP pwP f (la.getD (ixP la.length c) 0) (lb.getD (ixP lb.length c) 0)) with ⟨_, h2⟩ | ⟨h1, _⟩
  ·exact h2
  ·exact absurd (h1 c hc) h
 unfold flatR
 rw [key]
 rfl
theorem flatR_dom {f : Int} {a b : PA} (h : ¬ (a.fill = 0 ∧ b.fill = 0)) (h13 : f ≠ 13) (h16 : f ≠ 16) : (flatR f a b).1 = 24 := by
 have el : (if f = 13 ∨ f = 16 then ((0 : Int), (List.range (lenE a b)).map fun c => flagF (sameC a b c == decide (f = 13))) else (24, [])) = (24, []) := if_neg (by rintro (h | h); exact h13 h; exact h16 h)
 have key : flatE f a b = (24, []) := by
  cases a with
  | boxes s l => exact el
  | nums sa la =>
   cases b with
   | boxes s l => exact el
   | nums sb lb => exact absurd ⟨rfl, rfl⟩ h
   | chars sb lb => exact el
  | chars sa la => exact el
 unfold flatR
 rw [key]
 rfl
theorem bxE_raw {n : Nat} {R : Nat → Int × PA} {sh : List Nat} (h : ∀ j, j < n → (R j).1 = 0) : (bxE n R sh).1 = 0 ∧ rawP (bxE n R sh).2 = .mk (sh.map Int.ofNat) ((List.range n).map fun j => RI.mk 2 0 0 [rawP (R j).2]) 2 := by
 rw [bxE_ok sh h]
 refine ⟨rfl, ?_⟩
 rw [rawP, rawBs_map, List.map_map]
 rfl
theorem rtwo_flat {H H1 H2 : Nat → Prop} (f : Int) {a b : PA} {d e : Nat} {h1 x1 h2 x2 : Sl} {f1 f2 : Int} (w : World) (hH : ∀ b, H b → b < w.heap.size) (hk : knownB f = true) (ga : GoodA d a) (gb : GoodA e b) (ma : SmA 1000000 a) (mb : SmA 1000000 b) (va : PV H1 w (rawP a) h1 x1 f1) (vb : PV H2 w (rawP b) h2 x2 f2)
  (hsa : RdH H w (sv h1) (shInts a.shape)) (hsb : RdH H w (sv h2) (shInts b.shape)) (hfr : (frameE a b).1 = 0) (ha : a.fill ≠ 2) (hb : b.fill ≠ 2) :
  Calls Tryz.prog 11 #[.int .i64 f, plV h1 x1 f1, plV h2 x2 f2] w (RtU H w (flatR f a b)) := by
 have la : a.shape.length ≤ 1048576 := by have : a.shape.length ≤ 8 := ga.sh.2.1; omega
 have lb : b.shape.length ≤ 1048576 := by have : b.shape.length ≤ 8 := gb.sh.2.1; omega
 have hL := (frameE_ok ga gb hfr).2
 have hn := lenE_le ma mb
 have hij := fun i hi => ixP_both ga gb hfr (i := i) hi
 have q1 := (pv_heads va).2.1
 have q2 := (pv_heads vb).2.1
 cases a with
 | boxes s l => exact absurd rfl ha
 | nums sa l1 =>
  cases b with
  | boxes s l => exact absurd rfl hb
  | nums sb l2 =>
   exact rtwo_nums f (flatR f (.nums sa l1) (.nums sb l2)) w _ hn (elE f (.nums sa l1) (.nums sb l2)) _ hH hk va vb la lb hfr hL hsa hsb rfl (.inl ⟨q1, q2⟩) 0 0 (fun i => l1.getD (ixP l1.length i) 0) (fun i => l2.getD (ixP l2.length i) 0) (fun _ => 0) (fun _ => 0)
    (fun i hi W hb => at_nums va i (hij i hi).1 ma.len W hb) (fun i hi W hb => at_nums vb i (hij i hi).2 mb.len W hb)
    (fun i hi W y1 y2 => rpair_num f hk _ _ (ga.nums _ (hij i hi).1) (gb.nums _ (hij i hi).2) 0 0 y1 y2 W)
    (fun h => flatR_ok ha hb (.inl ⟨rfl, rfl⟩) h) (fun c hc h => flatR_bad ga gb hfr hc h)
  | chars sb l2 =>
   by_cases h13 : f = 13 ∨ f = 16
   ·exact rtwo_nums f (flatR f (.nums sa l1) (.chars sb l2)) w _ hn (elE f (.nums sa l1) (.chars sb l2)) _ hH hk va vb la lb hfr hL hsa hsb rfl (.inr ⟨.inl ⟨q1, q2⟩, h13⟩) 0 1 (fun i => l1.getD (ixP l1.length i) 0) (fun _ => 0) (fun _ => 0) (fun i => l2.getD (ixP l2.length i) 0)
     (fun i hi W hb => at_nums va i (hij i hi).1 ma.len W hb) (fun i hi W hb => at_chars vb i (hij i hi).2 mb.len W hb)
     (fun i hi W y1 y2 => pair_01 h13 _ (ga.nums _ (hij i hi).1) _ W y1 y2)
     (fun h => flatR_ok ha hb (.inr h13) h) (fun c _ h => absurd rfl h)
   ·exact rtwo_dom f (flatR f (.nums sa l1) (.chars sb l2)) w _ hk va vb la lb hfr hL (.inl ⟨q1, q2⟩) (fun h => h13 (.inl h)) (fun h => h13 (.inr h)) (flatR_dom (fun h => by cases h.2) (fun h => h13 (.inl h)) (fun h => h13 (.inr h)))
 | chars sa l1 =>
  cases b with
  | boxes s l => exact absurd rfl hb
  | nums sb l2 =>
   by_cases h13 : f = 13 ∨ f = 16
   ·exact rtwo_nums f (flatR f (.chars sa l1) (.nums sb l2)) w _ hn (elE f (.chars sa l1) (.nums sb l2)) _ hH hk va vb la lb hfr hL hsa hsb rfl (.inr ⟨.inr (.inl ⟨q1, q2⟩), h13⟩) 1 0 (fun _ => 0) (fun i => l2.getD (ixP l2.length i) 0) (fun i => l1.getD (ixP l1.length i) 0) (fun _ => 0)
     (fun i hi W hb => at_chars va i (hij i hi).1 ma.len W hb) (fun i hi W hb => at_nums vb i (hij i hi).2 mb.len W hb)
     (fun i hi W y1 y2 => pair_10 h13 _ (gb.nums _ (hij i hi).2) _ W y1 y2)
     (fun h => flatR_ok ha hb (.inr h13) h) (fun c _ h => absurd rfl h)
   ·exact rtwo_dom f (flatR f (.chars sa l1) (.nums sb l2)) w _ hk va vb la lb hfr hL (.inr (.inl ⟨q1, q2⟩)) (fun h => h13 (.inl h)) (fun h => h13 (.inr h)) (flatR_dom (fun h => by cases h.1) (fun h => h13 (.inl h)) (fun h => h13 (.inr h)))
  | chars sb l2 =>
   by_cases h13 : f = 13 ∨ f = 16
   ·exact rtwo_nums f (flatR f (.chars sa l1) (.chars sb l2)) w _ hn (elE f (.chars sa l1) (.chars sb l2)) _ hH hk va vb la lb hfr hL hsa hsb rfl (.inr ⟨.inr (.inr ⟨q1, q2⟩), h13⟩) 1 1 (fun _ => 0) (fun _ => 0) (fun i => l1.getD (ixP l1.length i) 0) (fun i => l2.getD (ixP l2.length i) 0)
     (fun i hi W hb => at_chars va i (hij i hi).1 ma.len W hb) (fun i hi W hb => at_chars vb i (hij i hi).2 mb.len W hb)
     (fun i hi W y1 y2 => pair_11 h13 _ _ W y1 y2)
     (fun h => flatR_ok ha hb (.inr h13) h) (fun c _ h => absurd rfl h)
   ·exact rtwo_dom f (flatR f (.chars sa l1) (.chars sb l2)) w _ hk va vb la lb hfr hL (.inr (.inr ⟨q1, q2⟩)) (fun h => h13 (.inl h)) (fun h => h13 (.inr h)) (flatR_dom (fun h => by cases h.1) (fun h => h13 (.inl h)) (fun h => h13 (.inr h)))
theorem rtwo_any : ∀ (N : Nat) (H : Nat → Prop) (f : Int) (a b : PA) (d e : Nat) (h1 x1 h2 x2 : Sl) (f1 f2 : Int) (w : World), (∀ b, H b → b < w.heap.size) →
  GoodA d a → GoodA e b → SmA 1000000 a → SmA 1000000 b → depA a + depA b < N → ArgOk H w a h1 x1 f1 → ArgOk H w b h2 x2 f2 →
  Calls Tryz.prog 11 #[.int .i64 f, plV h1 x1 f1, plV h2 x2 f2] w (RtU H w (twoE N f a b))
 | 0, _, _, _, _, _, _, _, _, _, _, _, _, _, _, _, _, _, _, hN, _, _ => absurd hN (Nat.not_lt_zero _)
 | N + 1, H, f, a, b, d, e, h1, x1, h2, x2, f1, f2, w, hH, ga, gb, sa, sb, hN, va, vb => by
  have la : a.shape.length ≤ 1048576 := by have : a.shape.length ≤ 8 := ga.sh.2.1; omega
  have lb : b.shape.length ≤ 1048576 := by have : b.shape.length ≤ 8 := gb.sh.2.1; omega
  have pick : ∀ {c : PA} {h x : Sl} {fo : Int}, ArgOk H w c h x fo → ∃ K : Nat → Prop, (∀ b, K b → b < w.heap.size) ∧ PV K w (rawP c) h x fo ∧ (c.fill = 2 → ∀ b, H b → K b) := by
   intro c h x fo g
   by_cases h2 : c.fill = 2
   ·exact ⟨H, hH, g.box h2, fun _ _ e => e⟩
   ·obtain ⟨K, k1, k2⟩ := g.pv hH
    exact ⟨K, k1, k2, fun e => absurd e h2⟩
  obtain ⟨H1, hH1, pa, xa⟩ := pick va
  obtain ⟨H2, hH2, pb, xb⟩ := pick vb
  cases hk : knownB f with
  | false => exact rtwo_unknown H f h1 x1 h2 x2 f1 f2 _ w hk (twoE_unknown hk)
  | true =>
   by_cases hf : (frameE a b).1 = 0
   ·by_cases hx : a.fill = 2 ∨ b.fill = 2
    ·rw [twoE_box hk hf hx]
     have q1 := (pv_heads pa).2.1
     have q2 := (pv_heads pb).2.1
     refine rtwo_boxes f _ w (lenE a b) (lenE_le sa sb) (fun i => twoE N f (partA a i) (partA b i)) (frameE a b).2 hH hk pa pb la lb hf (frameE_ok ga gb hf).2 va.sh vb.sh rfl ?_ ?_ ?_ ?_ (fun h => bxE_raw h) (fun c hc h1 h2 => bxE_bad _ hc h1 h2)
     ·by_cases h2 : a.fill = 2
      ·exact .inl (by rw [q1, h2]; rfl)
      ·exact .inr ⟨by rw [q1]; omega, by rw [q2, hx.resolve_left h2]; rfl⟩
     ·exact fun i hi W hb => rpart_any pa i (ixP_both ga gb hf hi).1 (by have := sa.len; omega) W hb hH1
     ·exact fun i hi W hb => rpart_any pb i (ixP_both ga gb hf hi).2 (by have := sb.len; omega) W hb hH2
     ·intro i hi w1 w2 W u1 u2 y1 y2 g1 g2 hb hb1 hb2 hp1 hp2
      have hij := ixP_both ga gb hf hi
      have da := partA_dep hij.1
      have db := partA_dep hij.2
      refine rtwo_any N (Hole H w W) f (partA a i) (partA b i) d e u1 y1 u2 y2 g1 g2 W (Hole.lt hH hb) (partA_good ga hij.1) (partA_good gb hij.2) (smA_one (by decide) sa i hij.1) (smA_one (by decide) sb i hij.2) ?_
       (argOk_part hb hb1 hH1 xa (fun k n c e hk => raw_flat e hk) (flat_part i) hb.size hp1) (argOk_part hb hb2 hH2 xb (fun k n c e hk => raw_flat e hk) (flat_part i) hb.size hp2)
      rcases hx with hx | hx
      ·have := da.2 hx; omega
      ·have := db.2 hx; omega
    ·rw [twoE_flat hk hf hx]
     exact rtwo_flat f w hH hk ga gb sa sb pa pb va.sh vb.sh hf (fun h => hx (.inl h)) (fun h => hx (.inr h))
   ·exact rtwo_frame f _ w hk pa pb la lb (twoE_frame hk hf) hf
def PvK (K : Nat → Prop) (w1 : World) (t : RP) (h x : Sl) (f : Int) : Prop := PV K w1 t h x f ∧ ∀ b, K b → b < w1.heap.size
def LpMid (w wr : World) (h1 x1 : Sl) (f1 : Int) (h2 x2 : Sl) (f2 : Int) (r : Int × PA) (v e : Value) (wx : World) : Prop :=
 ∃ (V : Nat) (h x : Sl) (fo : Int), v = .pointer (some ⟨V, 0, none⟩) ∧ e = .int .i64 r.1 ∧ wr.heap.size ≤ V ∧ wx.heap[V]? = some (plO h x fo) ∧ PvIf (fun b => b = V) r h x fo wx ∧ LwS w wr h1 x1 f1 h2 x2 f2 wx
theorem lpMid_new {w wr w5 : World} {K : Nat → Prop} {h1 x1 h2 x2 : Sl} {f1 f2 : Int} {r : Int × PA} {h x : Sl} {fo : Int} (hp : PvIf K r h x fo w5) (hst : LwS w wr h1 x1 f1 h2 x2 f2 w5) :
  LpMid w wr h1 x1 f1 h2 x2 f2 r (.pointer (some ⟨w5.heap.size, 0, none⟩)) (.int .i64 r.1) (w5.alloc (plO h x fo)) :=
 ⟨w5.heap.size, h, x, fo, rfl, rfl, hst.bel.size, heap_alloc_new w5 _, fun h0 => (PV.sub (fun b hb e => by omega) (hp h0)).step (bel1 w5 _), hst.al _⟩
theorem lpMid_old {w wr w5 : World} {K : Nat → Prop} {h1 x1 h2 x2 : Sl} {f1 f2 : Int} {r : Int × PA} {h x : Sl} {fo : Int} {Z : Nat} (hp : PvIf K r h x fo w5) (hst : LwS w wr h1 x1 f1 h2 x2 f2 w5) (hz : ZO (plO nilS nilS 0) Z w5) (hK : K Z) (hZ : wr.heap.size ≤ Z) :
  LpMid w wr h1 x1 f1 h2 x2 f2 r (.pointer (some ⟨Z, 0, none⟩)) (.int .i64 r.1) (set3 w5 Z (sv h) (sv x) (.int .i64 fo)) :=
 ⟨Z, h, x, fo, rfl, rfl, hZ, set3_block hz _ _ _, fun h0 => PV.lat (Lat.set3 (H := fun b => b = Z) (G := Z) rfl _ _ _) (PV.sub (fun b _ e => by subst e; exact hK) (hp h0)), ((hst.put hZ _).put hZ _).put hZ _⟩
theorem lawTidy_any {t : RP} (o : OkP 40 t) (c : cntP t ≤ 1500) {h x : Sl} {f : Int} (K : Nat → Prop) (W : World) (hK : ∀ b, K b → b < W.heap.size) (g : ∀ W', Below W.heap.size W W' → PV K W' t h x f) :
  Calls Tryz.prog 12 #[plV h x f] W fun e w' => ∃ h' x', e = .returned (plV h' x' f) ∧ PvK K w' (rawP (clP t)) h' x' f ∧ Below W.heap.size W w' := by
 refine (tidy_walk 40 K t h x f W hK o (by omega) (g W (Below.refl _ _))).mono ?_
 rintro e w' ⟨h', x', rfl, hp, hb⟩
 exact ⟨h', x', rfl, ⟨hp, fun b e => by have := hK b e; have := hb.size; omega⟩, hb⟩
theorem lawRTwo_any (f : Int) {t1 t2 : RP} (o1 : OkP 40 t1) (o2 : OkP 40 t2) (c1 : cntP t1 ≤ 1500) (c2 : cntP t2 ≤ 1500) (K1 K2 : Nat → Prop) (w1 w2 W : World) {u1 y1 u2 y2 : Sl} {f1 f2 : Int} (k12 : ∀ b, K2 b → b < w1.heap.size → K1 b) (hb1 : BelT w1 W) (hb2 : BelT w2 W) (h12 : w1.heap.size ≤ w2.heap.size)
  (g1 : PvK K1 w1 (rawP (clP t1)) u1 y1 f1) (g2 : PvK K2 w2 (rawP (clP t2)) u2 y2 f2) :
  Calls Tryz.prog 11 #[.int .i64 f, plV u1 y1 f1, plV u2 y2 f2] W (RtU (fun b => K2 b ∨ Fresh w2 W b) W (lawE f t1 t2)) := by
 have hz2 := hb2.size
 refine rtwo_any _ _ f _ _ 40 40 u1 y1 u2 y2 f1 f2 W (fun b e => ?_) (okP_good 40 t1 o1) (okP_good 40 t2 o2) (sm_cl c1) (sm_cl c2) (Nat.lt_succ_self _) (.inr ?_) (.inr ?_)
 ·rcases e with e | e
  ·have := g2.2 b e; omega
  ·exact e.2
 ·exact PV.lat (Lat.below hb1) (PV.sub (fun b hb e => by
   rcases e with e | e
   ·exact k12 b e hb
   ·have := e.1; omega) g1.1)
 ·exact PV.lat (Lat.below hb2) (PV.sub (fun b hb e => by
   rcases e with e | e
   ·exact e
   ·have := e.1; omega) g2.1)
end Go.Proofs.YtiahegjdkejjpaaGreat
