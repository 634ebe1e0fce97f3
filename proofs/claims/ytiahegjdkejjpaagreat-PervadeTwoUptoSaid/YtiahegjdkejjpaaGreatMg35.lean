/- Merged texts. Two plain arrays in blocks of a call's own. Conditions: as each theorem says. The walk of awake of layer 24. No conditions. The memory of the laws of two plain arrays: a variable that holds what a function of their arrays tells. Conditions: as each theorem says. The walk of rebusref24.Frame. Conditions: at most 1048576 axes. The walks of rebusref10.Length and rebusref24.at. Conditions: a place in range. The walk of rebusref24.part. Conditions: a place in range. -/
import Derived.Test.YtiahegjdkejjpaaGreatMg31
import Derived.Test.YtiahegjdkejjpaaGreatMg34
import Derived.Test.YtiahegjdkejjpaaGreatMg20
import Derived.Test.YtiahegjdkejjpaaGreatMg22
import Derived.Deep.CutBlock
namespace Go.Proofs.YtiahegjdkejjpaaGreat
open Go Go.RowKit Go.Proofs Fl
theorem At3.belowP {w w' : World} {b o : Nat} {h x : Sl} {f : Int} (g : At3 w b o h x f) (hb : Below w.heap.size w w') : At3 w' b o h x f := At3.lat (H := fun _ => False) g (fun e => e) (Lat.below hb)
structure P2 (w W : World) (h1 x1 : Sl) (f1 : Int) (h2 x2 : Sl) (f2 : Int) : Prop where
 one : At3 W w.heap.size 0 h1 x1 f1
 two : At3 W (w.heap.size + 1) 0 h2 x2 f2
 bel : Below w.heap.size w W
theorem P2.step {w W W' : World} {h1 x1 h2 x2 : Sl} {f1 f2 : Int} (h : P2 w W h1 x1 f1 h2 x2 f2) (hb : Below W.heap.size W W') : P2 w W' h1 x1 f1 h2 x2 f2 := ⟨At3.belowP h.one hb, At3.belowP h.two hb, bel_both h.bel hb⟩
theorem P2.new (w : World) (h1 x1 : Sl) (f1 : Int) (h2 x2 : Sl) (f2 : Int) : P2 w ((w.alloc (plO h1 x1 f1)).alloc (plO h2 x2 f2)) h1 x1 f1 h2 x2 f2 := by
 have h := at3_box (w.alloc (plO h1 x1 f1)) h2 x2 f2
 have e : (w.alloc (plO h1 x1 f1)).heap.size = w.heap.size + 1 := by simp
 rw [e] at h
 exact ⟨At3.belowP (at3_box w h1 x1 f1) (bel1 _ _), h, bel2 w _ _⟩
theorem P2.more {w W W' : World} {h1 x1 h2 x2 : Sl} {f1 f2 : Int} (g : P2 w W h1 x1 f1 h2 x2 f2) (hb : Below (w.heap.size + 2) W W') : P2 w W' h1 x1 f1 h2 x2 f2 :=
 ⟨g.one.of fun j => hb.cell (p := ⟨w.heap.size, j, none⟩) (by show w.heap.size < _; omega), g.two.of fun j => hb.cell (p := ⟨w.heap.size + 1, j, none⟩) (by show w.heap.size + 1 < _; omega), g.bel.trans (hb.mono (by omega))⟩
theorem P2.dr {w W : World} {h1 x1 h2 x2 : Sl} {f1 f2 : Int} (g : P2 w W h1 x1 f1 h2 x2 f2) : P2 w W.drew h1 x1 f1 h2 x2 f2 := g.step (Below.refl _ W).drew
theorem P2.self {w W : World} {h1 x1 h2 x2 : Sl} {f1 f2 : Int} (g : P2 w W h1 x1 f1 h2 x2 f2) : P2 w W h1 x1 f1 h2 x2 f2 := g
theorem P2.sz {w W : World} {h1 x1 h2 x2 : Sl} {f1 f2 : Int} (g : P2 w W h1 x1 f1 h2 x2 f2) : w.heap.size + 2 ≤ W.heap.size := At3.lt g.two
theorem p2_s {w W : World} {h1 x1 h2 x2 : Sl} {f1 f2 : Int} (g : P2 w W h1 x1 f1 h2 x2 f2) : ((W.cell? ⟨w.heap.size, 0, none⟩ = some (.slice h1.1 h1.2.1 h1.2.2) ∧ W.cell? ⟨w.heap.size, 1, none⟩ = some (.slice x1.1 x1.2.1 x1.2.2) ∧ W.cell? ⟨w.heap.size, 2, none⟩ = some (.int .i64 f1)) ∧
  (W.cell? ⟨w.heap.size + 1, 0, none⟩ = some (.slice h2.1 h2.2.1 h2.2.2) ∧ W.cell? ⟨w.heap.size + 1, 1, none⟩ = some (.slice x2.1 x2.2.1 x2.2.2) ∧ W.cell? ⟨w.heap.size + 1, 2, none⟩ = some (.int .i64 f2))) ∧ P2 w W h1 x1 f1 h2 x2 f2 := ⟨⟨at3_c g.one, at3_c g.two⟩, g⟩
theorem pv_boxed {W : World} {a : PA} {h x : Sl} {f : Int} (hp : PV noH W (rawP a) h x f) :
  PV noH ((W.alloc (plO h x f)).alloc (itO 2 0 0 (some ⟨W.heap.size, 0, none⟩, 1, 1))) (rawP (.boxes [] [a])) nilS (some ⟨W.heap.size + 1, 0, none⟩, 1, 1) 2 := by
 rw [rawP, rawBs, rawBs]
 refine pv_of (fun _ _ _ => .inl ⟨none, 0, rfl, rfl⟩) rfl fun i hi => ?_
 obtain rfl : i = 0 := by simpa using hi
 refine ⟨W.heap.size + 1, 0, 2, 0, 0, (some ⟨W.heap.size, 0, none⟩, 1, 1), rfl, fun e => e, ?_, ?_⟩
 ·exact iv_box (fun e => e) (hp.step (bel2 _ _ _)) (At3.belowP (at3_box W h x f) (bel1 _ _))
 ·have h9 := at4_box (W.alloc (plO h x f)) 2 0 0 (some ⟨W.heap.size, 0, none⟩, 1, 1)
  rw [show (W.alloc (plO h x f)).heap.size = W.heap.size + 1 by simp] at h9
  exact h9
theorem two_12 {W : World} {h1 h2 : Sl} {p q : V8} (g1 : AV noH W a12 h1 p) (g2 : AV noH W a10 h2 q) : Calls Tryz.prog 9 #[.int .i64 1, arrV h1 p, arrV h2 q] W (AvR noH W a1112) := by
 refine (ptwo_any 1 noH noH noH 1 a12 a10 40 40 h1 h2 p q W (noH_lt _) (noH_lt _) (noH_lt _) good12 good10 (sm_2 _ _ _) (sm_1 _ _) (by decide) g1 g2).mono ?_
 rintro e w' g
 rw [two12 0] at g
 rcases g with ⟨_, h, u, rfl, ha, hb⟩ | ⟨h, _⟩
 ·exact ⟨h, u, rfl, ha, hb⟩
 ·exact absurd rfl h
theorem two_b {W : World} {h1 h2 : Sl} {p q : V8} (g1 : AV noH W (.boxes [] [a12]) h1 p) (g2 : AV noH W a10 h2 q) : Calls Tryz.prog 9 #[.int .i64 1, arrV h1 p, arrV h2 q] W (AvR noH W (.boxes [] [a1112])) := by
 refine (ptwo_any 2 noH noH noH 1 (.boxes [] [a12]) a10 40 40 h1 h2 p q W (noH_lt _) (noH_lt _) (noH_lt _) (good_box good12') good10 (sm_b (sm_2 _ _ _) _) (sm_1 _ _) (by simp [depA, depAs]) g1 g2).mono ?_
 rintro e w' g
 rw [two_b12 0] at g
 rcases g with ⟨_, h, u, rfl, ha, hb⟩ | ⟨h, _⟩
 ·exact ⟨h, u, rfl, ha, hb⟩
 ·exact absurd rfl h
set_option maxRecDepth 100000 in
set_option maxHeartbeats 2000000 in
theorem awake24_any (w : World) : Calls Tryz.prog 8 #[] w fun e w' => e = .returned (.bool true) ∧ Below w.heap.size w w' := by
 go_enter Tryz.func8, Tryz.ntmps8
 have HN1 := Lib.hid (rnums_any _ _ noH (w.alloc (.cells #[.float .f64 4607182418800017408, .float .f64 4611686018427387904] 50)) (noH_lt _) (reads_two (heap_alloc_new w (.cells #[.float .f64 4607182418800017408, .float .f64 4611686018427387904] 50))) (by simp))
 have HB0 := Lib.hid (bel1 w (.cells #[.float .f64 4607182418800017408, .float .f64 4611686018427387904] 50))
 unfold PlR at HN1
 go_wp2_with fail
 refine HN1.out.mono ?_
 rintro e w1 ⟨h1, x1, rfl, hp1, hb⟩
 have HB1 := Lib.hid (bel_both (bel_both HB0.out hb) (bel1 w1 (plO h1 x1 0)))
 have HP1 := Lib.hid (hp1.step (bel1 w1 (plO h1 x1 0)))
 have HV1 := Lib.hid (at3_box w1 h1 x1 0)
 clear hb hp1 HN1 HB0
 go_wp2_with fail
 refine (lawOf_nums sh2 (all2 tf1 tf2) (by decide) h1 x1 0 _ HP1.out).mono ?_
 rintro e w2 ⟨h2, p2, rfl, ha2, hb⟩
 have HB2 := Lib.hid hb
 have HA2 := Lib.hid ha2
 clear hb ha2
 go_wp2_with fail
 refine (rnum_any 4621819117588971520 noH _ (noH_lt _)).mono ?_
 rintro e w3 ⟨h3, x3, rfl, hp3, hb⟩
 have HB3 := Lib.hid hb
 have HP3 := Lib.hid hp3
 clear hb hp3
 go_wp2_with fail
 refine (lawOf_nums sh0 (all1 tf10) (by decide) h3 x3 0 _ HP3.out).mono ?_
 rintro e w4 ⟨h4, p4, rfl, ha4, hb⟩
 have HB4 := Lib.hid (bel_both HB3.out hb)
 have HA4 := Lib.hid ha4
 clear hb ha4 HB3 HP3
 go_wp2_with fail
 refine (two_12 (AV.step HA2.out HB4.out) HA4.out).mono ?_
 rintro e w5 ⟨h5, u5, rfl, ha5, hb⟩
 have HB5 := Lib.hid (bel_both (bel_both HB2.out (bel_both HB4.out hb)) (bel1 w5 (arrO h5 u5)))
 have HA5 := Lib.hid (AV.step ha5 (bel1 w5 (arrO h5 u5)))
 have HV5 := Lib.hid (at9_new w5 h5 u5)
 obtain ⟨c0, c1, c2⟩ := at3_c (HV1.out.belowP HB5.out)
 have HP5 := Lib.hid (HP1.out.step HB5.out)
 clear hb ha5 HB2 HB4 HA2 HA4 HV1 HP1
 go_wp2_with fail
 refine (lawOf_nums sh2 (all2 tf1 tf2) (by decide) h1 x1 0 _ HP5.out).mono ?_
 rintro e w6 ⟨h6, p6, rfl, ha6, hb⟩
 have HB6 := Lib.hid hb
 have HA6 := Lib.hid ha6
 clear hb ha6 HP5 c0 c1 c2
 go_wp2_with fail
 refine (vbx_any HA6.out (noH_lt _)).mono ?_
 rintro e w7 ⟨h7, p7, rfl, ha7, hb⟩
 have HB7 := Lib.hid (bel_both HB6.out hb)
 have HA7 := Lib.hid ha7
 clear hb ha7 HA6 HB6
 go_wp2_with fail
 refine (rnum_any 4621819117588971520 noH _ (noH_lt _)).mono ?_
 rintro e w8 ⟨h8, x8, rfl, hp8, hb⟩
 have HB8 := Lib.hid hb
 have HP8 := Lib.hid hp8
 clear hb hp8
 go_wp2_with fail
 refine (lawOf_nums sh0 (all1 tf10) (by decide) h8 x8 0 _ HP8.out).mono ?_
 rintro e w9 ⟨h9, p9, rfl, ha9, hb⟩
 have HB9 := Lib.hid (bel_both HB8.out hb)
 have HA9 := Lib.hid ha9
 clear hb ha9 HB8 HP8
 go_wp2_with fail
 refine (two_b (AV.step HA7.out HB9.out) HA9.out).mono ?_
 rintro e w10 ⟨h10, u10, rfl, ha10, hb⟩
 obtain ⟨F, hF⟩ : ∃ F : Obj, F = .cells #[.float .f64 4622382067542392832, .float .f64 4622945017495814144] 50 := ⟨_, rfl⟩
 have HB10 := Lib.hid (bel_both (bel_both HB7.out (bel_both HB9.out hb)) (bel2 w10 (arrO h10 u10) F))
 have HA10 := Lib.hid (AV.step ha10 (bel2 w10 (arrO h10 u10) F))
 have HV10 := Lib.hid ((at9_new w10 h10 u10).below (bel1 _ F))
 have hf := heap_alloc_new (w10.alloc (arrO h10 u10)) F
 rw [show (w10.alloc (arrO h10 u10)).heap.size = w10.heap.size + 1 by simp] at hf
 have HFB := Lib.hid hf
 have HF := Lib.hid hF
 clear hb ha10 HB7 HB9 HA7 HA9 hf hF
 rw [HF.out] at HB10 HA10 HV10 HFB
 have HN11 := Lib.hid (rnums_any _ _ noH _ (noH_lt _) (reads_two HFB.out) (by simp))
 unfold PlR at HN11
 go_wp2_with fail
 refine HN11.out.mono ?_
 rintro e w11 ⟨h11, x11, rfl, hp11, hb⟩
 have HB11 := Lib.hid (bel_both hb (bel1 w11 (plO h11 x11 0)))
 have HB12 := Lib.hid (bel_both HB10.out HB11.out)
 have HP11 := Lib.hid (hp11.step (bel1 w11 (plO h11 x11 0)))
 have HV11 := Lib.hid (at3_box w11 h11 x11 0)
 have HA11 := Lib.hid (AV.step HA10.out HB11.out)
 have HV12 := Lib.hid (HV10.out.below HB11.out)
 have HA5' := Lib.hid (AV.step HA5.out HB12.out)
 have HV5' := Lib.hid (HV5.out.below HB12.out)
 have HBE := Lib.hid (bel_both HB1.out (bel_both HB5.out HB12.out))
 obtain ⟨c0, c1, c2, c3, c4, c5, c6, c7, c8⟩ := HV5'.out.c
 obtain ⟨d0, d1, d2⟩ := at3_c HV11.out
 clear hb hp11 HN11 HB10 HB11 HB12 HA10 HV10 HA5 HV5 HB1 HB5 HFB HF
 go_wp2_with fail
 refine (shows24_ok (noH_lt _) good1112 (sm_2 _ _ _) HA5'.out HP11.out).mono ?_
 rintro e w12 ⟨rfl, hb⟩
 have HB13 := Lib.hid hb
 have HPB := Lib.hid (pv_boxed (HP11.out.step hb))
 have HA13 := Lib.hid (AV.step HA11.out (bel_both hb (bel2 w12 (plO h11 x11 0) (itO 2 0 0 (some ⟨w12.heap.size, 0, none⟩, 1, 1)))))
 have HBF := Lib.hid (bel_both HBE.out (bel_both hb (bel2 w12 (plO h11 x11 0) (itO 2 0 0 (some ⟨w12.heap.size, 0, none⟩, 1, 1)))))
 have hv := HV12.out.below hb
 have hd := HV11.out.belowP hb
 clear hb c0 c1 c2 c3 c4 c5 c6 c7 c8 d0 d1 d2
 obtain ⟨c0, c1, c2, c3, c4, c5, c6, c7, c8⟩ := hv.c
 obtain ⟨d0, d1, d2⟩ := at3_c hd
 clear hv hd
 have hst := fun md => st_item (w12.alloc (plO h11 x11 0)) 2 0 0 0 (.slice none 0 0) 53 md
 go_wp2_with fail
 refine (shows24_ok (noH_lt _) (good_box good1112') (sm_b (sm_2 _ _ _) _) HA13.out HPB.out).mono ?_
 rintro e w13 ⟨rfl, hb⟩
 have HBG := Lib.hid (bel_both HBF.out hb)
 clear hb
 go_wp2
 go_ret
 exact ⟨rfl, HBG.out⟩
structure LwS (w wr : World) (h1 x1 : Sl) (f1 : Int) (h2 x2 : Sl) (f2 : Int) (W : World) : Prop where
 p2 : P2 w W h1 x1 f1 h2 x2 f2
 bel : Below wr.heap.size wr W
 lo : w.heap.size + 2 ≤ wr.heap.size
theorem LwS.step {w wr W W' : World} {h1 x1 h2 x2 : Sl} {f1 f2 : Int} (g : LwS w wr h1 x1 f1 h2 x2 f2 W) (hb : Below W.heap.size W W') : LwS w wr h1 x1 f1 h2 x2 f2 W' := ⟨g.p2.step hb, bel_both g.bel hb, g.lo⟩
theorem LwS.put {w wr W : World} {h1 x1 h2 x2 : Sl} {f1 f2 : Int} (g : LwS w wr h1 x1 f1 h2 x2 f2 W) {b j : Nat} (hb : wr.heap.size ≤ b) (u : Value) : LwS w wr h1 x1 f1 h2 x2 f2 (W.setCell ⟨b, j, none⟩ u) := ⟨g.p2.more ((Below.refl _ W).setCell (by show _ ≤ b; have := g.lo; omega) u), g.bel.setCell (by show _ ≤ b; exact hb) u, g.lo⟩
theorem LwS.dr {w wr W : World} {h1 x1 h2 x2 : Sl} {f1 f2 : Int} (g : LwS w wr h1 x1 f1 h2 x2 f2 W) : LwS w wr h1 x1 f1 h2 x2 f2 W.drew := g.step (Below.refl _ W).drew
theorem LwS.al {w wr W : World} {h1 x1 h2 x2 : Sl} {f1 f2 : Int} (g : LwS w wr h1 x1 f1 h2 x2 f2 W) (o : Obj) : LwS w wr h1 x1 f1 h2 x2 f2 (W.alloc o) := g.step (bel1 W o)
theorem LwS.self {w wr W : World} {h1 x1 h2 x2 : Sl} {f1 f2 : Int} (g : LwS w wr h1 x1 f1 h2 x2 f2 W) : LwS w wr h1 x1 f1 h2 x2 f2 W := g
theorem lws_s {w wr W : World} {h1 x1 h2 x2 : Sl} {f1 f2 : Int} (g : LwS w wr h1 x1 f1 h2 x2 f2 W) : ((W.cell? ⟨w.heap.size, 0, none⟩ = some (.slice h1.1 h1.2.1 h1.2.2) ∧ W.cell? ⟨w.heap.size, 1, none⟩ = some (.slice x1.1 x1.2.1 x1.2.2) ∧ W.cell? ⟨w.heap.size, 2, none⟩ = some (.int .i64 f1)) ∧
  (W.cell? ⟨w.heap.size + 1, 0, none⟩ = some (.slice h2.1 h2.2.1 h2.2.2) ∧ W.cell? ⟨w.heap.size + 1, 1, none⟩ = some (.slice x2.1 x2.2.1 x2.2.2) ∧ W.cell? ⟨w.heap.size + 1, 2, none⟩ = some (.int .i64 f2))) ∧ LwS w wr h1 x1 f1 h2 x2 f2 W := ⟨⟨at3_c g.p2.one, at3_c g.p2.two⟩, g⟩
def LwMid (w wr : World) (h1 x1 : Sl) (f1 : Int) (h2 x2 : Sl) (f2 : Int) (r : Int × PA) (v e : Value) (wx : World) : Prop :=
 ∃ (V : Nat) (h : Sl) (u : V8), v = .pointer (some ⟨V, 0, none⟩) ∧ e = .int .i64 r.1 ∧ wr.heap.size ≤ V ∧ wx.heap[V]? = some (arrO h u) ∧ AvIf (fun b => b = V) r h u wx ∧ LwS w wr h1 x1 f1 h2 x2 f2 wx
abbrev Fresh (wr W : World) : Nat → Prop := fun b => wr.heap.size ≤ b ∧ b < W.heap.size
theorem lwMid_new {w wr W5 w5 : World} {h1 x1 h2 x2 : Sl} {f1 f2 : Int} {r : Int × PA} {h : Sl} {u : V8} (hav : AvIf (Fresh wr W5) r h u w5) (hst : LwS w wr h1 x1 f1 h2 x2 f2 w5) :
  LwMid w wr h1 x1 f1 h2 x2 f2 r (.pointer (some ⟨w5.heap.size, 0, none⟩)) (.int .i64 r.1) (w5.alloc (arrO h u)) :=
 ⟨w5.heap.size, h, u, rfl, rfl, hst.bel.size, heap_alloc_new w5 _, ⟨fun h0 => (AV.sub (fun b hb e => by omega) (hav.1 h0)).step (bel1 w5 _), hav.2⟩, hst.al _⟩
theorem lwMid_old {w wr W5 w5 : World} {h1 x1 h2 x2 : Sl} {f1 f2 : Int} {r : Int × PA} {h : Sl} {u : V8} {Z : Nat} (hav : AvIf (Fresh wr W5) r h u w5) (hst : LwS w wr h1 x1 f1 h2 x2 f2 w5) (hz : ZB Z w5) (h5 : ZB Z W5) (hZ : wr.heap.size ≤ Z) :
  LwMid w wr h1 x1 f1 h2 x2 f2 r (.pointer (some ⟨Z, 0, none⟩)) (.int .i64 r.1) (set9 w5 Z (sv h) (.int .i64 u.k) (sv u.b) (.int .i64 u.bn) (sv u.s) (sv u.i) (sv u.f) (sv u.c) (sv u.x)) := by
 have hzw := lt_blk h5
 have hwr := hst.lo
 refine ⟨Z, h, u, rfl, rfl, hZ, set9_block hz _ _ _ _ _ _ _ _ _, ⟨fun h0 => AV.lat (Lat.set9 (H := fun b => b = Z) (G := Z) rfl _ _ _ _ _ _ _ _ _) (AV.sub (fun b hb e => ?_) (hav.1 h0)), hav.2⟩, ⟨hst.p2.more (below_set9 (Below.refl _ w5) (by omega) _ _ _ _ _ _ _ _ _), below_set9 hst.bel hZ _ _ _ _ _ _ _ _ _, hwr⟩⟩
 exact ⟨by omega, by omega⟩
def TsMid (t1 t2 : RP) (w : World) (h1 x1 : Sl) (f1 : Int) (h2 x2 : Sl) (f2 : Int) (v : Value) (wx : World) : Prop :=
 ∃ b : Bool, v = .bool b ∧ (b = false → (OkP 40 t1 ∧ cntP t1 ≤ 1500) ∧ (OkP 40 t2 ∧ cntP t2 ≤ 1500)) ∧ P2 w wx h1 x1 f1 h2 x2 f2
theorem tsMid_no {t1 t2 : RP} {w wx : World} {h1 x1 : Sl} {f1 : Int} {h2 x2 : Sl} {f2 : Int} (h : P2 w wx h1 x1 f1 h2 x2 f2) : TsMid t1 t2 w h1 x1 f1 h2 x2 f2 (.bool true) wx := ⟨true, rfl, (fun e => by cases e), h⟩
theorem tsMid_of {t1 t2 : RP} {w wx : World} {h1 x1 : Sl} {f1 : Int} {h2 x2 : Sl} {f2 : Int} {b : Bool} (g1 : OkP 40 t1 ∧ cntP t1 ≤ 1500) (g2 : OkP 40 t2 ∧ cntP t2 ≤ 1500) (h : P2 w wx h1 x1 f1 h2 x2 f2) : TsMid t1 t2 w h1 x1 f1 h2 x2 f2 (.bool b) wx := ⟨b, rfl, fun _ => ⟨g1, g2⟩, h⟩
noncomputable def lawE (f : Int) (t1 t2 : RP) : Int × PA := twoE (depA (clP t1) + depA (clP t2) + 1) f (clP t1) (clP t2)
theorem lawE_good {f : Int} {t1 t2 : RP} (o1 : OkP 40 t1) (o2 : OkP 40 t2) (h : (lawE f t1 t2).1 = 0) : GoodA 40 (lawE f t1 t2).2 := by
 have := twoE_good _ f _ _ 40 40 (okP_good 40 t1 o1) (okP_good 40 t2 o2) (Nat.lt_succ_self _) h
 exact this
theorem sm_cl {t : RP} (h : cntP t ≤ 1500) : SmA 1000000 (clP t) := SmA.up (by decide) _ (smP t h)
theorem lawE_small {f : Int} {t1 t2 : RP} (o1 : OkP 40 t1) (o2 : OkP 40 t2) (c1 : cntP t1 ≤ 1500) (c2 : cntP t2 ≤ 1500) : SmA 1000000 (lawE f t1 t2).2 :=
 twoE_small (by decide) _ f _ _ 40 40 (okP_good 40 t1 o1) (okP_good 40 t2 o2) (sm_cl c1) (sm_cl c2)
theorem lawTwo_any (f : Int) {t1 t2 : RP} (o1 : OkP 40 t1) (o2 : OkP 40 t2) (c1 : cntP t1 ≤ 1500) (c2 : cntP t2 ≤ 1500) (H : Nat → Prop) (W : World) (hH : ∀ b, H b → b < W.heap.size) (u1 u2 : Sl) (v1 v2 : V8) (g1 : AvAt noH (clP t1) u1 v1 W) (g2 : AvAt noH (clP t2) u2 v2 W) :
  Calls Tryz.prog 9 #[.int .i64 f, arrV u1 v1, arrV u2 v2] W (TwU H W (lawE f t1 t2)) :=
 (ptwo_any _ H noH noH f _ _ 40 40 u1 u2 v1 v2 W hH (noH_lt _) (noH_lt _) (okP_good 40 t1 o1) (okP_good 40 t2 o2) (sm_cl c1) (sm_cl c2) (Nat.lt_succ_self _) g1 g2).mono fun _ _ t => TwR.u t
theorem shapes_eq {s1 s2 : List Nat} (hl : s1.length = s2.length) (h : ∀ i (h1 : i < s1.length) (h2 : i < s2.length), s1[i] = s2[i]) : s1 = s2 := List.ext_getElem hl h
set_option maxRecDepth 100000 in
set_option maxHeartbeats 4000000 in
theorem rframe_any {a b : PA} {h1 x1 h2 x2 : Sl} (f1 f2 : Int) (w : World) (r1 : Reads1 w (sv h1) (a.shape.map fun n : Nat => .int .i64 (n : Int))) (r2 : Reads1 w (sv h2) (b.shape.map fun n : Nat => .int .i64 (n : Int))) (m1 : x1.2.1 = a.len) (m2 : x2.2.1 = b.len) (sa : a.shape.length ≤ 1048576) (sb : b.shape.length ≤ 1048576) :
  Calls Tryz.prog 27 #[plV h1 x1 f1, plV h2 x2 f2] w (FrR a b h1 h2 w) := by
 obtain ⟨B1, k1, d1, e1, hn1, hc1⟩ := map_open r1
 obtain ⟨B2, k2, d2, e2, hn2, hc2⟩ := map_open r2
 obtain ⟨A1, n1, c1⟩ := h1
 obtain ⟨Q2, n2, c2⟩ := h2
 injection e1 with e3 e4 e5
 injection e2 with e6 e7 e8
 dsimp only at e3 e4 e5 e6 e7 e8
 subst e3 e4 e5 e6 e7 e8
 obtain ⟨X1, m, y1⟩ := x1
 obtain ⟨X2, n, y2⟩ := x2
 dsimp only at m1 m2
 have HC1 := Lib.hid hc1
 have HC2 := Lib.hid hc2
 have HN1 := Lib.hid hn1
 have HN2 := Lib.hid hn2
 have hb1 : n1 ≤ 1048576 := by omega
 have hb2 : n2 ≤ 1048576 := by omega
 obtain ⟨x, hx⟩ : ∃ x, x = ((m : Int) == 1) := ⟨_, rfl⟩
 obtain ⟨y, hy⟩ : ∃ y, y = ((n : Int) == 1) := ⟨_, rfl⟩
 have HX : Hid (x = true ↔ a.len = 1) := by unfold Hid; rw [hx]; simp; omega
 have HY : Hid (y = true ↔ b.len = 1) := by unfold Hid; rw [hy]; simp; omega
 have HS0 := Lib.hid (P2.new w (A1, n1, c1) (X1, m, y1) f1 (Q2, n2, c2) (X2, n, y2) f2)
 clear r1 r2 m1 m2 sa sb hc1 hc2 hn1 hn2
 go_enter Tryz.func27, Tryz.ntmps27
 go_wp2_with fail
 obtain ⟨w0, hw0⟩ : ∃ w0, w0 = (w.alloc (plO (A1, n1, c1) (X1, m, y1) f1)).alloc (plO (Q2, n2, c2) (X2, n, y2) f2) := ⟨_, rfl⟩
 rw [← hw0] at HS0
 have HW0 := Lib.hid hw0
 clear hw0
 rw [← HW0.out]
 go_cut [6, 7] from 9 (fun u v wx => u = .bool x ∧ v = .bool y ∧ Below w0.heap.size w0 wx)
 case first =>
  obtain ⟨p0, p1, p2⟩ := at3_c HS0.out.one
  obtain ⟨q0, q1, q2⟩ := at3_c HS0.out.two
  go_quiet (fail)
  go_wp2
  go_meet
  exact ⟨by rw [hx], by rw [hy], drewN1' (Below.refl _ _) _⟩
 obtain ⟨rfl, rfl, hst⟩ := hcut
 have HST := Lib.hid (HS0.out.step hst)
 clear hst HS0 hx hy
 obtain ⟨p0, p1, p2⟩ := at3_c HST.out.one
 obtain ⟨q0, q1, q2⟩ := at3_c HST.out.two
 dsimp only at p0 p1 p2 q0 q1 q2
 have hyb : a.shape = a.shape := rfl
 clear hyb
 cases x with
 | true =>
  have hla := HX.out.1 rfl
  cases y with
  | true =>
   have hlb := HY.out.1 rfl
   by_cases hge : n2 ≤ n1
   ·have e : frameE a b = (0, a.shape) := by unfold frameE; rw [if_pos ⟨hla, hlb, by rw [← HN1.out, ← HN2.out]; exact hge⟩]
    have hge2 : ¬ (n1 : Int) < (n2 : Int) := by omega
    have HE := Lib.hid e
    clear e hla hlb hge
    go_wp2
    go_ret2
    exact frR_a (h1 := (A1, n1, c1)) HE.out HST.out.bel
   ·have e : frameE a b = (0, b.shape) := by unfold frameE; rw [if_neg (by rw [← HN1.out, ← HN2.out]; exact fun h => hge h.2.2), if_pos hla]
    have hge2 : (n1 : Int) < (n2 : Int) := by omega
    have HE := Lib.hid e
    clear e hla hlb hge
    go_wp2
    go_ret2
    exact frR_b (h2 := (Q2, n2, c2)) HE.out HST.out.bel
  | false =>
   have hlb : ¬ b.len = 1 := fun h => by have := HY.out.2 h; cases this
   have e : frameE a b = (0, b.shape) := by unfold frameE; rw [if_neg (fun h => hlb h.2.1), if_pos hla]
   have HE := Lib.hid e
   clear e hla hlb
   go_wp2
   go_ret2
   exact frR_b (h2 := (Q2, n2, c2)) HE.out HST.out.bel
 | false =>
  have hla : ¬ a.len = 1 := fun h => by have := HX.out.2 h; cases this
  cases y with
  | true =>
   have hlb := HY.out.1 rfl
   have e : frameE a b = (0, a.shape) := by unfold frameE; rw [if_neg (fun h => hla h.1), if_neg hla, if_pos hlb]
   have HE := Lib.hid e
   clear e hla hlb
   go_wp2
   go_ret2
   exact frR_a (h1 := (A1, n1, c1)) HE.out HST.out.bel
  | false =>
   have hlb : ¬ b.len = 1 := fun h => by have := HY.out.2 h; cases this
   have e0 : frameE a b = if a.shape.length ≠ b.shape.length then (22, []) else if a.shape ≠ b.shape then (23, []) else (0, a.shape) := by unfold frameE; rw [if_neg (fun h => hla h.1), if_neg hla, if_neg hlb]
   by_cases hn : n1 = n2
   ·subst hn
    have hne : ((n1 : Int) != (n1 : Int)) = false := by simp
    have HLL : Hid (a.shape.length = b.shape.length) := by unfold Hid; rw [← HN1.out, ← HN2.out]
    have HE0 : Hid (frameE a b = if a.shape ≠ b.shape then (23, []) else (0, a.shape)) := by unfold Hid; rw [e0, if_neg (by simpa using HLL.out)]
    clear e0 hla hlb p0 p1 p2 q0 q1 q2
    obtain ⟨p0, p1, p2⟩ := at3_c HST.out.one
    obtain ⟨q0, q1, q2⟩ := at3_c HST.out.two
    dsimp only at p0 p1 p2 q0 q1 q2
    go_wp2
    clear p0 p1 p2 q0 q1 q2
    go_loopw [8] (fun j wr => ∃ k : Nat, k ≤ n1 ∧ j = .int .i64 (k : Int) ∧ P2 w wr (A1, n1, c1) (X1, m, y1) f1 (Q2, n1, c2) (X2, n, y2) f2 ∧ ∀ i (g1 : i < a.shape.length) (g2 : i < b.shape.length), i < k → a.shape[i] = b.shape[i]) (fun j _ => n1 - (intOf j).toNat)
    case atStart => exact ⟨0, Nat.zero_le _, rfl, HST.out, fun i _ _ h => absurd h (Nat.not_lt_zero _)⟩
    case round =>
     obtain ⟨k, hk, rfl, hp, hall⟩ := hrel
     have HP := Lib.hid hp
     have HALL := Lib.hid hall
     clear hp hall
     obtain ⟨p0, p1, p2⟩ := at3_c HP.out.one
     obtain ⟨q0, q1, q2⟩ := at3_c HP.out.two
     dsimp only at p0 p1 p2 q0 q1 q2
     by_cases hlt : k < n1
     ·have g1 : k < a.shape.length := by have := HN1.out; omega
      have g2 : k < b.shape.length := by have := HN2.out; omega
      obtain ⟨u, o, rfl, hce⟩ := HC1.out k g1
      obtain ⟨u', o', rfl, hce'⟩ := HC2.out k g2
      have t1 := cell_up HP.out.bel hce
      have t2 := cell_up HP.out.bel hce'
      have hlt2 : (k : Int) < (n1 : Int) := by omega
      by_cases hxy : a.shape[k] = b.shape[k]
      ·have HST2 : Hid (∀ i (g1 : i < a.shape.length) (g2 : i < b.shape.length), i < k + 1 → a.shape[i] = b.shape[i]) := fun i i1 i2 hi => by
        by_cases e : i = k
        ·subst e; exact hxy
        ·exact HALL.out i i1 i2 (by omega)
       have hfe : ((a.shape[k] : Int) != (b.shape[k] : Int)) = false := by rw [hxy]; simp
       generalize a.shape[k] = ea at t1 hfe
       generalize b.shape[k] = eb at t2 hfe
       clear hce hce' hxy
       go_wp2
       go_quiet (fail)
       go_wp2
       go_roundw
       case rel => exact ⟨k + 1, by omega, by go_num, HP.out.step (drewN1' (Below.refl _ _) _), HST2.out⟩
       case measure => simp [intOf]; omega
      ·have e : frameE a b = (23, []) := by rw [HE0.out, if_pos]; intro h; exact hxy (by simp [h])
       have HE := Lib.hid e
       have hfe : ((a.shape[k] : Int) != (b.shape[k] : Int)) = true := by simpa using fun h => hxy (by omega)
       generalize a.shape[k] = ea at t1 hfe
       generalize b.shape[k] = eb at t2 hfe
       clear hce hce' hxy e
       go_wp2
       go_quiet (fail)
       go_wp2
       go_ret2
       exact frR_e HE.out (by decide) (HP.out.step (drewN1' (Below.refl _ _) _)).bel
     ·have e : frameE a b = (0, a.shape) := by
       rw [HE0.out, if_neg]
       intro h
       exact h (shapes_eq HLL.out fun i i1 i2 => HALL.out i i1 i2 (by have := HN1.out; omega))
      have hge : ¬ (k : Int) < (n1 : Int) := by omega
      have HE := Lib.hid e
      clear e
      go_wp2
      go_ret2
      exact frR_a (h1 := (A1, n1, c1)) HE.out HP.out.bel
   ·have e : frameE a b = (22, []) := by rw [e0, if_pos (by rw [← HN1.out, ← HN2.out]; simpa using hn)]
    have hne : ((n1 : Int) != (n2 : Int)) = true := by simp; omega
    have HE := Lib.hid e
    clear e e0 hla hlb hn
    go_wp2
    go_ret2
    exact frR_e HE.out (by decide) HST.out.bel
set_option maxRecDepth 100000 in
set_option maxHeartbeats 400000 in
theorem rlen_any (m n N : Nat) (hL : lenP m n = some N) (w : World) : Calls Tryz.prog 28 #[.int .i64 (m : Int), .int .i64 (n : Int)] w fun e w' => e = .returned (.int .i64 (N : Nat)) ∧ w = w' := by
 unfold lenP at hL
 by_cases h1 : m = n
 ·subst h1
  rw [if_pos rfl] at hL
  injection hL with hL
  subst hL
  have e1 : ((m : Int) == (m : Int)) = true := by simp
  go_enter Tryz.func28, Tryz.ntmps28
  go_wp2
  go_ret
  exact ⟨rfl, rfl⟩
 ·rw [if_neg h1] at hL
  have e1 : ((m : Int) == (n : Int)) = false := by simp; omega
  by_cases h2 : m = 1
  ·subst h2
   rw [if_pos rfl] at hL
   injection hL with hL
   subst hL
   have e2 : ((n : Int) == 1) = false := by simp; omega
   have e3 : (((1 : Nat) : Int) == 1) = true := rfl
   go_enter Tryz.func28, Tryz.ntmps28
   go_wp2
   go_ret
   exact ⟨rfl, rfl⟩
  ·rw [if_neg h2] at hL
   by_cases h3 : n = 1
   ·rw [if_pos h3] at hL
    injection hL with hL
    subst hL
    have e2 : ((n : Int) == 1) = true := by subst h3; rfl
    go_enter Tryz.func28, Tryz.ntmps28
    go_wp2
    go_ret
    exact ⟨rfl, rfl⟩
   ·rw [if_neg h3] at hL; cases hL
theorem item_size : (Tryz.prog.info? 53).map (·.size) = some 4 := by kernel_rfl
theorem ret_item {fn : Func} {p : Tmp} (h : fn.results = #[.cell p 53]) (tmps : Array Value) (w : World) (G : Nat) {e : TypeId} {a0 a1 a2 a3 : Value}
  (hp : tmps.getD p undef = .pointer (some ⟨G, 0, none⟩)) (hg : w.heap[G]? = some (.cells #[a0, a1, a2, a3] e)) :
  (results fn tmps).run Tryz.prog w = .ok (.agg #[a0, a1, a2, a3]) w :=
 results_cell_row h tmps w G e _ (0, 0) _ hp hg Tryz.underlying53 rfl item_size
abbrev set4 (w : World) (G : Nat) (a0 a1 a2 a3 : Value) : World := (((w.setCell ⟨G, 0, none⟩ a0).setCell ⟨G, 1, none⟩ a1).setCell ⟨G, 2, none⟩ a2).setCell ⟨G, 3, none⟩ a3
theorem set4_block {w : World} {G : Nat} {e : TypeId} {z0 z1 z2 z3 : Value} (h : w.heap[G]? = some (.cells #[z0, z1, z2, z3] e)) (a0 a1 a2 a3 : Value) : (set4 w G a0 a1 a2 a3).heap[G]? = some (.cells #[a0, a1, a2, a3] e) := by
 have h0 := heap_setCell_same _ G 0 _ e a0 h
 rw [show (#[z0, z1, z2, z3] : Array Value).setIfInBounds 0 a0 = #[a0, z1, z2, z3] by simp] at h0
 have h1 := heap_setCell_same _ G 1 _ e a1 h0
 rw [show (#[a0, z1, z2, z3] : Array Value).setIfInBounds 1 a1 = #[a0, a1, z2, z3] by simp] at h1
 have h2 := heap_setCell_same _ G 2 _ e a2 h1
 rw [show (#[a0, a1, z2, z3] : Array Value).setIfInBounds 2 a2 = #[a0, a1, a2, z3] by simp] at h2
 have h3 := heap_setCell_same _ G 3 _ e a3 h2
 rw [show (#[a0, a1, a2, z3] : Array Value).setIfInBounds 3 a3 = #[a0, a1, a2, a3] by simp] at h3
 exact h3
theorem below_set4 {B : Nat} {w0 w : World} (h : Below B w0 w) {G : Nat} (hG : B ≤ G) (a0 a1 a2 a3 : Value) : Below B w0 (set4 w G a0 a1 a2 a3) := (((h.setCell hG _).setCell hG _).setCell hG _).setCell hG _
def ItR (H : Nat → Prop) (w W : World) (t : RI) (e : Ending) (w' : World) : Prop := ∃ k n c y, e = .returned (itV k n c y) ∧ IV H w t k n c y ∧ Below W.heap.size W w'
theorem itR_of {H : Nat → Prop} {w W w' : World} {t : RI} {k : Int} {n : Nat} {c : Int} {y : Sl} (h : IV H w t k n c y) (hb : Below W.heap.size W w') : ItR H w W t (.returned (itV k n c y)) w' := ⟨k, n, c, y, rfl, h, hb⟩
set_option maxRecDepth 100000 in
set_option maxHeartbeats 1000000 in
theorem rat24_any {H : Nat → Prop} {w : World} {s : List Int} {items : List RI} {fill : Int} {h x : Sl} {f : Int} (g : PV H w (.mk s items fill) h x f) (i : Nat) (hi : ixP items.length i < items.length) (hl : items.length ≤ 1048576) (W : World) (hb : Below w.heap.size w W) :
  Calls Tryz.prog 30 #[plV h x f, .int .i64 (i : Int)] W (ItR H w W items[ixP items.length i]) := by
 obtain ⟨_, rfl, hn, hit⟩ := g.open_
 obtain ⟨b, o, k, n, c, y, hx, _, hiv, hat⟩ := hit _ hi
 obtain ⟨X, m, q⟩ := x
 dsimp only at hx hn
 subst hx
 subst hn
 have HIV := Lib.hid hiv
 have HAT := Lib.hid (fun w1 (hb1 : Below W.heap.size W w1) => hat w1 (Lat.below (bel_both hb hb1)))
 generalize items[ixP items.length i] = t at HIV ⊢
 have hcase : ((items.length : Int) == 1) = true ∧ ixP items.length i = 0 ∨ ((items.length : Int) == 1) = false ∧ ixP items.length i = i := by
  unfold ixP
  by_cases h1 : items.length = 1
  ·exact .inl ⟨by rw [h1]; rfl, if_pos h1⟩
  ·exact .inr ⟨by simp; omega, if_neg h1⟩
 have hB0 := bel2 W (plO h (some ⟨b, o, none⟩, items.length, q) f) (.cells #[.int .i64 0, .float .f64 0, .int .i32 0, .slice none 0 0] 53)
 have hP0 := At3.belowP (at3_box W h (some ⟨b, o, none⟩, items.length, q) f) (bel1 _ (.cells #[.int .i64 0, .float .f64 0, .int .i32 0, .slice none 0 0] 53))
 have hR0 := heap_alloc_new (W.alloc (plO h (some ⟨b, o, none⟩, items.length, q) f)) (.cells #[.int .i64 0, .float .f64 0, .int .i32 0, .slice none 0 0] 53)
 rw [show (W.alloc (plO h (some ⟨b, o, none⟩, items.length, q) f)).heap.size = W.heap.size + 1 by simp] at hR0
 clear g hit hiv hat hb
 rcases hcase with ⟨hq1, hix⟩ | ⟨hq1, hix⟩
 all_goals
  rw [hix] at hi HAT
  generalize items.length = m at *
  obtain ⟨p0, p1, p2⟩ := at3_c hP0
  obtain ⟨⟨z0, z1, z2, z3⟩, zz⟩ := block4 hR0
  obtain ⟨d0, d1, d2, d3⟩ := HAT.out _ hB0
  dsimp only [plO, sv] at d0 d1 d2 d3 p0 p1 p2 z0 z1 z2 z3
  (try simp only [Nat.zero_mul, Nat.add_zero] at d0 d1 d2 d3)
  have hi0 : (0 : Int) < (m : Int) := by omega
  have HB0 := Lib.hid hB0
  have HR0 := Lib.hid hR0
  clear hB0 hP0 hR0
  dsimp only [plV, sv]
  go_enter Tryz.func30, Tryz.ntmps30
  have hst : ∀ md, (store ⟨W.heap.size + 1, 1, none⟩ (.float .f64 n) md).run Tryz.prog ((W.alloc (.cells #[.slice h.1 h.2.1 h.2.2, .slice (some ⟨b, o, none⟩) m q, .int .i64 f] 25)).alloc (.cells #[.int .i64 k, .float .f64 0, .int .i32 0, .slice none 0 0] 53)) = .ok () ((W.alloc (.cells #[.slice h.1 h.2.1 h.2.2, .slice (some ⟨b, o, none⟩) m q, .int .i64 f] 25)).alloc (.cells #[.int .i64 k, .float .f64 n, .int .i32 0, .slice none 0 0] 53)) := fun md => by
   have h9 := st_item (W.alloc (.cells #[.slice h.1 h.2.1 h.2.2, .slice (some ⟨b, o, none⟩) m q, .int .i64 f] 25)) k 0 n 0 (.slice none 0 0) 53 md
   rw [show (W.alloc (.cells #[.slice h.1 h.2.1 h.2.2, .slice (some ⟨b, o, none⟩) m q, .int .i64 f] 25)).heap.size = W.heap.size + 1 by simp] at h9
   exact h9
  have HB9 := Lib.hid (bel2 W (.cells #[.slice h.1 h.2.1 h.2.2, .slice (some ⟨b, o, none⟩) m q, .int .i64 f] 25) (.cells #[.int .i64 k, .float .f64 n, .int .i32 c, .slice y.1 y.2.1 y.2.2] 53))
  have HR9 := Lib.hid (heap_alloc_new (W.alloc (.cells #[.slice h.1 h.2.1 h.2.2, .slice (some ⟨b, o, none⟩) m q, .int .i64 f] 25)) (.cells #[.int .i64 k, .float .f64 n, .int .i32 c, .slice y.1 y.2.1 y.2.2] 53))
  have HSZ : Hid ((W.alloc (.cells #[.slice h.1 h.2.1 h.2.2, .slice (some ⟨b, o, none⟩) m q, .int .i64 f] 25)).heap.size = W.heap.size + 1) := by unfold Hid; simp
  clear HB0 HR0
  go_wp2
  refine bodyPost_ret (v := itV k n c y) ?_ rfl (itR_of HIV.out HB9.out)
  exact ret_item (fn := Tryz.f30) (p := 4) rfl _ _ (W.heap.size + 1) (by rfl) (by have h9 := HR9.out; rw [HSZ.out] at h9; exact h9)
def PvS (H : Nat → Prop) (w W : World) (t : RP) (e : Ending) (w' : World) : Prop := ∃ h x f, e = .returned (plV h x f) ∧ (PV H w t h x f ∨ (h = nilS ∧ (∃ k n c, t = .mk [] [.mk k n c []] k ∧ k ≠ 2) ∧ PV H w' t h x f)) ∧ Below W.heap.size W w'
theorem pvS_old {H : Nat → Prop} {w W w' : World} {t : RP} {h x : Sl} {f : Int} (hp : PV H w t h x f) (hb : Below W.heap.size W w') : PvS H w W t (.returned (plV h x f)) w' := ⟨h, x, f, rfl, .inl hp, hb⟩
theorem pvS_new {H : Nat → Prop} {w W w' : World} {k : Int} {n : Nat} {c : Int} {x : Sl} {f : Int} (hk : k ≠ 2) (hp : PV H w' (.mk [] [.mk k n c []] k) nilS x f) (hb : Below W.heap.size W w') : PvS H w W (.mk [] [.mk k n c []] k) (.returned (plV nilS x f)) w' := ⟨nilS, x, f, rfl, .inr ⟨rfl, ⟨k, n, c, rfl, hk⟩, hp⟩, hb⟩
structure P1 (w W : World) (h x : Sl) (f : Int) : Prop where
 one : At3 W w.heap.size 0 h x f
 res : W.heap[w.heap.size + 1]? = some (plO nilS nilS 0)
 bel : Below w.heap.size w W
theorem P1.step {w W W' : World} {h x : Sl} {f : Int} (g : P1 w W h x f) (hb : Below W.heap.size W W') : P1 w W' h x f := ⟨At3.belowP g.one hb, by rw [hb.block _ (lt_blk g.res)]; exact g.res, bel_both g.bel hb⟩
theorem P1.sz {w W : World} {h x : Sl} {f : Int} (g : P1 w W h x f) : w.heap.size + 2 ≤ W.heap.size := lt_blk g.res
theorem P1.new (w : World) (h x : Sl) (f : Int) : P1 w ((w.alloc (plO h x f)).alloc (plO nilS nilS 0)) h x f := by
 have h1 := heap_alloc_new (w.alloc (plO h x f)) (plO nilS nilS 0)
 rw [show (w.alloc (plO h x f)).heap.size = w.heap.size + 1 by simp] at h1
 exact ⟨At3.belowP (at3_box w h x f) (bel1 _ _), h1, bel2 w _ _⟩
set_option maxRecDepth 100000 in
set_option maxHeartbeats 2000000 in
theorem rpart_flat {H : Nat → Prop} {w : World} {s : List Int} {items : List RI} {fill : Int} {h x : Sl} {f : Int} (g : PV H w (.mk s items fill) h x f) (i : Nat) (hi : ixP items.length i < items.length) (hl : items.length ≤ 1048576) (kd : Int) (nu : Nat) (ch : Int) (hk : kd ≠ 2) (ht : items[ixP items.length i] = .mk kd nu ch []) (W : World) (hb : Below w.heap.size w W) (hH : ∀ b, H b → b < w.heap.size) :
  Calls Tryz.prog 31 #[plV h x f, .int .i64 (i : Int)] W (PvS H w W (.mk [] [.mk kd nu ch []] kd)) := by
 have HAT := Lib.hid (fun W' (hb' : Below W.heap.size W W') => ht ▸ rat24_any g i hi hl W' (bel_both hb hb'))
 have HS0 := Lib.hid (P1.new W h x f)
 have HSZ := Lib.hid hb.size
 have HH := Lib.hid hH
 have k2 : (kd == 2) = false := by simpa using hk
 have HKD := Lib.hid hk
 unfold ItR at HAT
 clear g hi hl ht hb hk hH
 go_enter Tryz.func31, Tryz.ntmps31
 obtain ⟨p0, p1, p2⟩ := at3_c HS0.out.one
 go_wp2_with fail
 refine (HAT.out _ HS0.out.bel).mono ?_
 rintro e w1 ⟨k, n, c, y, rfl, hiv, hb1⟩
 have HS1 := Lib.hid (HS0.out.step hb1)
 rw [IV] at hiv
 obtain ⟨rfl, rfl, rfl, hy, _⟩ := hiv
 have HY := Lib.hid hy
 have hst := fun md => st_item w1 k 0 n 0 (.slice none 0 0) 53 md
 have HB2 := Lib.hid (bel1 w1 (itO k n c y))
 have HN2 := Lib.hid (heap_alloc_new w1 (itO k n c y))
 obtain ⟨⟨d0, d1, d2, d3⟩, dz⟩ := block4 HN2.out
 have HS2 := Lib.hid (HS1.out.step HB2.out)
 have HB3 := Lib.hid (bel1 (w1.alloc (itO k n c y)) (itO k n c y))
 have HS3 := Lib.hid (HS2.out.step HB3.out)
 obtain ⟨⟨z0, z1, z2⟩, zz⟩ := block3 HS3.out.res
 clear hb1 hy p0 p1 p2
 have HI4 : Hid (At4 (set3 ((w1.alloc (itO k n c y)).alloc (itO k n c y)) (W.heap.size + 1) (.slice none 0 0) (.slice (some ⟨w1.heap.size + 1, 0, none⟩) 1 1) (.int .i64 k)) (w1.heap.size + 1) (0 + 0 * 4) k n c y) := by
  have h9 := at4_box (w1.alloc (itO k n c y)) k n c y
  rw [show (w1.alloc (itO k n c y)).heap.size = w1.heap.size + 1 by simp] at h9
  have h8 := HS1.out.sz
  exact At4.lat (H := fun b => b = W.heap.size + 1) h9 (by omega) (Lat.set3 (H := fun b => b = W.heap.size + 1) (G := W.heap.size + 1) rfl _ _ _)
 have HPV : Hid (PV H (set3 ((w1.alloc (itO k n c y)).alloc (itO k n c y)) (W.heap.size + 1) (.slice none 0 0) (.slice (some ⟨w1.heap.size + 1, 0, none⟩) 1 1) (.int .i64 k)) (.mk [] [.mk k n c []] k) nilS (some ⟨w1.heap.size + 1, 0, none⟩, 1, 1) k) := by
  refine pv_of (fun _ _ _ => .inl ⟨none, 0, rfl, rfl⟩) rfl fun j hj => ?_
  obtain rfl : j = 0 := by simpa using hj
  refine ⟨w1.heap.size + 1, 0, k, n, c, y, rfl, fun e => ?_, ?_, HI4.out⟩
  ·have h7 := HH.out _ e
   have h8 := HS1.out.sz
   have h9 := HSZ.out
   omega
  ·obtain ⟨ya, yn, yc⟩ := y
   have hy : yn = 0 := HY.out
   subst hy
   exact iv_none H _ k n c ya yc
 have HBE := Lib.hid (below_set3 HS3.out.bel (Nat.le_succ _) (.slice none 0 0) (.slice (some ⟨w1.heap.size + 1, 0, none⟩) 1 1) (.int .i64 k))
 have HRE := Lib.hid (set3_block HS3.out.res (.slice none 0 0) (.slice (some ⟨w1.heap.size + 1, 0, none⟩) 1 1) (.int .i64 k))
 clear HI4 HB2 HB3 HS2 HY HH HAT
 go_wp2
 refine bodyPost_ret (v := plV nilS (some ⟨w1.heap.size + 1, 0, none⟩, 1, 1) k) ?_ rfl (pvS_new HKD.out HPV.out HBE.out)
 exact ret_plain (fn := Tryz.f31) (p := 4) rfl _ _ (W.heap.size + 1) (by rfl) HRE.out
set_option maxRecDepth 100000 in
set_option maxHeartbeats 2000000 in
theorem rpart_box {H : Nat → Prop} {w : World} {s : List Int} {items : List RI} {fill : Int} {h x : Sl} {f : Int} (g : PV H w (.mk s items fill) h x f) (i : Nat) (hi : ixP items.length i < items.length) (hl : items.length ≤ 1048576) (nu : Nat) (ch : Int) (t : RP) (ht : items[ixP items.length i] = .mk 2 nu ch [t]) (W : World) (hb : Below w.heap.size w W) :
  Calls Tryz.prog 31 #[plV h x f, .int .i64 (i : Int)] W (PvS H w W t) := by
 have HAT := Lib.hid (fun W' (hb' : Below W.heap.size W W') => ht ▸ rat24_any g i hi hl W' (bel_both hb hb'))
 have HS0 := Lib.hid (P1.new W h x f)
 have HBW := Lib.hid hb
 unfold ItR at HAT
 clear g hi hl ht hb
 go_enter Tryz.func31, Tryz.ntmps31
 obtain ⟨p0, p1, p2⟩ := at3_c HS0.out.one
 go_wp2_with fail
 refine (HAT.out _ HS0.out.bel).mono ?_
 rintro e w1 ⟨k, n, c, y, rfl, hiv, hb1⟩
 have HS1 := Lib.hid (HS0.out.step hb1)
 obtain ⟨rfl, rfl, rfl, hy, hbx⟩ := hiv.open_
 obtain ⟨bb, bo, h', y', f', hya, hnH, hpv, hat⟩ := hbx 0 (by simp)
 obtain ⟨ya, yn, yc⟩ := y
 dsimp only at hya hy
 subst hya
 obtain rfl : yn = 1 := by simpa using hy
 have hst := fun md => st_item w1 2 0 n 0 (.slice none 0 0) 53 md
 have HB2 := Lib.hid (bel1 w1 (itO 2 n c (some ⟨bb, bo, none⟩, 1, yc)))
 have HN2 := Lib.hid (heap_alloc_new w1 (itO 2 n c (some ⟨bb, bo, none⟩, 1, yc)))
 obtain ⟨⟨d0, d1, d2, d3⟩, dz⟩ := block4 HN2.out
 have HS2 := Lib.hid (HS1.out.step HB2.out)
 obtain ⟨⟨z0, z1, z2⟩, zz⟩ := block3 HS2.out.res
 obtain ⟨c0, c1, c2⟩ := hat _ (Lat.below (bel_both HBW.out HS2.out.bel))
 simp only [Nat.zero_mul, Nat.add_zero] at c0 c1 c2
 dsimp only [sv] at c0 c1
 have HPV : Hid (PV H w t h' y' f') := hpv
 have HBE := Lib.hid (below_set3 HS2.out.bel (Nat.le_succ _) (.slice h'.1 h'.2.1 h'.2.2) (.slice y'.1 y'.2.1 y'.2.2) (.int .i64 f'))
 have HRE := Lib.hid (set3_block HS2.out.res (.slice h'.1 h'.2.1 h'.2.2) (.slice y'.1 y'.2.1 y'.2.2) (.int .i64 f'))
 clear hb1 hy hiv hbx hat hpv p0 p1 p2 HAT HB2 hnH
 go_wp2
 refine bodyPost_ret (v := plV h' y' f') ?_ rfl (pvS_old HPV.out HBE.out)
 exact ret_plain (fn := Tryz.f31) (p := 4) rfl _ _ (W.heap.size + 1) (by rfl) HRE.out
theorem rpart_any {H : Nat → Prop} {w : World} {a : PA} {h x : Sl} {f : Int} (g : PV H w (rawP a) h x f) (i : Nat) (hi : ixP a.len i < a.len) (hl : a.len ≤ 1048576) (W : World) (hb : Below w.heap.size w W) (hH : ∀ b, H b → b < w.heap.size) :
  Calls Tryz.prog 31 #[plV h x f, .int .i64 (i : Int)] W (PvS H w W (rawP (partA a i))) := by
 cases a with
 | nums s l =>
  have hi2 : ixP l.length i < l.length := hi
  rw [rawP] at g
  have e : l.getD (ixP l.length i) 0 = l[ixP l.length i] := by simp [List.getD, hi2]
  rw [partA, rawP, e]
  exact rpart_flat g i (by simpa using hi2) (by rw [List.length_map]; exact hl) 0 _ 0 (by decide) (by simp) W hb hH
 | chars s l =>
  have hi2 : ixP l.length i < l.length := hi
  rw [rawP] at g
  have e : l.getD (ixP l.length i) 0 = l[ixP l.length i] := by simp [List.getD, hi2]
  rw [partA, rawP, e]
  exact rpart_flat g i (by simpa using hi2) (by rw [List.length_map]; exact hl) 1 0 _ (by decide) (by simp) W hb hH
 | boxes s l =>
  have hi2 : ixP l.length i < l.length := hi
  rw [rawP] at g
  have e : l.getD (ixP l.length i) default = l[ixP l.length i] := by simp [List.getD, hi2]
  rw [partA, e]
  have hn := rawBs_len l
  refine rpart_box g i (by rw [hn]; exact hi2) (by rw [hn]; exact hl) 0 0 _ ?_ W hb
  rw [rawBs_at (by rw [hn]; exact hi2)]
  congr 2
  simp only [hn]
end Go.Proofs.YtiahegjdkejjpaaGreat
