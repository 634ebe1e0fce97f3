/- Merged texts. The walk of awake of layer 24. No conditions. The memory of the laws of two plain arrays: a variable that holds what a function of their arrays tells. Conditions: as each theorem says. Two rows of numbers that a call makes side by side; whole numbers added and taken away again: words and plain law. Conditions: as each theorem says. -/
import Derived.Test.YtiahegjdkejjpaaGreatMg35
namespace Go.Proofs.YtiahegjdkejjpaaGreat
open Go Go.RowKit Go.Proofs Fl

/-- a box that holds a sum -/
theorem pv_boxed {W : World} {a : PA} {h x : Sl} {f : Int} (hp : PV noH W (rawP a) h x f) :
    PV noH ((W.alloc (plO h x f)).alloc (itO 2 0 0 (some ⟨W.heap.size, 0, none⟩, 1, 1))) (rawP (.boxes [] [a])) nilS (some ⟨W.heap.size + 1, 0, none⟩, 1, 1) 2 := by
  rw [rawP, rawBs, rawBs]
  refine pv_of (fun _ _ _ => .inl ⟨none, 0, rfl, rfl⟩) rfl fun i hi => ?_
  obtain rfl : i = 0 := by simpa using hi
  refine ⟨W.heap.size + 1, 0, 2, 0, 0, (some ⟨W.heap.size, 0, none⟩, 1, 1), rfl, fun e => e, ?_, ?_⟩
  · exact iv_box (fun e => e) (hp.step (bel2 _ _ _)) (At3.belowP (at3_box W h x f) (bel1 _ _))
  · have h9 := at4_box (W.alloc (plO h x f)) 2 0 0 (some ⟨W.heap.size, 0, none⟩, 1, 1)
    rw [show (W.alloc (plO h x f)).heap.size = W.heap.size + 1 by simp] at h9
    exact h9

theorem two_12 {W : World} {h1 h2 : Sl} {p q : V8} (g1 : AV noH W a12 h1 p) (g2 : AV noH W a10 h2 q) : Calls Tryz.prog 9 #[.int .i64 1, arrV h1 p, arrV h2 q] W (AvR noH W a1112) := by
  refine (ptwo_any 1 noH noH noH 1 a12 a10 40 40 h1 h2 p q W (noH_lt _) (noH_lt _) (noH_lt _) good12 good10 (sm_2 _ _ _) (sm_1 _ _) (by decide) g1 g2).mono ?_
  rintro e w' g
  rw [two12 0] at g
  rcases g with ⟨_, h, u, rfl, ha, hb⟩ | ⟨h, _⟩
  · exact ⟨h, u, rfl, ha, hb⟩
  · exact absurd rfl h
theorem two_b {W : World} {h1 h2 : Sl} {p q : V8} (g1 : AV noH W (.boxes [] [a12]) h1 p) (g2 : AV noH W a10 h2 q) : Calls Tryz.prog 9 #[.int .i64 1, arrV h1 p, arrV h2 q] W (AvR noH W (.boxes [] [a1112])) := by
  refine (ptwo_any 2 noH noH noH 1 (.boxes [] [a12]) a10 40 40 h1 h2 p q W (noH_lt _) (noH_lt _) (noH_lt _) (good_box good12') good10 (sm_b (sm_2 _ _ _) _) (sm_1 _ _) (by simp [depA, depAs]) g1 g2).mono ?_
  rintro e w' g
  rw [two_b12 0] at g
  rcases g with ⟨_, h, u, rfl, ha, hb⟩ | ⟨h, _⟩
  · exact ⟨h, u, rfl, ha, hb⟩
  · exact absurd rfl h

set_option maxRecDepth 100000 in
set_option maxHeartbeats 2000000 in
theorem awake24_any (w : World) : Calls Tryz.prog 8 #[] w fun e w' => e = .returned (.bool true) ∧ Below w.heap.size w w' := by
  go_enter Tryz.func8, Tryz.ntmps8
  have HN1 := Lib.hid (rnums_any _ _ noH (w.alloc (.cells #[.float .f64 4607182418800017408, .float .f64 4611686018427387904] 50)) (noH_lt _) (reads_two (heap_alloc_new w (.cells #[.float .f64 4607182418800017408, .float .f64 4611686018427387904] 50))) (by simp))
  have HB0 := Lib.hid (bel1 w (.cells #[.float .f64 4607182418800017408, .float .f64 4611686018427387904] 50))
  unfold PlR at HN1
  go_wp2_with fail
  refine HN1.out.mono ?_
  rintro e w1 ⟨h1, x1, rfl, hp1, hb⟩
  have HB1 := Lib.hid (bel_both (bel_both HB0.out hb) (bel1 w1 (plO h1 x1 0)))
  have HP1 := Lib.hid (hp1.step (bel1 w1 (plO h1 x1 0)))
  have HV1 := Lib.hid (at3_box w1 h1 x1 0)
  clear hb hp1 HN1 HB0
  go_wp2_with fail
  refine (lawOf_nums sh2 (all2 tf1 tf2) (by decide) h1 x1 0 _ HP1.out).mono ?_
  rintro e w2 ⟨h2, p2, rfl, ha2, hb⟩
  have HB2 := Lib.hid hb
  have HA2 := Lib.hid ha2
  clear hb ha2
  go_wp2_with fail
  refine (rnum_any 4621819117588971520 noH _ (noH_lt _)).mono ?_
  rintro e w3 ⟨h3, x3, rfl, hp3, hb⟩
  have HB3 := Lib.hid hb
  have HP3 := Lib.hid hp3
  clear hb hp3
  go_wp2_with fail
  refine (lawOf_nums sh0 (all1 tf10) (by decide) h3 x3 0 _ HP3.out).mono ?_
  rintro e w4 ⟨h4, p4, rfl, ha4, hb⟩
  have HB4 := Lib.hid (bel_both HB3.out hb)
  have HA4 := Lib.hid ha4
  clear hb ha4 HB3 HP3
  go_wp2_with fail
  refine (two_12 (AV.step HA2.out HB4.out) HA4.out).mono ?_
  rintro e w5 ⟨h5, u5, rfl, ha5, hb⟩
  have HB5 := Lib.hid (bel_both (bel_both HB2.out (bel_both HB4.out hb)) (bel1 w5 (arrO h5 u5)))
  have HA5 := Lib.hid (AV.step ha5 (bel1 w5 (arrO h5 u5)))
  have HV5 := Lib.hid (at9_new w5 h5 u5)
  obtain ⟨c0, c1, c2⟩ := at3_c (HV1.out.belowP HB5.out)
  have HP5 := Lib.hid (HP1.out.step HB5.out)
  clear hb ha5 HB2 HB4 HA2 HA4 HV1 HP1
  go_wp2_with fail
  refine (lawOf_nums sh2 (all2 tf1 tf2) (by decide) h1 x1 0 _ HP5.out).mono ?_
  rintro e w6 ⟨h6, p6, rfl, ha6, hb⟩
  have HB6 := Lib.hid hb
  have HA6 := Lib.hid ha6
  clear hb ha6 HP5 c0 c1 c2
  go_wp2_with fail
  refine (vbx_any HA6.out (noH_lt _)).mono ?_
  rintro e w7 ⟨h7, p7, rfl, ha7, hb⟩
  have HB7 := Lib.hid (bel_both HB6.out hb)
  have HA7 := Lib.hid ha7
  clear hb ha7 HA6 HB6
  go_wp2_with fail
  refine (rnum_any 4621819117588971520 noH _ (noH_lt _)).mono ?_
  rintro e w8 ⟨h8, x8, rfl, hp8, hb⟩
  have HB8 := Lib.hid hb
  have HP8 := Lib.hid hp8
  clear hb hp8
  go_wp2_with fail
  refine (lawOf_nums sh0 (all1 tf10) (by decide) h8 x8 0 _ HP8.out).mono ?_
  rintro e w9 ⟨h9, p9, rfl, ha9, hb⟩
  have HB9 := Lib.hid (bel_both HB8.out hb)
  have HA9 := Lib.hid ha9
  clear hb ha9 HB8 HP8
  go_wp2_with fail
  refine (two_b (AV.step HA7.out HB9.out) HA9.out).mono ?_
  rintro e w10 ⟨h10, u10, rfl, ha10, hb⟩
  obtain ⟨F, hF⟩ : ∃ F : Obj, F = .cells #[.float .f64 4622382067542392832, .float .f64 4622945017495814144] 50 := ⟨_, rfl⟩
  have HB10 := Lib.hid (bel_both (bel_both HB7.out (bel_both HB9.out hb)) (bel2 w10 (arrO h10 u10) F))
  have HA10 := Lib.hid (AV.step ha10 (bel2 w10 (arrO h10 u10) F))
  have HV10 := Lib.hid ((at9_new w10 h10 u10).below (bel1 _ F))
  have hf := heap_alloc_new (w10.alloc (arrO h10 u10)) F
  rw [show (w10.alloc (arrO h10 u10)).heap.size = w10.heap.size + 1 by simp] at hf
  have HFB := Lib.hid hf
  have HF := Lib.hid hF
  clear hb ha10 HB7 HB9 HA7 HA9 hf hF
  rw [HF.out] at HB10 HA10 HV10 HFB
  have HN11 := Lib.hid (rnums_any _ _ noH _ (noH_lt _) (reads_two HFB.out) (by simp))
  unfold PlR at HN11
  go_wp2_with fail
  refine HN11.out.mono ?_
  rintro e w11 ⟨h11, x11, rfl, hp11, hb⟩
  have HB11 := Lib.hid (bel_both hb (bel1 w11 (plO h11 x11 0)))
  have HB12 := Lib.hid (bel_both HB10.out HB11.out)
  have HP11 := Lib.hid (hp11.step (bel1 w11 (plO h11 x11 0)))
  have HV11 := Lib.hid (at3_box w11 h11 x11 0)
  have HA11 := Lib.hid (AV.step HA10.out HB11.out)
  have HV12 := Lib.hid (HV10.out.below HB11.out)
  have HA5' := Lib.hid (AV.step HA5.out HB12.out)
  have HV5' := Lib.hid (HV5.out.below HB12.out)
  have HBE := Lib.hid (bel_both HB1.out (bel_both HB5.out HB12.out))
  obtain ⟨c0, c1, c2, c3, c4, c5, c6, c7, c8⟩ := HV5'.out.c
  obtain ⟨d0, d1, d2⟩ := at3_c HV11.out
  clear hb hp11 HN11 HB10 HB11 HB12 HA10 HV10 HA5 HV5 HB1 HB5 HFB HF
  go_wp2_with fail
  refine (shows24_ok (noH_lt _) good1112 (sm_2 _ _ _) HA5'.out HP11.out).mono ?_
  rintro e w12 ⟨rfl, hb⟩
  have HB13 := Lib.hid hb
  have HPB := Lib.hid (pv_boxed (HP11.out.step hb))
  have HA13 := Lib.hid (AV.step HA11.out (bel_both hb (bel2 w12 (plO h11 x11 0) (itO 2 0 0 (some ⟨w12.heap.size, 0, none⟩, 1, 1)))))
  have HBF := Lib.hid (bel_both HBE.out (bel_both hb (bel2 w12 (plO h11 x11 0) (itO 2 0 0 (some ⟨w12.heap.size, 0, none⟩, 1, 1)))))
  have hv := HV12.out.below hb
  have hd := HV11.out.belowP hb
  clear hb c0 c1 c2 c3 c4 c5 c6 c7 c8 d0 d1 d2
  obtain ⟨c0, c1, c2, c3, c4, c5, c6, c7, c8⟩ := hv.c
  obtain ⟨d0, d1, d2⟩ := at3_c hd
  clear hv hd
  have hst := fun md => st_item (w12.alloc (plO h11 x11 0)) 2 0 0 0 (.slice none 0 0) 53 md
  go_wp2_with fail
  refine (shows24_ok (noH_lt _) (good_box good1112') (sm_b (sm_2 _ _ _) _) HA13.out HPB.out).mono ?_
  rintro e w13 ⟨rfl, hb⟩
  have HBG := Lib.hid (bel_both HBF.out hb)
  clear hb
  go_wp2
  go_ret
  exact ⟨rfl, HBG.out⟩
end Go.Proofs.YtiahegjdkejjpaaGreat
namespace Go.Proofs.YtiahegjdkejjpaaGreat
open Go Go.RowKit Go.Proofs Fl

/-- the memory of a statement of the law: the arguments' boxes, and what was there when it began -/
structure LwS (w wr : World) (h1 x1 : Sl) (f1 : Int) (h2 x2 : Sl) (f2 : Int) (W : World) : Prop where
  p2 : P2 w W h1 x1 f1 h2 x2 f2
  bel : Below wr.heap.size wr W
  lo : w.heap.size + 2 ≤ wr.heap.size
theorem LwS.step {w wr W W' : World} {h1 x1 h2 x2 : Sl} {f1 f2 : Int} (g : LwS w wr h1 x1 f1 h2 x2 f2 W) (hb : Below W.heap.size W W') : LwS w wr h1 x1 f1 h2 x2 f2 W' := ⟨g.p2.step hb, bel_both g.bel hb, g.lo⟩
theorem LwS.put {w wr W : World} {h1 x1 h2 x2 : Sl} {f1 f2 : Int} (g : LwS w wr h1 x1 f1 h2 x2 f2 W) {b j : Nat} (hb : wr.heap.size ≤ b) (u : Value) : LwS w wr h1 x1 f1 h2 x2 f2 (W.setCell ⟨b, j, none⟩ u) := ⟨g.p2.more ((Below.refl _ W).setCell (by show _ ≤ b; have := g.lo; omega) u), g.bel.setCell (by show _ ≤ b; exact hb) u, g.lo⟩
theorem LwS.dr {w wr W : World} {h1 x1 h2 x2 : Sl} {f1 f2 : Int} (g : LwS w wr h1 x1 f1 h2 x2 f2 W) : LwS w wr h1 x1 f1 h2 x2 f2 W.drew := g.step (Below.refl _ W).drew
theorem LwS.al {w wr W : World} {h1 x1 h2 x2 : Sl} {f1 f2 : Int} (g : LwS w wr h1 x1 f1 h2 x2 f2 W) (o : Obj) : LwS w wr h1 x1 f1 h2 x2 f2 (W.alloc o) := g.step (bel1 W o)
theorem LwS.self {w wr W : World} {h1 x1 h2 x2 : Sl} {f1 f2 : Int} (g : LwS w wr h1 x1 f1 h2 x2 f2 W) : LwS w wr h1 x1 f1 h2 x2 f2 W := g
theorem lws_s {w wr W : World} {h1 x1 h2 x2 : Sl} {f1 f2 : Int} (g : LwS w wr h1 x1 f1 h2 x2 f2 W) : ((W.cell? ⟨w.heap.size, 0, none⟩ = some (.slice h1.1 h1.2.1 h1.2.2) ∧ W.cell? ⟨w.heap.size, 1, none⟩ = some (.slice x1.1 x1.2.1 x1.2.2) ∧ W.cell? ⟨w.heap.size, 2, none⟩ = some (.int .i64 f1)) ∧
    (W.cell? ⟨w.heap.size + 1, 0, none⟩ = some (.slice h2.1 h2.2.1 h2.2.2) ∧ W.cell? ⟨w.heap.size + 1, 1, none⟩ = some (.slice x2.1 x2.2.1 x2.2.2) ∧ W.cell? ⟨w.heap.size + 1, 2, none⟩ = some (.int .i64 f2))) ∧ LwS w wr h1 x1 f1 h2 x2 f2 W := ⟨⟨at3_c g.p2.one, at3_c g.p2.two⟩, g⟩
/-- behind the statement: a new variable holds what was told -/
def LwMid (w wr : World) (h1 x1 : Sl) (f1 : Int) (h2 x2 : Sl) (f2 : Int) (r : Int × PA) (v e : Value) (wx : World) : Prop :=
  ∃ (V : Nat) (h : Sl) (u : V8), v = .pointer (some ⟨V, 0, none⟩) ∧ e = .int .i64 r.1 ∧ wr.heap.size ≤ V ∧ wx.heap[V]? = some (arrO h u) ∧ AvIf (fun b => b = V) r h u wx ∧ LwS w wr h1 x1 f1 h2 x2 f2 wx
/-- the blocks that were made from a world to another -/
abbrev Fresh (wr W : World) : Nat → Prop := fun b => wr.heap.size ≤ b ∧ b < W.heap.size
theorem lwMid_new {w wr W5 w5 : World} {h1 x1 h2 x2 : Sl} {f1 f2 : Int} {r : Int × PA} {h : Sl} {u : V8} (hav : AvIf (Fresh wr W5) r h u w5) (hst : LwS w wr h1 x1 f1 h2 x2 f2 w5) :
    LwMid w wr h1 x1 f1 h2 x2 f2 r (.pointer (some ⟨w5.heap.size, 0, none⟩)) (.int .i64 r.1) (w5.alloc (arrO h u)) :=
  ⟨w5.heap.size, h, u, rfl, rfl, hst.bel.size, heap_alloc_new w5 _, ⟨fun h0 => (AV.sub (fun b hb e => by omega) (hav.1 h0)).step (bel1 w5 _), hav.2⟩, hst.al _⟩
theorem lwMid_old {w wr W5 w5 : World} {h1 x1 h2 x2 : Sl} {f1 f2 : Int} {r : Int × PA} {h : Sl} {u : V8} {Z : Nat} (hav : AvIf (Fresh wr W5) r h u w5) (hst : LwS w wr h1 x1 f1 h2 x2 f2 w5) (hz : ZB Z w5) (h5 : ZB Z W5) (hZ : wr.heap.size ≤ Z) :
    LwMid w wr h1 x1 f1 h2 x2 f2 r (.pointer (some ⟨Z, 0, none⟩)) (.int .i64 r.1) (set9 w5 Z (sv h) (.int .i64 u.k) (sv u.b) (.int .i64 u.bn) (sv u.s) (sv u.i) (sv u.f) (sv u.c) (sv u.x)) := by
  have hzw := lt_blk h5
  have hwr := hst.lo
  refine ⟨Z, h, u, rfl, rfl, hZ, set9_block hz _ _ _ _ _ _ _ _ _, ⟨fun h0 => AV.lat (Lat.set9 (H := fun b => b = Z) (G := Z) rfl _ _ _ _ _ _ _ _ _) (AV.sub (fun b hb e => ?_) (hav.1 h0)), hav.2⟩, ⟨hst.p2.more (below_set9 (Below.refl _ w5) (by omega) _ _ _ _ _ _ _ _ _), below_set9 hst.bel hZ _ _ _ _ _ _ _ _ _, hwr⟩⟩
  exact ⟨by omega, by omega⟩
end Go.Proofs.YtiahegjdkejjpaaGreat
namespace Go.Proofs.YtiahegjdkejjpaaGreat
open Go Go.RowKit Go.Proofs Fl

/-- a row of items of numbers that the call owns -/
def NRow (w : World) (B : Nat) (v : Value) (xs : List Nat) : Prop := w.ownsRow B 53 4 v xs.length (flatI xs.length fun i => ⟨0, xs.getD i 0, 0, nilS⟩)
theorem NRow.nil (w : World) (B : Nat) : NRow w B (.slice none 0 0) [] := World.ownsRow_nil w B _ _
theorem NRow.own_lt {w : World} {B : Nat} {v : Value} {xs : List Nat} (h : NRow w B v xs) {b : Nat} (e : v.ownBlock = some b) : B ≤ b ∧ b < w.heap.size := World.ownsRow.lt h b e
theorem NRow.len {w : World} {B : Nat} {v : Value} {xs : List Nat} (h : NRow w B v xs) : ∃ a c, v = .slice a xs.length c := by
  rcases h.2 with ⟨rfl, h0⟩ | ⟨g, cap, cur, rfl, _⟩
  · exact ⟨none, 0, by rw [h0]⟩
  · exact ⟨_, _, rfl⟩
/-- the row stays where its block does -/
theorem NRow.lat {w w' : World} {B : Nat} {v : Value} {xs : List Nat} (h : NRow w B v xs) {H : Nat → Prop} (k : Lat H w w') (hn : ∀ b, v.ownBlock = some b → ¬ H b) : NRow w' B v xs := by
  have h' := fun b e => h.own_lt (b := b) e
  refine ⟨h.1, ?_⟩
  rcases h.2 with h2 | ⟨g, cap, cur, hv, hbg, hg, r⟩
  · exact .inl h2
  · refine .inr ⟨g, cap, cur, hv, hbg, ?_, r⟩
    have e : v.ownBlock = some g := by rw [hv]; rfl
    rw [k.block g (h' g e).2 (hn g e)]; exact hg
theorem NRow.below {w w' : World} {B : Nat} {v : Value} {xs : List Nat} (h : NRow w B v xs) (hb : Below w.heap.size w w') : NRow w' B v xs := h.lat (H := fun _ => False) (Lat.below hb) fun _ _ e => e
theorem NRow.iown {w : World} {B : Nat} {v : Value} {xs : List Nat} (h : NRow w B v xs) : IOwn noH w B v (xs.map fun x => RI.mk 0 x 0 []) := by
  refine ⟨fun i => ⟨0, xs.getD i 0, 0, nilS⟩, by rw [List.length_map]; exact h, fun i hi => ?_⟩
  have hi2 : i < xs.length := by simpa using hi
  have e : xs.getD i 0 = xs[i] := by simp [List.getD, hi2]
  rw [List.getElem_map]
  show IV _ w (RI.mk 0 xs[i] 0 []) 0 (xs.getD i 0) 0 nilS
  rw [e]
  exact iv_none _ _ _ _ _ _ _
/-- one number appended to such a row, inside a region -/
theorem step_pushN {ops : Array Oper} {o : Oper} {a : Act} {K : Act → World → Prop} {Q : Exit → Act → World → Prop} {E : Prop} {w : World} (hgd : o.guard = none) (s x : Operand)
    (ho : o.op = .call { callee := .builtin .append, args := #[s, x], argTypes := #[23, 23] })
    (B : Nat) (v : Value) (xs : List Nat) (hs : a.eval s = v) (hown : NRow w B v xs) (y : Nat)
    (G : Nat) (hG : w.heap[G]? = some (itO 0 y 0 nilS)) (hx : a.eval x = .slice (some ⟨G, 0, none⟩) 1 1) (hl : xs.length ≤ 1048576) (hB : B ≤ w.heap.size)
    (k : ∀ A' n' c' w', NRow w' B (.slice A' n' c') (xs ++ [y]) → (∀ w0, Below B w0 w → Below B w0 w') → Lat (fun b => v.ownBlock = some b) w w' → ((Value.slice A' n' c').ownBlock = v.ownBlock ∨ ∃ g, (Value.slice A' n' c').ownBlock = some g ∧ w.heap.size ≤ g) → K (a.put o.dst (.slice A' n' c')) w') :
    if Region.wanted o (yielded ops a.tmps) = true then Oper.wp Tryz.prog o a w K Q else E := by
  obtain ⟨i0, hi0, hz0, hz1, hz2⟩ := info_parts item_info
  have hrow := hown
  refine step_append_lies w hgd s x 23 ho B 53 i0 _ 4 48 Tryz.underlying23 hi0 hz0 hz1 hz2 rfl (by omega) v xs.length _ hs hrow ⟨G, 0, none⟩ 1 1 (itL ⟨0, y, 0, nilS⟩) hx rfl ?_ ?_ (by omega) (by unfold maxLen; omega) (by omega) hB _ rfl ?_
  · intro j u hj
    rw [add_zero_off, Nat.zero_add, cell_of_row _ G j _ _ (0, 0) hG]
    simpa using hj
  · intro u hu
    simp only [List.mem_cons, List.not_mem_nil, or_false] at hu
    rcases hu with rfl | rfl | rfl | rfl <;> rfl
  intro g cap w' hown' hg hat _
  refine k _ _ _ w' ?_ (fun w0 hb => hb.grown hg hB fun k hk => (World.ownsRow.lt hrow k hk).1) ⟨hg.size, fun b hb hn => hg.block b hb (fun e => hn e.symm)⟩ ?_
  · unfold NRow
    rw [show (xs ++ [y]).length = xs.length + 1 by simp, flatI_succ]
    have e : flatI xs.length (fun i => ⟨0, (xs ++ [y]).getD i 0, 0, nilS⟩) = flatI xs.length (fun i => ⟨0, xs.getD i 0, 0, nilS⟩) := flatI_congr _ fun i hi => by
      have : (xs ++ [y]).getD i 0 = xs.getD i 0 := by simp [List.getD, List.getElem?_append_left hi]
      rw [this]
    have e2 : (xs ++ [y]).getD xs.length 0 = y := by simp [List.getD]
    rw [e, e2]
    exact hown'
  · rcases hat with e | e
    · exact .inl e.symm
    · exact .inr ⟨g, rfl, by omega⟩
/-- the memory of the law's second loop: two variables and their rows -/
structure BkI (w : World) (s : Sl) (lp lq : List Nat) (vp vq : Value) (W : World) : Prop where
  rowp : NRow W (w.heap.size + 2) vp lp
  rowq : NRow W (w.heap.size + 2) vq lq
  outp : W.heap[w.heap.size]? = some (.cells #[sv s, vp, .int .i64 0] 25)
  outq : W.heap[w.heap.size + 1]? = some (.cells #[sv s, vq, .int .i64 0] 25)
  dis : ∀ b, vp.ownBlock = some b → vq.ownBlock ≠ some b
  bel : Below w.heap.size w W
theorem BkI.step {w W W' : World} {s : Sl} {lp lq : List Nat} {vp vq : Value} (g : BkI w s lp lq vp vq W) (hb : Below W.heap.size W W') : BkI w s lp lq vp vq W' :=
  ⟨g.rowp.below hb, g.rowq.below hb, by rw [hb.block _ (lt_blk g.outp)]; exact g.outp, by rw [hb.block _ (lt_blk g.outq)]; exact g.outq, g.dis, bel_both g.bel hb⟩
theorem BkI.sz {w W : World} {s : Sl} {lp lq : List Nat} {vp vq : Value} (g : BkI w s lp lq vp vq W) : w.heap.size + 2 ≤ W.heap.size := lt_blk g.outq
theorem BkI.outp_lat {w W w' : World} {s : Sl} {lp lq : List Nat} {vp vq : Value} (g : BkI w s lp lq vp vq W) (hl : Lat (fun b => vp.ownBlock = some b) W w') : w'.heap[w.heap.size]? = some (.cells #[sv s, vp, .int .i64 0] 25) := by
  rw [hl.block _ (by have := g.sz; omega) (fun e => by have := (g.rowp.own_lt e).1; omega)]
  exact g.outp
theorem BkI.outq_lat {w W w' : World} {s : Sl} {lp lq : List Nat} {vp vq : Value} (g : BkI w s lp lq vp vq W) (hl : Lat (fun b => vq.ownBlock = some b) W w') : w'.heap[w.heap.size + 1]? = some (.cells #[sv s, vq, .int .i64 0] 25) := by
  rw [hl.block _ (by have := g.sz; omega) (fun e => by have := (g.rowq.own_lt e).1; omega)]
  exact g.outq
theorem BkI.push_p {w W w' : World} {s : Sl} {lp lq : List Nat} {vp vq vp' : Value} {y : Nat} (g : BkI w s lp lq vp vq W) (hr : NRow w' (w.heap.size + 2) vp' (lp ++ [y])) (hb : Below (w.heap.size + 2) W w') (hl : Lat (fun b => vp.ownBlock = some b) W w') (hat : vp'.ownBlock = vp.ownBlock ∨ ∃ G, vp'.ownBlock = some G ∧ W.heap.size ≤ G) :
    BkI w s (lp ++ [y]) lq vp' vq (w'.setCell ⟨w.heap.size, 1, none⟩ vp') := by
  have hsz := g.sz
  have hlow : ∀ b, b < w.heap.size + 2 → ¬ (vp.ownBlock = some b) := fun b hb e => by have := (g.rowp.own_lt e).1; omega
  have e1 : w'.heap[w.heap.size]? = some (.cells #[sv s, vp, .int .i64 0] 25) := by rw [hl.block _ (by omega) (hlow _ (by omega))]; exact g.outp
  have e2 : w'.heap[w.heap.size + 1]? = some (.cells #[sv s, vq, .int .i64 0] 25) := by rw [hl.block _ (by omega) (hlow _ (by omega))]; exact g.outq
  have ls : Lat (fun b => b = w.heap.size) w' (w'.setCell ⟨w.heap.size, 1, none⟩ vp') := Lat.set (H := fun b => b = w.heap.size) (a := ⟨w.heap.size, 1, none⟩) rfl vp'
  refine ⟨hr.lat ls (fun b e h => by have := (hr.own_lt e).1; omega), (g.rowq.lat hl (fun b e h => g.dis b h e)).lat ls (fun b e h => by have := (g.rowq.own_lt e).1; omega), ?_, ?_, ?_, (g.bel.trans (hb.mono (by omega))).setCell (Nat.le_refl _) _⟩
  · have h1 := heap_setCell_same _ w.heap.size 1 _ _ vp' e1
    rw [show (#[sv s, vp, .int .i64 0] : Array Value).setIfInBounds 1 vp' = #[sv s, vp', .int .i64 0] by simp] at h1
    exact h1
  · rw [Below.heap_setCell _ _ _ _ (by show w.heap.size + 1 ≠ w.heap.size; omega)]
    exact e2
  · intro b e h
    rcases hat with h1 | ⟨G, h1, h2⟩
    · rw [h1] at e; exact g.dis b e h
    · rw [h1] at e
      injection e with e
      have := (g.rowq.own_lt h).2
      omega
theorem BkI.push_q {w W w' : World} {s : Sl} {lp lq : List Nat} {vp vq vq' : Value} {y : Nat} (g : BkI w s lp lq vp vq W) (hr : NRow w' (w.heap.size + 2) vq' (lq ++ [y])) (hb : Below (w.heap.size + 2) W w') (hl : Lat (fun b => vq.ownBlock = some b) W w') (hat : vq'.ownBlock = vq.ownBlock ∨ ∃ G, vq'.ownBlock = some G ∧ W.heap.size ≤ G) :
    BkI w s lp (lq ++ [y]) vp vq' (w'.setCell ⟨w.heap.size + 1, 1, none⟩ vq') := by
  have hsz := g.sz
  have hlow : ∀ b, b < w.heap.size + 2 → ¬ (vq.ownBlock = some b) := fun b hb e => by have := (g.rowq.own_lt e).1; omega
  have e1 : w'.heap[w.heap.size]? = some (.cells #[sv s, vp, .int .i64 0] 25) := by rw [hl.block _ (by omega) (hlow _ (by omega))]; exact g.outp
  have e2 : w'.heap[w.heap.size + 1]? = some (.cells #[sv s, vq, .int .i64 0] 25) := by rw [hl.block _ (by omega) (hlow _ (by omega))]; exact g.outq
  have ls : Lat (fun b => b = w.heap.size + 1) w' (w'.setCell ⟨w.heap.size + 1, 1, none⟩ vq') := Lat.set (H := fun b => b = w.heap.size + 1) (a := ⟨w.heap.size + 1, 1, none⟩) rfl vq'
  refine ⟨(g.rowp.lat hl (fun b e h => g.dis b e h)).lat ls (fun b e h => by have := (g.rowp.own_lt e).1; omega), hr.lat ls (fun b e h => by have := (hr.own_lt e).1; omega), ?_, ?_, ?_, (g.bel.trans (hb.mono (by omega))).setCell (Nat.le_succ _) _⟩
  · rw [Below.heap_setCell _ _ _ _ (by show w.heap.size ≠ w.heap.size + 1; omega)]
    exact e1
  · have h1 := heap_setCell_same _ (w.heap.size + 1) 1 _ _ vq' e2
    rw [show (#[sv s, vq, .int .i64 0] : Array Value).setIfInBounds 1 vq' = #[sv s, vq', .int .i64 0] by simp] at h1
    exact h1
  · intro b e h
    rcases hat with h1 | ⟨G, h1, h2⟩
    · rw [h1] at h; exact g.dis b e h
    · rw [h1] at h
      injection h with h
      have := (g.rowp.own_lt e).2
      omega

/-- whole numbers of 32 bits -/
def Sm32 (z : Int) : Prop := -2147483648 ≤ z ∧ z ≤ 2147483647
theorem tf_mid {z : Int} (h : z.natAbs ≤ 4294967296) : TF (fi z) := tf_fi ⟨by omega, by omega⟩
theorem add_32 {a b : Int} (ha : Sm32 a) (hb : Sm32 b) : oneP pwP 1 (fi a) (fi b) = (fi (a + b), 0) := by
  obtain ⟨a1, a2⟩ := ha
  obtain ⟨b1, b2⟩ := hb
  show doneP (opB .add (fi a) (fi b)) = _
  have e : opB .add (fi a) (fi b) = fi (a + b) := by
    show (Ieee.double.add (fi a) (fi b)).getD 0 = _
    rw [add_fi a b (by omega) (by omega) (by omega)]
    rfl
  rw [e, doneP_tf (tf_mid (by omega))]
theorem sub_32 {a b : Int} (ha : Sm32 a) (hb : Sm32 b) : oneP pwP 2 (fi (a + b)) (fi b) = (fi a, 0) := by
  obtain ⟨a1, a2⟩ := ha
  obtain ⟨b1, b2⟩ := hb
  show doneP (opB .sub (fi (a + b)) (fi b)) = _
  have e : opB .sub (fi (a + b)) (fi b) = fi a := by
    show (Ieee.double.sub (fi (a + b)) (fi b)).getD 0 = _
    rw [sub_fi (a + b) b (by omega) (by omega) (by omega), show a + b - b = a by omega]
    rfl
  rw [e, doneP_tf (tf_mid (by omega))]
theorem frameE_same (a b : PA) (hs : a.shape = b.shape) (hl : a.len = b.len) : frameE a b = (0, a.shape) := by
  unfold frameE
  by_cases h : a.len = 1
  · rw [if_pos ⟨h, by rw [← hl]; exact h, by rw [hs]; exact Nat.le_refl _⟩]
  · rw [if_neg (fun e => h e.1), if_neg h, if_neg (by rw [← hl]; exact h), if_neg (by rw [hs]; exact fun e => e rfl), if_neg (fun e => e hs)]
/-- an array of whole numbers, and another one, come to this -/
theorem two_same {f : Int} (hk : knownB f = true) {s : List Nat} {la lb lc : List Nat} (hl : la.length = lb.length) (hc : la.length = lc.length) (h : ∀ j, j < la.length → oneP pwP f (la.getD j 0) (lb.getD j 0) = (lc.getD j 0, 0)) (N : Nat) : twoE (N + 1) f (.nums s la) (.nums s lb) = (0, .nums s lc) := by
  have hfr : frameE (.nums s la) (.nums s lb) = (0, s) := frameE_same _ _ rfl hl
  rw [twoE_flat hk (by rw [hfr]) (by rintro (e | e) <;> cases e)]
  have hlen : lenE (.nums s la) (.nums s lb) = la.length := by
    unfold lenE
    show (if la.length = 1 then lb.length else la.length) = _
    split
    · exact hl.symm
    · rfl
  have hix : ∀ j, j < la.length → ixP la.length j = j := fun j hj => by
    unfold ixP
    split
    · omega
    · rfl
  have e : flatE f (.nums s la) (.nums s lb) = (0, lc) := by
    rw [flatE_nums, hlen]
    rcases numsE_cases la.length (fun c => oneP pwP f (la.getD (ixP la.length c) 0) (lb.getD (ixP lb.length c) 0)) with ⟨⟨c, hc2, hb⟩, _⟩ | ⟨_, h2⟩
    · rw [← hl, hix c hc2, h c hc2] at hb
      exact absurd rfl hb
    · rw [h2]
      congr 1
      refine List.ext_getElem (by simpa using hc) fun j h3 h4 => ?_
      have hj : j < la.length := by simpa using h3
      simp only [List.getElem_map, List.getElem_range]
      rw [← hl, hix j hj, h j hj]
      simp [List.getD, h4]
  unfold flatR
  rw [e, hfr]
  rfl
theorem depA_nums (s l : List Nat) : depA (.nums s l) = 0 := by rw [depA]
end Go.Proofs.YtiahegjdkejjpaaGreat
