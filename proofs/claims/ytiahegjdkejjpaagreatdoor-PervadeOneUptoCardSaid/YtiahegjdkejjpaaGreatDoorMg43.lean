/- The walk of awake of layer 24. No conditions. The memory of the laws of two plain arrays: a variable that holds what a function of their arrays tells. The walk .. Conditions: as each theorem says. -/
import Derived.Test.YtiahegjdkejjpaaGreatDoorMg42
import Derived.Test.YtiahegjdkejjpaaGreatDoorMg31
import Derived.Test.YtiahegjdkejjpaaGreatDoorMg29
import Derived.Deep.CutBlock
import Derived.Deep.CutRange
import Derived.Test.YtiahegjdkejjpaaGreatDoorMg37
set_option maxRecDepth 100000
set_option maxHeartbeats 2000000
namespace Go.Proofs.YtiahegjdkejjpaaGreatDoor
open Go Go.RowKit Go.Proofs Fl
theorem pv_boxed {W:World}{a:PA}{h x:Sl}{f:Int} (hp:PV noH W (rawP a) h x f) :
  PV noH ((W.alloc (plO h x f)).alloc (itO 2 0 0 (some ⟨W.heap.size,0,none⟩,1,1))) (rawP (.boxes [] [a])) nilS (some ⟨W.heap.size+1,0,none⟩,1,1) 2:=by
 rw [rawP,rawBs,rawBs]
 refine pv_of (fun _ _ _ => .inl ⟨none,0,rfl,rfl⟩) rfl fun i hi=>?_
 obtain rfl:i=0:=by simpa using hi
 refine ⟨W.heap.size+1,0,2,0,0,(some ⟨W.heap.size,0,none⟩,1,1),rfl,fun e=>e,?_,?_⟩
 ·exact iv_box (fun e=>e) (hp.step (bel2 _ _ _)) (At3.belowP (at3_box W h x f) (bel1 _ _))
 ·have h9:=at4_box (W.alloc (plO h x f)) 2 0 0 (some ⟨W.heap.size,0,none⟩,1,1)
  rw [show (W.alloc (plO h x f)).heap.size=W.heap.size+1 by simp] at h9
  exact h9
theorem two_12 {W:World}{h1 h2:Sl}{p q:V8} (g1:AV noH W a12 h1 p) (g2:AV noH W a10 h2 q):Calls Tryz.prog 55 #[.int .i64 1,arrV h1 p,arrV h2 q] W (AvR noH W a1112):=by
 refine (ptwo_any 1 noH noH noH 1 a12 a10 40 40 h1 h2 p q W (noH_lt _) (noH_lt _) (noH_lt _) good12 good10 (sm_2 _ _ _) (sm_1 _ _) (by decide) g1 g2).mono ?_
 rintro e w' g
 rw [two12 0] at g
 rcases g with ⟨_,h,u,rfl,ha,hb⟩ | ⟨h,_⟩
 ·exact ⟨h,u,rfl,ha,hb⟩
 ·exact absurd rfl h
theorem two_b {W:World}{h1 h2:Sl}{p q:V8} (g1:AV noH W (.boxes [] [a12]) h1 p) (g2:AV noH W a10 h2 q):Calls Tryz.prog 55 #[.int .i64 1,arrV h1 p,arrV h2 q] W (AvR noH W (.boxes [] [a1112])):=by
 refine (ptwo_any 2 noH noH noH 1 (.boxes [] [a12]) a10 40 40 h1 h2 p q W (noH_lt _) (noH_lt _) (noH_lt _) (good_box good12') good10 (sm_b (sm_2 _ _ _) _) (sm_1 _ _) (by simp [depA,depAs]) g1 g2).mono ?_
 rintro e w' g
 rw [two_b12 0] at g
 rcases g with ⟨_,h,u,rfl,ha,hb⟩ | ⟨h,_⟩
 ·exact ⟨h,u,rfl,ha,hb⟩
 ·exact absurd rfl h
theorem awake24_any (w:World):Calls Tryz.prog 12 #[] w fun e w'=>e= .returned (.bool true)/\Below w.heap.size w w':=by
 go_enter Tryz.func12,Tryz.ntmps12
 have HN1:=Lib.hid (rnums_any _ _ noH (w.alloc (.cells #[.float .f64 4607182418800017408,.float .f64 4611686018427387904] 55)) (noH_lt _) (reads_two (heap_alloc_new w (.cells #[.float .f64 4607182418800017408,.float .f64 4611686018427387904] 55))) (by simp))
 have HB0:=Lib.hid (bel1 w (.cells #[.float .f64 4607182418800017408,.float .f64 4611686018427387904] 55))
 unfold PlR at HN1
 go_wp2_with fail
 refine HN1.out.mono ?_
 rintro e w1 ⟨h1,x1,rfl,hp1,hb⟩
 have HB1:=Lib.hid (bel_both (bel_both HB0.out hb) (bel1 w1 (plO h1 x1 0)))
 have HP1:=Lib.hid (hp1.step (bel1 w1 (plO h1 x1 0)))
 have HV1:=Lib.hid (at3_box w1 h1 x1 0)
 clear hb hp1 HN1 HB0
 go_wp2_with fail
 refine (lawOf_nums sh2 (all2 tf1 tf2) (by decide) h1 x1 0 _ HP1.out).mono ?_
 rintro e w2 ⟨h2,p2,rfl,ha2,hb⟩
 have HB2:=Lib.hid hb
 have HA2:=Lib.hid ha2
 clear hb ha2
 go_wp2_with fail
 refine (rnum_any 4621819117588971520 noH _ (noH_lt _)).mono ?_
 rintro e w3 ⟨h3,x3,rfl,hp3,hb⟩
 have HB3:=Lib.hid hb
 have HP3:=Lib.hid hp3
 clear hb hp3
 go_wp2_with fail
 refine (lawOf_nums sh0 (all1 tf10) (by decide) h3 x3 0 _ HP3.out).mono ?_
 rintro e w4 ⟨h4,p4,rfl,ha4,hb⟩
 have HB4:=Lib.hid (bel_both HB3.out hb)
 have HA4:=Lib.hid ha4
 clear hb ha4 HB3 HP3
 go_wp2_with fail
 refine (two_12 (AV.step HA2.out HB4.out) HA4.out).mono ?_
 rintro e w5 ⟨h5,u5,rfl,ha5,hb⟩
 have HB5:=Lib.hid (bel_both (bel_both HB2.out (bel_both HB4.out hb)) (bel1 w5 (arrO h5 u5)))
 have HA5:=Lib.hid (AV.step ha5 (bel1 w5 (arrO h5 u5)))
 have HV5:=Lib.hid (at9_new w5 h5 u5)
 obtain ⟨c0,c1,c2⟩:=at3_c (HV1.out.belowP HB5.out)
 have HP5:=Lib.hid (HP1.out.step HB5.out)
 clear hb ha5 HB2 HB4 HA2 HA4 HV1 HP1
 go_wp2_with fail
 refine (lawOf_nums sh2 (all2 tf1 tf2) (by decide) h1 x1 0 _ HP5.out).mono ?_
 rintro e w6 ⟨h6,p6,rfl,ha6,hb⟩
 have HB6:=Lib.hid hb
 have HA6:=Lib.hid ha6
 clear hb ha6 HP5 c0 c1 c2
 go_wp2_with fail
 refine (vbx_any HA6.out (noH_lt _)).mono ?_
 rintro e w7 ⟨h7,p7,rfl,ha7,hb⟩
 have HB7:=Lib.hid (bel_both HB6.out hb)
 have HA7:=Lib.hid ha7
 clear hb ha7 HA6 HB6
 go_wp2_with fail
 refine (rnum_any 4621819117588971520 noH _ (noH_lt _)).mono ?_
 rintro e w8 ⟨h8,x8,rfl,hp8,hb⟩
 have HB8:=Lib.hid hb
 have HP8:=Lib.hid hp8
 clear hb hp8
 go_wp2_with fail
 refine (lawOf_nums sh0 (all1 tf10) (by decide) h8 x8 0 _ HP8.out).mono ?_
 rintro e w9 ⟨h9,p9,rfl,ha9,hb⟩
 have HB9:=Lib.hid (bel_both HB8.out hb)
 have HA9:=Lib.hid ha9
 clear hb ha9 HB8 HP8
 go_wp2_with fail
 refine (two_b (AV.step HA7.out HB9.out) HA9.out).mono ?_
 rintro e w10 ⟨h10,u10,rfl,ha10,hb⟩
 obtain ⟨F,hF⟩:∃ F:Obj,F= .cells #[.float .f64 4622382067542392832,.float .f64 4622945017495814144] 55:=⟨_,rfl⟩
 have HB10:=Lib.hid (bel_both (bel_both HB7.out (bel_both HB9.out hb)) (bel2 w10 (arrO h10 u10) F))
 have HA10:=Lib.hid (AV.step ha10 (bel2 w10 (arrO h10 u10) F))
 have HV10:=Lib.hid ((at9_new w10 h10 u10).below (bel1 _ F))
 have hf:=heap_alloc_new (w10.alloc (arrO h10 u10)) F
 rw [show (w10.alloc (arrO h10 u10)).heap.size=w10.heap.size+1 by simp] at hf
 have HFB:=Lib.hid hf
 have HF:=Lib.hid hF
 clear hb ha10 HB7 HB9 HA7 HA9 hf hF
 rw [HF.out] at HB10 HA10 HV10 HFB
 have HN11:=Lib.hid (rnums_any _ _ noH _ (noH_lt _) (reads_two HFB.out) (by simp))
 unfold PlR at HN11
 go_wp2_with fail
 refine HN11.out.mono ?_
 rintro e w11 ⟨h11,x11,rfl,hp11,hb⟩
 have HB11:=Lib.hid (bel_both hb (bel1 w11 (plO h11 x11 0)))
 have HB12:=Lib.hid (bel_both HB10.out HB11.out)
 have HP11:=Lib.hid (hp11.step (bel1 w11 (plO h11 x11 0)))
 have HV11:=Lib.hid (at3_box w11 h11 x11 0)
 have HA11:=Lib.hid (AV.step HA10.out HB11.out)
 have HV12:=Lib.hid (HV10.out.below HB11.out)
 have HA5':=Lib.hid (AV.step HA5.out HB12.out)
 have HV5':=Lib.hid (HV5.out.below HB12.out)
 have HBE:=Lib.hid (bel_both HB1.out (bel_both HB5.out HB12.out))
 obtain ⟨c0,c1,c2,c3,c4,c5,c6,c7,c8⟩:=HV5'.out.c
 obtain ⟨d0,d1,d2⟩:=at3_c HV11.out
 clear hb hp11 HN11 HB10 HB11 HB12 HA10 HV10 HA5 HV5 HB1 HB5 HFB HF
 go_wp2_with fail
 refine (shows24_ok (noH_lt _) good1112 (sm_2 _ _ _) HA5'.out HP11.out).mono ?_
 rintro e w12 ⟨rfl,hb⟩
 have HB13:=Lib.hid hb
 have HPB:=Lib.hid (pv_boxed (HP11.out.step hb))
 have HA13:=Lib.hid (AV.step HA11.out (bel_both hb (bel2 w12 (plO h11 x11 0) (itO 2 0 0 (some ⟨w12.heap.size,0,none⟩,1,1)))))
 have HBF:=Lib.hid (bel_both HBE.out (bel_both hb (bel2 w12 (plO h11 x11 0) (itO 2 0 0 (some ⟨w12.heap.size,0,none⟩,1,1)))))
 have hv:=HV12.out.below hb
 have hd:=HV11.out.belowP hb
 clear hb c0 c1 c2 c3 c4 c5 c6 c7 c8 d0 d1 d2
 obtain ⟨c0,c1,c2,c3,c4,c5,c6,c7,c8⟩:=hv.c
 obtain ⟨d0,d1,d2⟩:=at3_c hd
 clear hv hd
 have hst:=fun md=>st_item (w12.alloc (plO h11 x11 0)) 2 0 0 0 (.slice none 0 0) 59 md
 go_wp2_with fail
 refine (shows24_ok (noH_lt _) (good_box good1112') (sm_b (sm_2 _ _ _) _) HA13.out HPB.out).mono ?_
 rintro e w13 ⟨rfl,hb⟩
 have HBG:=Lib.hid (bel_both HBF.out hb)
 clear hb
 go_wp2
 go_ret
 exact ⟨rfl,HBG.out⟩
structure LwS (w wr:World) (h1 x1:Sl) (f1:Int) (h2 x2:Sl) (f2:Int) (W:World):Prop where
 p2:P2 w W h1 x1 f1 h2 x2 f2
 bel:Below wr.heap.size wr W
 lo:w.heap.size+2<=wr.heap.size
theorem LwS.step {w wr W W':World}{h1 x1 h2 x2:Sl}{f1 f2:Int} (g:LwS w wr h1 x1 f1 h2 x2 f2 W) (hb:Below W.heap.size W W'):LwS w wr h1 x1 f1 h2 x2 f2 W':=⟨g.p2.step hb,bel_both g.bel hb,g.lo⟩
theorem LwS.put {w wr W:World}{h1 x1 h2 x2:Sl}{f1 f2:Int} (g:LwS w wr h1 x1 f1 h2 x2 f2 W){b j:Nat} (hb:wr.heap.size<=b) (u:Value):LwS w wr h1 x1 f1 h2 x2 f2 (W.setCell ⟨b,j,none⟩ u):=⟨g.p2.more ((Below.refl _ W).setCell (by show _<=b;have:=g.lo;omega) u),g.bel.setCell (by show _<=b;exact hb) u,g.lo⟩
theorem LwS.dr {w wr W:World}{h1 x1 h2 x2:Sl}{f1 f2:Int} (g:LwS w wr h1 x1 f1 h2 x2 f2 W):LwS w wr h1 x1 f1 h2 x2 f2 W.drew:=g.step (Below.refl _ W).drew
theorem LwS.al {w wr W:World}{h1 x1 h2 x2:Sl}{f1 f2:Int} (g:LwS w wr h1 x1 f1 h2 x2 f2 W) (o:Obj):LwS w wr h1 x1 f1 h2 x2 f2 (W.alloc o):=g.step (bel1 W o)
theorem LwS.self {w wr W:World}{h1 x1 h2 x2:Sl}{f1 f2:Int} (g:LwS w wr h1 x1 f1 h2 x2 f2 W):LwS w wr h1 x1 f1 h2 x2 f2 W:=g
theorem sm_cl {t:RP} (h:cntP t<=1500):SmA 1000000 (clP t):=SmA.up (by decide) _ (smP t h)
structure P1 (w W:World) (h x:Sl) (f:Int):Prop where
 one:At3 W w.heap.size 0 h x f
 res:W.heap[w.heap.size+1]?=some (plO nilS nilS 0)
 bel:Below w.heap.size w W
theorem P1.step {w W W':World}{h x:Sl}{f:Int} (g:P1 w W h x f) (hb:Below W.heap.size W W'):P1 w W' h x f:=⟨At3.belowP g.one hb,by rw [hb.block _ (lt_blk g.res)];exact g.res,bel_both g.bel hb⟩
theorem P1.sz {w W:World}{h x:Sl}{f:Int} (g:P1 w W h x f):w.heap.size+2<=W.heap.size:=lt_blk g.res
theorem P1.new (w:World) (h x:Sl) (f:Int):P1 w ((w.alloc (plO h x f)).alloc (plO nilS nilS 0)) h x f:=by
 have h1:=heap_alloc_new (w.alloc (plO h x f)) (plO nilS nilS 0)
 rw [show (w.alloc (plO h x f)).heap.size=w.heap.size+1 by simp] at h1
 exact ⟨At3.belowP (at3_box w h x f) (bel1 _ _),h1,bel2 w _ _⟩
abbrev shInts (s:List Nat):List Value:=(s.map Int.ofNat).map (Value.int .i64)
theorem rawP_mk (a:PA):∃ items,rawP a= .mk (a.shape.map Int.ofNat) items (a.fill:Nat)/\items.length=a.len:=by
 cases a with
 | nums s l=>exact ⟨_,by rw [rawP];rfl,by simp [PA.len]⟩
 | chars s l=>exact ⟨_,by rw [rawP];rfl,by simp [PA.len]⟩
 | boxes s l=>exact ⟨_,by rw [rawP];rfl,rawBs_len l⟩
theorem pv_heads {H:Nat->Prop}{w:World}{a:PA}{h x:Sl}{f:Int} (g:PV H w (rawP a) h x f):RdH H w (sv h) (shInts a.shape)/\f=(a.fill:Nat)/\x.2.1=a.len:=by
 obtain ⟨items,e,hl⟩:=rawP_mk a
 rw [e] at g
 obtain ⟨g1,g2,g3,_⟩:=g.open_
 exact ⟨g1,g2,by rw [g3,hl]⟩
def ArgOk (H:Nat->Prop) (w:World) (a:PA) (h x:Sl) (f:Int):Prop :=
 (a.fill≠2/\RdH H w (sv h) (shInts a.shape)/\∃ H1:Nat->Prop,(∀ b,H1 b->b < w.heap.size)/\PV H1 w (rawP a) h x f)\/PV H w (rawP a) h x f
theorem ArgOk.sh {H:Nat->Prop}{w:World}{a:PA}{h x:Sl}{f:Int} (g:ArgOk H w a h x f):RdH H w (sv h) (shInts a.shape):=by
 rcases g with ⟨_,g,_⟩ | g
 ·exact g
 ·exact (pv_heads g).1
theorem ArgOk.pv {H:Nat->Prop}{w:World}{a:PA}{h x:Sl}{f:Int} (hH:∀ b,H b->b < w.heap.size) (g:ArgOk H w a h x f):∃ H1:Nat->Prop,(∀ b,H1 b->b < w.heap.size)/\PV H1 w (rawP a) h x f:=by
 rcases g with ⟨_,_,g⟩ | g
 ·exact g
 ·exact ⟨H,hH,g⟩
theorem ArgOk.box {H:Nat->Prop}{w:World}{a:PA}{h x:Sl}{f:Int} (g:ArgOk H w a h x f) (hf:a.fill=2):PV H w (rawP a) h x f:=by
 rcases g with ⟨h0,_⟩ | g
 ·exact absurd hf h0
 ·exact g
def PvIf (H:Nat->Prop) (r:Int×PA) (h x:Sl) (fo:Int) (W:World):Prop:=r.1=0->PV H W (rawP r.2) h x fo
def RtU (H:Nat->Prop) (w:World) (r:Int×PA) (e:Ending) (w':World):Prop:=∃ (h x:Sl) (fo:Int),e= .returned (.tuple #[plV h x fo,.int .i64 r.1])/\PvIf H r h x fo w'/\Below w.heap.size w w'
theorem rtU_err {H:Nat->Prop}{w w':World}{r:Int×PA}{E:Int} (h0:r.1=E) (hE:E≠0) (hb:Below w.heap.size w w'):RtU H w r (.returned (.tuple #[plV nilS nilS 0,.int .i64 E])) w':=⟨nilS,nilS,0,by rw [h0],fun e=>absurd (h0.symm.trans e) hE,hb⟩
theorem rtU_ok {H:Nat->Prop}{w w':World}{r:Int×PA}{h x:Sl}{fo:Int} (h0:r.1=0) (hp:PV H w' (rawP r.2) h x fo) (hb:Below w.heap.size w w'):RtU H w r (.returned (.tuple #[plV h x fo,.int .i64 0])) w':=⟨h,x,fo,by rw [h0],fun _=>hp,hb⟩
def BelT (w1 W:World):Prop:=Below w1.heap.size w1 W
theorem BelT.refl (w:World):BelT w w:=Below.refl _ _
theorem BelT.step {w1 W W':World} (g:BelT w1 W) (hb:Below W.heap.size W W'):BelT w1 W':=bel_both g hb
theorem BelT.dr {w1 W:World} (g:BelT w1 W):BelT w1 W.drew:=g.step (Below.refl _ W).drew
theorem BelT.al {w1 W:World} (g:BelT w1 W) (o:Obj):BelT w1 (W.alloc o):=g.step (bel1 W o)
theorem BelT.self {w1 W:World} (g:BelT w1 W):Below w1.heap.size w1 W:=g
structure P3 (w W:World) (h1 x1:Sl) (f1:Int) (h2 x2:Sl) (f2:Int):Prop where
 p2:P2 w W h1 x1 f1 h2 x2 f2
 res:W.heap[w.heap.size+2]?=some (plO nilS nilS 0)
theorem P3.step {w W W':World}{h1 x1 h2 x2:Sl}{f1 f2:Int} (g:P3 w W h1 x1 f1 h2 x2 f2) (hb:Below W.heap.size W W'):P3 w W' h1 x1 f1 h2 x2 f2:=⟨g.p2.step hb,by rw [hb.block _ (lt_blk g.res)];exact g.res⟩
theorem P3.more {w W W':World}{h1 x1 h2 x2:Sl}{f1 f2:Int} (g:P3 w W h1 x1 f1 h2 x2 f2) (hb:Below (w.heap.size+3) W W'):P3 w W' h1 x1 f1 h2 x2 f2:=⟨g.p2.more (hb.mono (by omega)),by rw [hb.block _ (by omega)];exact g.res⟩
theorem P3.sz {w W:World}{h1 x1 h2 x2:Sl}{f1 f2:Int} (g:P3 w W h1 x1 f1 h2 x2 f2):w.heap.size+3<=W.heap.size:=lt_blk g.res
theorem P3.new (w:World) (h1 x1:Sl) (f1:Int) (h2 x2:Sl) (f2:Int):P3 w (((w.alloc (plO h1 x1 f1)).alloc (plO h2 x2 f2)).alloc (plO nilS nilS 0)) h1 x1 f1 h2 x2 f2:=by
 have h:=heap_alloc_new ((w.alloc (plO h1 x1 f1)).alloc (plO h2 x2 f2)) (plO nilS nilS 0)
 rw [show ((w.alloc (plO h1 x1 f1)).alloc (plO h2 x2 f2)).heap.size=w.heap.size+2 by simp] at h
 exact ⟨(P2.new w h1 x1 f1 h2 x2 f2).step (bel1 _ _),h⟩
structure RtS (w wr:World) (h1 x1:Sl) (f1:Int) (h2 x2:Sl) (f2:Int) (W:World):Prop where
 p3:P3 w W h1 x1 f1 h2 x2 f2
 bel:Below wr.heap.size wr W
 lo:w.heap.size+3<=wr.heap.size
theorem RtS.step {w wr W W':World}{h1 x1 h2 x2:Sl}{f1 f2:Int} (g:RtS w wr h1 x1 f1 h2 x2 f2 W) (hb:Below W.heap.size W W'):RtS w wr h1 x1 f1 h2 x2 f2 W':=⟨g.p3.step hb,bel_both g.bel hb,g.lo⟩
theorem RtS.put {w wr W:World}{h1 x1 h2 x2:Sl}{f1 f2:Int} (g:RtS w wr h1 x1 f1 h2 x2 f2 W){b j:Nat} (hb:wr.heap.size<=b) (u:Value):RtS w wr h1 x1 f1 h2 x2 f2 (W.setCell ⟨b,j,none⟩ u):=⟨g.p3.more ((Below.refl _ W).setCell (by show _<=b;have:=g.lo;omega) u),g.bel.setCell (by show _<=b;exact hb) u,g.lo⟩
theorem RtS.dr {w wr W:World}{h1 x1 h2 x2:Sl}{f1 f2:Int} (g:RtS w wr h1 x1 f1 h2 x2 f2 W):RtS w wr h1 x1 f1 h2 x2 f2 W.drew:=g.step (Below.refl _ W).drew
theorem RtS.al {w wr W:World}{h1 x1 h2 x2:Sl}{f1 f2:Int} (g:RtS w wr h1 x1 f1 h2 x2 f2 W) (o:Obj):RtS w wr h1 x1 f1 h2 x2 f2 (W.alloc o):=g.step (bel1 W o)
theorem RtS.self {w wr W:World}{h1 x1 h2 x2:Sl}{f1 f2:Int} (g:RtS w wr h1 x1 f1 h2 x2 f2 W):RtS w wr h1 x1 f1 h2 x2 f2 W:=g
def ZO (o:Obj) (Z:Nat) (W:World):Prop:=W.heap[Z]?=some o
theorem ZO.new (o:Obj) (W:World):ZO o W.heap.size (W.alloc o):=heap_alloc_new W _
theorem ZO.dr {o:Obj}{Z:Nat}{W:World} (g:ZO o Z W):ZO o Z W.drew:=g
theorem ZO.step {o:Obj}{Z:Nat}{W W':World} (g:ZO o Z W) (hb:Below W.heap.size W W'):ZO o Z W':=by
 unfold ZO at g ⊢
 rw [hb.block _ (lt_blk g)]
 exact g
structure RtI (K:Nat->Prop) (w U:World) (G:Nat) (h1 x1:Sl) (f1:Int) (h2 x2:Sl) (f2:Int) (s:Sl) (fo:Int) (l:List RI) (v:Value) (W:World):Prop where
 own:IOwn K W U.heap.size v l
 out:W.heap[G]?=some (.cells #[sv s,v,.int .i64 fo] 25)
 p3:P3 w W h1 x1 f1 h2 x2 f2
 lat:Lat (fun b=>b=G) U W
 big:w.heap.size+3<=G
 old:G < U.heap.size
theorem RtI.step {K:Nat->Prop}{w U W W':World}{G:Nat}{h1 x1 h2 x2:Sl}{f1 f2:Int}{s:Sl}{fo:Int}{l:List RI}{v:Value} (g:RtI K w U G h1 x1 f1 h2 x2 f2 s fo l v W) (hb:Below W.heap.size W W'):RtI K w U G h1 x1 f1 h2 x2 f2 s fo l v W' :=
 ⟨g.own.below hb,by rw [hb.block _ (lt_blk g.out)];exact g.out,g.p3.step hb,g.lat.trans (Lat.below hb),g.big,g.old⟩
theorem RtI.sz {K:Nat->Prop}{w U W:World}{G:Nat}{h1 x1 h2 x2:Sl}{f1 f2:Int}{s:Sl}{fo:Int}{l:List RI}{v:Value} (g:RtI K w U G h1 x1 f1 h2 x2 f2 s fo l v W):U.heap.size<=W.heap.size:=g.lat.size
theorem RtI.push {K:Nat->Prop}{w U W w':World}{G:Nat}{h1 x1 h2 x2:Sl}{f1 f2:Int}{s:Sl}{fo:Int}{l:List RI}{v v':Value}{A:RI} (g:RtI K w U G h1 x1 f1 h2 x2 f2 s fo l v W) (hKG:K G) (hK:∀ b,K b->b < U.heap.size) (hown:IOwn K w' U.heap.size v' (l++[A])) (hb:Below U.heap.size W w') :
  RtI K w U G h1 x1 f1 h2 x2 f2 s fo (l++[A]) v' (w'.setCell ⟨G,1,none⟩ v'):=by
 have hbig:=g.big
 have hold:=g.old
 have e2:w'.heap[G]?=some (.cells #[sv s,v,.int .i64 fo] 25):=by rw [hb.block _ (by omega)];exact g.out
 have l1:Lat (fun b=>b=G) U w':=⟨Nat.le_trans g.lat.size hb.size,fun b hl hn=>by rw [hb.block b hl,g.lat.block b hl hn]⟩
 refine ⟨hown.lat (Lat.set (a:=⟨G,1,none⟩) hKG v') (fun b e h2=>by
  have:=(hown.own_lt e).1
  have:=hK b h2
  omega),?_,(g.p3.more (hb.mono (by omega))).more ((Below.refl _ _).setCell (by show _<=G;omega) _),l1.setU (.inl rfl) _,hbig,hold⟩
 have h1:=heap_setCell_same _ G 1 _ _ v' e2
 rw [show (#[sv s,v,.int .i64 fo]:Array Value).setIfInBounds 1 v'=#[sv s,v',.int .i64 fo] by simp] at h1
 exact h1
theorem RtI.done {H K:Nat->Prop}{w U W:World}{G:Nat}{h1 x1 h2 x2:Sl}{f1 f2:Int}{s:Sl}{fo:Int}{sh:List Nat}{l:List RI}{v:Value} (g:RtI K w U G h1 x1 f1 h2 x2 f2 s fo l v W) (hKG:K G) (hKr:K (w.heap.size+2)) (hKH:∀ b,H b->K b) (hK:∀ b,K b->b < U.heap.size) (hs:RdH K U (sv s) (shInts sh)) (a0 a1 a2:Value) :
  ∃ x:Sl,v=sv x/\PV H (set3 W (w.heap.size+2) a0 a1 a2) (.mk (sh.map Int.ofNat) l fo) s x fo:=by
 obtain ⟨x,e,hp⟩:=g.own.pv hK (Keeps.lat hs (g.lat.wide fun b e=>by subst e;exact hKG)) fo
 exact ⟨x,e,PV.sub (fun b _ e=>hKH b e) (PV.lat (Lat.set3 (G:=w.heap.size+2) hKr a0 a1 a2) hp)⟩
theorem ret_plain2 {fn:Func}{p u:Tmp} (h:fn.results=#[.cell p 25,.tmp u]) (tmps:Array Value) (w:World) (G:Nat){e:TypeId}{a0 a1 a2:Value}
  (hp:tmps.getD p undef= .pointer (some ⟨G,0,none⟩)) (hg:w.heap[G]?=some (.cells #[a0,a1,a2] e)) :
  (results fn tmps).run Tryz.prog w= .ok (.tuple #[.agg #[a0,a1,a2],tmps.getD u undef]) w:=by
 rw [results_cell_tmp h,hp]
 have:=run_loadVar_row (P:=Tryz.prog) w G e 25 _ (0,0) _ hg Tryz.underlying25 rfl plain_size
 simp [asAddr,Result.andThen,this]
theorem rawBs_map (l:List PA):rawBs l=l.map fun a=>RI.mk 2 0 0 [rawP a]:=by
 induction l with
 | nil=>rw [rawBs];rfl
 | cons a l ih=>rw [rawBs,ih];rfl
theorem bxE_raw {n:Nat}{R:Nat->Int×PA}{sh:List Nat} (h:∀ j,j < n->(R j).1=0):(bxE n R sh).1=0/\rawP (bxE n R sh).2= .mk (sh.map Int.ofNat) ((List.range n).map fun j=>RI.mk 2 0 0 [rawP (R j).2]) 2:=by
 rw [bxE_ok sh h]
 refine ⟨rfl,?_⟩
 rw [rawP,rawBs_map,List.map_map]
 rfl
end Go.Proofs.YtiahegjdkejjpaaGreatDoor
