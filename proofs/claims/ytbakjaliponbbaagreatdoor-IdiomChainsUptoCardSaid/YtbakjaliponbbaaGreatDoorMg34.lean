/- The walk of the reference's Match over trees: kinds other than 8 and 10. Printed by gen_trmi.py. The walk of the reference's Match over trees: kind 8. Printed .. Conditions: as each theorem says. -/
import Derived.Test.YtbakjaliponbbaaGreatDoorMg33
import Derived.Test.YtbakjaliponbbaaGreatDoorMg17
import Derived.Test.YtbakjaliponbbaaGreatDoorMg13
import Derived.Test.YtbakjaliponbbaaGreatDoorMg32
import Derived.Test.YtbakjaliponbbaaGreatDoorMg23
import Derived.Test.YtbakjaliponbbaaGreatDoorMg22
set_option maxRecDepth 100000
set_option maxHeartbeats 4000000
namespace Go.Proofs.YtbakjaliponbbaaGreatDoor
open Go Go.RowKit Go.Proofs Fl
structure RtS (w W:World) (vs:List Value) (W':World):Prop where
 box:BoxT W W' vs
 res:W'.heap[W.heap.size+1]?=some (.cells #[.int .i64 0,.int .i32 0,.int .i32 0] 68)
 old:Below w.heap.size w W'
 hw:w.heap.size<=W.heap.size
theorem RtS.step {w W W' W2:World}{vs:List Value} (g:RtS w W vs W') (hb:Below W'.heap.size W' W2):RtS w W vs W2:=⟨g.box.step hb,by rw [hb.block _ (lt_blk g.res)];exact g.res,bel_both g.old hb,g.hw⟩
theorem RtS.sz {w W W':World}{vs:List Value} (g:RtS w W vs W'):W.heap.size+2<=W'.heap.size:=lt_blk g.res
theorem BoxT.c6 {w W:World}{v0 v1 v2 v3 v4 v5:Value} (h:BoxT w W [v0,v1,v2,v3,v4,v5]):(W.cell? ⟨w.heap.size,0,none⟩=some (v0)/\W.cell? ⟨w.heap.size,1,none⟩=some (v1)/\W.cell? ⟨w.heap.size,2,none⟩=some (v2)/\W.cell? ⟨w.heap.size,3,none⟩=some (v3)/\W.cell? ⟨w.heap.size,4,none⟩=some (v4)/\W.cell? ⟨w.heap.size,5,none⟩=some (v5)) :=
 ⟨h.1 0,h.1 1,h.1 2,h.1 3,h.1 4,h.1 5⟩
structure RtX (w W:World) (vs:List Value) (X Y:Nat) (xs ys:List Value) (W':World):Prop where
 rts:RtS w W vs W'
 cx:∀ j,W'.cell? ⟨X,j,none⟩=xs[j]?
 cy:∀ j,W'.cell? ⟨Y,j,none⟩=ys[j]?
 lx:X < W'.heap.size
 ly:Y < W'.heap.size
theorem RtX.step {w W W' W2:World}{vs:List Value}{X Y:Nat}{xs ys:List Value} (g:RtX w W vs X Y xs ys W') (hb:Below W'.heap.size W' W2):RtX w W vs X Y xs ys W2 :=
 ⟨g.rts.step hb,fun j=>by rw [hb.cell (p:=⟨X,j,none⟩) g.lx];exact g.cx j,fun j=>by rw [hb.cell (p:=⟨Y,j,none⟩) g.ly];exact g.cy j,by have:=hb.size;have:=g.lx;omega,by have:=hb.size;have:=g.ly;omega⟩
theorem RtX.cells {w W W':World}{vs:List Value}{X Y:Nat}{x0 x1 x2 x3 x4 x5 y0 y1 y2 y3 y4 y5:Value} (g:RtX w W vs X Y [x0,x1,x2,x3,x4,x5] [y0,y1,y2,y3,y4,y5] W') :
  (W'.cell? ⟨X,0,none⟩=some (x0)/\W'.cell? ⟨X,1,none⟩=some (x1)/\W'.cell? ⟨X,2,none⟩=some (x2)/\W'.cell? ⟨X,3,none⟩=some (x3)/\W'.cell? ⟨X,4,none⟩=some (x4)/\W'.cell? ⟨X,5,none⟩=some (x5))/\(W'.cell? ⟨Y,0,none⟩=some (y0)/\W'.cell? ⟨Y,1,none⟩=some (y1)/\W'.cell? ⟨Y,2,none⟩=some (y2)/\W'.cell? ⟨Y,3,none⟩=some (y3)/\W'.cell? ⟨Y,4,none⟩=some (y4)/\W'.cell? ⟨Y,5,none⟩=some (y5)) :=
 ⟨⟨g.cx 0,g.cx 1,g.cx 2,g.cx 3,g.cx 4,g.cx 5⟩,⟨g.cy 0,g.cy 1,g.cy 2,g.cy 3,g.cy 4,g.cy 5⟩⟩
theorem RtX.more {w W W0:World}{vs xs:List Value}{X:Nat} (g:RtX w W vs X X xs xs W0) (ys:List Value) (T:TypeId):RtX w W vs X W0.heap.size xs ys (W0.alloc (.cells ys.toArray T)):=by
 have hbx:=boxedT W0 ys T
 have g2:=g.step (bel1 W0 (.cells ys.toArray T))
 exact ⟨g2.rts,g2.cx,hbx.1,g2.lx,hbx.2.2⟩
theorem RtX.dr {w W W':World}{vs:List Value}{X Y:Nat}{xs ys:List Value} (g:RtX w W vs X Y xs ys W'):RtX w W vs X Y xs ys W'.drew:=g.step (Below.refl _ W').drew
theorem RtX.al {w W W':World}{vs:List Value}{X Y:Nat}{xs ys:List Value} (g:RtX w W vs X Y xs ys W') (o:Obj):RtX w W vs X Y xs ys (W'.alloc o):=g.step (bel1 W' o)
theorem RtX.self {w W W':World}{vs:List Value}{X Y:Nat}{xs ys:List Value} (g:RtX w W vs X Y xs ys W'):RtX w W vs X Y xs ys W':=g
def FineR (t:RP) (w:World) (e:Ending) (w':World):Prop:=∃ b:Bool,e= .returned (.bool b)/\(b=true->OkP 40 t/\cntP t<=1500)/\Below w.heap.size w w'
structure LdQ (w0:World) (G:Nat) (h:Sl) (p:V8) (h1 x1:Sl) (f:Int) (W:World):Prop where
 one:At9 W G 0 h p
 two:At3 W (G+1) 0 h1 x1 f
 bel:Below w0.heap.size w0 W
theorem LdQ.new (w:World) (h:Sl) (p:V8) (h1 x1:Sl) (f:Int):LdQ ((w.alloc (arrO h p)).alloc (plO h1 x1 f)) w.heap.size h p h1 x1 f ((w.alloc (arrO h p)).alloc (plO h1 x1 f)):=by
 have g:=at3_box (w.alloc (arrO h p)) h1 x1 f
 have e:(w.alloc (arrO h p)).heap.size=w.heap.size+1:=by simp
 rw [e] at g
 exact ⟨(at9_new w h p).below (bel1 _ _),g,Below.refl _ _⟩
theorem LdQ.step {w0 W W':World}{G:Nat}{h:Sl}{p:V8}{h1 x1:Sl}{f:Int} (g:LdQ w0 G h p h1 x1 f W) (hb:Below W.heap.size W W'):LdQ w0 G h p h1 x1 f W' :=
 ⟨g.one.below hb,g.two.of fun j=>hb.cell (p:=⟨G+1,j,none⟩) g.two.lt,bel_both g.bel hb⟩
theorem LdQ.dr {w0 W:World}{G:Nat}{h:Sl}{p:V8}{h1 x1:Sl}{f:Int} (g:LdQ w0 G h p h1 x1 f W):LdQ w0 G h p h1 x1 f W.drew:=g.step (Below.refl _ W).drew
theorem LdQ.self {w0 W:World}{G:Nat}{h:Sl}{p:V8}{h1 x1:Sl}{f:Int} (g:LdQ w0 G h p h1 x1 f W):LdQ w0 G h p h1 x1 f W:=g
theorem ldq_s {w0 W:World}{G:Nat}{h:Sl}{p:V8}{h1 x1:Sl}{f:Int} (g:LdQ w0 G h p h1 x1 f W):(W.cell? ⟨G,0,none⟩=some (.slice h.1 h.2.1 h.2.2)/\W.cell? ⟨G,1,none⟩=some (.int .i64 p.k)/\W.cell? ⟨G,2,none⟩=some (.slice p.b.1 p.b.2.1 p.b.2.2)/\W.cell? ⟨G,3,none⟩=some (.int .i64 p.bn) /\
  W.cell? ⟨G,4,none⟩=some (.slice p.s.1 p.s.2.1 p.s.2.2)/\W.cell? ⟨G,5,none⟩=some (.slice p.i.1 p.i.2.1 p.i.2.2)/\W.cell? ⟨G,6,none⟩=some (.slice p.f.1 p.f.2.1 p.f.2.2)/\W.cell? ⟨G,7,none⟩=some (.slice p.c.1 p.c.2.1 p.c.2.2)/\W.cell? ⟨G,8,none⟩=some (.slice p.x.1 p.x.2.1 p.x.2.2)) /\
  (W.cell? ⟨G+1,0,none⟩=some (.slice h1.1 h1.2.1 h1.2.2)/\W.cell? ⟨G+1,1,none⟩=some (.slice x1.1 x1.2.1 x1.2.2)/\W.cell? ⟨G+1,2,none⟩=some (.int .i64 f))/\LdQ w0 G h p h1 x1 f W:=⟨g.one.c,at3_c g.two,g⟩
theorem fine34_any (t:RP) (h x:Sl) (f:Int) (w:World) (hfit:FitP t) (hM:cntP t<=1048576) (hr:PV (fun _=>False) w t h x f) :
  Calls Tryz.prog 13 #[plV h x f] w (FineR t w):=by
 have HB0:=Lib.hid (bel1 w (plO h x f))
 have HX0:=Lib.hid (at3_box w h x f)
 have HCN:=Lib.hid (cnt_walk 3000 (cntP t) t h x f (w.alloc (plO h x f)) (Nat.le_refl _) hM (hr.step HB0.out))
 have HCK:=Lib.hid (fun W (hb:Below w.heap.size w W)=>check_any t h x f W hfit hM (hr.step hb))
 clear hfit hM hr
 go_enter Tryz.func13,Tryz.ntmps13
 go_wp2_with fail
 refine HCN.out.mono ?_
 rintro e w1 ⟨⟨n,rfl,hn⟩,hb⟩
 have HN:=Lib.hid hn
 have HB1:=Lib.hid (bel_both HB0.out hb)
 have HX1:=Lib.hid (HX0.out.of fun j=>hb.cell (p:=⟨w.heap.size,j,none⟩) HX0.out.lt)
 clear hb hn
 obtain ⟨c0,c1,c2⟩:=at3_c HX1.out
 by_cases h1:(n:Int)<=1500
 ·have h1':decide ((n:Int)<=1500)=true:=decide_eq_true h1
  by_cases h2:(h.2.1:Int)<=8
  ·have h2':decide ((h.2.1:Int)<=8)=true:=decide_eq_true h2
   have h2n:h.2.1<=8:=by omega
   have HN1:Hid (cntP t<=1500):=by
    have:=HN.out.2.2 (by omega)
    unfold Hid;omega
   clear h1
   go_wp2_with fail
   refine (HCK.out _ HB1.out).mono ?_
   rintro e w2 ⟨⟨z,rfl,hz⟩,hb⟩
   have HB2:=Lib.hid (bel_both HB1.out hb)
   have HZ:=Lib.hid hz
   clear hb hz c0 c1 c2
   go_wp2
   go_ret
   exact ⟨_,rfl,fun e=>⟨HZ.out (by simpa using e),HN1.out⟩,HB2.out⟩
  ·have h2':decide ((h.2.1:Int)<=8)=false:=decide_eq_false h2
   have h2n:¬ h.2.1<=8:=by omega
   clear h1
   go_wp2
   go_ret
   exact ⟨false,rfl,(fun e=>by cases e),HB1.out⟩
 ·have h1':decide ((n:Int)<=1500)=false:=decide_eq_false h1
  go_wp2
  go_ret
  exact ⟨false,rfl,(fun e=>by cases e),HB1.out⟩
theorem shows34_ok {H H':Nat->Prop}{a:PA}{h:Sl}{p:V8}{h1 x1:Sl}{f:Int}{w:World} (hH:∀ b,H b->b < w.heap.size) (hg:GoodA 40 a) (hs:SmA 1000000 a) (hav:AV H w a h p) (hpv:PV H' w (rawP a) h1 x1 f) :
  Calls Tryz.prog 45 #[arrV h p,.int .i64 0,plV h1 x1 f,.int .i64 0] w fun e w'=>e= .returned (.bool true)/\Below w.heap.size w w':=by
 obtain ⟨w0,hw0⟩:∃ w0,w0=(w.alloc (arrO h p)).alloc (plO h1 x1 f):=⟨_,rfl⟩
 have HW0:=Lib.hid hw0
 have HS0:Hid (LdQ w0 w.heap.size h p h1 x1 f w0):=by rw [hw0];exact LdQ.new w h p h1 x1 f
 have HB0:Hid (Below w.heap.size w w0):=by unfold Hid;rw [hw0];exact bel2 _ _ _
 have HGD:=Lib.hid (fun W (hW:LdQ w0 w.heap.size h p h1 x1 f W)=>vgood_any (AV.step hav (bel_both HB0.out hW.bel)) (fun b e=>by have:=hH b e;have:=hW.bel.size;have:=HB0.out.size;omega) hg hs)
 have HPL:=Lib.hid (fun W (hW:LdQ w0 w.heap.size h p h1 x1 f W)=>vplain_any 40 H a h p W (fun b e=>by have:=hH b e;have:=hW.bel.size;have:=HB0.out.size;omega) hg hs (AV.step hav (bel_both HB0.out hW.bel)))
 unfold PlR at HPL
 have hsame:SameC (rawP a):=rsame_raw 40 hg hs
 have HSM:=Lib.hid (fun W (hW:LdQ w0 w.heap.size h p h1 x1 f W) (h2 x2:Sl) (f2:Int) (hp2:PV H W (rawP a) h2 x2 f2)=>hsame H H' h2 x2 h1 x1 f2 f W hp2 (hpv.step (bel_both HB0.out hW.bel)))
 clear hH hg hs hav hpv hsame hw0
 generalize rawP a=t at HPL HSM
 generalize (a.fill:Int)=fl at HPL
 go_enter Tryz.func45,Tryz.ntmps45
 go_wp2_with fail
 rw [<- HW0.out]
 have hs0:=HS0.out.dr
 have hs00:=HS0.out
 go_region_held3 (fun W=>(W.cell? ⟨w.heap.size,0,none⟩=some (.slice h.1 h.2.1 h.2.2)/\W.cell? ⟨w.heap.size,1,none⟩=some (.int .i64 p.k)/\W.cell? ⟨w.heap.size,2,none⟩=some (.slice p.b.1 p.b.2.1 p.b.2.2)/\W.cell? ⟨w.heap.size,3,none⟩=some (.int .i64 p.bn)/\W.cell? ⟨w.heap.size,4,none⟩=some (.slice p.s.1 p.s.2.1 p.s.2.2)/\W.cell? ⟨w.heap.size,5,none⟩=some (.slice p.i.1 p.i.2.1 p.i.2.2)/\W.cell? ⟨w.heap.size,6,none⟩=some (.slice p.f.1 p.f.2.1 p.f.2.2)/\W.cell? ⟨w.heap.size,7,none⟩=some (.slice p.c.1 p.c.2.1 p.c.2.2)/\W.cell? ⟨w.heap.size,8,none⟩=some (.slice p.x.1 p.x.2.1 p.x.2.2))/\(W.cell? ⟨w.heap.size+1,0,none⟩=some (.slice h1.1 h1.2.1 h1.2.2)/\W.cell? ⟨w.heap.size+1,1,none⟩=some (.slice x1.1 x1.2.1 x1.2.2)/\W.cell? ⟨w.heap.size+1,2,none⟩=some (.int .i64 f))/\LdQ w0 w.heap.size h p h1 x1 f W)
  (first | (with_reducible assumption) | (with_reducible (refine ldq_s ?_);repeat (first | (with_reducible assumption) | (with_reducible refine LdQ.dr ?_))))
  (first
   | (go_at_call 91;(with_reducible refine (HGD.out _ ?_).mono ?_);exact LdQ.self (by repeat (first | (with_reducible assumption) | (with_reducible refine LdQ.dr ?_)));rintro e w1 ⟨rfl,hb1⟩;have hst1:LdQ w0 w.heap.size h p h1 x1 f w1:=LdQ.step (by repeat (first | (with_reducible assumption) | (with_reducible refine LdQ.dr ?_))) hb1;clear hb1)
   | (go_at_call 93;(with_reducible refine (HPL.out _ ?_).mono ?_);exact LdQ.self (by repeat (first | (with_reducible assumption) | (with_reducible refine LdQ.dr ?_)));rintro e w2 ⟨h2,x2,rfl,hpv2,hb2⟩;have hst2:LdQ w0 w.heap.size h p h1 x1 f w2:=LdQ.step (by repeat (first | (with_reducible assumption) | (with_reducible refine LdQ.dr ?_))) hb2;have HSC:=Lib.hid (HSM.out w2 hst2 h2 x2 fl hpv2);clear hb2 hpv2)
   | (go_at_call 92;(with_reducible refine HSC.out.mono ?_);rintro e w3 ⟨rfl,hb3⟩;have hst3:LdQ w0 w.heap.size h p h1 x1 f w3:=LdQ.step hst2 hb3;clear hb3))
 all_goals
  go_wp2
  go_ret
  exact ⟨rfl,bel_both HB0.out hst3.bel⟩
theorem f5_34:fi 5=4617315517961601024:=by decide+kernel
theorem f6_34:fi 6=4618441417868443648:=by decide+kernel
theorem f7_34:fi 7=4619567317775286272:=by decide+kernel
abbrev l567:List Nat:=[4617315517961601024,4618441417868443648,4619567317775286272]
abbrev a567:PA := .nums [3] l567
abbrev a7:PA := .nums [] [4619567317775286272]
theorem tf7_34:TF 4619567317775286272:=f7_34▸tf_small (by decide)
theorem all567:∀ z∈l567,TF z:=by
 intro z hz
 simp at hz
 rcases hz with rfl | rfl | rfl
 ·exact f5_34▸tf_small (by decide)
 ·exact f6_34▸tf_small (by decide)
 ·exact tf7_34
theorem good7:GoodA 40 a7:=good_nums sh0 (all1 tf7_34)
theorem part567:partA a567 2=a7:=by rw [partA,ixP_in (show 2 < l567.length by decide)];rfl
theorem sh3_34:OkSh [3] 3:=⟨by decide,by decide,rfl⟩
theorem reads_3 {W:World}{B:Nat}{e:TypeId}{x y z:Nat} (h:W.heap[B]?=some (.cells #[.float .f64 x,.float .f64 y,.float .f64 z] e)):Reads1 W (.slice (some ⟨B,0,none⟩) 3 3) ([x,y,z].map (Value.float .f64)):=by
 refine .inr ⟨B,0,3,3,rfl,rfl,fun j hj=>?_⟩
 have hj2:j < 3:=by simpa using hj
 rw [cell_of_row _ B (0+j) _ e (0,0) h]
 match j,hj2 with
 | 0,_=>rfl
 | 1,_=>rfl
 | 2,_=>rfl
structure Ch1 (w W:World) (h:Sl) (p:V8):Prop where
 ph:BoxT w W [.int .i64 1,.int .i32 8835,.int .i32 9021]
 arr:At9 W (w.heap.size+1) 0 h p
 res:W.heap[w.heap.size+2]?=some zeroO
theorem Ch1.bel {w W:World}{h:Sl}{p:V8} (g:Ch1 w W h p):Below w.heap.size w W:=g.ph.2.1
theorem Ch1.step {w W W':World}{h:Sl}{p:V8} (g:Ch1 w W h p) (hb:Below W.heap.size W W'):Ch1 w W' h p:=⟨g.ph.step hb,g.arr.below hb,by rw [hb.block _ (lt_blk g.res)];exact g.res⟩
theorem Ch1.new (w:World) (h:Sl) (p:V8):Ch1 w (((w.alloc (.cells #[.int .i64 1,.int .i32 8835,.int .i32 9021] 63)).alloc (arrO h p)).alloc zeroO) h p:=by
 have h1:=heap_alloc_new ((w.alloc (.cells #[.int .i64 1,.int .i32 8835,.int .i32 9021] 63)).alloc (arrO h p)) zeroO
 rw [show ((w.alloc (.cells #[.int .i64 1,.int .i32 8835,.int .i32 9021] 63)).alloc (arrO h p)).heap.size=w.heap.size+2 by simp] at h1
 have h2:=at9_new (w.alloc (.cells #[.int .i64 1,.int .i32 8835,.int .i32 9021] 63)) h p
 rw [show (w.alloc (.cells #[.int .i64 1,.int .i32 8835,.int .i32 9021] 63)).heap.size=w.heap.size+1 by simp] at h2
 exact ⟨((boxedT w [.int .i64 1,.int .i32 8835,.int .i32 9021] 63).step (bel1 _ _)).step (bel1 _ _),h2.below (bel1 _ _),h1⟩
def AtR (H:Nat->Prop) (w:World) (a:PA) (e:Ending) (w':World):Prop:=∃ h p,e= .returned (.tuple #[arrV h p,.bool true])/\AV H w' a h p/\Below w.heap.size w w'
theorem chain_567 {Ha:Nat->Prop}{h:Sl}{p:V8} (w:World) (g:AV Ha w a567 h p) (hHa:∀ b,Ha b->b < w.heap.size) :
  Calls Tryz.prog 47 #[.agg #[.int .i64 1,.int .i32 8835,.int .i32 9021],arrV h p,.int .i64 1,.int .i64 9] w (AtR Ha w a7):=by
 have HS0:=Lib.hid (Ch1.new w h p)
 have HL:Hid (∀ W,Below w.heap.size w W->Calls Tryz.prog 48 #[p.v] W fun e w'=>e= .returned (.int .i64 3)/\Below W.heap.size W w'):=fun W hb=>av_len g W hb
 have g2:AV (fun b=>Ha b\/b=w.heap.size+2) w a567 h p:=AV.sub (fun b hb e=>by rcases e with e | e;exact e;omega) g
 have HP:=Lib.hid (fun W (hb:Below w.heap.size w W) (hz:w.heap.size+2 < W.heap.size)=>epart_any W (AV.step g2 hb) (fun b e=>by rcases e with e | e;have:=hHa b e;have:=hb.size;omega;omega) 2 (by decide) (by decide))
 rw [part567] at HP
 have hv:(h.2.1:Int)=1:=by have e:h.2.1=1:=g.shape.len;omega
 clear g g2 hHa
 unfold AtR
 unfold AaR at HP
 go_enter Tryz.func47,Tryz.ntmps47
 obtain ⟨h0,h1,h2,h3,h4,h5,h6,h7,h8⟩:=HS0.out.arr.c
 obtain ⟨c0,c1,c2⟩:_/\_/\_:=⟨HS0.out.ph.1 0,HS0.out.ph.1 1,HS0.out.ph.1 2⟩
 go_wp2_with fail
 refine (HL.out _ HS0.out.bel).mono ?_
 rintro e w2 ⟨rfl,hb⟩
 have HS2:=Lib.hid (HS0.out.step hb)
 clear hb h0 h1 h2 h3 h4 h5 h6 h7 h8 c0 c1 c2 HS0
 obtain ⟨h0,h1,h2,h3,h4,h5,h6,h7,h8⟩:=HS2.out.arr.c
 obtain ⟨c0,c1,c2⟩:_/\_/\_:=⟨HS2.out.ph.1 0,HS2.out.ph.1 1,HS2.out.ph.1 2⟩
 go_wp2_with fail
 refine (HP.out _ HS2.out.bel (lt_blk HS2.out.res)).mono ?_
 rintro e w3 ⟨h',p',rfl,hav,hb⟩
 have HS3:=Lib.hid (HS2.out.step hb)
 have HAV:Hid (AV Ha (set9 w3 (w.heap.size+2) (sv h') (.int .i64 p'.k) (sv p'.b) (.int .i64 p'.bn) (sv p'.s) (sv p'.i) (sv p'.f) (sv p'.c) (sv p'.x)) a7 h' p'):=AV.sub (fun b _ e => .inl e) (AV.lat (Lat.set9 (G:=w.heap.size+2) (.inr rfl) _ _ _ _ _ _ _ _ _) hav)
 clear hav hb h0 h1 h2 h3 h4 h5 h6 h7 h8 c0 c1 c2 HS2
 obtain ⟨⟨y0,y1,y2,y3,y4,y5,y6,y7,y8⟩,yz⟩:=zero_block HS3.out.res
 go_wp2
 refine bodyPost_ret (v := .tuple #[arrV h' p',.bool true]) ?_ rfl ⟨h',p',rfl,HAV.out,below_set9 HS3.out.bel (by omega) _ _ _ _ _ _ _ _ _⟩
 exact ret_arr2 (fn:=Tryz.f47) (p:=8) (u:=9) rfl _ _ (w.heap.size+2) (by rfl) (set9_block HS3.out.res _ _ _ _ _ _ _ _ _)
theorem dochain_567 {Ha:Nat->Prop}{h:Sl}{p:V8} (w:World) (g:AV Ha w a567 h p) (hHa:∀ b,Ha b->b < w.heap.size) :
  Calls Tryz.prog 16 #[.agg #[.int .i64 1,.int .i32 8835,.int .i32 9021],arrV h p,.int .i64 1,.int .i64 9] w (AtR Ha w a7):=by
 have HS0:=Lib.hid (Ch1.new w h p)
 have g2:AV (fun b=>Ha b\/b=w.heap.size+2) w a567 h p:=AV.sub (fun b hb e=>by rcases e with e | e;exact e;omega) g
 have HCH:=Lib.hid (fun W (hb:Below w.heap.size w W) (hz:w.heap.size+2 < W.heap.size)=>chain_567 W (AV.step g2 hb) (fun b e=>by rcases e with e | e;have:=hHa b e;have:=hb.size;omega;omega))
 clear g g2 hHa
 unfold AtR at HCH ⊢
 go_enter Tryz.func16,Tryz.ntmps16
 obtain ⟨h0,h1,h2,h3,h4,h5,h6,h7,h8⟩:=HS0.out.arr.c
 obtain ⟨c0,c1,c2⟩:_/\_/\_:=⟨HS0.out.ph.1 0,HS0.out.ph.1 1,HS0.out.ph.1 2⟩
 go_wp2_with fail
 refine (HCH.out _ HS0.out.bel (lt_blk HS0.out.res)).mono ?_
 rintro e w2 ⟨h2,p2,rfl,hav,hb⟩
 have HS2:=Lib.hid ((HS0.out.step hb).step (bel1 w2 (arrO h2 p2)))
 have HAV:=Lib.hid (AV.step hav (bel1 w2 (arrO h2 p2)))
 have HBX:=Lib.hid (at9_new w2 h2 p2)
 have HLT:Hid (w.heap.size+2 < w2.heap.size):=lt_blk (HS0.out.step hb).res
 have HL:Hid (∀ W,Below w2.heap.size w2 W->Calls Tryz.prog 48 #[p2.v] W fun e w'=>e= .returned (.int .i64 1)/\Below W.heap.size W w'):=fun W hb=>av_len hav W hb
 clear hav hb h0 h1 h3 h4 h5 h6 h7 h8 c0 c1 c2 HS0 HCH
 obtain ⟨q0,q1,q2,q3,q4,q5,q6,q7,q8⟩:=HBX.out.c
 go_wp2_with fail
 refine (HL.out _ (bel1 w2 _)).mono ?_
 rintro e w3 ⟨rfl,hb⟩
 have HS3:=Lib.hid (HS2.out.step hb)
 have HBX3:=Lib.hid (HBX.out.below hb)
 have HAV3:=Lib.hid (AV.step HAV.out hb)
 clear hb q0 q1 q2 q3 q4 q5 q6 q7 q8 HBX HS2 HAV
 obtain ⟨q0,q1,q2,q3,q4,q5,q6,q7,q8⟩:=HBX3.out.c
 obtain ⟨⟨y0,y1,y2,y3,y4,y5,y6,y7,y8⟩,yz⟩:=zero_block HS3.out.res
 have HAV:Hid (AV Ha (set9 w3 (w.heap.size+2) (sv h2) (.int .i64 p2.k) (sv p2.b) (.int .i64 p2.bn) (sv p2.s) (sv p2.i) (sv p2.f) (sv p2.c) (sv p2.x)) a7 h2 p2):=AV.sub (fun b _ e => .inl e) (AV.lat (Lat.set9 (G:=w.heap.size+2) (.inr rfl) _ _ _ _ _ _ _ _ _) HAV3.out)
 go_wp2
 refine bodyPost_ret (v := .tuple #[arrV h2 p2,.bool true]) ?_ rfl ⟨h2,p2,rfl,HAV.out,below_set9 HS3.out.bel (by omega) _ _ _ _ _ _ _ _ _⟩
 exact ret_arr2 (fn:=Tryz.f16) (p:=8) (u:=9) rfl _ _ (w.heap.size+2) (by rfl) (set9_block HS3.out.res _ _ _ _ _ _ _ _ _)
theorem awake34_any (w:World):Calls Tryz.prog 14 #[] w fun e w'=>e= .returned (.bool true)/\Below w.heap.size w w':=by
 have HN1:=Lib.hid (rnums_any _ _ noH (w.alloc (.cells #[.float .f64 4617315517961601024,.float .f64 4618441417868443648,.float .f64 4619567317775286272] 96)) (noH_lt _) (reads_3 (heap_alloc_new w (.cells #[.float .f64 4617315517961601024,.float .f64 4618441417868443648,.float .f64 4619567317775286272] 96))) (by simp))
 have HB0:=Lib.hid (bel1 w (.cells #[.float .f64 4617315517961601024,.float .f64 4618441417868443648,.float .f64 4619567317775286272] 96))
 unfold PlR at HN1
 go_enter Tryz.func14,Tryz.ntmps14
 go_wp2_with fail
 refine HN1.out.mono ?_
 rintro e w1 ⟨h1,x1,rfl,hp1,hb⟩
 have HB1:=Lib.hid (bel_both HB0.out hb)
 have HP1:=Lib.hid hp1
 clear hb hp1 HN1 HB0
 go_wp2_with fail
 refine (lawOf_nums sh3_34 all567 (by decide) h1 x1 0 _ HP1.out).mono ?_
 rintro e w2 ⟨h2,p2,rfl,ha2,hb⟩
 have HB2:=Lib.hid (bel_both HB1.out hb)
 have HDC:=Lib.hid (dochain_567 w2 ha2 (noH_lt w2))
 unfold AtR at HDC
 clear hb ha2 HB1 HP1
 go_wp2_with fail
 refine HDC.out.mono ?_
 rintro e w3 ⟨h3,p3,rfl,hav3,hb⟩
 have HB3:=Lib.hid (bel_both (bel_both HB2.out hb) (bel1 w3 (arrO h3 p3)))
 have HA3:=Lib.hid (AV.step hav3 (bel1 w3 (arrO h3 p3)))
 have HV3:=Lib.hid (at9_new w3 h3 p3)
 obtain ⟨V,hV⟩:∃ V,V=w3.heap.size:=⟨_,rfl⟩
 obtain ⟨wa,hwa⟩:∃ wa,wa=w3.alloc (arrO h3 p3):=⟨_,rfl⟩
 have HWA:=Lib.hid hwa
 have HVV:=Lib.hid hV
 rw [<- hwa] at HB3 HV3 HA3
 rw [<- hV] at HV3
 clear hV hwa hb hav3 HDC HB2
 go_upto_region 2 with fail
 rw [<- HWA.out,<- HVV.out]
 have HS0:=Lib.hid (LdA.new HV3.out)
 have HNU:=Lib.hid (fun W=>rnum_any 4619567317775286272 noH W (noH_lt W))
 have HSH:=Lib.hid (fun W (hW:LdA wa V h3 p3 W) (h4 x4:Sl) (hp:PV noH W (rawP a7) h4 x4 0)=>shows34_ok (noH_lt W) good7 (sm_1 _ _) (AV.step HA3.out hW.bel) hp)
 have HCO:Hid (∀ W,Calls Tryz.prog 26 #[.int .i32 43] W fun e w'=>e= .returned (.int .i64 1)/\Below W.heap.size W w'):=fun W=>code_walk 43 W
 unfold PlR at HNU
 clear HA3 HV3
 have hs0:=HS0.out.dr
 have hs00:=HS0.out
 go_region_held3 (fun W=>(W.cell? ⟨V,0,none⟩=some (.slice h3.1 h3.2.1 h3.2.2)/\W.cell? ⟨V,1,none⟩=some (.int .i64 p3.k)/\W.cell? ⟨V,2,none⟩=some (.slice p3.b.1 p3.b.2.1 p3.b.2.2)/\W.cell? ⟨V,3,none⟩=some (.int .i64 p3.bn)/\W.cell? ⟨V,4,none⟩=some (.slice p3.s.1 p3.s.2.1 p3.s.2.2)/\W.cell? ⟨V,5,none⟩=some (.slice p3.i.1 p3.i.2.1 p3.i.2.2)/\W.cell? ⟨V,6,none⟩=some (.slice p3.f.1 p3.f.2.1 p3.f.2.2)/\W.cell? ⟨V,7,none⟩=some (.slice p3.c.1 p3.c.2.1 p3.c.2.2)/\W.cell? ⟨V,8,none⟩=some (.slice p3.x.1 p3.x.2.1 p3.x.2.2))/\LdA wa V h3 p3 W)
  (first | (with_reducible assumption) | (with_reducible (refine lda_s ?_);repeat (first | (with_reducible assumption) | (with_reducible refine LdA.dr ?_))))
  (first
   | (go_at_call 46;(with_reducible refine (HNU.out _).mono ?_);rintro e w4 ⟨h4,x4,rfl,hp4,hb4⟩;have hst4:LdA wa V h3 p3 w4:=LdA.step (by repeat (first | (with_reducible assumption) | (with_reducible refine LdA.dr ?_))) hb4;have HSC:=Lib.hid (HSH.out w4 hst4 h4 x4 hp4);clear hb4 hp4)
   | (go_at_call 45;(with_reducible refine HSC.out.mono ?_);rintro e w5 ⟨rfl,hb5⟩;have hst5:LdA wa V h3 p3 w5:=LdA.step hst4 hb5;clear hb5)
   | (go_at_call 26;(with_reducible refine (HCO.out _).mono ?_);rintro e w6 ⟨rfl,hb6⟩;have hst6:LdA wa V h3 p3 w6:=LdA.step (by repeat (first | (with_reducible assumption) | (with_reducible refine LdA.dr ?_))) hb6;clear hb6))
 all_goals
  go_wp2
  go_ret
  exact ⟨rfl,bel_both HB3.out hst6.bel⟩
end Go.Proofs.YtbakjaliponbbaaGreatDoor
