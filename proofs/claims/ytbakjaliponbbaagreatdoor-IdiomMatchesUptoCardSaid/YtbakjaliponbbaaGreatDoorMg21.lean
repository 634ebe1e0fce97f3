/- The walk of idiom.two over trees. Printed by .. Conditions: as each theorem says. -/
import Derived.Test.YtbakjaliponbbaaGreatDoorMg19
import Derived.Test.YtbakjaliponbbaaGreatDoorMg20
import Derived.Test.YtbakjaliponbbaaGreatDoorMg07
set_option maxRecDepth 100000
set_option maxHeartbeats 6400000
namespace Go.Proofs.YtbakjaliponbbaaGreatDoor
open Go Go.RowKit Go.Proofs Fl
theorem MtS.put {W W':World}{vs:List Value} (g:MtS W vs W'){b j:Nat} (hb:W.heap.size+2<=b) (u:Value):MtS W vs (W'.setCell ⟨b,j,none⟩ u):=by
 have e:∀ i,i < W.heap.size+2->(W'.setCell ⟨b,j,none⟩ u).heap[i]?=W'.heap[i]?:=fun i hi=>Below.heap_setCell _ _ _ _ (by show i≠b;omega)
 have hz:(W'.setCell ⟨b,j,none⟩ u).heap.size=W'.heap.size:=by simp [World.setCell]
 refine ⟨⟨fun i=>?_,g.box.2.1.setCell (by show _<=b;omega) u,by rw [hz];exact g.box.2.2⟩,by rw [e _ (by omega)];exact g.res⟩
 rw [World.cell?_of_block (a:=⟨W.heap.size,i,none⟩) (e _ (by show W.heap.size < _;omega))]
 exact g.box.1 i
structure TwS (w W:World) (vs:List Value) (W':World):Prop where
 mts:MtS W vs W'
 old:Below w.heap.size w W'
 hw:w.heap.size<=W.heap.size
theorem TwS.step {w W W' W2:World}{vs:List Value} (g:TwS w W vs W') (hb:Below W'.heap.size W' W2):TwS w W vs W2:=⟨g.mts.step hb,bel_both g.old hb,g.hw⟩
theorem TwS.dr {w W W':World}{vs:List Value} (g:TwS w W vs W'):TwS w W vs W'.drew:=g.step (Below.refl _ W').drew
theorem TwS.al {w W W':World}{vs:List Value} (g:TwS w W vs W') (o:Obj):TwS w W vs (W'.alloc o):=g.step (bel1 W' o)
theorem TwS.put {w W W':World}{vs:List Value} (g:TwS w W vs W'){b j:Nat} (hb:W.heap.size+2<=b) (u:Value):TwS w W vs (W'.setCell ⟨b,j,none⟩ u):=⟨g.mts.put hb u,g.old.setCell (by show _<=b;have:=g.hw;omega) u,g.hw⟩
theorem TwS.self {w W W':World}{vs:List Value} (g:TwS w W vs W'):TwS w W vs W':=g
theorem TwS.sz {w W W':World}{vs:List Value} (g:TwS w W vs W'):W.heap.size+2<=W'.heap.size:=lt_blk g.mts.res
theorem tws_s {w W W':World}{b o:Nat}{k a:Int}{A1:Option Addr}{n1 c1:Nat}{A2:Option Addr}{n2 c2:Nat}{s:ByteArray}{c:Int}{cc:Nat}{u0 u1 u2 u3 u4 u5 u6:Value}{xk xa:Int}{xA1:Option Addr}{xn1 xc1:Nat}{xA2:Option Addr}{xn2 xc2:Nat}{xs:ByteArray}{xc:Int}{xA:Option Addr}{xm xcc:Nat}{yk ya:Int}{yA1:Option Addr}{yn1 yc1:Nat}{yA2:Option Addr}{yn2 yc2:Nat}{ys:ByteArray}{yc:Int}{yA:Option Addr}{ym ycc:Nat}
  (h0:KidC w b o u0 u1 u2 u3 u4 u5 u6) (hx:KidC w b (o+7) (.int .i64 xk) (.int .i64 xa) (.slice xA1 xn1 xc1) (.slice xA2 xn2 xc2) (.string xs) (.int .i32 xc) (.slice xA xm xcc)) (hy:KidC w b (o+14) (.int .i64 yk) (.int .i64 ya) (.slice yA1 yn1 yc1) (.slice yA2 yn2 yc2) (.string ys) (.int .i32 yc) (.slice yA ym ycc)) (g:TwS w W [.int .i64 k,.int .i64 a,.slice A1 n1 c1,.slice A2 n2 c2,.string s,.int .i32 c,.slice (some ⟨b,o,none⟩) 3 cc] W'):(W'.cell? ⟨W.heap.size,6,none⟩=some (.slice (some ⟨b,o,none⟩) 3 cc))/\(W'.cell? ⟨b,o,none⟩=some (u0)/\W'.cell? ⟨b,o+1,none⟩=some (u1)/\W'.cell? ⟨b,o+2,none⟩=some (u2)/\W'.cell? ⟨b,o+3,none⟩=some (u3)/\W'.cell? ⟨b,o+4,none⟩=some (u4)/\W'.cell? ⟨b,o+5,none⟩=some (u5)/\W'.cell? ⟨b,o+6,none⟩=some (u6))/\(W'.cell? ⟨b,o+7,none⟩=some (.int .i64 xk)/\W'.cell? ⟨b,o+7+1,none⟩=some (.int .i64 xa)/\W'.cell? ⟨b,o+7+2,none⟩=some (.slice xA1 xn1 xc1)/\W'.cell? ⟨b,o+7+3,none⟩=some (.slice xA2 xn2 xc2)/\W'.cell? ⟨b,o+7+4,none⟩=some (.string xs)/\W'.cell? ⟨b,o+7+5,none⟩=some (.int .i32 xc)/\W'.cell? ⟨b,o+7+6,none⟩=some (.slice xA xm xcc))/\(W'.cell? ⟨b,o+14,none⟩=some (.int .i64 yk)/\W'.cell? ⟨b,o+14+1,none⟩=some (.int .i64 ya)/\W'.cell? ⟨b,o+14+2,none⟩=some (.slice yA1 yn1 yc1)/\W'.cell? ⟨b,o+14+3,none⟩=some (.slice yA2 yn2 yc2)/\W'.cell? ⟨b,o+14+4,none⟩=some (.string ys)/\W'.cell? ⟨b,o+14+5,none⟩=some (.int .i32 yc)/\W'.cell? ⟨b,o+14+6,none⟩=some (.slice yA ym ycc))/\TwS w W [.int .i64 k,.int .i64 a,.slice A1 n1 c1,.slice A2 n2 c2,.string s,.int .i32 c,.slice (some ⟨b,o,none⟩) 3 cc] W':=by
 obtain ⟨x0,x1,x2,x3,x4,x5,x6⟩:=hx W' g.old
 obtain ⟨y0,y1,y2,y3,y4,y5,y6⟩:=hy W' g.old
 exact ⟨g.mts.box.1 6,h0 W' g.old,⟨x0,x1,x2,x3,x4,x5,x6⟩,⟨y0,y1,y2,y3,y4,y5,y6⟩,g⟩
structure TwX (w W:World) (vs:List Value) (X Y:Nat) (xs ys:List Value) (W':World):Prop where
 tws:TwS w W vs W'
 cx:∀ j,W'.cell? ⟨X,j,none⟩=xs[j]?
 cy:∀ j,W'.cell? ⟨Y,j,none⟩=ys[j]?
 lx:X < W'.heap.size
 ly:Y < W'.heap.size
theorem TwX.step {w W W' W2:World}{vs:List Value}{X Y:Nat}{xs ys:List Value} (g:TwX w W vs X Y xs ys W') (hb:Below W'.heap.size W' W2):TwX w W vs X Y xs ys W2 :=
 ⟨g.tws.step hb,fun j=>by rw [hb.cell (p:=⟨X,j,none⟩) g.lx];exact g.cx j,fun j=>by rw [hb.cell (p:=⟨Y,j,none⟩) g.ly];exact g.cy j,by have:=hb.size;have:=g.lx;omega,by have:=hb.size;have:=g.ly;omega⟩
theorem TwX.cells {w W W':World}{vs:List Value}{X Y:Nat}{x0 x1 x2 x3 x4 x5 x6 y0 y1 y2 y3 y4 y5 y6:Value} (g:TwX w W vs X Y [x0,x1,x2,x3,x4,x5,x6] [y0,y1,y2,y3,y4,y5,y6] W') :
  (W'.cell? ⟨X,0,none⟩=some (x0)/\W'.cell? ⟨X,1,none⟩=some (x1)/\W'.cell? ⟨X,2,none⟩=some (x2)/\W'.cell? ⟨X,3,none⟩=some (x3)/\W'.cell? ⟨X,4,none⟩=some (x4)/\W'.cell? ⟨X,5,none⟩=some (x5)/\W'.cell? ⟨X,6,none⟩=some (x6))/\(W'.cell? ⟨Y,0,none⟩=some (y0)/\W'.cell? ⟨Y,1,none⟩=some (y1)/\W'.cell? ⟨Y,2,none⟩=some (y2)/\W'.cell? ⟨Y,3,none⟩=some (y3)/\W'.cell? ⟨Y,4,none⟩=some (y4)/\W'.cell? ⟨Y,5,none⟩=some (y5)/\W'.cell? ⟨Y,6,none⟩=some (y6)) :=
 ⟨⟨g.cx 0,g.cx 1,g.cx 2,g.cx 3,g.cx 4,g.cx 5,g.cx 6⟩,⟨g.cy 0,g.cy 1,g.cy 2,g.cy 3,g.cy 4,g.cy 5,g.cy 6⟩⟩
theorem twX_of {w W w3 wx:World}{vs xs ys:List Value}{X Y:Nat} (hd:Done8 w3 wx X Y xs ys) (g:TwS w W vs w3) (hX:W.heap.size+2<=X) (hY:W.heap.size+2<=Y):TwX w W vs X Y xs ys wx:=by
 have hz:=g.sz
 have hsz:=hd.b0.size
 have kp:∀ i,i < W.heap.size+2->wx.heap[i]?=w3.heap[i]?:=fun i hi=>hd.keep i (by omega) (by omega) (by omega)
 have hw:=g.hw
 refine ⟨⟨⟨⟨fun i=>?_,?_,by have:=g.mts.box.2.2;omega⟩,by rw [kp _ (by omega)];exact g.mts.res⟩,?_,hw⟩,hd.c7,hd.c8,hd.lt7,hd.lt8⟩
 ·rw [World.cell?_of_block (a:=⟨W.heap.size,i,none⟩) (kp W.heap.size (by omega))];exact g.mts.box.1 i
 ·have hb:=g.mts.box.2.1
  exact ⟨hd.b0.os.trans hb.os,hd.b0.tape.trans hb.tape,hd.b0.output.trans hb.output,by have:=hb.size;omega,fun j hj=>by rw [kp j (by omega)];exact hb.block j hj⟩
 ·have hb:=g.old
  exact ⟨hd.b0.os.trans hb.os,hd.b0.tape.trans hb.tape,hd.b0.output.trans hb.output,by have:=hb.size;omega,fun j hj=>by rw [kp j (by omega)];exact hb.block j hj⟩
def TwM (w W:World) (vs xs ys:List Value) (p0:Int) (vf vx vy:Value) (wx:World):Prop:=∃ X Y,vf= .int .i32 p0/\vx= .pointer (some ⟨X,0,none⟩)/\vy= .pointer (some ⟨Y,0,none⟩)/\TwX w W vs X Y xs ys wx
theorem sz1d {w:World}{o:Obj}{n:Nat} (h:(w.alloc o).heap.size<=n):w.heap.size < n:=by simp at h;omega
theorem sz2d {w:World}{o o':Obj}{n:Nat} (h:((w.alloc o).alloc o').heap.size<=n):w.heap.size+1 < n:=by simp at h;omega
theorem itwo_walk {w:World}{t:RTree}{v0 v1 v2 v3 v4 v5 v6:Value} (ht:TN w t [v0,v1,v2,v3,v4,v5,v6]) (h3:(kidsR t).length=3) (hx9:kindR (kidR t 1)=9->2<=(kidsR (kidR t 1)).length) (hy9:kindR (kidR t 2)=9->2<=(kidsR (kidR t 2)).length)
  (hfx:kindR (kidR t 1)=9->kindR (kidR (kidR t 1) 0)=16->0 < (kidsR (kidR (kidR t 1) 0)).length) (hfy:kindR (kidR t 2)=9->kindR (kidR (kidR t 2) 0)=16->0 < (kidsR (kidR (kidR t 2) 0)).length) (W:World) (hb:Below w.heap.size w W) :
  Calls Tryz.prog 63 #[.agg #[v0,v1,v2,v3,v4,v5,v6]] W (PhR W (mtTwo t)):=by
 obtain ⟨a,A1,n1,c1,A2,n2,c2,A,m,cc,rfl,rfl,rfl,rfl,rfl,rfl,rfl,hm,hkid⟩:=ht.vals
 obtain ⟨b,o,u0,u1,u2,u3,u4,u5,u6,rfl,ht0,hc0⟩:=hkid 0 (by omega)
 obtain ⟨b',o',x0,x1,x2,x3,x4,x5,x6,e,htx,hcx⟩:=hkid 1 (by omega)
 cases e
 obtain ⟨b',o',y0,y1,y2,y3,y4,y5,y6,e,hty,hcy⟩:=hkid 2 (by omega)
 cases e
 obtain ⟨xa,xA1,xn1,xc1,xA2,xn2,xc2,xA,xm,xcc,rfl,rfl,rfl,rfl,rfl,rfl,rfl,hxm,hxk⟩:=htx.vals
 obtain ⟨ya,yA1,yn1,yc1,yA2,yn2,yc2,yA,ym,ycc,rfl,rfl,rfl,rfl,rfl,rfl,rfl,hym,hyk⟩:=hty.vals
 have HC0:Hid (KidC w b o u0 u1 u2 u3 u4 u5 u6):=by unfold Hid;have:=hc0;simpa using this
 have HCX:=Lib.hid hcx
 have HCY:=Lib.hid hcy
 rw [Nat.one_mul] at HCX
 rw [show 2*7=14 from rfl] at HCY
 have HP0:=Lib.hid (fun W'=>iprim_walk ht0 W')
 have HXK:=Lib.hid hxk
 have HYK:=Lib.hid hyk
 have HTY:=Lib.hid hty
 have HBW:=Lib.hid hb
 have HX9:Hid (kindR (kidR t 1)=9->2<=xm):=fun h=>by rw [hxm];exact hx9 h
 have HY9:Hid (kindR (kidR t 2)=9->2<=ym):=fun h=>by rw [hym];exact hy9 h
 have HX9':=Lib.hid hx9
 have HY9':=Lib.hid hy9
 have HFX:=Lib.hid hfx
 have HFY:=Lib.hid hfy
 obtain ⟨r,hr⟩:∃ r,r=mtTwo t:=⟨_,rfl⟩
 have HR:Hid (r=if primR (kidR t 0)=247/\kindR (kidR t 1)=9/\kindR (kidR t 2)=9/\sameV (kidR (kidR t 1) 1) (kidR (kidR t 2) 1)=true then toldP 4 43 8802 (decide (primR (kidR (kidR t 1) 0)=8802)&&decide (foldR (kidR (kidR t 2) 0)=43))
  else if primR (kidR t 0)=9075/\kindR (kidR t 1)=9/\sameV (kidR (kidR t 1) 1) (kidR t 2)=true then toldP 5 (primR (kidR t 0)) (foldR (kidR (kidR t 1) 0)) (decide (foldR (kidR (kidR t 1) 0)=8968)||decide (foldR (kidR (kidR t 1) 0)=8970))
  else noP):=hr
 rw [<- hr]
 obtain rfl:m=3:=by omega
 clear hkid ht ht0 htx hty hc0 hcx hcy hxk hyk hb hr hx9 hy9 hfx hfy h3 hm hxm hym
 generalize primR (kidR t 0)=p0 at *
 generalize kidR t 1=tx at *
 generalize kidR t 2=ty at *
 generalize kindR t=k at *
 generalize charR t=c at *
 generalize nameR t=s at *
 generalize hxk:kindR tx=xk at *
 generalize nameR tx=xs at *
 generalize charR tx=xc at *
 generalize hyk:kindR ty=yk at *
 generalize nameR ty=ys at *
 generalize charR ty=yc at *
 clear hxk hyk
 obtain ⟨W0,hW0⟩:∃ W0,W0=(W.alloc (.cells #[.int .i64 k,.int .i64 a,.slice A1 n1 c1,.slice A2 n2 c2,.string s,.int .i32 c,.slice (some ⟨b,o,none⟩) 3 cc] 31)).alloc (.cells #[.int .i64 0,.int .i32 0,.int .i32 0] 63):=⟨_,rfl⟩
 have HW0:=Lib.hid hW0
 have HS0:Hid (TwS w W [.int .i64 k,.int .i64 a,.slice A1 n1 c1,.slice A2 n2 c2,.string s,.int .i32 c,.slice (some ⟨b,o,none⟩) 3 cc] W0):=by
  have h:=MtS.start W [.int .i64 k,.int .i64 a,.slice A1 n1 c1,.slice A2 n2 c2,.string s,.int .i32 c,.slice (some ⟨b,o,none⟩) 3 cc] 31
  unfold Hid
  rw [hW0]
  exact ⟨h,HBW.out.trans (h.bel.mono HBW.out.size),HBW.out.size⟩
 clear hW0
 go_enter Tryz.func63,Tryz.ntmps63
 go_upto_region 1 with fail
 rw [<- HW0.out]
 go_cut [4,5,6] from 8 (fun vf vx vy wx=>TwM w W [.int .i64 k,.int .i64 a,.slice A1 n1 c1,.slice A2 n2 c2,.string s,.int .i32 c,.slice (some ⟨b,o,none⟩) 3 cc] [.int .i64 xk,.int .i64 xa,.slice xA1 xn1 xc1,.slice xA2 xn2 xc2,.string xs,.int .i32 xc,.slice xA xm xcc] [.int .i64 yk,.int .i64 ya,.slice yA1 yn1 yc1,.slice yA2 yn2 yc2,.string ys,.int .i32 yc,.slice yA ym ycc] p0 vf vx vy wx)
 case first =>
  have hs0:=HS0.out.dr
  have hs00:=HS0.out
  have hs0z:=HS0.out.sz
  go_region_held3 (fun W'=>(W'.cell? ⟨W.heap.size,6,none⟩=some (.slice (some ⟨b,o,none⟩) 3 cc))/\(W'.cell? ⟨b,o,none⟩=some (u0)/\W'.cell? ⟨b,o+1,none⟩=some (u1)/\W'.cell? ⟨b,o+2,none⟩=some (u2)/\W'.cell? ⟨b,o+3,none⟩=some (u3)/\W'.cell? ⟨b,o+4,none⟩=some (u4)/\W'.cell? ⟨b,o+5,none⟩=some (u5)/\W'.cell? ⟨b,o+6,none⟩=some (u6))/\(W'.cell? ⟨b,o+7,none⟩=some (.int .i64 xk)/\W'.cell? ⟨b,o+7+1,none⟩=some (.int .i64 xa)/\W'.cell? ⟨b,o+7+2,none⟩=some (.slice xA1 xn1 xc1)/\W'.cell? ⟨b,o+7+3,none⟩=some (.slice xA2 xn2 xc2)/\W'.cell? ⟨b,o+7+4,none⟩=some (.string xs)/\W'.cell? ⟨b,o+7+5,none⟩=some (.int .i32 xc)/\W'.cell? ⟨b,o+7+6,none⟩=some (.slice xA xm xcc))/\(W'.cell? ⟨b,o+14,none⟩=some (.int .i64 yk)/\W'.cell? ⟨b,o+14+1,none⟩=some (.int .i64 ya)/\W'.cell? ⟨b,o+14+2,none⟩=some (.slice yA1 yn1 yc1)/\W'.cell? ⟨b,o+14+3,none⟩=some (.slice yA2 yn2 yc2)/\W'.cell? ⟨b,o+14+4,none⟩=some (.string ys)/\W'.cell? ⟨b,o+14+5,none⟩=some (.int .i32 yc)/\W'.cell? ⟨b,o+14+6,none⟩=some (.slice yA ym ycc))/\TwS w W [.int .i64 k,.int .i64 a,.slice A1 n1 c1,.slice A2 n2 c2,.string s,.int .i32 c,.slice (some ⟨b,o,none⟩) 3 cc] W')
   (first | (with_reducible assumption) | (with_reducible (refine tws_s HC0.out HCX.out HCY.out ?_);repeat (first | (with_reducible assumption) | (with_reducible refine TwS.dr ?_) | (with_reducible refine TwS.put ?_ (by first | assumption | omega | (simp;omega)) _) | (with_reducible refine TwS.al ?_ _))))
   (first | (go_at_call 61;(with_reducible refine (HP0.out _).mono ?_);rintro e w3 ⟨rfl,hb3⟩;have hst3:TwS w W [.int .i64 k,.int .i64 a,.slice A1 n1 c1,.slice A2 n2 c2,.string s,.int .i32 c,.slice (some ⟨b,o,none⟩) 3 cc] w3:=TwS.step (by repeat (first | (with_reducible assumption) | (with_reducible refine TwS.dr ?_) | (with_reducible refine TwS.al ?_ _))) hb3;obtain ⟨hc3,hf3⟩:=bcell2 hb3;have hz3:=hb3.size;(first | (have hy32:W0.heap.size+1 < w3.heap.size:=sz2d hz3;have hy31:=Nat.lt_of_succ_lt hy32) | (have hy31:W0.heap.size < w3.heap.size:=sz1d hz3) | skip);have hs3:=hst3.sz;have HB3:=Lib.hid hb3;clear hb3))
  all_goals
   go_wp2
   go_meet
   refine ⟨_,_,rfl,rfl,rfl,twX_of ?_ hst3 ?_ ?_⟩
   ·first
     | (with_reducible exact done_aa w3 _ _ _ _)
     | (with_reducible exact (done_aa w3 _ _ _ _).swap)
     | (with_reducible refine done_sa' ?_ _ _ _ _ _ _ _ _ _;(repeat (first | (with_reducible exact SV.new0 _ _ _ _ _ _ _ _ _) | (with_reducible exact SV.new1 _ _ _ _ _ _ _ _ _ _) | (with_reducible refine SV.drew ?_) | (with_reducible refine SV.past ?_ _) | (with_reducible refine SV.below ?_ HB3.out))))
     | (with_reducible refine (done_sa' ?_ _ _ _ _ _ _ _ _ _).swap;(repeat (first | (with_reducible exact SV.new0 _ _ _ _ _ _ _ _ _) | (with_reducible exact SV.new1 _ _ _ _ _ _ _ _ _ _) | (with_reducible refine SV.drew ?_) | (with_reducible refine SV.past ?_ _) | (with_reducible refine SV.below ?_ HB3.out))))
     | (with_reducible refine done_ss' (by omega) ?_ ?_ _ _ _ _ _ _ _ _ _ _ _ _ _ _;(repeat (first | (with_reducible exact SV.new0 _ _ _ _ _ _ _ _ _) | (with_reducible exact SV.new1 _ _ _ _ _ _ _ _ _ _) | (with_reducible refine SV.drew ?_) | (with_reducible refine SV.past ?_ _) | (with_reducible refine SV.below ?_ HB3.out)));(repeat (first | (with_reducible exact SV.new0 _ _ _ _ _ _ _ _ _) | (with_reducible exact SV.new1 _ _ _ _ _ _ _ _ _ _) | (with_reducible refine SV.drew ?_) | (with_reducible refine SV.past ?_ _) | (with_reducible refine SV.below ?_ HB3.out))))
     | (with_reducible refine (done_ss' (by omega) ?_ ?_ _ _ _ _ _ _ _ _ _ _ _ _ _ _).swap;(repeat (first | (with_reducible exact SV.new0 _ _ _ _ _ _ _ _ _) | (with_reducible exact SV.new1 _ _ _ _ _ _ _ _ _ _) | (with_reducible refine SV.drew ?_) | (with_reducible refine SV.past ?_ _) | (with_reducible refine SV.below ?_ HB3.out)));(repeat (first | (with_reducible exact SV.new0 _ _ _ _ _ _ _ _ _) | (with_reducible exact SV.new1 _ _ _ _ _ _ _ _ _ _) | (with_reducible refine SV.drew ?_) | (with_reducible refine SV.past ?_ _) | (with_reducible refine SV.below ?_ HB3.out))))
   ·omega
   ·omega
 case rest =>
  obtain ⟨X,Y,rfl,rfl,rfl,htw⟩:=hcut
  obtain ⟨w1,hw1⟩:∃ w1,w1=wc:=⟨_,rfl⟩
  subst hw1
  have HT1:=Lib.hid htw
  clear htw HS0 HW0 HP0 HC0 HCX HCY
  obtain ⟨B2,hB2⟩:∃ B,B=decide (p0=247/\xk=9/\yk=9/\sameV (kidR tx 1) (kidR ty 1)=true):=⟨_,rfl⟩
  have HB2:=Lib.hid hB2
  go_upto_region 2 with fail
  go_cut [21] from 22 (fun v wy=>v= .bool B2/\TwX w W [.int .i64 k,.int .i64 a,.slice A1 n1 c1,.slice A2 n2 c2,.string s,.int .i32 c,.slice (some ⟨b,o,none⟩) 3 cc] X Y [.int .i64 xk,.int .i64 xa,.slice xA1 xn1 xc1,.slice xA2 xn2 xc2,.string xs,.int .i32 xc,.slice xA xm xcc] [.int .i64 yk,.int .i64 ya,.slice yA1 yn1 yc1,.slice yA2 yn2 yc2,.string ys,.int .i32 yc,.slice yA ym ycc] wy)
  case first =>
   obtain ⟨z0,z1,z2,z3,z4,z5,z6⟩:=HT1.out.cells.1
   obtain ⟨y0,y1,y2,y3,y4,y5,y6⟩:=HT1.out.cells.2
   have hL1:=LatW.cell (w:=w1) (g:=X) HT1.out.lx
   have hL2:=LatW.cell (w:=w1) (g:=Y) HT1.out.ly
   clear hB2 HR
   by_cases h1:p0=247
   ·by_cases h2:xk=9
    ·by_cases h3:yk=9
     ·have hB:B2=sameV (kidR tx 1) (kidR ty 1):=by rw [HB2.out];simp [h1,h2,h3]
      obtain ⟨bx,ox,q0,q1,q2,q3,q4,q5,q6,rfl,htq,hcq⟩:=HXK.out 1 (HX9'.out h2)
      obtain ⟨by_,oy,p0',p1,p2,p3,p4,p5,p6,rfl,htp,hcp⟩:=HYK.out 1 (HY9'.out h3)
      have hxi:(1:Int) < (xm:Int):=by have:=HX9.out h2;omega
      have hyi:(1:Int) < (ym:Int):=by have:=HY9.out h3;omega
      have hxn:1 < xm:=by have:=HX9.out h2;omega
      have hyn:1 < ym:=by have:=HY9.out h3;omega
      rw [Nat.one_mul] at hcq hcp
      obtain ⟨r0,r1,r2,r3,r4,r5,r6⟩:=hcq _ HT1.out.tws.old
      obtain ⟨s0,s1,s2,s3,s4,s5,s6⟩:=hcp _ HT1.out.tws.old
      have hL3:=LatW.cell (w:=w1) (g:=bx) (cell_lt r0)
      have hL4:=LatW.cell (w:=w1) (g:=by_) (cell_lt s0)
      have HSA:=Lib.hid (fun W'=>isame_walk htq htp W')
      rw [<- hB] at HSA
      subst h1 h2 h3
      clear htq hcq htp hcp hB HB2 HXK HYK HX9 HY9 HX9' HY9' HFX HFY HTY
      go_wp2_with fail
      refine region_calm (by kernel_rfl) (by kernel_rfl) ?_
      repeat (go_big_quiet_step ((go_at_call 60;refine calm_of (HSA.out _))))
      refine wpQuiet_nil ?_
      intro _ hw'
      obtain ⟨nq,hw''⟩:=hw'
      subst hw''
      first | go_meet | (go_wp2;go_meet) | (go_simp;go_meet)
      exact ⟨rfl,HT1.out.step nq.h⟩
     ·have hB:B2=false:=by rw [HB2.out];simp [h3]
      have e3:(yk==9)=false:=by simpa using h3
      subst h1 h2
      clear HB2 HXK HYK HX9 HY9 HX9' HY9' HFX HFY HTY h3
      go_wp2_with fail
      refine region_calm (by kernel_rfl) (by kernel_rfl) ?_
      repeat (go_big_quiet_step ((fail)))
      refine wpQuiet_nil ?_
      intro _ hw'
      obtain ⟨nq,hw''⟩:=hw'
      subst hw''
      first | go_meet | (go_wp2;go_meet) | (go_simp;go_meet)
      exact ⟨by rw [hB],HT1.out.step nq.h⟩
    ·have hB:B2=false:=by rw [HB2.out];simp [h2]
     have e2:(xk==9)=false:=by simpa using h2
     subst h1
     clear HB2 HXK HYK HX9 HY9 HX9' HY9' HFX HFY HTY h2
     go_wp2_with fail
     refine region_calm (by kernel_rfl) (by kernel_rfl) ?_
     repeat (go_big_quiet_step ((fail)))
     refine wpQuiet_nil ?_
     intro _ hw'
     obtain ⟨nq,hw''⟩:=hw'
     subst hw''
     first | go_meet | (go_wp2;go_meet) | (go_simp;go_meet)
     exact ⟨by rw [hB],HT1.out.step nq.h⟩
   ·have hB:B2=false:=by rw [HB2.out];simp [h1]
    have e1:(p0==247)=false:=by simpa using h1
    clear HB2 HXK HYK HX9 HY9 HX9' HY9' HFX HFY HTY h1
    go_wp2_with fail
    refine region_calm (by kernel_rfl) (by kernel_rfl) ?_
    repeat (go_big_quiet_step ((fail)))
    refine wpQuiet_nil ?_
    intro _ hw'
    obtain ⟨nq,hw''⟩:=hw'
    subst hw''
    first | go_meet | (go_wp2;go_meet) | (go_simp;go_meet)
    exact ⟨by rw [hB],HT1.out.step nq.h⟩
  case rest =>
   obtain ⟨rfl,htw⟩:=hcut
   obtain ⟨w2,hw2⟩:∃ w2,w2=wc:=⟨_,rfl⟩
   subst hw2
   have HT2:=Lib.hid htw
   clear htw HT1 hB2
   obtain ⟨z0,z1,z2,z3,z4,z5,z6⟩:=HT2.out.cells.1
   obtain ⟨y0,y1,y2,y3,y4,y5,y6⟩:=HT2.out.cells.2
   cases B2 with
   | true =>
    obtain ⟨h1,h2,h3,h4⟩:=of_decide_eq_true HB2.out.symm
    have HR2:Hid (r=toldP 4 43 8802 (decide (primR (kidR tx 0)=8802)&&decide (foldR (kidR ty 0)=43))):=by unfold Hid;rw [HR.out,if_pos ⟨h1,h2,h3,h4⟩]
    obtain ⟨bx,ox,q0,q1,q2,q3,q4,q5,q6,rfl,htq,hcq⟩:=HXK.out 0 (by have:=HX9'.out h2;omega)
    obtain ⟨by_,oy,p0',p1,p2,p3,p4,p5,p6,rfl,htp,hcp⟩:=HYK.out 0 (by have:=HY9'.out h3;omega)
    have hxi:(0:Int) < (xm:Int):=by have:=HX9.out h2;omega
    have hyi:(0:Int) < (ym:Int):=by have:=HY9.out h3;omega
    have hxn:0 < xm:=by have:=HX9.out h2;omega
    have hyn:0 < ym:=by have:=HY9.out h3;omega
    have HCQ:Hid (KidC w bx ox q0 q1 q2 q3 q4 q5 q6):=by unfold Hid;simpa using hcq
    have HCP:Hid (KidC w by_ oy p0' p1 p2 p3 p4 p5 p6):=by unfold Hid;simpa using hcp
    obtain ⟨r0,r1,r2,r3,r4,r5,r6⟩:=HCQ.out _ HT2.out.tws.old
    have HPX:=Lib.hid (fun W'=>iprim_walk htq W')
    have HFO:=Lib.hid (fun W' (hb':Below w.heap.size w W')=>ifolded_walk htp (HFY.out h3) W' hb')
    generalize primR (kidR tx 0)=px at *
    generalize foldR (kidR ty 0)=fy at *
    subst h1 h2 h3
    clear htq hcq htp hcp HR HB2 HXK HYK HX9 HY9 HX9' HY9' HFX HFY HTY h4 HCQ
    go_wp2_with fail
    refine (HPX.out _).mono ?_
    rintro e w3 ⟨rfl,hb⟩
    have HT3:=Lib.hid (HT2.out.step hb)
    clear hb z0 z1 z2 z3 z4 z5 z6 y0 y1 y2 y3 y4 y5 y6 r0 r1 r2 r3 r4 r5 r6
    obtain ⟨y0,y1,y2,y3,y4,y5,y6⟩:=HT3.out.cells.2
    obtain ⟨s0,s1,s2,s3,s4,s5,s6⟩:=HCP.out _ HT3.out.tws.old
    by_cases h5:px=8802
    ·subst h5
     go_wp2_with fail
     refine (HFO.out _ HT3.out.tws.old).mono ?_
     rintro e w4 ⟨rfl,hb⟩
     have HT4:=Lib.hid (HT3.out.step hb)
     clear hb y0 y1 y2 y3 y4 y5 y6 s0 s1 s2 s3 s4 s5 s6
     obtain ⟨bf,hbf⟩:∃ bf:Bool,(fy==43)=bf:=⟨_,rfl⟩
     obtain ⟨q,hq⟩:∃ q,q=toldP 4 43 8802 bf:=⟨_,rfl⟩
     have HQ:Hid (r=q):=by
      unfold Hid;rw [HR2.out,hq,<- hbf];rfl
     have HTO:=Lib.hid (fun W'=>itold_walk 4 43 8802 bf W')
     rw [<- hq] at HTO
     unfold PhR at HTO
     clear hq HR2
     go_wp2_with fail
     refine (HTO.out _).mono ?_
     rintro e w5 ⟨rfl,hb⟩
     have HT5:=Lib.hid (HT4.out.step hb)
     clear hb
     obtain ⟨⟨d0,d1,d2⟩,dz⟩:=block3 HT5.out.tws.mts.res
     go_wp2
     first
      | (refine bodyPost_ret (v := .tuple #[.agg #[.int .i64 q.1.1,.int .i32 q.1.2.1,.int .i32 q.1.2.2],.bool q.2]) ?_ rfl ⟨by rw [HQ.out],below_set3 HT5.out.tws.mts.bel (Nat.le_succ _) _ _ _⟩;exact ret_phr (fn:=Tryz.f63) (p:=2) (u:=3) rfl _ _ (W.heap.size+1) (by rfl) (set3_block HT5.out.tws.mts.res _ _ _))
      | (refine bodyPost_ret (v := .tuple #[.agg #[.int .i64 q.1.1,.int .i32 q.1.2.1,.int .i32 q.1.2.2],.bool q.2]) ?_ rfl ⟨by rw [HQ.out],HT5.out.tws.mts.bel⟩;exact ret_phr (fn:=Tryz.f63) (p:=2) (u:=3) rfl _ _ (W.heap.size+1) (by rfl) HT5.out.tws.mts.res)
    ·have e5:(px==8802)=false:=by simpa using h5
     obtain ⟨q,hq⟩:∃ q,q=toldP 4 43 8802 false:=⟨_,rfl⟩
     have HQ:Hid (r=q):=by
      unfold Hid;rw [HR2.out,hq,decide_eq_false h5];rfl
     have HTO:=Lib.hid (fun W'=>itold_walk 4 43 8802 false W')
     rw [<- hq] at HTO
     unfold PhR at HTO
     clear hq HR2 h5
     go_wp2_with fail
     refine (HTO.out _).mono ?_
     rintro e w5 ⟨rfl,hb⟩
     have HT5:=Lib.hid (HT3.out.step hb)
     clear hb y0 y1 y2 y3 y4 y5 y6 s0 s1 s2 s3 s4 s5 s6
     obtain ⟨⟨d0,d1,d2⟩,dz⟩:=block3 HT5.out.tws.mts.res
     go_wp2
     first
      | (refine bodyPost_ret (v := .tuple #[.agg #[.int .i64 q.1.1,.int .i32 q.1.2.1,.int .i32 q.1.2.2],.bool q.2]) ?_ rfl ⟨by rw [HQ.out],below_set3 HT5.out.tws.mts.bel (Nat.le_succ _) _ _ _⟩;exact ret_phr (fn:=Tryz.f63) (p:=2) (u:=3) rfl _ _ (W.heap.size+1) (by rfl) (set3_block HT5.out.tws.mts.res _ _ _))
      | (refine bodyPost_ret (v := .tuple #[.agg #[.int .i64 q.1.1,.int .i32 q.1.2.1,.int .i32 q.1.2.2],.bool q.2]) ?_ rfl ⟨by rw [HQ.out],HT5.out.tws.mts.bel⟩;exact ret_phr (fn:=Tryz.f63) (p:=2) (u:=3) rfl _ _ (W.heap.size+1) (by rfl) HT5.out.tws.mts.res)
   | false =>
    have hno:=of_decide_eq_false HB2.out.symm
    have HR2:Hid (r=if p0=9075/\xk=9/\sameV (kidR tx 1) ty=true then toldP 5 p0 (foldR (kidR tx 0)) (decide (foldR (kidR tx 0)=8968)||decide (foldR (kidR tx 0)=8970)) else noP):=by unfold Hid;rw [HR.out,if_neg hno]
    obtain ⟨B4,hB4⟩:∃ B,B=decide (p0=9075/\xk=9/\sameV (kidR tx 1) ty=true):=⟨_,rfl⟩
    have HB4:=Lib.hid hB4
    clear hno HR HB2 HYK HY9 HY9' HFY
    go_upto_region 4 with fail
    go_cut [63] from 64 (fun v wy=>v= .bool B4/\TwX w W [.int .i64 k,.int .i64 a,.slice A1 n1 c1,.slice A2 n2 c2,.string s,.int .i32 c,.slice (some ⟨b,o,none⟩) 3 cc] X Y [.int .i64 xk,.int .i64 xa,.slice xA1 xn1 xc1,.slice xA2 xn2 xc2,.string xs,.int .i32 xc,.slice xA xm xcc] [.int .i64 yk,.int .i64 ya,.slice yA1 yn1 yc1,.slice yA2 yn2 yc2,.string ys,.int .i32 yc,.slice yA ym ycc] wy)
    case first =>
     have hL1:=LatW.cell (w:=w2) (g:=X) HT2.out.lx
     have hL2:=LatW.cell (w:=w2) (g:=Y) HT2.out.ly
     clear hB4 HR2
     by_cases h1:p0=9075
     ·by_cases h2:xk=9
      ·have hB:B4=sameV (kidR tx 1) ty:=by rw [HB4.out];simp [h1,h2]
       obtain ⟨bx,ox,q0,q1,q2,q3,q4,q5,q6,rfl,htq,hcq⟩:=HXK.out 1 (HX9'.out h2)
       have hxi:(1:Int) < (xm:Int):=by have:=HX9.out h2;omega
       have hxn:1 < xm:=by have:=HX9.out h2;omega
       rw [Nat.one_mul] at hcq
       obtain ⟨r0,r1,r2,r3,r4,r5,r6⟩:=hcq _ HT2.out.tws.old
       have hL3:=LatW.cell (w:=w2) (g:=bx) (cell_lt r0)
       have HSA:=Lib.hid (fun W'=>isame_walk htq HTY.out W')
       rw [<- hB] at HSA
       subst h1 h2
       clear htq hcq hB HB4 HXK HX9 HX9' HFX HTY
       go_wp2_with fail
       refine region_calm (by kernel_rfl) (by kernel_rfl) ?_
       repeat (go_big_quiet_step ((go_at_call 60;refine calm_of (HSA.out _))))
       refine wpQuiet_nil ?_
       intro _ hw'
       obtain ⟨nq,hw''⟩:=hw'
       subst hw''
       first | go_meet | (go_wp2;go_meet) | (go_simp;go_meet)
       exact ⟨rfl,HT2.out.step nq.h⟩
      ·have hB:B4=false:=by rw [HB4.out];simp [h2]
       have e2:(xk==9)=false:=by simpa using h2
       subst h1
       clear HB4 HXK HX9 HX9' HFX HTY h2
       go_wp2_with fail
       refine region_calm (by kernel_rfl) (by kernel_rfl) ?_
       repeat (go_big_quiet_step ((fail)))
       refine wpQuiet_nil ?_
       intro _ hw'
       obtain ⟨nq,hw''⟩:=hw'
       subst hw''
       first | go_meet | (go_wp2;go_meet) | (go_simp;go_meet)
       exact ⟨by rw [hB],HT2.out.step nq.h⟩
     ·have hB:B4=false:=by rw [HB4.out];simp [h1]
      have e1:(p0==9075)=false:=by simpa using h1
      clear HB4 HXK HX9 HX9' HFX HTY h1
      go_wp2_with fail
      refine region_calm (by kernel_rfl) (by kernel_rfl) ?_
      repeat (go_big_quiet_step ((fail)))
      refine wpQuiet_nil ?_
      intro _ hw'
      obtain ⟨nq,hw''⟩:=hw'
      subst hw''
      first | go_meet | (go_wp2;go_meet) | (go_simp;go_meet)
      exact ⟨by rw [hB],HT2.out.step nq.h⟩
    case rest =>
     obtain ⟨rfl,htw⟩:=hcut
     obtain ⟨w4,hw4⟩:∃ w4,w4=wc:=⟨_,rfl⟩
     subst hw4
     have HT4:=Lib.hid htw
     clear htw HT2 hB4 z0 z1 z2 z3 z4 z5 z6 y0 y1 y2 y3 y4 y5 y6
     obtain ⟨z0,z1,z2,z3,z4,z5,z6⟩:=HT4.out.cells.1
     cases B4 with
     | true =>
      obtain ⟨h1,h2,h4⟩:=of_decide_eq_true HB4.out.symm
      have HR3:Hid (r=toldP 5 p0 (foldR (kidR tx 0)) (decide (foldR (kidR tx 0)=8968)||decide (foldR (kidR tx 0)=8970))):=by unfold Hid;rw [HR2.out,if_pos ⟨h1,h2,h4⟩]
      obtain ⟨bx,ox,q0,q1,q2,q3,q4,q5,q6,rfl,htq,hcq⟩:=HXK.out 0 (by have:=HX9'.out h2;omega)
      have hxi:(0:Int) < (xm:Int):=by have:=HX9.out h2;omega
      have hxn:0 < xm:=by have:=HX9.out h2;omega
      have HCQ:Hid (KidC w bx ox q0 q1 q2 q3 q4 q5 q6):=by unfold Hid;simpa using hcq
      obtain ⟨r0,r1,r2,r3,r4,r5,r6⟩:=HCQ.out _ HT4.out.tws.old
      have HFO:=Lib.hid (fun W' (hb':Below w.heap.size w W')=>ifolded_walk htq (HFX.out h2) W' hb')
      generalize foldR (kidR tx 0)=fx at *
      subst h1 h2
      clear htq hcq HR2 HB4 HXK HX9 HX9' HFX HTY h4 HCQ
      go_wp2_with fail
      refine (HFO.out _ HT4.out.tws.old).mono ?_
      rintro e w5 ⟨rfl,hb⟩
      have HT5:=Lib.hid (HT4.out.step hb)
      clear hb z0 z1 z2 z3 z4 z5 z6 r0 r1 r2 r3 r4 r5 r6
      by_cases h5:fx=8968
      ·obtain ⟨q,hq⟩:∃ q,q=toldP 5 9075 fx true:=⟨_,rfl⟩
       have HQ:Hid (r=q):=by
        unfold Hid;rw [HR3.out,hq,decide_eq_true h5,Bool.true_or]
       have HTO:=Lib.hid (fun W'=>itold_walk 5 9075 fx true W')
       rw [<- hq] at HTO
       unfold PhR at HTO
       have e5:(fx==8968)=true:=by simpa using h5
       clear hq HR3 h5
       go_wp2_with fail
       refine (HTO.out _).mono ?_
       rintro e w6 ⟨rfl,hb⟩
       have HT6:=Lib.hid (HT5.out.step hb)
       clear hb
       obtain ⟨⟨d0,d1,d2⟩,dz⟩:=block3 HT6.out.tws.mts.res
       go_wp2
       first
        | (refine bodyPost_ret (v := .tuple #[.agg #[.int .i64 q.1.1,.int .i32 q.1.2.1,.int .i32 q.1.2.2],.bool q.2]) ?_ rfl ⟨by rw [HQ.out],below_set3 HT6.out.tws.mts.bel (Nat.le_succ _) _ _ _⟩;exact ret_phr (fn:=Tryz.f63) (p:=2) (u:=3) rfl _ _ (W.heap.size+1) (by rfl) (set3_block HT6.out.tws.mts.res _ _ _))
        | (refine bodyPost_ret (v := .tuple #[.agg #[.int .i64 q.1.1,.int .i32 q.1.2.1,.int .i32 q.1.2.2],.bool q.2]) ?_ rfl ⟨by rw [HQ.out],HT6.out.tws.mts.bel⟩;exact ret_phr (fn:=Tryz.f63) (p:=2) (u:=3) rfl _ _ (W.heap.size+1) (by rfl) HT6.out.tws.mts.res)
      ·obtain ⟨bf,hbf⟩:∃ bf:Bool,(fx==8970)=bf:=⟨_,rfl⟩
       obtain ⟨q,hq⟩:∃ q,q=toldP 5 9075 fx bf:=⟨_,rfl⟩
       have HQ:Hid (r=q):=by
        unfold Hid;rw [HR3.out,hq,decide_eq_false h5,Bool.false_or,<- hbf];rfl
       have HTO:=Lib.hid (fun W'=>itold_walk 5 9075 fx bf W')
       rw [<- hq] at HTO
       unfold PhR at HTO
       have e5:(fx==8968)=false:=by simpa using h5
       clear hq HR3 h5
       go_wp2_with fail
       refine (HTO.out _).mono ?_
       rintro e w6 ⟨rfl,hb⟩
       have HT6:=Lib.hid (HT5.out.step hb)
       clear hb
       obtain ⟨⟨d0,d1,d2⟩,dz⟩:=block3 HT6.out.tws.mts.res
       go_wp2
       first
        | (refine bodyPost_ret (v := .tuple #[.agg #[.int .i64 q.1.1,.int .i32 q.1.2.1,.int .i32 q.1.2.2],.bool q.2]) ?_ rfl ⟨by rw [HQ.out],below_set3 HT6.out.tws.mts.bel (Nat.le_succ _) _ _ _⟩;exact ret_phr (fn:=Tryz.f63) (p:=2) (u:=3) rfl _ _ (W.heap.size+1) (by rfl) (set3_block HT6.out.tws.mts.res _ _ _))
        | (refine bodyPost_ret (v := .tuple #[.agg #[.int .i64 q.1.1,.int .i32 q.1.2.1,.int .i32 q.1.2.2],.bool q.2]) ?_ rfl ⟨by rw [HQ.out],HT6.out.tws.mts.bel⟩;exact ret_phr (fn:=Tryz.f63) (p:=2) (u:=3) rfl _ _ (W.heap.size+1) (by rfl) HT6.out.tws.mts.res)
     | false =>
      have HQ:Hid (r=noP):=by unfold Hid;rw [HR2.out,if_neg (of_decide_eq_false HB4.out.symm)]
      obtain ⟨⟨d0,d1,d2⟩,dz⟩:=block3 HT4.out.tws.mts.res
      clear HR2 HB4 HXK HX9 HX9' HFX HTY
      go_wp2
      first
       | (refine bodyPost_ret (v := .tuple #[.agg #[.int .i64 noP.1.1,.int .i32 noP.1.2.1,.int .i32 noP.1.2.2],.bool noP.2]) ?_ rfl ⟨by rw [HQ.out],below_set3 HT4.out.tws.mts.bel (Nat.le_succ _) _ _ _⟩;exact ret_phr (fn:=Tryz.f63) (p:=2) (u:=3) rfl _ _ (W.heap.size+1) (by rfl) (set3_block HT4.out.tws.mts.res _ _ _))
       | (refine bodyPost_ret (v := .tuple #[.agg #[.int .i64 noP.1.1,.int .i32 noP.1.2.1,.int .i32 noP.1.2.2],.bool noP.2]) ?_ rfl ⟨by rw [HQ.out],HT4.out.tws.mts.bel⟩;exact ret_phr (fn:=Tryz.f63) (p:=2) (u:=3) rfl _ _ (W.heap.size+1) (by rfl) HT4.out.tws.mts.res)
end Go.Proofs.YtbakjaliponbbaaGreatDoor
