/- The walk of the reference's Match over trees: kinds other than 8 and 10. Printed by .. Conditions: as each theorem says. -/
import Derived.Test.YtbakjaliponbbaaGreatDoorMg23
set_option maxRecDepth 100000
set_option maxHeartbeats 6400000
namespace Go.Proofs.YtbakjaliponbbaaGreatDoor
open Go Go.RowKit Go.Proofs Fl
structure RtS (w W:World) (vs:List Value) (W':World):Prop where
 box:BoxT W W' vs
 res:W'.heap[W.heap.size+1]?=some (.cells #[.int .i64 0,.int .i32 0,.int .i32 0] 68)
 old:Below w.heap.size w W'
 hw:w.heap.size<=W.heap.size
theorem RtS.step {w W W' W2:World}{vs:List Value} (g:RtS w W vs W') (hb:Below W'.heap.size W' W2):RtS w W vs W2:=⟨g.box.step hb,by rw [hb.block _ (lt_blk g.res)];exact g.res,bel_both g.old hb,g.hw⟩
theorem RtS.sz {w W W':World}{vs:List Value} (g:RtS w W vs W'):W.heap.size+2<=W'.heap.size:=lt_blk g.res
theorem RtS.start {w W:World} (vs:List Value) (T:TypeId) (hb:Below w.heap.size w W):RtS w W vs ((W.alloc (.cells vs.toArray T)).alloc (.cells #[.int .i64 0,.int .i32 0,.int .i32 0] 68)):=by
 have h2:=heap_alloc_new (W.alloc (.cells vs.toArray T)) (.cells #[.int .i64 0,.int .i32 0,.int .i32 0] 68)
 rw [show (W.alloc (.cells vs.toArray T)).heap.size=W.heap.size+1 by simp] at h2
 have hbx:=(boxedT W vs T).step (bel1 (W.alloc (.cells vs.toArray T)) (.cells #[.int .i64 0,.int .i32 0,.int .i32 0] 68))
 exact ⟨hbx,h2,hb.trans (hbx.2.1.mono hb.size),hb.size⟩
theorem BoxT.c6 {w W:World}{v0 v1 v2 v3 v4 v5:Value} (h:BoxT w W [v0,v1,v2,v3,v4,v5]):(W.cell? ⟨w.heap.size,0,none⟩=some (v0)/\W.cell? ⟨w.heap.size,1,none⟩=some (v1)/\W.cell? ⟨w.heap.size,2,none⟩=some (v2)/\W.cell? ⟨w.heap.size,3,none⟩=some (v3)/\W.cell? ⟨w.heap.size,4,none⟩=some (v4)/\W.cell? ⟨w.heap.size,5,none⟩=some (v5)) :=
 ⟨h.1 0,h.1 1,h.1 2,h.1 3,h.1 4,h.1 5⟩
structure RtX (w W:World) (vs:List Value) (X Y:Nat) (xs ys:List Value) (W':World):Prop where
 rts:RtS w W vs W'
 cx:∀ j,W'.cell? ⟨X,j,none⟩=xs[j]?
 cy:∀ j,W'.cell? ⟨Y,j,none⟩=ys[j]?
 lx:X < W'.heap.size
 ly:Y < W'.heap.size
theorem RtX.step {w W W' W2:World}{vs:List Value}{X Y:Nat}{xs ys:List Value} (g:RtX w W vs X Y xs ys W') (hb:Below W'.heap.size W' W2):RtX w W vs X Y xs ys W2 :=
 ⟨g.rts.step hb,fun j=>by rw [hb.cell (p:=⟨X,j,none⟩) g.lx];exact g.cx j,fun j=>by rw [hb.cell (p:=⟨Y,j,none⟩) g.ly];exact g.cy j,by have:=hb.size;have:=g.lx;omega,by have:=hb.size;have:=g.ly;omega⟩
theorem RtX.cells {w W W':World}{vs:List Value}{X Y:Nat}{x0 x1 x2 x3 x4 x5 y0 y1 y2 y3 y4 y5:Value} (g:RtX w W vs X Y [x0,x1,x2,x3,x4,x5] [y0,y1,y2,y3,y4,y5] W') :
  (W'.cell? ⟨X,0,none⟩=some (x0)/\W'.cell? ⟨X,1,none⟩=some (x1)/\W'.cell? ⟨X,2,none⟩=some (x2)/\W'.cell? ⟨X,3,none⟩=some (x3)/\W'.cell? ⟨X,4,none⟩=some (x4)/\W'.cell? ⟨X,5,none⟩=some (x5))/\(W'.cell? ⟨Y,0,none⟩=some (y0)/\W'.cell? ⟨Y,1,none⟩=some (y1)/\W'.cell? ⟨Y,2,none⟩=some (y2)/\W'.cell? ⟨Y,3,none⟩=some (y3)/\W'.cell? ⟨Y,4,none⟩=some (y4)/\W'.cell? ⟨Y,5,none⟩=some (y5)) :=
 ⟨⟨g.cx 0,g.cx 1,g.cx 2,g.cx 3,g.cx 4,g.cx 5⟩,⟨g.cy 0,g.cy 1,g.cy 2,g.cy 3,g.cy 4,g.cy 5⟩⟩
theorem RtX.start {w W W0:World}{vs:List Value} (g:RtS w W vs W0) (xs:List Value) (T:TypeId):RtX w W vs W0.heap.size W0.heap.size xs xs (W0.alloc (.cells xs.toArray T)):=by
 have hbx:=boxedT W0 xs T
 exact ⟨g.step (bel1 W0 _),hbx.1,hbx.1,hbx.2.2,hbx.2.2⟩
theorem RtX.more {w W W0:World}{vs xs:List Value}{X:Nat} (g:RtX w W vs X X xs xs W0) (ys:List Value) (T:TypeId):RtX w W vs X W0.heap.size xs ys (W0.alloc (.cells ys.toArray T)):=by
 have hbx:=boxedT W0 ys T
 have g2:=g.step (bel1 W0 (.cells ys.toArray T))
 exact ⟨g2.rts,g2.cx,hbx.1,g2.lx,hbx.2.2⟩
theorem one_gat (c:Int) (w:World):Calls Tryz.prog 65 #[.int .i32 c,.slice (some ⟨w.heap.size,0,none⟩) 5 5] (w.alloc (.cells #[.int .i32 43,.int .i32 8743,.int .i32 8744,.int .i32 8968,.int .i32 8970] 21)) fun e w'=>e= .returned (.bool (decide (c∈[43,8743,8744,8968,8970])))/\Below w.heap.size w w':=by
 refine (rone_walk c _ _ _ (runes_lit w [43,8743,8744,8968,8970]) (by decide)).mono ?_
 rintro e w' ⟨rfl,rfl⟩
 exact ⟨rfl,bel1 w _⟩
theorem one_rel (c:Int) (w:World):Calls Tryz.prog 65 #[.int .i32 c,.slice (some ⟨w.heap.size,0,none⟩) 7 7] (w.alloc (.cells #[.int .i32 60,.int .i32 8804,.int .i32 61,.int .i32 8805,.int .i32 62,.int .i32 8800,.int .i32 8714] 21)) fun e w'=>e= .returned (.bool (decide (c∈[60,8804,61,8805,62,8800,8714])))/\Below w.heap.size w w':=by
 refine (rone_walk c _ _ _ (runes_lit w [60,8804,61,8805,62,8800,8714]) (by decide)).mono ?_
 rintro e w' ⟨rfl,rfl⟩
 exact ⟨rfl,bel1 w _⟩
theorem rmatch_no {w:World}{t:RTree}{v0 v1 v2 v3 v4 v5:Value} (ht:RN w t [v0,v1,v2,v3,v4,v5]) (h8:kindR t≠8) (h9:kindR t≠9) (h10:kindR t≠10) (W:World) (hb:Below w.heap.size w W) :
  Calls Tryz.prog 30 #[.agg #[v0,v1,v2,v3,v4,v5]] W (PhR W (mtP t)):=by
 obtain ⟨A1,n1,c1,A2,n2,c2,A,m,cc,rfl,rfl,rfl,rfl,rfl,rfl,hm,hkid⟩:=ht.vals
 obtain ⟨r,hr⟩:∃ r,r=mtP t:=⟨_,rfl⟩
 rw [<- hr]
 have HQ:Hid (r=noP):=by unfold Hid;rw [hr,mtP,if_neg h9,if_neg h8,if_neg h10]
 clear hr ht hkid hm
 generalize kindR t=k at *
 generalize charR t=c at *
 generalize nameR t=s at *
 obtain ⟨W0,hW0⟩:∃ W0,W0=(W.alloc (.cells #[.int .i64 k,.slice A1 n1 c1,.slice A2 n2 c2,.string s,.int .i32 c,.slice A m cc] 29)).alloc (.cells #[.int .i64 0,.int .i32 0,.int .i32 0] 68):=⟨_,rfl⟩
 have HW0:=Lib.hid hW0
 have HS0:Hid (RtS w W [.int .i64 k,.slice A1 n1 c1,.slice A2 n2 c2,.string s,.int .i32 c,.slice A m cc] W0):=by unfold Hid;rw [hW0];exact RtS.start [.int .i64 k,.slice A1 n1 c1,.slice A2 n2 c2,.string s,.int .i32 c,.slice A m cc] 29 hb
 clear hW0 hb
 obtain ⟨bn0,bn1,bn2,bn3,bn4,bn5⟩:=HS0.out.box.c6
 obtain ⟨⟨d0,d1,d2⟩,dz⟩:=block3 HS0.out.res
 by_cases hk:k < 8
 ·clear h8 h9 h10
  go_enter Tryz.func30,Tryz.ntmps30
  go_upto_region 1 with fail
  rw [<- HW0.out]
  go_wp2
  first
   | (refine bodyPost_ret (v := .tuple #[.agg #[.int .i64 noP.1.1,.int .i32 noP.1.2.1,.int .i32 noP.1.2.2],.bool noP.2]) ?_ rfl ⟨by rw [HQ.out],below_set3 HS0.out.box.2.1 (Nat.le_succ _) _ _ _⟩;exact ret_rphr (fn:=Tryz.f30) (p:=2) (u:=3) rfl _ _ (W.heap.size+1) (by rfl) (set3_block HS0.out.res _ _ _))
   | (refine bodyPost_ret (v := .tuple #[.agg #[.int .i64 noP.1.1,.int .i32 noP.1.2.1,.int .i32 noP.1.2.2],.bool noP.2]) ?_ rfl ⟨by rw [HQ.out],HS0.out.box.2.1⟩;exact ret_rphr (fn:=Tryz.f30) (p:=2) (u:=3) rfl _ _ (W.heap.size+1) (by rfl) HS0.out.res)
 ·have hk2:10 < k:=by omega
  clear h8 h9 h10
  go_enter Tryz.func30,Tryz.ntmps30
  go_upto_region 1 with fail
  rw [<- HW0.out]
  go_wp2
  first
   | (refine bodyPost_ret (v := .tuple #[.agg #[.int .i64 noP.1.1,.int .i32 noP.1.2.1,.int .i32 noP.1.2.2],.bool noP.2]) ?_ rfl ⟨by rw [HQ.out],below_set3 HS0.out.box.2.1 (Nat.le_succ _) _ _ _⟩;exact ret_rphr (fn:=Tryz.f30) (p:=2) (u:=3) rfl _ _ (W.heap.size+1) (by rfl) (set3_block HS0.out.res _ _ _))
   | (refine bodyPost_ret (v := .tuple #[.agg #[.int .i64 noP.1.1,.int .i32 noP.1.2.1,.int .i32 noP.1.2.2],.bool noP.2]) ?_ rfl ⟨by rw [HQ.out],HS0.out.box.2.1⟩;exact ret_rphr (fn:=Tryz.f30) (p:=2) (u:=3) rfl _ _ (W.heap.size+1) (by rfl) HS0.out.res)
theorem rmatch_9 {w:World}{t:RTree}{v0 v1 v2 v3 v4 v5:Value} (ht:RN w t [v0,v1,v2,v3,v4,v5]) (h9:kindR t=9) (hs:Shp3 t) (W:World) (hb:Below w.heap.size w W) :
  Calls Tryz.prog 30 #[.agg #[v0,v1,v2,v3,v4,v5]] W (PhR W (mtP t)):=by
 obtain ⟨hs1,hs2,hs3⟩:=hs
 have hl:=hs1.1 h9
 obtain ⟨A1,n1,c1,A2,n2,c2,A,m,cc,rfl,rfl,rfl,rfl,rfl,rfl,hm,hkid⟩:=ht.vals
 obtain ⟨b,o,u0,u1,u2,u3,u4,u5,rfl,ht0,hc0⟩:=hkid 0 (by omega)
 obtain ⟨b',o',x0,x1,x2,x3,x4,x5,e,htx,hcx⟩:=hkid 1 (by omega)
 cases e
 obtain ⟨xA1,xn1,xc1,xA2,xn2,xc2,xA,xm,xcc,rfl,rfl,rfl,rfl,rfl,rfl,hxm,hxk⟩:=htx.vals
 have HC0:Hid (KidQ w b o u0 u1 u2 u3 u4 u5):=by unfold Hid;have:=hc0;simpa using this
 have HCX:=Lib.hid hcx
 rw [Nat.one_mul] at HCX
 have HXK:=Lib.hid hxk
 have HBW:=Lib.hid hb
 have HP0:=Lib.hid (fun W'=>rprim_walk ht0 W')
 have HF0:=Lib.hid (fun W' hb'=>rfolded_walk ht0 (fun h=>by have:=(hs2 0 (by omega)).2.2.2 h;omega) W' hb')
 have HX0':Hid (kindR (kidR t 1)=9\/kindR (kidR t 1)=10->0 < (kidsR (kidR t 1)).length):=fun h=>by
  rcases h with h | h
  ·have:=(hs2 1 (by omega)).1 h;omega
  ·have:=(hs2 1 (by omega)).2.1 h;omega
 have HX0:Hid (kindR (kidR t 1)=9\/kindR (kidR t 1)=10->0 < xm):=fun h=>by rw [hxm];exact HX0'.out h
 obtain ⟨r,hr⟩:∃ r,r=mtP t:=⟨_,rfl⟩
 have HR:Hid (r=if kindR (kidR t 1)=9 then toldP 1 (primR (kidR t 0)) (primR (kidR (kidR t 1) 0)) (chnB (primR (kidR t 0)) (primR (kidR (kidR t 1) 0)))
  else if kindR (kidR t 1)=10 then toldP 2 (foldR (kidR t 0)) (primR (kidR (kidR t 1) 0)) (gatB (foldR (kidR t 0))&&relBz (primR (kidR (kidR t 1) 0)))
  else noP):=by unfold Hid;rw [hr,mtP,if_pos h9];rfl
 rw [<- hr]
 obtain rfl:m=2:=by omega
 rw [h9]
 clear hkid ht ht0 htx hc0 hcx hxk hb hr hs1 hs2 hs3 hl hm hxm h9
 generalize primR (kidR t 0)=p0 at *
 generalize foldR (kidR t 0)=f0 at *
 generalize kidR t 1=tx at *
 generalize hxk:kindR tx=xk at *
 generalize charR t=c at *
 generalize nameR t=s at *
 generalize nameR tx=xs at *
 generalize charR tx=xc at *
 clear hxk
 obtain ⟨W0,hW0⟩:∃ W0,W0=(W.alloc (.cells #[.int .i64 9,.slice A1 n1 c1,.slice A2 n2 c2,.string s,.int .i32 c,.slice (some ⟨b,o,none⟩) 2 cc] 29)).alloc (.cells #[.int .i64 0,.int .i32 0,.int .i32 0] 68):=⟨_,rfl⟩
 have HW0:=Lib.hid hW0
 have HS0:Hid (RtS w W [.int .i64 9,.slice A1 n1 c1,.slice A2 n2 c2,.string s,.int .i32 c,.slice (some ⟨b,o,none⟩) 2 cc] W0):=by unfold Hid;rw [hW0];exact RtS.start [.int .i64 9,.slice A1 n1 c1,.slice A2 n2 c2,.string s,.int .i32 c,.slice (some ⟨b,o,none⟩) 2 cc] 29 HBW.out
 clear hW0
 obtain ⟨bn0,bn1,bn2,bn3,bn4,bn5⟩:=HS0.out.box.c6
 obtain ⟨y0,y1,y2,y3,y4,y5⟩:=HCX.out _ HS0.out.old
 obtain ⟨W2,hW2⟩:∃ W2,W2=W0.alloc (.cells #[.int .i64 xk,.slice xA1 xn1 xc1,.slice xA2 xn2 xc2,.string xs,.int .i32 xc,.slice xA xm xcc] 29):=⟨_,rfl⟩
 obtain ⟨X,hX⟩:∃ X,X=W0.heap.size:=⟨_,rfl⟩
 have HW2:=Lib.hid hW2
 have HXX:=Lib.hid hX
 have HT2:Hid (RtX w W [.int .i64 9,.slice A1 n1 c1,.slice A2 n2 c2,.string s,.int .i32 c,.slice (some ⟨b,o,none⟩) 2 cc] X X [.int .i64 xk,.slice xA1 xn1 xc1,.slice xA2 xn2 xc2,.string xs,.int .i32 xc,.slice xA xm xcc] [.int .i64 xk,.slice xA1 xn1 xc1,.slice xA2 xn2 xc2,.string xs,.int .i32 xc,.slice xA xm xcc] W2):=by unfold Hid;rw [hW2,hX];exact RtX.start HS0.out [.int .i64 xk,.slice xA1 xn1 xc1,.slice xA2 xn2 xc2,.string xs,.int .i32 xc,.slice xA xm xcc] 29
 clear hW2 hX
 go_enter Tryz.func30,Tryz.ntmps30
 go_upto_region 1 with fail
 rw [<- HW0.out]
 go_upto_region 4 with fail
 rw [<- HW2.out,<- HXX.out]
 clear bn0 bn1 bn2 bn3 bn4 bn5 y0 y1 y2 y3 y4 y5 HS0 HW0 HW2 HXX
 obtain ⟨bn0,bn1,bn2,bn3,bn4,bn5⟩:=HT2.out.rts.box.c6
 obtain ⟨z0,z1,z2,z3,z4,z5⟩:=HT2.out.cells.1
 obtain ⟨y0,y1,y2,y3,y4,y5⟩:=HC0.out _ HT2.out.rts.old
 go_wp2_with fail
 refine (HP0.out _).mono ?_
 rintro e w3 ⟨rfl,hb⟩
 have HT3:=Lib.hid (HT2.out.step hb)
 clear hb
 clear bn0 bn1 bn2 bn3 bn4 bn5 z0 z1 z2 z3 z4 z5 y0 y1 y2 y3 y4 y5
 obtain ⟨bn0,bn1,bn2,bn3,bn4,bn5⟩:=HT3.out.rts.box.c6
 obtain ⟨z0,z1,z2,z3,z4,z5⟩:=HT3.out.cells.1
 obtain ⟨y0,y1,y2,y3,y4,y5⟩:=HC0.out _ HT3.out.rts.old
 by_cases h9:xk=9
 ·subst h9
  have HR2:Hid (r=toldP 1 p0 (primR (kidR tx 0)) (chnB p0 (primR (kidR tx 0)))):=by unfold Hid;rw [HR.out,if_pos rfl]
  clear HR
  obtain ⟨bx,ox,q0,q1,q2,q3,q4,q5,rfl,htq,hcq⟩:=HXK.out 0 (by have:=HX0'.out (by omega);omega)
  have hxm0:(0:Int) < (xm:Int):=by have:=HX0.out (by omega);omega
  have hxmn:0 < xm:=by omega
  have HPX:=Lib.hid (fun W'=>rprim_walk htq W')
  have HCQ:Hid (KidQ w bx ox q0 q1 q2 q3 q4 q5):=by unfold Hid;simpa using hcq
  generalize primR (kidR tx 0)=px at *
  clear htq hcq
  have HCH:=Lib.hid (fun W'=>rchain_walk p0 px W')
  generalize chnB p0 px=cb at *
  obtain ⟨r0,r1,r2,r3,r4,r5⟩:=HCQ.out _ HT3.out.rts.old
  go_wp2_with fail
  refine (HPX.out _).mono ?_
  rintro e w4 ⟨rfl,hb⟩
  have HT4:=Lib.hid (HT3.out.step hb)
  clear hb
  go_wp2_with fail
  refine (HCH.out _).mono ?_
  rintro e w5 ⟨rfl,hb⟩
  have HT5:=Lib.hid (HT4.out.step hb)
  clear hb
  clear bn0 bn1 bn2 bn3 bn4 bn5 z0 z1 z2 z3 z4 z5 y0 y1 y2 y3 y4 y5 r0 r1 r2 r3 r4 r5
  obtain ⟨bn0,bn1,bn2,bn3,bn4,bn5⟩:=HT5.out.rts.box.c6
  obtain ⟨z0,z1,z2,z3,z4,z5⟩:=HT5.out.cells.1
  obtain ⟨y0,y1,y2,y3,y4,y5⟩:=HC0.out _ HT5.out.rts.old
  obtain ⟨r0,r1,r2,r3,r4,r5⟩:=HCQ.out _ HT5.out.rts.old
  clear HT3 HT4 HCH
  cases cb with
  | true =>
   obtain ⟨q,hq⟩:∃ q,q=(toldP 1 p0 px true:Phr):=⟨_,rfl⟩
   have HQ:Hid (r=q):=by unfold Hid;rw [HR2.out,hq]
   rw [toldP,if_pos rfl] at hq
   subst hq
   go_wp2_with fail
   refine (HPX.out _).mono ?_
   rintro e w6 ⟨rfl,hb⟩
   have HT6:=Lib.hid (HT5.out.step hb)
   clear hb
   obtain ⟨⟨d0,d1,d2⟩,dz⟩:=block3 HT6.out.rts.res
   go_wp2
   first
    | (refine bodyPost_ret (v := .tuple #[.agg #[.int .i64 ((1,p0,px),true).1.1,.int .i32 ((1,p0,px),true).1.2.1,.int .i32 ((1,p0,px),true).1.2.2],.bool ((1,p0,px),true).2]) ?_ rfl ⟨by rw [HQ.out],below_set3 HT6.out.rts.box.2.1 (Nat.le_succ _) _ _ _⟩;exact ret_rphr (fn:=Tryz.f30) (p:=2) (u:=3) rfl _ _ (W.heap.size+1) (by rfl) (set3_block HT6.out.rts.res _ _ _))
    | (refine bodyPost_ret (v := .tuple #[.agg #[.int .i64 ((1,p0,px),true).1.1,.int .i32 ((1,p0,px),true).1.2.1,.int .i32 ((1,p0,px),true).1.2.2],.bool ((1,p0,px),true).2]) ?_ rfl ⟨by rw [HQ.out],HT6.out.rts.box.2.1⟩;exact ret_rphr (fn:=Tryz.f30) (p:=2) (u:=3) rfl _ _ (W.heap.size+1) (by rfl) HT6.out.rts.res)
  | false =>
   have HQ:Hid (r=noP):=by unfold Hid;rw [HR2.out,toldP];rfl
   go_wp2_with fail
   refine (HF0.out _ HT5.out.rts.old).mono ?_
   rintro e w6 ⟨rfl,hb⟩
   have HT6:=Lib.hid (HT5.out.step hb)
   clear hb
   clear bn0 bn1 bn2 bn3 bn4 bn5 z0 z1 z2 z3 z4 z5 y0 y1 y2 y3 y4 y5 r0 r1 r2 r3 r4 r5
   obtain ⟨bn0,bn1,bn2,bn3,bn4,bn5⟩:=HT6.out.rts.box.c6
   obtain ⟨z0,z1,z2,z3,z4,z5⟩:=HT6.out.cells.1
   obtain ⟨y0,y1,y2,y3,y4,y5⟩:=HC0.out _ HT6.out.rts.old
   obtain ⟨⟨d0,d1,d2⟩,dz⟩:=block3 HT6.out.rts.res
   go_wp2
   first
    | (refine bodyPost_ret (v := .tuple #[.agg #[.int .i64 noP.1.1,.int .i32 noP.1.2.1,.int .i32 noP.1.2.2],.bool noP.2]) ?_ rfl ⟨by rw [HQ.out],below_set3 HT6.out.rts.box.2.1 (Nat.le_succ _) _ _ _⟩;exact ret_rphr (fn:=Tryz.f30) (p:=2) (u:=3) rfl _ _ (W.heap.size+1) (by rfl) (set3_block HT6.out.rts.res _ _ _))
    | (refine bodyPost_ret (v := .tuple #[.agg #[.int .i64 noP.1.1,.int .i32 noP.1.2.1,.int .i32 noP.1.2.2],.bool noP.2]) ?_ rfl ⟨by rw [HQ.out],HT6.out.rts.box.2.1⟩;exact ret_rphr (fn:=Tryz.f30) (p:=2) (u:=3) rfl _ _ (W.heap.size+1) (by rfl) HT6.out.rts.res)
 ·have e9:(xk==9)=false:=by simpa using h9
  by_cases h10:xk=10
  ·subst h10
   have HR2:Hid (r=toldP 2 f0 (primR (kidR tx 0)) (gatB f0&&relBz (primR (kidR tx 0)))):=by unfold Hid;rw [HR.out,if_neg (by decide),if_pos rfl]
   clear HR h9
   rw [gatB_L,relB_L] at HR2
   unfold gatL relL at HR2
   obtain ⟨bx,ox,q0,q1,q2,q3,q4,q5,rfl,htq,hcq⟩:=HXK.out 0 (by have:=HX0'.out (by omega);omega)
   have hxm0:(0:Int) < (xm:Int):=by have:=HX0.out (by omega);omega
   have hxmn:0 < xm:=by omega
   have HPX:=Lib.hid (fun W'=>rprim_walk htq W')
   have HCQ:Hid (KidQ w bx ox q0 q1 q2 q3 q4 q5):=by unfold Hid;simpa using hcq
   generalize primR (kidR tx 0)=px at *
   clear htq hcq
   have HG:=Lib.hid (fun W'=>one_gat f0 W')
   have HL:=Lib.hid (fun W'=>one_rel px W')
   generalize decide (f0∈[43,8743,8744,8968,8970])=cg at *
   generalize decide (px∈[60,8804,61,8805,62,8800,8714])=cl at *
   go_wp2_with fail
   refine (HF0.out _ HT3.out.rts.old).mono ?_
   rintro e w4 ⟨rfl,hb⟩
   have HT4:=Lib.hid (HT3.out.step hb)
   clear hb
   clear bn0 bn1 bn2 bn3 bn4 bn5 z0 z1 z2 z3 z4 z5 y0 y1 y2 y3 y4 y5
   obtain ⟨bn0,bn1,bn2,bn3,bn4,bn5⟩:=HT4.out.rts.box.c6
   obtain ⟨z0,z1,z2,z3,z4,z5⟩:=HT4.out.cells.1
   obtain ⟨y0,y1,y2,y3,y4,y5⟩:=HC0.out _ HT4.out.rts.old
   go_wp2_with fail
   refine (HG.out _).mono ?_
   rintro e w5 ⟨rfl,hb⟩
   have HT5:=Lib.hid (HT4.out.step hb)
   clear hb
   clear bn0 bn1 bn2 bn3 bn4 bn5 z0 z1 z2 z3 z4 z5 y0 y1 y2 y3 y4 y5
   obtain ⟨bn0,bn1,bn2,bn3,bn4,bn5⟩:=HT5.out.rts.box.c6
   obtain ⟨z0,z1,z2,z3,z4,z5⟩:=HT5.out.cells.1
   obtain ⟨y0,y1,y2,y3,y4,y5⟩:=HC0.out _ HT5.out.rts.old
   obtain ⟨r0,r1,r2,r3,r4,r5⟩:=HCQ.out _ HT5.out.rts.old
   clear HT3 HT4 HG
   cases cg with
   | true =>
    go_wp2_with fail
    refine (HPX.out _).mono ?_
    rintro e w6 ⟨rfl,hb⟩
    have HT6:=Lib.hid (HT5.out.step hb)
    clear hb
    go_wp2_with fail
    refine (HL.out _).mono ?_
    rintro e w7 ⟨rfl,hb⟩
    have HT7:=Lib.hid (HT6.out.step hb)
    clear hb
    clear bn0 bn1 bn2 bn3 bn4 bn5 z0 z1 z2 z3 z4 z5 y0 y1 y2 y3 y4 y5 r0 r1 r2 r3 r4 r5
    obtain ⟨bn0,bn1,bn2,bn3,bn4,bn5⟩:=HT7.out.rts.box.c6
    obtain ⟨z0,z1,z2,z3,z4,z5⟩:=HT7.out.cells.1
    obtain ⟨y0,y1,y2,y3,y4,y5⟩:=HC0.out _ HT7.out.rts.old
    obtain ⟨r0,r1,r2,r3,r4,r5⟩:=HCQ.out _ HT7.out.rts.old
    clear HT5 HT6 HL
    cases cl with
    | true =>
     have HQ:Hid (r=((2,f0,px),true)):=by unfold Hid;rw [HR2.out,toldP];rfl
     go_wp2_with fail
     refine (HPX.out _).mono ?_
     rintro e w8 ⟨rfl,hb⟩
     have HT8:=Lib.hid (HT7.out.step hb)
     clear hb
     obtain ⟨⟨d0,d1,d2⟩,dz⟩:=block3 HT8.out.rts.res
     go_wp2
     first
      | (refine bodyPost_ret (v := .tuple #[.agg #[.int .i64 ((2,f0,px),true).1.1,.int .i32 ((2,f0,px),true).1.2.1,.int .i32 ((2,f0,px),true).1.2.2],.bool ((2,f0,px),true).2]) ?_ rfl ⟨by rw [HQ.out],below_set3 HT8.out.rts.box.2.1 (Nat.le_succ _) _ _ _⟩;exact ret_rphr (fn:=Tryz.f30) (p:=2) (u:=3) rfl _ _ (W.heap.size+1) (by rfl) (set3_block HT8.out.rts.res _ _ _))
      | (refine bodyPost_ret (v := .tuple #[.agg #[.int .i64 ((2,f0,px),true).1.1,.int .i32 ((2,f0,px),true).1.2.1,.int .i32 ((2,f0,px),true).1.2.2],.bool ((2,f0,px),true).2]) ?_ rfl ⟨by rw [HQ.out],HT8.out.rts.box.2.1⟩;exact ret_rphr (fn:=Tryz.f30) (p:=2) (u:=3) rfl _ _ (W.heap.size+1) (by rfl) HT8.out.rts.res)
    | false =>
     have HQ:Hid (r=noP):=by unfold Hid;rw [HR2.out,toldP];rfl
     obtain ⟨⟨d0,d1,d2⟩,dz⟩:=block3 HT7.out.rts.res
     go_wp2
     first
      | (refine bodyPost_ret (v := .tuple #[.agg #[.int .i64 noP.1.1,.int .i32 noP.1.2.1,.int .i32 noP.1.2.2],.bool noP.2]) ?_ rfl ⟨by rw [HQ.out],below_set3 HT7.out.rts.box.2.1 (Nat.le_succ _) _ _ _⟩;exact ret_rphr (fn:=Tryz.f30) (p:=2) (u:=3) rfl _ _ (W.heap.size+1) (by rfl) (set3_block HT7.out.rts.res _ _ _))
      | (refine bodyPost_ret (v := .tuple #[.agg #[.int .i64 noP.1.1,.int .i32 noP.1.2.1,.int .i32 noP.1.2.2],.bool noP.2]) ?_ rfl ⟨by rw [HQ.out],HT7.out.rts.box.2.1⟩;exact ret_rphr (fn:=Tryz.f30) (p:=2) (u:=3) rfl _ _ (W.heap.size+1) (by rfl) HT7.out.rts.res)
   | false =>
    have HQ:Hid (r=noP):=by unfold Hid;rw [HR2.out,toldP];rfl
    obtain ⟨⟨d0,d1,d2⟩,dz⟩:=block3 HT5.out.rts.res
    go_wp2
    first
     | (refine bodyPost_ret (v := .tuple #[.agg #[.int .i64 noP.1.1,.int .i32 noP.1.2.1,.int .i32 noP.1.2.2],.bool noP.2]) ?_ rfl ⟨by rw [HQ.out],below_set3 HT5.out.rts.box.2.1 (Nat.le_succ _) _ _ _⟩;exact ret_rphr (fn:=Tryz.f30) (p:=2) (u:=3) rfl _ _ (W.heap.size+1) (by rfl) (set3_block HT5.out.rts.res _ _ _))
     | (refine bodyPost_ret (v := .tuple #[.agg #[.int .i64 noP.1.1,.int .i32 noP.1.2.1,.int .i32 noP.1.2.2],.bool noP.2]) ?_ rfl ⟨by rw [HQ.out],HT5.out.rts.box.2.1⟩;exact ret_rphr (fn:=Tryz.f30) (p:=2) (u:=3) rfl _ _ (W.heap.size+1) (by rfl) HT5.out.rts.res)
  ·have e10:(xk==10)=false:=by simpa using h10
   have HQ:Hid (r=noP):=by unfold Hid;rw [HR.out,if_neg h9,if_neg h10]
   clear HR h9 h10 HXK HX0 HX0'
   go_wp2_with fail
   refine (HF0.out _ HT3.out.rts.old).mono ?_
   rintro e w4 ⟨rfl,hb⟩
   have HT4:=Lib.hid (HT3.out.step hb)
   clear hb
   clear bn0 bn1 bn2 bn3 bn4 bn5 z0 z1 z2 z3 z4 z5 y0 y1 y2 y3 y4 y5
   obtain ⟨bn0,bn1,bn2,bn3,bn4,bn5⟩:=HT4.out.rts.box.c6
   obtain ⟨z0,z1,z2,z3,z4,z5⟩:=HT4.out.cells.1
   obtain ⟨y0,y1,y2,y3,y4,y5⟩:=HC0.out _ HT4.out.rts.old
   obtain ⟨⟨d0,d1,d2⟩,dz⟩:=block3 HT4.out.rts.res
   go_wp2
   first
    | (refine bodyPost_ret (v := .tuple #[.agg #[.int .i64 noP.1.1,.int .i32 noP.1.2.1,.int .i32 noP.1.2.2],.bool noP.2]) ?_ rfl ⟨by rw [HQ.out],below_set3 HT4.out.rts.box.2.1 (Nat.le_succ _) _ _ _⟩;exact ret_rphr (fn:=Tryz.f30) (p:=2) (u:=3) rfl _ _ (W.heap.size+1) (by rfl) (set3_block HT4.out.rts.res _ _ _))
    | (refine bodyPost_ret (v := .tuple #[.agg #[.int .i64 noP.1.1,.int .i32 noP.1.2.1,.int .i32 noP.1.2.2],.bool noP.2]) ?_ rfl ⟨by rw [HQ.out],HT4.out.rts.box.2.1⟩;exact ret_rphr (fn:=Tryz.f30) (p:=2) (u:=3) rfl _ _ (W.heap.size+1) (by rfl) HT4.out.rts.res)
end Go.Proofs.YtbakjaliponbbaaGreatDoor
