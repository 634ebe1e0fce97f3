/- The walk of the reference's Match over trees: kind 10. Printed by .. Conditions: as each theorem says. -/
import Derived.Test.YtbakjaliponbbaaGreatDoorMg25
set_option maxRecDepth 100000
set_option maxHeartbeats 6400000
namespace Go.Proofs.YtbakjaliponbbaaGreatDoor
open Go Go.RowKit Go.Proofs Fl
theorem RtX.self {w W W':World}{vs:List Value}{X Y:Nat}{xs ys:List Value} (g:RtX w W vs X Y xs ys W'):RtX w W vs X Y xs ys W':=g
theorem rt10_s {w W W':World}{X Y b o:Nat}{A1:Option Addr}{n1 c1:Nat}{A2:Option Addr}{n2 c2:Nat}{s:ByteArray}{c:Int}{cc:Nat}{q0 q1 q2 q3 q4 q5 r0 r1 r2 r3 r4 r5:Value}{xA1:Option Addr}{xn1 xc1:Nat}{xA2:Option Addr}{xn2 xc2:Nat}{xs:ByteArray}{xc:Int}{bx ox xm xcc:Nat}{yk:Int}{yA1:Option Addr}{yn1 yc1:Nat}{yA2:Option Addr}{yn2 yc2:Nat}{ys:ByteArray}{yc:Int}{yA:Option Addr}{ym ycc:Nat}
  (hq:KidQ w bx ox q0 q1 q2 q3 q4 q5) (hr:KidQ w bx (ox+6) r0 r1 r2 r3 r4 r5) (g:RtX w W [.int .i64 10,.slice A1 n1 c1,.slice A2 n2 c2,.string s,.int .i32 c,.slice (some ⟨b,o,none⟩) 3 cc] X Y [.int .i64 9,.slice xA1 xn1 xc1,.slice xA2 xn2 xc2,.string xs,.int .i32 xc,.slice (some ⟨bx,ox,none⟩) xm xcc] [.int .i64 yk,.slice yA1 yn1 yc1,.slice yA2 yn2 yc2,.string ys,.int .i32 yc,.slice yA ym ycc] W'):(W'.cell? ⟨X,0,none⟩=some (.int .i64 9)/\W'.cell? ⟨X,1,none⟩=some (.slice xA1 xn1 xc1)/\W'.cell? ⟨X,2,none⟩=some (.slice xA2 xn2 xc2)/\W'.cell? ⟨X,3,none⟩=some (.string xs)/\W'.cell? ⟨X,4,none⟩=some (.int .i32 xc)/\W'.cell? ⟨X,5,none⟩=some (.slice (some ⟨bx,ox,none⟩) xm xcc))/\(W'.cell? ⟨Y,0,none⟩=some (.int .i64 yk)/\W'.cell? ⟨Y,1,none⟩=some (.slice yA1 yn1 yc1)/\W'.cell? ⟨Y,2,none⟩=some (.slice yA2 yn2 yc2)/\W'.cell? ⟨Y,3,none⟩=some (.string ys)/\W'.cell? ⟨Y,4,none⟩=some (.int .i32 yc)/\W'.cell? ⟨Y,5,none⟩=some (.slice yA ym ycc))/\(W'.cell? ⟨bx,ox,none⟩=some (q0)/\W'.cell? ⟨bx,ox+1,none⟩=some (q1)/\W'.cell? ⟨bx,ox+2,none⟩=some (q2)/\W'.cell? ⟨bx,ox+3,none⟩=some (q3)/\W'.cell? ⟨bx,ox+4,none⟩=some (q4)/\W'.cell? ⟨bx,ox+5,none⟩=some (q5))/\(W'.cell? ⟨bx,ox+6,none⟩=some (r0)/\W'.cell? ⟨bx,ox+6+1,none⟩=some (r1)/\W'.cell? ⟨bx,ox+6+2,none⟩=some (r2)/\W'.cell? ⟨bx,ox+6+3,none⟩=some (r3)/\W'.cell? ⟨bx,ox+6+4,none⟩=some (r4)/\W'.cell? ⟨bx,ox+6+5,none⟩=some (r5))/\RtX w W [.int .i64 10,.slice A1 n1 c1,.slice A2 n2 c2,.string s,.int .i32 c,.slice (some ⟨b,o,none⟩) 3 cc] X Y [.int .i64 9,.slice xA1 xn1 xc1,.slice xA2 xn2 xc2,.string xs,.int .i32 xc,.slice (some ⟨bx,ox,none⟩) xm xcc] [.int .i64 yk,.slice yA1 yn1 yc1,.slice yA2 yn2 yc2,.string ys,.int .i32 yc,.slice yA ym ycc] W' :=
 ⟨g.cells.1,g.cells.2,hq W' g.rts.old,hr W' g.rts.old,g⟩
theorem rmatch_10 {w:World}{t:RTree}{v0 v1 v2 v3 v4 v5:Value} (ht:RN w t [v0,v1,v2,v3,v4,v5]) (h10:kindR t=10) (hs:Shp3 t) (W:World) (hb:Below w.heap.size w W) :
  Calls Tryz.prog 30 #[.agg #[v0,v1,v2,v3,v4,v5]] W (PhR W (mtP t)):=by
 obtain ⟨hs1,hs2,hs3⟩:=hs
 have hl:=hs1.2.1 h10
 obtain ⟨A1,n1,c1,A2,n2,c2,A,m,cc,rfl,rfl,rfl,rfl,rfl,rfl,hm,hkid⟩:=ht.vals
 obtain ⟨b,o,u0,u1,u2,u3,u4,u5,rfl,ht0,hc0⟩:=hkid 0 (by omega)
 obtain ⟨b',o',x0,x1,x2,x3,x4,x5,e,htx,hcx⟩:=hkid 1 (by omega)
 cases e
 obtain ⟨b',o',y0,y1,y2,y3,y4,y5,e,hty,hcy⟩:=hkid 2 (by omega)
 cases e
 obtain ⟨xA1,xn1,xc1,xA2,xn2,xc2,xA,xm,xcc,rfl,rfl,rfl,rfl,rfl,rfl,hxm,hxk⟩:=htx.vals
 obtain ⟨yA1,yn1,yc1,yA2,yn2,yc2,yA,ym,ycc,rfl,rfl,rfl,rfl,rfl,rfl,hym,hyk⟩:=hty.vals
 have HC0:Hid (KidQ w b o u0 u1 u2 u3 u4 u5):=by unfold Hid;have:=hc0;simpa using this
 have HCX:=Lib.hid hcx
 rw [Nat.one_mul] at HCX
 have HXK:=Lib.hid hxk
 have HBW:=Lib.hid hb
 have HYK:=Lib.hid hyk
 have HTY:=Lib.hid hty
 have HP0:=Lib.hid (fun W'=>rprim_walk ht0 W')
 have HX9:Hid (kindR (kidR t 1)=9->xm=2):=fun h=>by rw [hxm];exact (hs2 1 (by omega)).1 h
 have HX9':Hid (kindR (kidR t 1)=9->(kidsR (kidR t 1)).length=2):=fun h=>(hs2 1 (by omega)).1 h
 have HY9:Hid (kindR (kidR t 2)=9->ym=2):=fun h=>by rw [hym];exact (hs2 2 (by omega)).1 h
 have HY9':Hid (kindR (kidR t 2)=9->(kidsR (kidR t 2)).length=2):=fun h=>(hs2 2 (by omega)).1 h
 have HFX:Hid (kindR (kidR t 1)=9->kindR (kidR (kidR t 1) 0)=16->0 < (kidsR (kidR (kidR t 1) 0)).length):=fun h h2=>by have:=(hs2 1 (by omega)).1 h;have:=(hs3 1 (by omega) 0 (by omega)).2.2.2 h2;omega
 have HFY:Hid (kindR (kidR t 2)=9->kindR (kidR (kidR t 2) 0)=16->0 < (kidsR (kidR (kidR t 2) 0)).length):=fun h h2=>by have:=(hs2 2 (by omega)).1 h;have:=(hs3 2 (by omega) 0 (by omega)).2.2.2 h2;omega
 obtain ⟨r,hr⟩:∃ r,r=mtP t:=⟨_,rfl⟩
 have HR:Hid (r=if primR (kidR t 0)=247/\kindR (kidR t 1)=9/\kindR (kidR t 2)=9/\sameV (kidR (kidR t 1) 1) (kidR (kidR t 2) 1)=true then toldP 4 43 8802 (decide (primR (kidR (kidR t 1) 0)=8802)&&decide (foldR (kidR (kidR t 2) 0)=43))
  else if primR (kidR t 0)=9075/\kindR (kidR t 1)=9/\sameV (kidR (kidR t 1) 1) (kidR t 2)=true then toldP 5 (primR (kidR t 0)) (foldR (kidR (kidR t 1) 0)) (decide (foldR (kidR (kidR t 1) 0)=8968)||decide (foldR (kidR (kidR t 1) 0)=8970))
  else noP):=by unfold Hid;rw [hr,mtP,if_neg (by omega),if_neg (by omega),if_pos h10];rfl
 rw [<- hr]
 obtain rfl:m=3:=by omega
 rw [h10]
 clear hkid ht ht0 htx hty hc0 hcx hxk hyk hb hr hs1 hs2 hs3 hl hm hxm hym h10
 have HCY:=Lib.hid hcy
 rw [show 2*6=12 from rfl] at HCY
 clear hcy
 generalize primR (kidR t 0)=p0 at *
 generalize kidR t 1=tx at *
 generalize kidR t 2=ty at *
 generalize hxk:kindR tx=xk at *
 generalize hyk:kindR ty=yk at *
 generalize charR t=c at *
 generalize nameR t=s at *
 generalize nameR tx=xs at *
 generalize charR tx=xc at *
 generalize nameR ty=ys at *
 generalize charR ty=yc at *
 clear hxk hyk
 obtain ⟨W0,hW0⟩:∃ W0,W0=(W.alloc (.cells #[.int .i64 10,.slice A1 n1 c1,.slice A2 n2 c2,.string s,.int .i32 c,.slice (some ⟨b,o,none⟩) 3 cc] 29)).alloc (.cells #[.int .i64 0,.int .i32 0,.int .i32 0] 68):=⟨_,rfl⟩
 have HW0:=Lib.hid hW0
 have HS0:Hid (RtS w W [.int .i64 10,.slice A1 n1 c1,.slice A2 n2 c2,.string s,.int .i32 c,.slice (some ⟨b,o,none⟩) 3 cc] W0):=by unfold Hid;rw [hW0];exact RtS.start [.int .i64 10,.slice A1 n1 c1,.slice A2 n2 c2,.string s,.int .i32 c,.slice (some ⟨b,o,none⟩) 3 cc] 29 HBW.out
 clear hW0
 obtain ⟨bn0,bn1,bn2,bn3,bn4,bn5⟩:=HS0.out.box.c6
 obtain ⟨y0,y1,y2,y3,y4,y5⟩:=HCX.out _ HS0.out.old
 obtain ⟨W2,hW2⟩:∃ W2,W2=W0.alloc (.cells #[.int .i64 xk,.slice xA1 xn1 xc1,.slice xA2 xn2 xc2,.string xs,.int .i32 xc,.slice xA xm xcc] 29):=⟨_,rfl⟩
 obtain ⟨X,hX⟩:∃ X,X=W0.heap.size:=⟨_,rfl⟩
 have HW2:=Lib.hid hW2
 have HXX:=Lib.hid hX
 have HT2:Hid (RtX w W [.int .i64 10,.slice A1 n1 c1,.slice A2 n2 c2,.string s,.int .i32 c,.slice (some ⟨b,o,none⟩) 3 cc] X X [.int .i64 xk,.slice xA1 xn1 xc1,.slice xA2 xn2 xc2,.string xs,.int .i32 xc,.slice xA xm xcc] [.int .i64 xk,.slice xA1 xn1 xc1,.slice xA2 xn2 xc2,.string xs,.int .i32 xc,.slice xA xm xcc] W2):=by unfold Hid;rw [hW2,hX];exact RtX.start HS0.out [.int .i64 xk,.slice xA1 xn1 xc1,.slice xA2 xn2 xc2,.string xs,.int .i32 xc,.slice xA xm xcc] 29
 clear hW2 hX
 go_enter Tryz.func30,Tryz.ntmps30
 go_upto_region 1 with fail
 rw [<- HW0.out]
 go_upto_region 4 with fail
 rw [<- HW2.out,<- HXX.out]
 clear bn0 bn1 bn2 bn3 bn4 bn5 y0 y1 y2 y3 y4 y5 HS0 HW0 HW2 HXX
 obtain ⟨bn0,bn1,bn2,bn3,bn4,bn5⟩:=HT2.out.rts.box.c6
 obtain ⟨z0,z1,z2,z3,z4,z5⟩:=HT2.out.cells.1
 obtain ⟨y0,y1,y2,y3,y4,y5⟩:=HC0.out _ HT2.out.rts.old
 go_wp2_with fail
 refine (HP0.out _).mono ?_
 rintro e w3 ⟨rfl,hb⟩
 have HT3:=Lib.hid (HT2.out.step hb)
 clear hb
 clear bn0 bn1 bn2 bn3 bn4 bn5 z0 z1 z2 z3 z4 z5 y0 y1 y2 y3 y4 y5 HT2
 obtain ⟨bn0,bn1,bn2,bn3,bn4,bn5⟩:=HT3.out.rts.box.c6
 obtain ⟨y0,y1,y2,y3,y4,y5⟩:=HCY.out _ HT3.out.rts.old
 obtain ⟨w4,hw4⟩:∃ w4,w4=w3.alloc (.cells #[.int .i64 yk,.slice yA1 yn1 yc1,.slice yA2 yn2 yc2,.string ys,.int .i32 yc,.slice yA ym ycc] 29):=⟨_,rfl⟩
 obtain ⟨Y,hY⟩:∃ Y,Y=w3.heap.size:=⟨_,rfl⟩
 have HW4:=Lib.hid hw4
 have HYY:=Lib.hid hY
 have HT4:Hid (RtX w W [.int .i64 10,.slice A1 n1 c1,.slice A2 n2 c2,.string s,.int .i32 c,.slice (some ⟨b,o,none⟩) 3 cc] X Y [.int .i64 xk,.slice xA1 xn1 xc1,.slice xA2 xn2 xc2,.string xs,.int .i32 xc,.slice xA xm xcc] [.int .i64 yk,.slice yA1 yn1 yc1,.slice yA2 yn2 yc2,.string ys,.int .i32 yc,.slice yA ym ycc] w4):=by unfold Hid;rw [hw4,hY];exact RtX.more HT3.out [.int .i64 yk,.slice yA1 yn1 yc1,.slice yA2 yn2 yc2,.string ys,.int .i32 yc,.slice yA ym ycc] 29
 clear hw4 hY
 go_upto_region 17 with fail
 rw [<- HW4.out,<- HYY.out]
 clear bn0 bn1 bn2 bn3 bn4 bn5 y0 y1 y2 y3 y4 y5 HT3 HW4 HYY HCY HCX HC0 HP0
 obtain ⟨B,hB⟩:∃ B,B=decide ((p0=247/\xk=9/\yk=9/\sameV (kidR tx 1) (kidR ty 1)=true)/\primR (kidR tx 0)=8802/\foldR (kidR ty 0)=43):=⟨_,rfl⟩
 have HBB:=Lib.hid hB
 clear hB
 go_cut [161] from 162 (fun v wy=>v= .bool B/\RtX w W [.int .i64 10,.slice A1 n1 c1,.slice A2 n2 c2,.string s,.int .i32 c,.slice (some ⟨b,o,none⟩) 3 cc] X Y [.int .i64 xk,.slice xA1 xn1 xc1,.slice xA2 xn2 xc2,.string xs,.int .i32 xc,.slice xA xm xcc] [.int .i64 yk,.slice yA1 yn1 yc1,.slice yA2 yn2 yc2,.string ys,.int .i32 yc,.slice yA ym ycc] wy)
 case first =>
  have hL1:=LatW.cell (w:=w4) (g:=X) HT4.out.lx
  have hL2:=LatW.cell (w:=w4) (g:=Y) HT4.out.ly
  clear HR
  obtain ⟨⟨z0,z1,z2,z3,z4,z5⟩,⟨yy0,yy1,yy2,yy3,yy4,yy5⟩⟩:=HT4.out.cells
  by_cases h1:p0=247
  ·subst h1
   by_cases h2:xk=9
   ·subst h2
    by_cases h3:yk=9
    ·subst h3
     obtain ⟨bx,ox,r0,r1,r2,r3,r4,r5,rfl,htr,hcr⟩:=HXK.out 1 (by have:=HX9'.out rfl;omega)
     have hxi:(1:Int) < (xm:Int):=by have:=HX9.out rfl;omega
     have hxn:1 < xm:=by have:=HX9.out rfl;omega
     have HCR:Hid (KidQ w bx (ox+6) r0 r1 r2 r3 r4 r5):=by unfold Hid;simpa using hcr
     obtain ⟨rr0,rr1,rr2,rr3,rr4,rr5⟩:=HCR.out _ HT4.out.rts.old
     have hL3:=LatW.cell (w:=w4) (g:=bx) (cell_lt rr0)
     obtain ⟨by_,oy,p0,p1,p2,p3,p4,p5,rfl,htp,hcp⟩:=HYK.out 1 (by have:=HY9'.out rfl;omega)
     have hyi:(1:Int) < (ym:Int):=by have:=HY9.out rfl;omega
     have hyn:1 < ym:=by have:=HY9.out rfl;omega
     have HCP:Hid (KidQ w by_ (oy+6) p0 p1 p2 p3 p4 p5):=by unfold Hid;simpa using hcp
     obtain ⟨pp0,pp1,pp2,pp3,pp4,pp5⟩:=HCP.out _ HT4.out.rts.old
     have hL4:=LatW.cell (w:=w4) (g:=by_) (cell_lt pp0)
     have HSA:=Lib.hid (fun W'=>rsame_walk htr htp W')
     have HBC:Hid (B=(sameV (kidR tx 1) (kidR ty 1)&&decide (primR (kidR tx 0)=8802)&&decide (foldR (kidR ty 0)=43))):=by unfold Hid;rw [HBB.out];simp [Bool.and_assoc]
     clear htr htp hcr hcp HBB
     generalize sameV (kidR tx 1) (kidR ty 1)=sm at *
     cases sm with
     | false =>
      have hB:B=false:=HBC.out
      clear HBC HXK HX9 HX9' HY9 HY9' HYK HTY HFX HFY
      go_wp2_with fail
      refine region_calm (by kernel_rfl) (by kernel_rfl) ?_
      repeat (go_big_quiet_step ((go_at_call 64;refine calm_of (HSA.out _))))
      refine wpQuiet_nil ?_
      intro _ hw'
      obtain ⟨nq,hw''⟩:=hw'
      subst hw''
      first | go_meet | (go_wp2;go_meet) | (go_simp;go_meet)
      exact ⟨by rw [hB],HT4.out.step nq.h⟩
     | true =>
      obtain ⟨b',o',q0,q1,q2,q3,q4,q5,e,htq,hcq⟩:=HXK.out 0 (by have:=HX9'.out rfl;omega)
      cases e
      have hx0:(0:Int) < (xm:Int):=by omega
      have hxn0:0 < xm:=by omega
      have HCQ:Hid (KidQ w bx ox q0 q1 q2 q3 q4 q5):=by unfold Hid;simpa using hcq
      obtain ⟨qq0,qq1,qq2,qq3,qq4,qq5⟩:=HCQ.out _ HT4.out.rts.old
      have HPX:=Lib.hid (fun W'=>rprim_walk htq W')
      by_cases h5:primR (kidR tx 0)=8802
      ·have hB0:Hid (B=decide (foldR (kidR ty 0)=43)):=by unfold Hid;rw [HBC.out,h5];simp
       rw [h5] at HPX
       obtain ⟨b',o',k0,k1,k2,k3,k4,k5,e,htk,hck⟩:=HYK.out 0 (by have:=HY9'.out rfl;omega)
       cases e
       have hy0:(0:Int) < (ym:Int):=by omega
       have hyn0:0 < ym:=by omega
       have HCK:Hid (KidQ w by_ oy k0 k1 k2 k3 k4 k5):=by unfold Hid;simpa using hck
       obtain ⟨kk0,kk1,kk2,kk3,kk4,kk5⟩:=HCK.out _ HT4.out.rts.old
       have HFO:=Lib.hid (fun W' hb'=>rfolded_walk htk (HFY.out rfl) W' hb')
       clear HBC htq htk hcq hck HXK HX9 HX9' HY9 HY9' HYK HTY HFX HFY h5
       generalize foldR (kidR ty 0)=fy at *
       have hB:=hB0.out
       clear hB0
       go_wp2_with fail
       refine region_calm (by kernel_rfl) (by kernel_rfl) ?_
       repeat (go_big_quiet_step (first | (go_at_call 64;refine calm_of (HSA.out _)) | (go_at_call 66;refine calm_of (HPX.out _)) | (go_at_call 68;refine calm_of (HFO.out _ (bel_both HT4.out.rts.old (LatW.h _))))))
       refine wpQuiet_nil ?_
       intro _ hw'
       obtain ⟨nq,hw''⟩:=hw'
       subst hw''
       first | go_meet | (go_wp2;go_meet) | (go_simp;go_meet)
       exact ⟨by rw [hB];rfl,HT4.out.step nq.h⟩
      ·have hB:B=false:=by rw [HBC.out];simp [h5]
       have e5:(primR (kidR tx 0)==8802)=false:=by simpa using h5
       clear HBC htq hcq HXK HX9 HX9' HY9 HY9' HYK HTY HFX HFY h5
       generalize primR (kidR tx 0)=px at *
       go_wp2_with fail
       refine region_calm (by kernel_rfl) (by kernel_rfl) ?_
       repeat (go_big_quiet_step (first | (go_at_call 64;refine calm_of (HSA.out _)) | (go_at_call 66;refine calm_of (HPX.out _))))
       refine wpQuiet_nil ?_
       intro _ hw'
       obtain ⟨nq,hw''⟩:=hw'
       subst hw''
       first | go_meet | (go_wp2;go_meet) | (go_simp;go_meet)
       exact ⟨by rw [hB],HT4.out.step nq.h⟩
    ·have hB:B=false:=by rw [HBB.out];simp [h3]
     have e3:(yk==9)=false:=by simpa using h3
     clear HBB HXK HX9 HX9' HY9 HY9' HYK HTY HFX HFY h3
     go_wp2_with fail
     refine region_calm (by kernel_rfl) (by kernel_rfl) ?_
     repeat (go_big_quiet_step ((fail)))
     refine wpQuiet_nil ?_
     intro _ hw'
     obtain ⟨nq,hw''⟩:=hw'
     subst hw''
     first | go_meet | (go_wp2;go_meet) | (go_simp;go_meet)
     exact ⟨by rw [hB],HT4.out.step nq.h⟩
   ·have hB:B=false:=by rw [HBB.out];simp [h2]
    have e2:(xk==9)=false:=by simpa using h2
    clear HBB HXK HX9 HX9' HY9 HY9' HYK HTY HFX HFY h2
    go_wp2_with fail
    refine region_calm (by kernel_rfl) (by kernel_rfl) ?_
    repeat (go_big_quiet_step ((fail)))
    refine wpQuiet_nil ?_
    intro _ hw'
    obtain ⟨nq,hw''⟩:=hw'
    subst hw''
    first | go_meet | (go_wp2;go_meet) | (go_simp;go_meet)
    exact ⟨by rw [hB],HT4.out.step nq.h⟩
  ·have hB:B=false:=by rw [HBB.out];simp [h1]
   have e1:(p0==247)=false:=by simpa using h1
   clear HBB HXK HX9 HX9' HY9 HY9' HYK HTY HFX HFY h1
   go_wp2_with fail
   refine region_calm (by kernel_rfl) (by kernel_rfl) ?_
   repeat (go_big_quiet_step ((fail)))
   refine wpQuiet_nil ?_
   intro _ hw'
   obtain ⟨nq,hw''⟩:=hw'
   subst hw''
   first | go_meet | (go_wp2;go_meet) | (go_simp;go_meet)
   exact ⟨by rw [hB],HT4.out.step nq.h⟩
 case rest =>
  obtain ⟨rfl,htw⟩:=hcut
  obtain ⟨w5,hw5⟩:∃ w5,w5=wc:=⟨_,rfl⟩
  subst hw5
  have HT5:=Lib.hid htw
  clear htw HT4
  cases B with
  | true =>
   have hp:=HBB.out
   simp only [Bool.true_eq,decide_eq_true_eq] at hp
   have HQ:Hid (r=((4,43,8802),true)):=by unfold Hid;rw [HR.out,if_pos hp.1,hp.2.1,hp.2.2];rfl
   clear HR HBB hp HXK HX9 HX9' HY9 HY9' HYK HTY HFX HFY
   obtain ⟨⟨d0,d1,d2⟩,dz⟩:=block3 HT5.out.rts.res
   go_wp2
   first
    | (refine bodyPost_ret (v := .tuple #[.agg #[.int .i64 ((4,43,8802),true).1.1,.int .i32 ((4,43,8802),true).1.2.1,.int .i32 ((4,43,8802),true).1.2.2],.bool ((4,43,8802),true).2]) ?_ rfl ⟨by rw [HQ.out],below_set3 HT5.out.rts.box.2.1 (Nat.le_succ _) _ _ _⟩;exact ret_rphr (fn:=Tryz.f30) (p:=2) (u:=3) rfl _ _ (W.heap.size+1) (by rfl) (set3_block HT5.out.rts.res _ _ _))
    | (refine bodyPost_ret (v := .tuple #[.agg #[.int .i64 ((4,43,8802),true).1.1,.int .i32 ((4,43,8802),true).1.2.1,.int .i32 ((4,43,8802),true).1.2.2],.bool ((4,43,8802),true).2]) ?_ rfl ⟨by rw [HQ.out],HT5.out.rts.box.2.1⟩;exact ret_rphr (fn:=Tryz.f30) (p:=2) (u:=3) rfl _ _ (W.heap.size+1) (by rfl) HT5.out.rts.res)
  | false =>
   have hno:=HBB.out
   simp only [Bool.false_eq,decide_eq_false_iff_not] at hno
   have HR2:Hid (r=if p0=9075/\xk=9/\sameV (kidR tx 1) ty=true/\(foldR (kidR tx 0)=8968\/foldR (kidR tx 0)=8970) then ((5,p0,foldR (kidR tx 0)),true) else noP):=by
    unfold Hid;rw [HR.out]
    by_cases h:p0=247/\xk=9/\yk=9/\sameV (kidR tx 1) (kidR ty 1)=true
    ·rw [if_pos h,if_neg (fun e=>by have:=h.1;have:=e.1;omega)]
     have:(decide (primR (kidR tx 0)=8802)&&decide (foldR (kidR ty 0)=43))=false:=by
      rw [Bool.eq_false_iff];intro e;simp only [Bool.and_eq_true,decide_eq_true_eq] at e;exact hno ⟨h,e⟩
     rw [this];rfl
    ·rw [if_neg h]
     by_cases h2:p0=9075/\xk=9/\sameV (kidR tx 1) ty=true
     ·rw [if_pos h2]
      by_cases h3:foldR (kidR tx 0)=8968\/foldR (kidR tx 0)=8970
      ·rw [if_pos ⟨h2.1,h2.2.1,h2.2.2,h3⟩]
       have:(decide (foldR (kidR tx 0)=8968)||decide (foldR (kidR tx 0)=8970))=true:=by simpa using h3
       rw [this];rfl
      ·rw [if_neg (fun e=>h3 e.2.2.2)]
       have:(decide (foldR (kidR tx 0)=8968)||decide (foldR (kidR tx 0)=8970))=false:=by simpa using h3
       rw [this];rfl
     ·rw [if_neg h2,if_neg (fun e=>h2 ⟨e.1,e.2.1,e.2.2.1⟩)]
   clear HR HBB hno
   obtain ⟨B,hB⟩:∃ B,B=decide (p0=9075/\xk=9/\sameV (kidR tx 1) ty=true/\(foldR (kidR tx 0)=8968\/foldR (kidR tx 0)=8970)):=⟨_,rfl⟩
   have HBB:=Lib.hid hB
   clear hB
   go_upto_region 19 with fail
   go_cut [186] from 187 (fun v wy=>v= .bool B/\RtX w W [.int .i64 10,.slice A1 n1 c1,.slice A2 n2 c2,.string s,.int .i32 c,.slice (some ⟨b,o,none⟩) 3 cc] X Y [.int .i64 xk,.slice xA1 xn1 xc1,.slice xA2 xn2 xc2,.string xs,.int .i32 xc,.slice xA xm xcc] [.int .i64 yk,.slice yA1 yn1 yc1,.slice yA2 yn2 yc2,.string ys,.int .i32 yc,.slice yA ym ycc] wy)
   case first =>
    have hL1:=LatW.cell (w:=w5) (g:=X) HT5.out.lx
    have hL2:=LatW.cell (w:=w5) (g:=Y) HT5.out.ly
    clear HR2
    by_cases h1:p0=9075
    ·subst h1
     by_cases h2:xk=9
     ·subst h2
      obtain ⟨bx,ox,r0,r1,r2,r3,r4,r5,rfl,htr,hcr⟩:=HXK.out 1 (by have:=HX9'.out rfl;omega)
      have hxi:(1:Int) < (xm:Int):=by have:=HX9.out rfl;omega
      have hxn:1 < xm:=by have:=HX9.out rfl;omega
      have HCR:Hid (KidQ w bx (ox+6) r0 r1 r2 r3 r4 r5):=by unfold Hid;simpa using hcr
      obtain ⟨rr0,rr1,rr2,rr3,rr4,rr5⟩:=HCR.out _ HT5.out.rts.old
      have hL3:=LatW.cell (w:=w5) (g:=bx) (cell_lt rr0)
      have HSA:=Lib.hid (fun W'=>rsame_walk htr HTY.out W')
      clear htr hcr
      have HBC:Hid (B=(sameV (kidR tx 1) ty&&decide (foldR (kidR tx 0)∈[8968,8970]))):=by unfold Hid;rw [HBB.out];simp
      clear HBB
      generalize sameV (kidR tx 1) ty=sm at *
      cases sm with
      | false =>
       have hB:B=false:=HBC.out
       clear HBC HXK HX9 HX9' HY9 HY9' HYK HTY HFX HFY
       obtain ⟨⟨z0,z1,z2,z3,z4,z5⟩,⟨yy0,yy1,yy2,yy3,yy4,yy5⟩⟩:=HT5.out.cells
       go_wp2_with fail
       refine region_calm (by kernel_rfl) (by kernel_rfl) ?_
       repeat (go_big_quiet_step ((go_at_call 64;refine calm_of (HSA.out _))))
       refine wpQuiet_nil ?_
       intro _ hw'
       obtain ⟨nq,hw''⟩:=hw'
       subst hw''
       first | go_meet | (go_wp2;go_meet) | (go_simp;go_meet)
       exact ⟨by rw [hB],HT5.out.step nq.h⟩
      | true =>
       have hB:B=decide (foldR (kidR tx 0)∈[8968,8970]):=by rw [HBC.out];rfl
       obtain ⟨b',o',q0,q1,q2,q3,q4,q5,e,htq,hcq⟩:=HXK.out 0 (by have:=HX9'.out rfl;omega)
       cases e
       have hx0:(0:Int) < (xm:Int):=by omega
       have hxn0:0 < xm:=by omega
       have HCQ:Hid (KidQ w bx ox q0 q1 q2 q3 q4 q5):=by unfold Hid;simpa using hcq
       have HFO:=Lib.hid (fun W' (g:RtX w W [.int .i64 10,.slice A1 n1 c1,.slice A2 n2 c2,.string s,.int .i32 c,.slice (some ⟨b,o,none⟩) 3 cc] X Y [.int .i64 9,.slice xA1 xn1 xc1,.slice xA2 xn2 xc2,.string xs,.int .i32 xc,.slice (some ⟨bx,ox,none⟩) xm xcc] [.int .i64 yk,.slice yA1 yn1 yc1,.slice yA2 yn2 yc2,.string ys,.int .i32 yc,.slice yA ym ycc] W')=>rfolded_walk htq (HFX.out rfl) W' g.rts.old)
       clear HBC htq hcq HXK HX9 HX9' HY9 HY9' HYK HTY HFX HFY hL1 hL2 hL3 rr0 rr1 rr2 rr3 rr4 rr5
       generalize foldR (kidR tx 0)=fx at *
       have hs0:=HT5.out.dr
       have hs00:=HT5.out
       go_region_held3 (fun W'=>(W'.cell? ⟨X,0,none⟩=some (.int .i64 9)/\W'.cell? ⟨X,1,none⟩=some (.slice xA1 xn1 xc1)/\W'.cell? ⟨X,2,none⟩=some (.slice xA2 xn2 xc2)/\W'.cell? ⟨X,3,none⟩=some (.string xs)/\W'.cell? ⟨X,4,none⟩=some (.int .i32 xc)/\W'.cell? ⟨X,5,none⟩=some (.slice (some ⟨bx,ox,none⟩) xm xcc))/\(W'.cell? ⟨Y,0,none⟩=some (.int .i64 yk)/\W'.cell? ⟨Y,1,none⟩=some (.slice yA1 yn1 yc1)/\W'.cell? ⟨Y,2,none⟩=some (.slice yA2 yn2 yc2)/\W'.cell? ⟨Y,3,none⟩=some (.string ys)/\W'.cell? ⟨Y,4,none⟩=some (.int .i32 yc)/\W'.cell? ⟨Y,5,none⟩=some (.slice yA ym ycc))/\(W'.cell? ⟨bx,ox,none⟩=some (q0)/\W'.cell? ⟨bx,ox+1,none⟩=some (q1)/\W'.cell? ⟨bx,ox+2,none⟩=some (q2)/\W'.cell? ⟨bx,ox+3,none⟩=some (q3)/\W'.cell? ⟨bx,ox+4,none⟩=some (q4)/\W'.cell? ⟨bx,ox+5,none⟩=some (q5))/\(W'.cell? ⟨bx,ox+6,none⟩=some (r0)/\W'.cell? ⟨bx,ox+6+1,none⟩=some (r1)/\W'.cell? ⟨bx,ox+6+2,none⟩=some (r2)/\W'.cell? ⟨bx,ox+6+3,none⟩=some (r3)/\W'.cell? ⟨bx,ox+6+4,none⟩=some (r4)/\W'.cell? ⟨bx,ox+6+5,none⟩=some (r5))/\RtX w W [.int .i64 10,.slice A1 n1 c1,.slice A2 n2 c2,.string s,.int .i32 c,.slice (some ⟨b,o,none⟩) 3 cc] X Y [.int .i64 9,.slice xA1 xn1 xc1,.slice xA2 xn2 xc2,.string xs,.int .i32 xc,.slice (some ⟨bx,ox,none⟩) xm xcc] [.int .i64 yk,.slice yA1 yn1 yc1,.slice yA2 yn2 yc2,.string ys,.int .i32 yc,.slice yA ym ycc] W')
        (first | (with_reducible assumption) | (with_reducible (refine rt10_s HCQ.out HCR.out ?_);repeat (first | (with_reducible assumption) | (with_reducible refine RtX.dr ?_) | (with_reducible refine RtX.al ?_ _))))
        (first
         | (go_at_call 64;(with_reducible refine (HSA.out _).mono ?_);rintro e w6 ⟨rfl,hb6⟩;have hst6:RtX w W [.int .i64 10,.slice A1 n1 c1,.slice A2 n2 c2,.string s,.int .i32 c,.slice (some ⟨b,o,none⟩) 3 cc] X Y [.int .i64 9,.slice xA1 xn1 xc1,.slice xA2 xn2 xc2,.string xs,.int .i32 xc,.slice (some ⟨bx,ox,none⟩) xm xcc] [.int .i64 yk,.slice yA1 yn1 yc1,.slice yA2 yn2 yc2,.string ys,.int .i32 yc,.slice yA ym ycc] w6:=RtX.step (by repeat (first | (with_reducible assumption) | (with_reducible refine RtX.dr ?_) | (with_reducible refine RtX.al ?_ _))) hb6;have HB6:=Lib.hid hb6;clear hb6)
         | (go_at_call 68;(with_reducible refine (HFO.out _ ?_).mono ?_);exact RtX.self (by repeat (first | (with_reducible assumption) | (with_reducible refine RtX.dr ?_) | (with_reducible refine RtX.al ?_ _)));rintro e w7 ⟨rfl,hb7⟩;have hst7:RtX w W [.int .i64 10,.slice A1 n1 c1,.slice A2 n2 c2,.string s,.int .i32 c,.slice (some ⟨b,o,none⟩) 3 cc] X Y [.int .i64 9,.slice xA1 xn1 xc1,.slice xA2 xn2 xc2,.string xs,.int .i32 xc,.slice (some ⟨bx,ox,none⟩) xm xcc] [.int .i64 yk,.slice yA1 yn1 yc1,.slice yA2 yn2 yc2,.string ys,.int .i32 yc,.slice yA ym ycc] w7:=RtX.step (by repeat (first | (with_reducible assumption) | (with_reducible refine RtX.dr ?_) | (with_reducible refine RtX.al ?_ _))) hb7;have HB7:=Lib.hid hb7;clear hb7)
         | (go_at_call 65;(with_reducible refine (rone_walk fx _ [8968,8970] _ (by repeat (first | (with_reducible exact runes_tak _) | (with_reducible refine Runes.below ?_ HB7.out) | (with_reducible refine Runes.below ?_ (Below.refl _ _).drew))) (by decide)).mono ?_);rintro e w8 ⟨rfl,rfl⟩))
       all_goals
        go_wp2
        go_meet
        exact ⟨by rw [hB];simp,(by repeat (first | (with_reducible assumption) | (with_reducible refine RtX.dr ?_) | (with_reducible refine RtX.al ?_ _)))⟩
     ·have hB:B=false:=by rw [HBB.out];simp [h2]
      have e2:(xk==9)=false:=by simpa using h2
      clear HBB HXK HX9 HX9' HY9 HY9' HYK HTY HFX HFY h2
      obtain ⟨⟨z0,z1,z2,z3,z4,z5⟩,⟨yy0,yy1,yy2,yy3,yy4,yy5⟩⟩:=HT5.out.cells
      go_wp2_with fail
      refine region_calm (by kernel_rfl) (by kernel_rfl) ?_
      repeat (go_big_quiet_step ((fail)))
      refine wpQuiet_nil ?_
      intro _ hw'
      obtain ⟨nq,hw''⟩:=hw'
      subst hw''
      first | go_meet | (go_wp2;go_meet) | (go_simp;go_meet)
      exact ⟨by rw [hB],HT5.out.step nq.h⟩
    ·have hB:B=false:=by rw [HBB.out];simp [h1]
     have e1:(p0==9075)=false:=by simpa using h1
     clear HBB HXK HX9 HX9' HY9 HY9' HYK HTY HFX HFY h1
     obtain ⟨⟨z0,z1,z2,z3,z4,z5⟩,⟨yy0,yy1,yy2,yy3,yy4,yy5⟩⟩:=HT5.out.cells
     go_wp2_with fail
     refine region_calm (by kernel_rfl) (by kernel_rfl) ?_
     repeat (go_big_quiet_step ((fail)))
     refine wpQuiet_nil ?_
     intro _ hw'
     obtain ⟨nq,hw''⟩:=hw'
     subst hw''
     first | go_meet | (go_wp2;go_meet) | (go_simp;go_meet)
     exact ⟨by rw [hB],HT5.out.step nq.h⟩
   case rest =>
    obtain ⟨rfl,htw⟩:=hcut
    obtain ⟨w6,hw6⟩:∃ w6,w6=wc:=⟨_,rfl⟩
    subst hw6
    have HT6:=Lib.hid htw
    clear htw HT5
    cases B with
    | false =>
     have hno:=HBB.out
     simp only [Bool.false_eq,decide_eq_false_iff_not] at hno
     have HQ:Hid (r=noP):=by unfold Hid;rw [HR2.out,if_neg hno]
     clear HR2 HBB hno HXK HX9 HX9' HY9 HY9' HYK HTY HFX HFY
     obtain ⟨⟨d0,d1,d2⟩,dz⟩:=block3 HT6.out.rts.res
     go_wp2
     first
      | (refine bodyPost_ret (v := .tuple #[.agg #[.int .i64 noP.1.1,.int .i32 noP.1.2.1,.int .i32 noP.1.2.2],.bool noP.2]) ?_ rfl ⟨by rw [HQ.out],below_set3 HT6.out.rts.box.2.1 (Nat.le_succ _) _ _ _⟩;exact ret_rphr (fn:=Tryz.f30) (p:=2) (u:=3) rfl _ _ (W.heap.size+1) (by rfl) (set3_block HT6.out.rts.res _ _ _))
      | (refine bodyPost_ret (v := .tuple #[.agg #[.int .i64 noP.1.1,.int .i32 noP.1.2.1,.int .i32 noP.1.2.2],.bool noP.2]) ?_ rfl ⟨by rw [HQ.out],HT6.out.rts.box.2.1⟩;exact ret_rphr (fn:=Tryz.f30) (p:=2) (u:=3) rfl _ _ (W.heap.size+1) (by rfl) HT6.out.rts.res)
    | true =>
     have hp:=HBB.out
     simp only [Bool.true_eq,decide_eq_true_eq] at hp
     obtain ⟨rfl,rfl,hp3,hp4⟩:=hp
     have HQ:Hid (r=((5,9075,foldR (kidR tx 0)),true)):=by unfold Hid;rw [HR2.out,if_pos ⟨rfl,rfl,hp3,hp4⟩]
     obtain ⟨bx,ox,q0,q1,q2,q3,q4,q5,rfl,htq,hcq⟩:=HXK.out 0 (by have:=HX9'.out rfl;omega)
     have hxi:(0:Int) < (xm:Int):=by have:=HX9.out rfl;omega
     have hxn:0 < xm:=by have:=HX9.out rfl;omega
     have HCQ:Hid (KidQ w bx ox q0 q1 q2 q3 q4 q5):=by unfold Hid;simpa using hcq
     have HFO:=Lib.hid (fun W' hb'=>rfolded_walk htq (HFX.out rfl) W' hb')
     clear htq hcq HR2 HBB hp3 hp4 HXK HX9 HX9' HY9 HY9' HYK HTY HFX HFY
     generalize foldR (kidR tx 0)=fx at *
     obtain ⟨z0,z1,z2,z3,z4,z5⟩:=HT6.out.cells.1
     obtain ⟨r0,r1,r2,r3,r4,r5⟩:=HCQ.out _ HT6.out.rts.old
     go_wp2_with fail
     refine (HFO.out _ HT6.out.rts.old).mono ?_
     rintro e w7 ⟨rfl,hb⟩
     have HT7:=Lib.hid (HT6.out.step hb)
     clear hb
     clear z0 z1 z2 z3 z4 z5 r0 r1 r2 r3 r4 r5
     obtain ⟨⟨d0,d1,d2⟩,dz⟩:=block3 HT7.out.rts.res
     go_wp2
     first
      | (refine bodyPost_ret (v := .tuple #[.agg #[.int .i64 ((5,9075,fx),true).1.1,.int .i32 ((5,9075,fx),true).1.2.1,.int .i32 ((5,9075,fx),true).1.2.2],.bool ((5,9075,fx),true).2]) ?_ rfl ⟨by rw [HQ.out],below_set3 HT7.out.rts.box.2.1 (Nat.le_succ _) _ _ _⟩;exact ret_rphr (fn:=Tryz.f30) (p:=2) (u:=3) rfl _ _ (W.heap.size+1) (by rfl) (set3_block HT7.out.rts.res _ _ _))
      | (refine bodyPost_ret (v := .tuple #[.agg #[.int .i64 ((5,9075,fx),true).1.1,.int .i32 ((5,9075,fx),true).1.2.1,.int .i32 ((5,9075,fx),true).1.2.2],.bool ((5,9075,fx),true).2]) ?_ rfl ⟨by rw [HQ.out],HT7.out.rts.box.2.1⟩;exact ret_rphr (fn:=Tryz.f30) (p:=2) (u:=3) rfl _ _ (W.heap.size+1) (by rfl) HT7.out.rts.res)
end Go.Proofs.YtbakjaliponbbaaGreatDoor
