/- The walk of the reference's Match over trees: kind 8. Printed by .. Conditions: as each theorem says. -/
import Derived.Test.YtbakjaliponbbaaGreatDoorMg24
set_option maxRecDepth 100000
set_option maxHeartbeats 6400000
namespace Go.Proofs.YtbakjaliponbbaaGreatDoor
open Go Go.RowKit Go.Proofs Fl
theorem RtX.dr {w W W':World}{vs:List Value}{X Y:Nat}{xs ys:List Value} (g:RtX w W vs X Y xs ys W'):RtX w W vs X Y xs ys W'.drew:=g.step (Below.refl _ W').drew
theorem RtX.al {w W W':World}{vs:List Value}{X Y:Nat}{xs ys:List Value} (g:RtX w W vs X Y xs ys W') (o:Obj):RtX w W vs X Y xs ys (W'.alloc o):=g.step (bel1 W' o)
theorem runes_ix (w:World):Runes (w.alloc (.cells #[.int .i32 9035,.int .i32 9042] 21)) (.slice (some ⟨w.heap.size,0,none⟩) 2 2) [9035,9042]:=runes_lit w [9035,9042]
theorem runes_tak (w:World):Runes (w.alloc (.cells #[.int .i32 8968,.int .i32 8970] 21)) (.slice (some ⟨w.heap.size,0,none⟩) 2 2) [8968,8970]:=runes_lit w [8968,8970]
theorem rt8_s {w W W':World}{X b o:Nat}{A1:Option Addr}{n1 c1:Nat}{A2:Option Addr}{n2 c2:Nat}{s:ByteArray}{c:Int}{cc:Nat}{u0 u1 u2 u3 u4 u5 q0 q1 q2 q3 q4 q5 r0 r1 r2 r3 r4 r5:Value}{xA1:Option Addr}{xn1 xc1:Nat}{xA2:Option Addr}{xn2 xc2:Nat}{xs:ByteArray}{xc:Int}{bx ox xm xcc:Nat}
  (h0:KidQ w b o u0 u1 u2 u3 u4 u5) (hq:KidQ w bx ox q0 q1 q2 q3 q4 q5) (hr:KidQ w bx (ox+6) r0 r1 r2 r3 r4 r5) (g:RtX w W [.int .i64 8,.slice A1 n1 c1,.slice A2 n2 c2,.string s,.int .i32 c,.slice (some ⟨b,o,none⟩) 2 cc] X X [.int .i64 9,.slice xA1 xn1 xc1,.slice xA2 xn2 xc2,.string xs,.int .i32 xc,.slice (some ⟨bx,ox,none⟩) xm xcc] [.int .i64 9,.slice xA1 xn1 xc1,.slice xA2 xn2 xc2,.string xs,.int .i32 xc,.slice (some ⟨bx,ox,none⟩) xm xcc] W'):(W'.cell? ⟨W.heap.size,0,none⟩=some (.int .i64 8)/\W'.cell? ⟨W.heap.size,1,none⟩=some (.slice A1 n1 c1)/\W'.cell? ⟨W.heap.size,2,none⟩=some (.slice A2 n2 c2)/\W'.cell? ⟨W.heap.size,3,none⟩=some (.string s)/\W'.cell? ⟨W.heap.size,4,none⟩=some (.int .i32 c)/\W'.cell? ⟨W.heap.size,5,none⟩=some (.slice (some ⟨b,o,none⟩) 2 cc))/\(W'.cell? ⟨X,0,none⟩=some (.int .i64 9)/\W'.cell? ⟨X,1,none⟩=some (.slice xA1 xn1 xc1)/\W'.cell? ⟨X,2,none⟩=some (.slice xA2 xn2 xc2)/\W'.cell? ⟨X,3,none⟩=some (.string xs)/\W'.cell? ⟨X,4,none⟩=some (.int .i32 xc)/\W'.cell? ⟨X,5,none⟩=some (.slice (some ⟨bx,ox,none⟩) xm xcc))/\(W'.cell? ⟨b,o,none⟩=some (u0)/\W'.cell? ⟨b,o+1,none⟩=some (u1)/\W'.cell? ⟨b,o+2,none⟩=some (u2)/\W'.cell? ⟨b,o+3,none⟩=some (u3)/\W'.cell? ⟨b,o+4,none⟩=some (u4)/\W'.cell? ⟨b,o+5,none⟩=some (u5))/\(W'.cell? ⟨bx,ox,none⟩=some (q0)/\W'.cell? ⟨bx,ox+1,none⟩=some (q1)/\W'.cell? ⟨bx,ox+2,none⟩=some (q2)/\W'.cell? ⟨bx,ox+3,none⟩=some (q3)/\W'.cell? ⟨bx,ox+4,none⟩=some (q4)/\W'.cell? ⟨bx,ox+5,none⟩=some (q5))/\(W'.cell? ⟨bx,ox+6,none⟩=some (r0)/\W'.cell? ⟨bx,ox+6+1,none⟩=some (r1)/\W'.cell? ⟨bx,ox+6+2,none⟩=some (r2)/\W'.cell? ⟨bx,ox+6+3,none⟩=some (r3)/\W'.cell? ⟨bx,ox+6+4,none⟩=some (r4)/\W'.cell? ⟨bx,ox+6+5,none⟩=some (r5))/\RtX w W [.int .i64 8,.slice A1 n1 c1,.slice A2 n2 c2,.string s,.int .i32 c,.slice (some ⟨b,o,none⟩) 2 cc] X X [.int .i64 9,.slice xA1 xn1 xc1,.slice xA2 xn2 xc2,.string xs,.int .i32 xc,.slice (some ⟨bx,ox,none⟩) xm xcc] [.int .i64 9,.slice xA1 xn1 xc1,.slice xA2 xn2 xc2,.string xs,.int .i32 xc,.slice (some ⟨bx,ox,none⟩) xm xcc] W' :=
 ⟨g.rts.box.c6,g.cells.1,h0 W' g.rts.old,hq W' g.rts.old,hr W' g.rts.old,g⟩
theorem rmatch_8 {w:World}{t:RTree}{v0 v1 v2 v3 v4 v5:Value} (ht:RN w t [v0,v1,v2,v3,v4,v5]) (h8:kindR t=8) (hs:Shp3 t) (W:World) (hb:Below w.heap.size w W) :
  Calls Tryz.prog 30 #[.agg #[v0,v1,v2,v3,v4,v5]] W (PhR W (mtP t)):=by
 obtain ⟨hs1,hs2,hs3⟩:=hs
 have hl:=hs1.2.2.1 h8
 obtain ⟨A1,n1,c1,A2,n2,c2,A,m,cc,rfl,rfl,rfl,rfl,rfl,rfl,hm,hkid⟩:=ht.vals
 obtain ⟨b,o,u0,u1,u2,u3,u4,u5,rfl,ht0,hc0⟩:=hkid 0 (by omega)
 obtain ⟨b',o',x0,x1,x2,x3,x4,x5,e,htx,hcx⟩:=hkid 1 (by omega)
 cases e
 obtain ⟨xA1,xn1,xc1,xA2,xn2,xc2,xA,xm,xcc,rfl,rfl,rfl,rfl,rfl,rfl,hxm,hxk⟩:=htx.vals
 have HC0:Hid (KidQ w b o u0 u1 u2 u3 u4 u5):=by unfold Hid;have:=hc0;simpa using this
 have HCX:=Lib.hid hcx
 rw [Nat.one_mul] at HCX
 have HXK:=Lib.hid hxk
 have HBW:=Lib.hid hb
 have HT0:=Lib.hid ht0
 have HX9:Hid (kindR (kidR t 1)=9->xm=2):=fun h=>by rw [hxm];exact (hs2 1 (by omega)).1 h
 have HX9':Hid (kindR (kidR t 1)=9->(kidsR (kidR t 1)).length=2):=fun h=>(hs2 1 (by omega)).1 h
 obtain ⟨r,hr⟩:∃ r,r=mtP t:=⟨_,rfl⟩
 have HR:Hid (r=if (kidsR t).length=2/\kindR (kidR t 1)=9/\sameV (kidR t 0) (kidR (kidR t 1) 1)=true then toldP 3 0 (primR (kidR (kidR t 1) 0)) (decide (primR (kidR (kidR t 1) 0)=9035)||decide (primR (kidR (kidR t 1) 0)=9042)) else noP):=by unfold Hid;rw [hr,mtP,if_neg (by omega),if_pos h8];rfl
 rw [<- hr]
 rw [<- hm] at HR
 have hm1:(1:Int) < (m:Int):=by omega
 have hm0:(0:Int) < (m:Int):=by omega
 have hmn1:1 < m:=by omega
 rw [h8]
 clear hkid ht ht0 htx hc0 hcx hxk hb hr hs1 hs2 hs3 hl hm hxm h8
 generalize kidR t 0=t0 at *
 generalize kidR t 1=tx at *
 generalize hxk:kindR tx=xk at *
 generalize charR t=c at *
 generalize nameR t=s at *
 generalize nameR tx=xs at *
 generalize charR tx=xc at *
 clear hxk
 obtain ⟨W0,hW0⟩:∃ W0,W0=(W.alloc (.cells #[.int .i64 8,.slice A1 n1 c1,.slice A2 n2 c2,.string s,.int .i32 c,.slice (some ⟨b,o,none⟩) m cc] 29)).alloc (.cells #[.int .i64 0,.int .i32 0,.int .i32 0] 68):=⟨_,rfl⟩
 have HW0:=Lib.hid hW0
 have HS0:Hid (RtS w W [.int .i64 8,.slice A1 n1 c1,.slice A2 n2 c2,.string s,.int .i32 c,.slice (some ⟨b,o,none⟩) m cc] W0):=by unfold Hid;rw [hW0];exact RtS.start [.int .i64 8,.slice A1 n1 c1,.slice A2 n2 c2,.string s,.int .i32 c,.slice (some ⟨b,o,none⟩) m cc] 29 HBW.out
 clear hW0
 obtain ⟨bn0,bn1,bn2,bn3,bn4,bn5⟩:=HS0.out.box.c6
 obtain ⟨y0,y1,y2,y3,y4,y5⟩:=HCX.out _ HS0.out.old
 obtain ⟨W2,hW2⟩:∃ W2,W2=W0.alloc (.cells #[.int .i64 xk,.slice xA1 xn1 xc1,.slice xA2 xn2 xc2,.string xs,.int .i32 xc,.slice xA xm xcc] 29):=⟨_,rfl⟩
 obtain ⟨X,hX⟩:∃ X,X=W0.heap.size:=⟨_,rfl⟩
 have HW2:=Lib.hid hW2
 have HXX:=Lib.hid hX
 have HT2:Hid (RtX w W [.int .i64 8,.slice A1 n1 c1,.slice A2 n2 c2,.string s,.int .i32 c,.slice (some ⟨b,o,none⟩) m cc] X X [.int .i64 xk,.slice xA1 xn1 xc1,.slice xA2 xn2 xc2,.string xs,.int .i32 xc,.slice xA xm xcc] [.int .i64 xk,.slice xA1 xn1 xc1,.slice xA2 xn2 xc2,.string xs,.int .i32 xc,.slice xA xm xcc] W2):=by unfold Hid;rw [hW2,hX];exact RtX.start HS0.out [.int .i64 xk,.slice xA1 xn1 xc1,.slice xA2 xn2 xc2,.string xs,.int .i32 xc,.slice xA xm xcc] 29
 clear hW2 hX
 go_enter Tryz.func30,Tryz.ntmps30
 go_upto_region 1 with fail
 rw [<- HW0.out]
 go_upto_region 4 with fail
 rw [<- HW2.out,<- HXX.out]
 clear bn0 bn1 bn2 bn3 bn4 bn5 y0 y1 y2 y3 y4 y5 HS0 HW0 HW2 HXX
 obtain ⟨B,hB⟩:∃ B,B = !decide (m=2/\xk=9/\sameV t0 (kidR tx 1)=true/\(primR (kidR tx 0)=9035\/primR (kidR tx 0)=9042)):=⟨_,rfl⟩
 have HBB:=Lib.hid hB
 clear hB
 obtain ⟨bn0,bn1,bn2,bn3,bn4,bn5⟩:=HT2.out.rts.box.c6
 go_upto_region 5 with fail
 clear bn0 bn1 bn2 bn3 bn4 bn5
 go_cut [54] from 55 (fun v wy=>v= .bool B/\RtX w W [.int .i64 8,.slice A1 n1 c1,.slice A2 n2 c2,.string s,.int .i32 c,.slice (some ⟨b,o,none⟩) m cc] X X [.int .i64 xk,.slice xA1 xn1 xc1,.slice xA2 xn2 xc2,.string xs,.int .i32 xc,.slice xA xm xcc] [.int .i64 xk,.slice xA1 xn1 xc1,.slice xA2 xn2 xc2,.string xs,.int .i32 xc,.slice xA xm xcc] wy)
 case first =>
  have hL2:=LatW.cell (w:=W2) (g:=W.heap.size) HT2.out.rts.box.2.2
  have hL1:=LatW.cell (w:=W2) (g:=X) HT2.out.lx
  clear HR
  by_cases h2:m=2
  ·subst h2
   by_cases h3:xk=9
   ·subst h3
    obtain ⟨bx,ox,q0,q1,q2,q3,q4,q5,rfl,htq,hcq⟩:=HXK.out 0 (by have:=HX9'.out rfl;omega)
    obtain ⟨b',o',r0,r1,r2,r3,r4,r5,e,htr,hcr⟩:=HXK.out 1 (by have:=HX9'.out rfl;omega)
    cases e
    have hxi:(1:Int) < (xm:Int):=by have:=HX9.out rfl;omega
    have hx0:(0:Int) < (xm:Int):=by omega
    have hxn:1 < xm:=by have:=HX9.out rfl;omega
    have hxn0:0 < xm:=by omega
    have HCQ:Hid (KidQ w bx ox q0 q1 q2 q3 q4 q5):=by unfold Hid;simpa using hcq
    have HCR:Hid (KidQ w bx (ox+6) r0 r1 r2 r3 r4 r5):=by unfold Hid;simpa using hcr
    have HSA:=Lib.hid (fun W'=>rsame_walk HT0.out htr W')
    have HPX:=Lib.hid (fun W'=>rprim_walk htq W')
    have HBC:Hid (B = !(sameV t0 (kidR tx 1)&&decide (primR (kidR tx 0)∈[9035,9042]))):=by unfold Hid;rw [HBB.out];simp
    clear htq htr hcq hcr HXK HX9 HX9' HT0 HBB
    generalize sameV t0 (kidR tx 1)=sm at *
    generalize primR (kidR tx 0)=px at *
    cases sm with
    | false =>
     have hB:B=true:=HBC.out
     clear HBC
     obtain ⟨bn0,bn1,bn2,bn3,bn4,bn5⟩:=HT2.out.rts.box.c6
     obtain ⟨z0,z1,z2,z3,z4,z5⟩:=HT2.out.cells.1
     obtain ⟨y0,y1,y2,y3,y4,y5⟩:=HC0.out _ HT2.out.rts.old
     obtain ⟨p0,p1,p2,p3,p4,p5⟩:=HCR.out _ HT2.out.rts.old
     have hL3:=LatW.cell (w:=W2) (g:=b) (cell_lt y0)
     have hL4:=LatW.cell (w:=W2) (g:=bx) (cell_lt p0)
     go_wp2_with fail
     refine region_calm (by kernel_rfl) (by kernel_rfl) ?_
     repeat (go_big_quiet_step ((go_at_call 64;refine calm_of (HSA.out _))))
     refine wpQuiet_nil ?_
     intro _ hw'
     obtain ⟨nq,hw''⟩:=hw'
     subst hw''
     first | go_meet | (go_wp2;go_meet) | (go_simp;go_meet)
     exact ⟨by rw [hB],HT2.out.step nq.h⟩
    | true =>
     have hB:B = !decide (px∈[9035,9042]):=by rw [HBC.out];rfl
     clear HBC
     clear hL1 hL2
     have hs0:=HT2.out.dr
     have hs00:=HT2.out
     go_region_held3 (fun W'=>(W'.cell? ⟨W.heap.size,0,none⟩=some (.int .i64 8)/\W'.cell? ⟨W.heap.size,1,none⟩=some (.slice A1 n1 c1)/\W'.cell? ⟨W.heap.size,2,none⟩=some (.slice A2 n2 c2)/\W'.cell? ⟨W.heap.size,3,none⟩=some (.string s)/\W'.cell? ⟨W.heap.size,4,none⟩=some (.int .i32 c)/\W'.cell? ⟨W.heap.size,5,none⟩=some (.slice (some ⟨b,o,none⟩) 2 cc))/\(W'.cell? ⟨X,0,none⟩=some (.int .i64 9)/\W'.cell? ⟨X,1,none⟩=some (.slice xA1 xn1 xc1)/\W'.cell? ⟨X,2,none⟩=some (.slice xA2 xn2 xc2)/\W'.cell? ⟨X,3,none⟩=some (.string xs)/\W'.cell? ⟨X,4,none⟩=some (.int .i32 xc)/\W'.cell? ⟨X,5,none⟩=some (.slice (some ⟨bx,ox,none⟩) xm xcc))/\(W'.cell? ⟨b,o,none⟩=some (u0)/\W'.cell? ⟨b,o+1,none⟩=some (u1)/\W'.cell? ⟨b,o+2,none⟩=some (u2)/\W'.cell? ⟨b,o+3,none⟩=some (u3)/\W'.cell? ⟨b,o+4,none⟩=some (u4)/\W'.cell? ⟨b,o+5,none⟩=some (u5))/\(W'.cell? ⟨bx,ox,none⟩=some (q0)/\W'.cell? ⟨bx,ox+1,none⟩=some (q1)/\W'.cell? ⟨bx,ox+2,none⟩=some (q2)/\W'.cell? ⟨bx,ox+3,none⟩=some (q3)/\W'.cell? ⟨bx,ox+4,none⟩=some (q4)/\W'.cell? ⟨bx,ox+5,none⟩=some (q5))/\(W'.cell? ⟨bx,ox+6,none⟩=some (r0)/\W'.cell? ⟨bx,ox+6+1,none⟩=some (r1)/\W'.cell? ⟨bx,ox+6+2,none⟩=some (r2)/\W'.cell? ⟨bx,ox+6+3,none⟩=some (r3)/\W'.cell? ⟨bx,ox+6+4,none⟩=some (r4)/\W'.cell? ⟨bx,ox+6+5,none⟩=some (r5))/\RtX w W [.int .i64 8,.slice A1 n1 c1,.slice A2 n2 c2,.string s,.int .i32 c,.slice (some ⟨b,o,none⟩) 2 cc] X X [.int .i64 9,.slice xA1 xn1 xc1,.slice xA2 xn2 xc2,.string xs,.int .i32 xc,.slice (some ⟨bx,ox,none⟩) xm xcc] [.int .i64 9,.slice xA1 xn1 xc1,.slice xA2 xn2 xc2,.string xs,.int .i32 xc,.slice (some ⟨bx,ox,none⟩) xm xcc] W')
      (first | (with_reducible assumption) | (with_reducible (refine rt8_s HC0.out HCQ.out HCR.out ?_);repeat (first | (with_reducible assumption) | (with_reducible refine RtX.dr ?_) | (with_reducible refine RtX.al ?_ _))))
      (first
       | (go_at_call 64;(with_reducible refine (HSA.out _).mono ?_);rintro e w3 ⟨rfl,hb3⟩;have hst3:RtX w W [.int .i64 8,.slice A1 n1 c1,.slice A2 n2 c2,.string s,.int .i32 c,.slice (some ⟨b,o,none⟩) 2 cc] X X [.int .i64 9,.slice xA1 xn1 xc1,.slice xA2 xn2 xc2,.string xs,.int .i32 xc,.slice (some ⟨bx,ox,none⟩) xm xcc] [.int .i64 9,.slice xA1 xn1 xc1,.slice xA2 xn2 xc2,.string xs,.int .i32 xc,.slice (some ⟨bx,ox,none⟩) xm xcc] w3:=RtX.step (by repeat (first | (with_reducible assumption) | (with_reducible refine RtX.dr ?_) | (with_reducible refine RtX.al ?_ _))) hb3;have HB3:=Lib.hid hb3;clear hb3)
       | (go_at_call 66;(with_reducible refine (HPX.out _).mono ?_);rintro e w4 ⟨rfl,hb4⟩;have hst4:RtX w W [.int .i64 8,.slice A1 n1 c1,.slice A2 n2 c2,.string s,.int .i32 c,.slice (some ⟨b,o,none⟩) 2 cc] X X [.int .i64 9,.slice xA1 xn1 xc1,.slice xA2 xn2 xc2,.string xs,.int .i32 xc,.slice (some ⟨bx,ox,none⟩) xm xcc] [.int .i64 9,.slice xA1 xn1 xc1,.slice xA2 xn2 xc2,.string xs,.int .i32 xc,.slice (some ⟨bx,ox,none⟩) xm xcc] w4:=RtX.step (by repeat (first | (with_reducible assumption) | (with_reducible refine RtX.dr ?_) | (with_reducible refine RtX.al ?_ _))) hb4;have HB4:=Lib.hid hb4;clear hb4)
       | (go_at_call 65;(with_reducible refine (rone_walk px _ [9035,9042] _ (by repeat (first | (with_reducible exact runes_ix _) | (with_reducible refine Runes.below ?_ HB4.out) | (with_reducible refine Runes.below ?_ (Below.refl _ _).drew))) (by decide)).mono ?_);rintro e w5 ⟨rfl,rfl⟩))
     all_goals
      go_wp2
      go_meet
      exact ⟨by rw [hB];simp,(by repeat (first | (with_reducible assumption) | (with_reducible refine RtX.dr ?_) | (with_reducible refine RtX.al ?_ _)))⟩
   ·have hB:B=true:=by rw [HBB.out];simp [h3]
    have e3:(xk != 9)=true:=by simpa using h3
    clear HBB HXK HX9 HX9' HT0 h3
    obtain ⟨bn0,bn1,bn2,bn3,bn4,bn5⟩:=HT2.out.rts.box.c6
    obtain ⟨z0,z1,z2,z3,z4,z5⟩:=HT2.out.cells.1
    obtain ⟨y0,y1,y2,y3,y4,y5⟩:=HC0.out _ HT2.out.rts.old
    go_wp2_with fail
    refine region_calm (by kernel_rfl) (by kernel_rfl) ?_
    repeat (go_big_quiet_step ((fail)))
    refine wpQuiet_nil ?_
    intro _ hw'
    obtain ⟨nq,hw''⟩:=hw'
    subst hw''
    first | go_meet | (go_wp2;go_meet) | (go_simp;go_meet)
    exact ⟨by rw [hB],HT2.out.step nq.h⟩
  ·have hB:B=true:=by rw [HBB.out];simp [h2]
   have e2:((m:Int) != 2)=true:=by simp;omega
   clear HBB HXK HX9 HX9' HT0 h2
   obtain ⟨bn0,bn1,bn2,bn3,bn4,bn5⟩:=HT2.out.rts.box.c6
   obtain ⟨z0,z1,z2,z3,z4,z5⟩:=HT2.out.cells.1
   obtain ⟨y0,y1,y2,y3,y4,y5⟩:=HC0.out _ HT2.out.rts.old
   go_wp2_with fail
   refine region_calm (by kernel_rfl) (by kernel_rfl) ?_
   repeat (go_big_quiet_step ((fail)))
   refine wpQuiet_nil ?_
   intro _ hw'
   obtain ⟨nq,hw''⟩:=hw'
   subst hw''
   first | go_meet | (go_wp2;go_meet) | (go_simp;go_meet)
   exact ⟨by rw [hB],HT2.out.step nq.h⟩
 case rest =>
  obtain ⟨rfl,htw⟩:=hcut
  obtain ⟨w4,hw4⟩:∃ w4,w4=wc:=⟨_,rfl⟩
  subst hw4
  have HT4:=Lib.hid htw
  clear htw HT2
  cases B with
  | true =>
   have hno:=HBB.out
   simp only [Bool.true_eq,Bool.not_eq_true',decide_eq_false_iff_not] at hno
   have HQ:Hid (r=noP):=by
    unfold Hid;rw [HR.out]
    by_cases h:m=2/\xk=9/\sameV t0 (kidR tx 1)=true
    ·rw [if_pos h]
     have h9:¬ primR (kidR tx 0)=9035:=fun e=>hno ⟨h.1,h.2.1,h.2.2,.inl e⟩
     have h10:¬ primR (kidR tx 0)=9042:=fun e=>hno ⟨h.1,h.2.1,h.2.2,.inr e⟩
     rw [decide_eq_false h9,decide_eq_false h10];rfl
    ·rw [if_neg h]
   clear HR HBB HXK HX9 HX9' HT0 hno
   obtain ⟨⟨d0,d1,d2⟩,dz⟩:=block3 HT4.out.rts.res
   go_wp2
   first
    | (refine bodyPost_ret (v := .tuple #[.agg #[.int .i64 noP.1.1,.int .i32 noP.1.2.1,.int .i32 noP.1.2.2],.bool noP.2]) ?_ rfl ⟨by rw [HQ.out],below_set3 HT4.out.rts.box.2.1 (Nat.le_succ _) _ _ _⟩;exact ret_rphr (fn:=Tryz.f30) (p:=2) (u:=3) rfl _ _ (W.heap.size+1) (by rfl) (set3_block HT4.out.rts.res _ _ _))
    | (refine bodyPost_ret (v := .tuple #[.agg #[.int .i64 noP.1.1,.int .i32 noP.1.2.1,.int .i32 noP.1.2.2],.bool noP.2]) ?_ rfl ⟨by rw [HQ.out],HT4.out.rts.box.2.1⟩;exact ret_rphr (fn:=Tryz.f30) (p:=2) (u:=3) rfl _ _ (W.heap.size+1) (by rfl) HT4.out.rts.res)
  | false =>
   have hp:=HBB.out
   simp only [Bool.false_eq,Bool.not_eq_false',decide_eq_true_eq] at hp
   obtain ⟨h1,h2,h4,h5⟩:=hp
   have HR3:Hid (r=toldP 3 0 (primR (kidR tx 0)) true):=by
    unfold Hid;rw [HR.out,if_pos ⟨h1,h2,h4⟩]
    congr 1
    rcases h5 with h5 | h5 <;> rw [h5] <;> decide
   subst h2
   obtain ⟨bx,ox,q0,q1,q2,q3,q4,q5,rfl,htq,hcq⟩:=HXK.out 0 (by have:=HX9'.out rfl;omega)
   have hxi:(0:Int) < (xm:Int):=by have:=HX9.out rfl;omega
   have hxn:0 < xm:=by have:=HX9.out rfl;omega
   have HCQ:Hid (KidQ w bx ox q0 q1 q2 q3 q4 q5):=by unfold Hid;simpa using hcq
   have HPX:=Lib.hid (fun W'=>rprim_walk htq W')
   generalize primR (kidR tx 0)=px at *
   clear htq hcq HR HBB HXK HX9 HX9' HT0 h4 h1 h5
   have HQ:Hid (r=((3,0,px),true)):=HR3.out
   obtain ⟨bn0,bn1,bn2,bn3,bn4,bn5⟩:=HT4.out.rts.box.c6
   obtain ⟨z0,z1,z2,z3,z4,z5⟩:=HT4.out.cells.1
   obtain ⟨r0,r1,r2,r3,r4,r5⟩:=HCQ.out _ HT4.out.rts.old
   go_wp2_with fail
   refine (HPX.out _).mono ?_
   rintro e w5 ⟨rfl,hb⟩
   have HT5:=Lib.hid (HT4.out.step hb)
   clear hb
   clear bn0 bn1 bn2 bn3 bn4 bn5 z0 z1 z2 z3 z4 z5 r0 r1 r2 r3 r4 r5
   obtain ⟨⟨d0,d1,d2⟩,dz⟩:=block3 HT5.out.rts.res
   go_wp2
   first
    | (refine bodyPost_ret (v := .tuple #[.agg #[.int .i64 ((3,0,px),true).1.1,.int .i32 ((3,0,px),true).1.2.1,.int .i32 ((3,0,px),true).1.2.2],.bool ((3,0,px),true).2]) ?_ rfl ⟨by rw [HQ.out],below_set3 HT5.out.rts.box.2.1 (Nat.le_succ _) _ _ _⟩;exact ret_rphr (fn:=Tryz.f30) (p:=2) (u:=3) rfl _ _ (W.heap.size+1) (by rfl) (set3_block HT5.out.rts.res _ _ _))
    | (refine bodyPost_ret (v := .tuple #[.agg #[.int .i64 ((3,0,px),true).1.1,.int .i32 ((3,0,px),true).1.2.1,.int .i32 ((3,0,px),true).1.2.2],.bool ((3,0,px),true).2]) ?_ rfl ⟨by rw [HQ.out],HT5.out.rts.box.2.1⟩;exact ret_rphr (fn:=Tryz.f30) (p:=2) (u:=3) rfl _ _ (W.heap.size+1) (by rfl) HT5.out.rts.res)
end Go.Proofs.YtbakjaliponbbaaGreatDoor
