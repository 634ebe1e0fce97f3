/- Which numbers of nodes good trees have; the walk of idiom.Match over trees. Printed by .. Conditions: as each theorem says. -/
import Derived.Test.YtbakjaliponbbaaGreatDoorMg21
set_option maxRecDepth 100000
set_option maxHeartbeats 4000000
namespace Go.Proofs.YtbakjaliponbbaaGreatDoor
open Go Go.RowKit Go.Proofs Fl
def ShpN (t:RTree):Prop:=(kindR t=9->(kidsR t).length=2)/\(kindR t=10->(kidsR t).length=3)/\(kindR t=8->2<=(kidsR t).length)/\(kindR t=16->(kidsR t).length=1)
def Shp3 (t:RTree):Prop:=ShpN t/\(∀ i,i < (kidsR t).length->ShpN (kidR t i))/\∀ i,i < (kidsR t).length->∀ j,j < (kidsR (kidR t i)).length->ShpN (kidR (kidR t i) j)
theorem imatch_walk {w:World}{t:RTree}{v0 v1 v2 v3 v4 v5 v6:Value} (ht:TN w t [v0,v1,v2,v3,v4,v5,v6]) (hs:Shp3 t) (W:World) (hb:Below w.heap.size w W) :
  Calls Tryz.prog 28 #[.agg #[v0,v1,v2,v3,v4,v5,v6]] W (PhR W (mtP t)):=by
 obtain ⟨hs1,hs2,hs3⟩:=hs
 obtain ⟨r,hr⟩:∃ r,r=mtP t:=⟨_,rfl⟩
 rw [<- hr]
 have hvals:=ht.vals
 obtain ⟨a,A1,n1,c1,A2,n2,c2,A,m,cc,rfl,rfl,rfl,rfl,rfl,rfl,rfl,hm,hkid⟩:=hvals
 have HB0:=Lib.hid hb
 by_cases h9:kindR t=9
 ·have hl:=hs1.1 h9
  have HO:=Lib.hid (fun W' (hb':Below w.heap.size w W')=>ione_walk ht (by omega) (fun h=>by
   rcases h with h | h
   ·have:=(hs2 1 (by omega)).1 h;omega
   ·have:=(hs2 1 (by omega)).2.1 h;omega) (fun h=>by have:=(hs2 0 (by omega)).2.2.2 h;omega) W' hb')
  have HQ:Hid (r=mtOne t):=by unfold Hid;rw [hr,mtP,if_pos h9]
  unfold PhR at HO
  rw [h9] at HO ⊢
  clear hr hs1 hs2 hs3 ht hkid hm hl hb h9
  generalize mtOne t=q at *
  generalize charR t=c at *
  generalize nameR t=s at *
  obtain ⟨W0,hW0⟩:∃ W0,W0=(W.alloc (.cells #[.int .i64 9,.int .i64 a,.slice A1 n1 c1,.slice A2 n2 c2,.string s,.int .i32 c,.slice A m cc] 31)).alloc (.cells #[.int .i64 0,.int .i32 0,.int .i32 0] 63):=⟨_,rfl⟩
  have HW0:=Lib.hid hW0
  have HS0:Hid (MtS W [.int .i64 9,.int .i64 a,.slice A1 n1 c1,.slice A2 n2 c2,.string s,.int .i32 c,.slice A m cc] W0):=by unfold Hid;rw [hW0];exact MtS.start W _ _
  clear hW0
  obtain ⟨y0,y1,y2,y3,y4,y5,y6⟩:=HS0.out.box.c7
  go_enter Tryz.func28,Tryz.ntmps28
  go_upto_region 1 with fail
  rw [<- HW0.out]
  go_wp2_with fail
  refine (HO.out _ (HB0.out.trans (HS0.out.bel.mono HB0.out.size))).mono ?_
  rintro e w1 ⟨rfl,hb⟩
  have HS1:=Lib.hid (HS0.out.step hb)
  clear hb
  obtain ⟨⟨d0,d1,d2⟩,dz⟩:=block3 HS1.out.res
  go_wp2
  first
   | (refine bodyPost_ret (v := .tuple #[.agg #[.int .i64 q.1.1,.int .i32 q.1.2.1,.int .i32 q.1.2.2],.bool q.2]) ?_ rfl ⟨by rw [HQ.out],below_set3 HS1.out.bel (Nat.le_succ _) _ _ _⟩;exact ret_phr (fn:=Tryz.f28) (p:=2) (u:=3) rfl _ _ (W.heap.size+1) (by rfl) (set3_block HS1.out.res _ _ _))
   | (refine bodyPost_ret (v := .tuple #[.agg #[.int .i64 q.1.1,.int .i32 q.1.2.1,.int .i32 q.1.2.2],.bool q.2]) ?_ rfl ⟨by rw [HQ.out],HS1.out.bel⟩;exact ret_phr (fn:=Tryz.f28) (p:=2) (u:=3) rfl _ _ (W.heap.size+1) (by rfl) HS1.out.res)
 ·have e9:(kindR t==9)=false:=by simpa using h9
  by_cases h8:kindR t=8
  ·have hl:=hs1.2.2.1 h8
   have HR:Hid (r=mtIx t):=by unfold Hid;rw [hr,mtP,if_neg h9,if_pos h8]
   obtain ⟨b,o,u0,u1,u2,u3,u4,u5,u6,rfl,ht0,hc0⟩:=hkid 0 (by omega)
   obtain ⟨b',o',x0,x1,x2,x3,x4,x5,x6,e,htx,hcx⟩:=hkid 1 (by omega)
   cases e
   obtain ⟨xa,xA1,xn1,xc1,xA2,xn2,xc2,xA,xm,xcc,rfl,rfl,rfl,rfl,rfl,rfl,rfl,hxm,hxk⟩:=htx.vals
   have HC0:Hid (KidC w b o u0 u1 u2 u3 u4 u5 u6):=by unfold Hid;have:=hc0;simpa using this
   have HCX:=Lib.hid hcx
   rw [Nat.one_mul] at HCX
   have HXK:=Lib.hid hxk
   have HT0:=Lib.hid ht0
   have HX9:Hid (kindR (kidR t 1)=9->xm=2):=fun h=>by rw [hxm];exact (hs2 1 (by omega)).1 h
   have HX9':Hid (kindR (kidR t 1)=9->(kidsR (kidR t 1)).length=2):=fun h=>(hs2 1 (by omega)).1 h
   have HML:Hid (m=(kidsR t).length):=hm
   have hm1:(1:Int) < (m:Int):=by omega
   have hm0:(0:Int) < (m:Int):=by omega
   have hmn1:1 < m:=by omega
   have HRR:Hid (mtIx t=if (kidsR t).length=2/\kindR (kidR t 1)=9/\sameV (kidR t 0) (kidR (kidR t 1) 1)=true then toldP 3 0 (primR (kidR (kidR t 1) 0)) (decide (primR (kidR (kidR t 1) 0)=9035)||decide (primR (kidR (kidR t 1) 0)=9042)) else noP):=rfl
   rw [<- HML.out] at HRR
   rw [HRR.out] at HR
   rw [h8] at e9 ⊢
   clear hr hs1 hs2 hs3 ht hkid hm hl hb h9 h8 hc0 ht0 hcx htx hxk hxm HRR HML
   generalize kidR t 1=tx at *
   generalize kidR t 0=t0 at *
   generalize charR t=c at *
   generalize nameR t=s at *
   generalize hxk:kindR tx=xk at *
   generalize nameR tx=xs at *
   generalize charR tx=xc at *
   clear hxk
   obtain ⟨W0,hW0⟩:∃ W0,W0=(W.alloc (.cells #[.int .i64 8,.int .i64 a,.slice A1 n1 c1,.slice A2 n2 c2,.string s,.int .i32 c,.slice (some ⟨b,o,none⟩) m cc] 31)).alloc (.cells #[.int .i64 0,.int .i32 0,.int .i32 0] 63):=⟨_,rfl⟩
   have HW0:=Lib.hid hW0
   have HS0:Hid (TwS w W [.int .i64 8,.int .i64 a,.slice A1 n1 c1,.slice A2 n2 c2,.string s,.int .i32 c,.slice (some ⟨b,o,none⟩) m cc] W0):=by
    have h:=MtS.start W [.int .i64 8,.int .i64 a,.slice A1 n1 c1,.slice A2 n2 c2,.string s,.int .i32 c,.slice (some ⟨b,o,none⟩) m cc] 31
    unfold Hid
    rw [hW0]
    exact ⟨h,HB0.out.trans (h.bel.mono HB0.out.size),HB0.out.size⟩
   clear hW0
   obtain ⟨n0,n1',n2',n3',n4',n5',n6'⟩:=HS0.out.mts.box.c7
   obtain ⟨y0,y1,y2,y3,y4,y5,y6⟩:=HCX.out _ HS0.out.old
   obtain ⟨W2,hW2⟩:∃ W2,W2=W0.alloc (.cells #[.int .i64 xk,.int .i64 xa,.slice xA1 xn1 xc1,.slice xA2 xn2 xc2,.string xs,.int .i32 xc,.slice xA xm xcc] 31):=⟨_,rfl⟩
   obtain ⟨X,hX⟩:∃ X,X=W0.heap.size:=⟨_,rfl⟩
   have HW2:=Lib.hid hW2
   have HXX:=Lib.hid hX
   have HT2:Hid (TwX w W [.int .i64 8,.int .i64 a,.slice A1 n1 c1,.slice A2 n2 c2,.string s,.int .i32 c,.slice (some ⟨b,o,none⟩) m cc] X X [.int .i64 xk,.int .i64 xa,.slice xA1 xn1 xc1,.slice xA2 xn2 xc2,.string xs,.int .i32 xc,.slice xA xm xcc] [.int .i64 xk,.int .i64 xa,.slice xA1 xn1 xc1,.slice xA2 xn2 xc2,.string xs,.int .i32 xc,.slice xA xm xcc] W2):=by
    have hbx:=boxedT W0 [.int .i64 xk,.int .i64 xa,.slice xA1 xn1 xc1,.slice xA2 xn2 xc2,.string xs,.int .i32 xc,.slice xA xm xcc] 31
    unfold Hid
    rw [hW2,hX]
    exact ⟨HS0.out.al _,hbx.1,hbx.1,hbx.2.2,hbx.2.2⟩
   clear hW2 hX
   go_enter Tryz.func28,Tryz.ntmps28
   go_upto_region 1 with fail
   rw [<- HW0.out]
   go_upto_region 6 with fail
   rw [<- HW2.out,<- HXX.out]
   clear n0 n1' n2' n3' n4' n5' n6' y0 y1 y2 y3 y4 y5 y6 HS0 HW0 HW2 HXX
   obtain ⟨B6,hB6⟩:∃ B,B = !decide (m=2/\xk=9/\sameV t0 (kidR tx 1)=true):=⟨_,rfl⟩
   have HB6:=Lib.hid hB6
   clear hB6
   go_cut [40] from 41 (fun v wy=>v= .bool B6/\TwX w W [.int .i64 8,.int .i64 a,.slice A1 n1 c1,.slice A2 n2 c2,.string s,.int .i32 c,.slice (some ⟨b,o,none⟩) m cc] X X [.int .i64 xk,.int .i64 xa,.slice xA1 xn1 xc1,.slice xA2 xn2 xc2,.string xs,.int .i32 xc,.slice xA xm xcc] [.int .i64 xk,.int .i64 xa,.slice xA1 xn1 xc1,.slice xA2 xn2 xc2,.string xs,.int .i32 xc,.slice xA xm xcc] wy)
   case first =>
    obtain ⟨z0,z1,z2,z3,z4,z5,z6⟩:=HT2.out.cells.1
    obtain ⟨n0,n1',n2',n3',n4',n5',n6'⟩:=HT2.out.tws.mts.box.c7
    obtain ⟨y0,y1,y2,y3,y4,y5,y6⟩:=HC0.out _ HT2.out.tws.old
    have hL1:=LatW.cell (w:=W2) (g:=X) HT2.out.lx
    have hL2:=LatW.cell (w:=W2) (g:=W.heap.size) HT2.out.tws.mts.box.2.2
    have hL3:=LatW.cell (w:=W2) (g:=b) (cell_lt y0)
    clear HR
    by_cases h2:m=2
    ·by_cases h3:xk=9
     ·have hB:B6 = !sameV t0 (kidR tx 1):=by rw [HB6.out];simp [h2,h3]
      obtain ⟨bx,ox,q0,q1,q2,q3,q4,q5,q6,rfl,htq,hcq⟩:=HXK.out 1 (by have:=HX9'.out h3;omega)
      have hxi:(1:Int) < (xm:Int):=by have:=HX9.out h3;omega
      have hxn:1 < xm:=by have:=HX9.out h3;omega
      rw [Nat.one_mul] at hcq
      obtain ⟨r0,r1,r2,r3,r4,r5,r6⟩:=hcq _ HT2.out.tws.old
      have hL4:=LatW.cell (w:=W2) (g:=bx) (cell_lt r0)
      have HSA:=Lib.hid (fun W'=>isame_walk HT0.out htq W')
      generalize sameV t0 (kidR tx 1)=sm at *
      subst h2 h3
      clear htq hcq HB6 HXK HX9 HX9' HT0
      go_wp2_with fail
      refine region_calm (by kernel_rfl) (by kernel_rfl) ?_
      repeat (go_big_quiet_step ((go_at_call 60;refine calm_of (HSA.out _))))
      refine wpQuiet_nil ?_
      intro _ hw'
      obtain ⟨nq,hw''⟩:=hw'
      subst hw''
      first | go_meet | (go_wp2;go_meet) | (go_simp;go_meet)
      exact ⟨by rw [hB],HT2.out.step nq.h⟩
     ·have hB:B6=true:=by rw [HB6.out];simp [h3]
      have e3:(xk != 9)=true:=by simpa using h3
      subst h2
      clear HB6 HXK HX9 HX9' HT0 h3
      go_wp2_with fail
      refine region_calm (by kernel_rfl) (by kernel_rfl) ?_
      repeat (go_big_quiet_step ((fail)))
      refine wpQuiet_nil ?_
      intro _ hw'
      obtain ⟨nq,hw''⟩:=hw'
      subst hw''
      first | go_meet | (go_wp2;go_meet) | (go_simp;go_meet)
      exact ⟨by rw [hB],HT2.out.step nq.h⟩
    ·have hB:B6=true:=by rw [HB6.out];simp [h2]
     have e2:((m:Int) != 2)=true:=by simp;omega
     clear HB6 HXK HX9 HX9' HT0 h2
     go_wp2_with fail
     refine region_calm (by kernel_rfl) (by kernel_rfl) ?_
     repeat (go_big_quiet_step ((fail)))
     refine wpQuiet_nil ?_
     intro _ hw'
     obtain ⟨nq,hw''⟩:=hw'
     subst hw''
     first | go_meet | (go_wp2;go_meet) | (go_simp;go_meet)
     exact ⟨by rw [hB],HT2.out.step nq.h⟩
   case rest =>
    obtain ⟨rfl,htw⟩:=hcut
    obtain ⟨w4,hw4⟩:∃ w4,w4=wc:=⟨_,rfl⟩
    subst hw4
    have HT4:=Lib.hid htw
    clear htw HT2
    obtain ⟨z0,z1,z2,z3,z4,z5,z6⟩:=HT4.out.cells.1
    cases B6 with
    | false =>
     have hp:=HB6.out
     simp only [Bool.false_eq,Bool.not_eq_false',decide_eq_true_eq] at hp
     obtain ⟨h1,h2,h4⟩:=hp
     have HR3:Hid (r=toldP 3 0 (primR (kidR tx 0)) (decide (primR (kidR tx 0)=9035)||decide (primR (kidR tx 0)=9042))):=by unfold Hid;rw [HR.out,if_pos ⟨h1,h2,h4⟩]
     obtain ⟨bx,ox,q0,q1,q2,q3,q4,q5,q6,rfl,htq,hcq⟩:=HXK.out 0 (by have:=HX9'.out h2;omega)
     have hxi:(0:Int) < (xm:Int):=by have:=HX9.out h2;omega
     have hxn:0 < xm:=by have:=HX9.out h2;omega
     have HCQ:Hid (KidC w bx ox q0 q1 q2 q3 q4 q5 q6):=by unfold Hid;simpa using hcq
     obtain ⟨r0,r1,r2,r3,r4,r5,r6⟩:=HCQ.out _ HT4.out.tws.old
     have HPX:=Lib.hid (fun W'=>iprim_walk htq W')
     generalize primR (kidR tx 0)=px at *
     clear htq hcq HR HB6 HXK HX9 HX9' HT0 h4 HCQ h1 h2
     go_wp2_with fail
     refine (HPX.out _).mono ?_
     rintro e w5 ⟨rfl,hb⟩
     have HT5:=Lib.hid (HT4.out.step hb)
     clear hb z0 z1 z2 z3 z4 z5 z6 r0 r1 r2 r3 r4 r5 r6
     by_cases h5:px=9035
     ·obtain ⟨q,hq⟩:∃ q,q=toldP 3 0 px true:=⟨_,rfl⟩
      have HQ:Hid (r=q):=by
       unfold Hid;rw [HR3.out,hq,decide_eq_true h5,Bool.true_or]
      have HTO:=Lib.hid (fun W'=>itold_walk 3 0 px true W')
      rw [<- hq] at HTO
      unfold PhR at HTO
      have e5:(px==9035)=true:=by simpa using h5
      clear hq HR3 h5
      go_wp2_with fail
      refine (HTO.out _).mono ?_
      rintro e w6 ⟨rfl,hb⟩
      have HT6:=Lib.hid (HT5.out.step hb)
      clear hb
      obtain ⟨⟨d0,d1,d2⟩,dz⟩:=block3 HT6.out.tws.mts.res
      go_wp2
      first
       | (refine bodyPost_ret (v := .tuple #[.agg #[.int .i64 q.1.1,.int .i32 q.1.2.1,.int .i32 q.1.2.2],.bool q.2]) ?_ rfl ⟨by rw [HQ.out],below_set3 HT6.out.tws.mts.bel (Nat.le_succ _) _ _ _⟩;exact ret_phr (fn:=Tryz.f28) (p:=2) (u:=3) rfl _ _ (W.heap.size+1) (by rfl) (set3_block HT6.out.tws.mts.res _ _ _))
       | (refine bodyPost_ret (v := .tuple #[.agg #[.int .i64 q.1.1,.int .i32 q.1.2.1,.int .i32 q.1.2.2],.bool q.2]) ?_ rfl ⟨by rw [HQ.out],HT6.out.tws.mts.bel⟩;exact ret_phr (fn:=Tryz.f28) (p:=2) (u:=3) rfl _ _ (W.heap.size+1) (by rfl) HT6.out.tws.mts.res)
     ·obtain ⟨bf,hbf⟩:∃ bf:Bool,(px==9042)=bf:=⟨_,rfl⟩
      obtain ⟨q,hq⟩:∃ q,q=toldP 3 0 px bf:=⟨_,rfl⟩
      have HQ:Hid (r=q):=by
       unfold Hid;rw [HR3.out,hq,decide_eq_false h5,Bool.false_or,<- hbf];rfl
      have HTO:=Lib.hid (fun W'=>itold_walk 3 0 px bf W')
      rw [<- hq] at HTO
      unfold PhR at HTO
      have e5:(px==9035)=false:=by simpa using h5
      clear hq HR3 h5
      go_wp2_with fail
      refine (HTO.out _).mono ?_
      rintro e w6 ⟨rfl,hb⟩
      have HT6:=Lib.hid (HT5.out.step hb)
      clear hb
      obtain ⟨⟨d0,d1,d2⟩,dz⟩:=block3 HT6.out.tws.mts.res
      go_wp2
      first
       | (refine bodyPost_ret (v := .tuple #[.agg #[.int .i64 q.1.1,.int .i32 q.1.2.1,.int .i32 q.1.2.2],.bool q.2]) ?_ rfl ⟨by rw [HQ.out],below_set3 HT6.out.tws.mts.bel (Nat.le_succ _) _ _ _⟩;exact ret_phr (fn:=Tryz.f28) (p:=2) (u:=3) rfl _ _ (W.heap.size+1) (by rfl) (set3_block HT6.out.tws.mts.res _ _ _))
       | (refine bodyPost_ret (v := .tuple #[.agg #[.int .i64 q.1.1,.int .i32 q.1.2.1,.int .i32 q.1.2.2],.bool q.2]) ?_ rfl ⟨by rw [HQ.out],HT6.out.tws.mts.bel⟩;exact ret_phr (fn:=Tryz.f28) (p:=2) (u:=3) rfl _ _ (W.heap.size+1) (by rfl) HT6.out.tws.mts.res)
    | true =>
     have hno:¬ (m=2/\xk=9/\sameV t0 (kidR tx 1)=true):=fun e=>by have h:=HB6.out;rw [decide_eq_true e] at h;exact absurd h (by decide)
     have HQ:Hid (r=noP):=by unfold Hid;rw [HR.out,if_neg hno]
     obtain ⟨⟨d0,d1,d2⟩,dz⟩:=block3 HT4.out.tws.mts.res
     clear HR HB6 HXK HX9 HX9' HT0 hno
     go_wp2
     first
      | (refine bodyPost_ret (v := .tuple #[.agg #[.int .i64 noP.1.1,.int .i32 noP.1.2.1,.int .i32 noP.1.2.2],.bool noP.2]) ?_ rfl ⟨by rw [HQ.out],below_set3 HT4.out.tws.mts.bel (Nat.le_succ _) _ _ _⟩;exact ret_phr (fn:=Tryz.f28) (p:=2) (u:=3) rfl _ _ (W.heap.size+1) (by rfl) (set3_block HT4.out.tws.mts.res _ _ _))
      | (refine bodyPost_ret (v := .tuple #[.agg #[.int .i64 noP.1.1,.int .i32 noP.1.2.1,.int .i32 noP.1.2.2],.bool noP.2]) ?_ rfl ⟨by rw [HQ.out],HT4.out.tws.mts.bel⟩;exact ret_phr (fn:=Tryz.f28) (p:=2) (u:=3) rfl _ _ (W.heap.size+1) (by rfl) HT4.out.tws.mts.res)
  ·have e8:(kindR t==8)=false:=by simpa using h8
   by_cases h10:kindR t=10
   ·have hl:=hs1.2.1 h10
    have HO:=Lib.hid (fun W' (hb':Below w.heap.size w W')=>itwo_walk ht hl (fun h=>by have:=(hs2 1 (by omega)).1 h;omega) (fun h=>by have:=(hs2 2 (by omega)).1 h;omega)
     (fun h h2=>by have:=(hs2 1 (by omega)).1 h;have:=(hs3 1 (by omega) 0 (by omega)).2.2.2 h2;omega) (fun h h2=>by have:=(hs2 2 (by omega)).1 h;have:=(hs3 2 (by omega) 0 (by omega)).2.2.2 h2;omega) W' hb')
    have HQ:Hid (r=mtTwo t):=by unfold Hid;rw [hr,mtP,if_neg h9,if_neg h8,if_pos h10]
    unfold PhR at HO
    rw [h10] at HO e9 e8 ⊢
    clear hr hs1 hs2 hs3 ht hkid hm hl hb h9 h8 h10
    generalize mtTwo t=q at *
    generalize charR t=c at *
    generalize nameR t=s at *
    obtain ⟨W0,hW0⟩:∃ W0,W0=(W.alloc (.cells #[.int .i64 10,.int .i64 a,.slice A1 n1 c1,.slice A2 n2 c2,.string s,.int .i32 c,.slice A m cc] 31)).alloc (.cells #[.int .i64 0,.int .i32 0,.int .i32 0] 63):=⟨_,rfl⟩
    have HW0:=Lib.hid hW0
    have HS0:Hid (MtS W [.int .i64 10,.int .i64 a,.slice A1 n1 c1,.slice A2 n2 c2,.string s,.int .i32 c,.slice A m cc] W0):=by unfold Hid;rw [hW0];exact MtS.start W _ _
    clear hW0
    obtain ⟨y0,y1,y2,y3,y4,y5,y6⟩:=HS0.out.box.c7
    go_enter Tryz.func28,Tryz.ntmps28
    go_upto_region 1 with fail
    rw [<- HW0.out]
    go_wp2_with fail
    refine (HO.out _ (HB0.out.trans (HS0.out.bel.mono HB0.out.size))).mono ?_
    rintro e w1 ⟨rfl,hb⟩
    have HS1:=Lib.hid (HS0.out.step hb)
    clear hb
    obtain ⟨⟨d0,d1,d2⟩,dz⟩:=block3 HS1.out.res
    go_wp2
    first
     | (refine bodyPost_ret (v := .tuple #[.agg #[.int .i64 q.1.1,.int .i32 q.1.2.1,.int .i32 q.1.2.2],.bool q.2]) ?_ rfl ⟨by rw [HQ.out],below_set3 HS1.out.bel (Nat.le_succ _) _ _ _⟩;exact ret_phr (fn:=Tryz.f28) (p:=2) (u:=3) rfl _ _ (W.heap.size+1) (by rfl) (set3_block HS1.out.res _ _ _))
     | (refine bodyPost_ret (v := .tuple #[.agg #[.int .i64 q.1.1,.int .i32 q.1.2.1,.int .i32 q.1.2.2],.bool q.2]) ?_ rfl ⟨by rw [HQ.out],HS1.out.bel⟩;exact ret_phr (fn:=Tryz.f28) (p:=2) (u:=3) rfl _ _ (W.heap.size+1) (by rfl) HS1.out.res)
   ·have e10:(kindR t==10)=false:=by simpa using h10
    have HQ:Hid (r=noP):=by unfold Hid;rw [hr,mtP,if_neg h9,if_neg h8,if_neg h10]
    clear hr hs1 hs2 hs3 ht hkid hm hb h9 h8 h10
    generalize kindR t=k at *
    generalize charR t=c at *
    generalize nameR t=s at *
    obtain ⟨W0,hW0⟩:∃ W0,W0=(W.alloc (.cells #[.int .i64 k,.int .i64 a,.slice A1 n1 c1,.slice A2 n2 c2,.string s,.int .i32 c,.slice A m cc] 31)).alloc (.cells #[.int .i64 0,.int .i32 0,.int .i32 0] 63):=⟨_,rfl⟩
    have HW0:=Lib.hid hW0
    have HS0:Hid (MtS W [.int .i64 k,.int .i64 a,.slice A1 n1 c1,.slice A2 n2 c2,.string s,.int .i32 c,.slice A m cc] W0):=by unfold Hid;rw [hW0];exact MtS.start W _ _
    clear hW0
    obtain ⟨y0,y1,y2,y3,y4,y5,y6⟩:=HS0.out.box.c7
    obtain ⟨⟨d0,d1,d2⟩,dz⟩:=block3 HS0.out.res
    go_enter Tryz.func28,Tryz.ntmps28
    go_upto_region 1 with fail
    rw [<- HW0.out]
    go_wp2
    first
     | (refine bodyPost_ret (v := .tuple #[.agg #[.int .i64 noP.1.1,.int .i32 noP.1.2.1,.int .i32 noP.1.2.2],.bool noP.2]) ?_ rfl ⟨by rw [HQ.out],below_set3 HS0.out.bel (Nat.le_succ _) _ _ _⟩;exact ret_phr (fn:=Tryz.f28) (p:=2) (u:=3) rfl _ _ (W.heap.size+1) (by rfl) (set3_block HS0.out.res _ _ _))
     | (refine bodyPost_ret (v := .tuple #[.agg #[.int .i64 noP.1.1,.int .i32 noP.1.2.1,.int .i32 noP.1.2.2],.bool noP.2]) ?_ rfl ⟨by rw [HQ.out],HS0.out.bel⟩;exact ret_phr (fn:=Tryz.f28) (p:=2) (u:=3) rfl _ _ (W.heap.size+1) (by rfl) HS0.out.res)
end Go.Proofs.YtbakjaliponbbaaGreatDoor
