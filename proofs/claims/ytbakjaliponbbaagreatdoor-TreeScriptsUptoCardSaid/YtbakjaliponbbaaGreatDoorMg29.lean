/- The reference's Text at calls of two values. Printed by .. Conditions: as each theorem says. -/
import Derived.Test.YtbakjaliponbbaaGreatDoorMg28
set_option maxRecDepth 100000
set_option maxHeartbeats 16000000
namespace Go.Proofs.YtbakjaliponbbaaGreatDoor
open Go Go.RowKit Go.Proofs Fl
theorem txt_10 (w0:World) (q:Nat) (_hq:w0.heap.size<=q) (nums:List Nat) (text:List Int) (name:ByteArray) (c:Int) (t0:RTree) (s0:List Int) (H0:Hid (TextP 40 w0 q t0 s0)) (t1:RTree) (s1:List Int) (H1:Hid (TextP 40 w0 q t1 s1)) (t2:RTree) (s2:List Int) (H2:Hid (TextP 40 w0 q t2 s2)) (hl:(joinP (wrapT (leftB (kindR t2)) s2) (joinP s0 s1)).length<=1099511627000) :
  TextP 40 w0 q (.mk 10 nums text name c [t0,t1,t2]) (joinP (wrapT (leftB (kindR t2)) s2) (joinP s0 s1)):=by
 intro v0 v1 v2 v3 v4 v5 W hr hb hL
 obtain ⟨nv,tv,A,cc,m,hvs,hrn,hrt,hm,hkid⟩:=hr.open_
 simp only [List.cons.injEq,and_true] at hvs
 obtain ⟨rfl,rfl,rfl,rfl,rfl,rfl⟩:=hvs
 obtain ⟨A1,c1,n1,rfl,-,-⟩:=hrn.opn
 obtain ⟨A2,c2,n2,rfl,-,-⟩:=hrt.opn
 obtain ⟨b,o,u0,u1,u2,u3,u4,u5,rfl,hr0,hc0⟩:=kq0 hkid
 obtain ⟨p0,p1,p2,p3,p4,p5,hr1,hc1⟩:=kq1 hkid
 obtain ⟨r0,r1,r2,r3,r4,r5,hr2,hc2⟩:=kq2 hkid
 obtain rfl:m=3:=by simpa using hm
 obtain ⟨pb,hpb⟩:∃ pb,pb=leftB (kindR t2):=⟨_,rfl⟩
 rw [<- hpb] at hl ⊢
 have hpr:=rbare_any w0 t2
 obtain ⟨B1,m1,d1,B2,m2,d2,B3,m3,d3,rfl,rfl,rfl,rfl,rfl,rfl,-,-⟩:=hr2.vals
 generalize kindR t2=uk at *
 generalize nameR t2=un at *
 generalize charR t2=uc at *
 have HX0:=Lib.hid (RSt.start hb hL [.int .i64 10,.slice A1 n1 c1,.slice A2 n2 c2,.string name,.int .i32 c,.slice (some ⟨b,o,none⟩) 3 cc] 29)
 have HX:=Lib.hid (HX0.out.two [.int .i64 uk,.slice B1 m1 d1,.slice B2 m2 d2,.string un,.int .i32 uc,.slice B3 m3 d3] 29)
 have HK0:=Lib.hid hc0
 have HK1:=Lib.hid hc1
 have HK2:=Lib.hid hc2
 have e0:=(joinP_len2 (wrapT pb s2) (joinP s0 s1)).1
 have e1:=(joinP_len2 s0 s1).1
 have HL0:(wrapT pb s2).length<=1099511627000:=by omega
 have HL2:s1.length<=1099511627000:=by omega
 have HI0:Hid (∀ W1,RS2 w0 q W.heap.size [.int .i64 10,.slice A1 n1 c1,.slice A2 n2 c2,.string name,.int .i32 c,.slice (some ⟨b,o,none⟩) 3 cc] W (W.heap.size+1) [.int .i64 uk,.slice B1 m1 d1,.slice B2 m2 d2,.string un,.int .i32 uc,.slice B3 m3 d3] W1->Calls Tryz.prog 83 #[.agg #[.int .i64 uk,.slice B1 m1 d1,.slice B2 m2 d2,.string un,.int .i32 uc,.slice B3 m3 d3],.bool (!pb),.pointer (some ⟨q,0,none⟩)] W1 (fun e w'=>∃ Ax nx cx,e= .returned (.slice Ax nx cx)/\RunQ (fun b=>b≠q) w' Ax nx (wrapT pb s2)/\Lq q W1 w'/\RS2 w0 q W.heap.size [.int .i64 10,.slice A1 n1 c1,.slice A2 n2 c2,.string name,.int .i32 c,.slice (some ⟨b,o,none⟩) 3 cc] W (W.heap.size+1) [.int .i64 uk,.slice B1 m1 d1,.slice B2 m2 d2,.string un,.int .i32 uc,.slice B3 m3 d3] w')):=fun W1 h=>(by have h0:=(round_any w0 q _hq t2 s2 (!pb) H2 (by rw [Bool.not_not];exact HL0) _ _ _ _ _ _ W1 hr2 h.st.bel h.st.lo);rw [Bool.not_not] at h0;exact h0.mono fun e w1 h1=>h.ret _hq h1)
 have HI1:Hid (∀ W1,RS2 w0 q W.heap.size [.int .i64 10,.slice A1 n1 c1,.slice A2 n2 c2,.string name,.int .i32 c,.slice (some ⟨b,o,none⟩) 3 cc] W (W.heap.size+1) [.int .i64 uk,.slice B1 m1 d1,.slice B2 m2 d2,.string un,.int .i32 uc,.slice B3 m3 d3] W1->Calls Tryz.prog 40 #[.agg #[u0,u1,u2,u3,u4,u5],.pointer (some ⟨q,0,none⟩)] W1 (fun e w'=>∃ Ax nx cx,e= .returned (.slice Ax nx cx)/\RunQ (fun b=>b≠q) w' Ax nx s0/\Lq q W1 w'/\RS2 w0 q W.heap.size [.int .i64 10,.slice A1 n1 c1,.slice A2 n2 c2,.string name,.int .i32 c,.slice (some ⟨b,o,none⟩) 3 cc] W (W.heap.size+1) [.int .i64 uk,.slice B1 m1 d1,.slice B2 m2 d2,.string un,.int .i32 uc,.slice B3 m3 d3] w')):=fun W1 h=>((H0.out _ _ _ _ _ _ W1 hr0 h.st.bel h.st.lo).mono fun e w1 h1=>h.ret _hq h1)
 have HI2:Hid (∀ W1,RS2 w0 q W.heap.size [.int .i64 10,.slice A1 n1 c1,.slice A2 n2 c2,.string name,.int .i32 c,.slice (some ⟨b,o,none⟩) 3 cc] W (W.heap.size+1) [.int .i64 uk,.slice B1 m1 d1,.slice B2 m2 d2,.string un,.int .i32 uc,.slice B3 m3 d3] W1->Calls Tryz.prog 83 #[.agg #[p0,p1,p2,p3,p4,p5],.bool false,.pointer (some ⟨q,0,none⟩)] W1 (fun e w'=>∃ Ax nx cx,e= .returned (.slice Ax nx cx)/\RunQ (fun b=>b≠q) w' Ax nx s1/\Lq q W1 w'/\RS2 w0 q W.heap.size [.int .i64 10,.slice A1 n1 c1,.slice A2 n2 c2,.string name,.int .i32 c,.slice (some ⟨b,o,none⟩) 3 cc] W (W.heap.size+1) [.int .i64 uk,.slice B1 m1 d1,.slice B2 m2 d2,.string un,.int .i32 uc,.slice B3 m3 d3] w')):=fun W1 h=>((round_any w0 q _hq t1 s1 false H1 (by exact HL2) _ _ _ _ _ _ W1 hr1 h.st.bel h.st.lo).mono fun e w1 h1=>h.ret _hq h1)
 have HPD:Hid (∀ W1,RS2 w0 q W.heap.size [.int .i64 10,.slice A1 n1 c1,.slice A2 n2 c2,.string name,.int .i32 c,.slice (some ⟨b,o,none⟩) 3 cc] W (W.heap.size+1) [.int .i64 uk,.slice B1 m1 d1,.slice B2 m2 d2,.string un,.int .i32 uc,.slice B3 m3 d3] W1->Calls Tryz.prog 84 #[.agg #[.int .i64 uk,.slice B1 m1 d1,.slice B2 m2 d2,.string un,.int .i32 uc,.slice B3 m3 d3]] W1 fun e w'=>e= .returned (.bool (bareB uk))/\Below W1.heap.size W1 w'):=fun W1 h=>hpr _ _ _ _ _ _ W1 hr2 h.st.bel
 have HAL:Hid (∀ W1 A50 n50 c50 A51 n51 c51 A52 n52 c52,RS2 w0 q W.heap.size [.int .i64 10,.slice A1 n1 c1,.slice A2 n2 c2,.string name,.int .i32 c,.slice (some ⟨b,o,none⟩) 3 cc] W (W.heap.size+1) [.int .i64 uk,.slice B1 m1 d1,.slice B2 m2 d2,.string un,.int .i32 uc,.slice B3 m3 d3] W1->RunQ (fun b=>b≠q) W1 A50 n50 (wrapT pb s2)->RunQ (fun b=>b≠q) W1 A51 n51 s0->RunQ (fun b=>b≠q) W1 A52 n52 s1->Calls Tryz.prog 41 #[.slice (some ⟨W1.heap.size,0,none⟩) 3 3,.pointer (some ⟨q,0,none⟩)] (W1.alloc (.cells #[.slice A50 n50 c50,.slice A51 n51 c51,.slice A52 n52 c52] 27)) fun e w'=>∃ Ax nx cx,e= .returned (.slice Ax nx cx)/\RtQ q W (joinP (wrapT pb s2) (joinP s0 s1)) (.returned (.slice Ax nx cx)) w'/\RS2 w0 q W.heap.size [.int .i64 10,.slice A1 n1 c1,.slice A2 n2 c2,.string name,.int .i32 c,.slice (some ⟨b,o,none⟩) 3 cc] W (W.heap.size+1) [.int .i64 uk,.slice B1 m1 d1,.slice B2 m2 d2,.string un,.int .i32 uc,.slice B3 m3 d3] w'):=fun W1 A50 n50 c50 A51 n51 c51 A52 n52 c52 h h50 h51 h52=>all_st2 _hq (rows3 h50 h51 h52) h 3 (by omega) (accJ3 (wrapT pb s2) s0 s1) hl
 have HSA:Hid (∀ W1,RS2 w0 q W.heap.size [.int .i64 10,.slice A1 n1 c1,.slice A2 n2 c2,.string name,.int .i32 c,.slice (some ⟨b,o,none⟩) 3 cc] W (W.heap.size+1) [.int .i64 uk,.slice B1 m1 d1,.slice B2 m2 d2,.string un,.int .i32 uc,.slice B3 m3 d3] W1->W1.cell? ⟨W.heap.size,5,none⟩=some (.slice (some ⟨b,o,none⟩) 3 cc)/\W1.cell? ⟨W.heap.size+1,0,none⟩=some (.int .i64 uk)/\W1.cell? ⟨W.heap.size+1,1,none⟩=some (.slice B1 m1 d1)/\W1.cell? ⟨W.heap.size+1,2,none⟩=some (.slice B2 m2 d2)/\W1.cell? ⟨W.heap.size+1,3,none⟩=some (.string un)/\W1.cell? ⟨W.heap.size+1,4,none⟩=some (.int .i32 uc)/\W1.cell? ⟨W.heap.size+1,5,none⟩=some (.slice B3 m3 d3)/\W1.cell? ⟨b,o,none⟩=some u0/\W1.cell? ⟨b,o+1,none⟩=some u1/\W1.cell? ⟨b,o+2,none⟩=some u2/\W1.cell? ⟨b,o+3,none⟩=some u3/\W1.cell? ⟨b,o+4,none⟩=some u4/\W1.cell? ⟨b,o+5,none⟩=some u5/\W1.cell? ⟨b,o+6,none⟩=some p0/\W1.cell? ⟨b,o+6+1,none⟩=some p1/\W1.cell? ⟨b,o+6+2,none⟩=some p2/\W1.cell? ⟨b,o+6+3,none⟩=some p3/\W1.cell? ⟨b,o+6+4,none⟩=some p4/\W1.cell? ⟨b,o+6+5,none⟩=some p5):=fun W1 h=>⟨h.st.c6.2.2.2.2.2,h.c6.1,h.c6.2.1,h.c6.2.2.1,h.c6.2.2.2.1,h.c6.2.2.2.2.1,h.c6.2.2.2.2.2,(HK0.out W1 h.st.bel).1,(HK0.out W1 h.st.bel).2.1,(HK0.out W1 h.st.bel).2.2.1,(HK0.out W1 h.st.bel).2.2.2.1,(HK0.out W1 h.st.bel).2.2.2.2.1,(HK0.out W1 h.st.bel).2.2.2.2.2,(HK1.out W1 h.st.bel).1,(HK1.out W1 h.st.bel).2.1,(HK1.out W1 h.st.bel).2.2.1,(HK1.out W1 h.st.bel).2.2.2.1,(HK1.out W1 h.st.bel).2.2.2.2.1,(HK1.out W1 h.st.bel).2.2.2.2.2⟩
 obtain ⟨y0,y1,y2,y3,y4,y5⟩:=HK2.out _ HX0.out.bel
 clear hr hb hL hrn hrt hkid hm hr0 hc0 H0 HK0 hr1 hc1 H1 HK1 hr2 hc2 H2 HK2 e0 e1 hl HL0 HL2 hpr
 obtain ⟨br,hbr⟩:∃ br,br=bareB uk:=⟨_,rfl⟩
 have hpb2:pb=(br||decide (uk=1)||decide (uk=7)):=by rw [hpb,hbr];rfl
 rw [<- hbr] at HPD
 clear hbr hpb
 cases br
 ·by_cases h1:uk=1
  ·subst h1
   obtain rfl:pb=true:=by rw [hpb2];rfl
   clear hpb2
   go_enter Tryz.func40,Tryz.ntmps40
   obtain ⟨x0,x1,x2,x3,x4,x5⟩:=HX0.out.c6
   go_upto_region 28 with fail
   clear x0 x1 x2 x3 x4 x5 y0 y1 y2 y3 y4 y5 HX0
   have HX9:Hid (RS2 w0 q W.heap.size [.int .i64 10,.slice A1 n1 c1,.slice A2 n2 c2,.string name,.int .i32 c,.slice (some ⟨b,o,none⟩) 3 cc] W (W.heap.size+1) [.int .i64 1,.slice B1 m1 d1,.slice B2 m2 d2,.string un,.int .i32 uc,.slice B3 m3 d3] ((W.alloc (.cells #[.int .i64 10,.slice A1 n1 c1,.slice A2 n2 c2,.string name,.int .i32 c,.slice (some ⟨b,o,none⟩) 3 cc] 29)).alloc (.cells #[.int .i64 1,.slice B1 m1 d1,.slice B2 m2 d2,.string un,.int .i32 uc,.slice B3 m3 d3] 29))):=by have h:=HX.out;unfold Hid;simpa using h
   clear HX
   generalize (W.alloc (.cells #[.int .i64 10,.slice A1 n1 c1,.slice A2 n2 c2,.string name,.int .i32 c,.slice (some ⟨b,o,none⟩) 3 cc] 29)).alloc (.cells #[.int .i64 1,.slice B1 m1 d1,.slice B2 m2 d2,.string un,.int .i32 uc,.slice B3 m3 d3] 29)=W0 at *
   have hd0:=HX9.out.below (Below.refl _ W0).drew
   have hs1:=HSA.out _ hd0
   refine wp_region_noPanic ?_
   refine wp_region_held_drew (S:=fun W1=>W1.cell? ⟨W.heap.size,5,none⟩=some (.slice (some ⟨b,o,none⟩) 3 cc)/\W1.cell? ⟨W.heap.size+1,0,none⟩=some (.int .i64 1)/\W1.cell? ⟨W.heap.size+1,1,none⟩=some (.slice B1 m1 d1)/\W1.cell? ⟨W.heap.size+1,2,none⟩=some (.slice B2 m2 d2)/\W1.cell? ⟨W.heap.size+1,3,none⟩=some (.string un)/\W1.cell? ⟨W.heap.size+1,4,none⟩=some (.int .i32 uc)/\W1.cell? ⟨W.heap.size+1,5,none⟩=some (.slice B3 m3 d3)/\W1.cell? ⟨b,o,none⟩=some u0/\W1.cell? ⟨b,o+1,none⟩=some u1/\W1.cell? ⟨b,o+2,none⟩=some u2/\W1.cell? ⟨b,o+3,none⟩=some u3/\W1.cell? ⟨b,o+4,none⟩=some u4/\W1.cell? ⟨b,o+5,none⟩=some u5/\W1.cell? ⟨b,o+6,none⟩=some p0/\W1.cell? ⟨b,o+6+1,none⟩=some p1/\W1.cell? ⟨b,o+6+2,none⟩=some p2/\W1.cell? ⟨b,o+6+3,none⟩=some p3/\W1.cell? ⟨b,o+6+4,none⟩=some p4/\W1.cell? ⟨b,o+6+5,none⟩=some p5) (by kernel_rfl) (by exact hs1) (fun hHeld=>?_)
   refine wpAnyH_take (i:=0) (v:=?av1) rfl (by kernel_rfl) (by kernel_rfl) (by kernel_rfl) (fun _ _ _ h=>h) (Or.inl ⟨by rfl,?ay1⟩) (by assumption) ?as1
   case ay1=>(intro w hSw;(try dsimp only at hSw);go_simp;try with_reducible rfl)
   change wpAnyH _ _ _ _ _ _ _ (Act.put _ (some 116) _) _
   simp only [Act.put,List.setIfInBounds_toArray,List.set_cons_zero,List.set_cons_succ]
   refine wpAnyH_take (i:=1) (v:=?av2) rfl (by kernel_rfl) (by kernel_rfl) (by kernel_rfl) (fun _ _ _ h=>h) (Or.inl ⟨by rfl,?ay2⟩) (by assumption) ?as2
   case ay2=>(intro w hSw;(try dsimp only at hSw);go_simp;try with_reducible rfl)
   change wpAnyH _ _ _ _ _ _ _ (Act.put _ (some 117) _) _
   simp only [Act.put,List.setIfInBounds_toArray,List.set_cons_zero,List.set_cons_succ]
   refine wpAnyH_take (i:=14) (v:=?av3) rfl (by kernel_rfl) (by kernel_rfl) (by kernel_rfl) (fun _ _ _ h=>h) (Or.inl ⟨by rfl,?ay3⟩) (by assumption) ?as3
   case ay3=>(intro w hSw;(try dsimp only at hSw);go_simp;try with_reducible rfl)
   change wpAnyH _ _ _ _ _ _ _ (Act.put _ (some 130) _) _
   simp only [Act.put,List.setIfInBounds_toArray,List.set_cons_zero,List.set_cons_succ]
   refine wpAnyH_take (i:=16) (v:=?av4) rfl (by kernel_rfl) (by kernel_rfl) (by kernel_rfl) (fun _ _ _ h=>h) (Or.inl ⟨by rfl,?ay4⟩) (by assumption) ?as4
   case ay4=>(intro w hSw;(try dsimp only at hSw);go_simp;try with_reducible rfl)
   change wpAnyH _ _ _ _ _ _ _ (Act.put _ (some 132) _) _
   simp only [Act.put,List.setIfInBounds_toArray,List.set_cons_zero,List.set_cons_succ]
   refine wpAnyH_take (i:=17) (v:=?av5) rfl (by kernel_rfl) (by kernel_rfl) (by kernel_rfl) (fun _ _ _ h=>h) (Or.inl ⟨by rfl,?ay5⟩) (by assumption) ?as5
   case ay5=>(intro w hSw;(try dsimp only at hSw);go_simp;try with_reducible rfl)
   change wpAnyH _ _ _ _ _ _ _ (Act.put _ (some 133) _) _
   simp only [Act.put,List.setIfInBounds_toArray,List.set_cons_zero,List.set_cons_succ]
   refine wpAnyH_take (i:=18) (v:=?av6) rfl (by kernel_rfl) (by kernel_rfl) (by kernel_rfl) (fun _ _ _ h=>h) (Or.inl ⟨by rfl,?ay6⟩) (by assumption) ?as6
   case ay6=>(intro w hSw;(try dsimp only at hSw);go_simp;try with_reducible rfl)
   change wpAnyH _ _ _ _ _ _ _ (Act.put _ (some 134) _) _
   simp only [Act.put,List.setIfInBounds_toArray,List.set_cons_zero,List.set_cons_succ]
   refine wpAnyH_take (i:=19) (v:=?av7) rfl (by kernel_rfl) (by kernel_rfl) (by kernel_rfl) (fun _ _ _ h=>h) (Or.inl ⟨by rfl,?ay7⟩) (by assumption) ?as7
   case ay7=>(intro w hSw;(try dsimp only at hSw);go_simp;try with_reducible rfl)
   change wpAnyH _ _ _ _ _ _ _ (Act.put _ (some 135) _) _
   simp only [Act.put,List.setIfInBounds_toArray,List.set_cons_zero,List.set_cons_succ]
   refine wpAnyH_take (i:=20) (v:=?av8) rfl (by kernel_rfl) (by kernel_rfl) (by kernel_rfl) (fun _ _ _ h=>h) (Or.inl ⟨by rfl,?ay8⟩) (by assumption) ?as8
   case ay8=>(intro w hSw;(try dsimp only at hSw);go_simp;try with_reducible rfl)
   change wpAnyH _ _ _ _ _ _ _ (Act.put _ (some 136) _) _
   simp only [Act.put,List.setIfInBounds_toArray,List.set_cons_zero,List.set_cons_succ]
   refine wpAnyH_take (i:=22) (v:=?av9) rfl (by kernel_rfl) (by kernel_rfl) (by kernel_rfl) (fun _ _ _ h=>h) (Or.inl ⟨by rfl,?ay9⟩) (by assumption) ?as9
   case ay9=>(intro w hSw;(try dsimp only at hSw);go_simp;try with_reducible rfl)
   change wpAnyH _ _ _ _ _ _ _ (Act.put _ (some 138) _) _
   simp only [Act.put,List.setIfInBounds_toArray,List.set_cons_zero,List.set_cons_succ]
   refine wpAnyH_take (i:=23) (v:=?av10) rfl (by kernel_rfl) (by kernel_rfl) (by kernel_rfl) (fun _ _ _ h=>h) (Or.inl ⟨by rfl,?ay10⟩) (by assumption) ?as10
   case ay10=>(intro w hSw;(try dsimp only at hSw);go_simp;try with_reducible rfl)
   change wpAnyH _ _ _ _ _ _ _ (Act.put _ (some 139) _) _
   simp only [Act.put,List.setIfInBounds_toArray,List.set_cons_zero,List.set_cons_succ]
   refine wpAnyH_take (i:=24) (v:=?av11) rfl (by kernel_rfl) (by kernel_rfl) (by kernel_rfl) (fun _ _ _ h=>h) (Or.inl ⟨by rfl,?ay11⟩) (by assumption) ?as11
   case ay11=>(intro w hSw;(try dsimp only at hSw);go_simp;try with_reducible rfl)
   change wpAnyH _ _ _ _ _ _ _ (Act.put _ (some 140) _) _
   simp only [Act.put,List.setIfInBounds_toArray,List.set_cons_zero,List.set_cons_succ]
   refine wpAnyH_take (i:=25) (v:=?av12) rfl (by kernel_rfl) (by kernel_rfl) (by kernel_rfl) (fun _ _ _ h=>h) (Or.inl ⟨by rfl,?ay12⟩) (by assumption) ?as12
   case ay12=>(intro w hSw;(try dsimp only at hSw);go_simp;try with_reducible rfl)
   change wpAnyH _ _ _ _ _ _ _ (Act.put _ (some 141) _) _
   simp only [Act.put,List.setIfInBounds_toArray,List.set_cons_zero,List.set_cons_succ]
   refine wpAnyH_take (i:=26) (v:=?av13) rfl (by kernel_rfl) (by kernel_rfl) (by kernel_rfl) (fun _ _ _ h=>h) (Or.inl ⟨by rfl,?ay13⟩) (by assumption) ?as13
   case ay13=>(intro w hSw;(try dsimp only at hSw);go_simp;try with_reducible rfl)
   change wpAnyH _ _ _ _ _ _ _ (Act.put _ (some 142) _) _
   simp only [Act.put,List.setIfInBounds_toArray,List.set_cons_zero,List.set_cons_succ]
   refine wpAnyH_take (i:=29) (v:=?av14) rfl (by kernel_rfl) (by kernel_rfl) (by kernel_rfl) (fun _ _ _ h=>h) (Or.inl ⟨by rfl,?ay14⟩) (by assumption) ?as14
   case ay14=>(intro w hSw;(try dsimp only at hSw);go_simp;try with_reducible rfl)
   change wpAnyH _ _ _ _ _ _ _ (Act.put _ (some 145) _) _
   simp only [Act.put,List.setIfInBounds_toArray,List.set_cons_zero,List.set_cons_succ]
   refine wpAnyH_ready (rs:=[2]) (by kernel_rfl) (by simp) ?_
   refine AllReadyH.cons rfl (fun K hK=>?_) AllReadyH.nil
   go_simp
   (go_at_call 84;(with_reducible refine (HPD.out _ hd0).mono ?_);rintro e w49 ⟨rfl,hb49⟩;have hst49:=hd0.below hb49;have hs49:=HSA.out _ hst49;dsimp only)
   refine hK.out _ _ (by first | assumption | exact hs1 | exact HSA.out _ (RS2.below (by assumption) (bel1 _ _))) (fun hHeld=>?_)
   clear hK K
   refine wpAnyH_take (i:=3) (v:=?av15) rfl (by kernel_rfl) (by kernel_rfl) (by kernel_rfl) (fun _ _ _ h=>h) (Or.inl ⟨by rfl,?ay15⟩) (by assumption) ?as15
   case ay15=>(intro w hSw;(try dsimp only at hSw);go_simp;try with_reducible rfl)
   change wpAnyH _ _ _ _ _ _ _ (Act.put _ (some 119) _) _
   simp only [Act.put,List.setIfInBounds_toArray,List.set_cons_zero,List.set_cons_succ]
   refine wpAnyH_take (i:=4) (v:=?av16) rfl (by kernel_rfl) (by kernel_rfl) (by kernel_rfl) (fun _ _ _ h=>h) (Or.inl ⟨by rfl,?ay16⟩) (by assumption) ?as16
   case ay16=>(intro w hSw;(try dsimp only at hSw);go_simp;try with_reducible rfl)
   change wpAnyH _ _ _ _ _ _ _ (Act.put _ (some 120) _) _
   simp only [Act.put,List.setIfInBounds_toArray,List.set_cons_zero,List.set_cons_succ]
   refine wpAnyH_take (i:=5) (v:=?av17) rfl (by kernel_rfl) (by kernel_rfl) (by kernel_rfl) (fun _ _ _ h=>h) (Or.inl ⟨by go_simp,?ay17⟩) (by assumption) ?as17
   case ay17=>(intro w hSw;(try dsimp only at hSw);go_simp;try with_reducible rfl)
   change wpAnyH _ _ _ _ _ _ _ (Act.put _ (some 121) _) _
   simp only [Act.put,List.setIfInBounds_toArray,List.set_cons_zero,List.set_cons_succ]
   refine wpAnyH_take (i:=6) (v:=?av18) rfl (by kernel_rfl) (by kernel_rfl) (by kernel_rfl) (fun _ _ _ h=>h) (Or.inl ⟨by go_simp,?ay18⟩) (by assumption) ?as18
   case ay18=>(intro w hSw;(try dsimp only at hSw);go_simp;try with_reducible rfl)
   change wpAnyH _ _ _ _ _ _ _ (Act.put _ (some 122) _) _
   simp only [Act.put,List.setIfInBounds_toArray,List.set_cons_zero,List.set_cons_succ]
   refine wpAnyH_take (i:=7) (v:=?av19) rfl (by kernel_rfl) (by kernel_rfl) (by kernel_rfl) (fun _ _ _ h=>h) (Or.inl ⟨by go_simp,?ay19⟩) (by assumption) ?as19
   case ay19=>(intro w hSw;(try dsimp only at hSw);go_simp;try with_reducible rfl)
   change wpAnyH _ _ _ _ _ _ _ (Act.put _ (some 123) _) _
   simp only [Act.put,List.setIfInBounds_toArray,List.set_cons_zero,List.set_cons_succ]
   refine wpAnyH_take (i:=8) (v:=?av20) rfl (by kernel_rfl) (by kernel_rfl) (by kernel_rfl) (fun _ _ _ h=>h) (Or.inl ⟨by rfl,?ay20⟩) (by assumption) ?as20
   case ay20=>(intro w hSw;(try dsimp only at hSw);go_simp;try with_reducible rfl)
   change wpAnyH _ _ _ _ _ _ _ (Act.put _ (some 124) _) _
   simp only [Act.put,List.setIfInBounds_toArray,List.set_cons_zero,List.set_cons_succ]
   refine wpAnyH_take (i:=9) (v:=?av21) rfl (by kernel_rfl) (by kernel_rfl) (by kernel_rfl) (fun _ _ _ h=>h) (Or.inl ⟨by rfl,?ay21⟩) (by assumption) ?as21
   case ay21=>(intro w hSw;(try dsimp only at hSw);go_simp;try with_reducible rfl)
   change wpAnyH _ _ _ _ _ _ _ (Act.put _ (some 125) _) _
   simp only [Act.put,List.setIfInBounds_toArray,List.set_cons_zero,List.set_cons_succ]
   refine wpAnyH_take (i:=10) (v:=undef) rfl (by kernel_rfl) (by kernel_rfl) (by kernel_rfl) (fun _ _ _ h=>h) (Or.inr ⟨by (go_simp <;> (intro h;cases h)),rfl⟩) (by assumption) ?_
   change wpAnyH _ _ _ _ _ _ _ (Act.put _ (some 126) _) _
   simp only [Act.put,List.setIfInBounds_toArray,List.set_cons_zero,List.set_cons_succ]
   refine wpAnyH_take (i:=11) (v:=undef) rfl (by kernel_rfl) (by kernel_rfl) (by kernel_rfl) (fun _ _ _ h=>h) (Or.inr ⟨by (go_simp <;> (intro h;cases h)),rfl⟩) (by assumption) ?_
   change wpAnyH _ _ _ _ _ _ _ (Act.put _ (some 127) _) _
   simp only [Act.put,List.setIfInBounds_toArray,List.set_cons_zero,List.set_cons_succ]
   refine wpAnyH_take (i:=12) (v:=undef) rfl (by kernel_rfl) (by kernel_rfl) (by kernel_rfl) (fun _ _ _ h=>h) (Or.inr ⟨by (go_simp <;> (intro h;cases h)),rfl⟩) (by assumption) ?_
   change wpAnyH _ _ _ _ _ _ _ (Act.put _ (some 128) _) _
   simp only [Act.put,List.setIfInBounds_toArray,List.set_cons_zero,List.set_cons_succ]
   refine wpAnyH_take (i:=13) (v:=?av25) rfl (by kernel_rfl) (by kernel_rfl) (by kernel_rfl) (fun _ _ _ h=>h) (Or.inl ⟨by rfl,?ay25⟩) (by assumption) ?as25
   case ay25=>(intro w hSw;(try dsimp only at hSw);go_simp;try with_reducible rfl)
   change wpAnyH _ _ _ _ _ _ _ (Act.put _ (some 129) _) _
   simp only [Act.put,List.setIfInBounds_toArray,List.set_cons_zero,List.set_cons_succ]
   refine wpAnyH_ready (rs:=[15]) (by kernel_rfl) (by simp) ?_
   refine AllReadyH.cons rfl (fun K hK=>?_) AllReadyH.nil
   go_simp
   (go_at_call 83;(refine (HI0.out _ (by assumption)).mono ?_);rintro e w50 ⟨A50,n50,c50,rfl,hr50,hq50,hst50⟩;have hs50:=HSA.out _ hst50;dsimp only)
   refine hK.out _ _ (by first | assumption | exact hs1 | exact HSA.out _ (RS2.below (by assumption) (bel1 _ _))) (fun hHeld=>?_)
   clear hK K
   refine wpAnyH_ready (rs:=[21]) (by kernel_rfl) (by simp) ?_
   refine AllReadyH.cons rfl (fun K hK=>?_) AllReadyH.nil
   go_simp
   (go_at_call 40;(with_reducible refine (HI1.out _ (by assumption)).mono ?_);rintro e w51 ⟨A51,n51,c51,rfl,hr51,hq51,hst51⟩;have hs51:=HSA.out _ hst51;dsimp only)
   refine hK.out _ _ (by first | assumption | exact hs1 | exact HSA.out _ (RS2.below (by assumption) (bel1 _ _))) (fun hHeld=>?_)
   clear hK K
   refine wpAnyH_ready (rs:=[27]) (by kernel_rfl) (by simp) ?_
   refine AllReadyH.cons rfl (fun K hK=>?_) AllReadyH.nil
   go_simp
   (go_at_call 83;(with_reducible refine (HI2.out _ (by assumption)).mono ?_);rintro e w52 ⟨A52,n52,c52,rfl,hr52,hq52,hst52⟩;have hs52:=HSA.out _ hst52;dsimp only)
   refine hK.out _ _ (by first | assumption | exact hs1 | exact HSA.out _ (RS2.below (by assumption) (bel1 _ _))) (fun hHeld=>?_)
   clear hK K
   refine wpAnyH_ready (rs:=[28]) (by kernel_rfl) (by simp) ?_
   refine AllReadyH.cons rfl (fun K hK=>?_) AllReadyH.nil
   go_simp
   refine hK.out _ _ (by first | assumption | exact hs1 | exact HSA.out _ (RS2.below (by assumption) (bel1 _ _))) (fun hHeld=>?_)
   clear hK K
   refine wpAnyH_ready (rs:=[30]) (by kernel_rfl) (by simp) ?_
   refine AllReadyH.cons rfl (fun K hK=>?_) AllReadyH.nil
   go_simp
   (go_at_call 41;(with_reducible refine (HAL.out _ _ _ _ _ _ _ _ _ _ hst52 ((hr50.lq hq51).lq hq52) (hr51.lq hq52) hr52).mono ?_);rintro e w90 ⟨A90,n90,c90,rfl,hf90,hst90⟩;have hs90:=HSA.out _ hst90;dsimp only)
   refine hK.out _ _ (by first | assumption | exact hs1 | exact HSA.out _ (RS2.below (by assumption) (bel1 _ _))) (fun hHeld=>?_)
   clear hK K
   refine wpAnyH_ready (rs:=[31]) (by kernel_rfl) (by simp) ?_
   refine AllReadyH.cons rfl (fun K hK=>?_) AllReadyH.nil
   go_simp
   refine hK.out _ _ (by first | assumption | exact hs1 | exact HSA.out _ (RS2.below (by assumption) (bel1 _ _))) (fun hHeld=>?_)
   clear hK K
   refine wpAnyH_done (by kernel_rfl) ?_ _
   refine NoPanic.normal ?_
   have HF:=Lib.hid hf90
   clear hf90
   go_wp2
   go_ret
   exact HF.out
  ·by_cases h7:uk=7
   ·subst h7
    obtain rfl:pb=true:=by rw [hpb2];rfl
    clear hpb2 h1
    go_enter Tryz.func40,Tryz.ntmps40
    obtain ⟨x0,x1,x2,x3,x4,x5⟩:=HX0.out.c6
    go_upto_region 28 with fail
    clear x0 x1 x2 x3 x4 x5 y0 y1 y2 y3 y4 y5 HX0
    have HX9:Hid (RS2 w0 q W.heap.size [.int .i64 10,.slice A1 n1 c1,.slice A2 n2 c2,.string name,.int .i32 c,.slice (some ⟨b,o,none⟩) 3 cc] W (W.heap.size+1) [.int .i64 7,.slice B1 m1 d1,.slice B2 m2 d2,.string un,.int .i32 uc,.slice B3 m3 d3] ((W.alloc (.cells #[.int .i64 10,.slice A1 n1 c1,.slice A2 n2 c2,.string name,.int .i32 c,.slice (some ⟨b,o,none⟩) 3 cc] 29)).alloc (.cells #[.int .i64 7,.slice B1 m1 d1,.slice B2 m2 d2,.string un,.int .i32 uc,.slice B3 m3 d3] 29))):=by have h:=HX.out;unfold Hid;simpa using h
    clear HX
    generalize (W.alloc (.cells #[.int .i64 10,.slice A1 n1 c1,.slice A2 n2 c2,.string name,.int .i32 c,.slice (some ⟨b,o,none⟩) 3 cc] 29)).alloc (.cells #[.int .i64 7,.slice B1 m1 d1,.slice B2 m2 d2,.string un,.int .i32 uc,.slice B3 m3 d3] 29)=W0 at *
    have hd0:=HX9.out.below (Below.refl _ W0).drew
    have hs1:=HSA.out _ hd0
    refine wp_region_noPanic ?_
    refine wp_region_held_drew (S:=fun W1=>W1.cell? ⟨W.heap.size,5,none⟩=some (.slice (some ⟨b,o,none⟩) 3 cc)/\W1.cell? ⟨W.heap.size+1,0,none⟩=some (.int .i64 7)/\W1.cell? ⟨W.heap.size+1,1,none⟩=some (.slice B1 m1 d1)/\W1.cell? ⟨W.heap.size+1,2,none⟩=some (.slice B2 m2 d2)/\W1.cell? ⟨W.heap.size+1,3,none⟩=some (.string un)/\W1.cell? ⟨W.heap.size+1,4,none⟩=some (.int .i32 uc)/\W1.cell? ⟨W.heap.size+1,5,none⟩=some (.slice B3 m3 d3)/\W1.cell? ⟨b,o,none⟩=some u0/\W1.cell? ⟨b,o+1,none⟩=some u1/\W1.cell? ⟨b,o+2,none⟩=some u2/\W1.cell? ⟨b,o+3,none⟩=some u3/\W1.cell? ⟨b,o+4,none⟩=some u4/\W1.cell? ⟨b,o+5,none⟩=some u5/\W1.cell? ⟨b,o+6,none⟩=some p0/\W1.cell? ⟨b,o+6+1,none⟩=some p1/\W1.cell? ⟨b,o+6+2,none⟩=some p2/\W1.cell? ⟨b,o+6+3,none⟩=some p3/\W1.cell? ⟨b,o+6+4,none⟩=some p4/\W1.cell? ⟨b,o+6+5,none⟩=some p5) (by kernel_rfl) (by exact hs1) (fun hHeld=>?_)
    refine wpAnyH_take (i:=0) (v:=?av26) rfl (by kernel_rfl) (by kernel_rfl) (by kernel_rfl) (fun _ _ _ h=>h) (Or.inl ⟨by rfl,?ay26⟩) (by assumption) ?as26
    case ay26=>(intro w hSw;(try dsimp only at hSw);go_simp;try with_reducible rfl)
    change wpAnyH _ _ _ _ _ _ _ (Act.put _ (some 116) _) _
    simp only [Act.put,List.setIfInBounds_toArray,List.set_cons_zero,List.set_cons_succ]
    refine wpAnyH_take (i:=1) (v:=?av27) rfl (by kernel_rfl) (by kernel_rfl) (by kernel_rfl) (fun _ _ _ h=>h) (Or.inl ⟨by rfl,?ay27⟩) (by assumption) ?as27
    case ay27=>(intro w hSw;(try dsimp only at hSw);go_simp;try with_reducible rfl)
    change wpAnyH _ _ _ _ _ _ _ (Act.put _ (some 117) _) _
    simp only [Act.put,List.setIfInBounds_toArray,List.set_cons_zero,List.set_cons_succ]
    refine wpAnyH_take (i:=14) (v:=?av28) rfl (by kernel_rfl) (by kernel_rfl) (by kernel_rfl) (fun _ _ _ h=>h) (Or.inl ⟨by rfl,?ay28⟩) (by assumption) ?as28
    case ay28=>(intro w hSw;(try dsimp only at hSw);go_simp;try with_reducible rfl)
    change wpAnyH _ _ _ _ _ _ _ (Act.put _ (some 130) _) _
    simp only [Act.put,List.setIfInBounds_toArray,List.set_cons_zero,List.set_cons_succ]
    refine wpAnyH_take (i:=16) (v:=?av29) rfl (by kernel_rfl) (by kernel_rfl) (by kernel_rfl) (fun _ _ _ h=>h) (Or.inl ⟨by rfl,?ay29⟩) (by assumption) ?as29
    case ay29=>(intro w hSw;(try dsimp only at hSw);go_simp;try with_reducible rfl)
    change wpAnyH _ _ _ _ _ _ _ (Act.put _ (some 132) _) _
    simp only [Act.put,List.setIfInBounds_toArray,List.set_cons_zero,List.set_cons_succ]
    refine wpAnyH_take (i:=17) (v:=?av30) rfl (by kernel_rfl) (by kernel_rfl) (by kernel_rfl) (fun _ _ _ h=>h) (Or.inl ⟨by rfl,?ay30⟩) (by assumption) ?as30
    case ay30=>(intro w hSw;(try dsimp only at hSw);go_simp;try with_reducible rfl)
    change wpAnyH _ _ _ _ _ _ _ (Act.put _ (some 133) _) _
    simp only [Act.put,List.setIfInBounds_toArray,List.set_cons_zero,List.set_cons_succ]
    refine wpAnyH_take (i:=18) (v:=?av31) rfl (by kernel_rfl) (by kernel_rfl) (by kernel_rfl) (fun _ _ _ h=>h) (Or.inl ⟨by rfl,?ay31⟩) (by assumption) ?as31
    case ay31=>(intro w hSw;(try dsimp only at hSw);go_simp;try with_reducible rfl)
    change wpAnyH _ _ _ _ _ _ _ (Act.put _ (some 134) _) _
    simp only [Act.put,List.setIfInBounds_toArray,List.set_cons_zero,List.set_cons_succ]
    refine wpAnyH_take (i:=19) (v:=?av32) rfl (by kernel_rfl) (by kernel_rfl) (by kernel_rfl) (fun _ _ _ h=>h) (Or.inl ⟨by rfl,?ay32⟩) (by assumption) ?as32
    case ay32=>(intro w hSw;(try dsimp only at hSw);go_simp;try with_reducible rfl)
    change wpAnyH _ _ _ _ _ _ _ (Act.put _ (some 135) _) _
    simp only [Act.put,List.setIfInBounds_toArray,List.set_cons_zero,List.set_cons_succ]
    refine wpAnyH_take (i:=20) (v:=?av33) rfl (by kernel_rfl) (by kernel_rfl) (by kernel_rfl) (fun _ _ _ h=>h) (Or.inl ⟨by rfl,?ay33⟩) (by assumption) ?as33
    case ay33=>(intro w hSw;(try dsimp only at hSw);go_simp;try with_reducible rfl)
    change wpAnyH _ _ _ _ _ _ _ (Act.put _ (some 136) _) _
    simp only [Act.put,List.setIfInBounds_toArray,List.set_cons_zero,List.set_cons_succ]
    refine wpAnyH_take (i:=22) (v:=?av34) rfl (by kernel_rfl) (by kernel_rfl) (by kernel_rfl) (fun _ _ _ h=>h) (Or.inl ⟨by rfl,?ay34⟩) (by assumption) ?as34
    case ay34=>(intro w hSw;(try dsimp only at hSw);go_simp;try with_reducible rfl)
    change wpAnyH _ _ _ _ _ _ _ (Act.put _ (some 138) _) _
    simp only [Act.put,List.setIfInBounds_toArray,List.set_cons_zero,List.set_cons_succ]
    refine wpAnyH_take (i:=23) (v:=?av35) rfl (by kernel_rfl) (by kernel_rfl) (by kernel_rfl) (fun _ _ _ h=>h) (Or.inl ⟨by rfl,?ay35⟩) (by assumption) ?as35
    case ay35=>(intro w hSw;(try dsimp only at hSw);go_simp;try with_reducible rfl)
    change wpAnyH _ _ _ _ _ _ _ (Act.put _ (some 139) _) _
    simp only [Act.put,List.setIfInBounds_toArray,List.set_cons_zero,List.set_cons_succ]
    refine wpAnyH_take (i:=24) (v:=?av36) rfl (by kernel_rfl) (by kernel_rfl) (by kernel_rfl) (fun _ _ _ h=>h) (Or.inl ⟨by rfl,?ay36⟩) (by assumption) ?as36
    case ay36=>(intro w hSw;(try dsimp only at hSw);go_simp;try with_reducible rfl)
    change wpAnyH _ _ _ _ _ _ _ (Act.put _ (some 140) _) _
    simp only [Act.put,List.setIfInBounds_toArray,List.set_cons_zero,List.set_cons_succ]
    refine wpAnyH_take (i:=25) (v:=?av37) rfl (by kernel_rfl) (by kernel_rfl) (by kernel_rfl) (fun _ _ _ h=>h) (Or.inl ⟨by rfl,?ay37⟩) (by assumption) ?as37
    case ay37=>(intro w hSw;(try dsimp only at hSw);go_simp;try with_reducible rfl)
    change wpAnyH _ _ _ _ _ _ _ (Act.put _ (some 141) _) _
    simp only [Act.put,List.setIfInBounds_toArray,List.set_cons_zero,List.set_cons_succ]
    refine wpAnyH_take (i:=26) (v:=?av38) rfl (by kernel_rfl) (by kernel_rfl) (by kernel_rfl) (fun _ _ _ h=>h) (Or.inl ⟨by rfl,?ay38⟩) (by assumption) ?as38
    case ay38=>(intro w hSw;(try dsimp only at hSw);go_simp;try with_reducible rfl)
    change wpAnyH _ _ _ _ _ _ _ (Act.put _ (some 142) _) _
    simp only [Act.put,List.setIfInBounds_toArray,List.set_cons_zero,List.set_cons_succ]
    refine wpAnyH_take (i:=29) (v:=?av39) rfl (by kernel_rfl) (by kernel_rfl) (by kernel_rfl) (fun _ _ _ h=>h) (Or.inl ⟨by rfl,?ay39⟩) (by assumption) ?as39
    case ay39=>(intro w hSw;(try dsimp only at hSw);go_simp;try with_reducible rfl)
    change wpAnyH _ _ _ _ _ _ _ (Act.put _ (some 145) _) _
    simp only [Act.put,List.setIfInBounds_toArray,List.set_cons_zero,List.set_cons_succ]
    refine wpAnyH_ready (rs:=[2]) (by kernel_rfl) (by simp) ?_
    refine AllReadyH.cons rfl (fun K hK=>?_) AllReadyH.nil
    go_simp
    (go_at_call 84;(with_reducible refine (HPD.out _ hd0).mono ?_);rintro e w49 ⟨rfl,hb49⟩;have hst49:=hd0.below hb49;have hs49:=HSA.out _ hst49;dsimp only)
    refine hK.out _ _ (by first | assumption | exact hs1 | exact HSA.out _ (RS2.below (by assumption) (bel1 _ _))) (fun hHeld=>?_)
    clear hK K
    refine wpAnyH_take (i:=3) (v:=?av40) rfl (by kernel_rfl) (by kernel_rfl) (by kernel_rfl) (fun _ _ _ h=>h) (Or.inl ⟨by rfl,?ay40⟩) (by assumption) ?as40
    case ay40=>(intro w hSw;(try dsimp only at hSw);go_simp;try with_reducible rfl)
    change wpAnyH _ _ _ _ _ _ _ (Act.put _ (some 119) _) _
    simp only [Act.put,List.setIfInBounds_toArray,List.set_cons_zero,List.set_cons_succ]
    refine wpAnyH_take (i:=4) (v:=?av41) rfl (by kernel_rfl) (by kernel_rfl) (by kernel_rfl) (fun _ _ _ h=>h) (Or.inl ⟨by rfl,?ay41⟩) (by assumption) ?as41
    case ay41=>(intro w hSw;(try dsimp only at hSw);go_simp;try with_reducible rfl)
    change wpAnyH _ _ _ _ _ _ _ (Act.put _ (some 120) _) _
    simp only [Act.put,List.setIfInBounds_toArray,List.set_cons_zero,List.set_cons_succ]
    refine wpAnyH_take (i:=5) (v:=?av42) rfl (by kernel_rfl) (by kernel_rfl) (by kernel_rfl) (fun _ _ _ h=>h) (Or.inl ⟨by go_simp,?ay42⟩) (by assumption) ?as42
    case ay42=>(intro w hSw;(try dsimp only at hSw);go_simp;try with_reducible rfl)
    change wpAnyH _ _ _ _ _ _ _ (Act.put _ (some 121) _) _
    simp only [Act.put,List.setIfInBounds_toArray,List.set_cons_zero,List.set_cons_succ]
    refine wpAnyH_take (i:=6) (v:=?av43) rfl (by kernel_rfl) (by kernel_rfl) (by kernel_rfl) (fun _ _ _ h=>h) (Or.inl ⟨by go_simp,?ay43⟩) (by assumption) ?as43
    case ay43=>(intro w hSw;(try dsimp only at hSw);go_simp;try with_reducible rfl)
    change wpAnyH _ _ _ _ _ _ _ (Act.put _ (some 122) _) _
    simp only [Act.put,List.setIfInBounds_toArray,List.set_cons_zero,List.set_cons_succ]
    refine wpAnyH_take (i:=7) (v:=?av44) rfl (by kernel_rfl) (by kernel_rfl) (by kernel_rfl) (fun _ _ _ h=>h) (Or.inl ⟨by go_simp,?ay44⟩) (by assumption) ?as44
    case ay44=>(intro w hSw;(try dsimp only at hSw);go_simp;try with_reducible rfl)
    change wpAnyH _ _ _ _ _ _ _ (Act.put _ (some 123) _) _
    simp only [Act.put,List.setIfInBounds_toArray,List.set_cons_zero,List.set_cons_succ]
    refine wpAnyH_take (i:=8) (v:=?av45) rfl (by kernel_rfl) (by kernel_rfl) (by kernel_rfl) (fun _ _ _ h=>h) (Or.inl ⟨by rfl,?ay45⟩) (by assumption) ?as45
    case ay45=>(intro w hSw;(try dsimp only at hSw);go_simp;try with_reducible rfl)
    change wpAnyH _ _ _ _ _ _ _ (Act.put _ (some 124) _) _
    simp only [Act.put,List.setIfInBounds_toArray,List.set_cons_zero,List.set_cons_succ]
    refine wpAnyH_take (i:=9) (v:=?av46) rfl (by kernel_rfl) (by kernel_rfl) (by kernel_rfl) (fun _ _ _ h=>h) (Or.inl ⟨by rfl,?ay46⟩) (by assumption) ?as46
    case ay46=>(intro w hSw;(try dsimp only at hSw);go_simp;try with_reducible rfl)
    change wpAnyH _ _ _ _ _ _ _ (Act.put _ (some 125) _) _
    simp only [Act.put,List.setIfInBounds_toArray,List.set_cons_zero,List.set_cons_succ]
    refine wpAnyH_take (i:=10) (v:=?av47) rfl (by kernel_rfl) (by kernel_rfl) (by kernel_rfl) (fun _ _ _ h=>h) (Or.inl ⟨by go_simp,?ay47⟩) (by assumption) ?as47
    case ay47=>(intro w hSw;(try dsimp only at hSw);go_simp;try with_reducible rfl)
    change wpAnyH _ _ _ _ _ _ _ (Act.put _ (some 126) _) _
    simp only [Act.put,List.setIfInBounds_toArray,List.set_cons_zero,List.set_cons_succ]
    refine wpAnyH_take (i:=11) (v:=?av48) rfl (by kernel_rfl) (by kernel_rfl) (by kernel_rfl) (fun _ _ _ h=>h) (Or.inl ⟨by go_simp,?ay48⟩) (by assumption) ?as48
    case ay48=>(intro w hSw;(try dsimp only at hSw);go_simp;try with_reducible rfl)
    change wpAnyH _ _ _ _ _ _ _ (Act.put _ (some 127) _) _
    simp only [Act.put,List.setIfInBounds_toArray,List.set_cons_zero,List.set_cons_succ]
    refine wpAnyH_take (i:=12) (v:=?av49) rfl (by kernel_rfl) (by kernel_rfl) (by kernel_rfl) (fun _ _ _ h=>h) (Or.inl ⟨by go_simp,?ay49⟩) (by assumption) ?as49
    case ay49=>(intro w hSw;(try dsimp only at hSw);go_simp;try with_reducible rfl)
    change wpAnyH _ _ _ _ _ _ _ (Act.put _ (some 128) _) _
    simp only [Act.put,List.setIfInBounds_toArray,List.set_cons_zero,List.set_cons_succ]
    refine wpAnyH_take (i:=13) (v:=?av50) rfl (by kernel_rfl) (by kernel_rfl) (by kernel_rfl) (fun _ _ _ h=>h) (Or.inl ⟨by rfl,?ay50⟩) (by assumption) ?as50
    case ay50=>(intro w hSw;(try dsimp only at hSw);go_simp;try with_reducible rfl)
    change wpAnyH _ _ _ _ _ _ _ (Act.put _ (some 129) _) _
    simp only [Act.put,List.setIfInBounds_toArray,List.set_cons_zero,List.set_cons_succ]
    refine wpAnyH_ready (rs:=[15]) (by kernel_rfl) (by simp) ?_
    refine AllReadyH.cons rfl (fun K hK=>?_) AllReadyH.nil
    go_simp
    (go_at_call 83;(refine (HI0.out _ (by assumption)).mono ?_);rintro e w50 ⟨A50,n50,c50,rfl,hr50,hq50,hst50⟩;have hs50:=HSA.out _ hst50;dsimp only)
    refine hK.out _ _ (by first | assumption | exact hs1 | exact HSA.out _ (RS2.below (by assumption) (bel1 _ _))) (fun hHeld=>?_)
    clear hK K
    refine wpAnyH_ready (rs:=[21]) (by kernel_rfl) (by simp) ?_
    refine AllReadyH.cons rfl (fun K hK=>?_) AllReadyH.nil
    go_simp
    (go_at_call 40;(with_reducible refine (HI1.out _ (by assumption)).mono ?_);rintro e w51 ⟨A51,n51,c51,rfl,hr51,hq51,hst51⟩;have hs51:=HSA.out _ hst51;dsimp only)
    refine hK.out _ _ (by first | assumption | exact hs1 | exact HSA.out _ (RS2.below (by assumption) (bel1 _ _))) (fun hHeld=>?_)
    clear hK K
    refine wpAnyH_ready (rs:=[27]) (by kernel_rfl) (by simp) ?_
    refine AllReadyH.cons rfl (fun K hK=>?_) AllReadyH.nil
    go_simp
    (go_at_call 83;(with_reducible refine (HI2.out _ (by assumption)).mono ?_);rintro e w52 ⟨A52,n52,c52,rfl,hr52,hq52,hst52⟩;have hs52:=HSA.out _ hst52;dsimp only)
    refine hK.out _ _ (by first | assumption | exact hs1 | exact HSA.out _ (RS2.below (by assumption) (bel1 _ _))) (fun hHeld=>?_)
    clear hK K
    refine wpAnyH_ready (rs:=[28]) (by kernel_rfl) (by simp) ?_
    refine AllReadyH.cons rfl (fun K hK=>?_) AllReadyH.nil
    go_simp
    refine hK.out _ _ (by first | assumption | exact hs1 | exact HSA.out _ (RS2.below (by assumption) (bel1 _ _))) (fun hHeld=>?_)
    clear hK K
    refine wpAnyH_ready (rs:=[30]) (by kernel_rfl) (by simp) ?_
    refine AllReadyH.cons rfl (fun K hK=>?_) AllReadyH.nil
    go_simp
    (go_at_call 41;(with_reducible refine (HAL.out _ _ _ _ _ _ _ _ _ _ hst52 ((hr50.lq hq51).lq hq52) (hr51.lq hq52) hr52).mono ?_);rintro e w90 ⟨A90,n90,c90,rfl,hf90,hst90⟩;have hs90:=HSA.out _ hst90;dsimp only)
    refine hK.out _ _ (by first | assumption | exact hs1 | exact HSA.out _ (RS2.below (by assumption) (bel1 _ _))) (fun hHeld=>?_)
    clear hK K
    refine wpAnyH_ready (rs:=[31]) (by kernel_rfl) (by simp) ?_
    refine AllReadyH.cons rfl (fun K hK=>?_) AllReadyH.nil
    go_simp
    refine hK.out _ _ (by first | assumption | exact hs1 | exact HSA.out _ (RS2.below (by assumption) (bel1 _ _))) (fun hHeld=>?_)
    clear hK K
    refine wpAnyH_done (by kernel_rfl) ?_ _
    refine NoPanic.normal ?_
    have HF:=Lib.hid hf90
    clear hf90
    go_wp2
    go_ret
    exact HF.out
   ·obtain rfl:pb=false:=by rw [hpb2];simp [h1,h7]
    have h1b:(uk==1)=false:=by simpa using h1
    have h7b:(uk==7)=false:=by simpa using h7
    have h1c:(uk != 1)=true:=by simpa using h1
    have h7c:(uk != 7)=true:=by simpa using h7
    clear hpb2
    go_enter Tryz.func40,Tryz.ntmps40
    obtain ⟨x0,x1,x2,x3,x4,x5⟩:=HX0.out.c6
    go_upto_region 28 with fail
    clear x0 x1 x2 x3 x4 x5 y0 y1 y2 y3 y4 y5 HX0
    have HX9:Hid (RS2 w0 q W.heap.size [.int .i64 10,.slice A1 n1 c1,.slice A2 n2 c2,.string name,.int .i32 c,.slice (some ⟨b,o,none⟩) 3 cc] W (W.heap.size+1) [.int .i64 uk,.slice B1 m1 d1,.slice B2 m2 d2,.string un,.int .i32 uc,.slice B3 m3 d3] ((W.alloc (.cells #[.int .i64 10,.slice A1 n1 c1,.slice A2 n2 c2,.string name,.int .i32 c,.slice (some ⟨b,o,none⟩) 3 cc] 29)).alloc (.cells #[.int .i64 uk,.slice B1 m1 d1,.slice B2 m2 d2,.string un,.int .i32 uc,.slice B3 m3 d3] 29))):=by have h:=HX.out;unfold Hid;simpa using h
    clear HX
    generalize (W.alloc (.cells #[.int .i64 10,.slice A1 n1 c1,.slice A2 n2 c2,.string name,.int .i32 c,.slice (some ⟨b,o,none⟩) 3 cc] 29)).alloc (.cells #[.int .i64 uk,.slice B1 m1 d1,.slice B2 m2 d2,.string un,.int .i32 uc,.slice B3 m3 d3] 29)=W0 at *
    have hd0:=HX9.out.below (Below.refl _ W0).drew
    have hs1:=HSA.out _ hd0
    refine wp_region_noPanic ?_
    refine wp_region_held_drew (S:=fun W1=>W1.cell? ⟨W.heap.size,5,none⟩=some (.slice (some ⟨b,o,none⟩) 3 cc)/\W1.cell? ⟨W.heap.size+1,0,none⟩=some (.int .i64 uk)/\W1.cell? ⟨W.heap.size+1,1,none⟩=some (.slice B1 m1 d1)/\W1.cell? ⟨W.heap.size+1,2,none⟩=some (.slice B2 m2 d2)/\W1.cell? ⟨W.heap.size+1,3,none⟩=some (.string un)/\W1.cell? ⟨W.heap.size+1,4,none⟩=some (.int .i32 uc)/\W1.cell? ⟨W.heap.size+1,5,none⟩=some (.slice B3 m3 d3)/\W1.cell? ⟨b,o,none⟩=some u0/\W1.cell? ⟨b,o+1,none⟩=some u1/\W1.cell? ⟨b,o+2,none⟩=some u2/\W1.cell? ⟨b,o+3,none⟩=some u3/\W1.cell? ⟨b,o+4,none⟩=some u4/\W1.cell? ⟨b,o+5,none⟩=some u5/\W1.cell? ⟨b,o+6,none⟩=some p0/\W1.cell? ⟨b,o+6+1,none⟩=some p1/\W1.cell? ⟨b,o+6+2,none⟩=some p2/\W1.cell? ⟨b,o+6+3,none⟩=some p3/\W1.cell? ⟨b,o+6+4,none⟩=some p4/\W1.cell? ⟨b,o+6+5,none⟩=some p5) (by kernel_rfl) (by exact hs1) (fun hHeld=>?_)
    refine wpAnyH_take (i:=0) (v:=?av51) rfl (by kernel_rfl) (by kernel_rfl) (by kernel_rfl) (fun _ _ _ h=>h) (Or.inl ⟨by rfl,?ay51⟩) (by assumption) ?as51
    case ay51=>(intro w hSw;(try dsimp only at hSw);go_simp;try with_reducible rfl)
    change wpAnyH _ _ _ _ _ _ _ (Act.put _ (some 116) _) _
    simp only [Act.put,List.setIfInBounds_toArray,List.set_cons_zero,List.set_cons_succ]
    refine wpAnyH_take (i:=1) (v:=?av52) rfl (by kernel_rfl) (by kernel_rfl) (by kernel_rfl) (fun _ _ _ h=>h) (Or.inl ⟨by rfl,?ay52⟩) (by assumption) ?as52
    case ay52=>(intro w hSw;(try dsimp only at hSw);go_simp;try with_reducible rfl)
    change wpAnyH _ _ _ _ _ _ _ (Act.put _ (some 117) _) _
    simp only [Act.put,List.setIfInBounds_toArray,List.set_cons_zero,List.set_cons_succ]
    refine wpAnyH_take (i:=14) (v:=?av53) rfl (by kernel_rfl) (by kernel_rfl) (by kernel_rfl) (fun _ _ _ h=>h) (Or.inl ⟨by rfl,?ay53⟩) (by assumption) ?as53
    case ay53=>(intro w hSw;(try dsimp only at hSw);go_simp;try with_reducible rfl)
    change wpAnyH _ _ _ _ _ _ _ (Act.put _ (some 130) _) _
    simp only [Act.put,List.setIfInBounds_toArray,List.set_cons_zero,List.set_cons_succ]
    refine wpAnyH_take (i:=16) (v:=?av54) rfl (by kernel_rfl) (by kernel_rfl) (by kernel_rfl) (fun _ _ _ h=>h) (Or.inl ⟨by rfl,?ay54⟩) (by assumption) ?as54
    case ay54=>(intro w hSw;(try dsimp only at hSw);go_simp;try with_reducible rfl)
    change wpAnyH _ _ _ _ _ _ _ (Act.put _ (some 132) _) _
    simp only [Act.put,List.setIfInBounds_toArray,List.set_cons_zero,List.set_cons_succ]
    refine wpAnyH_take (i:=17) (v:=?av55) rfl (by kernel_rfl) (by kernel_rfl) (by kernel_rfl) (fun _ _ _ h=>h) (Or.inl ⟨by rfl,?ay55⟩) (by assumption) ?as55
    case ay55=>(intro w hSw;(try dsimp only at hSw);go_simp;try with_reducible rfl)
    change wpAnyH _ _ _ _ _ _ _ (Act.put _ (some 133) _) _
    simp only [Act.put,List.setIfInBounds_toArray,List.set_cons_zero,List.set_cons_succ]
    refine wpAnyH_take (i:=18) (v:=?av56) rfl (by kernel_rfl) (by kernel_rfl) (by kernel_rfl) (fun _ _ _ h=>h) (Or.inl ⟨by rfl,?ay56⟩) (by assumption) ?as56
    case ay56=>(intro w hSw;(try dsimp only at hSw);go_simp;try with_reducible rfl)
    change wpAnyH _ _ _ _ _ _ _ (Act.put _ (some 134) _) _
    simp only [Act.put,List.setIfInBounds_toArray,List.set_cons_zero,List.set_cons_succ]
    refine wpAnyH_take (i:=19) (v:=?av57) rfl (by kernel_rfl) (by kernel_rfl) (by kernel_rfl) (fun _ _ _ h=>h) (Or.inl ⟨by rfl,?ay57⟩) (by assumption) ?as57
    case ay57=>(intro w hSw;(try dsimp only at hSw);go_simp;try with_reducible rfl)
    change wpAnyH _ _ _ _ _ _ _ (Act.put _ (some 135) _) _
    simp only [Act.put,List.setIfInBounds_toArray,List.set_cons_zero,List.set_cons_succ]
    refine wpAnyH_take (i:=20) (v:=?av58) rfl (by kernel_rfl) (by kernel_rfl) (by kernel_rfl) (fun _ _ _ h=>h) (Or.inl ⟨by rfl,?ay58⟩) (by assumption) ?as58
    case ay58=>(intro w hSw;(try dsimp only at hSw);go_simp;try with_reducible rfl)
    change wpAnyH _ _ _ _ _ _ _ (Act.put _ (some 136) _) _
    simp only [Act.put,List.setIfInBounds_toArray,List.set_cons_zero,List.set_cons_succ]
    refine wpAnyH_take (i:=22) (v:=?av59) rfl (by kernel_rfl) (by kernel_rfl) (by kernel_rfl) (fun _ _ _ h=>h) (Or.inl ⟨by rfl,?ay59⟩) (by assumption) ?as59
    case ay59=>(intro w hSw;(try dsimp only at hSw);go_simp;try with_reducible rfl)
    change wpAnyH _ _ _ _ _ _ _ (Act.put _ (some 138) _) _
    simp only [Act.put,List.setIfInBounds_toArray,List.set_cons_zero,List.set_cons_succ]
    refine wpAnyH_take (i:=23) (v:=?av60) rfl (by kernel_rfl) (by kernel_rfl) (by kernel_rfl) (fun _ _ _ h=>h) (Or.inl ⟨by rfl,?ay60⟩) (by assumption) ?as60
    case ay60=>(intro w hSw;(try dsimp only at hSw);go_simp;try with_reducible rfl)
    change wpAnyH _ _ _ _ _ _ _ (Act.put _ (some 139) _) _
    simp only [Act.put,List.setIfInBounds_toArray,List.set_cons_zero,List.set_cons_succ]
    refine wpAnyH_take (i:=24) (v:=?av61) rfl (by kernel_rfl) (by kernel_rfl) (by kernel_rfl) (fun _ _ _ h=>h) (Or.inl ⟨by rfl,?ay61⟩) (by assumption) ?as61
    case ay61=>(intro w hSw;(try dsimp only at hSw);go_simp;try with_reducible rfl)
    change wpAnyH _ _ _ _ _ _ _ (Act.put _ (some 140) _) _
    simp only [Act.put,List.setIfInBounds_toArray,List.set_cons_zero,List.set_cons_succ]
    refine wpAnyH_take (i:=25) (v:=?av62) rfl (by kernel_rfl) (by kernel_rfl) (by kernel_rfl) (fun _ _ _ h=>h) (Or.inl ⟨by rfl,?ay62⟩) (by assumption) ?as62
    case ay62=>(intro w hSw;(try dsimp only at hSw);go_simp;try with_reducible rfl)
    change wpAnyH _ _ _ _ _ _ _ (Act.put _ (some 141) _) _
    simp only [Act.put,List.setIfInBounds_toArray,List.set_cons_zero,List.set_cons_succ]
    refine wpAnyH_take (i:=26) (v:=?av63) rfl (by kernel_rfl) (by kernel_rfl) (by kernel_rfl) (fun _ _ _ h=>h) (Or.inl ⟨by rfl,?ay63⟩) (by assumption) ?as63
    case ay63=>(intro w hSw;(try dsimp only at hSw);go_simp;try with_reducible rfl)
    change wpAnyH _ _ _ _ _ _ _ (Act.put _ (some 142) _) _
    simp only [Act.put,List.setIfInBounds_toArray,List.set_cons_zero,List.set_cons_succ]
    refine wpAnyH_take (i:=29) (v:=?av64) rfl (by kernel_rfl) (by kernel_rfl) (by kernel_rfl) (fun _ _ _ h=>h) (Or.inl ⟨by rfl,?ay64⟩) (by assumption) ?as64
    case ay64=>(intro w hSw;(try dsimp only at hSw);go_simp;try with_reducible rfl)
    change wpAnyH _ _ _ _ _ _ _ (Act.put _ (some 145) _) _
    simp only [Act.put,List.setIfInBounds_toArray,List.set_cons_zero,List.set_cons_succ]
    refine wpAnyH_ready (rs:=[2]) (by kernel_rfl) (by simp) ?_
    refine AllReadyH.cons rfl (fun K hK=>?_) AllReadyH.nil
    go_simp
    (go_at_call 84;(with_reducible refine (HPD.out _ hd0).mono ?_);rintro e w49 ⟨rfl,hb49⟩;have hst49:=hd0.below hb49;have hs49:=HSA.out _ hst49;dsimp only)
    refine hK.out _ _ (by first | assumption | exact hs1 | exact HSA.out _ (RS2.below (by assumption) (bel1 _ _))) (fun hHeld=>?_)
    clear hK K
    refine wpAnyH_take (i:=3) (v:=?av65) rfl (by kernel_rfl) (by kernel_rfl) (by kernel_rfl) (fun _ _ _ h=>h) (Or.inl ⟨by rfl,?ay65⟩) (by assumption) ?as65
    case ay65=>(intro w hSw;(try dsimp only at hSw);go_simp;try with_reducible rfl)
    change wpAnyH _ _ _ _ _ _ _ (Act.put _ (some 119) _) _
    simp only [Act.put,List.setIfInBounds_toArray,List.set_cons_zero,List.set_cons_succ]
    refine wpAnyH_take (i:=4) (v:=?av66) rfl (by kernel_rfl) (by kernel_rfl) (by kernel_rfl) (fun _ _ _ h=>h) (Or.inl ⟨by rfl,?ay66⟩) (by assumption) ?as66
    case ay66=>(intro w hSw;(try dsimp only at hSw);go_simp;try with_reducible rfl)
    change wpAnyH _ _ _ _ _ _ _ (Act.put _ (some 120) _) _
    simp only [Act.put,List.setIfInBounds_toArray,List.set_cons_zero,List.set_cons_succ]
    refine wpAnyH_take (i:=5) (v:=?av67) rfl (by kernel_rfl) (by kernel_rfl) (by kernel_rfl) (fun _ _ _ h=>h) (Or.inl ⟨by go_simp,?ay67⟩) (by assumption) ?as67
    case ay67=>(intro w hSw;(try dsimp only at hSw);go_simp;try with_reducible rfl)
    change wpAnyH _ _ _ _ _ _ _ (Act.put _ (some 121) _) _
    simp only [Act.put,List.setIfInBounds_toArray,List.set_cons_zero,List.set_cons_succ]
    refine wpAnyH_take (i:=6) (v:=?av68) rfl (by kernel_rfl) (by kernel_rfl) (by kernel_rfl) (fun _ _ _ h=>h) (Or.inl ⟨by go_simp,?ay68⟩) (by assumption) ?as68
    case ay68=>(intro w hSw;(try dsimp only at hSw);go_simp;try with_reducible rfl)
    change wpAnyH _ _ _ _ _ _ _ (Act.put _ (some 122) _) _
    simp only [Act.put,List.setIfInBounds_toArray,List.set_cons_zero,List.set_cons_succ]
    refine wpAnyH_take (i:=7) (v:=?av69) rfl (by kernel_rfl) (by kernel_rfl) (by kernel_rfl) (fun _ _ _ h=>h) (Or.inl ⟨by go_simp,?ay69⟩) (by assumption) ?as69
    case ay69=>(intro w hSw;(try dsimp only at hSw);go_simp;try with_reducible rfl)
    change wpAnyH _ _ _ _ _ _ _ (Act.put _ (some 123) _) _
    simp only [Act.put,List.setIfInBounds_toArray,List.set_cons_zero,List.set_cons_succ]
    refine wpAnyH_take (i:=8) (v:=?av70) rfl (by kernel_rfl) (by kernel_rfl) (by kernel_rfl) (fun _ _ _ h=>h) (Or.inl ⟨by rfl,?ay70⟩) (by assumption) ?as70
    case ay70=>(intro w hSw;(try dsimp only at hSw);go_simp;try with_reducible rfl)
    change wpAnyH _ _ _ _ _ _ _ (Act.put _ (some 124) _) _
    simp only [Act.put,List.setIfInBounds_toArray,List.set_cons_zero,List.set_cons_succ]
    refine wpAnyH_take (i:=9) (v:=?av71) rfl (by kernel_rfl) (by kernel_rfl) (by kernel_rfl) (fun _ _ _ h=>h) (Or.inl ⟨by rfl,?ay71⟩) (by assumption) ?as71
    case ay71=>(intro w hSw;(try dsimp only at hSw);go_simp;try with_reducible rfl)
    change wpAnyH _ _ _ _ _ _ _ (Act.put _ (some 125) _) _
    simp only [Act.put,List.setIfInBounds_toArray,List.set_cons_zero,List.set_cons_succ]
    refine wpAnyH_take (i:=10) (v:=?av72) rfl (by kernel_rfl) (by kernel_rfl) (by kernel_rfl) (fun _ _ _ h=>h) (Or.inl ⟨by go_simp,?ay72⟩) (by assumption) ?as72
    case ay72=>(intro w hSw;(try dsimp only at hSw);go_simp;try with_reducible rfl)
    change wpAnyH _ _ _ _ _ _ _ (Act.put _ (some 126) _) _
    simp only [Act.put,List.setIfInBounds_toArray,List.set_cons_zero,List.set_cons_succ]
    refine wpAnyH_take (i:=11) (v:=?av73) rfl (by kernel_rfl) (by kernel_rfl) (by kernel_rfl) (fun _ _ _ h=>h) (Or.inl ⟨by go_simp,?ay73⟩) (by assumption) ?as73
    case ay73=>(intro w hSw;(try dsimp only at hSw);go_simp;try with_reducible rfl)
    change wpAnyH _ _ _ _ _ _ _ (Act.put _ (some 127) _) _
    simp only [Act.put,List.setIfInBounds_toArray,List.set_cons_zero,List.set_cons_succ]
    refine wpAnyH_take (i:=12) (v:=?av74) rfl (by kernel_rfl) (by kernel_rfl) (by kernel_rfl) (fun _ _ _ h=>h) (Or.inl ⟨by go_simp,?ay74⟩) (by assumption) ?as74
    case ay74=>(intro w hSw;(try dsimp only at hSw);go_simp;try with_reducible rfl)
    change wpAnyH _ _ _ _ _ _ _ (Act.put _ (some 128) _) _
    simp only [Act.put,List.setIfInBounds_toArray,List.set_cons_zero,List.set_cons_succ]
    refine wpAnyH_take (i:=13) (v:=?av75) rfl (by kernel_rfl) (by kernel_rfl) (by kernel_rfl) (fun _ _ _ h=>h) (Or.inl ⟨by rfl,?ay75⟩) (by assumption) ?as75
    case ay75=>(intro w hSw;(try dsimp only at hSw);go_simp;try with_reducible rfl)
    change wpAnyH _ _ _ _ _ _ _ (Act.put _ (some 129) _) _
    simp only [Act.put,List.setIfInBounds_toArray,List.set_cons_zero,List.set_cons_succ]
    refine wpAnyH_ready (rs:=[15]) (by kernel_rfl) (by simp) ?_
    refine AllReadyH.cons rfl (fun K hK=>?_) AllReadyH.nil
    go_simp
    (go_at_call 83;(refine (HI0.out _ (by assumption)).mono ?_);rintro e w50 ⟨A50,n50,c50,rfl,hr50,hq50,hst50⟩;have hs50:=HSA.out _ hst50;dsimp only)
    refine hK.out _ _ (by first | assumption | exact hs1 | exact HSA.out _ (RS2.below (by assumption) (bel1 _ _))) (fun hHeld=>?_)
    clear hK K
    refine wpAnyH_ready (rs:=[21]) (by kernel_rfl) (by simp) ?_
    refine AllReadyH.cons rfl (fun K hK=>?_) AllReadyH.nil
    go_simp
    (go_at_call 40;(with_reducible refine (HI1.out _ (by assumption)).mono ?_);rintro e w51 ⟨A51,n51,c51,rfl,hr51,hq51,hst51⟩;have hs51:=HSA.out _ hst51;dsimp only)
    refine hK.out _ _ (by first | assumption | exact hs1 | exact HSA.out _ (RS2.below (by assumption) (bel1 _ _))) (fun hHeld=>?_)
    clear hK K
    refine wpAnyH_ready (rs:=[27]) (by kernel_rfl) (by simp) ?_
    refine AllReadyH.cons rfl (fun K hK=>?_) AllReadyH.nil
    go_simp
    (go_at_call 83;(with_reducible refine (HI2.out _ (by assumption)).mono ?_);rintro e w52 ⟨A52,n52,c52,rfl,hr52,hq52,hst52⟩;have hs52:=HSA.out _ hst52;dsimp only)
    refine hK.out _ _ (by first | assumption | exact hs1 | exact HSA.out _ (RS2.below (by assumption) (bel1 _ _))) (fun hHeld=>?_)
    clear hK K
    refine wpAnyH_ready (rs:=[28]) (by kernel_rfl) (by simp) ?_
    refine AllReadyH.cons rfl (fun K hK=>?_) AllReadyH.nil
    go_simp
    refine hK.out _ _ (by first | assumption | exact hs1 | exact HSA.out _ (RS2.below (by assumption) (bel1 _ _))) (fun hHeld=>?_)
    clear hK K
    refine wpAnyH_ready (rs:=[30]) (by kernel_rfl) (by simp) ?_
    refine AllReadyH.cons rfl (fun K hK=>?_) AllReadyH.nil
    go_simp
    (go_at_call 41;(with_reducible refine (HAL.out _ _ _ _ _ _ _ _ _ _ hst52 ((hr50.lq hq51).lq hq52) (hr51.lq hq52) hr52).mono ?_);rintro e w90 ⟨A90,n90,c90,rfl,hf90,hst90⟩;have hs90:=HSA.out _ hst90;dsimp only)
    refine hK.out _ _ (by first | assumption | exact hs1 | exact HSA.out _ (RS2.below (by assumption) (bel1 _ _))) (fun hHeld=>?_)
    clear hK K
    refine wpAnyH_ready (rs:=[31]) (by kernel_rfl) (by simp) ?_
    refine AllReadyH.cons rfl (fun K hK=>?_) AllReadyH.nil
    go_simp
    refine hK.out _ _ (by first | assumption | exact hs1 | exact HSA.out _ (RS2.below (by assumption) (bel1 _ _))) (fun hHeld=>?_)
    clear hK K
    refine wpAnyH_done (by kernel_rfl) ?_ _
    refine NoPanic.normal ?_
    have HF:=Lib.hid hf90
    clear hf90
    go_wp2
    go_ret
    exact HF.out
 ·obtain rfl:pb=true:=by rw [hpb2];rfl
  clear hpb2
  go_enter Tryz.func40,Tryz.ntmps40
  obtain ⟨x0,x1,x2,x3,x4,x5⟩:=HX0.out.c6
  go_upto_region 28 with fail
  clear x0 x1 x2 x3 x4 x5 y0 y1 y2 y3 y4 y5 HX0
  have HX9:Hid (RS2 w0 q W.heap.size [.int .i64 10,.slice A1 n1 c1,.slice A2 n2 c2,.string name,.int .i32 c,.slice (some ⟨b,o,none⟩) 3 cc] W (W.heap.size+1) [.int .i64 uk,.slice B1 m1 d1,.slice B2 m2 d2,.string un,.int .i32 uc,.slice B3 m3 d3] ((W.alloc (.cells #[.int .i64 10,.slice A1 n1 c1,.slice A2 n2 c2,.string name,.int .i32 c,.slice (some ⟨b,o,none⟩) 3 cc] 29)).alloc (.cells #[.int .i64 uk,.slice B1 m1 d1,.slice B2 m2 d2,.string un,.int .i32 uc,.slice B3 m3 d3] 29))):=by have h:=HX.out;unfold Hid;simpa using h
  clear HX
  generalize (W.alloc (.cells #[.int .i64 10,.slice A1 n1 c1,.slice A2 n2 c2,.string name,.int .i32 c,.slice (some ⟨b,o,none⟩) 3 cc] 29)).alloc (.cells #[.int .i64 uk,.slice B1 m1 d1,.slice B2 m2 d2,.string un,.int .i32 uc,.slice B3 m3 d3] 29)=W0 at *
  have hd0:=HX9.out.below (Below.refl _ W0).drew
  have hs1:=HSA.out _ hd0
  refine wp_region_noPanic ?_
  refine wp_region_held_drew (S:=fun W1=>W1.cell? ⟨W.heap.size,5,none⟩=some (.slice (some ⟨b,o,none⟩) 3 cc)/\W1.cell? ⟨W.heap.size+1,0,none⟩=some (.int .i64 uk)/\W1.cell? ⟨W.heap.size+1,1,none⟩=some (.slice B1 m1 d1)/\W1.cell? ⟨W.heap.size+1,2,none⟩=some (.slice B2 m2 d2)/\W1.cell? ⟨W.heap.size+1,3,none⟩=some (.string un)/\W1.cell? ⟨W.heap.size+1,4,none⟩=some (.int .i32 uc)/\W1.cell? ⟨W.heap.size+1,5,none⟩=some (.slice B3 m3 d3)/\W1.cell? ⟨b,o,none⟩=some u0/\W1.cell? ⟨b,o+1,none⟩=some u1/\W1.cell? ⟨b,o+2,none⟩=some u2/\W1.cell? ⟨b,o+3,none⟩=some u3/\W1.cell? ⟨b,o+4,none⟩=some u4/\W1.cell? ⟨b,o+5,none⟩=some u5/\W1.cell? ⟨b,o+6,none⟩=some p0/\W1.cell? ⟨b,o+6+1,none⟩=some p1/\W1.cell? ⟨b,o+6+2,none⟩=some p2/\W1.cell? ⟨b,o+6+3,none⟩=some p3/\W1.cell? ⟨b,o+6+4,none⟩=some p4/\W1.cell? ⟨b,o+6+5,none⟩=some p5) (by kernel_rfl) (by exact hs1) (fun hHeld=>?_)
  refine wpAnyH_take (i:=0) (v:=?av76) rfl (by kernel_rfl) (by kernel_rfl) (by kernel_rfl) (fun _ _ _ h=>h) (Or.inl ⟨by rfl,?ay76⟩) (by assumption) ?as76
  case ay76=>(intro w hSw;(try dsimp only at hSw);go_simp;try with_reducible rfl)
  change wpAnyH _ _ _ _ _ _ _ (Act.put _ (some 116) _) _
  simp only [Act.put,List.setIfInBounds_toArray,List.set_cons_zero,List.set_cons_succ]
  refine wpAnyH_take (i:=1) (v:=?av77) rfl (by kernel_rfl) (by kernel_rfl) (by kernel_rfl) (fun _ _ _ h=>h) (Or.inl ⟨by rfl,?ay77⟩) (by assumption) ?as77
  case ay77=>(intro w hSw;(try dsimp only at hSw);go_simp;try with_reducible rfl)
  change wpAnyH _ _ _ _ _ _ _ (Act.put _ (some 117) _) _
  simp only [Act.put,List.setIfInBounds_toArray,List.set_cons_zero,List.set_cons_succ]
  refine wpAnyH_take (i:=14) (v:=?av78) rfl (by kernel_rfl) (by kernel_rfl) (by kernel_rfl) (fun _ _ _ h=>h) (Or.inl ⟨by rfl,?ay78⟩) (by assumption) ?as78
  case ay78=>(intro w hSw;(try dsimp only at hSw);go_simp;try with_reducible rfl)
  change wpAnyH _ _ _ _ _ _ _ (Act.put _ (some 130) _) _
  simp only [Act.put,List.setIfInBounds_toArray,List.set_cons_zero,List.set_cons_succ]
  refine wpAnyH_take (i:=16) (v:=?av79) rfl (by kernel_rfl) (by kernel_rfl) (by kernel_rfl) (fun _ _ _ h=>h) (Or.inl ⟨by rfl,?ay79⟩) (by assumption) ?as79
  case ay79=>(intro w hSw;(try dsimp only at hSw);go_simp;try with_reducible rfl)
  change wpAnyH _ _ _ _ _ _ _ (Act.put _ (some 132) _) _
  simp only [Act.put,List.setIfInBounds_toArray,List.set_cons_zero,List.set_cons_succ]
  refine wpAnyH_take (i:=17) (v:=?av80) rfl (by kernel_rfl) (by kernel_rfl) (by kernel_rfl) (fun _ _ _ h=>h) (Or.inl ⟨by rfl,?ay80⟩) (by assumption) ?as80
  case ay80=>(intro w hSw;(try dsimp only at hSw);go_simp;try with_reducible rfl)
  change wpAnyH _ _ _ _ _ _ _ (Act.put _ (some 133) _) _
  simp only [Act.put,List.setIfInBounds_toArray,List.set_cons_zero,List.set_cons_succ]
  refine wpAnyH_take (i:=18) (v:=?av81) rfl (by kernel_rfl) (by kernel_rfl) (by kernel_rfl) (fun _ _ _ h=>h) (Or.inl ⟨by rfl,?ay81⟩) (by assumption) ?as81
  case ay81=>(intro w hSw;(try dsimp only at hSw);go_simp;try with_reducible rfl)
  change wpAnyH _ _ _ _ _ _ _ (Act.put _ (some 134) _) _
  simp only [Act.put,List.setIfInBounds_toArray,List.set_cons_zero,List.set_cons_succ]
  refine wpAnyH_take (i:=19) (v:=?av82) rfl (by kernel_rfl) (by kernel_rfl) (by kernel_rfl) (fun _ _ _ h=>h) (Or.inl ⟨by rfl,?ay82⟩) (by assumption) ?as82
  case ay82=>(intro w hSw;(try dsimp only at hSw);go_simp;try with_reducible rfl)
  change wpAnyH _ _ _ _ _ _ _ (Act.put _ (some 135) _) _
  simp only [Act.put,List.setIfInBounds_toArray,List.set_cons_zero,List.set_cons_succ]
  refine wpAnyH_take (i:=20) (v:=?av83) rfl (by kernel_rfl) (by kernel_rfl) (by kernel_rfl) (fun _ _ _ h=>h) (Or.inl ⟨by rfl,?ay83⟩) (by assumption) ?as83
  case ay83=>(intro w hSw;(try dsimp only at hSw);go_simp;try with_reducible rfl)
  change wpAnyH _ _ _ _ _ _ _ (Act.put _ (some 136) _) _
  simp only [Act.put,List.setIfInBounds_toArray,List.set_cons_zero,List.set_cons_succ]
  refine wpAnyH_take (i:=22) (v:=?av84) rfl (by kernel_rfl) (by kernel_rfl) (by kernel_rfl) (fun _ _ _ h=>h) (Or.inl ⟨by rfl,?ay84⟩) (by assumption) ?as84
  case ay84=>(intro w hSw;(try dsimp only at hSw);go_simp;try with_reducible rfl)
  change wpAnyH _ _ _ _ _ _ _ (Act.put _ (some 138) _) _
  simp only [Act.put,List.setIfInBounds_toArray,List.set_cons_zero,List.set_cons_succ]
  refine wpAnyH_take (i:=23) (v:=?av85) rfl (by kernel_rfl) (by kernel_rfl) (by kernel_rfl) (fun _ _ _ h=>h) (Or.inl ⟨by rfl,?ay85⟩) (by assumption) ?as85
  case ay85=>(intro w hSw;(try dsimp only at hSw);go_simp;try with_reducible rfl)
  change wpAnyH _ _ _ _ _ _ _ (Act.put _ (some 139) _) _
  simp only [Act.put,List.setIfInBounds_toArray,List.set_cons_zero,List.set_cons_succ]
  refine wpAnyH_take (i:=24) (v:=?av86) rfl (by kernel_rfl) (by kernel_rfl) (by kernel_rfl) (fun _ _ _ h=>h) (Or.inl ⟨by rfl,?ay86⟩) (by assumption) ?as86
  case ay86=>(intro w hSw;(try dsimp only at hSw);go_simp;try with_reducible rfl)
  change wpAnyH _ _ _ _ _ _ _ (Act.put _ (some 140) _) _
  simp only [Act.put,List.setIfInBounds_toArray,List.set_cons_zero,List.set_cons_succ]
  refine wpAnyH_take (i:=25) (v:=?av87) rfl (by kernel_rfl) (by kernel_rfl) (by kernel_rfl) (fun _ _ _ h=>h) (Or.inl ⟨by rfl,?ay87⟩) (by assumption) ?as87
  case ay87=>(intro w hSw;(try dsimp only at hSw);go_simp;try with_reducible rfl)
  change wpAnyH _ _ _ _ _ _ _ (Act.put _ (some 141) _) _
  simp only [Act.put,List.setIfInBounds_toArray,List.set_cons_zero,List.set_cons_succ]
  refine wpAnyH_take (i:=26) (v:=?av88) rfl (by kernel_rfl) (by kernel_rfl) (by kernel_rfl) (fun _ _ _ h=>h) (Or.inl ⟨by rfl,?ay88⟩) (by assumption) ?as88
  case ay88=>(intro w hSw;(try dsimp only at hSw);go_simp;try with_reducible rfl)
  change wpAnyH _ _ _ _ _ _ _ (Act.put _ (some 142) _) _
  simp only [Act.put,List.setIfInBounds_toArray,List.set_cons_zero,List.set_cons_succ]
  refine wpAnyH_take (i:=29) (v:=?av89) rfl (by kernel_rfl) (by kernel_rfl) (by kernel_rfl) (fun _ _ _ h=>h) (Or.inl ⟨by rfl,?ay89⟩) (by assumption) ?as89
  case ay89=>(intro w hSw;(try dsimp only at hSw);go_simp;try with_reducible rfl)
  change wpAnyH _ _ _ _ _ _ _ (Act.put _ (some 145) _) _
  simp only [Act.put,List.setIfInBounds_toArray,List.set_cons_zero,List.set_cons_succ]
  refine wpAnyH_ready (rs:=[2]) (by kernel_rfl) (by simp) ?_
  refine AllReadyH.cons rfl (fun K hK=>?_) AllReadyH.nil
  go_simp
  (go_at_call 84;(with_reducible refine (HPD.out _ hd0).mono ?_);rintro e w49 ⟨rfl,hb49⟩;have hst49:=hd0.below hb49;have hs49:=HSA.out _ hst49;dsimp only)
  refine hK.out _ _ (by first | assumption | exact hs1 | exact HSA.out _ (RS2.below (by assumption) (bel1 _ _))) (fun hHeld=>?_)
  clear hK K
  refine wpAnyH_take (i:=3) (v:=?av90) rfl (by kernel_rfl) (by kernel_rfl) (by kernel_rfl) (fun _ _ _ h=>h) (Or.inl ⟨by rfl,?ay90⟩) (by assumption) ?as90
  case ay90=>(intro w hSw;(try dsimp only at hSw);go_simp;try with_reducible rfl)
  change wpAnyH _ _ _ _ _ _ _ (Act.put _ (some 119) _) _
  simp only [Act.put,List.setIfInBounds_toArray,List.set_cons_zero,List.set_cons_succ]
  refine wpAnyH_take (i:=4) (v:=?av91) rfl (by kernel_rfl) (by kernel_rfl) (by kernel_rfl) (fun _ _ _ h=>h) (Or.inl ⟨by rfl,?ay91⟩) (by assumption) ?as91
  case ay91=>(intro w hSw;(try dsimp only at hSw);go_simp;try with_reducible rfl)
  change wpAnyH _ _ _ _ _ _ _ (Act.put _ (some 120) _) _
  simp only [Act.put,List.setIfInBounds_toArray,List.set_cons_zero,List.set_cons_succ]
  refine wpAnyH_take (i:=5) (v:=undef) rfl (by kernel_rfl) (by kernel_rfl) (by kernel_rfl) (fun _ _ _ h=>h) (Or.inr ⟨by (go_simp <;> (intro h;cases h)),rfl⟩) (by assumption) ?_
  change wpAnyH _ _ _ _ _ _ _ (Act.put _ (some 121) _) _
  simp only [Act.put,List.setIfInBounds_toArray,List.set_cons_zero,List.set_cons_succ]
  refine wpAnyH_take (i:=6) (v:=undef) rfl (by kernel_rfl) (by kernel_rfl) (by kernel_rfl) (fun _ _ _ h=>h) (Or.inr ⟨by (go_simp <;> (intro h;cases h)),rfl⟩) (by assumption) ?_
  change wpAnyH _ _ _ _ _ _ _ (Act.put _ (some 122) _) _
  simp only [Act.put,List.setIfInBounds_toArray,List.set_cons_zero,List.set_cons_succ]
  refine wpAnyH_take (i:=7) (v:=undef) rfl (by kernel_rfl) (by kernel_rfl) (by kernel_rfl) (fun _ _ _ h=>h) (Or.inr ⟨by (go_simp <;> (intro h;cases h)),rfl⟩) (by assumption) ?_
  change wpAnyH _ _ _ _ _ _ _ (Act.put _ (some 123) _) _
  simp only [Act.put,List.setIfInBounds_toArray,List.set_cons_zero,List.set_cons_succ]
  refine wpAnyH_take (i:=8) (v:=?av95) rfl (by kernel_rfl) (by kernel_rfl) (by kernel_rfl) (fun _ _ _ h=>h) (Or.inl ⟨by rfl,?ay95⟩) (by assumption) ?as95
  case ay95=>(intro w hSw;(try dsimp only at hSw);go_simp;try with_reducible rfl)
  change wpAnyH _ _ _ _ _ _ _ (Act.put _ (some 124) _) _
  simp only [Act.put,List.setIfInBounds_toArray,List.set_cons_zero,List.set_cons_succ]
  refine wpAnyH_take (i:=9) (v:=?av96) rfl (by kernel_rfl) (by kernel_rfl) (by kernel_rfl) (fun _ _ _ h=>h) (Or.inl ⟨by rfl,?ay96⟩) (by assumption) ?as96
  case ay96=>(intro w hSw;(try dsimp only at hSw);go_simp;try with_reducible rfl)
  change wpAnyH _ _ _ _ _ _ _ (Act.put _ (some 125) _) _
  simp only [Act.put,List.setIfInBounds_toArray,List.set_cons_zero,List.set_cons_succ]
  refine wpAnyH_take (i:=10) (v:=undef) rfl (by kernel_rfl) (by kernel_rfl) (by kernel_rfl) (fun _ _ _ h=>h) (Or.inr ⟨by (go_simp <;> (intro h;cases h)),rfl⟩) (by assumption) ?_
  change wpAnyH _ _ _ _ _ _ _ (Act.put _ (some 126) _) _
  simp only [Act.put,List.setIfInBounds_toArray,List.set_cons_zero,List.set_cons_succ]
  refine wpAnyH_take (i:=11) (v:=undef) rfl (by kernel_rfl) (by kernel_rfl) (by kernel_rfl) (fun _ _ _ h=>h) (Or.inr ⟨by (go_simp <;> (intro h;cases h)),rfl⟩) (by assumption) ?_
  change wpAnyH _ _ _ _ _ _ _ (Act.put _ (some 127) _) _
  simp only [Act.put,List.setIfInBounds_toArray,List.set_cons_zero,List.set_cons_succ]
  refine wpAnyH_take (i:=12) (v:=undef) rfl (by kernel_rfl) (by kernel_rfl) (by kernel_rfl) (fun _ _ _ h=>h) (Or.inr ⟨by (go_simp <;> (intro h;cases h)),rfl⟩) (by assumption) ?_
  change wpAnyH _ _ _ _ _ _ _ (Act.put _ (some 128) _) _
  simp only [Act.put,List.setIfInBounds_toArray,List.set_cons_zero,List.set_cons_succ]
  refine wpAnyH_take (i:=13) (v:=?av100) rfl (by kernel_rfl) (by kernel_rfl) (by kernel_rfl) (fun _ _ _ h=>h) (Or.inl ⟨by rfl,?ay100⟩) (by assumption) ?as100
  case ay100=>(intro w hSw;(try dsimp only at hSw);go_simp;try with_reducible rfl)
  change wpAnyH _ _ _ _ _ _ _ (Act.put _ (some 129) _) _
  simp only [Act.put,List.setIfInBounds_toArray,List.set_cons_zero,List.set_cons_succ]
  refine wpAnyH_ready (rs:=[15]) (by kernel_rfl) (by simp) ?_
  refine AllReadyH.cons rfl (fun K hK=>?_) AllReadyH.nil
  go_simp
  (go_at_call 83;(refine (HI0.out _ (by assumption)).mono ?_);rintro e w50 ⟨A50,n50,c50,rfl,hr50,hq50,hst50⟩;have hs50:=HSA.out _ hst50;dsimp only)
  refine hK.out _ _ (by first | assumption | exact hs1 | exact HSA.out _ (RS2.below (by assumption) (bel1 _ _))) (fun hHeld=>?_)
  clear hK K
  refine wpAnyH_ready (rs:=[21]) (by kernel_rfl) (by simp) ?_
  refine AllReadyH.cons rfl (fun K hK=>?_) AllReadyH.nil
  go_simp
  (go_at_call 40;(with_reducible refine (HI1.out _ (by assumption)).mono ?_);rintro e w51 ⟨A51,n51,c51,rfl,hr51,hq51,hst51⟩;have hs51:=HSA.out _ hst51;dsimp only)
  refine hK.out _ _ (by first | assumption | exact hs1 | exact HSA.out _ (RS2.below (by assumption) (bel1 _ _))) (fun hHeld=>?_)
  clear hK K
  refine wpAnyH_ready (rs:=[27]) (by kernel_rfl) (by simp) ?_
  refine AllReadyH.cons rfl (fun K hK=>?_) AllReadyH.nil
  go_simp
  (go_at_call 83;(with_reducible refine (HI2.out _ (by assumption)).mono ?_);rintro e w52 ⟨A52,n52,c52,rfl,hr52,hq52,hst52⟩;have hs52:=HSA.out _ hst52;dsimp only)
  refine hK.out _ _ (by first | assumption | exact hs1 | exact HSA.out _ (RS2.below (by assumption) (bel1 _ _))) (fun hHeld=>?_)
  clear hK K
  refine wpAnyH_ready (rs:=[28]) (by kernel_rfl) (by simp) ?_
  refine AllReadyH.cons rfl (fun K hK=>?_) AllReadyH.nil
  go_simp
  refine hK.out _ _ (by first | assumption | exact hs1 | exact HSA.out _ (RS2.below (by assumption) (bel1 _ _))) (fun hHeld=>?_)
  clear hK K
  refine wpAnyH_ready (rs:=[30]) (by kernel_rfl) (by simp) ?_
  refine AllReadyH.cons rfl (fun K hK=>?_) AllReadyH.nil
  go_simp
  (go_at_call 41;(with_reducible refine (HAL.out _ _ _ _ _ _ _ _ _ _ hst52 ((hr50.lq hq51).lq hq52) (hr51.lq hq52) hr52).mono ?_);rintro e w90 ⟨A90,n90,c90,rfl,hf90,hst90⟩;have hs90:=HSA.out _ hst90;dsimp only)
  refine hK.out _ _ (by first | assumption | exact hs1 | exact HSA.out _ (RS2.below (by assumption) (bel1 _ _))) (fun hHeld=>?_)
  clear hK K
  refine wpAnyH_ready (rs:=[31]) (by kernel_rfl) (by simp) ?_
  refine AllReadyH.cons rfl (fun K hK=>?_) AllReadyH.nil
  go_simp
  refine hK.out _ _ (by first | assumption | exact hs1 | exact HSA.out _ (RS2.below (by assumption) (bel1 _ _))) (fun hHeld=>?_)
  clear hK K
  refine wpAnyH_done (by kernel_rfl) ?_ _
  refine NoPanic.normal ?_
  have HF:=Lib.hid hf90
  clear hf90
  go_wp2
  go_ret
  exact HF.out
end Go.Proofs.YtbakjaliponbbaaGreatDoor
