/- The reference's rest at dots and outer products. Printed by .. Conditions: as each theorem says. -/
import Derived.Test.YtbakjaliponbbaaGreatDoorMg25
set_option maxRecDepth 100000
set_option maxHeartbeats 1600000
namespace Go.Proofs.YtbakjaliponbbaaGreatDoor
open Go Go.RowKit Go.Proofs Fl
structure RS2 (w0:World) (q b1:Nat) (vs:List Value) (wa:World) (b2:Nat) (us:List Value) (W:World):Prop where
 st:RSt w0 q b1 vs wa W
 ne2:b2≠q
 lt2:b2 < W.heap.size
 box2:∀ i,W.cell? ⟨b2,i,none⟩=us[i]?
theorem RS2.step {w0 wa W W':World}{q b1 b2:Nat}{vs us:List Value} (h:RS2 w0 q b1 vs wa b2 us W) (hq:w0.heap.size<=q) (k:Lq q W W') (hl:LoA W' q):RS2 w0 q b1 vs wa b2 us W' :=
 ⟨h.st.step hq k hl,h.ne2,by have:=h.lt2;have:=k.size;omega,fun i=>by rw [World.cell?_of_block (w:=W) (k.block b2 h.lt2 h.ne2)];exact h.box2 i⟩
theorem RS2.below {w0 wa W W':World}{q b1 b2:Nat}{vs us:List Value} (h:RS2 w0 q b1 vs wa b2 us W) (hb:Below W.heap.size W W'):RS2 w0 q b1 vs wa b2 us W' :=
 ⟨h.st.below hb,h.ne2,by have:=h.lt2;have:=hb.size;omega,fun i=>by rw [hb.cell (p:=⟨b2,i,none⟩) h.lt2];exact h.box2 i⟩
theorem RSt.two {w0 wa W:World}{q b1:Nat}{vs:List Value} (h:RSt w0 q b1 vs wa W) (us:List Value) (T:TypeId):RS2 w0 q b1 vs wa W.heap.size us (W.alloc (.cells us.toArray T)) :=
 ⟨h.below (bel1 W _),by have:=h.lo.lt;omega,by simp,fun i=>by rw [World.cell?_alloc_at _ _ _ _ rfl];simp⟩
theorem RS2.c6 {w0 wa W:World}{q b1 b2:Nat}{vs:List Value}{v0 v1 v2 v3 v4 v5:Value} (h:RS2 w0 q b1 vs wa b2 [v0,v1,v2,v3,v4,v5] W):W.cell? ⟨b2,0,none⟩=some v0/\W.cell? ⟨b2,1,none⟩=some v1/\W.cell? ⟨b2,2,none⟩=some v2/\W.cell? ⟨b2,3,none⟩=some v3/\W.cell? ⟨b2,4,none⟩=some v4/\W.cell? ⟨b2,5,none⟩=some v5 :=
 ⟨h.box2 0,h.box2 1,h.box2 2,h.box2 3,h.box2 4,h.box2 5⟩
theorem RS2.ret {w0 wa W w':World}{q b1 b2:Nat}{vs us:List Value}{s:List Int}{e:Ending} (h:RS2 w0 q b1 vs wa b2 us W) (hq:w0.heap.size<=q) (h':RtQ q W s e w'):∃ A n c,e= .returned (.slice A n c)/\RunQ (fun b=>b≠q) w' A n s/\Lq q W w'/\RS2 w0 q b1 vs wa b2 us w':=by
 obtain ⟨A,n,c,he,hr,hk,hl⟩:=h'
 exact ⟨A,n,c,he,hr.imp fun b hb _=>by have:=h.st.lo.lt;omega,hk,h.step hq hk hl⟩
theorem RS2.retN {w0 wa W w':World}{q b1 b2:Nat}{vs us:List Value}{s:List Int}{e:Ending} (h:RS2 w0 q b1 vs wa b2 us W) (hq:w0.heap.size<=q) (h':RtN q W s e w'):∃ A n c,e= .returned (.slice A n c)/\RunQ (fun b=>b≠q) w' A n s/\Lq q W w'/\RS2 w0 q b1 vs wa b2 us w':=by
 obtain ⟨A,n,c,he,hr,hk,hl⟩:=h'
 exact ⟨A,n,c,he,hr,hk,h.step hq hk hl⟩
theorem all_st2 {w0 wa W:World}{q b1 b2:Nat}{vs us:List Value}{o:Obj}{ss:List (List Int)}{A:Option Addr}{k:Nat}{t:List Int} (hq:w0.heap.size<=q) (hr:RowsQ (W.alloc o) A k ss) (h:RS2 w0 q b1 vs wa b2 us W) (cc:Nat) (hk:k<=4194304) (ht:accJ ss ss.length=t) (hl:t.length<=1099511627000) :
  Calls Tryz.prog 41 #[.slice A k cc,.pointer (some ⟨q,0,none⟩)] (W.alloc o) fun e w'=>∃ A n c,e= .returned (.slice A n c)/\RtQ q wa t (.returned (.slice A n c)) w'/\RS2 w0 q b1 vs wa b2 us w':=by
 have h1:=h.below (bel1 W o)
 subst ht
 refine (all_q hr hk h1.st.lo hl).mono ?_
 rintro e w' ⟨B,m,c,he,hr,hk,hl⟩
 exact ⟨B,m,c,he,h1.st.out hr hk hl,h1.step hq hk hl⟩
theorem single_13 {k:Int} (h:13<=k):singleB k=decide (k<=15):=by
 unfold singleB
 rw [Bool.eq_iff_iff]
 simp
 omega
theorem join_dot (s:List Int):joinP [8728] (joinP [46] s)=joinP [8728,46] s:=by
 rw [<- joinP_assoc]
 rfl
theorem rest_17 (w0:World) (q:Nat) (_hq:w0.heap.size<=q) (nums:List Nat) (text:List Int) (name:ByteArray) (c:Int) (t0:RTree) (s0:List Int) (H0:Hid (TextP 40 w0 q t0 s0)) (t1:RTree) (s1:List Int) (H1:Hid (TextP 40 w0 q t1 s1)) (hk13:13<=kindR t1) (hl:(joinP s0 (joinP [46] (wrapT (singleB (kindR t1)) s1))).length<=1099511627000) :
  TextP 87 w0 q (.mk 17 nums text name c [t0,t1]) (joinP s0 (joinP [46] (wrapT (singleB (kindR t1)) s1))):=by
 intro v0 v1 v2 v3 v4 v5 W hr hb hL
 obtain ⟨nv,tv,A,cc,m,hvs,hrn,hrt,hm,hkid⟩:=hr.open_
 simp only [List.cons.injEq,and_true] at hvs
 obtain ⟨rfl,rfl,rfl,rfl,rfl,rfl⟩:=hvs
 obtain ⟨A1,c1,n1,rfl,-,-⟩:=hrn.opn
 obtain ⟨A2,c2,n2,rfl,-,-⟩:=hrt.opn
 obtain ⟨b,o,u0,u1,u2,u3,u4,u5,rfl,hr0,hc0⟩:=kq0 hkid
 obtain ⟨p0,p1,p2,p3,p4,p5,hr1,hc1⟩:=kq1 hkid
 obtain rfl:m=2:=by simpa using hm
 obtain ⟨pb,hpb⟩:∃ pb,pb=singleB (kindR t1):=⟨_,rfl⟩
 rw [<- hpb] at hl ⊢
 obtain ⟨B1,m1,d1,B2,m2,d2,B3,m3,d3,rfl,rfl,rfl,rfl,rfl,rfl,-,-⟩:=hr1.vals
 generalize kindR t1=uk at *
 generalize nameR t1=un at *
 generalize charR t1=uc at *
 have HX0:=Lib.hid (RSt.start hb hL [.int .i64 17,.slice A1 n1 c1,.slice A2 n2 c2,.string name,.int .i32 c,.slice (some ⟨b,o,none⟩) 2 cc] 29)
 have HX:=Lib.hid (HX0.out.two [.int .i64 uk,.slice B1 m1 d1,.slice B2 m2 d2,.string un,.int .i32 uc,.slice B3 m3 d3] 29)
 have HK0:=Lib.hid hc0
 have HK1:=Lib.hid hc1
 have e0:=(joinP_len2 s0 (joinP [46] (wrapT pb s1))).1
 have e1:=(joinP_len2 [46] (wrapT pb s1)).1
 have HL2:(wrapT pb s1).length<=1099511627000:=by omega
 have HI0:Hid (∀ W1,RS2 w0 q W.heap.size [.int .i64 17,.slice A1 n1 c1,.slice A2 n2 c2,.string name,.int .i32 c,.slice (some ⟨b,o,none⟩) 2 cc] W (W.heap.size+1) [.int .i64 uk,.slice B1 m1 d1,.slice B2 m2 d2,.string un,.int .i32 uc,.slice B3 m3 d3] W1->Calls Tryz.prog 40 #[.agg #[u0,u1,u2,u3,u4,u5],.pointer (some ⟨q,0,none⟩)] W1 (fun e w'=>∃ Ax nx cx,e= .returned (.slice Ax nx cx)/\RunQ (fun b=>b≠q) w' Ax nx s0/\Lq q W1 w'/\RS2 w0 q W.heap.size [.int .i64 17,.slice A1 n1 c1,.slice A2 n2 c2,.string name,.int .i32 c,.slice (some ⟨b,o,none⟩) 2 cc] W (W.heap.size+1) [.int .i64 uk,.slice B1 m1 d1,.slice B2 m2 d2,.string un,.int .i32 uc,.slice B3 m3 d3] w')):=fun W1 h=>((H0.out _ _ _ _ _ _ W1 hr0 h.st.bel h.st.lo).mono fun e w1 h1=>h.ret _hq h1)
 have HI1:Hid (∀ W1,RS2 w0 q W.heap.size [.int .i64 17,.slice A1 n1 c1,.slice A2 n2 c2,.string name,.int .i32 c,.slice (some ⟨b,o,none⟩) 2 cc] W (W.heap.size+1) [.int .i64 uk,.slice B1 m1 d1,.slice B2 m2 d2,.string un,.int .i32 uc,.slice B3 m3 d3] W1->Calls Tryz.prog 39 #[.int .i32 46] W1 (fun e w'=>∃ Ax nx cx,e= .returned (.slice Ax nx cx)/\RunQ (fun b=>b≠q) w' Ax nx [46]/\Lq q W1 w'/\RS2 w0 q W.heap.size [.int .i64 17,.slice A1 n1 c1,.slice A2 n2 c2,.string name,.int .i32 c,.slice (some ⟨b,o,none⟩) 2 cc] W (W.heap.size+1) [.int .i64 uk,.slice B1 m1 d1,.slice B2 m2 d2,.string un,.int .i32 uc,.slice B3 m3 d3] w')):=fun W1 h=>((one_q (q:=q) 46 W1 h.st.lo).mono fun e w1 h1=>h.retN _hq h1)
 have HI2:Hid (∀ W1,RS2 w0 q W.heap.size [.int .i64 17,.slice A1 n1 c1,.slice A2 n2 c2,.string name,.int .i32 c,.slice (some ⟨b,o,none⟩) 2 cc] W (W.heap.size+1) [.int .i64 uk,.slice B1 m1 d1,.slice B2 m2 d2,.string un,.int .i32 uc,.slice B3 m3 d3] W1->Calls Tryz.prog 83 #[.agg #[.int .i64 uk,.slice B1 m1 d1,.slice B2 m2 d2,.string un,.int .i32 uc,.slice B3 m3 d3],.bool (!pb),.pointer (some ⟨q,0,none⟩)] W1 (fun e w'=>∃ Ax nx cx,e= .returned (.slice Ax nx cx)/\RunQ (fun b=>b≠q) w' Ax nx (wrapT pb s1)/\Lq q W1 w'/\RS2 w0 q W.heap.size [.int .i64 17,.slice A1 n1 c1,.slice A2 n2 c2,.string name,.int .i32 c,.slice (some ⟨b,o,none⟩) 2 cc] W (W.heap.size+1) [.int .i64 uk,.slice B1 m1 d1,.slice B2 m2 d2,.string un,.int .i32 uc,.slice B3 m3 d3] w')):=fun W1 h=>(by have h0:=(round_any w0 q _hq t1 s1 (!pb) H1 (by rw [Bool.not_not];exact HL2) _ _ _ _ _ _ W1 hr1 h.st.bel h.st.lo);rw [Bool.not_not] at h0;exact h0.mono fun e w1 h1=>h.ret _hq h1)
 have HAL:Hid (∀ W1 A50 n50 c50 A51 n51 c51 A52 n52 c52,RS2 w0 q W.heap.size [.int .i64 17,.slice A1 n1 c1,.slice A2 n2 c2,.string name,.int .i32 c,.slice (some ⟨b,o,none⟩) 2 cc] W (W.heap.size+1) [.int .i64 uk,.slice B1 m1 d1,.slice B2 m2 d2,.string un,.int .i32 uc,.slice B3 m3 d3] W1->RunQ (fun b=>b≠q) W1 A50 n50 s0->RunQ (fun b=>b≠q) W1 A51 n51 [46]->RunQ (fun b=>b≠q) W1 A52 n52 (wrapT pb s1)->Calls Tryz.prog 41 #[.slice (some ⟨W1.heap.size,0,none⟩) 3 3,.pointer (some ⟨q,0,none⟩)] (W1.alloc (.cells #[.slice A50 n50 c50,.slice A51 n51 c51,.slice A52 n52 c52] 27)) fun e w'=>∃ Ax nx cx,e= .returned (.slice Ax nx cx)/\RtQ q W (joinP s0 (joinP [46] (wrapT pb s1))) (.returned (.slice Ax nx cx)) w'/\RS2 w0 q W.heap.size [.int .i64 17,.slice A1 n1 c1,.slice A2 n2 c2,.string name,.int .i32 c,.slice (some ⟨b,o,none⟩) 2 cc] W (W.heap.size+1) [.int .i64 uk,.slice B1 m1 d1,.slice B2 m2 d2,.string un,.int .i32 uc,.slice B3 m3 d3] w'):=fun W1 A50 n50 c50 A51 n51 c51 A52 n52 c52 h h50 h51 h52=>all_st2 _hq (rows3 h50 h51 h52) h 3 (by omega) (accJ3 s0 [46] (wrapT pb s1)) hl
 have HSA:Hid (∀ W1,RS2 w0 q W.heap.size [.int .i64 17,.slice A1 n1 c1,.slice A2 n2 c2,.string name,.int .i32 c,.slice (some ⟨b,o,none⟩) 2 cc] W (W.heap.size+1) [.int .i64 uk,.slice B1 m1 d1,.slice B2 m2 d2,.string un,.int .i32 uc,.slice B3 m3 d3] W1->W1.cell? ⟨W.heap.size,5,none⟩=some (.slice (some ⟨b,o,none⟩) 2 cc)/\W1.cell? ⟨W.heap.size+1,0,none⟩=some (.int .i64 uk)/\W1.cell? ⟨W.heap.size+1,1,none⟩=some (.slice B1 m1 d1)/\W1.cell? ⟨W.heap.size+1,2,none⟩=some (.slice B2 m2 d2)/\W1.cell? ⟨W.heap.size+1,3,none⟩=some (.string un)/\W1.cell? ⟨W.heap.size+1,4,none⟩=some (.int .i32 uc)/\W1.cell? ⟨W.heap.size+1,5,none⟩=some (.slice B3 m3 d3)/\W1.cell? ⟨b,o,none⟩=some u0/\W1.cell? ⟨b,o+1,none⟩=some u1/\W1.cell? ⟨b,o+2,none⟩=some u2/\W1.cell? ⟨b,o+3,none⟩=some u3/\W1.cell? ⟨b,o+4,none⟩=some u4/\W1.cell? ⟨b,o+5,none⟩=some u5):=fun W1 h=>⟨h.st.c6.2.2.2.2.2,h.c6.1,h.c6.2.1,h.c6.2.2.1,h.c6.2.2.2.1,h.c6.2.2.2.2.1,h.c6.2.2.2.2.2,(HK0.out W1 h.st.bel).1,(HK0.out W1 h.st.bel).2.1,(HK0.out W1 h.st.bel).2.2.1,(HK0.out W1 h.st.bel).2.2.2.1,(HK0.out W1 h.st.bel).2.2.2.2.1,(HK0.out W1 h.st.bel).2.2.2.2.2⟩
 obtain ⟨y0,y1,y2,y3,y4,y5⟩:=HK1.out _ HX0.out.bel
 clear hr hb hL hrn hrt hkid hm hr0 hc0 H0 HK0 hr1 hc1 H1 HK1 e0 e1 hl HL2
 rw [single_13 hk13] at hpb
 have hn13:¬ uk < 13:=by omega
 cases pb
 ·have h15:15 < uk:=by have:=of_decide_eq_false hpb.symm;omega
  clear hpb
  go_enter Tryz.func87,Tryz.ntmps87
  obtain ⟨x0,x1,x2,x3,x4,x5⟩:=HX0.out.c6
  go_upto_region 6 with fail
  clear x0 x1 x2 x3 x4 x5 y0 y1 y2 y3 y4 y5 HX0
  have HX9:Hid (RS2 w0 q W.heap.size [.int .i64 17,.slice A1 n1 c1,.slice A2 n2 c2,.string name,.int .i32 c,.slice (some ⟨b,o,none⟩) 2 cc] W (W.heap.size+1) [.int .i64 uk,.slice B1 m1 d1,.slice B2 m2 d2,.string un,.int .i32 uc,.slice B3 m3 d3] ((W.alloc (.cells #[.int .i64 17,.slice A1 n1 c1,.slice A2 n2 c2,.string name,.int .i32 c,.slice (some ⟨b,o,none⟩) 2 cc] 29)).alloc (.cells #[.int .i64 uk,.slice B1 m1 d1,.slice B2 m2 d2,.string un,.int .i32 uc,.slice B3 m3 d3] 29))):=by have h:=HX.out;unfold Hid;simpa using h
  clear HX
  generalize (W.alloc (.cells #[.int .i64 17,.slice A1 n1 c1,.slice A2 n2 c2,.string name,.int .i32 c,.slice (some ⟨b,o,none⟩) 2 cc] 29)).alloc (.cells #[.int .i64 uk,.slice B1 m1 d1,.slice B2 m2 d2,.string un,.int .i32 uc,.slice B3 m3 d3] 29)=W0 at *
  have hd0:=HX9.out.below (Below.refl _ W0).drew
  have hs1:=HSA.out _ hd0
  go_region_held3 (fun W1=>W1.cell? ⟨W.heap.size,5,none⟩=some (.slice (some ⟨b,o,none⟩) 2 cc)/\W1.cell? ⟨W.heap.size+1,0,none⟩=some (.int .i64 uk)/\W1.cell? ⟨W.heap.size+1,1,none⟩=some (.slice B1 m1 d1)/\W1.cell? ⟨W.heap.size+1,2,none⟩=some (.slice B2 m2 d2)/\W1.cell? ⟨W.heap.size+1,3,none⟩=some (.string un)/\W1.cell? ⟨W.heap.size+1,4,none⟩=some (.int .i32 uc)/\W1.cell? ⟨W.heap.size+1,5,none⟩=some (.slice B3 m3 d3)/\W1.cell? ⟨b,o,none⟩=some u0/\W1.cell? ⟨b,o+1,none⟩=some u1/\W1.cell? ⟨b,o+2,none⟩=some u2/\W1.cell? ⟨b,o+3,none⟩=some u3/\W1.cell? ⟨b,o+4,none⟩=some u4/\W1.cell? ⟨b,o+5,none⟩=some u5)
   (first | assumption | exact hs1 | exact HSA.out _ (RS2.below (by assumption) (bel1 _ _)))
   (first
    | (go_at_call 40;(with_reducible refine (HI0.out _ (by assumption)).mono ?_);rintro e w50 ⟨A50,n50,c50,rfl,hr50,hq50,hst50⟩;have hs50:=HSA.out _ hst50;dsimp only)
    | (go_at_call 39;(with_reducible refine (HI1.out _ (by assumption)).mono ?_);rintro e w51 ⟨A51,n51,c51,rfl,hr51,hq51,hst51⟩;have hs51:=HSA.out _ hst51;dsimp only)
    | (go_at_call 83;(refine (HI2.out _ (by assumption)).mono ?_);rintro e w52 ⟨A52,n52,c52,rfl,hr52,hq52,hst52⟩;have hs52:=HSA.out _ hst52;dsimp only)
    | (go_at_call 41;(with_reducible refine (HAL.out _ _ _ _ _ _ _ _ _ _ hst52 ((hr50.lq hq51).lq hq52) (hr51.lq hq52) hr52).mono ?_);rintro e w90 ⟨A90,n90,c90,rfl,hf90,hst90⟩;have hs90:=HSA.out _ hst90;dsimp only))
  all_goals
   have HF:=Lib.hid hf90
   clear hf90
   go_wp2
   go_ret
   exact HF.out
 ·have h15:¬ 15 < uk:=by have:=of_decide_eq_true hpb.symm;omega
  clear hpb
  go_enter Tryz.func87,Tryz.ntmps87
  obtain ⟨x0,x1,x2,x3,x4,x5⟩:=HX0.out.c6
  go_upto_region 6 with fail
  clear x0 x1 x2 x3 x4 x5 y0 y1 y2 y3 y4 y5 HX0
  have HX9:Hid (RS2 w0 q W.heap.size [.int .i64 17,.slice A1 n1 c1,.slice A2 n2 c2,.string name,.int .i32 c,.slice (some ⟨b,o,none⟩) 2 cc] W (W.heap.size+1) [.int .i64 uk,.slice B1 m1 d1,.slice B2 m2 d2,.string un,.int .i32 uc,.slice B3 m3 d3] ((W.alloc (.cells #[.int .i64 17,.slice A1 n1 c1,.slice A2 n2 c2,.string name,.int .i32 c,.slice (some ⟨b,o,none⟩) 2 cc] 29)).alloc (.cells #[.int .i64 uk,.slice B1 m1 d1,.slice B2 m2 d2,.string un,.int .i32 uc,.slice B3 m3 d3] 29))):=by have h:=HX.out;unfold Hid;simpa using h
  clear HX
  generalize (W.alloc (.cells #[.int .i64 17,.slice A1 n1 c1,.slice A2 n2 c2,.string name,.int .i32 c,.slice (some ⟨b,o,none⟩) 2 cc] 29)).alloc (.cells #[.int .i64 uk,.slice B1 m1 d1,.slice B2 m2 d2,.string un,.int .i32 uc,.slice B3 m3 d3] 29)=W0 at *
  have hd0:=HX9.out.below (Below.refl _ W0).drew
  have hs1:=HSA.out _ hd0
  go_region_held3 (fun W1=>W1.cell? ⟨W.heap.size,5,none⟩=some (.slice (some ⟨b,o,none⟩) 2 cc)/\W1.cell? ⟨W.heap.size+1,0,none⟩=some (.int .i64 uk)/\W1.cell? ⟨W.heap.size+1,1,none⟩=some (.slice B1 m1 d1)/\W1.cell? ⟨W.heap.size+1,2,none⟩=some (.slice B2 m2 d2)/\W1.cell? ⟨W.heap.size+1,3,none⟩=some (.string un)/\W1.cell? ⟨W.heap.size+1,4,none⟩=some (.int .i32 uc)/\W1.cell? ⟨W.heap.size+1,5,none⟩=some (.slice B3 m3 d3)/\W1.cell? ⟨b,o,none⟩=some u0/\W1.cell? ⟨b,o+1,none⟩=some u1/\W1.cell? ⟨b,o+2,none⟩=some u2/\W1.cell? ⟨b,o+3,none⟩=some u3/\W1.cell? ⟨b,o+4,none⟩=some u4/\W1.cell? ⟨b,o+5,none⟩=some u5)
   (first | assumption | exact hs1 | exact HSA.out _ (RS2.below (by assumption) (bel1 _ _)))
   (first
    | (go_at_call 40;(with_reducible refine (HI0.out _ (by assumption)).mono ?_);rintro e w50 ⟨A50,n50,c50,rfl,hr50,hq50,hst50⟩;have hs50:=HSA.out _ hst50;dsimp only)
    | (go_at_call 39;(with_reducible refine (HI1.out _ (by assumption)).mono ?_);rintro e w51 ⟨A51,n51,c51,rfl,hr51,hq51,hst51⟩;have hs51:=HSA.out _ hst51;dsimp only)
    | (go_at_call 83;(refine (HI2.out _ (by assumption)).mono ?_);rintro e w52 ⟨A52,n52,c52,rfl,hr52,hq52,hst52⟩;have hs52:=HSA.out _ hst52;dsimp only)
    | (go_at_call 41;(with_reducible refine (HAL.out _ _ _ _ _ _ _ _ _ _ hst52 ((hr50.lq hq51).lq hq52) (hr51.lq hq52) hr52).mono ?_);rintro e w90 ⟨A90,n90,c90,rfl,hf90,hst90⟩;have hs90:=HSA.out _ hst90;dsimp only))
  all_goals
   have HF:=Lib.hid hf90
   clear hf90
   go_wp2
   go_ret
   exact HF.out
theorem rest_18 (w0:World) (q:Nat) (_hq:w0.heap.size<=q) (nums:List Nat) (text:List Int) (name:ByteArray) (c:Int) (t0:RTree) (s0:List Int) (H0:Hid (TextP 40 w0 q t0 s0)) (hk13:13<=kindR t0) (hl:(joinP [8728,46] (wrapT (singleB (kindR t0)) s0)).length<=1099511627000) :
  TextP 87 w0 q (.mk 18 nums text name c [t0]) (joinP [8728,46] (wrapT (singleB (kindR t0)) s0)):=by
 intro v0 v1 v2 v3 v4 v5 W hr hb hL
 obtain ⟨nv,tv,A,cc,m,hvs,hrn,hrt,hm,hkid⟩:=hr.open_
 simp only [List.cons.injEq,and_true] at hvs
 obtain ⟨rfl,rfl,rfl,rfl,rfl,rfl⟩:=hvs
 obtain ⟨A1,c1,n1,rfl,-,-⟩:=hrn.opn
 obtain ⟨A2,c2,n2,rfl,-,-⟩:=hrt.opn
 obtain ⟨b,o,u0,u1,u2,u3,u4,u5,rfl,hr0,hc0⟩:=kq0 hkid
 obtain rfl:m=1:=by simpa using hm
 obtain ⟨pb,hpb⟩:∃ pb,pb=singleB (kindR t0):=⟨_,rfl⟩
 rw [<- hpb] at hl ⊢
 rw [<- join_dot] at hl ⊢
 obtain ⟨B1,m1,d1,B2,m2,d2,B3,m3,d3,rfl,rfl,rfl,rfl,rfl,rfl,-,-⟩:=hr0.vals
 generalize kindR t0=uk at *
 generalize nameR t0=un at *
 generalize charR t0=uc at *
 have HX0:=Lib.hid (RSt.start hb hL [.int .i64 18,.slice A1 n1 c1,.slice A2 n2 c2,.string name,.int .i32 c,.slice (some ⟨b,o,none⟩) 1 cc] 29)
 have HX:=Lib.hid (HX0.out.two [.int .i64 uk,.slice B1 m1 d1,.slice B2 m2 d2,.string un,.int .i32 uc,.slice B3 m3 d3] 29)
 have HK0:=Lib.hid hc0
 have e0:=(joinP_len2 [8728] (joinP [46] (wrapT pb s0))).1
 have e1:=(joinP_len2 [46] (wrapT pb s0)).1
 have HL2:(wrapT pb s0).length<=1099511627000:=by omega
 have HI0:Hid (∀ W1,RS2 w0 q W.heap.size [.int .i64 18,.slice A1 n1 c1,.slice A2 n2 c2,.string name,.int .i32 c,.slice (some ⟨b,o,none⟩) 1 cc] W (W.heap.size+1) [.int .i64 uk,.slice B1 m1 d1,.slice B2 m2 d2,.string un,.int .i32 uc,.slice B3 m3 d3] W1->Calls Tryz.prog 39 #[.int .i32 8728] W1 (fun e w'=>∃ Ax nx cx,e= .returned (.slice Ax nx cx)/\RunQ (fun b=>b≠q) w' Ax nx [8728]/\Lq q W1 w'/\RS2 w0 q W.heap.size [.int .i64 18,.slice A1 n1 c1,.slice A2 n2 c2,.string name,.int .i32 c,.slice (some ⟨b,o,none⟩) 1 cc] W (W.heap.size+1) [.int .i64 uk,.slice B1 m1 d1,.slice B2 m2 d2,.string un,.int .i32 uc,.slice B3 m3 d3] w')):=fun W1 h=>((one_q (q:=q) 8728 W1 h.st.lo).mono fun e w1 h1=>h.retN _hq h1)
 have HI1:Hid (∀ W1,RS2 w0 q W.heap.size [.int .i64 18,.slice A1 n1 c1,.slice A2 n2 c2,.string name,.int .i32 c,.slice (some ⟨b,o,none⟩) 1 cc] W (W.heap.size+1) [.int .i64 uk,.slice B1 m1 d1,.slice B2 m2 d2,.string un,.int .i32 uc,.slice B3 m3 d3] W1->Calls Tryz.prog 39 #[.int .i32 46] W1 (fun e w'=>∃ Ax nx cx,e= .returned (.slice Ax nx cx)/\RunQ (fun b=>b≠q) w' Ax nx [46]/\Lq q W1 w'/\RS2 w0 q W.heap.size [.int .i64 18,.slice A1 n1 c1,.slice A2 n2 c2,.string name,.int .i32 c,.slice (some ⟨b,o,none⟩) 1 cc] W (W.heap.size+1) [.int .i64 uk,.slice B1 m1 d1,.slice B2 m2 d2,.string un,.int .i32 uc,.slice B3 m3 d3] w')):=fun W1 h=>((one_q (q:=q) 46 W1 h.st.lo).mono fun e w1 h1=>h.retN _hq h1)
 have HI2:Hid (∀ W1,RS2 w0 q W.heap.size [.int .i64 18,.slice A1 n1 c1,.slice A2 n2 c2,.string name,.int .i32 c,.slice (some ⟨b,o,none⟩) 1 cc] W (W.heap.size+1) [.int .i64 uk,.slice B1 m1 d1,.slice B2 m2 d2,.string un,.int .i32 uc,.slice B3 m3 d3] W1->Calls Tryz.prog 83 #[.agg #[.int .i64 uk,.slice B1 m1 d1,.slice B2 m2 d2,.string un,.int .i32 uc,.slice B3 m3 d3],.bool (!pb),.pointer (some ⟨q,0,none⟩)] W1 (fun e w'=>∃ Ax nx cx,e= .returned (.slice Ax nx cx)/\RunQ (fun b=>b≠q) w' Ax nx (wrapT pb s0)/\Lq q W1 w'/\RS2 w0 q W.heap.size [.int .i64 18,.slice A1 n1 c1,.slice A2 n2 c2,.string name,.int .i32 c,.slice (some ⟨b,o,none⟩) 1 cc] W (W.heap.size+1) [.int .i64 uk,.slice B1 m1 d1,.slice B2 m2 d2,.string un,.int .i32 uc,.slice B3 m3 d3] w')):=fun W1 h=>(by have h0:=(round_any w0 q _hq t0 s0 (!pb) H0 (by rw [Bool.not_not];exact HL2) _ _ _ _ _ _ W1 hr0 h.st.bel h.st.lo);rw [Bool.not_not] at h0;exact h0.mono fun e w1 h1=>h.ret _hq h1)
 have HAL:Hid (∀ W1 A50 n50 c50 A51 n51 c51 A52 n52 c52,RS2 w0 q W.heap.size [.int .i64 18,.slice A1 n1 c1,.slice A2 n2 c2,.string name,.int .i32 c,.slice (some ⟨b,o,none⟩) 1 cc] W (W.heap.size+1) [.int .i64 uk,.slice B1 m1 d1,.slice B2 m2 d2,.string un,.int .i32 uc,.slice B3 m3 d3] W1->RunQ (fun b=>b≠q) W1 A50 n50 [8728]->RunQ (fun b=>b≠q) W1 A51 n51 [46]->RunQ (fun b=>b≠q) W1 A52 n52 (wrapT pb s0)->Calls Tryz.prog 41 #[.slice (some ⟨W1.heap.size,0,none⟩) 3 3,.pointer (some ⟨q,0,none⟩)] (W1.alloc (.cells #[.slice A50 n50 c50,.slice A51 n51 c51,.slice A52 n52 c52] 27)) fun e w'=>∃ Ax nx cx,e= .returned (.slice Ax nx cx)/\RtQ q W (joinP [8728] (joinP [46] (wrapT pb s0))) (.returned (.slice Ax nx cx)) w'/\RS2 w0 q W.heap.size [.int .i64 18,.slice A1 n1 c1,.slice A2 n2 c2,.string name,.int .i32 c,.slice (some ⟨b,o,none⟩) 1 cc] W (W.heap.size+1) [.int .i64 uk,.slice B1 m1 d1,.slice B2 m2 d2,.string un,.int .i32 uc,.slice B3 m3 d3] w'):=fun W1 A50 n50 c50 A51 n51 c51 A52 n52 c52 h h50 h51 h52=>all_st2 _hq (rows3 h50 h51 h52) h 3 (by omega) (accJ3 [8728] [46] (wrapT pb s0)) hl
 have HSA:Hid (∀ W1,RS2 w0 q W.heap.size [.int .i64 18,.slice A1 n1 c1,.slice A2 n2 c2,.string name,.int .i32 c,.slice (some ⟨b,o,none⟩) 1 cc] W (W.heap.size+1) [.int .i64 uk,.slice B1 m1 d1,.slice B2 m2 d2,.string un,.int .i32 uc,.slice B3 m3 d3] W1->W1.cell? ⟨W.heap.size,5,none⟩=some (.slice (some ⟨b,o,none⟩) 1 cc)/\W1.cell? ⟨W.heap.size+1,0,none⟩=some (.int .i64 uk)/\W1.cell? ⟨W.heap.size+1,1,none⟩=some (.slice B1 m1 d1)/\W1.cell? ⟨W.heap.size+1,2,none⟩=some (.slice B2 m2 d2)/\W1.cell? ⟨W.heap.size+1,3,none⟩=some (.string un)/\W1.cell? ⟨W.heap.size+1,4,none⟩=some (.int .i32 uc)/\W1.cell? ⟨W.heap.size+1,5,none⟩=some (.slice B3 m3 d3)):=fun W1 h=>⟨h.st.c6.2.2.2.2.2,h.c6.1,h.c6.2.1,h.c6.2.2.1,h.c6.2.2.2.1,h.c6.2.2.2.2.1,h.c6.2.2.2.2.2⟩
 obtain ⟨y0,y1,y2,y3,y4,y5⟩:=HK0.out _ HX0.out.bel
 clear hr hb hL hrn hrt hkid hm hr0 hc0 H0 HK0 e0 e1 hl HL2
 rw [single_13 hk13] at hpb
 have hn13:¬ uk < 13:=by omega
 cases pb
 ·have h15:15 < uk:=by have:=of_decide_eq_false hpb.symm;omega
  clear hpb
  go_enter Tryz.func87,Tryz.ntmps87
  obtain ⟨x0,x1,x2,x3,x4,x5⟩:=HX0.out.c6
  go_upto_region 9 with fail
  clear x0 x1 x2 x3 x4 x5 y0 y1 y2 y3 y4 y5 HX0
  have HX9:Hid (RS2 w0 q W.heap.size [.int .i64 18,.slice A1 n1 c1,.slice A2 n2 c2,.string name,.int .i32 c,.slice (some ⟨b,o,none⟩) 1 cc] W (W.heap.size+1) [.int .i64 uk,.slice B1 m1 d1,.slice B2 m2 d2,.string un,.int .i32 uc,.slice B3 m3 d3] ((W.alloc (.cells #[.int .i64 18,.slice A1 n1 c1,.slice A2 n2 c2,.string name,.int .i32 c,.slice (some ⟨b,o,none⟩) 1 cc] 29)).alloc (.cells #[.int .i64 uk,.slice B1 m1 d1,.slice B2 m2 d2,.string un,.int .i32 uc,.slice B3 m3 d3] 29))):=by have h:=HX.out;unfold Hid;simpa using h
  clear HX
  generalize (W.alloc (.cells #[.int .i64 18,.slice A1 n1 c1,.slice A2 n2 c2,.string name,.int .i32 c,.slice (some ⟨b,o,none⟩) 1 cc] 29)).alloc (.cells #[.int .i64 uk,.slice B1 m1 d1,.slice B2 m2 d2,.string un,.int .i32 uc,.slice B3 m3 d3] 29)=W0 at *
  have hd0:=HX9.out.below (Below.refl _ W0).drew
  have hs1:=HSA.out _ hd0
  go_region_held3 (fun W1=>W1.cell? ⟨W.heap.size,5,none⟩=some (.slice (some ⟨b,o,none⟩) 1 cc)/\W1.cell? ⟨W.heap.size+1,0,none⟩=some (.int .i64 uk)/\W1.cell? ⟨W.heap.size+1,1,none⟩=some (.slice B1 m1 d1)/\W1.cell? ⟨W.heap.size+1,2,none⟩=some (.slice B2 m2 d2)/\W1.cell? ⟨W.heap.size+1,3,none⟩=some (.string un)/\W1.cell? ⟨W.heap.size+1,4,none⟩=some (.int .i32 uc)/\W1.cell? ⟨W.heap.size+1,5,none⟩=some (.slice B3 m3 d3))
   (first | assumption | exact hs1 | exact HSA.out _ (RS2.below (by assumption) (bel1 _ _)))
   (first
    | (go_at_call 39;(with_reducible refine (HI0.out _ (by assumption)).mono ?_);rintro e w50 ⟨A50,n50,c50,rfl,hr50,hq50,hst50⟩;have hs50:=HSA.out _ hst50;dsimp only)
    | (go_at_call 39;(with_reducible refine (HI1.out _ (by assumption)).mono ?_);rintro e w51 ⟨A51,n51,c51,rfl,hr51,hq51,hst51⟩;have hs51:=HSA.out _ hst51;dsimp only)
    | (go_at_call 83;(refine (HI2.out _ (by assumption)).mono ?_);rintro e w52 ⟨A52,n52,c52,rfl,hr52,hq52,hst52⟩;have hs52:=HSA.out _ hst52;dsimp only)
    | (go_at_call 41;(with_reducible refine (HAL.out _ _ _ _ _ _ _ _ _ _ hst52 ((hr50.lq hq51).lq hq52) (hr51.lq hq52) hr52).mono ?_);rintro e w90 ⟨A90,n90,c90,rfl,hf90,hst90⟩;have hs90:=HSA.out _ hst90;dsimp only))
  all_goals
   have HF:=Lib.hid hf90
   clear hf90
   go_wp2
   go_ret
   exact HF.out
 ·have h15:¬ 15 < uk:=by have:=of_decide_eq_true hpb.symm;omega
  clear hpb
  go_enter Tryz.func87,Tryz.ntmps87
  obtain ⟨x0,x1,x2,x3,x4,x5⟩:=HX0.out.c6
  go_upto_region 9 with fail
  clear x0 x1 x2 x3 x4 x5 y0 y1 y2 y3 y4 y5 HX0
  have HX9:Hid (RS2 w0 q W.heap.size [.int .i64 18,.slice A1 n1 c1,.slice A2 n2 c2,.string name,.int .i32 c,.slice (some ⟨b,o,none⟩) 1 cc] W (W.heap.size+1) [.int .i64 uk,.slice B1 m1 d1,.slice B2 m2 d2,.string un,.int .i32 uc,.slice B3 m3 d3] ((W.alloc (.cells #[.int .i64 18,.slice A1 n1 c1,.slice A2 n2 c2,.string name,.int .i32 c,.slice (some ⟨b,o,none⟩) 1 cc] 29)).alloc (.cells #[.int .i64 uk,.slice B1 m1 d1,.slice B2 m2 d2,.string un,.int .i32 uc,.slice B3 m3 d3] 29))):=by have h:=HX.out;unfold Hid;simpa using h
  clear HX
  generalize (W.alloc (.cells #[.int .i64 18,.slice A1 n1 c1,.slice A2 n2 c2,.string name,.int .i32 c,.slice (some ⟨b,o,none⟩) 1 cc] 29)).alloc (.cells #[.int .i64 uk,.slice B1 m1 d1,.slice B2 m2 d2,.string un,.int .i32 uc,.slice B3 m3 d3] 29)=W0 at *
  have hd0:=HX9.out.below (Below.refl _ W0).drew
  have hs1:=HSA.out _ hd0
  go_region_held3 (fun W1=>W1.cell? ⟨W.heap.size,5,none⟩=some (.slice (some ⟨b,o,none⟩) 1 cc)/\W1.cell? ⟨W.heap.size+1,0,none⟩=some (.int .i64 uk)/\W1.cell? ⟨W.heap.size+1,1,none⟩=some (.slice B1 m1 d1)/\W1.cell? ⟨W.heap.size+1,2,none⟩=some (.slice B2 m2 d2)/\W1.cell? ⟨W.heap.size+1,3,none⟩=some (.string un)/\W1.cell? ⟨W.heap.size+1,4,none⟩=some (.int .i32 uc)/\W1.cell? ⟨W.heap.size+1,5,none⟩=some (.slice B3 m3 d3))
   (first | assumption | exact hs1 | exact HSA.out _ (RS2.below (by assumption) (bel1 _ _)))
   (first
    | (go_at_call 39;(with_reducible refine (HI0.out _ (by assumption)).mono ?_);rintro e w50 ⟨A50,n50,c50,rfl,hr50,hq50,hst50⟩;have hs50:=HSA.out _ hst50;dsimp only)
    | (go_at_call 39;(with_reducible refine (HI1.out _ (by assumption)).mono ?_);rintro e w51 ⟨A51,n51,c51,rfl,hr51,hq51,hst51⟩;have hs51:=HSA.out _ hst51;dsimp only)
    | (go_at_call 83;(refine (HI2.out _ (by assumption)).mono ?_);rintro e w52 ⟨A52,n52,c52,rfl,hr52,hq52,hst52⟩;have hs52:=HSA.out _ hst52;dsimp only)
    | (go_at_call 41;(with_reducible refine (HAL.out _ _ _ _ _ _ _ _ _ _ hst52 ((hr50.lq hq51).lq hq52) (hr51.lq hq52) hr52).mono ?_);rintro e w90 ⟨A90,n90,c90,rfl,hf90,hst90⟩;have hs90:=HSA.out _ hst90;dsimp only))
  all_goals
   have HF:=Lib.hid hf90
   clear hf90
   go_wp2
   go_ret
   exact HF.out
end Go.Proofs.YtbakjaliponbbaaGreatDoor
