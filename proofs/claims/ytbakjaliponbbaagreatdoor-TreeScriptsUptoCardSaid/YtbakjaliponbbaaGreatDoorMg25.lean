/- The reference's Text and rest at the kinds whose region draws its order. Printed by gen_trxf.py. The reference's Text at indexes. Printed by .. Conditions: as each theorem says. -/
import Derived.Test.YtbakjaliponbbaaGreatDoorMg24
set_option maxRecDepth 100000
set_option maxHeartbeats 1600000
namespace Go.Proofs.YtbakjaliponbbaaGreatDoor
open Go Go.RowKit Go.Proofs Fl
theorem RSt.ret {w0 wa W w':World}{q b1:Nat}{vs:List Value}{s:List Int}{e:Ending} (h:RSt w0 q b1 vs wa W) (hq:w0.heap.size<=q) (h':RtQ q W s e w'):∃ A n c,e= .returned (.slice A n c)/\RunQ (fun b=>b≠q) w' A n s/\Lq q W w'/\RSt w0 q b1 vs wa w':=by
 obtain ⟨A,n,c,he,hr,hk,hl⟩:=h'
 exact ⟨A,n,c,he,hr.imp fun b hb _=>by have:=h.lo.lt;omega,hk,h.step hq hk hl⟩
theorem RSt.retN {w0 wa W w':World}{q b1:Nat}{vs:List Value}{s:List Int}{e:Ending} (h:RSt w0 q b1 vs wa W) (hq:w0.heap.size<=q) (h':RtN q W s e w'):∃ A n c,e= .returned (.slice A n c)/\RunQ (fun b=>b≠q) w' A n s/\Lq q W w'/\RSt w0 q b1 vs wa w':=by
 obtain ⟨A,n,c,he,hr,hk,hl⟩:=h'
 exact ⟨A,n,c,he,hr,hk,h.step hq hk hl⟩
theorem all_st {w0 wa W:World}{q b1:Nat}{vs:List Value}{o:Obj}{ss:List (List Int)}{A:Option Addr}{k:Nat}{t:List Int} (hq:w0.heap.size<=q) (hr:RowsQ (W.alloc o) A k ss) (h:RSt w0 q b1 vs wa W) (cc:Nat) (hk:k<=4194304) (ht:accJ ss ss.length=t) (hl:t.length<=1099511627000) :
  Calls Tryz.prog 41 #[.slice A k cc,.pointer (some ⟨q,0,none⟩)] (W.alloc o) fun e w'=>∃ A n c,e= .returned (.slice A n c)/\RtQ q wa t (.returned (.slice A n c)) w'/\RSt w0 q b1 vs wa w':=by
 have h1:=h.below (bel1 W o)
 subst ht
 refine (all_q hr hk h1.lo hl).mono ?_
 rintro e w' ⟨B,m,c,he,hr,hk,hl⟩
 exact ⟨B,m,c,he,h1.out hr hk hl,h1.step hq hk hl⟩
theorem kq0 {w:World}{A:Option Addr}{t:RTree}{ts:List RTree} (h:KidR w A (t::ts)):∃ b o v0 v1 v2 v3 v4 v5,A=some ⟨b,o,none⟩/\RN w t [v0,v1,v2,v3,v4,v5]/\KidQ w b o v0 v1 v2 v3 v4 v5:=by
 obtain ⟨b,o,v0,v1,v2,v3,v4,v5,e,hr,hc⟩:=KidR.kid h 0 (by simp)
 exact ⟨b,o,v0,v1,v2,v3,v4,v5,e,hr,by simpa using hc⟩
theorem kq1 {w:World}{b o:Nat}{t t1:RTree}{ts:List RTree} (h:KidR w (some ⟨b,o,none⟩) (t::t1::ts)):∃ v0 v1 v2 v3 v4 v5,RN w t1 [v0,v1,v2,v3,v4,v5]/\KidQ w b (o+6) v0 v1 v2 v3 v4 v5:=by
 obtain ⟨b',o',v0,v1,v2,v3,v4,v5,e,hr,hc⟩:=KidR.kid h 1 (by simp)
 simp only [Option.some.injEq,Addr.mk.injEq,and_true] at e
 obtain ⟨rfl,rfl⟩:=e
 exact ⟨v0,v1,v2,v3,v4,v5,hr,by simpa using hc⟩
theorem kq2 {w:World}{b o:Nat}{t t1 t2:RTree}{ts:List RTree} (h:KidR w (some ⟨b,o,none⟩) (t::t1::t2::ts)):∃ v0 v1 v2 v3 v4 v5,RN w t2 [v0,v1,v2,v3,v4,v5]/\KidQ w b (o+12) v0 v1 v2 v3 v4 v5:=by
 obtain ⟨b',o',v0,v1,v2,v3,v4,v5,e,hr,hc⟩:=KidR.kid h 2 (by simp)
 simp only [Option.some.injEq,Addr.mk.injEq,and_true] at e
 obtain ⟨rfl,rfl⟩:=e
 exact ⟨v0,v1,v2,v3,v4,v5,hr,by simpa using hc⟩
theorem rest_16 (w0:World) (q:Nat) (_hq:w0.heap.size<=q) (nums:List Nat) (text:List Int) (name:ByteArray) (c:Int) (t0:RTree) (s0:List Int) (H0:Hid (TextP 40 w0 q t0 s0)) (hl:(joinP s0 [c]).length<=1099511627000) :
  TextP 87 w0 q (.mk 16 nums text name c [t0]) (joinP s0 [c]):=by
 intro v0 v1 v2 v3 v4 v5 W hr hb hL
 obtain ⟨nv,tv,A,cc,m,hvs,hrn,hrt,hm,hkid⟩:=hr.open_
 simp only [List.cons.injEq,and_true] at hvs
 obtain ⟨rfl,rfl,rfl,rfl,rfl,rfl⟩:=hvs
 obtain ⟨A1,c1,n1,rfl,-,-⟩:=hrn.opn
 obtain ⟨A2,c2,n2,rfl,-,-⟩:=hrt.opn
 obtain ⟨b,o,u0,u1,u2,u3,u4,u5,rfl,hr0,hc0⟩:=kq0 hkid
 obtain rfl:m=1:=by simpa using hm
 have HX:=Lib.hid (RSt.start hb hL [.int .i64 16,.slice A1 n1 c1,.slice A2 n2 c2,.string name,.int .i32 c,.slice (some ⟨b,o,none⟩) 1 cc] 29)
 have HR0:=Lib.hid hr0;have HK0:=Lib.hid hc0
 have e0:=(joinP_len2 s0 [c]).1
 have HLL:=Lib.hid hl
 have HI0:Hid (∀ W1,RSt w0 q W.heap.size [.int .i64 16,.slice A1 n1 c1,.slice A2 n2 c2,.string name,.int .i32 c,.slice (some ⟨b,o,none⟩) 1 cc] W W1->Calls Tryz.prog 40 #[.agg #[u0,u1,u2,u3,u4,u5],.pointer (some ⟨q,0,none⟩)] W1 (fun e w'=>∃ Ax nx cx,e= .returned (.slice Ax nx cx)/\RunQ (fun b=>b≠q) w' Ax nx s0/\Lq q W1 w'/\RSt w0 q W.heap.size [.int .i64 16,.slice A1 n1 c1,.slice A2 n2 c2,.string name,.int .i32 c,.slice (some ⟨b,o,none⟩) 1 cc] W w')):=fun W1 h=>((H0.out u0 u1 u2 u3 u4 u5 W1 hr0 h.bel h.lo).mono fun e w1 h1=>h.ret _hq h1)
 have HI1:Hid (∀ W1,RSt w0 q W.heap.size [.int .i64 16,.slice A1 n1 c1,.slice A2 n2 c2,.string name,.int .i32 c,.slice (some ⟨b,o,none⟩) 1 cc] W W1->Calls Tryz.prog 39 #[.int .i32 c] W1 (fun e w'=>∃ Ax nx cx,e= .returned (.slice Ax nx cx)/\RunQ (fun b=>b≠q) w' Ax nx [c]/\Lq q W1 w'/\RSt w0 q W.heap.size [.int .i64 16,.slice A1 n1 c1,.slice A2 n2 c2,.string name,.int .i32 c,.slice (some ⟨b,o,none⟩) 1 cc] W w')):=fun W1 h=>((one_q (q:=q) c W1 h.lo).mono fun e w1 h1=>h.retN _hq h1)
 have HAL:Hid (∀ W1 A50 n50 c50 A51 n51 c51,RSt w0 q W.heap.size [.int .i64 16,.slice A1 n1 c1,.slice A2 n2 c2,.string name,.int .i32 c,.slice (some ⟨b,o,none⟩) 1 cc] W W1->RunQ (fun b=>b≠q) W1 A50 n50 s0->RunQ (fun b=>b≠q) W1 A51 n51 [c]->Calls Tryz.prog 41 #[.slice (some ⟨W1.heap.size,0,none⟩) 2 2,.pointer (some ⟨q,0,none⟩)] (W1.alloc (.cells #[.slice A50 n50 c50,.slice A51 n51 c51] 27)) fun e w'=>∃ Ax nx cx,e= .returned (.slice Ax nx cx)/\RtQ q W (joinP s0 [c]) (.returned (.slice Ax nx cx)) w'/\RSt w0 q W.heap.size [.int .i64 16,.slice A1 n1 c1,.slice A2 n2 c2,.string name,.int .i32 c,.slice (some ⟨b,o,none⟩) 1 cc] W w'):=fun W1 A50 n50 c50 A51 n51 c51 h h50 h51=>all_st _hq (rows2 h50 h51) h 2 (by omega) (accJ2 s0 [c]) hl
 have HSA:Hid (∀ W1,RSt w0 q W.heap.size [.int .i64 16,.slice A1 n1 c1,.slice A2 n2 c2,.string name,.int .i32 c,.slice (some ⟨b,o,none⟩) 1 cc] W W1->W1.cell? ⟨W.heap.size,5,none⟩=some (.slice (some ⟨b,o,none⟩) 1 cc)/\W1.cell? ⟨W.heap.size,4,none⟩=some (.int .i32 c)/\W1.cell? ⟨b,o,none⟩=some u0/\W1.cell? ⟨b,o+1,none⟩=some u1/\W1.cell? ⟨b,o+2,none⟩=some u2/\W1.cell? ⟨b,o+3,none⟩=some u3/\W1.cell? ⟨b,o+4,none⟩=some u4/\W1.cell? ⟨b,o+5,none⟩=some u5):=fun W1 h=>⟨h.c6.2.2.2.2.2,h.c6.2.2.2.2.1,(HK0.out W1 h.bel).1,(HK0.out W1 h.bel).2.1,(HK0.out W1 h.bel).2.2.1,(HK0.out W1 h.bel).2.2.2.1,(HK0.out W1 h.bel).2.2.2.2.1,(HK0.out W1 h.bel).2.2.2.2.2⟩
 clear hr hb hL hrn hrt hkid hm hr0 hc0 H0 HR0 HK0 e0 hl
 go_enter Tryz.func87,Tryz.ntmps87
 obtain ⟨x0,x1,x2,x3,x4,x5⟩:=HX.out.c6
 go_wp2_with fail
 generalize W.alloc (.cells #[.int .i64 16,.slice A1 n1 c1,.slice A2 n2 c2,.string name,.int .i32 c,.slice (some ⟨b,o,none⟩) 1 cc] 29)=W0 at *
 have hd0:=HX.out.below (Below.refl _ W0).drew
 have hs1:=HSA.out _ hd0
 clear x0 x1 x2 x3 x4 x5
 go_region_held3 (fun W1=>W1.cell? ⟨W.heap.size,5,none⟩=some (.slice (some ⟨b,o,none⟩) 1 cc)/\W1.cell? ⟨W.heap.size,4,none⟩=some (.int .i32 c)/\W1.cell? ⟨b,o,none⟩=some u0/\W1.cell? ⟨b,o+1,none⟩=some u1/\W1.cell? ⟨b,o+2,none⟩=some u2/\W1.cell? ⟨b,o+3,none⟩=some u3/\W1.cell? ⟨b,o+4,none⟩=some u4/\W1.cell? ⟨b,o+5,none⟩=some u5)
  (first | assumption | exact hs1 | exact HSA.out _ (RSt.below (by assumption) (bel1 _ _)))
  (first
   | (go_at_call 40;(with_reducible refine (HI0.out _ (by assumption)).mono ?_);rintro e w50 ⟨A50,n50,c50,rfl,hr50,hq50,hst50⟩;have hs50:=HSA.out _ hst50;dsimp only)
   | (go_at_call 39;(with_reducible refine (HI1.out _ (by assumption)).mono ?_);rintro e w51 ⟨A51,n51,c51,rfl,hr51,hq51,hst51⟩;have hs51:=HSA.out _ hst51;dsimp only)
   | (go_at_call 41;(with_reducible refine (HAL.out _ _ _ _ _ _ _ hst51 (hr50.lq hq51) hr51).mono ?_);rintro e w90 ⟨A90,n90,c90,rfl,hf90,hst90⟩;have hs90:=HSA.out _ hst90;dsimp only))
 all_goals
  have HF:=Lib.hid hf90
  clear hf90
  go_wp2
  go_ret
  exact HF.out
theorem rest_19 (w0:World) (q:Nat) (_hq:w0.heap.size<=q) (nums:List Nat) (text:List Int) (name:ByteArray) (c:Int) (t0:RTree) (s0:List Int) (H0:Hid (TextP 40 w0 q t0 s0)) (t1:RTree) (s1:List Int) (H1:Hid (TextP 40 w0 q t1 s1)) (hl:(joinP s0 (joinP [58] s1)).length<=1099511627000) :
  TextP 87 w0 q (.mk 19 nums text name c [t0,t1]) (joinP s0 (joinP [58] s1)):=by
 intro v0 v1 v2 v3 v4 v5 W hr hb hL
 obtain ⟨nv,tv,A,cc,m,hvs,hrn,hrt,hm,hkid⟩:=hr.open_
 simp only [List.cons.injEq,and_true] at hvs
 obtain ⟨rfl,rfl,rfl,rfl,rfl,rfl⟩:=hvs
 obtain ⟨A1,c1,n1,rfl,-,-⟩:=hrn.opn
 obtain ⟨A2,c2,n2,rfl,-,-⟩:=hrt.opn
 obtain ⟨b,o,u0,u1,u2,u3,u4,u5,rfl,hr0,hc0⟩:=kq0 hkid
 obtain ⟨p0,p1,p2,p3,p4,p5,hr1,hc1⟩:=kq1 hkid
 obtain rfl:m=2:=by simpa using hm
 have HX:=Lib.hid (RSt.start hb hL [.int .i64 19,.slice A1 n1 c1,.slice A2 n2 c2,.string name,.int .i32 c,.slice (some ⟨b,o,none⟩) 2 cc] 29)
 have HR0:=Lib.hid hr0;have HK0:=Lib.hid hc0
 have HR1:=Lib.hid hr1;have HK1:=Lib.hid hc1
 have e0:=(joinP_len2 s0 (joinP [58] s1)).1
 have e1:=(joinP_len2 [58] s1).1
 have HL0:s0.length<=1099511627000:=by omega
 have HL2:s1.length<=1099511627000:=by omega
 have HLL:=Lib.hid hl
 have HI0:Hid (∀ W1,RSt w0 q W.heap.size [.int .i64 19,.slice A1 n1 c1,.slice A2 n2 c2,.string name,.int .i32 c,.slice (some ⟨b,o,none⟩) 2 cc] W W1->Calls Tryz.prog 83 #[.agg #[u0,u1,u2,u3,u4,u5],.bool false,.pointer (some ⟨q,0,none⟩)] W1 (fun e w'=>∃ Ax nx cx,e= .returned (.slice Ax nx cx)/\RunQ (fun b=>b≠q) w' Ax nx s0/\Lq q W1 w'/\RSt w0 q W.heap.size [.int .i64 19,.slice A1 n1 c1,.slice A2 n2 c2,.string name,.int .i32 c,.slice (some ⟨b,o,none⟩) 2 cc] W w')):=fun W1 h=>((round_any w0 q _hq t0 s0 false H0 (by exact HL0) u0 u1 u2 u3 u4 u5 W1 hr0 h.bel h.lo).mono fun e w1 h1=>h.ret _hq h1)
 have HI1:Hid (∀ W1,RSt w0 q W.heap.size [.int .i64 19,.slice A1 n1 c1,.slice A2 n2 c2,.string name,.int .i32 c,.slice (some ⟨b,o,none⟩) 2 cc] W W1->Calls Tryz.prog 39 #[.int .i32 58] W1 (fun e w'=>∃ Ax nx cx,e= .returned (.slice Ax nx cx)/\RunQ (fun b=>b≠q) w' Ax nx [58]/\Lq q W1 w'/\RSt w0 q W.heap.size [.int .i64 19,.slice A1 n1 c1,.slice A2 n2 c2,.string name,.int .i32 c,.slice (some ⟨b,o,none⟩) 2 cc] W w')):=fun W1 h=>((one_q (q:=q) 58 W1 h.lo).mono fun e w1 h1=>h.retN _hq h1)
 have HI2:Hid (∀ W1,RSt w0 q W.heap.size [.int .i64 19,.slice A1 n1 c1,.slice A2 n2 c2,.string name,.int .i32 c,.slice (some ⟨b,o,none⟩) 2 cc] W W1->Calls Tryz.prog 83 #[.agg #[p0,p1,p2,p3,p4,p5],.bool false,.pointer (some ⟨q,0,none⟩)] W1 (fun e w'=>∃ Ax nx cx,e= .returned (.slice Ax nx cx)/\RunQ (fun b=>b≠q) w' Ax nx s1/\Lq q W1 w'/\RSt w0 q W.heap.size [.int .i64 19,.slice A1 n1 c1,.slice A2 n2 c2,.string name,.int .i32 c,.slice (some ⟨b,o,none⟩) 2 cc] W w')):=fun W1 h=>((round_any w0 q _hq t1 s1 false H1 (by exact HL2) p0 p1 p2 p3 p4 p5 W1 hr1 h.bel h.lo).mono fun e w1 h1=>h.ret _hq h1)
 have HAL:Hid (∀ W1 A50 n50 c50 A51 n51 c51 A52 n52 c52,RSt w0 q W.heap.size [.int .i64 19,.slice A1 n1 c1,.slice A2 n2 c2,.string name,.int .i32 c,.slice (some ⟨b,o,none⟩) 2 cc] W W1->RunQ (fun b=>b≠q) W1 A50 n50 s0->RunQ (fun b=>b≠q) W1 A51 n51 [58]->RunQ (fun b=>b≠q) W1 A52 n52 s1->Calls Tryz.prog 41 #[.slice (some ⟨W1.heap.size,0,none⟩) 3 3,.pointer (some ⟨q,0,none⟩)] (W1.alloc (.cells #[.slice A50 n50 c50,.slice A51 n51 c51,.slice A52 n52 c52] 27)) fun e w'=>∃ Ax nx cx,e= .returned (.slice Ax nx cx)/\RtQ q W (joinP s0 (joinP [58] s1)) (.returned (.slice Ax nx cx)) w'/\RSt w0 q W.heap.size [.int .i64 19,.slice A1 n1 c1,.slice A2 n2 c2,.string name,.int .i32 c,.slice (some ⟨b,o,none⟩) 2 cc] W w'):=fun W1 A50 n50 c50 A51 n51 c51 A52 n52 c52 h h50 h51 h52=>all_st _hq (rows3 h50 h51 h52) h 3 (by omega) (accJ3 s0 [58] s1) hl
 have HSA:Hid (∀ W1,RSt w0 q W.heap.size [.int .i64 19,.slice A1 n1 c1,.slice A2 n2 c2,.string name,.int .i32 c,.slice (some ⟨b,o,none⟩) 2 cc] W W1->W1.cell? ⟨W.heap.size,5,none⟩=some (.slice (some ⟨b,o,none⟩) 2 cc)/\W1.cell? ⟨b,o,none⟩=some u0/\W1.cell? ⟨b,o+1,none⟩=some u1/\W1.cell? ⟨b,o+2,none⟩=some u2/\W1.cell? ⟨b,o+3,none⟩=some u3/\W1.cell? ⟨b,o+4,none⟩=some u4/\W1.cell? ⟨b,o+5,none⟩=some u5/\W1.cell? ⟨b,o+6,none⟩=some p0/\W1.cell? ⟨b,o+6+1,none⟩=some p1/\W1.cell? ⟨b,o+6+2,none⟩=some p2/\W1.cell? ⟨b,o+6+3,none⟩=some p3/\W1.cell? ⟨b,o+6+4,none⟩=some p4/\W1.cell? ⟨b,o+6+5,none⟩=some p5):=fun W1 h=>⟨h.c6.2.2.2.2.2,(HK0.out W1 h.bel).1,(HK0.out W1 h.bel).2.1,(HK0.out W1 h.bel).2.2.1,(HK0.out W1 h.bel).2.2.2.1,(HK0.out W1 h.bel).2.2.2.2.1,(HK0.out W1 h.bel).2.2.2.2.2,(HK1.out W1 h.bel).1,(HK1.out W1 h.bel).2.1,(HK1.out W1 h.bel).2.2.1,(HK1.out W1 h.bel).2.2.2.1,(HK1.out W1 h.bel).2.2.2.2.1,(HK1.out W1 h.bel).2.2.2.2.2⟩
 clear hr hb hL hrn hrt hkid hm hr0 hc0 H0 HR0 HK0 hr1 hc1 H1 HR1 HK1 e0 e1 hl HL0 HL2
 go_enter Tryz.func87,Tryz.ntmps87
 obtain ⟨x0,x1,x2,x3,x4,x5⟩:=HX.out.c6
 go_wp2_with fail
 generalize W.alloc (.cells #[.int .i64 19,.slice A1 n1 c1,.slice A2 n2 c2,.string name,.int .i32 c,.slice (some ⟨b,o,none⟩) 2 cc] 29)=W0 at *
 have hd0:=HX.out.below (Below.refl _ W0).drew
 have hs1:=HSA.out _ hd0
 clear x0 x1 x2 x3 x4 x5
 go_region_held3 (fun W1=>W1.cell? ⟨W.heap.size,5,none⟩=some (.slice (some ⟨b,o,none⟩) 2 cc)/\W1.cell? ⟨b,o,none⟩=some u0/\W1.cell? ⟨b,o+1,none⟩=some u1/\W1.cell? ⟨b,o+2,none⟩=some u2/\W1.cell? ⟨b,o+3,none⟩=some u3/\W1.cell? ⟨b,o+4,none⟩=some u4/\W1.cell? ⟨b,o+5,none⟩=some u5/\W1.cell? ⟨b,o+6,none⟩=some p0/\W1.cell? ⟨b,o+6+1,none⟩=some p1/\W1.cell? ⟨b,o+6+2,none⟩=some p2/\W1.cell? ⟨b,o+6+3,none⟩=some p3/\W1.cell? ⟨b,o+6+4,none⟩=some p4/\W1.cell? ⟨b,o+6+5,none⟩=some p5)
  (first | assumption | exact hs1 | exact HSA.out _ (RSt.below (by assumption) (bel1 _ _)))
  (first
   | (go_at_call 83;(with_reducible refine (HI0.out _ (by assumption)).mono ?_);rintro e w50 ⟨A50,n50,c50,rfl,hr50,hq50,hst50⟩;have hs50:=HSA.out _ hst50;dsimp only)
   | (go_at_call 39;(with_reducible refine (HI1.out _ (by assumption)).mono ?_);rintro e w51 ⟨A51,n51,c51,rfl,hr51,hq51,hst51⟩;have hs51:=HSA.out _ hst51;dsimp only)
   | (go_at_call 83;(with_reducible refine (HI2.out _ (by assumption)).mono ?_);rintro e w52 ⟨A52,n52,c52,rfl,hr52,hq52,hst52⟩;have hs52:=HSA.out _ hst52;dsimp only)
   | (go_at_call 41;(with_reducible refine (HAL.out _ _ _ _ _ _ _ _ _ _ hst52 ((hr50.lq hq51).lq hq52) (hr51.lq hq52) hr52).mono ?_);rintro e w90 ⟨A90,n90,c90,rfl,hf90,hst90⟩;have hs90:=HSA.out _ hst90;dsimp only))
 all_goals
  have HF:=Lib.hid hf90
  clear hf90
  go_wp2
  go_ret
  exact HF.out
theorem txt_9 (w0:World) (q:Nat) (_hq:w0.heap.size<=q) (nums:List Nat) (text:List Int) (name:ByteArray) (c:Int) (t0:RTree) (s0:List Int) (H0:Hid (TextP 40 w0 q t0 s0)) (t1:RTree) (s1:List Int) (H1:Hid (TextP 40 w0 q t1 s1)) (pb:Bool) (HPB:Hid (RTell 86 w0 t0 pb)) (hl:(joinP (wrapT (!pb) s0) s1).length<=1099511627000) :
  TextP 40 w0 q (.mk 9 nums text name c [t0,t1]) (joinP (wrapT (!pb) s0) s1):=by
 intro v0 v1 v2 v3 v4 v5 W hr hb hL
 obtain ⟨nv,tv,A,cc,m,hvs,hrn,hrt,hm,hkid⟩:=hr.open_
 simp only [List.cons.injEq,and_true] at hvs
 obtain ⟨rfl,rfl,rfl,rfl,rfl,rfl⟩:=hvs
 obtain ⟨A1,c1,n1,rfl,-,-⟩:=hrn.opn
 obtain ⟨A2,c2,n2,rfl,-,-⟩:=hrt.opn
 obtain ⟨b,o,u0,u1,u2,u3,u4,u5,rfl,hr0,hc0⟩:=kq0 hkid
 obtain ⟨p0,p1,p2,p3,p4,p5,hr1,hc1⟩:=kq1 hkid
 obtain rfl:m=2:=by simpa using hm
 have HX:=Lib.hid (RSt.start hb hL [.int .i64 9,.slice A1 n1 c1,.slice A2 n2 c2,.string name,.int .i32 c,.slice (some ⟨b,o,none⟩) 2 cc] 29)
 have HR0:=Lib.hid hr0;have HK0:=Lib.hid hc0
 have HR1:=Lib.hid hr1;have HK1:=Lib.hid hc1
 have e0:=(joinP_len2 (wrapT (!pb) s0) s1).1
 have HL0:(wrapT (!pb) s0).length<=1099511627000:=by omega
 have HL1:s1.length<=1099511627000:=by omega
 have HLL:=Lib.hid hl
 have HI0:Hid (∀ W1,RSt w0 q W.heap.size [.int .i64 9,.slice A1 n1 c1,.slice A2 n2 c2,.string name,.int .i32 c,.slice (some ⟨b,o,none⟩) 2 cc] W W1->Calls Tryz.prog 83 #[.agg #[u0,u1,u2,u3,u4,u5],.bool pb,.pointer (some ⟨q,0,none⟩)] W1 (fun e w'=>∃ Ax nx cx,e= .returned (.slice Ax nx cx)/\RunQ (fun b=>b≠q) w' Ax nx (wrapT (!pb) s0)/\Lq q W1 w'/\RSt w0 q W.heap.size [.int .i64 9,.slice A1 n1 c1,.slice A2 n2 c2,.string name,.int .i32 c,.slice (some ⟨b,o,none⟩) 2 cc] W w')):=fun W1 h=>((round_any w0 q _hq t0 s0 pb H0 (by exact HL0) u0 u1 u2 u3 u4 u5 W1 hr0 h.bel h.lo).mono fun e w1 h1=>h.ret _hq h1)
 have HI1:Hid (∀ W1,RSt w0 q W.heap.size [.int .i64 9,.slice A1 n1 c1,.slice A2 n2 c2,.string name,.int .i32 c,.slice (some ⟨b,o,none⟩) 2 cc] W W1->Calls Tryz.prog 83 #[.agg #[p0,p1,p2,p3,p4,p5],.bool false,.pointer (some ⟨q,0,none⟩)] W1 (fun e w'=>∃ Ax nx cx,e= .returned (.slice Ax nx cx)/\RunQ (fun b=>b≠q) w' Ax nx s1/\Lq q W1 w'/\RSt w0 q W.heap.size [.int .i64 9,.slice A1 n1 c1,.slice A2 n2 c2,.string name,.int .i32 c,.slice (some ⟨b,o,none⟩) 2 cc] W w')):=fun W1 h=>((round_any w0 q _hq t1 s1 false H1 (by exact HL1) p0 p1 p2 p3 p4 p5 W1 hr1 h.bel h.lo).mono fun e w1 h1=>h.ret _hq h1)
 have HPD:Hid (∀ W1,RSt w0 q W.heap.size [.int .i64 9,.slice A1 n1 c1,.slice A2 n2 c2,.string name,.int .i32 c,.slice (some ⟨b,o,none⟩) 2 cc] W W1->Calls Tryz.prog 86 #[.agg #[u0,u1,u2,u3,u4,u5]] W1 fun e w'=>e= .returned (.bool pb)/\Below W1.heap.size W1 w'):=fun W1 h=>HPB.out _ _ _ _ _ _ W1 hr0 h.bel
 have HAL:Hid (∀ W1 A50 n50 c50 A51 n51 c51,RSt w0 q W.heap.size [.int .i64 9,.slice A1 n1 c1,.slice A2 n2 c2,.string name,.int .i32 c,.slice (some ⟨b,o,none⟩) 2 cc] W W1->RunQ (fun b=>b≠q) W1 A50 n50 (wrapT (!pb) s0)->RunQ (fun b=>b≠q) W1 A51 n51 s1->Calls Tryz.prog 41 #[.slice (some ⟨W1.heap.size,0,none⟩) 2 2,.pointer (some ⟨q,0,none⟩)] (W1.alloc (.cells #[.slice A50 n50 c50,.slice A51 n51 c51] 27)) fun e w'=>∃ Ax nx cx,e= .returned (.slice Ax nx cx)/\RtQ q W (joinP (wrapT (!pb) s0) s1) (.returned (.slice Ax nx cx)) w'/\RSt w0 q W.heap.size [.int .i64 9,.slice A1 n1 c1,.slice A2 n2 c2,.string name,.int .i32 c,.slice (some ⟨b,o,none⟩) 2 cc] W w'):=fun W1 A50 n50 c50 A51 n51 c51 h h50 h51=>all_st _hq (rows2 h50 h51) h 2 (by omega) (accJ2 (wrapT (!pb) s0) s1) hl
 have HSA:Hid (∀ W1,RSt w0 q W.heap.size [.int .i64 9,.slice A1 n1 c1,.slice A2 n2 c2,.string name,.int .i32 c,.slice (some ⟨b,o,none⟩) 2 cc] W W1->W1.cell? ⟨W.heap.size,5,none⟩=some (.slice (some ⟨b,o,none⟩) 2 cc)/\W1.cell? ⟨b,o,none⟩=some u0/\W1.cell? ⟨b,o+1,none⟩=some u1/\W1.cell? ⟨b,o+2,none⟩=some u2/\W1.cell? ⟨b,o+3,none⟩=some u3/\W1.cell? ⟨b,o+4,none⟩=some u4/\W1.cell? ⟨b,o+5,none⟩=some u5/\W1.cell? ⟨b,o+6,none⟩=some p0/\W1.cell? ⟨b,o+6+1,none⟩=some p1/\W1.cell? ⟨b,o+6+2,none⟩=some p2/\W1.cell? ⟨b,o+6+3,none⟩=some p3/\W1.cell? ⟨b,o+6+4,none⟩=some p4/\W1.cell? ⟨b,o+6+5,none⟩=some p5):=fun W1 h=>⟨h.c6.2.2.2.2.2,(HK0.out W1 h.bel).1,(HK0.out W1 h.bel).2.1,(HK0.out W1 h.bel).2.2.1,(HK0.out W1 h.bel).2.2.2.1,(HK0.out W1 h.bel).2.2.2.2.1,(HK0.out W1 h.bel).2.2.2.2.2,(HK1.out W1 h.bel).1,(HK1.out W1 h.bel).2.1,(HK1.out W1 h.bel).2.2.1,(HK1.out W1 h.bel).2.2.2.1,(HK1.out W1 h.bel).2.2.2.2.1,(HK1.out W1 h.bel).2.2.2.2.2⟩
 clear hr hb hL hrn hrt hkid hm hr0 hc0 H0 HR0 HK0 hr1 hc1 H1 HR1 HK1 e0 hl HL0 HL1 HPB
 cases pb
 all_goals
  go_enter Tryz.func40,Tryz.ntmps40
  obtain ⟨x0,x1,x2,x3,x4,x5⟩:=HX.out.c6
  go_wp2_with fail
  generalize W.alloc (.cells #[.int .i64 9,.slice A1 n1 c1,.slice A2 n2 c2,.string name,.int .i32 c,.slice (some ⟨b,o,none⟩) 2 cc] 29)=W0 at *
  have hd0:=HX.out.below (Below.refl _ W0).drew
  have hs1:=HSA.out _ hd0
  clear x0 x1 x2 x3 x4 x5
  go_region_held3 (fun W1=>W1.cell? ⟨W.heap.size,5,none⟩=some (.slice (some ⟨b,o,none⟩) 2 cc)/\W1.cell? ⟨b,o,none⟩=some u0/\W1.cell? ⟨b,o+1,none⟩=some u1/\W1.cell? ⟨b,o+2,none⟩=some u2/\W1.cell? ⟨b,o+3,none⟩=some u3/\W1.cell? ⟨b,o+4,none⟩=some u4/\W1.cell? ⟨b,o+5,none⟩=some u5/\W1.cell? ⟨b,o+6,none⟩=some p0/\W1.cell? ⟨b,o+6+1,none⟩=some p1/\W1.cell? ⟨b,o+6+2,none⟩=some p2/\W1.cell? ⟨b,o+6+3,none⟩=some p3/\W1.cell? ⟨b,o+6+4,none⟩=some p4/\W1.cell? ⟨b,o+6+5,none⟩=some p5)
   (first | assumption | exact hs1 | exact HSA.out _ (RSt.below (by assumption) (bel1 _ _)))
   (first
    | (go_at_call 86;(with_reducible refine (HPD.out _ hd0).mono ?_);rintro e w49 ⟨rfl,hb49⟩;have hst49:=hd0.below hb49;have hs49:=HSA.out _ hst49;dsimp only)
    | (go_at_call 83;(with_reducible refine (HI0.out _ (by assumption)).mono ?_);rintro e w50 ⟨A50,n50,c50,rfl,hr50,hq50,hst50⟩;have hs50:=HSA.out _ hst50;dsimp only)
    | (go_at_call 83;(with_reducible refine (HI1.out _ (by assumption)).mono ?_);rintro e w51 ⟨A51,n51,c51,rfl,hr51,hq51,hst51⟩;have hs51:=HSA.out _ hst51;dsimp only)
    | (go_at_call 41;(with_reducible refine (HAL.out _ _ _ _ _ _ _ hst51 (hr50.lq hq51) hr51).mono ?_);rintro e w90 ⟨A90,n90,c90,rfl,hf90,hst90⟩;have hs90:=HSA.out _ hst90;dsimp only))
  all_goals
   have HF:=Lib.hid hf90
   clear hf90
   go_wp2
   go_ret
   exact HF.out
theorem txt_8 (w0:World) (q:Nat) (_hq:w0.heap.size<=q) (nums:List Nat) (text:List Int) (name:ByteArray) (c:Int) (t0:RTree) (s0:List Int) (H0:Hid (TextP 40 w0 q t0 s0)) (ts:List RTree) (tx:RTree->List Int) (hp:0 < ts.length) (hts:ts.length<=1048576) (HT:∀ i (hi:i < ts.length),TextP 40 w0 q ts[i] (tx ts[i])) (pb:Bool) (HPB:Hid (RTell 84 w0 t0 pb)) (hl:(joinP (wrapT pb s0) (brkT tx ts)).length<=1099511627000) :
  TextP 40 w0 q (.mk 8 nums text name c (t0::ts)) (joinP (wrapT pb s0) (brkT tx ts)):=by
 intro v0 v1 v2 v3 v4 v5 W hr hb hL
 obtain ⟨nv,tv,A,cc,m,hvs,hrn,hrt,hm,hkid⟩:=hr.open_
 simp only [List.cons.injEq,and_true] at hvs
 obtain ⟨rfl,rfl,rfl,rfl,rfl,rfl⟩:=hvs
 obtain ⟨A1,c1,n1,rfl,-,-⟩:=hrn.opn
 obtain ⟨A2,c2,n2,rfl,-,-⟩:=hrt.opn
 obtain ⟨b,o,u0,u1,u2,u3,u4,u5,rfl,hr0,hc0⟩:=kq0 hkid
 have hm1:m=ts.length+1:=by simpa using hm
 have hcap:m<=cc:=hr.cap
 have hm2:1 < m:=by omega
 have hp0:0 < m:=by omega
 have hpi:(0:Int) < (m:Int):=by omega
 have hpj:(1:Int)<=(m:Int):=by omega
 have hpk:(m:Int)<=(cc:Int):=by omega
 have hcne:¬ cc=1:=by omega
 have HX:=Lib.hid (RSt.start hb hL [.int .i64 8,.slice A1 n1 c1,.slice A2 n2 c2,.string name,.int .i32 c,.slice (some ⟨b,o,none⟩) m cc] 29)
 have HR0:=Lib.hid hr0;have HK0:=Lib.hid hc0
 have e0:=(joinP_len2 (wrapT pb s0) (brkT tx ts)).1
 have HL0:(wrapT pb s0).length<=1099511627000:=by omega
 have HL1:(brkT tx ts).length<=1099511627000:=by omega
 have HLL:=Lib.hid hl
 have HI0:Hid (∀ W1,RSt w0 q W.heap.size [.int .i64 8,.slice A1 n1 c1,.slice A2 n2 c2,.string name,.int .i32 c,.slice (some ⟨b,o,none⟩) m cc] W W1->Calls Tryz.prog 83 #[.agg #[u0,u1,u2,u3,u4,u5],.bool (!pb),.pointer (some ⟨q,0,none⟩)] W1 (fun e w'=>∃ Ax nx cx,e= .returned (.slice Ax nx cx)/\RunQ (fun b=>b≠q) w' Ax nx (wrapT pb s0)/\Lq q W1 w'/\RSt w0 q W.heap.size [.int .i64 8,.slice A1 n1 c1,.slice A2 n2 c2,.string name,.int .i32 c,.slice (some ⟨b,o,none⟩) m cc] W w')):=fun W1 h=>(by have h0:=(round_any w0 q _hq t0 s0 (!pb) H0 (by rw [Bool.not_not];exact HL0) u0 u1 u2 u3 u4 u5 W1 hr0 h.bel h.lo);rw [Bool.not_not] at h0;exact h0.mono fun e w1 h1=>h.ret _hq h1)
 have HI1:Hid (∀ W1,RSt w0 q W.heap.size [.int .i64 8,.slice A1 n1 c1,.slice A2 n2 c2,.string name,.int .i32 c,.slice (some ⟨b,o,none⟩) m cc] W W1->Calls Tryz.prog 85 #[.slice (some ⟨b,o+6,none⟩) (m - 1) (cc - 1),.int .i32 91,.int .i32 59,.int .i32 93,.pointer (some ⟨q,0,none⟩)] W1 (fun e w'=>∃ Ax nx cx,e= .returned (.slice Ax nx cx)/\RunQ (fun b=>b≠q) w' Ax nx (brkT tx ts)/\Lq q W1 w'/\RSt w0 q W.heap.size [.int .i64 8,.slice A1 n1 c1,.slice A2 n2 c2,.string name,.int .i32 c,.slice (some ⟨b,o,none⟩) m cc] W w')):=fun W1 h=>((rlist_any w0 q _hq tx 91 59 93 ts (some ⟨b,o+6,none⟩) (m - 1) (cc - 1) (by omega) (by omega) (KidR.tail hkid) HT (by exact HL1) W1 h.bel h.lo).mono fun e w1 h1=>h.ret _hq h1)
 have HPD:Hid (∀ W1,RSt w0 q W.heap.size [.int .i64 8,.slice A1 n1 c1,.slice A2 n2 c2,.string name,.int .i32 c,.slice (some ⟨b,o,none⟩) m cc] W W1->Calls Tryz.prog 84 #[.agg #[u0,u1,u2,u3,u4,u5]] W1 fun e w'=>e= .returned (.bool pb)/\Below W1.heap.size W1 w'):=fun W1 h=>HPB.out _ _ _ _ _ _ W1 hr0 h.bel
 have HAL:Hid (∀ W1 A50 n50 c50 A51 n51 c51,RSt w0 q W.heap.size [.int .i64 8,.slice A1 n1 c1,.slice A2 n2 c2,.string name,.int .i32 c,.slice (some ⟨b,o,none⟩) m cc] W W1->RunQ (fun b=>b≠q) W1 A50 n50 (wrapT pb s0)->RunQ (fun b=>b≠q) W1 A51 n51 (brkT tx ts)->Calls Tryz.prog 41 #[.slice (some ⟨W1.heap.size,0,none⟩) 2 2,.pointer (some ⟨q,0,none⟩)] (W1.alloc (.cells #[.slice A50 n50 c50,.slice A51 n51 c51] 27)) fun e w'=>∃ Ax nx cx,e= .returned (.slice Ax nx cx)/\RtQ q W (joinP (wrapT pb s0) (brkT tx ts)) (.returned (.slice Ax nx cx)) w'/\RSt w0 q W.heap.size [.int .i64 8,.slice A1 n1 c1,.slice A2 n2 c2,.string name,.int .i32 c,.slice (some ⟨b,o,none⟩) m cc] W w'):=fun W1 A50 n50 c50 A51 n51 c51 h h50 h51=>all_st _hq (rows2 h50 h51) h 2 (by omega) (accJ2 (wrapT pb s0) (brkT tx ts)) hl
 have HSA:Hid (∀ W1,RSt w0 q W.heap.size [.int .i64 8,.slice A1 n1 c1,.slice A2 n2 c2,.string name,.int .i32 c,.slice (some ⟨b,o,none⟩) m cc] W W1->W1.cell? ⟨W.heap.size,5,none⟩=some (.slice (some ⟨b,o,none⟩) m cc)/\W1.cell? ⟨b,o,none⟩=some u0/\W1.cell? ⟨b,o+1,none⟩=some u1/\W1.cell? ⟨b,o+2,none⟩=some u2/\W1.cell? ⟨b,o+3,none⟩=some u3/\W1.cell? ⟨b,o+4,none⟩=some u4/\W1.cell? ⟨b,o+5,none⟩=some u5):=fun W1 h=>⟨h.c6.2.2.2.2.2,(HK0.out W1 h.bel).1,(HK0.out W1 h.bel).2.1,(HK0.out W1 h.bel).2.2.1,(HK0.out W1 h.bel).2.2.2.1,(HK0.out W1 h.bel).2.2.2.2.1,(HK0.out W1 h.bel).2.2.2.2.2⟩
 clear hr hb hL hrn hrt hkid hm hr0 hc0 H0 HR0 HK0 e0 hl HL0 HL1 HPB HT hts hm1 hp
 cases pb
 all_goals
  go_enter Tryz.func40,Tryz.ntmps40
  obtain ⟨x0,x1,x2,x3,x4,x5⟩:=HX.out.c6
  go_wp2_with fail
  generalize W.alloc (.cells #[.int .i64 8,.slice A1 n1 c1,.slice A2 n2 c2,.string name,.int .i32 c,.slice (some ⟨b,o,none⟩) m cc] 29)=W0 at *
  have hd0:=HX.out.below (Below.refl _ W0).drew
  have hs1:=HSA.out _ hd0
  clear x0 x1 x2 x3 x4 x5
  go_region_held3 (fun W1=>W1.cell? ⟨W.heap.size,5,none⟩=some (.slice (some ⟨b,o,none⟩) m cc)/\W1.cell? ⟨b,o,none⟩=some u0/\W1.cell? ⟨b,o+1,none⟩=some u1/\W1.cell? ⟨b,o+2,none⟩=some u2/\W1.cell? ⟨b,o+3,none⟩=some u3/\W1.cell? ⟨b,o+4,none⟩=some u4/\W1.cell? ⟨b,o+5,none⟩=some u5)
   (first | assumption | exact hs1 | exact HSA.out _ (RSt.below (by assumption) (bel1 _ _)))
   (first
    | (go_at_call 84;(with_reducible refine (HPD.out _ hd0).mono ?_);rintro e w49 ⟨rfl,hb49⟩;have hst49:=hd0.below hb49;have hs49:=HSA.out _ hst49;dsimp only)
    | (go_at_call 83;(refine (HI0.out _ (by assumption)).mono ?_);rintro e w50 ⟨A50,n50,c50,rfl,hr50,hq50,hst50⟩;have hs50:=HSA.out _ hst50;dsimp only)
    | (go_at_call 85;(with_reducible refine (HI1.out _ (by assumption)).mono ?_);rintro e w51 ⟨A51,n51,c51,rfl,hr51,hq51,hst51⟩;have hs51:=HSA.out _ hst51;dsimp only)
    | (go_at_call 41;(with_reducible refine (HAL.out _ _ _ _ _ _ _ hst51 (hr50.lq hq51) hr51).mono ?_);rintro e w90 ⟨A90,n90,c90,rfl,hf90,hst90⟩;have hs90:=HSA.out _ hst90;dsimp only))
  all_goals
   have HF:=Lib.hid hf90
   clear hf90
   go_wp2
   go_ret
   exact HF.out
end Go.Proofs.YtbakjaliponbbaaGreatDoor
