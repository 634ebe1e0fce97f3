/- The reference's Text and rest where a part of a name gets something. Printed by .. Conditions: as each theorem says. -/
import Derived.Test.YtbakjaliponbbaaGreatDoorMg26
set_option maxRecDepth 100000
set_option maxHeartbeats 1600000
namespace Go.Proofs.YtbakjaliponbbaaGreatDoor
open Go Go.RowKit Go.Proofs Fl
theorem txt_12 (w0:World) (q:Nat) (_hq:w0.heap.size<=q) (nums:List Nat) (text:List Int) (name:ByteArray) (c:Int) (t0:RTree) (s0:List Int) (H0:Hid (TextP 40 w0 q t0 s0)) (hz:name.size<=70368744177664) (ts:List RTree) (tx:RTree->List Int) (hp:0 < ts.length) (hts:ts.length<=1048576) (HT:∀ i (hi:i < ts.length),TextP 40 w0 q ts[i] (tx ts[i])) (hl:(joinP (runesOf name) (joinP (brkT tx ts) (joinP [8592] s0))).length<=1099511627000) :
  TextP 40 w0 q (.mk 12 nums text name c (ts++[t0])) (joinP (runesOf name) (joinP (brkT tx ts) (joinP [8592] s0))):=by
 intro v0 v1 v2 v3 v4 v5 W hr hb hL
 obtain ⟨nv,tv,A,cc,m,hvs,hrn,hrt,hm,hkid⟩:=hr.open_
 simp only [List.cons.injEq,and_true] at hvs
 obtain ⟨rfl,rfl,rfl,rfl,rfl,rfl⟩:=hvs
 obtain ⟨A1,c1,n1,rfl,-,-⟩:=hrn.opn
 obtain ⟨A2,c2,n2,rfl,-,-⟩:=hrt.opn
 have hcap:m<=cc:=hr.cap
 obtain ⟨j,rfl⟩:∃ j,m=j+1:=⟨ts.length,by simpa using hm⟩
 have hj:j=ts.length:=by simpa using hm
 have hj0:0 < j:=by omega
 have hj2:j<=1048576:=by omega
 have hjc:j<=cc:=by omega
 have hjj:(j:Int) < (j:Int)+1:=by omega
 obtain ⟨b,o,rfl⟩:=KidR.some hkid (by simp)
 have hback:=KidR.back hkid hj
 obtain ⟨b',o',u0,u1,u2,u3,u4,u5,e,hr0,hc0⟩:=kq0 hback
 simp only [Option.some.injEq,Addr.mk.injEq,and_true] at e
 obtain ⟨rfl,rfl⟩:=e
 have HX:=Lib.hid (RSt.start hb hL [.int .i64 12,.slice A1 n1 c1,.slice A2 n2 c2,.string name,.int .i32 c,.slice (some ⟨b,o,none⟩) (j+1) cc] 29)
 have HK0:=Lib.hid hc0
 obtain ⟨CC,WW,HCV,hrv,hbv⟩:=conv_fn name hz
 have HBV:=Lib.hid hbv
 have HRV:=Lib.hid hrv
 generalize runesOf name=nm at *
 have HRQ:Hid (∀ W1,LoA W1 q->RunQ (fun b=>b≠q) (WW W1) (some ⟨W1.heap.size,0,none⟩) nm.length nm):=fun W1 h=>runQ_at (HRV.out W1) (by have:=h.lt;omega)
 generalize hnn:nm.length=nn at *
 have HNN:=Lib.hid hnn
 have e0:=(joinP_len2 nm (joinP (brkT tx ts) (joinP [8592] s0))).1
 have e1:=(joinP_len2 (brkT tx ts) (joinP [8592] s0)).1
 have e2:=(joinP_len2 [8592] s0).1
 have HLb:(brkT tx ts).length<=1099511627000:=by omega
 have HLs:s0.length<=1099511627000:=by omega
 have HIR:Hid (∀ W1,RSt w0 q W.heap.size [.int .i64 12,.slice A1 n1 c1,.slice A2 n2 c2,.string name,.int .i32 c,.slice (some ⟨b,o,none⟩) (j+1) cc] W W1->Calls Tryz.prog 83 #[.agg #[u0,u1,u2,u3,u4,u5],.bool false,.pointer (some ⟨q,0,none⟩)] W1 (fun e w'=>∃ Ax nx cx,e= .returned (.slice Ax nx cx)/\RunQ (fun b=>b≠q) w' Ax nx s0/\Lq q W1 w'/\RSt w0 q W.heap.size [.int .i64 12,.slice A1 n1 c1,.slice A2 n2 c2,.string name,.int .i32 c,.slice (some ⟨b,o,none⟩) (j+1) cc] W w')):=fun W1 h=>((round_any w0 q _hq t0 s0 false H0 (by exact HLs) u0 u1 u2 u3 u4 u5 W1 hr0 h.bel h.lo).mono fun e w1 h1=>h.ret _hq h1)
 have HIO:Hid (∀ W1,RSt w0 q W.heap.size [.int .i64 12,.slice A1 n1 c1,.slice A2 n2 c2,.string name,.int .i32 c,.slice (some ⟨b,o,none⟩) (j+1) cc] W W1->Calls Tryz.prog 39 #[.int .i32 8592] W1 (fun e w'=>∃ Ax nx cx,e= .returned (.slice Ax nx cx)/\RunQ (fun b=>b≠q) w' Ax nx [8592]/\Lq q W1 w'/\RSt w0 q W.heap.size [.int .i64 12,.slice A1 n1 c1,.slice A2 n2 c2,.string name,.int .i32 c,.slice (some ⟨b,o,none⟩) (j+1) cc] W w')):=fun W1 h=>((one_q (q:=q) 8592 W1 h.lo).mono fun e w1 h1=>h.retN _hq h1)
 have HIL:Hid (∀ W1,RSt w0 q W.heap.size [.int .i64 12,.slice A1 n1 c1,.slice A2 n2 c2,.string name,.int .i32 c,.slice (some ⟨b,o,none⟩) (j+1) cc] W W1->Calls Tryz.prog 85 #[.slice (some ⟨b,o,none⟩) j cc,.int .i32 91,.int .i32 59,.int .i32 93,.pointer (some ⟨q,0,none⟩)] W1 (fun e w'=>∃ Ax nx cx,e= .returned (.slice Ax nx cx)/\RunQ (fun b=>b≠q) w' Ax nx (brkT tx ts)/\Lq q W1 w'/\RSt w0 q W.heap.size [.int .i64 12,.slice A1 n1 c1,.slice A2 n2 c2,.string name,.int .i32 c,.slice (some ⟨b,o,none⟩) (j+1) cc] W w')):=fun W1 h=>((rlist_any w0 q _hq tx 91 59 93 ts (some ⟨b,o,none⟩) j cc hj (by omega) (KidR.front hkid) HT (by exact HLb) W1 h.bel h.lo).mono fun e w1 h1=>h.ret _hq h1)
 have HAL:Hid (∀ W1 A50 n50 c50 A51 n51 c51 A52 n52 c52 A53 n53 c53,RSt w0 q W.heap.size [.int .i64 12,.slice A1 n1 c1,.slice A2 n2 c2,.string name,.int .i32 c,.slice (some ⟨b,o,none⟩) (j+1) cc] W W1->RunQ (fun b=>b≠q) W1 A50 n50 nm->RunQ (fun b=>b≠q) W1 A51 n51 (brkT tx ts)->RunQ (fun b=>b≠q) W1 A52 n52 [8592]->RunQ (fun b=>b≠q) W1 A53 n53 s0->Calls Tryz.prog 41 #[.slice (some ⟨W1.heap.size,0,none⟩) 4 4,.pointer (some ⟨q,0,none⟩)] (W1.alloc (.cells #[.slice A50 n50 c50,.slice A51 n51 c51,.slice A52 n52 c52,.slice A53 n53 c53] 27)) fun e w'=>∃ Ax nx cx,e= .returned (.slice Ax nx cx)/\RtQ q W (joinP nm (joinP (brkT tx ts) (joinP [8592] s0))) (.returned (.slice Ax nx cx)) w'/\RSt w0 q W.heap.size [.int .i64 12,.slice A1 n1 c1,.slice A2 n2 c2,.string name,.int .i32 c,.slice (some ⟨b,o,none⟩) (j+1) cc] W w'):=fun W1 A50 n50 c50 A51 n51 c51 A52 n52 c52 A53 n53 c53 h h50 h51 h52 h53=>all_st _hq (rows4 h50 h51 h52 h53) h 4 (by omega) (accJ4 nm (brkT tx ts) [8592] s0) hl
 have HSA:Hid (∀ W1,RSt w0 q W.heap.size [.int .i64 12,.slice A1 n1 c1,.slice A2 n2 c2,.string name,.int .i32 c,.slice (some ⟨b,o,none⟩) (j+1) cc] W W1->W1.cell? ⟨W.heap.size,5,none⟩=some (.slice (some ⟨b,o,none⟩) (j+1) cc)/\W1.cell? ⟨W.heap.size,3,none⟩=some (.string name)/\W1.cell? ⟨b,o+j*6,none⟩=some u0/\W1.cell? ⟨b,o+j*6+1,none⟩=some u1/\W1.cell? ⟨b,o+j*6+2,none⟩=some u2/\W1.cell? ⟨b,o+j*6+3,none⟩=some u3/\W1.cell? ⟨b,o+j*6+4,none⟩=some u4/\W1.cell? ⟨b,o+j*6+5,none⟩=some u5):=fun W1 h=>⟨h.c6.2.2.2.2.2,h.c6.2.2.2.1,(HK0.out W1 h.bel).1,(HK0.out W1 h.bel).2.1,(HK0.out W1 h.bel).2.2.1,(HK0.out W1 h.bel).2.2.2.1,(HK0.out W1 h.bel).2.2.2.2.1,(HK0.out W1 h.bel).2.2.2.2.2⟩
 clear hr hb hL hrn hrt hkid hm hr0 hc0 H0 HK0 hl hz hrv hbv HRV HLs hnn e0 e1 e2 HLb HT hts hp hback hj
 go_enter Tryz.func40,Tryz.ntmps40
 obtain ⟨x0,x1,x2,x3,x4,x5⟩:=HX.out.c6
 go_wp2_with fail
 generalize W.alloc (.cells #[.int .i64 12,.slice A1 n1 c1,.slice A2 n2 c2,.string name,.int .i32 c,.slice (some ⟨b,o,none⟩) (j+1) cc] 29)=W0 at *
 have hd0:=HX.out.below (Below.refl _ W0).drew
 have hs1:=HSA.out _ hd0
 have hrd:RunQ (fun b=>b≠q) (WW W0.drew) (some ⟨W0.heap.size,0,none⟩) nn nm:=HRQ.out _ hd0.lo
 clear x0 x1 x2 x3 x4 x5
 refine wp_region_noPanic ?_
 refine wp_region_held_drew (S:=fun W1=>W1.cell? ⟨W.heap.size,5,none⟩=some (.slice (some ⟨b,o,none⟩) (j+1) cc)/\W1.cell? ⟨W.heap.size,3,none⟩=some (.string name)/\W1.cell? ⟨b,o+j*6,none⟩=some u0/\W1.cell? ⟨b,o+j*6+1,none⟩=some u1/\W1.cell? ⟨b,o+j*6+2,none⟩=some u2/\W1.cell? ⟨b,o+j*6+3,none⟩=some u3/\W1.cell? ⟨b,o+j*6+4,none⟩=some u4/\W1.cell? ⟨b,o+j*6+5,none⟩=some u5) (by kernel_rfl) (by exact hs1) (fun hHeld=>?_)
 refine wpAnyH_take (i:=0) (v:=?av1) rfl (by kernel_rfl) (by kernel_rfl) (by kernel_rfl) (fun _ _ _ h=>h) (Or.inl ⟨by rfl,?ay1⟩) (by assumption) ?as1
 case ay1=>(intro w hSw;(try dsimp only at hSw);go_simp;try with_reducible rfl)
 refine wpAnyH_take (i:=1) (v:=?av2) rfl (by kernel_rfl) (by kernel_rfl) (by kernel_rfl) (fun _ _ _ h=>h) (Or.inl ⟨by rfl,?ay2⟩) (by assumption) ?as2
 case ay2=>(intro w hSw;(try dsimp only at hSw);go_simp;try with_reducible rfl)
 refine wpAnyH_take (i:=3) (v:=?av3) rfl (by kernel_rfl) (by kernel_rfl) (by kernel_rfl) (fun _ _ _ h=>h) (Or.inl ⟨by rfl,?ay3⟩) (by assumption) ?as3
 case ay3=>(intro w hSw;(try dsimp only at hSw);go_simp;try with_reducible rfl)
 refine wpAnyH_take (i:=4) (v:=?av4) rfl (by kernel_rfl) (by kernel_rfl) (by kernel_rfl) (fun _ _ _ h=>h) (Or.inl ⟨by rfl,?ay4⟩) (by assumption) ?as4
 case ay4=>(intro w hSw;(try dsimp only at hSw);go_simp;try with_reducible rfl)
 refine wpAnyH_take (i:=5) (v:=?av5) rfl (by kernel_rfl) (by kernel_rfl) (by kernel_rfl) (fun _ _ _ h=>h) (Or.inl ⟨by rfl,?ay5⟩) (by assumption) ?as5
 case ay5=>(intro w hSw;(try dsimp only at hSw);go_simp;try with_reducible rfl)
 refine wpAnyH_take (i:=6) (v:=?av6) rfl (by kernel_rfl) (by kernel_rfl) (by kernel_rfl) (fun _ _ _ h=>h) (Or.inl ⟨by rfl,?ay6⟩) (by assumption) ?as6
 case ay6=>(intro w hSw;(try dsimp only at hSw);go_simp;try with_reducible rfl)
 refine wpAnyH_take (i:=7) (v:=?av7) rfl (by kernel_rfl) (by kernel_rfl) (by kernel_rfl) (fun _ _ _ h=>h) (Or.inl ⟨by rfl,?ay7⟩) (by assumption) ?as7
 case ay7=>(intro w hSw;(try dsimp only at hSw);go_simp;try with_reducible rfl)
 refine wpAnyH_take (i:=10) (v:=?av8) rfl (by kernel_rfl) (by kernel_rfl) (by kernel_rfl) (fun _ _ _ h=>h) (Or.inl ⟨by rfl,?ay8⟩) (by assumption) ?as8
 case ay8=>(intro w hSw;(try dsimp only at hSw);go_simp;try with_reducible rfl)
 refine wpAnyH_take (i:=11) (v:=?av9) rfl (by kernel_rfl) (by kernel_rfl) (by kernel_rfl) (fun _ _ _ h=>h) (Or.inl ⟨by rfl,?ay9⟩) (by assumption) ?as9
 case ay9=>(intro w hSw;(try dsimp only at hSw);go_simp;try with_reducible rfl)
 refine wpAnyH_take (i:=12) (v:=?av10) rfl (by kernel_rfl) (by kernel_rfl) (by kernel_rfl) (fun _ _ _ h=>h) (Or.inl ⟨by rfl,?ay10⟩) (by assumption) ?as10
 case ay10=>(intro w hSw;(try dsimp only at hSw);go_simp;try with_reducible rfl)
 refine wpAnyH_take (i:=13) (v:=?av11) rfl (by kernel_rfl) (by kernel_rfl) (by kernel_rfl) (fun _ _ _ h=>h) (Or.inl ⟨by rfl,?ay11⟩) (by assumption) ?as11
 case ay11=>(intro w hSw;(try dsimp only at hSw);go_simp;try with_reducible rfl)
 refine wpAnyH_take (i:=14) (v:=?av12) rfl (by kernel_rfl) (by kernel_rfl) (by kernel_rfl) (fun _ _ _ h=>h) (Or.inl ⟨by rfl,?ay12⟩) (by assumption) ?as12
 case ay12=>(intro w hSw;(try dsimp only at hSw);go_simp;try with_reducible rfl)
 refine wpAnyH_take (i:=15) (v:=?av13) rfl (by kernel_rfl) (by kernel_rfl) (by kernel_rfl) (fun _ _ _ h=>h) (Or.inl ⟨by rfl,?ay13⟩) (by assumption) ?as13
 case ay13=>(intro w hSw;(try dsimp only at hSw);go_simp;try with_reducible rfl)
 refine wpAnyH_take (i:=18) (v:=?av14) rfl (by kernel_rfl) (by kernel_rfl) (by kernel_rfl) (fun _ _ _ h=>h) (Or.inl ⟨by rfl,?ay14⟩) (by assumption) ?as14
 case ay14=>(intro w hSw;(try dsimp only at hSw);go_simp;try with_reducible rfl)
 refine wpAnyH_ready (rs:=[2,8]) (by kernel_rfl) (by simp) ?_
 refine AllReadyH.cons rfl (fun K hK=>?_) (AllReadyH.cons rfl (fun K hK=>?_) AllReadyH.nil)
 ·go_simp
  refine hK.out _ _ (by first | assumption | exact hs1 | exact HSA.out _ (RSt.below (by assumption) (bel1 _ _)) | exact HSA.out _ (RSt.below (by assumption) (HBV.out _)) | exact HSA.out _ (RSt.below (RSt.below (by assumption) (HBV.out _)) (bel1 _ _))) (fun hHeld=>?_)
  clear hK K
  refine wpAnyH_ready (rs:=[8]) (by kernel_rfl) (by simp) ?_
  refine AllReadyH.cons rfl (fun K hK=>?_) AllReadyH.nil
  go_simp
  (go_at_call 85;(with_reducible refine (HIL.out _ (by first | assumption | exact RSt.below (by assumption) (HBV.out _))).mono ?_);rintro e w51 ⟨A51,n51,c51,rfl,hr51,hq51,hst51⟩;have hs51:=HSA.out _ hst51;dsimp only)
  refine hK.out _ _ (by first | assumption | exact hs1 | exact HSA.out _ (RSt.below (by assumption) (bel1 _ _)) | exact HSA.out _ (RSt.below (by assumption) (HBV.out _)) | exact HSA.out _ (RSt.below (RSt.below (by assumption) (HBV.out _)) (bel1 _ _))) (fun hHeld=>?_)
  clear hK K
  refine wpAnyH_ready (rs:=[9]) (by kernel_rfl) (by simp) ?_
  refine AllReadyH.cons rfl (fun K hK=>?_) AllReadyH.nil
  go_simp
  (go_at_call 39;(with_reducible refine (HIO.out _ (by first | assumption | exact RSt.below (by assumption) (HBV.out _))).mono ?_);rintro e w52 ⟨A52,n52,c52,rfl,hr52,hq52,hst52⟩;have hs52:=HSA.out _ hst52;dsimp only)
  refine hK.out _ _ (by first | assumption | exact hs1 | exact HSA.out _ (RSt.below (by assumption) (bel1 _ _)) | exact HSA.out _ (RSt.below (by assumption) (HBV.out _)) | exact HSA.out _ (RSt.below (RSt.below (by assumption) (HBV.out _)) (bel1 _ _))) (fun hHeld=>?_)
  clear hK K
  refine wpAnyH_ready (rs:=[16]) (by kernel_rfl) (by simp) ?_
  refine AllReadyH.cons rfl (fun K hK=>?_) AllReadyH.nil
  go_simp
  (go_at_call 83;(with_reducible refine (HIR.out _ (by first | assumption | exact RSt.below (by assumption) (HBV.out _))).mono ?_);rintro e w53 ⟨A53,n53,c53,rfl,hr53,hq53,hst53⟩;have hs53:=HSA.out _ hst53;dsimp only)
  refine hK.out _ _ (by first | assumption | exact hs1 | exact HSA.out _ (RSt.below (by assumption) (bel1 _ _)) | exact HSA.out _ (RSt.below (by assumption) (HBV.out _)) | exact HSA.out _ (RSt.below (RSt.below (by assumption) (HBV.out _)) (bel1 _ _))) (fun hHeld=>?_)
  clear hK K
  refine wpAnyH_ready (rs:=[17]) (by kernel_rfl) (by simp) ?_
  refine AllReadyH.cons rfl (fun K hK=>?_) AllReadyH.nil
  go_simp
  refine hK.out _ _ (by first | assumption | exact hs1 | exact HSA.out _ (RSt.below (by assumption) (bel1 _ _)) | exact HSA.out _ (RSt.below (by assumption) (HBV.out _)) | exact HSA.out _ (RSt.below (RSt.below (by assumption) (HBV.out _)) (bel1 _ _))) (fun hHeld=>?_)
  clear hK K
  refine wpAnyH_ready (rs:=[19]) (by kernel_rfl) (by simp) ?_
  refine AllReadyH.cons rfl (fun K hK=>?_) AllReadyH.nil
  go_simp
  (go_at_call 41;(with_reducible refine (HAL.out _ _ _ _ _ _ _ _ _ _ _ _ _ hst53 (((hrd.lq hq51).lq hq52).lq hq53) ((hr51.lq hq52).lq hq53) (hr52.lq hq53) hr53).mono ?_);rintro e w90 ⟨A90,n90,c90,rfl,hf90,hst90⟩;have hs90:=HSA.out _ hst90;dsimp only)
  refine hK.out _ _ (by first | assumption | exact hs1 | exact HSA.out _ (RSt.below (by assumption) (bel1 _ _)) | exact HSA.out _ (RSt.below (by assumption) (HBV.out _)) | exact HSA.out _ (RSt.below (RSt.below (by assumption) (HBV.out _)) (bel1 _ _))) (fun hHeld=>?_)
  clear hK K
  refine wpAnyH_ready (rs:=[20]) (by kernel_rfl) (by simp) ?_
  refine AllReadyH.cons rfl (fun K hK=>?_) AllReadyH.nil
  go_simp
  refine hK.out _ _ (by first | assumption | exact hs1 | exact HSA.out _ (RSt.below (by assumption) (bel1 _ _)) | exact HSA.out _ (RSt.below (by assumption) (HBV.out _)) | exact HSA.out _ (RSt.below (RSt.below (by assumption) (HBV.out _)) (bel1 _ _))) (fun hHeld=>?_)
  clear hK K
  refine wpAnyH_done (by kernel_rfl) ?_ _
  refine NoPanic.normal ?_
  have HF:=Lib.hid hf90
  clear hf90
  go_wp2
  go_ret
  exact HF.out
 ·go_simp
  (go_at_call 85;(with_reducible refine (HIL.out _ (by first | assumption | exact RSt.below (by assumption) (HBV.out _))).mono ?_);rintro e w51 ⟨A51,n51,c51,rfl,hr51,hq51,hst51⟩;have hs51:=HSA.out _ hst51;dsimp only)
  refine hK.out _ _ (by first | assumption | exact hs1 | exact HSA.out _ (RSt.below (by assumption) (bel1 _ _)) | exact HSA.out _ (RSt.below (by assumption) (HBV.out _)) | exact HSA.out _ (RSt.below (RSt.below (by assumption) (HBV.out _)) (bel1 _ _))) (fun hHeld=>?_)
  clear hK K
  refine wpAnyH_ready (rs:=[2,9]) (by kernel_rfl) (by simp) ?_
  refine AllReadyH.cons rfl (fun K hK=>?_) (AllReadyH.cons rfl (fun K hK=>?_) AllReadyH.nil)
  ·go_simp
   refine hK.out _ _ (by first | assumption | exact hs1 | exact HSA.out _ (RSt.below (by assumption) (bel1 _ _)) | exact HSA.out _ (RSt.below (by assumption) (HBV.out _)) | exact HSA.out _ (RSt.below (RSt.below (by assumption) (HBV.out _)) (bel1 _ _))) (fun hHeld=>?_)
   clear hK K
   refine wpAnyH_ready (rs:=[9]) (by kernel_rfl) (by simp) ?_
   refine AllReadyH.cons rfl (fun K hK=>?_) AllReadyH.nil
   go_simp
   (go_at_call 39;(with_reducible refine (HIO.out _ (by first | assumption | exact RSt.below (by assumption) (HBV.out _))).mono ?_);rintro e w52 ⟨A52,n52,c52,rfl,hr52,hq52,hst52⟩;have hs52:=HSA.out _ hst52;dsimp only)
   refine hK.out _ _ (by first | assumption | exact hs1 | exact HSA.out _ (RSt.below (by assumption) (bel1 _ _)) | exact HSA.out _ (RSt.below (by assumption) (HBV.out _)) | exact HSA.out _ (RSt.below (RSt.below (by assumption) (HBV.out _)) (bel1 _ _))) (fun hHeld=>?_)
   clear hK K
   refine wpAnyH_ready (rs:=[16]) (by kernel_rfl) (by simp) ?_
   refine AllReadyH.cons rfl (fun K hK=>?_) AllReadyH.nil
   go_simp
   (go_at_call 83;(with_reducible refine (HIR.out _ (by first | assumption | exact RSt.below (by assumption) (HBV.out _))).mono ?_);rintro e w53 ⟨A53,n53,c53,rfl,hr53,hq53,hst53⟩;have hs53:=HSA.out _ hst53;dsimp only)
   refine hK.out _ _ (by first | assumption | exact hs1 | exact HSA.out _ (RSt.below (by assumption) (bel1 _ _)) | exact HSA.out _ (RSt.below (by assumption) (HBV.out _)) | exact HSA.out _ (RSt.below (RSt.below (by assumption) (HBV.out _)) (bel1 _ _))) (fun hHeld=>?_)
   clear hK K
   refine wpAnyH_ready (rs:=[17]) (by kernel_rfl) (by simp) ?_
   refine AllReadyH.cons rfl (fun K hK=>?_) AllReadyH.nil
   go_simp
   refine hK.out _ _ (by first | assumption | exact hs1 | exact HSA.out _ (RSt.below (by assumption) (bel1 _ _)) | exact HSA.out _ (RSt.below (by assumption) (HBV.out _)) | exact HSA.out _ (RSt.below (RSt.below (by assumption) (HBV.out _)) (bel1 _ _))) (fun hHeld=>?_)
   clear hK K
   refine wpAnyH_ready (rs:=[19]) (by kernel_rfl) (by simp) ?_
   refine AllReadyH.cons rfl (fun K hK=>?_) AllReadyH.nil
   go_simp
   (go_at_call 41;(with_reducible refine (HAL.out _ _ _ _ _ _ _ _ _ _ _ _ _ hst53 (((HRQ.out _ hst51.lo).lq hq52).lq hq53) (((hr51.lq (.of (HBV.out _))).lq hq52).lq hq53) (hr52.lq hq53) hr53).mono ?_);rintro e w90 ⟨A90,n90,c90,rfl,hf90,hst90⟩;have hs90:=HSA.out _ hst90;dsimp only)
   refine hK.out _ _ (by first | assumption | exact hs1 | exact HSA.out _ (RSt.below (by assumption) (bel1 _ _)) | exact HSA.out _ (RSt.below (by assumption) (HBV.out _)) | exact HSA.out _ (RSt.below (RSt.below (by assumption) (HBV.out _)) (bel1 _ _))) (fun hHeld=>?_)
   clear hK K
   refine wpAnyH_ready (rs:=[20]) (by kernel_rfl) (by simp) ?_
   refine AllReadyH.cons rfl (fun K hK=>?_) AllReadyH.nil
   go_simp
   refine hK.out _ _ (by first | assumption | exact hs1 | exact HSA.out _ (RSt.below (by assumption) (bel1 _ _)) | exact HSA.out _ (RSt.below (by assumption) (HBV.out _)) | exact HSA.out _ (RSt.below (RSt.below (by assumption) (HBV.out _)) (bel1 _ _))) (fun hHeld=>?_)
   clear hK K
   refine wpAnyH_done (by kernel_rfl) ?_ _
   refine NoPanic.normal ?_
   have HF:=Lib.hid hf90
   clear hf90
   go_wp2
   go_ret
   exact HF.out
  ·go_simp
   (go_at_call 39;(with_reducible refine (HIO.out _ (by first | assumption | exact RSt.below (by assumption) (HBV.out _))).mono ?_);rintro e w52 ⟨A52,n52,c52,rfl,hr52,hq52,hst52⟩;have hs52:=HSA.out _ hst52;dsimp only)
   refine hK.out _ _ (by first | assumption | exact hs1 | exact HSA.out _ (RSt.below (by assumption) (bel1 _ _)) | exact HSA.out _ (RSt.below (by assumption) (HBV.out _)) | exact HSA.out _ (RSt.below (RSt.below (by assumption) (HBV.out _)) (bel1 _ _))) (fun hHeld=>?_)
   clear hK K
   refine wpAnyH_ready (rs:=[2,16]) (by kernel_rfl) (by simp) ?_
   refine AllReadyH.cons rfl (fun K hK=>?_) (AllReadyH.cons rfl (fun K hK=>?_) AllReadyH.nil)
   ·go_simp
    refine hK.out _ _ (by first | assumption | exact hs1 | exact HSA.out _ (RSt.below (by assumption) (bel1 _ _)) | exact HSA.out _ (RSt.below (by assumption) (HBV.out _)) | exact HSA.out _ (RSt.below (RSt.below (by assumption) (HBV.out _)) (bel1 _ _))) (fun hHeld=>?_)
    clear hK K
    refine wpAnyH_ready (rs:=[16]) (by kernel_rfl) (by simp) ?_
    refine AllReadyH.cons rfl (fun K hK=>?_) AllReadyH.nil
    go_simp
    (go_at_call 83;(with_reducible refine (HIR.out _ (by first | assumption | exact RSt.below (by assumption) (HBV.out _))).mono ?_);rintro e w53 ⟨A53,n53,c53,rfl,hr53,hq53,hst53⟩;have hs53:=HSA.out _ hst53;dsimp only)
    refine hK.out _ _ (by first | assumption | exact hs1 | exact HSA.out _ (RSt.below (by assumption) (bel1 _ _)) | exact HSA.out _ (RSt.below (by assumption) (HBV.out _)) | exact HSA.out _ (RSt.below (RSt.below (by assumption) (HBV.out _)) (bel1 _ _))) (fun hHeld=>?_)
    clear hK K
    refine wpAnyH_ready (rs:=[17]) (by kernel_rfl) (by simp) ?_
    refine AllReadyH.cons rfl (fun K hK=>?_) AllReadyH.nil
    go_simp
    refine hK.out _ _ (by first | assumption | exact hs1 | exact HSA.out _ (RSt.below (by assumption) (bel1 _ _)) | exact HSA.out _ (RSt.below (by assumption) (HBV.out _)) | exact HSA.out _ (RSt.below (RSt.below (by assumption) (HBV.out _)) (bel1 _ _))) (fun hHeld=>?_)
    clear hK K
    refine wpAnyH_ready (rs:=[19]) (by kernel_rfl) (by simp) ?_
    refine AllReadyH.cons rfl (fun K hK=>?_) AllReadyH.nil
    go_simp
    (go_at_call 41;(with_reducible refine (HAL.out _ _ _ _ _ _ _ _ _ _ _ _ _ hst53 ((HRQ.out _ hst52.lo).lq hq53) (((hr51.lq hq52).lq (.of (HBV.out _))).lq hq53) ((hr52.lq (.of (HBV.out _))).lq hq53) hr53).mono ?_);rintro e w90 ⟨A90,n90,c90,rfl,hf90,hst90⟩;have hs90:=HSA.out _ hst90;dsimp only)
    refine hK.out _ _ (by first | assumption | exact hs1 | exact HSA.out _ (RSt.below (by assumption) (bel1 _ _)) | exact HSA.out _ (RSt.below (by assumption) (HBV.out _)) | exact HSA.out _ (RSt.below (RSt.below (by assumption) (HBV.out _)) (bel1 _ _))) (fun hHeld=>?_)
    clear hK K
    refine wpAnyH_ready (rs:=[20]) (by kernel_rfl) (by simp) ?_
    refine AllReadyH.cons rfl (fun K hK=>?_) AllReadyH.nil
    go_simp
    refine hK.out _ _ (by first | assumption | exact hs1 | exact HSA.out _ (RSt.below (by assumption) (bel1 _ _)) | exact HSA.out _ (RSt.below (by assumption) (HBV.out _)) | exact HSA.out _ (RSt.below (RSt.below (by assumption) (HBV.out _)) (bel1 _ _))) (fun hHeld=>?_)
    clear hK K
    refine wpAnyH_done (by kernel_rfl) ?_ _
    refine NoPanic.normal ?_
    have HF:=Lib.hid hf90
    clear hf90
    go_wp2
    go_ret
    exact HF.out
   ·go_simp
    (go_at_call 83;(with_reducible refine (HIR.out _ (by first | assumption | exact RSt.below (by assumption) (HBV.out _))).mono ?_);rintro e w53 ⟨A53,n53,c53,rfl,hr53,hq53,hst53⟩;have hs53:=HSA.out _ hst53;dsimp only)
    refine hK.out _ _ (by first | assumption | exact hs1 | exact HSA.out _ (RSt.below (by assumption) (bel1 _ _)) | exact HSA.out _ (RSt.below (by assumption) (HBV.out _)) | exact HSA.out _ (RSt.below (RSt.below (by assumption) (HBV.out _)) (bel1 _ _))) (fun hHeld=>?_)
    clear hK K
    refine wpAnyH_ready (rs:=[2]) (by kernel_rfl) (by simp) ?_
    refine AllReadyH.cons rfl (fun K hK=>?_) AllReadyH.nil
    go_simp
    refine hK.out _ _ (by first | assumption | exact hs1 | exact HSA.out _ (RSt.below (by assumption) (bel1 _ _)) | exact HSA.out _ (RSt.below (by assumption) (HBV.out _)) | exact HSA.out _ (RSt.below (RSt.below (by assumption) (HBV.out _)) (bel1 _ _))) (fun hHeld=>?_)
    clear hK K
    refine wpAnyH_ready (rs:=[17]) (by kernel_rfl) (by simp) ?_
    refine AllReadyH.cons rfl (fun K hK=>?_) AllReadyH.nil
    go_simp
    refine hK.out _ _ (by first | assumption | exact hs1 | exact HSA.out _ (RSt.below (by assumption) (bel1 _ _)) | exact HSA.out _ (RSt.below (by assumption) (HBV.out _)) | exact HSA.out _ (RSt.below (RSt.below (by assumption) (HBV.out _)) (bel1 _ _))) (fun hHeld=>?_)
    clear hK K
    refine wpAnyH_ready (rs:=[19]) (by kernel_rfl) (by simp) ?_
    refine AllReadyH.cons rfl (fun K hK=>?_) AllReadyH.nil
    go_simp
    (go_at_call 41;(with_reducible refine (HAL.out _ _ _ _ _ _ _ _ _ _ _ _ _ (RSt.below hst53 (HBV.out _)) (HRQ.out _ hst53.lo) (((hr51.lq hq52).lq hq53).lq (.of (HBV.out _))) ((hr52.lq hq53).lq (.of (HBV.out _))) (hr53.lq (.of (HBV.out _)))).mono ?_);rintro e w90 ⟨A90,n90,c90,rfl,hf90,hst90⟩;have hs90:=HSA.out _ hst90;dsimp only)
    refine hK.out _ _ (by first | assumption | exact hs1 | exact HSA.out _ (RSt.below (by assumption) (bel1 _ _)) | exact HSA.out _ (RSt.below (by assumption) (HBV.out _)) | exact HSA.out _ (RSt.below (RSt.below (by assumption) (HBV.out _)) (bel1 _ _))) (fun hHeld=>?_)
    clear hK K
    refine wpAnyH_ready (rs:=[20]) (by kernel_rfl) (by simp) ?_
    refine AllReadyH.cons rfl (fun K hK=>?_) AllReadyH.nil
    go_simp
    refine hK.out _ _ (by first | assumption | exact hs1 | exact HSA.out _ (RSt.below (by assumption) (bel1 _ _)) | exact HSA.out _ (RSt.below (by assumption) (HBV.out _)) | exact HSA.out _ (RSt.below (RSt.below (by assumption) (HBV.out _)) (bel1 _ _))) (fun hHeld=>?_)
    clear hK K
    refine wpAnyH_done (by kernel_rfl) ?_ _
    refine NoPanic.normal ?_
    have HF:=Lib.hid hf90
    clear hf90
    go_wp2
    go_ret
    exact HF.out
end Go.Proofs.YtbakjaliponbbaaGreatDoor
