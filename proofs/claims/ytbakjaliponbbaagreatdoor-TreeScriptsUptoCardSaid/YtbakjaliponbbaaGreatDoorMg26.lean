/- The reference's Text and rest where a name gets something. Printed by .. Conditions: as each theorem says. -/
import Derived.Test.YtbakjaliponbbaaGreatDoorMg25
set_option maxRecDepth 100000
set_option maxHeartbeats 1600000
namespace Go.Proofs.YtbakjaliponbbaaGreatDoor
open Go Go.RowKit Go.Proofs Fl
theorem conv_fn (name:ByteArray) (hz:name.size<=70368744177664):∃ (CC:World->Nat) (WW:World->World),(∀ W,(convert 9 27 (.string name)).run Tryz.prog W= .ok (.slice (some ⟨W.heap.size,0,none⟩) (runesOf name).length (CC W)) (WW W)) /\
  (∀ W,Runes (WW W) (.slice (some ⟨W.heap.size,0,none⟩) (runesOf name).length (CC W)) (runesOf name))/\∀ W,Below W.heap.size W (WW W):=by
 have h:∀ W:World,∃ p:Nat×World,(convert 9 27 (.string name)).run Tryz.prog W= .ok (.slice (some ⟨W.heap.size,0,none⟩) (runesOf name).length p.1) p.2/\Runes p.2 (.slice (some ⟨W.heap.size,0,none⟩) (runesOf name).length p.1) (runesOf name)/\Below W.heap.size W p.2:=by
  intro W
  obtain ⟨cc,w',h1,h2,h3,_⟩:=conv_str name W hz
  exact ⟨(cc,w'),h1,h2,h3⟩
 obtain ⟨F,hF⟩:=Classical.axiomOfChoice h
 exact ⟨fun W=>(F W).1,fun W=>(F W).2,fun W=>(hF W).1,fun W=>(hF W).2.1,fun W=>(hF W).2.2⟩
theorem rest_20 (w0:World) (q:Nat) (_hq:w0.heap.size<=q) (nums:List Nat) (text:List Int) (name:ByteArray) (c:Int) (t0:RTree) (s0:List Int) (H0:Hid (TextP 40 w0 q t0 s0)) (hz:name.size<=70368744177664) (hl:(joinP (runesOf name) (joinP [8592] s0)).length<=1099511627000) :
  TextP 87 w0 q (.mk 20 nums text name c [t0]) (joinP (runesOf name) (joinP [8592] s0)):=by
 intro v0 v1 v2 v3 v4 v5 W hr hb hL
 obtain ⟨nv,tv,A,cc,m,hvs,hrn,hrt,hm,hkid⟩:=hr.open_
 simp only [List.cons.injEq,and_true] at hvs
 obtain ⟨rfl,rfl,rfl,rfl,rfl,rfl⟩:=hvs
 obtain ⟨A1,c1,n1,rfl,-,-⟩:=hrn.opn
 obtain ⟨A2,c2,n2,rfl,-,-⟩:=hrt.opn
 obtain ⟨b,o,u0,u1,u2,u3,u4,u5,rfl,hr0,hc0⟩:=kq0 hkid
 obtain rfl:m=1:=by simpa using hm
 have HX:=Lib.hid (RSt.start hb hL [.int .i64 20,.slice A1 n1 c1,.slice A2 n2 c2,.string name,.int .i32 c,.slice (some ⟨b,o,none⟩) 1 cc] 29)
 have HK0:=Lib.hid hc0
 obtain ⟨CC,WW,HCV,hrv,hbv⟩:=conv_fn name hz
 have HBV:=Lib.hid hbv
 have HRV:=Lib.hid hrv
 generalize runesOf name=nm at *
 have HRQ:Hid (∀ W1,LoA W1 q->RunQ (fun b=>b≠q) (WW W1) (some ⟨W1.heap.size,0,none⟩) nm.length nm):=fun W1 h=>runQ_at (HRV.out W1) (by have:=h.lt;omega)
 generalize hnn:nm.length=nn at *
 have HNN:=Lib.hid hnn
 have e0:=(joinP_len2 nm (joinP [8592] s0)).1
 have e1:=(joinP_len2 [8592] s0).1
 have HLs:s0.length<=1099511627000:=by omega
 have HIR:Hid (∀ W1,RSt w0 q W.heap.size [.int .i64 20,.slice A1 n1 c1,.slice A2 n2 c2,.string name,.int .i32 c,.slice (some ⟨b,o,none⟩) 1 cc] W W1->Calls Tryz.prog 83 #[.agg #[u0,u1,u2,u3,u4,u5],.bool false,.pointer (some ⟨q,0,none⟩)] W1 (fun e w'=>∃ Ax nx cx,e= .returned (.slice Ax nx cx)/\RunQ (fun b=>b≠q) w' Ax nx s0/\Lq q W1 w'/\RSt w0 q W.heap.size [.int .i64 20,.slice A1 n1 c1,.slice A2 n2 c2,.string name,.int .i32 c,.slice (some ⟨b,o,none⟩) 1 cc] W w')):=fun W1 h=>((round_any w0 q _hq t0 s0 false H0 (by exact HLs) u0 u1 u2 u3 u4 u5 W1 hr0 h.bel h.lo).mono fun e w1 h1=>h.ret _hq h1)
 have HIO:Hid (∀ W1,RSt w0 q W.heap.size [.int .i64 20,.slice A1 n1 c1,.slice A2 n2 c2,.string name,.int .i32 c,.slice (some ⟨b,o,none⟩) 1 cc] W W1->Calls Tryz.prog 39 #[.int .i32 8592] W1 (fun e w'=>∃ Ax nx cx,e= .returned (.slice Ax nx cx)/\RunQ (fun b=>b≠q) w' Ax nx [8592]/\Lq q W1 w'/\RSt w0 q W.heap.size [.int .i64 20,.slice A1 n1 c1,.slice A2 n2 c2,.string name,.int .i32 c,.slice (some ⟨b,o,none⟩) 1 cc] W w')):=fun W1 h=>((one_q (q:=q) 8592 W1 h.lo).mono fun e w1 h1=>h.retN _hq h1)
 have HAL:Hid (∀ W1 A50 n50 c50 A51 n51 c51 A52 n52 c52,RSt w0 q W.heap.size [.int .i64 20,.slice A1 n1 c1,.slice A2 n2 c2,.string name,.int .i32 c,.slice (some ⟨b,o,none⟩) 1 cc] W W1->RunQ (fun b=>b≠q) W1 A50 n50 nm->RunQ (fun b=>b≠q) W1 A51 n51 [8592]->RunQ (fun b=>b≠q) W1 A52 n52 s0->Calls Tryz.prog 41 #[.slice (some ⟨W1.heap.size,0,none⟩) 3 3,.pointer (some ⟨q,0,none⟩)] (W1.alloc (.cells #[.slice A50 n50 c50,.slice A51 n51 c51,.slice A52 n52 c52] 27)) fun e w'=>∃ Ax nx cx,e= .returned (.slice Ax nx cx)/\RtQ q W (joinP nm (joinP [8592] s0)) (.returned (.slice Ax nx cx)) w'/\RSt w0 q W.heap.size [.int .i64 20,.slice A1 n1 c1,.slice A2 n2 c2,.string name,.int .i32 c,.slice (some ⟨b,o,none⟩) 1 cc] W w'):=fun W1 A50 n50 c50 A51 n51 c51 A52 n52 c52 h h50 h51 h52=>all_st _hq (rows3 h50 h51 h52) h 3 (by omega) (accJ3 nm [8592] s0) hl
 have HSA:Hid (∀ W1,RSt w0 q W.heap.size [.int .i64 20,.slice A1 n1 c1,.slice A2 n2 c2,.string name,.int .i32 c,.slice (some ⟨b,o,none⟩) 1 cc] W W1->W1.cell? ⟨W.heap.size,5,none⟩=some (.slice (some ⟨b,o,none⟩) 1 cc)/\W1.cell? ⟨W.heap.size,3,none⟩=some (.string name)/\W1.cell? ⟨b,o,none⟩=some u0/\W1.cell? ⟨b,o+1,none⟩=some u1/\W1.cell? ⟨b,o+2,none⟩=some u2/\W1.cell? ⟨b,o+3,none⟩=some u3/\W1.cell? ⟨b,o+4,none⟩=some u4/\W1.cell? ⟨b,o+5,none⟩=some u5):=fun W1 h=>⟨h.c6.2.2.2.2.2,h.c6.2.2.2.1,(HK0.out W1 h.bel).1,(HK0.out W1 h.bel).2.1,(HK0.out W1 h.bel).2.2.1,(HK0.out W1 h.bel).2.2.2.1,(HK0.out W1 h.bel).2.2.2.2.1,(HK0.out W1 h.bel).2.2.2.2.2⟩
 clear hr hb hL hrn hrt hkid hm hr0 hc0 H0 HK0 hl hz hrv hbv HRV HLs hnn e0 e1
 go_enter Tryz.func87,Tryz.ntmps87
 obtain ⟨x0,x1,x2,x3,x4,x5⟩:=HX.out.c6
 go_wp2_with fail
 generalize W.alloc (.cells #[.int .i64 20,.slice A1 n1 c1,.slice A2 n2 c2,.string name,.int .i32 c,.slice (some ⟨b,o,none⟩) 1 cc] 29)=W0 at *
 have hd0:=HX.out.below (Below.refl _ W0).drew
 have hs1:=HSA.out _ hd0
 have hrd:RunQ (fun b=>b≠q) (WW W0.drew) (some ⟨W0.heap.size,0,none⟩) nn nm:=HRQ.out _ hd0.lo
 clear x0 x1 x2 x3 x4 x5
 refine wp_region_noPanic ?_
 refine wp_region_held_drew (S:=fun W1=>W1.cell? ⟨W.heap.size,5,none⟩=some (.slice (some ⟨b,o,none⟩) 1 cc)/\W1.cell? ⟨W.heap.size,3,none⟩=some (.string name)/\W1.cell? ⟨b,o,none⟩=some u0/\W1.cell? ⟨b,o+1,none⟩=some u1/\W1.cell? ⟨b,o+2,none⟩=some u2/\W1.cell? ⟨b,o+3,none⟩=some u3/\W1.cell? ⟨b,o+4,none⟩=some u4/\W1.cell? ⟨b,o+5,none⟩=some u5) (by kernel_rfl) (by exact hs1) (fun hHeld=>?_)
 refine wpAnyH_take (i:=0) (v:=?av1) rfl (by kernel_rfl) (by kernel_rfl) (by kernel_rfl) (fun _ _ _ h=>h) (Or.inl ⟨by rfl,?ay1⟩) (by assumption) ?as1
 case ay1=>(intro w hSw;(try dsimp only at hSw);go_simp;try with_reducible rfl)
 refine wpAnyH_take (i:=1) (v:=?av2) rfl (by kernel_rfl) (by kernel_rfl) (by kernel_rfl) (fun _ _ _ h=>h) (Or.inl ⟨by rfl,?ay2⟩) (by assumption) ?as2
 case ay2=>(intro w hSw;(try dsimp only at hSw);go_simp;try with_reducible rfl)
 refine wpAnyH_take (i:=4) (v:=?av3) rfl (by kernel_rfl) (by kernel_rfl) (by kernel_rfl) (fun _ _ _ h=>h) (Or.inl ⟨by rfl,?ay3⟩) (by assumption) ?as3
 case ay3=>(intro w hSw;(try dsimp only at hSw);go_simp;try with_reducible rfl)
 refine wpAnyH_take (i:=5) (v:=?av4) rfl (by kernel_rfl) (by kernel_rfl) (by kernel_rfl) (fun _ _ _ h=>h) (Or.inl ⟨by rfl,?ay4⟩) (by assumption) ?as4
 case ay4=>(intro w hSw;(try dsimp only at hSw);go_simp;try with_reducible rfl)
 refine wpAnyH_take (i:=6) (v:=?av5) rfl (by kernel_rfl) (by kernel_rfl) (by kernel_rfl) (fun _ _ _ h=>h) (Or.inl ⟨by rfl,?ay5⟩) (by assumption) ?as5
 case ay5=>(intro w hSw;(try dsimp only at hSw);go_simp;try with_reducible rfl)
 refine wpAnyH_take (i:=7) (v:=?av6) rfl (by kernel_rfl) (by kernel_rfl) (by kernel_rfl) (fun _ _ _ h=>h) (Or.inl ⟨by rfl,?ay6⟩) (by assumption) ?as6
 case ay6=>(intro w hSw;(try dsimp only at hSw);go_simp;try with_reducible rfl)
 refine wpAnyH_take (i:=8) (v:=?av7) rfl (by kernel_rfl) (by kernel_rfl) (by kernel_rfl) (fun _ _ _ h=>h) (Or.inl ⟨by rfl,?ay7⟩) (by assumption) ?as7
 case ay7=>(intro w hSw;(try dsimp only at hSw);go_simp;try with_reducible rfl)
 refine wpAnyH_take (i:=11) (v:=?av8) rfl (by kernel_rfl) (by kernel_rfl) (by kernel_rfl) (fun _ _ _ h=>h) (Or.inl ⟨by rfl,?ay8⟩) (by assumption) ?as8
 case ay8=>(intro w hSw;(try dsimp only at hSw);go_simp;try with_reducible rfl)
 refine wpAnyH_ready (rs:=[2,3]) (by kernel_rfl) (by simp) ?_
 refine AllReadyH.cons rfl (fun K hK=>?_) (AllReadyH.cons rfl (fun K hK=>?_) AllReadyH.nil)
 ·go_simp
  refine hK.out _ _ (by first | assumption | exact hs1 | exact HSA.out _ (RSt.below (by assumption) (bel1 _ _)) | exact HSA.out _ (RSt.below (by assumption) (HBV.out _)) | exact HSA.out _ (RSt.below (RSt.below (by assumption) (HBV.out _)) (bel1 _ _))) (fun hHeld=>?_)
  clear hK K
  refine wpAnyH_ready (rs:=[3]) (by kernel_rfl) (by simp) ?_
  refine AllReadyH.cons rfl (fun K hK=>?_) AllReadyH.nil
  go_simp
  (go_at_call 39;(with_reducible refine (HIO.out _ (by first | assumption | exact RSt.below (by assumption) (HBV.out _))).mono ?_);rintro e w51 ⟨A51,n51,c51,rfl,hr51,hq51,hst51⟩;have hs51:=HSA.out _ hst51;dsimp only)
  refine hK.out _ _ (by first | assumption | exact hs1 | exact HSA.out _ (RSt.below (by assumption) (bel1 _ _)) | exact HSA.out _ (RSt.below (by assumption) (HBV.out _)) | exact HSA.out _ (RSt.below (RSt.below (by assumption) (HBV.out _)) (bel1 _ _))) (fun hHeld=>?_)
  clear hK K
  refine wpAnyH_ready (rs:=[9]) (by kernel_rfl) (by simp) ?_
  refine AllReadyH.cons rfl (fun K hK=>?_) AllReadyH.nil
  go_simp
  (go_at_call 83;(with_reducible refine (HIR.out _ (by first | assumption | exact RSt.below (by assumption) (HBV.out _))).mono ?_);rintro e w52 ⟨A52,n52,c52,rfl,hr52,hq52,hst52⟩;have hs52:=HSA.out _ hst52;dsimp only)
  refine hK.out _ _ (by first | assumption | exact hs1 | exact HSA.out _ (RSt.below (by assumption) (bel1 _ _)) | exact HSA.out _ (RSt.below (by assumption) (HBV.out _)) | exact HSA.out _ (RSt.below (RSt.below (by assumption) (HBV.out _)) (bel1 _ _))) (fun hHeld=>?_)
  clear hK K
  refine wpAnyH_ready (rs:=[10]) (by kernel_rfl) (by simp) ?_
  refine AllReadyH.cons rfl (fun K hK=>?_) AllReadyH.nil
  go_simp
  refine hK.out _ _ (by first | assumption | exact hs1 | exact HSA.out _ (RSt.below (by assumption) (bel1 _ _)) | exact HSA.out _ (RSt.below (by assumption) (HBV.out _)) | exact HSA.out _ (RSt.below (RSt.below (by assumption) (HBV.out _)) (bel1 _ _))) (fun hHeld=>?_)
  clear hK K
  refine wpAnyH_ready (rs:=[12]) (by kernel_rfl) (by simp) ?_
  refine AllReadyH.cons rfl (fun K hK=>?_) AllReadyH.nil
  go_simp
  (go_at_call 41;(with_reducible refine (HAL.out _ _ _ _ _ _ _ _ _ _ hst52 ((hrd.lq hq51).lq hq52) (hr51.lq hq52) hr52).mono ?_);rintro e w90 ⟨A90,n90,c90,rfl,hf90,hst90⟩;have hs90:=HSA.out _ hst90;dsimp only)
  refine hK.out _ _ (by first | assumption | exact hs1 | exact HSA.out _ (RSt.below (by assumption) (bel1 _ _)) | exact HSA.out _ (RSt.below (by assumption) (HBV.out _)) | exact HSA.out _ (RSt.below (RSt.below (by assumption) (HBV.out _)) (bel1 _ _))) (fun hHeld=>?_)
  clear hK K
  refine wpAnyH_ready (rs:=[13]) (by kernel_rfl) (by simp) ?_
  refine AllReadyH.cons rfl (fun K hK=>?_) AllReadyH.nil
  go_simp
  refine hK.out _ _ (by first | assumption | exact hs1 | exact HSA.out _ (RSt.below (by assumption) (bel1 _ _)) | exact HSA.out _ (RSt.below (by assumption) (HBV.out _)) | exact HSA.out _ (RSt.below (RSt.below (by assumption) (HBV.out _)) (bel1 _ _))) (fun hHeld=>?_)
  clear hK K
  refine wpAnyH_done (by kernel_rfl) ?_ _
  refine NoPanic.normal ?_
  have HF:=Lib.hid hf90
  clear hf90
  go_wp2
  go_ret
  exact HF.out
 ·go_simp
  (go_at_call 39;(with_reducible refine (HIO.out _ (by first | assumption | exact RSt.below (by assumption) (HBV.out _))).mono ?_);rintro e w51 ⟨A51,n51,c51,rfl,hr51,hq51,hst51⟩;have hs51:=HSA.out _ hst51;dsimp only)
  refine hK.out _ _ (by first | assumption | exact hs1 | exact HSA.out _ (RSt.below (by assumption) (bel1 _ _)) | exact HSA.out _ (RSt.below (by assumption) (HBV.out _)) | exact HSA.out _ (RSt.below (RSt.below (by assumption) (HBV.out _)) (bel1 _ _))) (fun hHeld=>?_)
  clear hK K
  refine wpAnyH_ready (rs:=[2,9]) (by kernel_rfl) (by simp) ?_
  refine AllReadyH.cons rfl (fun K hK=>?_) (AllReadyH.cons rfl (fun K hK=>?_) AllReadyH.nil)
  ·go_simp
   refine hK.out _ _ (by first | assumption | exact hs1 | exact HSA.out _ (RSt.below (by assumption) (bel1 _ _)) | exact HSA.out _ (RSt.below (by assumption) (HBV.out _)) | exact HSA.out _ (RSt.below (RSt.below (by assumption) (HBV.out _)) (bel1 _ _))) (fun hHeld=>?_)
   clear hK K
   refine wpAnyH_ready (rs:=[9]) (by kernel_rfl) (by simp) ?_
   refine AllReadyH.cons rfl (fun K hK=>?_) AllReadyH.nil
   go_simp
   (go_at_call 83;(with_reducible refine (HIR.out _ (by first | assumption | exact RSt.below (by assumption) (HBV.out _))).mono ?_);rintro e w52 ⟨A52,n52,c52,rfl,hr52,hq52,hst52⟩;have hs52:=HSA.out _ hst52;dsimp only)
   refine hK.out _ _ (by first | assumption | exact hs1 | exact HSA.out _ (RSt.below (by assumption) (bel1 _ _)) | exact HSA.out _ (RSt.below (by assumption) (HBV.out _)) | exact HSA.out _ (RSt.below (RSt.below (by assumption) (HBV.out _)) (bel1 _ _))) (fun hHeld=>?_)
   clear hK K
   refine wpAnyH_ready (rs:=[10]) (by kernel_rfl) (by simp) ?_
   refine AllReadyH.cons rfl (fun K hK=>?_) AllReadyH.nil
   go_simp
   refine hK.out _ _ (by first | assumption | exact hs1 | exact HSA.out _ (RSt.below (by assumption) (bel1 _ _)) | exact HSA.out _ (RSt.below (by assumption) (HBV.out _)) | exact HSA.out _ (RSt.below (RSt.below (by assumption) (HBV.out _)) (bel1 _ _))) (fun hHeld=>?_)
   clear hK K
   refine wpAnyH_ready (rs:=[12]) (by kernel_rfl) (by simp) ?_
   refine AllReadyH.cons rfl (fun K hK=>?_) AllReadyH.nil
   go_simp
   (go_at_call 41;(with_reducible refine (HAL.out _ _ _ _ _ _ _ _ _ _ hst52 ((HRQ.out _ hst51.lo).lq hq52) ((hr51.lq (.of (HBV.out _))).lq hq52) hr52).mono ?_);rintro e w90 ⟨A90,n90,c90,rfl,hf90,hst90⟩;have hs90:=HSA.out _ hst90;dsimp only)
   refine hK.out _ _ (by first | assumption | exact hs1 | exact HSA.out _ (RSt.below (by assumption) (bel1 _ _)) | exact HSA.out _ (RSt.below (by assumption) (HBV.out _)) | exact HSA.out _ (RSt.below (RSt.below (by assumption) (HBV.out _)) (bel1 _ _))) (fun hHeld=>?_)
   clear hK K
   refine wpAnyH_ready (rs:=[13]) (by kernel_rfl) (by simp) ?_
   refine AllReadyH.cons rfl (fun K hK=>?_) AllReadyH.nil
   go_simp
   refine hK.out _ _ (by first | assumption | exact hs1 | exact HSA.out _ (RSt.below (by assumption) (bel1 _ _)) | exact HSA.out _ (RSt.below (by assumption) (HBV.out _)) | exact HSA.out _ (RSt.below (RSt.below (by assumption) (HBV.out _)) (bel1 _ _))) (fun hHeld=>?_)
   clear hK K
   refine wpAnyH_done (by kernel_rfl) ?_ _
   refine NoPanic.normal ?_
   have HF:=Lib.hid hf90
   clear hf90
   go_wp2
   go_ret
   exact HF.out
  ·go_simp
   (go_at_call 83;(with_reducible refine (HIR.out _ (by first | assumption | exact RSt.below (by assumption) (HBV.out _))).mono ?_);rintro e w52 ⟨A52,n52,c52,rfl,hr52,hq52,hst52⟩;have hs52:=HSA.out _ hst52;dsimp only)
   refine hK.out _ _ (by first | assumption | exact hs1 | exact HSA.out _ (RSt.below (by assumption) (bel1 _ _)) | exact HSA.out _ (RSt.below (by assumption) (HBV.out _)) | exact HSA.out _ (RSt.below (RSt.below (by assumption) (HBV.out _)) (bel1 _ _))) (fun hHeld=>?_)
   clear hK K
   refine wpAnyH_ready (rs:=[2]) (by kernel_rfl) (by simp) ?_
   refine AllReadyH.cons rfl (fun K hK=>?_) AllReadyH.nil
   go_simp
   refine hK.out _ _ (by first | assumption | exact hs1 | exact HSA.out _ (RSt.below (by assumption) (bel1 _ _)) | exact HSA.out _ (RSt.below (by assumption) (HBV.out _)) | exact HSA.out _ (RSt.below (RSt.below (by assumption) (HBV.out _)) (bel1 _ _))) (fun hHeld=>?_)
   clear hK K
   refine wpAnyH_ready (rs:=[10]) (by kernel_rfl) (by simp) ?_
   refine AllReadyH.cons rfl (fun K hK=>?_) AllReadyH.nil
   go_simp
   refine hK.out _ _ (by first | assumption | exact hs1 | exact HSA.out _ (RSt.below (by assumption) (bel1 _ _)) | exact HSA.out _ (RSt.below (by assumption) (HBV.out _)) | exact HSA.out _ (RSt.below (RSt.below (by assumption) (HBV.out _)) (bel1 _ _))) (fun hHeld=>?_)
   clear hK K
   refine wpAnyH_ready (rs:=[12]) (by kernel_rfl) (by simp) ?_
   refine AllReadyH.cons rfl (fun K hK=>?_) AllReadyH.nil
   go_simp
   (go_at_call 41;(with_reducible refine (HAL.out _ _ _ _ _ _ _ _ _ _ (RSt.below hst52 (HBV.out _)) (HRQ.out _ hst52.lo) ((hr51.lq hq52).lq (.of (HBV.out _))) (hr52.lq (.of (HBV.out _)))).mono ?_);rintro e w90 ⟨A90,n90,c90,rfl,hf90,hst90⟩;have hs90:=HSA.out _ hst90;dsimp only)
   refine hK.out _ _ (by first | assumption | exact hs1 | exact HSA.out _ (RSt.below (by assumption) (bel1 _ _)) | exact HSA.out _ (RSt.below (by assumption) (HBV.out _)) | exact HSA.out _ (RSt.below (RSt.below (by assumption) (HBV.out _)) (bel1 _ _))) (fun hHeld=>?_)
   clear hK K
   refine wpAnyH_ready (rs:=[13]) (by kernel_rfl) (by simp) ?_
   refine AllReadyH.cons rfl (fun K hK=>?_) AllReadyH.nil
   go_simp
   refine hK.out _ _ (by first | assumption | exact hs1 | exact HSA.out _ (RSt.below (by assumption) (bel1 _ _)) | exact HSA.out _ (RSt.below (by assumption) (HBV.out _)) | exact HSA.out _ (RSt.below (RSt.below (by assumption) (HBV.out _)) (bel1 _ _))) (fun hHeld=>?_)
   clear hK K
   refine wpAnyH_done (by kernel_rfl) ?_ _
   refine NoPanic.normal ?_
   have HF:=Lib.hid hf90
   clear hf90
   go_wp2
   go_ret
   exact HF.out
theorem txt_11 (w0:World) (q:Nat) (_hq:w0.heap.size<=q) (nums:List Nat) (text:List Int) (name:ByteArray) (c:Int) (t0:RTree) (s0:List Int) (H0:Hid (TextP 40 w0 q t0 s0)) (hz:name.size<=70368744177664) (hl:(joinP (runesOf name) (joinP [8592] s0)).length<=1099511627000) :
  TextP 40 w0 q (.mk 11 nums text name c [t0]) (joinP (runesOf name) (joinP [8592] s0)):=by
 intro v0 v1 v2 v3 v4 v5 W hr hb hL
 obtain ⟨nv,tv,A,cc,m,hvs,hrn,hrt,hm,hkid⟩:=hr.open_
 simp only [List.cons.injEq,and_true] at hvs
 obtain ⟨rfl,rfl,rfl,rfl,rfl,rfl⟩:=hvs
 obtain ⟨A1,c1,n1,rfl,-,-⟩:=hrn.opn
 obtain ⟨A2,c2,n2,rfl,-,-⟩:=hrt.opn
 obtain ⟨b,o,u0,u1,u2,u3,u4,u5,rfl,hr0,hc0⟩:=kq0 hkid
 obtain rfl:m=1:=by simpa using hm
 have HX:=Lib.hid (RSt.start hb hL [.int .i64 11,.slice A1 n1 c1,.slice A2 n2 c2,.string name,.int .i32 c,.slice (some ⟨b,o,none⟩) 1 cc] 29)
 have HK0:=Lib.hid hc0
 obtain ⟨CC,WW,HCV,hrv,hbv⟩:=conv_fn name hz
 have HBV:=Lib.hid hbv
 have HRV:=Lib.hid hrv
 generalize runesOf name=nm at *
 have HRQ:Hid (∀ W1,LoA W1 q->RunQ (fun b=>b≠q) (WW W1) (some ⟨W1.heap.size,0,none⟩) nm.length nm):=fun W1 h=>runQ_at (HRV.out W1) (by have:=h.lt;omega)
 generalize hnn:nm.length=nn at *
 have HNN:=Lib.hid hnn
 have e0:=(joinP_len2 nm (joinP [8592] s0)).1
 have e1:=(joinP_len2 [8592] s0).1
 have HLs:s0.length<=1099511627000:=by omega
 have HIR:Hid (∀ W1,RSt w0 q W.heap.size [.int .i64 11,.slice A1 n1 c1,.slice A2 n2 c2,.string name,.int .i32 c,.slice (some ⟨b,o,none⟩) 1 cc] W W1->Calls Tryz.prog 83 #[.agg #[u0,u1,u2,u3,u4,u5],.bool false,.pointer (some ⟨q,0,none⟩)] W1 (fun e w'=>∃ Ax nx cx,e= .returned (.slice Ax nx cx)/\RunQ (fun b=>b≠q) w' Ax nx s0/\Lq q W1 w'/\RSt w0 q W.heap.size [.int .i64 11,.slice A1 n1 c1,.slice A2 n2 c2,.string name,.int .i32 c,.slice (some ⟨b,o,none⟩) 1 cc] W w')):=fun W1 h=>((round_any w0 q _hq t0 s0 false H0 (by exact HLs) u0 u1 u2 u3 u4 u5 W1 hr0 h.bel h.lo).mono fun e w1 h1=>h.ret _hq h1)
 have HIO:Hid (∀ W1,RSt w0 q W.heap.size [.int .i64 11,.slice A1 n1 c1,.slice A2 n2 c2,.string name,.int .i32 c,.slice (some ⟨b,o,none⟩) 1 cc] W W1->Calls Tryz.prog 39 #[.int .i32 8592] W1 (fun e w'=>∃ Ax nx cx,e= .returned (.slice Ax nx cx)/\RunQ (fun b=>b≠q) w' Ax nx [8592]/\Lq q W1 w'/\RSt w0 q W.heap.size [.int .i64 11,.slice A1 n1 c1,.slice A2 n2 c2,.string name,.int .i32 c,.slice (some ⟨b,o,none⟩) 1 cc] W w')):=fun W1 h=>((one_q (q:=q) 8592 W1 h.lo).mono fun e w1 h1=>h.retN _hq h1)
 have HAL:Hid (∀ W1 A50 n50 c50 A51 n51 c51 A52 n52 c52,RSt w0 q W.heap.size [.int .i64 11,.slice A1 n1 c1,.slice A2 n2 c2,.string name,.int .i32 c,.slice (some ⟨b,o,none⟩) 1 cc] W W1->RunQ (fun b=>b≠q) W1 A50 n50 nm->RunQ (fun b=>b≠q) W1 A51 n51 [8592]->RunQ (fun b=>b≠q) W1 A52 n52 s0->Calls Tryz.prog 41 #[.slice (some ⟨W1.heap.size,0,none⟩) 3 3,.pointer (some ⟨q,0,none⟩)] (W1.alloc (.cells #[.slice A50 n50 c50,.slice A51 n51 c51,.slice A52 n52 c52] 27)) fun e w'=>∃ Ax nx cx,e= .returned (.slice Ax nx cx)/\RtQ q W (joinP nm (joinP [8592] s0)) (.returned (.slice Ax nx cx)) w'/\RSt w0 q W.heap.size [.int .i64 11,.slice A1 n1 c1,.slice A2 n2 c2,.string name,.int .i32 c,.slice (some ⟨b,o,none⟩) 1 cc] W w'):=fun W1 A50 n50 c50 A51 n51 c51 A52 n52 c52 h h50 h51 h52=>all_st _hq (rows3 h50 h51 h52) h 3 (by omega) (accJ3 nm [8592] s0) hl
 have HSA:Hid (∀ W1,RSt w0 q W.heap.size [.int .i64 11,.slice A1 n1 c1,.slice A2 n2 c2,.string name,.int .i32 c,.slice (some ⟨b,o,none⟩) 1 cc] W W1->W1.cell? ⟨W.heap.size,5,none⟩=some (.slice (some ⟨b,o,none⟩) 1 cc)/\W1.cell? ⟨W.heap.size,3,none⟩=some (.string name)/\W1.cell? ⟨b,o,none⟩=some u0/\W1.cell? ⟨b,o+1,none⟩=some u1/\W1.cell? ⟨b,o+2,none⟩=some u2/\W1.cell? ⟨b,o+3,none⟩=some u3/\W1.cell? ⟨b,o+4,none⟩=some u4/\W1.cell? ⟨b,o+5,none⟩=some u5):=fun W1 h=>⟨h.c6.2.2.2.2.2,h.c6.2.2.2.1,(HK0.out W1 h.bel).1,(HK0.out W1 h.bel).2.1,(HK0.out W1 h.bel).2.2.1,(HK0.out W1 h.bel).2.2.2.1,(HK0.out W1 h.bel).2.2.2.2.1,(HK0.out W1 h.bel).2.2.2.2.2⟩
 clear hr hb hL hrn hrt hkid hm hr0 hc0 H0 HK0 hl hz hrv hbv HRV HLs hnn e0 e1
 go_enter Tryz.func40,Tryz.ntmps40
 obtain ⟨x0,x1,x2,x3,x4,x5⟩:=HX.out.c6
 go_wp2_with fail
 generalize W.alloc (.cells #[.int .i64 11,.slice A1 n1 c1,.slice A2 n2 c2,.string name,.int .i32 c,.slice (some ⟨b,o,none⟩) 1 cc] 29)=W0 at *
 have hd0:=HX.out.below (Below.refl _ W0).drew
 have hs1:=HSA.out _ hd0
 have hrd:RunQ (fun b=>b≠q) (WW W0.drew) (some ⟨W0.heap.size,0,none⟩) nn nm:=HRQ.out _ hd0.lo
 clear x0 x1 x2 x3 x4 x5
 refine wp_region_noPanic ?_
 refine wp_region_held_drew (S:=fun W1=>W1.cell? ⟨W.heap.size,5,none⟩=some (.slice (some ⟨b,o,none⟩) 1 cc)/\W1.cell? ⟨W.heap.size,3,none⟩=some (.string name)/\W1.cell? ⟨b,o,none⟩=some u0/\W1.cell? ⟨b,o+1,none⟩=some u1/\W1.cell? ⟨b,o+2,none⟩=some u2/\W1.cell? ⟨b,o+3,none⟩=some u3/\W1.cell? ⟨b,o+4,none⟩=some u4/\W1.cell? ⟨b,o+5,none⟩=some u5) (by kernel_rfl) (by exact hs1) (fun hHeld=>?_)
 refine wpAnyH_take (i:=0) (v:=?av1) rfl (by kernel_rfl) (by kernel_rfl) (by kernel_rfl) (fun _ _ _ h=>h) (Or.inl ⟨by rfl,?ay1⟩) (by assumption) ?as1
 case ay1=>(intro w hSw;(try dsimp only at hSw);go_simp;try with_reducible rfl)
 refine wpAnyH_take (i:=1) (v:=?av2) rfl (by kernel_rfl) (by kernel_rfl) (by kernel_rfl) (fun _ _ _ h=>h) (Or.inl ⟨by rfl,?ay2⟩) (by assumption) ?as2
 case ay2=>(intro w hSw;(try dsimp only at hSw);go_simp;try with_reducible rfl)
 refine wpAnyH_take (i:=4) (v:=?av3) rfl (by kernel_rfl) (by kernel_rfl) (by kernel_rfl) (fun _ _ _ h=>h) (Or.inl ⟨by rfl,?ay3⟩) (by assumption) ?as3
 case ay3=>(intro w hSw;(try dsimp only at hSw);go_simp;try with_reducible rfl)
 refine wpAnyH_take (i:=5) (v:=?av4) rfl (by kernel_rfl) (by kernel_rfl) (by kernel_rfl) (fun _ _ _ h=>h) (Or.inl ⟨by rfl,?ay4⟩) (by assumption) ?as4
 case ay4=>(intro w hSw;(try dsimp only at hSw);go_simp;try with_reducible rfl)
 refine wpAnyH_take (i:=6) (v:=?av5) rfl (by kernel_rfl) (by kernel_rfl) (by kernel_rfl) (fun _ _ _ h=>h) (Or.inl ⟨by rfl,?ay5⟩) (by assumption) ?as5
 case ay5=>(intro w hSw;(try dsimp only at hSw);go_simp;try with_reducible rfl)
 refine wpAnyH_take (i:=7) (v:=?av6) rfl (by kernel_rfl) (by kernel_rfl) (by kernel_rfl) (fun _ _ _ h=>h) (Or.inl ⟨by rfl,?ay6⟩) (by assumption) ?as6
 case ay6=>(intro w hSw;(try dsimp only at hSw);go_simp;try with_reducible rfl)
 refine wpAnyH_take (i:=8) (v:=?av7) rfl (by kernel_rfl) (by kernel_rfl) (by kernel_rfl) (fun _ _ _ h=>h) (Or.inl ⟨by rfl,?ay7⟩) (by assumption) ?as7
 case ay7=>(intro w hSw;(try dsimp only at hSw);go_simp;try with_reducible rfl)
 refine wpAnyH_take (i:=11) (v:=?av8) rfl (by kernel_rfl) (by kernel_rfl) (by kernel_rfl) (fun _ _ _ h=>h) (Or.inl ⟨by rfl,?ay8⟩) (by assumption) ?as8
 case ay8=>(intro w hSw;(try dsimp only at hSw);go_simp;try with_reducible rfl)
 refine wpAnyH_ready (rs:=[2,3]) (by kernel_rfl) (by simp) ?_
 refine AllReadyH.cons rfl (fun K hK=>?_) (AllReadyH.cons rfl (fun K hK=>?_) AllReadyH.nil)
 ·go_simp
  refine hK.out _ _ (by first | assumption | exact hs1 | exact HSA.out _ (RSt.below (by assumption) (bel1 _ _)) | exact HSA.out _ (RSt.below (by assumption) (HBV.out _)) | exact HSA.out _ (RSt.below (RSt.below (by assumption) (HBV.out _)) (bel1 _ _))) (fun hHeld=>?_)
  clear hK K
  refine wpAnyH_ready (rs:=[3]) (by kernel_rfl) (by simp) ?_
  refine AllReadyH.cons rfl (fun K hK=>?_) AllReadyH.nil
  go_simp
  (go_at_call 39;(with_reducible refine (HIO.out _ (by first | assumption | exact RSt.below (by assumption) (HBV.out _))).mono ?_);rintro e w51 ⟨A51,n51,c51,rfl,hr51,hq51,hst51⟩;have hs51:=HSA.out _ hst51;dsimp only)
  refine hK.out _ _ (by first | assumption | exact hs1 | exact HSA.out _ (RSt.below (by assumption) (bel1 _ _)) | exact HSA.out _ (RSt.below (by assumption) (HBV.out _)) | exact HSA.out _ (RSt.below (RSt.below (by assumption) (HBV.out _)) (bel1 _ _))) (fun hHeld=>?_)
  clear hK K
  refine wpAnyH_ready (rs:=[9]) (by kernel_rfl) (by simp) ?_
  refine AllReadyH.cons rfl (fun K hK=>?_) AllReadyH.nil
  go_simp
  (go_at_call 83;(with_reducible refine (HIR.out _ (by first | assumption | exact RSt.below (by assumption) (HBV.out _))).mono ?_);rintro e w52 ⟨A52,n52,c52,rfl,hr52,hq52,hst52⟩;have hs52:=HSA.out _ hst52;dsimp only)
  refine hK.out _ _ (by first | assumption | exact hs1 | exact HSA.out _ (RSt.below (by assumption) (bel1 _ _)) | exact HSA.out _ (RSt.below (by assumption) (HBV.out _)) | exact HSA.out _ (RSt.below (RSt.below (by assumption) (HBV.out _)) (bel1 _ _))) (fun hHeld=>?_)
  clear hK K
  refine wpAnyH_ready (rs:=[10]) (by kernel_rfl) (by simp) ?_
  refine AllReadyH.cons rfl (fun K hK=>?_) AllReadyH.nil
  go_simp
  refine hK.out _ _ (by first | assumption | exact hs1 | exact HSA.out _ (RSt.below (by assumption) (bel1 _ _)) | exact HSA.out _ (RSt.below (by assumption) (HBV.out _)) | exact HSA.out _ (RSt.below (RSt.below (by assumption) (HBV.out _)) (bel1 _ _))) (fun hHeld=>?_)
  clear hK K
  refine wpAnyH_ready (rs:=[12]) (by kernel_rfl) (by simp) ?_
  refine AllReadyH.cons rfl (fun K hK=>?_) AllReadyH.nil
  go_simp
  (go_at_call 41;(with_reducible refine (HAL.out _ _ _ _ _ _ _ _ _ _ hst52 ((hrd.lq hq51).lq hq52) (hr51.lq hq52) hr52).mono ?_);rintro e w90 ⟨A90,n90,c90,rfl,hf90,hst90⟩;have hs90:=HSA.out _ hst90;dsimp only)
  refine hK.out _ _ (by first | assumption | exact hs1 | exact HSA.out _ (RSt.below (by assumption) (bel1 _ _)) | exact HSA.out _ (RSt.below (by assumption) (HBV.out _)) | exact HSA.out _ (RSt.below (RSt.below (by assumption) (HBV.out _)) (bel1 _ _))) (fun hHeld=>?_)
  clear hK K
  refine wpAnyH_ready (rs:=[13]) (by kernel_rfl) (by simp) ?_
  refine AllReadyH.cons rfl (fun K hK=>?_) AllReadyH.nil
  go_simp
  refine hK.out _ _ (by first | assumption | exact hs1 | exact HSA.out _ (RSt.below (by assumption) (bel1 _ _)) | exact HSA.out _ (RSt.below (by assumption) (HBV.out _)) | exact HSA.out _ (RSt.below (RSt.below (by assumption) (HBV.out _)) (bel1 _ _))) (fun hHeld=>?_)
  clear hK K
  refine wpAnyH_done (by kernel_rfl) ?_ _
  refine NoPanic.normal ?_
  have HF:=Lib.hid hf90
  clear hf90
  go_wp2
  go_ret
  exact HF.out
 ·go_simp
  (go_at_call 39;(with_reducible refine (HIO.out _ (by first | assumption | exact RSt.below (by assumption) (HBV.out _))).mono ?_);rintro e w51 ⟨A51,n51,c51,rfl,hr51,hq51,hst51⟩;have hs51:=HSA.out _ hst51;dsimp only)
  refine hK.out _ _ (by first | assumption | exact hs1 | exact HSA.out _ (RSt.below (by assumption) (bel1 _ _)) | exact HSA.out _ (RSt.below (by assumption) (HBV.out _)) | exact HSA.out _ (RSt.below (RSt.below (by assumption) (HBV.out _)) (bel1 _ _))) (fun hHeld=>?_)
  clear hK K
  refine wpAnyH_ready (rs:=[2,9]) (by kernel_rfl) (by simp) ?_
  refine AllReadyH.cons rfl (fun K hK=>?_) (AllReadyH.cons rfl (fun K hK=>?_) AllReadyH.nil)
  ·go_simp
   refine hK.out _ _ (by first | assumption | exact hs1 | exact HSA.out _ (RSt.below (by assumption) (bel1 _ _)) | exact HSA.out _ (RSt.below (by assumption) (HBV.out _)) | exact HSA.out _ (RSt.below (RSt.below (by assumption) (HBV.out _)) (bel1 _ _))) (fun hHeld=>?_)
   clear hK K
   refine wpAnyH_ready (rs:=[9]) (by kernel_rfl) (by simp) ?_
   refine AllReadyH.cons rfl (fun K hK=>?_) AllReadyH.nil
   go_simp
   (go_at_call 83;(with_reducible refine (HIR.out _ (by first | assumption | exact RSt.below (by assumption) (HBV.out _))).mono ?_);rintro e w52 ⟨A52,n52,c52,rfl,hr52,hq52,hst52⟩;have hs52:=HSA.out _ hst52;dsimp only)
   refine hK.out _ _ (by first | assumption | exact hs1 | exact HSA.out _ (RSt.below (by assumption) (bel1 _ _)) | exact HSA.out _ (RSt.below (by assumption) (HBV.out _)) | exact HSA.out _ (RSt.below (RSt.below (by assumption) (HBV.out _)) (bel1 _ _))) (fun hHeld=>?_)
   clear hK K
   refine wpAnyH_ready (rs:=[10]) (by kernel_rfl) (by simp) ?_
   refine AllReadyH.cons rfl (fun K hK=>?_) AllReadyH.nil
   go_simp
   refine hK.out _ _ (by first | assumption | exact hs1 | exact HSA.out _ (RSt.below (by assumption) (bel1 _ _)) | exact HSA.out _ (RSt.below (by assumption) (HBV.out _)) | exact HSA.out _ (RSt.below (RSt.below (by assumption) (HBV.out _)) (bel1 _ _))) (fun hHeld=>?_)
   clear hK K
   refine wpAnyH_ready (rs:=[12]) (by kernel_rfl) (by simp) ?_
   refine AllReadyH.cons rfl (fun K hK=>?_) AllReadyH.nil
   go_simp
   (go_at_call 41;(with_reducible refine (HAL.out _ _ _ _ _ _ _ _ _ _ hst52 ((HRQ.out _ hst51.lo).lq hq52) ((hr51.lq (.of (HBV.out _))).lq hq52) hr52).mono ?_);rintro e w90 ⟨A90,n90,c90,rfl,hf90,hst90⟩;have hs90:=HSA.out _ hst90;dsimp only)
   refine hK.out _ _ (by first | assumption | exact hs1 | exact HSA.out _ (RSt.below (by assumption) (bel1 _ _)) | exact HSA.out _ (RSt.below (by assumption) (HBV.out _)) | exact HSA.out _ (RSt.below (RSt.below (by assumption) (HBV.out _)) (bel1 _ _))) (fun hHeld=>?_)
   clear hK K
   refine wpAnyH_ready (rs:=[13]) (by kernel_rfl) (by simp) ?_
   refine AllReadyH.cons rfl (fun K hK=>?_) AllReadyH.nil
   go_simp
   refine hK.out _ _ (by first | assumption | exact hs1 | exact HSA.out _ (RSt.below (by assumption) (bel1 _ _)) | exact HSA.out _ (RSt.below (by assumption) (HBV.out _)) | exact HSA.out _ (RSt.below (RSt.below (by assumption) (HBV.out _)) (bel1 _ _))) (fun hHeld=>?_)
   clear hK K
   refine wpAnyH_done (by kernel_rfl) ?_ _
   refine NoPanic.normal ?_
   have HF:=Lib.hid hf90
   clear hf90
   go_wp2
   go_ret
   exact HF.out
  ·go_simp
   (go_at_call 83;(with_reducible refine (HIR.out _ (by first | assumption | exact RSt.below (by assumption) (HBV.out _))).mono ?_);rintro e w52 ⟨A52,n52,c52,rfl,hr52,hq52,hst52⟩;have hs52:=HSA.out _ hst52;dsimp only)
   refine hK.out _ _ (by first | assumption | exact hs1 | exact HSA.out _ (RSt.below (by assumption) (bel1 _ _)) | exact HSA.out _ (RSt.below (by assumption) (HBV.out _)) | exact HSA.out _ (RSt.below (RSt.below (by assumption) (HBV.out _)) (bel1 _ _))) (fun hHeld=>?_)
   clear hK K
   refine wpAnyH_ready (rs:=[2]) (by kernel_rfl) (by simp) ?_
   refine AllReadyH.cons rfl (fun K hK=>?_) AllReadyH.nil
   go_simp
   refine hK.out _ _ (by first | assumption | exact hs1 | exact HSA.out _ (RSt.below (by assumption) (bel1 _ _)) | exact HSA.out _ (RSt.below (by assumption) (HBV.out _)) | exact HSA.out _ (RSt.below (RSt.below (by assumption) (HBV.out _)) (bel1 _ _))) (fun hHeld=>?_)
   clear hK K
   refine wpAnyH_ready (rs:=[10]) (by kernel_rfl) (by simp) ?_
   refine AllReadyH.cons rfl (fun K hK=>?_) AllReadyH.nil
   go_simp
   refine hK.out _ _ (by first | assumption | exact hs1 | exact HSA.out _ (RSt.below (by assumption) (bel1 _ _)) | exact HSA.out _ (RSt.below (by assumption) (HBV.out _)) | exact HSA.out _ (RSt.below (RSt.below (by assumption) (HBV.out _)) (bel1 _ _))) (fun hHeld=>?_)
   clear hK K
   refine wpAnyH_ready (rs:=[12]) (by kernel_rfl) (by simp) ?_
   refine AllReadyH.cons rfl (fun K hK=>?_) AllReadyH.nil
   go_simp
   (go_at_call 41;(with_reducible refine (HAL.out _ _ _ _ _ _ _ _ _ _ (RSt.below hst52 (HBV.out _)) (HRQ.out _ hst52.lo) ((hr51.lq hq52).lq (.of (HBV.out _))) (hr52.lq (.of (HBV.out _)))).mono ?_);rintro e w90 ⟨A90,n90,c90,rfl,hf90,hst90⟩;have hs90:=HSA.out _ hst90;dsimp only)
   refine hK.out _ _ (by first | assumption | exact hs1 | exact HSA.out _ (RSt.below (by assumption) (bel1 _ _)) | exact HSA.out _ (RSt.below (by assumption) (HBV.out _)) | exact HSA.out _ (RSt.below (RSt.below (by assumption) (HBV.out _)) (bel1 _ _))) (fun hHeld=>?_)
   clear hK K
   refine wpAnyH_ready (rs:=[13]) (by kernel_rfl) (by simp) ?_
   refine AllReadyH.cons rfl (fun K hK=>?_) AllReadyH.nil
   go_simp
   refine hK.out _ _ (by first | assumption | exact hs1 | exact HSA.out _ (RSt.below (by assumption) (bel1 _ _)) | exact HSA.out _ (RSt.below (by assumption) (HBV.out _)) | exact HSA.out _ (RSt.below (RSt.below (by assumption) (HBV.out _)) (bel1 _ _))) (fun hHeld=>?_)
   clear hK K
   refine wpAnyH_done (by kernel_rfl) ?_ _
   refine NoPanic.normal ?_
   have HF:=Lib.hid hf90
   clear hf90
   go_wp2
   go_ret
   exact HF.out
end Go.Proofs.YtbakjaliponbbaaGreatDoor
