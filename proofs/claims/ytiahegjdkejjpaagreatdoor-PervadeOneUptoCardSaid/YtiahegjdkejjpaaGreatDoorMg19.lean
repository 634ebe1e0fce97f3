/- The walk of relate.Apply where one of two lists is of .. Conditions: as each theorem says. -/
import Derived.Test.YtiahegjdkejjpaaGreatDoorMg18
import Derived.Test.YtiahegjdkejjpaaGreatDoorMg16
set_option maxRecDepth 100000
set_option maxHeartbeats 4000000
namespace Go.Proofs.YtiahegjdkejjpaaGreatDoor
open Go Go.RowKit Go.Proofs Fl
def TwoL (H:Nat->Prop) (w:World) (T:Value->World->Prop) (E:Int) (e:Ending) (w':World):Prop :=
 (E=0/\VecOk H w T e w')\/(E≠0/\ZeroE w E e w')
def ClsYes (w:World) (p q:V8) (x:Value) (W:World):Prop:=x= .bool true/\St2 w W p q
theorem clsYes_of {w W:World}{p q:V8} (h:St2 w W p q):ClsYes w p q (.bool true) W:=⟨rfl,h⟩
theorem rapply_alike (H:Nat->Prop) (f:Int) (hf:11<=f) (hf2:f<=16) (p q:V8) (m n N:Nat) (T:Value->World->Prop) (E:Int) (w:World) (hH:∀ b,H b->b < w.heap.size) (hL:lenP m n=some N) (hP:ClsV w p 1 m) (hQ:ClsV w q 1 n)
  (hC:∀ (W:World) (H':Nat->Prop),Below w.heap.size w W->(∀ b,H' b->b < W.heap.size)->Calls Tryz.prog 233 #[.int .i64 f,.int .i64 (N:Int),p.v,q.v] W (TwoL H' W T E)) :
  Calls Tryz.prog 168 #[.int .i64 f,p.v,q.v] w (TwoL H w T E):=by
 obtain ⟨h1,h2,h3⟩:=len_mid p q m n N 1 1 w hL hP hQ
 have HLP:=Lib.hid h1
 have HLQ:=Lib.hid h2
 have HLL:=Lib.hid h3
 have HCP:=Lib.hid (fun W (hs:St2 w W p q)=>hP.cls W hs.bel)
 have HCQ:=Lib.hid (fun W (hs:St2 w W p q)=>hQ.cls W hs.bel)
 have HC:=Lib.hid hC
 have HH:=Lib.hid hH
 have HS0:=Lib.hid (St2.new w p q)
 unfold TwoL ZeroE VecOk at HC ⊢
 clear h1 h2 h3 hL hP hQ hC hH
 go_enter Tryz.func168,Tryz.ntmps168
 go_wp2_with fail
 obtain ⟨w0,hw0⟩:∃ w0,w0=((w.alloc p.o).alloc q.o).alloc (.cells zcells 37):=⟨_,rfl⟩
 rw [<- hw0] at HS0 ⊢
 clear hw0
 go_cut [8,9] from 22 (fun x y wx=>LenMid w p q N true x y wx)
 case first =>
  have hs0:=HS0.out.dr
  have hs00:=HS0.out
  go_region_held3 (fun W=>((W.cell? ⟨w.heap.size,0,none⟩=some (.int .i64 p.k)/\W.cell? ⟨w.heap.size,1,none⟩=some (.slice p.b.1 p.b.2.1 p.b.2.2)/\W.cell? ⟨w.heap.size,2,none⟩=some (.int .i64 p.bn)/\W.cell? ⟨w.heap.size,3,none⟩=some (.slice p.s.1 p.s.2.1 p.s.2.2)/\W.cell? ⟨w.heap.size,4,none⟩=some (.slice p.i.1 p.i.2.1 p.i.2.2)/\W.cell? ⟨w.heap.size,5,none⟩=some (.slice p.f.1 p.f.2.1 p.f.2.2)/\W.cell? ⟨w.heap.size,6,none⟩=some (.slice p.c.1 p.c.2.1 p.c.2.2)/\W.cell? ⟨w.heap.size,7,none⟩=some (.slice p.x.1 p.x.2.1 p.x.2.2))/\(W.cell? ⟨w.heap.size+1,0,none⟩=some (.int .i64 q.k)/\W.cell? ⟨w.heap.size+1,1,none⟩=some (.slice q.b.1 q.b.2.1 q.b.2.2)/\W.cell? ⟨w.heap.size+1,2,none⟩=some (.int .i64 q.bn)/\W.cell? ⟨w.heap.size+1,3,none⟩=some (.slice q.s.1 q.s.2.1 q.s.2.2)/\W.cell? ⟨w.heap.size+1,4,none⟩=some (.slice q.i.1 q.i.2.1 q.i.2.2)/\W.cell? ⟨w.heap.size+1,5,none⟩=some (.slice q.f.1 q.f.2.1 q.f.2.2)/\W.cell? ⟨w.heap.size+1,6,none⟩=some (.slice q.c.1 q.c.2.1 q.c.2.2)/\W.cell? ⟨w.heap.size+1,7,none⟩=some (.slice q.x.1 q.x.2.1 q.x.2.2)))/\St2 w W p q)
   (first | (with_reducible assumption) | (with_reducible (refine st2_s ?_);repeat (first | (with_reducible assumption) | (with_reducible refine St2.dr ?_))))
   (first
    | (go_at_call 211;(with_reducible refine (HLL.out _).mono ?_);rintro e w5 ⟨rfl,rfl⟩)
    | (go_at_call 85;(with_reducible refine (HLP.out _ ?_).mono ?_);exact St2.self (by repeat (first | (with_reducible assumption) | (with_reducible refine St2.dr ?_)));rintro e w1 ⟨rfl,hb1⟩;obtain ⟨hc1,hf1⟩:=bcell2 hb1;have hz1:=hb1.size;have hst1:St2 w w1 p q:=St2.step (by repeat (first | (with_reducible assumption) | (with_reducible refine St2.dr ?_))) hb1;clear hb1)
    | (go_at_call 85;(with_reducible refine (HLQ.out _ ?_).mono ?_);exact St2.self (by repeat (first | (with_reducible assumption) | (with_reducible refine St2.dr ?_)));rintro e w2 ⟨rfl,hb2⟩;obtain ⟨hc2,hf2⟩:=bcell2 hb2;have hz2:=hb2.size;have hst2:St2 w w2 p q:=St2.step (by repeat (first | (with_reducible assumption) | (with_reducible refine St2.dr ?_))) hb2;clear hb2))
  all_goals
   go_wp2
   go_meet
   first
    | (with_reducible exact lenMid_of hst2)
    | (with_reducible exact lenMid_of hst1)
 obtain ⟨rfl,rfl,hst⟩:=hcut
 have HST:=Lib.hid hst
 clear hst HS0 HLP HLQ HLL
 obtain ⟨h0,h1,h2,h3,h4,h5,h6,h7⟩:=HST.out.one
 go_wp2_with fail
 refine (HCP.out _ HST.out).mono ?_
 rintro e w3 ⟨rfl,hb3⟩
 have HS3:=Lib.hid (HST.out.step hb3)
 clear hb3 h0 h1 h2 h3 h4 h5 h6 h7 HST
 obtain ⟨h0,h1,h2,h3,h4,h5,h6,h7⟩:=HS3.out.two
 go_wp2_with fail
 refine (HCQ.out _ HS3.out).mono ?_
 rintro e w4 ⟨rfl,hb4⟩
 have HS4:=Lib.hid (HS3.out.step hb4)
 clear hb4 h0 h1 h2 h3 h4 h5 h6 h7 HS3
 go_wp2_with fail
 go_cut [51] from 42 to 50 (fun x wx=>ClsYes w p q x wx)
 case first =>
  have hs0:=HS4.out.dr
  have hs00:=HS4.out
  go_region_held3 (fun W=>((W.cell? ⟨w.heap.size,0,none⟩=some (.int .i64 p.k)/\W.cell? ⟨w.heap.size,1,none⟩=some (.slice p.b.1 p.b.2.1 p.b.2.2)/\W.cell? ⟨w.heap.size,2,none⟩=some (.int .i64 p.bn)/\W.cell? ⟨w.heap.size,3,none⟩=some (.slice p.s.1 p.s.2.1 p.s.2.2)/\W.cell? ⟨w.heap.size,4,none⟩=some (.slice p.i.1 p.i.2.1 p.i.2.2)/\W.cell? ⟨w.heap.size,5,none⟩=some (.slice p.f.1 p.f.2.1 p.f.2.2)/\W.cell? ⟨w.heap.size,6,none⟩=some (.slice p.c.1 p.c.2.1 p.c.2.2)/\W.cell? ⟨w.heap.size,7,none⟩=some (.slice p.x.1 p.x.2.1 p.x.2.2))/\(W.cell? ⟨w.heap.size+1,0,none⟩=some (.int .i64 q.k)/\W.cell? ⟨w.heap.size+1,1,none⟩=some (.slice q.b.1 q.b.2.1 q.b.2.2)/\W.cell? ⟨w.heap.size+1,2,none⟩=some (.int .i64 q.bn)/\W.cell? ⟨w.heap.size+1,3,none⟩=some (.slice q.s.1 q.s.2.1 q.s.2.2)/\W.cell? ⟨w.heap.size+1,4,none⟩=some (.slice q.i.1 q.i.2.1 q.i.2.2)/\W.cell? ⟨w.heap.size+1,5,none⟩=some (.slice q.f.1 q.f.2.1 q.f.2.2)/\W.cell? ⟨w.heap.size+1,6,none⟩=some (.slice q.c.1 q.c.2.1 q.c.2.2)/\W.cell? ⟨w.heap.size+1,7,none⟩=some (.slice q.x.1 q.x.2.1 q.x.2.2)))/\St2 w W p q)
   (first | (with_reducible assumption) | (with_reducible (refine st2_s ?_);repeat (first | (with_reducible assumption) | (with_reducible refine St2.dr ?_))))
   (first
    | (go_at_call 58;(with_reducible refine (HCP.out _ ?_).mono ?_);exact St2.self (by repeat (first | (with_reducible assumption) | (with_reducible refine St2.dr ?_)));rintro e w1 ⟨rfl,hb1⟩;obtain ⟨hc1,hf1⟩:=bcell2 hb1;have hz1:=hb1.size;have hst1:St2 w w1 p q:=St2.step (by repeat (first | (with_reducible assumption) | (with_reducible refine St2.dr ?_))) hb1;clear hb1)
    | (go_at_call 58;(with_reducible refine (HCQ.out _ ?_).mono ?_);exact St2.self (by repeat (first | (with_reducible assumption) | (with_reducible refine St2.dr ?_)));rintro e w2 ⟨rfl,hb2⟩;obtain ⟨hc2,hf2⟩:=bcell2 hb2;have hz2:=hb2.size;have hst2:St2 w w2 p q:=St2.step (by repeat (first | (with_reducible assumption) | (with_reducible refine St2.dr ?_))) hb2;clear hb2))
  all_goals
   go_wp2
   go_meet
   first
    | (with_reducible exact clsYes_of hst2)
    | (with_reducible exact clsYes_of hst1)
 obtain ⟨rfl,hst⟩:=hcut
 have HS5:=Lib.hid hst
 clear hst HS4
 obtain ⟨h0,h1,h2,h3,h4,h5,h6,h7⟩:=HS5.out.one
 obtain ⟨g0,g1,g2,g3,g4,g5,g6,g7⟩:=HS5.out.two
 go_wp2_with fail
 refine (HC.out _ (fun j=>H j\/j=w.heap.size+2) HS5.out.bel (fun j e=>by
  have h1:=HS5.out.sz
  rcases e with e | e
  ·have:=HH.out j e;omega
  ·omega)).mono ?_
 clear h0 h1 h2 h3 h4 h5 h6 h7 g0 g1 g2 g3 g4 g5 g6 g7
 rintro e w9 (⟨he,k5,b5,bn5,s5,i5,f5,c5,x5,rfl,hk9,hb9⟩ | ⟨he,rfl,hb9⟩)
 ·have HS9:=Lib.hid (HS5.out.step hb9)
  have HKE:=Lib.hid hk9
  have HE:=Lib.hid he
  clear hb9 hk9 he
  obtain ⟨⟨h0,h1,h2,h3,h4,h5,h6,h7⟩,hz⟩:=boxed_of HS9.out.res
  go_wp2
  refine bodyPost_ret (v := .tuple #[vecW k5 b5 bn5 s5 i5 f5 c5 x5,.int .i64 0]) ?_ rfl (.inl ⟨HE.out,k5,b5,bn5,s5,i5,f5,c5,x5,rfl,(HKE.out.set8 (.inr rfl) _ _ _ _ _ _ _ _).sub (fun _ _ e => .inl e),below_set8 HS9.out.bel (Nat.le_add_right _ 2) _ _ _ _ _ _ _ _⟩)
  exact ret_vec2 (fn:=Tryz.f168) (p:=6) (u:=7) rfl _ _ (w.heap.size+2) (by rfl) (set8_block HS9.out.res _ _ _ _ _ _ _ _)
 ·have HS9:=Lib.hid (HS5.out.step hb9)
  have HE:=Lib.hid he
  clear hb9 he
  obtain ⟨⟨h0,h1,h2,h3,h4,h5,h6,h7⟩,hz⟩:=boxed_of HS9.out.res
  go_wp2
  refine bodyPost_ret (v := .tuple #[vecV 0 vnil 0 vnil vnil vnil vnil vnil,.int .i64 E]) ?_ rfl (.inr ⟨HE.out,rfl,below_set8 HS9.out.bel (Nat.le_add_right _ 2) _ _ _ _ _ _ _ _⟩)
  exact ret_vec2 (fn:=Tryz.f168) (p:=6) (u:=7) rfl _ _ (w.heap.size+2) (by rfl) (set8_block HS9.out.res _ _ _ _ _ _ _ _)
theorem rapply_unlike (H:Nat->Prop) (f:Int) (hf:11<=f) (hf2:f<=16) (p q:V8) (m n N:Nat) (z1 z2:Int) (hz:z1≠z2) (hy1:z1≠2) (hy2:z2≠2) (T:Value->World->Prop) (E:Int) (w:World) (hH:∀ b,H b->b < w.heap.size) (hL:lenP m n=some N) (hP:ClsV w p z1 m) (hQ:ClsV w q z2 n)
  (hC:∀ (W:World) (H':Nat->Prop),Below w.heap.size w W->(∀ b,H' b->b < W.heap.size)->Calls Tryz.prog 233 #[.int .i64 f,.int .i64 (N:Int),p.v,q.v] W (TwoL H' W T E)) :
  Calls Tryz.prog 168 #[.int .i64 f,p.v,q.v] w (TwoL H w T E):=by
 obtain ⟨h1,h2,h3⟩:=len_mid p q m n N z1 z2 w hL hP hQ
 have HLP:=Lib.hid h1
 have HLQ:=Lib.hid h2
 have HLL:=Lib.hid h3
 have HCP:=Lib.hid (fun W (hs:St2 w W p q)=>hP.cls W hs.bel)
 have HCQ:=Lib.hid (fun W (hs:St2 w W p q)=>hQ.cls W hs.bel)
 have HC:=Lib.hid hC
 have HH:=Lib.hid hH
 have HS0:=Lib.hid (St2.new w p q)
 unfold TwoL ZeroE VecOk at HC ⊢
 have n12:(z1 != z2)=true:=by simpa using hz
 have n1:(z1==2)=false:=by simpa using hy1
 have n2:(z2==2)=false:=by simpa using hy2
 clear hz hy1 hy2
 clear h1 h2 h3 hL hP hQ hC hH
 go_enter Tryz.func168,Tryz.ntmps168
 go_wp2_with fail
 obtain ⟨w0,hw0⟩:∃ w0,w0=((w.alloc p.o).alloc q.o).alloc (.cells zcells 37):=⟨_,rfl⟩
 rw [<- hw0] at HS0 ⊢
 clear hw0
 go_cut [8,9] from 22 (fun x y wx=>LenMid w p q N true x y wx)
 case first =>
  have hs0:=HS0.out.dr
  have hs00:=HS0.out
  go_region_held3 (fun W=>((W.cell? ⟨w.heap.size,0,none⟩=some (.int .i64 p.k)/\W.cell? ⟨w.heap.size,1,none⟩=some (.slice p.b.1 p.b.2.1 p.b.2.2)/\W.cell? ⟨w.heap.size,2,none⟩=some (.int .i64 p.bn)/\W.cell? ⟨w.heap.size,3,none⟩=some (.slice p.s.1 p.s.2.1 p.s.2.2)/\W.cell? ⟨w.heap.size,4,none⟩=some (.slice p.i.1 p.i.2.1 p.i.2.2)/\W.cell? ⟨w.heap.size,5,none⟩=some (.slice p.f.1 p.f.2.1 p.f.2.2)/\W.cell? ⟨w.heap.size,6,none⟩=some (.slice p.c.1 p.c.2.1 p.c.2.2)/\W.cell? ⟨w.heap.size,7,none⟩=some (.slice p.x.1 p.x.2.1 p.x.2.2))/\(W.cell? ⟨w.heap.size+1,0,none⟩=some (.int .i64 q.k)/\W.cell? ⟨w.heap.size+1,1,none⟩=some (.slice q.b.1 q.b.2.1 q.b.2.2)/\W.cell? ⟨w.heap.size+1,2,none⟩=some (.int .i64 q.bn)/\W.cell? ⟨w.heap.size+1,3,none⟩=some (.slice q.s.1 q.s.2.1 q.s.2.2)/\W.cell? ⟨w.heap.size+1,4,none⟩=some (.slice q.i.1 q.i.2.1 q.i.2.2)/\W.cell? ⟨w.heap.size+1,5,none⟩=some (.slice q.f.1 q.f.2.1 q.f.2.2)/\W.cell? ⟨w.heap.size+1,6,none⟩=some (.slice q.c.1 q.c.2.1 q.c.2.2)/\W.cell? ⟨w.heap.size+1,7,none⟩=some (.slice q.x.1 q.x.2.1 q.x.2.2)))/\St2 w W p q)
   (first | (with_reducible assumption) | (with_reducible (refine st2_s ?_);repeat (first | (with_reducible assumption) | (with_reducible refine St2.dr ?_))))
   (first
    | (go_at_call 211;(with_reducible refine (HLL.out _).mono ?_);rintro e w5 ⟨rfl,rfl⟩)
    | (go_at_call 85;(with_reducible refine (HLP.out _ ?_).mono ?_);exact St2.self (by repeat (first | (with_reducible assumption) | (with_reducible refine St2.dr ?_)));rintro e w1 ⟨rfl,hb1⟩;obtain ⟨hc1,hf1⟩:=bcell2 hb1;have hz1:=hb1.size;have hst1:St2 w w1 p q:=St2.step (by repeat (first | (with_reducible assumption) | (with_reducible refine St2.dr ?_))) hb1;clear hb1)
    | (go_at_call 85;(with_reducible refine (HLQ.out _ ?_).mono ?_);exact St2.self (by repeat (first | (with_reducible assumption) | (with_reducible refine St2.dr ?_)));rintro e w2 ⟨rfl,hb2⟩;obtain ⟨hc2,hf2⟩:=bcell2 hb2;have hz2:=hb2.size;have hst2:St2 w w2 p q:=St2.step (by repeat (first | (with_reducible assumption) | (with_reducible refine St2.dr ?_))) hb2;clear hb2))
  all_goals
   go_wp2
   go_meet
   first
    | (with_reducible exact lenMid_of hst2)
    | (with_reducible exact lenMid_of hst1)
 obtain ⟨rfl,rfl,hst⟩:=hcut
 have HST:=Lib.hid hst
 clear hst HS0 HLP HLQ HLL
 obtain ⟨h0,h1,h2,h3,h4,h5,h6,h7⟩:=HST.out.one
 go_wp2_with fail
 refine (HCP.out _ HST.out).mono ?_
 rintro e w3 ⟨rfl,hb3⟩
 have HS3:=Lib.hid (HST.out.step hb3)
 clear hb3 h0 h1 h2 h3 h4 h5 h6 h7 HST
 obtain ⟨h0,h1,h2,h3,h4,h5,h6,h7⟩:=HS3.out.two
 go_wp2_with fail
 refine (HCQ.out _ HS3.out).mono ?_
 rintro e w4 ⟨rfl,hb4⟩
 have HS4:=Lib.hid (HS3.out.step hb4)
 clear hb4 h0 h1 h2 h3 h4 h5 h6 h7 HS3
 go_wp2_with fail
 refine wp_region_any (by kernel_rfl) ?_
 change wpAny _ _ _ _ _ _ _ (World.drew _)
 have HA1:=Lib.hid (HS4.out.dr)
 generalize w4.drew=w1 at HA1 ⊢
 obtain ⟨h0,h1,h2,h3,h4,h5,h6,h7⟩:=HA1.out.one
 obtain ⟨g0,g1,g2,g3,g4,g5,g6,g7⟩:=HA1.out.two
 refine wpAny_ready (rs:=[0,2]) (by kernel_rfl) (by simp) ?_
 refine AllReady.cons rfl (fun K hK=>?_) (AllReady.cons rfl (fun K hK=>?_) AllReady.nil)
 ·go_simp
  refine hK _ _ ?_
  clear hK K
  refine wpAny_ready (rs:=[1,2]) (by kernel_rfl) (by simp) ?_
  refine AllReady.cons rfl (fun K hK=>?_) (AllReady.cons rfl (fun K hK=>?_) AllReady.nil)
  ·clear g0 g1 g2 g3 g4 g5 g6 g7
   go_simp
   go_wp2_with (go_at_call 58;refine (HCP.out _ HA1.out).mono ?_;rintro e w2a ⟨rfl,hb⟩;have HA2:=Lib.hid (HA1.out.step hb);clear hb;obtain ⟨g0,g1,g2,g3,g4,g5,g6,g7⟩:=HA2.out.two)
   refine wpAny_ready (rs:=[2]) (by kernel_rfl) (by simp) ?_
   refine AllReady.cons rfl (fun K hK=>?_) AllReady.nil
   go_simp
   refine hK _ _ ?_
   clear hK K
   refine wpAny_ready (rs:=[3]) (by kernel_rfl) (by simp) ?_
   refine AllReady.cons rfl (fun K hK=>?_) AllReady.nil
   clear g0 g1 g2 g3 g4 g5 g6 g7
   go_simp
   go_wp2_with (go_at_call 58;refine (HCQ.out _ HA2.out).mono ?_;rintro e w3a ⟨rfl,hb⟩;have HA3:=Lib.hid (HA2.out.step hb);clear hb;obtain ⟨g0,g1,g2,g3,g4,g5,g6,g7⟩:=HA3.out.two)
   refine wpAny_take (i:=4) (v:=?v1) rfl (by kernel_rfl) (by kernel_rfl) (by kernel_rfl) (fun _ _ _ h=>h) (Or.inl ⟨by rfl,?hy1⟩) ?rs1
   case hy1=>(intro w;go_simp;try with_reducible rfl)
   refine wpAny_take (i:=5) (v:=?v2) rfl (by kernel_rfl) (by kernel_rfl) (by kernel_rfl) (fun _ _ _ h=>h) (Or.inl ⟨by rfl,?hy2⟩) ?rs2
   case hy2=>(intro w;go_simp;try with_reducible rfl)
   refine wpAny_take (i:=6) (v:=undef) rfl (by kernel_rfl) (by kernel_rfl) (by kernel_rfl) (fun _ _ _ h=>h) (Or.inr ⟨by (go_simp <;> (intro h;cases h)),rfl⟩) ?_
   refine wpAny_take (i:=7) (v:=undef) rfl (by kernel_rfl) (by kernel_rfl) (by kernel_rfl) (fun _ _ _ h=>h) (Or.inr ⟨by (go_simp <;> (intro h;cases h)),rfl⟩) ?_
   refine wpAny_take (i:=8) (v:=undef) rfl (by kernel_rfl) (by kernel_rfl) (by kernel_rfl) (fun _ _ _ h=>h) (Or.inr ⟨by (go_simp <;> (intro h;cases h)),rfl⟩) ?_
   refine wpAny_take (i:=9) (v:=?v3) rfl (by kernel_rfl) (by kernel_rfl) (by kernel_rfl) (fun _ _ _ h=>h) (Or.inl ⟨by rfl,?hy3⟩) ?rs3
   case hy3=>(intro w;go_simp;try with_reducible rfl)
   refine wpAny_done (by kernel_rfl) ?_ _
   clear g0 g1 g2 g3 g4 g5 g6 g7 h0 h1 h2 h3 h4 h5 h6 h7
   obtain ⟨h0,h1,h2,h3,h4,h5,h6,h7⟩:=HA3.out.one
   obtain ⟨g0,g1,g2,g3,g4,g5,g6,g7⟩:=HA3.out.two
   go_wp2_with fail
   refine (HC.out _ (fun j=>H j\/j=w.heap.size+2) HA3.out.bel (fun j e=>by
    have h1:=HA3.out.sz
    rcases e with e | e
    ·have:=HH.out j e;omega
    ·omega)).mono ?_
   clear h0 h1 h2 h3 h4 h5 h6 h7 g0 g1 g2 g3 g4 g5 g6 g7
   rintro e w9 (⟨he,k5,b5,bn5,s5,i5,f5,c5,x5,rfl,hk9,hb9⟩ | ⟨he,rfl,hb9⟩)
   ·have HS9:=Lib.hid (HA3.out.step hb9)
    have HKE:=Lib.hid hk9
    have HE:=Lib.hid he
    clear hb9 hk9 he
    obtain ⟨⟨h0,h1,h2,h3,h4,h5,h6,h7⟩,hz⟩:=boxed_of HS9.out.res
    go_wp2
    refine bodyPost_ret (v := .tuple #[vecW k5 b5 bn5 s5 i5 f5 c5 x5,.int .i64 0]) ?_ rfl (.inl ⟨HE.out,k5,b5,bn5,s5,i5,f5,c5,x5,rfl,(HKE.out.set8 (.inr rfl) _ _ _ _ _ _ _ _).sub (fun _ _ e => .inl e),below_set8 HS9.out.bel (Nat.le_add_right _ 2) _ _ _ _ _ _ _ _⟩)
    exact ret_vec2 (fn:=Tryz.f168) (p:=6) (u:=7) rfl _ _ (w.heap.size+2) (by rfl) (set8_block HS9.out.res _ _ _ _ _ _ _ _)
   ·have HS9:=Lib.hid (HA3.out.step hb9)
    have HE:=Lib.hid he
    clear hb9 he
    obtain ⟨⟨h0,h1,h2,h3,h4,h5,h6,h7⟩,hz⟩:=boxed_of HS9.out.res
    go_wp2
    refine bodyPost_ret (v := .tuple #[vecV 0 vnil 0 vnil vnil vnil vnil vnil,.int .i64 E]) ?_ rfl (.inr ⟨HE.out,rfl,below_set8 HS9.out.bel (Nat.le_add_right _ 2) _ _ _ _ _ _ _ _⟩)
    exact ret_vec2 (fn:=Tryz.f168) (p:=6) (u:=7) rfl _ _ (w.heap.size+2) (by rfl) (set8_block HS9.out.res _ _ _ _ _ _ _ _)
  ·go_simp
   refine hK _ _ ?_
   clear hK K
   refine wpAny_ready (rs:=[1]) (by kernel_rfl) (by simp) ?_
   refine AllReady.cons rfl (fun K hK=>?_) AllReady.nil
   clear g0 g1 g2 g3 g4 g5 g6 g7
   go_simp
   go_wp2_with (go_at_call 58;refine (HCP.out _ HA1.out).mono ?_;rintro e w2a ⟨rfl,hb⟩;have HA2:=Lib.hid (HA1.out.step hb);clear hb;obtain ⟨g0,g1,g2,g3,g4,g5,g6,g7⟩:=HA2.out.two)
   refine wpAny_ready (rs:=[3]) (by kernel_rfl) (by simp) ?_
   refine AllReady.cons rfl (fun K hK=>?_) AllReady.nil
   clear g0 g1 g2 g3 g4 g5 g6 g7
   go_simp
   go_wp2_with (go_at_call 58;refine (HCQ.out _ HA2.out).mono ?_;rintro e w3a ⟨rfl,hb⟩;have HA3:=Lib.hid (HA2.out.step hb);clear hb;obtain ⟨g0,g1,g2,g3,g4,g5,g6,g7⟩:=HA3.out.two)
   refine wpAny_take (i:=4) (v:=?v4) rfl (by kernel_rfl) (by kernel_rfl) (by kernel_rfl) (fun _ _ _ h=>h) (Or.inl ⟨by rfl,?hy4⟩) ?rs4
   case hy4=>(intro w;go_simp;try with_reducible rfl)
   refine wpAny_take (i:=5) (v:=?v5) rfl (by kernel_rfl) (by kernel_rfl) (by kernel_rfl) (fun _ _ _ h=>h) (Or.inl ⟨by rfl,?hy5⟩) ?rs5
   case hy5=>(intro w;go_simp;try with_reducible rfl)
   refine wpAny_take (i:=6) (v:=undef) rfl (by kernel_rfl) (by kernel_rfl) (by kernel_rfl) (fun _ _ _ h=>h) (Or.inr ⟨by (go_simp <;> (intro h;cases h)),rfl⟩) ?_
   refine wpAny_take (i:=7) (v:=undef) rfl (by kernel_rfl) (by kernel_rfl) (by kernel_rfl) (fun _ _ _ h=>h) (Or.inr ⟨by (go_simp <;> (intro h;cases h)),rfl⟩) ?_
   refine wpAny_take (i:=8) (v:=undef) rfl (by kernel_rfl) (by kernel_rfl) (by kernel_rfl) (fun _ _ _ h=>h) (Or.inr ⟨by (go_simp <;> (intro h;cases h)),rfl⟩) ?_
   refine wpAny_take (i:=9) (v:=?v6) rfl (by kernel_rfl) (by kernel_rfl) (by kernel_rfl) (fun _ _ _ h=>h) (Or.inl ⟨by rfl,?hy6⟩) ?rs6
   case hy6=>(intro w;go_simp;try with_reducible rfl)
   refine wpAny_done (by kernel_rfl) ?_ _
   clear g0 g1 g2 g3 g4 g5 g6 g7 h0 h1 h2 h3 h4 h5 h6 h7
   obtain ⟨h0,h1,h2,h3,h4,h5,h6,h7⟩:=HA3.out.one
   obtain ⟨g0,g1,g2,g3,g4,g5,g6,g7⟩:=HA3.out.two
   go_wp2_with fail
   refine (HC.out _ (fun j=>H j\/j=w.heap.size+2) HA3.out.bel (fun j e=>by
    have h1:=HA3.out.sz
    rcases e with e | e
    ·have:=HH.out j e;omega
    ·omega)).mono ?_
   clear h0 h1 h2 h3 h4 h5 h6 h7 g0 g1 g2 g3 g4 g5 g6 g7
   rintro e w9 (⟨he,k5,b5,bn5,s5,i5,f5,c5,x5,rfl,hk9,hb9⟩ | ⟨he,rfl,hb9⟩)
   ·have HS9:=Lib.hid (HA3.out.step hb9)
    have HKE:=Lib.hid hk9
    have HE:=Lib.hid he
    clear hb9 hk9 he
    obtain ⟨⟨h0,h1,h2,h3,h4,h5,h6,h7⟩,hz⟩:=boxed_of HS9.out.res
    go_wp2
    refine bodyPost_ret (v := .tuple #[vecW k5 b5 bn5 s5 i5 f5 c5 x5,.int .i64 0]) ?_ rfl (.inl ⟨HE.out,k5,b5,bn5,s5,i5,f5,c5,x5,rfl,(HKE.out.set8 (.inr rfl) _ _ _ _ _ _ _ _).sub (fun _ _ e => .inl e),below_set8 HS9.out.bel (Nat.le_add_right _ 2) _ _ _ _ _ _ _ _⟩)
    exact ret_vec2 (fn:=Tryz.f168) (p:=6) (u:=7) rfl _ _ (w.heap.size+2) (by rfl) (set8_block HS9.out.res _ _ _ _ _ _ _ _)
   ·have HS9:=Lib.hid (HA3.out.step hb9)
    have HE:=Lib.hid he
    clear hb9 he
    obtain ⟨⟨h0,h1,h2,h3,h4,h5,h6,h7⟩,hz⟩:=boxed_of HS9.out.res
    go_wp2
    refine bodyPost_ret (v := .tuple #[vecV 0 vnil 0 vnil vnil vnil vnil vnil,.int .i64 E]) ?_ rfl (.inr ⟨HE.out,rfl,below_set8 HS9.out.bel (Nat.le_add_right _ 2) _ _ _ _ _ _ _ _⟩)
    exact ret_vec2 (fn:=Tryz.f168) (p:=6) (u:=7) rfl _ _ (w.heap.size+2) (by rfl) (set8_block HS9.out.res _ _ _ _ _ _ _ _)
 ·go_simp
  refine hK _ _ ?_
  clear hK K
  refine wpAny_ready (rs:=[0]) (by kernel_rfl) (by simp) ?_
  refine AllReady.cons rfl (fun K hK=>?_) AllReady.nil
  go_simp
  refine hK _ _ ?_
  clear hK K
  refine wpAny_ready (rs:=[1]) (by kernel_rfl) (by simp) ?_
  refine AllReady.cons rfl (fun K hK=>?_) AllReady.nil
  clear g0 g1 g2 g3 g4 g5 g6 g7
  go_simp
  go_wp2_with (go_at_call 58;refine (HCP.out _ HA1.out).mono ?_;rintro e w2a ⟨rfl,hb⟩;have HA2:=Lib.hid (HA1.out.step hb);clear hb;obtain ⟨g0,g1,g2,g3,g4,g5,g6,g7⟩:=HA2.out.two)
  refine wpAny_ready (rs:=[3]) (by kernel_rfl) (by simp) ?_
  refine AllReady.cons rfl (fun K hK=>?_) AllReady.nil
  clear g0 g1 g2 g3 g4 g5 g6 g7
  go_simp
  go_wp2_with (go_at_call 58;refine (HCQ.out _ HA2.out).mono ?_;rintro e w3a ⟨rfl,hb⟩;have HA3:=Lib.hid (HA2.out.step hb);clear hb;obtain ⟨g0,g1,g2,g3,g4,g5,g6,g7⟩:=HA3.out.two)
  refine wpAny_take (i:=4) (v:=?v7) rfl (by kernel_rfl) (by kernel_rfl) (by kernel_rfl) (fun _ _ _ h=>h) (Or.inl ⟨by rfl,?hy7⟩) ?rs7
  case hy7=>(intro w;go_simp;try with_reducible rfl)
  refine wpAny_take (i:=5) (v:=?v8) rfl (by kernel_rfl) (by kernel_rfl) (by kernel_rfl) (fun _ _ _ h=>h) (Or.inl ⟨by rfl,?hy8⟩) ?rs8
  case hy8=>(intro w;go_simp;try with_reducible rfl)
  refine wpAny_take (i:=6) (v:=undef) rfl (by kernel_rfl) (by kernel_rfl) (by kernel_rfl) (fun _ _ _ h=>h) (Or.inr ⟨by (go_simp <;> (intro h;cases h)),rfl⟩) ?_
  refine wpAny_take (i:=7) (v:=undef) rfl (by kernel_rfl) (by kernel_rfl) (by kernel_rfl) (fun _ _ _ h=>h) (Or.inr ⟨by (go_simp <;> (intro h;cases h)),rfl⟩) ?_
  refine wpAny_take (i:=8) (v:=undef) rfl (by kernel_rfl) (by kernel_rfl) (by kernel_rfl) (fun _ _ _ h=>h) (Or.inr ⟨by (go_simp <;> (intro h;cases h)),rfl⟩) ?_
  refine wpAny_take (i:=9) (v:=?v9) rfl (by kernel_rfl) (by kernel_rfl) (by kernel_rfl) (fun _ _ _ h=>h) (Or.inl ⟨by rfl,?hy9⟩) ?rs9
  case hy9=>(intro w;go_simp;try with_reducible rfl)
  refine wpAny_done (by kernel_rfl) ?_ _
  clear g0 g1 g2 g3 g4 g5 g6 g7 h0 h1 h2 h3 h4 h5 h6 h7
  obtain ⟨h0,h1,h2,h3,h4,h5,h6,h7⟩:=HA3.out.one
  obtain ⟨g0,g1,g2,g3,g4,g5,g6,g7⟩:=HA3.out.two
  go_wp2_with fail
  refine (HC.out _ (fun j=>H j\/j=w.heap.size+2) HA3.out.bel (fun j e=>by
   have h1:=HA3.out.sz
   rcases e with e | e
   ·have:=HH.out j e;omega
   ·omega)).mono ?_
  clear h0 h1 h2 h3 h4 h5 h6 h7 g0 g1 g2 g3 g4 g5 g6 g7
  rintro e w9 (⟨he,k5,b5,bn5,s5,i5,f5,c5,x5,rfl,hk9,hb9⟩ | ⟨he,rfl,hb9⟩)
  ·have HS9:=Lib.hid (HA3.out.step hb9)
   have HKE:=Lib.hid hk9
   have HE:=Lib.hid he
   clear hb9 hk9 he
   obtain ⟨⟨h0,h1,h2,h3,h4,h5,h6,h7⟩,hz⟩:=boxed_of HS9.out.res
   go_wp2
   refine bodyPost_ret (v := .tuple #[vecW k5 b5 bn5 s5 i5 f5 c5 x5,.int .i64 0]) ?_ rfl (.inl ⟨HE.out,k5,b5,bn5,s5,i5,f5,c5,x5,rfl,(HKE.out.set8 (.inr rfl) _ _ _ _ _ _ _ _).sub (fun _ _ e => .inl e),below_set8 HS9.out.bel (Nat.le_add_right _ 2) _ _ _ _ _ _ _ _⟩)
   exact ret_vec2 (fn:=Tryz.f168) (p:=6) (u:=7) rfl _ _ (w.heap.size+2) (by rfl) (set8_block HS9.out.res _ _ _ _ _ _ _ _)
  ·have HS9:=Lib.hid (HA3.out.step hb9)
   have HE:=Lib.hid he
   clear hb9 he
   obtain ⟨⟨h0,h1,h2,h3,h4,h5,h6,h7⟩,hz⟩:=boxed_of HS9.out.res
   go_wp2
   refine bodyPost_ret (v := .tuple #[vecV 0 vnil 0 vnil vnil vnil vnil vnil,.int .i64 E]) ?_ rfl (.inr ⟨HE.out,rfl,below_set8 HS9.out.bel (Nat.le_add_right _ 2) _ _ _ _ _ _ _ _⟩)
   exact ret_vec2 (fn:=Tryz.f168) (p:=6) (u:=7) rfl _ _ (w.heap.size+2) (by rfl) (set8_block HS9.out.res _ _ _ _ _ _ _ _)
end Go.Proofs.YtiahegjdkejjpaaGreatDoor
