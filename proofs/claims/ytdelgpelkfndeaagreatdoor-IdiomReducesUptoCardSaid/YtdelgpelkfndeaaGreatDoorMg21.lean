/- The walk of relate.Apply where one of two lists is of characters. The walks of bitvec.Truth, relate.spread and relate.Apply at no elements, whatever the Vecs. .. Conditions: as each theorem says. -/
import Derived.Test.YtdelgpelkfndeaaGreatDoorMgA
import Derived.Test.YtdelgpelkfndeaaGreatDoorMg20
import Derived.Test.YtdelgpelkfndeaaGreatDoorMg19
import Derived.Test.YtdelgpelkfndeaaGreatDoorMg11
import Derived.Test.YtdelgpelkfndeaaGreatDoorMg06
import Derived.Test.YtdelgpelkfndeaaGreatDoorMg07
import Derived.Test.YtdelgpelkfndeaaGreatDoorMg17
import Derived.Test.YtdelgpelkfndeaaGreatDoorMg12
import Derived.Test.YtdelgpelkfndeaaGreatDoorMg09
import Derived.Test.YtdelgpelkfndeaaGreatDoorMg16
import Derived.Test.YtdelgpelkfndeaaGreatDoorMg14
import Derived.Test.YtdelgpelkfndeaaGreatDoorMg05
set_option maxRecDepth 100000
set_option maxHeartbeats 4000000
namespace Go.Proofs.YtdelgpelkfndeaaGreatDoor
open Go Go.RowKit Go.Proofs Fl
def TwoL (H:Nat->Prop) (w:World) (T:Value->World->Prop) (E:Int) (e:Ending) (w':World):Prop :=
 (E=0/\Qde H w T e w')\/(E≠0/\Qh3 w E e w')
def Qqv (w:World) (p q:V8) (x:Value) (W:World):Prop:=x= .bool true/\St2 w W p q
theorem Qh7 {w W:World}{p q:V8} (h:St2 w W p q):Qqv w p q (.bool true) W:=⟨rfl,h⟩
theorem Qh8 (H:Nat->Prop) (f:Int) (hf:11<=f) (hf2:f<=16) (p q:V8) (m n N:Nat) (T:Value->World->Prop) (E:Int) (w:World) (hH:∀ b,H b->b < w.heap.size) (hL:lenP m n=some N) (hP:ClsV w p 1 m) (hQ:ClsV w q 1 n)
  (hC:∀ (W:World) (H':Nat->Prop),Below w.heap.size w W->(∀ b,H' b->b < W.heap.size)->Calls Tryz.prog 61 #[.int .i64 f,.int .i64 (N:Int),p.v,q.v] W (TwoL H' W T E)) :
  Calls Tryz.prog 27 #[.int .i64 f,p.v,q.v] w (TwoL H w T E):=by
 obtain ⟨h1,h2,h3⟩:=Qja p q m n N 1 1 w hL hP hQ
 have HLP:=hD h1
 have HLQ:=hD h2
 have HLL:=hD h3
 have HCP:=hD (fun W (hs:St2 w W p q)=>hP.cls W hs.bel)
 have HCQ:=hD (fun W (hs:St2 w W p q)=>hQ.cls W hs.bel)
 have HC:=hD hC
 have HH:=hD hH
 have HS0:=hD (St2.new w p q)
 unfold TwoL Qh3 Qde at HC ⊢
 clear h1 h2 h3 hL hP hQ hC hH
 go_enter Tryz.func27,Tryz.ntmps27
 go_wp2_with fail
 obtain ⟨w0,hw0⟩:∃ w0,w0=((w.alloc p.o).alloc q.o).alloc (.cells zcells 39):=⟨_,rfl⟩
 rw [<- hw0] at HS0 ⊢
 clear hw0
 go_cut [8,9] from 22 (fun x y wx=>Qfn w p q N true x y wx)
 case first =>
  have hs0:=HS0.out.dr
  have hs00:=HS0.out
  go_region_held3 (fun W=>St2C w W p q/\St2 w W p q)
   (first | with_reducible assumption | (with_reducible (refine QfQ ?_);repeat (first | with_reducible assumption | with_reducible refine St2.dr ?_)))
   (first
    | (go_at_call 60;(with_reducible refine (HLL.out _).mono ?_);rintro e w5 ⟨rfl,rfl⟩)
    | (go_at_call 23;(with_reducible refine (HLP.out _ ?_).mono ?_);exact St2.self (by repeat (first | with_reducible assumption | with_reducible refine St2.dr ?_));rintro e w1 ⟨rfl,hb1⟩;obtain ⟨hc1,hf1⟩:=bcell2 hb1;have hz1:=hb1.size;have hst1:St2 w w1 p q:=St2.step (by repeat (first | with_reducible assumption | with_reducible refine St2.dr ?_)) hb1;clear hb1)
    | (go_at_call 23;(with_reducible refine (HLQ.out _ ?_).mono ?_);exact St2.self (by repeat (first | with_reducible assumption | with_reducible refine St2.dr ?_));rintro e w2 ⟨rfl,hb2⟩;obtain ⟨hc2,hf2⟩:=bcell2 hb2;have hz2:=hb2.size;have hst2:St2 w w2 p q:=St2.step (by repeat (first | with_reducible assumption | with_reducible refine St2.dr ?_)) hb2;clear hb2))
  all_goals
   go_wp2
   go_meet
   first
    | with_reducible exact QaZ hst2
    | with_reducible exact QaZ hst1
 obtain ⟨rfl,rfl,hst⟩:=hcut
 have HST:=hD hst
 clear hst HS0 HLP HLQ HLL
 obtain ⟨h0,h1,h2,h3,h4,h5,h6,h7⟩:=HST.out.one
 go_wp2_with fail
 refine (HCP.out _ HST.out).mono ?_
 rintro e w3 ⟨rfl,hb3⟩
 have HS3:=hD (HST.out.step hb3)
 clear hb3 h0 h1 h2 h3 h4 h5 h6 h7 HST
 obtain ⟨h0,h1,h2,h3,h4,h5,h6,h7⟩:=HS3.out.two
 go_wp2_with fail
 refine (HCQ.out _ HS3.out).mono ?_
 rintro e w4 ⟨rfl,hb4⟩
 have HS4:=hD (HS3.out.step hb4)
 clear hb4 h0 h1 h2 h3 h4 h5 h6 h7 HS3
 go_wp2_with fail
 go_cut [51] from 42 to 50 (fun x wx=>Qqv w p q x wx)
 case first =>
  have hs0:=HS4.out.dr
  have hs00:=HS4.out
  go_region_held3 (fun W=>St2C w W p q/\St2 w W p q)
   (first | with_reducible assumption | (with_reducible (refine QfQ ?_);repeat (first | with_reducible assumption | with_reducible refine St2.dr ?_)))
   (first
    | (go_at_call 44;(with_reducible refine (HCP.out _ ?_).mono ?_);exact St2.self (by repeat (first | with_reducible assumption | with_reducible refine St2.dr ?_));rintro e w1 ⟨rfl,hb1⟩;obtain ⟨hc1,hf1⟩:=bcell2 hb1;have hz1:=hb1.size;have hst1:St2 w w1 p q:=St2.step (by repeat (first | with_reducible assumption | with_reducible refine St2.dr ?_)) hb1;clear hb1)
    | (go_at_call 44;(with_reducible refine (HCQ.out _ ?_).mono ?_);exact St2.self (by repeat (first | with_reducible assumption | with_reducible refine St2.dr ?_));rintro e w2 ⟨rfl,hb2⟩;obtain ⟨hc2,hf2⟩:=bcell2 hb2;have hz2:=hb2.size;have hst2:St2 w w2 p q:=St2.step (by repeat (first | with_reducible assumption | with_reducible refine St2.dr ?_)) hb2;clear hb2))
  all_goals
   go_wp2
   go_meet
   first
    | with_reducible exact Qh7 hst2
    | with_reducible exact Qh7 hst1
 obtain ⟨rfl,hst⟩:=hcut
 have HS5:=hD hst
 clear hst HS4
 obtain ⟨h0,h1,h2,h3,h4,h5,h6,h7⟩:=HS5.out.one
 obtain ⟨g0,g1,g2,g3,g4,g5,g6,g7⟩:=HS5.out.two
 go_wp2_with fail
 refine (HC.out _ (fun j=>H j\/j=w.heap.size+2) HS5.out.bel (fun j e=>by
  have h1:=HS5.out.sz
  rcases e with e | e
  ·have:=HH.out j e;omega
  ·omega)).mono ?_
 clear h0 h1 h2 h3 h4 h5 h6 h7 g0 g1 g2 g3 g4 g5 g6 g7
 rintro e w9 (⟨he,k5,b5,bn5,s5,i5,f5,c5,x5,rfl,hk9,hb9⟩ | ⟨he,rfl,hb9⟩)
 ·have HS9:=hD (HS5.out.step hb9)
  have HKE:=hD hk9
  have HE:=hD he
  clear hb9 hk9 he
  obtain ⟨⟨h0,h1,h2,h3,h4,h5,h6,h7⟩,hz⟩:=Qag HS9.out.res
  go_wp2
  refine bodyPost_ret (v := .tuple #[vecW k5 b5 bn5 s5 i5 f5 c5 x5,.int .i64 0]) ?_ rfl (.inl ⟨HE.out,k5,b5,bn5,s5,i5,f5,c5,x5,rfl,(HKE.out.set8 (.inr rfl) _ _ _ _ _ _ _ _).sub (fun _ _ e => .inl e),Qac HS9.out.bel (Nat.le_add_right _ 2) _ _ _ _ _ _ _ _⟩)
  exact Qas (fn:=Tryz.f27) (p:=6) (u:=7) rfl _ _ (w.heap.size+2) (by rfl) (Qad HS9.out.res _ _ _ _ _ _ _ _)
 ·have HS9:=hD (HS5.out.step hb9)
  have HE:=hD he
  clear hb9 he
  obtain ⟨⟨h0,h1,h2,h3,h4,h5,h6,h7⟩,hz⟩:=Qag HS9.out.res
  go_wp2
  refine bodyPost_ret (v := .tuple #[vecV 0 vnil 0 vnil vnil vnil vnil vnil,.int .i64 E]) ?_ rfl (.inr ⟨HE.out,rfl,Qac HS9.out.bel (Nat.le_add_right _ 2) _ _ _ _ _ _ _ _⟩)
  exact Qas (fn:=Tryz.f27) (p:=6) (u:=7) rfl _ _ (w.heap.size+2) (by rfl) (Qad HS9.out.res _ _ _ _ _ _ _ _)
theorem QdR (H:Nat->Prop) (f:Int) (hf:11<=f) (hf2:f<=16) (p q:V8) (m n N:Nat) (z1 z2:Int) (hz:z1≠z2) (hy1:z1≠2) (hy2:z2≠2) (T:Value->World->Prop) (E:Int) (w:World) (hH:∀ b,H b->b < w.heap.size) (hL:lenP m n=some N) (hP:ClsV w p z1 m) (hQ:ClsV w q z2 n)
  (hC:∀ (W:World) (H':Nat->Prop),Below w.heap.size w W->(∀ b,H' b->b < W.heap.size)->Calls Tryz.prog 61 #[.int .i64 f,.int .i64 (N:Int),p.v,q.v] W (TwoL H' W T E)) :
  Calls Tryz.prog 27 #[.int .i64 f,p.v,q.v] w (TwoL H w T E):=by
 obtain ⟨h1,h2,h3⟩:=Qja p q m n N z1 z2 w hL hP hQ
 have HLP:=hD h1
 have HLQ:=hD h2
 have HLL:=hD h3
 have HCP:=hD (fun W (hs:St2 w W p q)=>hP.cls W hs.bel)
 have HCQ:=hD (fun W (hs:St2 w W p q)=>hQ.cls W hs.bel)
 have HC:=hD hC
 have HH:=hD hH
 have HS0:=hD (St2.new w p q)
 unfold TwoL Qh3 Qde at HC ⊢
 have n12:(z1 != z2)=true:=by simpa using hz
 have n1:(z1==2)=false:=by simpa using hy1
 have n2:(z2==2)=false:=by simpa using hy2
 clear hz hy1 hy2
 clear h1 h2 h3 hL hP hQ hC hH
 go_enter Tryz.func27,Tryz.ntmps27
 go_wp2_with fail
 obtain ⟨w0,hw0⟩:∃ w0,w0=((w.alloc p.o).alloc q.o).alloc (.cells zcells 39):=⟨_,rfl⟩
 rw [<- hw0] at HS0 ⊢
 clear hw0
 go_cut [8,9] from 22 (fun x y wx=>Qfn w p q N true x y wx)
 case first =>
  have hs0:=HS0.out.dr
  have hs00:=HS0.out
  go_region_held3 (fun W=>St2C w W p q/\St2 w W p q)
   (first | with_reducible assumption | (with_reducible (refine QfQ ?_);repeat (first | with_reducible assumption | with_reducible refine St2.dr ?_)))
   (first
    | (go_at_call 60;(with_reducible refine (HLL.out _).mono ?_);rintro e w5 ⟨rfl,rfl⟩)
    | (go_at_call 23;(with_reducible refine (HLP.out _ ?_).mono ?_);exact St2.self (by repeat (first | with_reducible assumption | with_reducible refine St2.dr ?_));rintro e w1 ⟨rfl,hb1⟩;obtain ⟨hc1,hf1⟩:=bcell2 hb1;have hz1:=hb1.size;have hst1:St2 w w1 p q:=St2.step (by repeat (first | with_reducible assumption | with_reducible refine St2.dr ?_)) hb1;clear hb1)
    | (go_at_call 23;(with_reducible refine (HLQ.out _ ?_).mono ?_);exact St2.self (by repeat (first | with_reducible assumption | with_reducible refine St2.dr ?_));rintro e w2 ⟨rfl,hb2⟩;obtain ⟨hc2,hf2⟩:=bcell2 hb2;have hz2:=hb2.size;have hst2:St2 w w2 p q:=St2.step (by repeat (first | with_reducible assumption | with_reducible refine St2.dr ?_)) hb2;clear hb2))
  all_goals
   go_wp2
   go_meet
   first
    | with_reducible exact QaZ hst2
    | with_reducible exact QaZ hst1
 obtain ⟨rfl,rfl,hst⟩:=hcut
 have HST:=hD hst
 clear hst HS0 HLP HLQ HLL
 obtain ⟨h0,h1,h2,h3,h4,h5,h6,h7⟩:=HST.out.one
 go_wp2_with fail
 refine (HCP.out _ HST.out).mono ?_
 rintro e w3 ⟨rfl,hb3⟩
 have HS3:=hD (HST.out.step hb3)
 clear hb3 h0 h1 h2 h3 h4 h5 h6 h7 HST
 obtain ⟨h0,h1,h2,h3,h4,h5,h6,h7⟩:=HS3.out.two
 go_wp2_with fail
 refine (HCQ.out _ HS3.out).mono ?_
 rintro e w4 ⟨rfl,hb4⟩
 have HS4:=hD (HS3.out.step hb4)
 clear hb4 h0 h1 h2 h3 h4 h5 h6 h7 HS3
 go_wp2_with fail
 have HCPn:=hD (fun n:LatW w4=>HCP.out _ (HS4.out.step n.h))
 have HCQn:=hD (fun n:LatW w4=>HCQ.out _ (HS4.out.step n.h))
 have hL1:=LatW.cell (w:=w4) (g:=w.heap.size) (by have:=HS4.out.sz;omega)
 have hL2:=LatW.cell (w:=w4) (g:=w.heap.size+1) (by have:=HS4.out.sz;omega)
 obtain ⟨h0,h1,h2,h3,h4,h5,h6,h7⟩:=HS4.out.one
 obtain ⟨g0,g1,g2,g3,g4,g5,g6,g7⟩:=HS4.out.two
 refine QaA (by kernel_rfl) (by kernel_rfl) ?_
 repeat (go_big_quiet_step (first | (go_at_call 44;with_reducible refine QaM (HCPn.out _)) | (go_at_call 44;with_reducible refine QaM (HCQn.out _))))
 refine wpQuiet_nil ?_
 intro _ hw'
 obtain ⟨nq,hw2⟩:=hw'
 subst hw2
 have HA3:=hD (HS4.out.step nq.h)
 clear hL1 hL2 h0 h1 h2 h3 h4 h5 h6 h7 g0 g1 g2 g3 g4 g5 g6 g7
 obtain ⟨h0,h1,h2,h3,h4,h5,h6,h7⟩:=HA3.out.one
 obtain ⟨g0,g1,g2,g3,g4,g5,g6,g7⟩:=HA3.out.two
 go_wp2_with fail
 refine (HC.out _ (fun j=>H j\/j=w.heap.size+2) HA3.out.bel (fun j e=>by
  have h1:=HA3.out.sz
  rcases e with e | e
  ·have:=HH.out j e;omega
  ·omega)).mono ?_
 clear h0 h1 h2 h3 h4 h5 h6 h7 g0 g1 g2 g3 g4 g5 g6 g7
 rintro e w9 (⟨he,k5,b5,bn5,s5,i5,f5,c5,x5,rfl,hk9,hb9⟩ | ⟨he,rfl,hb9⟩)
 ·have HS9:=hD (HA3.out.step hb9)
  have HKE:=hD hk9
  have HE:=hD he
  clear hb9 hk9 he
  obtain ⟨⟨h0,h1,h2,h3,h4,h5,h6,h7⟩,hz⟩:=Qag HS9.out.res
  go_wp2
  refine bodyPost_ret (v := .tuple #[vecW k5 b5 bn5 s5 i5 f5 c5 x5,.int .i64 0]) ?_ rfl (.inl ⟨HE.out,k5,b5,bn5,s5,i5,f5,c5,x5,rfl,(HKE.out.set8 (.inr rfl) _ _ _ _ _ _ _ _).sub (fun _ _ e => .inl e),Qac HS9.out.bel (Nat.le_add_right _ 2) _ _ _ _ _ _ _ _⟩)
  exact Qas (fn:=Tryz.f27) (p:=6) (u:=7) rfl _ _ (w.heap.size+2) (by rfl) (Qad HS9.out.res _ _ _ _ _ _ _ _)
 ·have HS9:=hD (HA3.out.step hb9)
  have HE:=hD he
  clear hb9 he
  obtain ⟨⟨h0,h1,h2,h3,h4,h5,h6,h7⟩,hz⟩:=Qag HS9.out.res
  go_wp2
  refine bodyPost_ret (v := .tuple #[vecV 0 vnil 0 vnil vnil vnil vnil vnil,.int .i64 E]) ?_ rfl (.inr ⟨HE.out,rfl,Qac HS9.out.bel (Nat.le_add_right _ 2) _ _ _ _ _ _ _ _⟩)
  exact Qas (fn:=Tryz.f27) (p:=6) (u:=7) rfl _ _ (w.heap.size+2) (by rfl) (Qad HS9.out.res _ _ _ _ _ _ _ _)
theorem Qr6 (t:Nat) (ht:t < 16) (a1 a2:Option Addr) (c1 c2 n:Nat) (hn0:n=0) (l1 l2:Nat->Bool) (w:World) (hn:n<=1048576) :
  Calls Tryz.prog 63 #[.int .u8 (t:Int),.agg #[.slice a1 ((n+63) / 64) c1,.int .i64 (n:Int)],.agg #[.slice a2 ((n+63) / 64) c2,.int .i64 (n:Int)]] w fun e w'=>∃ g,e= .returned (.tuple #[.agg #[.slice (some ⟨g,0,none⟩) ((n+63) / 64) ((n+63) / 64),.int .i64 (n:Int)],.bool true])/\RowU w' w.heap.size g ((n+63) / 64) (packW (fun i=>t.testBit (2*(l1 i).toNat+(l2 i).toNat)) n)/\Below w.heap.size w w':=by
 obtain ⟨M,hM⟩:∃ M,M=(n+63) / 64:=⟨_,rfl⟩
 rw [<- hM]
 have HM0:Hid (M=0):=by unfold Hid;omega
 have HM:=hD hM
 have hMb:M<=16384:=by omega
 have hmk:=run_make_row' (P:=Tryz.prog) 31 104 (.int .u64 0) 8 Tryz.underlying31 QeD rfl .i64 .i64 M (by omega) (by omega)
 have HT0:=hD (TrS.new w (.cells #[.slice a1 M c1,.int .i64 (n:Int)] 33) (.cells #[.slice a2 M c2,.int .i64 (n:Int)] 33) t)
 clear hM hn0
 obtain ⟨X1,hX1⟩:∃ X:Obj,X= .cells #[.slice a1 M c1,.int .i64 (n:Int)] 33:=⟨_,rfl⟩
 obtain ⟨X2,hX2⟩:∃ X:Obj,X= .cells #[.slice a2 M c2,.int .i64 (n:Int)] 33:=⟨_,rfl⟩
 have HX1:=hD hX1
 have HX2:=hD hX2
 have HT0':Hid (TrS w ((((w.alloc (.cells #[.slice a1 M c1,.int .i64 (n:Int)] 33)).alloc (.cells #[.slice a2 M c2,.int .i64 (n:Int)] 33)).alloc (.cells bcells 33)).alloc (.cells #[.int .u64 0,.int .u64 0,.int .u64 0,.int .u64 0] 161)) X1 X2 t 0):=by
  show TrS _ _ _ _ _ _
  rw [hX1,hX2]
  exact HT0.out
 clear hX1 hX2 HT0
 go_enter Tryz.func63,Tryz.ntmps63
 go_wp2_with fail
 go_loopw [20] (fun ii wr=>∃ i:Nat,i<=4/\ii= .int .i64 i/\TrS w wr X1 X2 t i) (fun ii _=>4 - (intOf ii).toNat)
 case atStart=>exact ⟨0,Nat.zero_le _,rfl,HT0'.out⟩
 case round =>
  clear HT0'
  obtain ⟨i,hi,rfl,hts⟩:=hrel
  have HTS:=hD hts
  clear hts
  by_cases hlt:i < 4
  ·obtain ⟨hcell,hf⟩:=Qc3 HTS.out.tab i hlt
   have hlt2:(i:Int) < 4:=by omega
   have HMC:Hid (IntKind.u64.wrap (-IntKind.u64.wrap (bits BinOp.and IntKind.u8 ((t:Int) / 2 ^ i) 1))=((mT t i:Nat):Int)):=QmO ⟨t,ht⟩ ⟨i,hlt⟩
   have HNEW:Hid (TrS w (wr.setCell ⟨w.heap.size+3,i,none⟩ (.int .u64 (mT t i:Nat))) X1 X2 t (i+1)) :=
    ⟨by rw [Below.heap_setCell _ _ _ _ (by show _≠w.heap.size+3;omega)];exact HTS.out.one,by rw [Below.heap_setCell _ _ _ _ (by show _≠w.heap.size+3;omega)];exact HTS.out.two,by rw [Below.heap_setCell _ _ _ _ (by show _≠w.heap.size+3;omega)];exact HTS.out.res,QmR hlt HTS.out.tab,HTS.out.bel.setCell (by show _<=w.heap.size+3;omega) _⟩
   go_wp2
   rw [HMC.out]
   exact ⟨⟨i+1,by omega,by go_num,HNEW.out⟩,by simp [intOf];omega⟩
  ·obtain rfl:i=4:=by omega
   have HTS0:=HTS
   obtain ⟨hx0,hx1,_⟩:=Qaj (by have:=HTS.out.one;rw [HX1.out] at this;exact this)
   obtain ⟨hy0,hy1,_⟩:=Qaj (by have:=HTS.out.two;rw [HX2.out] at this;exact this)
   have HMA:=hD (QmP wr (n:Int) M (by unfold maxLen;omega))
   have HMB:=hD (QmQ wr (n:Int) M (by unfold maxLen;omega))
   go_wp2_with fail
   obtain ⟨B,hB⟩:∃ B,B=wr.heap.size:=⟨_,rfl⟩
   have hBw:w.heap.size+4<=B:=by rw [hB];exact HTS.out.sz
   go_cut [10] from 33 (fun p wx=>Qpz wr (n:Int) M p wx)
   case first =>
    have z0:w.heap.size < wr.heap.size:=by have:=HTS.out.sz;omega
    have hx0a:=fun o=>Qab hx0 o
    have hx1a:=fun o=>Qab hx1 o
    go_region
    all_goals
     go_wp2
     go_meet
     first | exact HMA.out | exact HMB.out
   obtain ⟨V,g,rfl,hr0,hb0,hkV,hVg,hV⟩:=hcut
   have hg2:=hr0.low.1
   rw [<- hB] at hr0 hV hg2
   have HR0:=hD hr0
   have HT1:=hD (HTS.out.step (hb0.mono HTS.out.sz))
   have HKV:=hD hkV
   clear hr0 hb0 hkV hmk HMA HMB HTS HTS0 hB hx0 hx1 hy0 hy1
   obtain ⟨hv0,hv1,_⟩:=Qaj HKV.out
   go_wp2_with fail
   go_loopw [43] (fun ii wr=>∃ i:Nat,i<=M/\ii= .int .i64 i/\RowU wr B g M (fun j=>if j < i then tW t (packW l1 n j) (packW l2 n j) else 0)/\TrS w wr X1 X2 t 4/\wr.heap[V]?=some (.cells #[.slice (some ⟨g,0,none⟩) M M,.int .i64 (n:Int)] 33)) (fun ii _=>M - (intOf ii).toNat)
   case atStart=>exact ⟨0,Nat.zero_le _,rfl,HR0.out.same (fun j _=>by rw [if_neg (Nat.not_lt_zero _)]),HT1.out,HKV.out⟩
   case round =>
    clear HR0 HT1 HKV hv0 hv1
    obtain ⟨i,hi,rfl,hrow,hts,hkv⟩:=hrel
    have HROW:=hD hrow
    have HTS:=hD hts
    have HKV:=hD hkv
    clear hrow hts hkv
    by_cases hlt:i < M
    ·exact absurd hlt (by rw [HM0.out];exact Nat.not_lt_zero _)
    ·obtain rfl:i=M:=by omega
     have HT:=hD (QeF B g n i _ wr hn HM.out HROW.out (fun j hj=>by
      show (if j < i then _ else _) < _
      rw [if_pos hj]
      exact Qpy _ _ _))
     have HF:Hid (∀ j,j < i->trimF n i (fun j=>if j < i then tW t (packW l1 n j) (packW l2 n j) else 0) j=packW (fun i=>t.testBit (2*(l1 i).toNat+(l2 i).toNat)) n j):=by
      refine QcW n i _ _ HM.out (fun j hj=>?_) (fun j hj m hm hin=>?_)
      ·show (if j < i then _ else _) < _
       rw [if_pos hj]
       exact Qpy _ _ _
      ·show Nat.testBit (if j < i then _ else _) m=_
       rw [if_pos hj,Qqo t _ _ m (QaR l1 n j) (QaR l2 n j) hm,Qay l1 n j m hm,Qay l2 n j m hm]
       simp [hin]
     obtain ⟨hv0,hv1,hvf⟩:=Qaj HKV.out
     go_wp2_with fail
     refine HT.out.mono ?_
     rintro e w5 ⟨rfl,hr5,hb5,ho5⟩
     have HR5:=hD (hr5.same (F':=packW (fun i=>t.testBit (2*(l1 i).toNat+(l2 i).toNat)) n) (fun j hj=>(HF.out j hj).symm))
     have HT5:=hD (HTS.out.step (hb5.mono hBw))
     have hVl:V < wr.heap.size:=lt_of_block HKV.out
     have HKV5:=hD (show w5.heap[V]?=some (.cells #[.slice (some ⟨g,0,none⟩) i i,.int .i64 (n:Int)] 33) by rw [ho5 V hVl hVg];exact HKV.out)
     clear hr5 hb5 ho5 hv0 hv1 hvf
     obtain ⟨hv0,hv1,hvf⟩:=Qaj HKV5.out
     obtain ⟨hk0,hk1,hkf⟩:=Qaj HT5.out.res
     go_wp2
     refine bodyPost_ret (v := .tuple #[.agg #[.slice (some ⟨g,0,none⟩) i i,.int .i64 (n:Int)],.bool true]) ?_ rfl ⟨g,rfl,?_,Qa1 HT5.out.bel (by omega) _ _⟩
     ·exact QbI (fn:=Tryz.f63) (p:=6) (u:=7) rfl _ _ (w.heap.size+2) (by rfl) (Qa2 HT5.out.res _ _)
     ·exact Qct (HR5.out.lower (by omega)) (by show some g≠_;intro e;injection e;omega) _ _
def BitZ (_:World) (b:Sl) (n:Nat) (_:Nat->Bool):Prop:=b.2.1=0/\n=0
theorem BitZ.below {W W':World}{b:Sl}{n:Nat}{L:Nat->Bool} (h:BitZ W b n L) (_:Below W.heap.size W W'):BitZ W' b n L:=h
def Qfy (k:Int) (m N:Nat) (F:Nat->Nat) (w:World) (e:Ending) (w':World):Prop :=
 (k=1/\∃ (b:Sl) (L:Nat->Bool),e= .returned (.tuple #[.agg #[.slice b.1 b.2.1 b.2.2,.int .i64 (N:Int)],.bool true])/\BitZ w' b N L/\(∀ j,j < N->F (ixP m j)=Qai (L j))/\Below w.heap.size w w') \/
 (k≠1/\e= .returned (.tuple #[.agg #[vnil,.int .i64 0],.bool false])/\Below w.heap.size w w')
theorem QnF {k:Int}{m N:Nat}{F:Nat->Nat}{w:World} (hN:N=0){e:Ending}{w':World} (h:Qi1 k m N F w e w'):Qfy k m N F w e w':=by
 rcases h with ⟨hk,b,L,he,⟨g,o,c,rfl,_⟩,hF,hb⟩ | h
 ·exact .inl ⟨hk,_,L,he,⟨by subst hN;rfl,hN⟩,hF,hb⟩
 ·exact .inr h
theorem Qld (N:Nat) (w:World) :
  Calls Tryz.prog 62 #[vecW 1 (none,0,0) 0 (none,0,0) (none,0,0) (none,0,0) (none,0,0) (none,0,0),.int .i64 (N:Int)] w fun e w'=>e= .returned (.tuple #[.agg #[.slice none 0 0,.int .i64 0],.bool true])/\Below w.heap.size w w':=by
 have HP:=hD (fun W=>Qbi (none,0,0) 0 vnil vnil vnil vnil vnil W)
 have HBL:=hD (fun W=>QeB (.slice none 0 0) 0 W)
 have HS0:=hD (Sb.new w ⟨1,(none,0,0),0,(none,0,0),(none,0,0),(none,0,0),(none,0,0),(none,0,0)⟩)
 go_enter Tryz.func62,Tryz.ntmps62
 obtain ⟨h0,h1,h2,h3,h4,h5,h6,h7⟩:=HS0.out.one
 go_wp2_with fail
 refine (HP.out _).mono ?_
 rintro e w1 ⟨rfl,hb1⟩
 have HS1:=hD (HS0.out.step hb1)
 have z1:w.heap.size+1 < w1.heap.size:=HS1.out.sz
 clear hb1 h0 h1 h2 h3 h4 h5 h6 h7
 have HS2:=hD (HS1.out.step (bel1 w1 (.cells #[.slice none 0 0,.int .i64 0] 33)))
 have HV2:=hD (heap_alloc_new w1 (.cells #[.slice none 0 0,.int .i64 0] 33))
 go_wp2_with fail
 refine (HBL.out _).mono ?_
 rintro e w2 ⟨rfl,hb2⟩
 have HS3:=hD (HS2.out.step hb2)
 have HV3:=hD (show w2.heap[w1.heap.size]?=some (.cells #[.slice none 0 0,.int .i64 0] 33) by rw [hb2.block _ (lt_of_block HV2.out)];exact HV2.out)
 clear hb2
 have HKE:=hD (Qa2 HS3.out.res (.slice none 0 0) (.int .i64 0))
 have HBE:=hD (Qa1 HS3.out.bel (Nat.le_succ _) (.slice none 0 0) (.int .i64 0))
 have z2:w.heap.size+1 < w2.heap.size:=HS3.out.sz
 obtain ⟨hk0,hk1,hkf⟩:=Qaj HS3.out.res
 obtain ⟨hv0,hv1,hvf⟩:=Qaj HV3.out
 go_wp2
 refine bodyPost_ret (v := .tuple #[.agg #[.slice none 0 0,.int .i64 0],.bool true]) ?_ rfl ⟨rfl,HBE.out⟩
 exact QbI (fn:=Tryz.f62) (p:=4) (u:=5) rfl _ _ (w.heap.size+1) (by rfl) HKE.out
theorem QnG (N:Nat) (hN:N=0) (F:Nat->Nat) (w:World) :
  Calls Tryz.prog 62 #[vecW 1 (none,0,0) 0 (none,0,0) (none,0,0) (none,0,0) (none,0,0) (none,0,0),.int .i64 (N:Int)] w (Qfy 1 0 N F w):=by
 refine (Qld N w).mono fun e w' ⟨h1,hb⟩ => .inl ⟨rfl,(none,0,0),fun _=>false,?_,⟨rfl,hN⟩,fun j hj=>absurd hj (by omega),hb⟩
 subst hN
 exact h1
theorem Qh9 (H:Nat->Prop) (f:Int) (hf:11<=f) (hf2:f<=16) (p q:V8) (m n:Nat) (F G:Nat->Nat) (R:Nat->Bool) (w:World) (N:Nat) (hH:∀ b,H b->b < w.heap.size) (hL:lenP m n=some N) (hNb:N<=1000000)
  (hSP:∀ W,Below w.heap.size w W->Calls Tryz.prog 62 #[p.v,.int .i64 (N:Int)] W (Qfy p.k m N F W))
  (hSQ:∀ W,Below w.heap.size w W->Calls Tryz.prog 62 #[q.v,.int .i64 (N:Int)] W (Qfy q.k n N G W))
  (hNU:∀ (W:World) (H':Nat->Prop),Below w.heap.size w W->(∀ b,H' b->b < W.heap.size)->Calls Tryz.prog 65 #[.int .i64 f,.int .i64 (N:Int),p.v,q.v] W (VecR H' W (fun u W'=>NumV u 1 N (fun c=>Qai (R c)) W')))
  (hTR:∀ (W:World) (b1 b2:Sl) (L1 L2:Nat->Bool),BitZ W b1 N L1->BitZ W b2 N L2->(∀ j,j < N->F (ixP m j)=Qai (L1 j))->(∀ j,j < N->G (ixP n j)=Qai (L2 j))->Calls Tryz.prog 63 #[.int .u8 ((tabRN f:Nat):Int),.agg #[.slice b1.1 b1.2.1 b1.2.2,.int .i64 (N:Int)],.agg #[.slice b2.1 b2.2.1 b2.2.2,.int .i64 (N:Int)]] W fun e w'=>∃ g,e= .returned (.tuple #[.agg #[.slice (some ⟨g,0,none⟩) ((N+63) / 64) ((N+63) / 64),.int .i64 (N:Int)],.bool true])/\RowU w' W.heap.size g ((N+63) / 64) (packW R N)/\Below W.heap.size W w')
  (hP:∀ W,Below w.heap.size w W->NumW p.v m F W) (hQ:∀ W,Below w.heap.size w W->NumW q.v n G W) :
  Calls Tryz.prog 27 #[.int .i64 f,p.v,q.v] w (Qft H w R (lenP m n)) :=
 Qgm (BT:=BitZ) (fun _ _ _ _ _ h hb=>h.below hb) H f hf hf2 p q m n F G R w N hH hL hNb hSP hSQ hNU hTR hP hQ
theorem Qjd (H:Nat->Prop) (f:Int) (hf:11<=f) (hf2:f<=16) (p q:V8) (m n N:Nat) (hN:N=0) (F G:Nat->Nat) (R:Nat->Bool) (w:World) (hH:∀ b,H b->b < w.heap.size) (hm:m<=1000000) (hn:n<=1000000) (hL:lenP m n=some N)
  (hSP:∀ W,Below w.heap.size w W->Calls Tryz.prog 62 #[p.v,.int .i64 (N:Int)] W (Qfy p.k m N F W)) (hSQ:∀ W,Below w.heap.size w W->Calls Tryz.prog 62 #[q.v,.int .i64 (N:Int)] W (Qfy q.k n N G W))
  (hP:∀ W,Below w.heap.size w W->NumW p.v m F W) (hQ:∀ W,Below w.heap.size w W->NumW q.v n G W) :
  Calls Tryz.prog 27 #[.int .i64 f,p.v,q.v] w (Qft H w R (lenP m n)):=by
 refine Qh9 H f hf hf2 p q m n F G R w N hH hL (by omega) hSP hSQ (fun W H' hb hH'=>?_) (fun W b1 b2 L1 L2 h1 h2 e1 e2=>?_) hP hQ
 ·exact Qeq H' f R p q m n N F G W hH' hL hm hn (fun W' hb'=>hP W' (Qaa hb hb')) (fun W' hb'=>hQ W' (Qaa hb hb')) fun c hc W'=>absurd hc (by omega)
 ·obtain ⟨a1,n1,c1⟩:=b1
  obtain ⟨a2,n2,c2⟩:=b2
  obtain rfl:n1=(N+63) / 64:=by have h3:n1=0:=h1.1;omega
  obtain rfl:n2=(N+63) / 64:=by have h3:n2=0:=h2.1;omega
  refine (Qr6 (tabRN f) (Qg0 f) a1 a2 c1 c2 N hN L1 L2 W (by omega)).mono ?_
  rintro e w' ⟨g,rfl,hr,hb⟩
  exact ⟨g,rfl,hr.same fun j hj=>absurd hj (by omega),hb⟩
theorem QbZ {H:Nat->Prop}{w:World}{R R':Value->World->Prop} (h:∀ u W,R u W->R' u W){e:Ending}{w':World} (g:Qde H w R e w'):Qde H w R' e w':=by
 obtain ⟨k,b,bn,s,i,f,c,x,he,hk,hb⟩:=g
 exact ⟨k,b,bn,s,i,f,c,x,he,hk.imp fun W h1=>h _ _ h1,hb⟩
theorem QcB {f:Int} (h:Qaz f=true):(1<=f/\f<=8)\/(11<=f/\f<=16)\/(21<=f/\f<=24):=by
 unfold Qaz at h
 rw [decide_eq_true_iff] at h
 omega
theorem Qqw {H:Nat->Prop}{w:World}{p:V8}{l:List Nat} (g:NumA H w p l) (W:World) (hb:Below w.heap.size w W):NumW p.v l.length (fun j=>l.getD j 0) W:=by
 rcases g with h | ⟨rfl,rfl⟩
 ·exact (Keeps.lat h.num (Lat.below hb)).now.numW
 ·exact ⟨Qgw _ _ _ _ _ _ _ W,QlL _ _ _ _ _ _ _ W,fun j hj=>absurd hj (Nat.not_lt_zero _)⟩
theorem QnH {H:Nat->Prop}{w:World}{p:V8}{l:List Nat} (g:NumA H w p l){N:Nat} (hN:N=0) (ho:l.length=N\/l.length=1) (W:World) (hb:Below w.heap.size w W):Calls Tryz.prog 62 #[p.v,.int .i64 (N:Int)] W (Qfy p.k l.length N (fun j=>l.getD j 0) W):=by
 rcases g with h | ⟨rfl,rfl⟩
 ·exact (Qee p.k p.b p.bn p.s p.i p.f p.c p.x l.length N _ W (by omega) ho (Keeps.lat h.num (Lat.below hb)).now).mono fun e w' h=>QnF hN h
 ·exact QnG N hN _ W
structure A3 (w W:World) (h1:Sl) (p:V8) (h2:Sl) (q:V8):Prop where
 one:At9 W w.heap.size 0 h1 p
 two:At9 W (w.heap.size+1) 0 h2 q
 res:W.heap[w.heap.size+2]?=some QbN
 bel:Below w.heap.size w W
noncomputable def Qc7 (f:Int) (a b:PA):Int×PA:=if (Qdh f a b).1≠0 then ((Qdh f a b).1,default) else (0,.nums (Qaq a b).2 (Qdh f a b).2)
def bxE (n:Nat) (R:Nat->Int×PA) (sh:List Nat):Int×PA:=if (seqE ((List.range n).map R)).1≠0 then ((seqE ((List.range n).map R)).1,default) else (0,.boxes sh (seqE ((List.range n).map R)).2)
theorem Qtx {n:Nat}{R:Nat->Int×PA} (sh:List Nat) (h:∀ j,j < n->(R j).1=0):bxE n R sh=(0,.boxes sh ((List.range n).map fun j=>(R j).2)):=by
 have e:=QmD (rs:=(List.range n).map R) (fun i hi=>by simp at hi ⊢;exact h i hi)
 unfold bxE
 rw [e]
 simp
theorem Qr7 {n c:Nat}{R:Nat->Int×PA} (sh:List Nat) (hc:c < n) (h:∀ j,j < c->(R j).1=0) (hb:(R c).1≠0):(bxE n R sh).1=(R c).1:=by
 have e:=QjY (rs:=(List.range n).map R) (k:=c) (by simpa using hc) (fun i hi=>by simp;exact h i hi) (by simpa using hb)
 simp only [List.getElem_map,List.getElem_range] at e
 unfold bxE
 rw [e,if_pos (by simpa using hb)]
theorem Qia {N:Nat}{f:Int}{a b:PA} (h:Qaz f=false):(twoE (N+1) f a b).1=1:=by rw [twoE,if_pos h]
theorem Qle {N:Nat}{f:Int}{a b:PA} (h:Qaz f=true) (hf:(Qaq a b).1≠0):(twoE (N+1) f a b).1=(Qaq a b).1:=by rw [twoE,if_neg (by rw [h];decide),if_pos hf]
theorem Qp1 {N:Nat}{f:Int}{a b:PA} (h:Qaz f=true) (hf:(Qaq a b).1=0) (hx:a.fill=2\/b.fill=2):twoE (N+1) f a b=bxE (lenE a b) (fun i=>twoE N f (Qak a i) (Qak b i)) (Qaq a b).2:=by
 rw [twoE,if_neg (by rw [h];decide),if_neg (fun e=>e hf),if_pos hx]
 rfl
theorem QnI {N:Nat}{f:Int}{a b:PA} (h:Qaz f=true) (hf:(Qaq a b).1=0) (hx:¬ (a.fill=2\/b.fill=2)):twoE (N+1) f a b=Qc7 f a b:=by
 rw [twoE,if_neg (by rw [h];decide),if_neg (fun e=>e hf),if_neg hx]
 rfl
abbrev Qbv (s:List Nat):List Value:=(s.map Int.ofNat).map (Value.int .i64)
theorem Qap {H:Nat->Prop}{w:World}{a:PA}{h x:Sl}{f:Int} (g:PV H w (rawP a) h x f):RdH H w (sv h) (Qbv a.shape)/\f=(a.fill:Nat)/\x.2.1=a.len:=by
 obtain ⟨items,e,hl⟩:=QgX a
 rw [e] at g
 obtain ⟨g1,g2,g3,_⟩:=g.open_
 exact ⟨g1,g2,by rw [g3,hl]⟩
theorem Qet {w:World}{v:Value}{s:List Nat} (h:Reads1 w v (Qbv s)):Reads1 w v (s.map fun n:Nat => .int .i64 (n:Int)):=by
 unfold Qbv at h
 rw [List.map_map] at h
 exact h
def ArgOk (H:Nat->Prop) (w:World) (a:PA) (h x:Sl) (f:Int):Prop :=
 (a.fill≠2/\RdH H w (sv h) (Qbv a.shape)/\∃ H1:Nat->Prop,(∀ b,H1 b->b < w.heap.size)/\PV H1 w (rawP a) h x f)\/PV H w (rawP a) h x f
theorem ArgOk.sh {H:Nat->Prop}{w:World}{a:PA}{h x:Sl}{f:Int} (g:ArgOk H w a h x f):RdH H w (sv h) (Qbv a.shape):=by
 rcases g with ⟨_,g,_⟩ | g
 ·exact g
 ·exact (Qap g).1
theorem ArgOk.pv {H:Nat->Prop}{w:World}{a:PA}{h x:Sl}{f:Int} (hH:∀ b,H b->b < w.heap.size) (g:ArgOk H w a h x f):∃ H1:Nat->Prop,(∀ b,H1 b->b < w.heap.size)/\PV H1 w (rawP a) h x f:=by
 rcases g with ⟨_,_,g⟩ | g
 ·exact g
 ·exact ⟨H,hH,g⟩
theorem ArgOk.box {H:Nat->Prop}{w:World}{a:PA}{h x:Sl}{f:Int} (g:ArgOk H w a h x f) (hf:a.fill=2):PV H w (rawP a) h x f:=by
 rcases g with ⟨h0,_⟩ | g
 ·exact absurd hf h0
 ·exact g
theorem Qek {H H1:Nat->Prop}{w w1 W5:World}{a:PA}{i:Nat}{h x:Sl}{f:Int} (hb1:Below w.heap.size w W5) (hb2:Below w1.heap.size w1 W5) (hH1:∀ b,H1 b->b < w.heap.size)
  (hx:a.fill=2->∀ b,H b->H1 b) (hfl:∀ k n c,rawP (Qak a i)= .mk [] [.mk k n c []] k->k≠2->(Qak a i).fill≠2/\(Qak a i).shape=[]) (hof:a.fill≠2->∃ k n c,rawP (Qak a i)= .mk [] [.mk k n c []] k/\k≠2)
  (hsz:w.heap.size<=W5.heap.size)
  (g:PV H1 w (rawP (Qak a i)) h x f\/(h=nilS/\(∃ k n c,rawP (Qak a i)= .mk [] [.mk k n c []] k/\k≠2)/\PV H1 w1 (rawP (Qak a i)) h x f)):ArgOk (Hole H w W5) W5 (Qak a i) h x f:=by
 have hnil:∀ (K:Nat->Prop) (s:List Nat) (W:World),s=[]->RdH K W (sv nilS) (Qbv s):=fun K s W e=>by subst e;exact fun _ _ _ => .inl ⟨none,0,rfl,rfl⟩
 rcases g with g | ⟨rfl,⟨k,n,c,e,hk⟩,g⟩
 ·by_cases h2:a.fill=2
  ·right
   have hs:PV H w (rawP (Qak a i)) h x f:=PV.sub (fun b _ e=>hx h2 b e) g
   exact hs.arg hb1
  ·left
   obtain ⟨k,n,c,e,hk⟩:=hof h2
   obtain ⟨p1,p2⟩:=hfl k n c e hk
   refine ⟨p1,?_,H1,fun b e=>by have:=hH1 b e;omega,g.step hb1⟩
   have hh:=(Qap g).1
   rw [p2] at hh ⊢
   obtain ⟨aa,cc,e2⟩:=hh.now.len
   unfold sv at e2
   obtain ⟨h1,h2,h3⟩:=h
   injection e2 with _ e2 _
   have e3:h2=0:=e2
   subst e3
   exact fun _ _ _ => .inl ⟨h1,h3,rfl,rfl⟩
 ·left
  obtain ⟨p1,p2⟩:=hfl k n c e hk
  exact ⟨p1,hnil _ _ _ p2,H1,fun b e=>by have:=hH1 b e;omega,g.step hb2⟩
def PvIf (H:Nat->Prop) (r:Int×PA) (h x:Sl) (fo:Int) (W:World):Prop:=r.1=0->PV H W (rawP r.2) h x fo
def RtU (H:Nat->Prop) (w:World) (r:Int×PA) (e:Ending) (w':World):Prop:=∃ (h x:Sl) (fo:Int),e= .returned (.tuple #[plV h x fo,.int .i64 r.1])/\PvIf H r h x fo w'/\Below w.heap.size w w'
theorem Qb9 {H:Nat->Prop}{w w':World}{r:Int×PA}{E:Int} (h0:r.1=E) (hE:E≠0) (hb:Below w.heap.size w w'):RtU H w r (.returned (.tuple #[plV nilS nilS 0,.int .i64 E])) w':=⟨nilS,nilS,0,by rw [h0],fun e=>absurd (h0.symm.trans e) hE,hb⟩
theorem Qfz {H:Nat->Prop}{w w':World}{r:Int×PA}{h x:Sl}{fo:Int} (h0:r.1=0) (hp:PV H w' (rawP r.2) h x fo) (hb:Below w.heap.size w w'):RtU H w r (.returned (.tuple #[plV h x fo,.int .i64 0])) w':=⟨h,x,fo,by rw [h0],fun _=>hp,hb⟩
def PvA (H:Nat->Prop) (w w1:World) (a:PA) (h x:Sl) (f:Int):Prop:=PV H w (rawP a) h x f\/(h=nilS/\(∃ k n c,rawP a= .mk [] [.mk k n c []] k/\k≠2)/\PV H w1 (rawP a) h x f)
def BelT (w1 W:World):Prop:=Below w1.heap.size w1 W
theorem BelT.refl (w:World):BelT w w:=Below.refl _ _
theorem BelT.step {w1 W W':World} (g:BelT w1 W) (hb:Below W.heap.size W W'):BelT w1 W':=Qaa g hb
theorem BelT.dr {w1 W:World} (g:BelT w1 W):BelT w1 W.drew:=g.step (Below.refl _ W).drew
theorem BelT.al {w1 W:World} (g:BelT w1 W) (o:Obj):BelT w1 (W.alloc o):=g.step (bel1 W o)
theorem BelT.self {w1 W:World} (g:BelT w1 W):Below w1.heap.size w1 W:=g
structure P3 (w W:World) (h1 x1:Sl) (f1:Int) (h2 x2:Sl) (f2:Int):Prop where
 p2:P2 w W h1 x1 f1 h2 x2 f2
 res:W.heap[w.heap.size+2]?=some (plO nilS nilS 0)
theorem P3.step {w W W':World}{h1 x1 h2 x2:Sl}{f1 f2:Int} (g:P3 w W h1 x1 f1 h2 x2 f2) (hb:Below W.heap.size W W'):P3 w W' h1 x1 f1 h2 x2 f2:=⟨g.p2.step hb,by rw [hb.block _ (lt_blk g.res)];exact g.res⟩
theorem P3.more {w W W':World}{h1 x1 h2 x2:Sl}{f1 f2:Int} (g:P3 w W h1 x1 f1 h2 x2 f2) (hb:Below (w.heap.size+3) W W'):P3 w W' h1 x1 f1 h2 x2 f2:=⟨g.p2.more (hb.mono (by omega)),by rw [hb.block _ (by omega)];exact g.res⟩
theorem P3.sz {w W:World}{h1 x1 h2 x2:Sl}{f1 f2:Int} (g:P3 w W h1 x1 f1 h2 x2 f2):w.heap.size+3<=W.heap.size:=lt_blk g.res
theorem P3.new (w:World) (h1 x1:Sl) (f1:Int) (h2 x2:Sl) (f2:Int):P3 w (((w.alloc (plO h1 x1 f1)).alloc (plO h2 x2 f2)).alloc (plO nilS nilS 0)) h1 x1 f1 h2 x2 f2:=by
 have h:=heap_alloc_new ((w.alloc (plO h1 x1 f1)).alloc (plO h2 x2 f2)) (plO nilS nilS 0)
 rw [show ((w.alloc (plO h1 x1 f1)).alloc (plO h2 x2 f2)).heap.size=w.heap.size+2 by simp] at h
 exact ⟨(P2.new w h1 x1 f1 h2 x2 f2).step (bel1 _ _),h⟩
structure RtS (w wr:World) (h1 x1:Sl) (f1:Int) (h2 x2:Sl) (f2:Int) (W:World):Prop where
 p3:P3 w W h1 x1 f1 h2 x2 f2
 bel:Below wr.heap.size wr W
 lo:w.heap.size+3<=wr.heap.size
theorem RtS.step {w wr W W':World}{h1 x1 h2 x2:Sl}{f1 f2:Int} (g:RtS w wr h1 x1 f1 h2 x2 f2 W) (hb:Below W.heap.size W W'):RtS w wr h1 x1 f1 h2 x2 f2 W':=⟨g.p3.step hb,Qaa g.bel hb,g.lo⟩
theorem RtS.put {w wr W:World}{h1 x1 h2 x2:Sl}{f1 f2:Int} (g:RtS w wr h1 x1 f1 h2 x2 f2 W){b j:Nat} (hb:wr.heap.size<=b) (u:Value):RtS w wr h1 x1 f1 h2 x2 f2 (W.setCell ⟨b,j,none⟩ u):=⟨g.p3.more ((Below.refl _ W).setCell (by show _<=b;have:=g.lo;omega) u),g.bel.setCell (by show _<=b;exact hb) u,g.lo⟩
theorem RtS.dr {w wr W:World}{h1 x1 h2 x2:Sl}{f1 f2:Int} (g:RtS w wr h1 x1 f1 h2 x2 f2 W):RtS w wr h1 x1 f1 h2 x2 f2 W.drew:=g.step (Below.refl _ W).drew
theorem RtS.al {w wr W:World}{h1 x1 h2 x2:Sl}{f1 f2:Int} (g:RtS w wr h1 x1 f1 h2 x2 f2 W) (o:Obj):RtS w wr h1 x1 f1 h2 x2 f2 (W.alloc o):=g.step (bel1 W o)
theorem RtS.self {w wr W:World}{h1 x1 h2 x2:Sl}{f1 f2:Int} (g:RtS w wr h1 x1 f1 h2 x2 f2 W):RtS w wr h1 x1 f1 h2 x2 f2 W:=g
theorem Qty {w wr W:World}{h1 x1 h2 x2:Sl}{f1 f2:Int} (g:RtS w wr h1 x1 f1 h2 x2 f2 W):((W.cell? ⟨w.heap.size,0,none⟩=some (.slice h1.1 h1.2.1 h1.2.2)/\W.cell? ⟨w.heap.size,1,none⟩=some (.slice x1.1 x1.2.1 x1.2.2)/\W.cell? ⟨w.heap.size,2,none⟩=some (.int .i64 f1)) /\
  (W.cell? ⟨w.heap.size+1,0,none⟩=some (.slice h2.1 h2.2.1 h2.2.2)/\W.cell? ⟨w.heap.size+1,1,none⟩=some (.slice x2.1 x2.2.1 x2.2.2)/\W.cell? ⟨w.heap.size+1,2,none⟩=some (.int .i64 f2)))/\RtS w wr h1 x1 f1 h2 x2 f2 W:=⟨⟨Qax g.p3.p2.one,Qax g.p3.p2.two⟩,g⟩
def ZO (o:Obj) (Z:Nat) (W:World):Prop:=W.heap[Z]?=some o
theorem ZO.new (o:Obj) (W:World):ZO o W.heap.size (W.alloc o):=heap_alloc_new W _
theorem ZO.dr {o:Obj}{Z:Nat}{W:World} (g:ZO o Z W):ZO o Z W.drew:=g
theorem ZO.step {o:Obj}{Z:Nat}{W W':World} (g:ZO o Z W) (hb:Below W.heap.size W W'):ZO o Z W':=by
 unfold ZO at g ⊢
 rw [hb.block _ (lt_blk g)]
 exact g
theorem ZO.via {o:Obj}{Z:Nat}{W W':World} (hb:Below W.heap.size W W') (g:ZO o Z W):ZO o Z W':=g.step hb
def Qr8 (w wr:World) (K:Nat->Prop) (h1 x1:Sl) (f1:Int) (h2 x2:Sl) (f2:Int) (r:Int×PA) (v e:Value) (wx:World):Prop :=
 ∃ (V:Nat) (h x:Sl) (fo:Int),v= .pointer (some ⟨V,0,none⟩)/\e= .int .i64 r.1/\wr.heap.size<=V/\wx.heap[V]?=some (plO h x fo)/\PvIf K r h x fo wx/\RtS w wr h1 x1 f1 h2 x2 f2 wx
theorem Qib {w wr W5 w5:World}{H K:Nat->Prop}{h1 x1 h2 x2:Sl}{f1 f2:Int}{r:Int×PA}{h x:Sl}{fo:Int} (hK:∀ b,K b->H b\/(w.heap.size<=b/\b < wr.heap.size)) (hp:PvIf (Hole H w W5) r h x fo w5) (hW5:wr.heap.size<=W5.heap.size) (hst:RtS w wr h1 x1 f1 h2 x2 f2 w5) :
  Qr8 w wr K h1 x1 f1 h2 x2 f2 r (.pointer (some ⟨w5.heap.size,0,none⟩)) (.int .i64 r.1) (w5.alloc (plO h x fo)) :=
 ⟨w5.heap.size,h,x,fo,rfl,rfl,hst.bel.size,heap_alloc_new w5 _,fun h0=>(PV.sub (fun b _ e=>by
  rcases hK b e with e | e
  ·exact .inl e
  ·exact .inr ⟨e.1,by omega⟩) (hp h0)).step (bel1 w5 _),hst.al _⟩
theorem QnJ {w wr W5 w5:World}{H K:Nat->Prop}{h1 x1 h2 x2:Sl}{f1 f2:Int}{r:Int×PA}{h x:Sl}{fo:Int}{Z:Nat} (hK:∀ b,K b->H b\/(w.heap.size<=b/\b < wr.heap.size)) (hp:PvIf (Hole H w W5) r h x fo w5) (hst:RtS w wr h1 x1 f1 h2 x2 f2 w5) (hz:ZO (plO nilS nilS 0) Z w5) (h5:ZO (plO nilS nilS 0) Z W5) (hZ:wr.heap.size<=Z) :
  Qr8 w wr K h1 x1 f1 h2 x2 f2 r (.pointer (some ⟨Z,0,none⟩)) (.int .i64 r.1) (set3 w5 Z (sv h) (sv x) (.int .i64 fo)):=by
 have hzw:=lt_blk h5
 have hwr:=hst.lo
 refine ⟨Z,h,x,fo,rfl,rfl,hZ,Qae hz _ _ _,fun h0=>PV.sub (H:=fun b=>K b\/b=Z) (fun b _ e => .inl e) (PV.lat (Lat.set3 (H:=fun b=>K b\/b=Z) (G:=Z) (.inr rfl) _ _ _) (PV.sub (fun b _ e=>?_) (hp h0))),(((hst.put hZ _).put hZ _).put hZ _)⟩
 rcases e with e | e
 ·rcases hK b e with e | e
  ·exact .inl e
  ·exact .inr ⟨e.1,by omega⟩
 ·exact .inr ⟨by omega,by omega⟩
def Qr9 (w wr:World) (h1 x1:Sl) (f1:Int) (h2 x2:Sl) (f2:Int) (x:Nat) (E:Int) (v e:Value) (wx:World):Prop :=
 ∃ V:Nat,v= .pointer (some ⟨V,0,none⟩)/\e= .int .i64 E/\wr.heap.size<=V/\wx.heap[V]?=some (itO 0 x 0 nilS)/\RtS w wr h1 x1 f1 h2 x2 f2 wx
theorem QnK {w wr w5:World}{h1 x1 h2 x2:Sl}{f1 f2:Int}{x:Nat}{E:Int} (hst:RtS w wr h1 x1 f1 h2 x2 f2 w5) :
  Qr9 w wr h1 x1 f1 h2 x2 f2 x E (.pointer (some ⟨w5.heap.size,0,none⟩)) (.int .i64 E) (w5.alloc (itO 0 x 0 nilS)) :=
 ⟨w5.heap.size,rfl,rfl,hst.bel.size,heap_alloc_new w5 _,hst.al _⟩
theorem QnL {w wr w5:World}{h1 x1 h2 x2:Sl}{f1 f2:Int}{x:Nat}{E:Int}{Z:Nat} (hst:RtS w wr h1 x1 f1 h2 x2 f2 w5) (hz:ZO (itO 0 0 0 nilS) Z w5) (hZ:wr.heap.size<=Z) :
  Qr9 w wr h1 x1 f1 h2 x2 f2 x E (.pointer (some ⟨Z,0,none⟩)) (.int .i64 E) (set4 w5 Z (.int .i64 0) (.float .f64 x) (.int .i32 0) (.slice none 0 0)) :=
 ⟨Z,rfl,rfl,hZ,Qc5 hz _ _ _ _,((((hst.put hZ _).put hZ _).put hZ _).put hZ _)⟩
theorem Qlf {Z:Nat}{w5:World} (hz:ZO (itO 0 0 0 nilS) Z w5) (x:Nat) (md:Mode):(store ⟨Z,1,none⟩ (.float .f64 x) md).run Tryz.prog (w5.setCell ⟨Z,0,none⟩ (.int .i64 0))= .ok () ((w5.setCell ⟨Z,0,none⟩ (.int .i64 0)).setCell ⟨Z,1,none⟩ (.float .f64 x)):=by
 have h0:=heap_setCell_same w5 Z 0 _ _ (.int .i64 0) hz
 rw [show (#[.int .i64 0,.float .f64 0,.int .i32 0,.slice nilS.1 nilS.2.1 nilS.2.2]:Array Value).setIfInBounds 0 (.int .i64 0)=#[.int .i64 0,.float .f64 0,.int .i32 0,.slice nilS.1 nilS.2.1 nilS.2.2] by simp] at h0
 obtain ⟨⟨_,v1,_,_⟩,vz⟩:=block4 h0
 exact QaG v1 (vz 1) .f64 x md
structure RtI (K:Nat->Prop) (w U:World) (G:Nat) (h1 x1:Sl) (f1:Int) (h2 x2:Sl) (f2:Int) (s:Sl) (fo:Int) (l:List RI) (v:Value) (W:World):Prop where
 own:IOwn K W U.heap.size v l
 out:W.heap[G]?=some (.cells #[sv s,v,.int .i64 fo] 25)
 p3:P3 w W h1 x1 f1 h2 x2 f2
 lat:Lat (fun b=>b=G) U W
 big:w.heap.size+3<=G
 old:G < U.heap.size
theorem RtI.step {K:Nat->Prop}{w U W W':World}{G:Nat}{h1 x1 h2 x2:Sl}{f1 f2:Int}{s:Sl}{fo:Int}{l:List RI}{v:Value} (g:RtI K w U G h1 x1 f1 h2 x2 f2 s fo l v W) (hb:Below W.heap.size W W'):RtI K w U G h1 x1 f1 h2 x2 f2 s fo l v W' :=
 ⟨g.own.below hb,by rw [hb.block _ (lt_blk g.out)];exact g.out,g.p3.step hb,g.lat.trans (Lat.below hb),g.big,g.old⟩
theorem RtI.sz {K:Nat->Prop}{w U W:World}{G:Nat}{h1 x1 h2 x2:Sl}{f1 f2:Int}{s:Sl}{fo:Int}{l:List RI}{v:Value} (g:RtI K w U G h1 x1 f1 h2 x2 f2 s fo l v W):U.heap.size<=W.heap.size:=g.lat.size
theorem RtI.push {K:Nat->Prop}{w U W w':World}{G:Nat}{h1 x1 h2 x2:Sl}{f1 f2:Int}{s:Sl}{fo:Int}{l:List RI}{v v':Value}{A:RI} (g:RtI K w U G h1 x1 f1 h2 x2 f2 s fo l v W) (hKG:K G) (hK:∀ b,K b->b < U.heap.size) (hown:IOwn K w' U.heap.size v' (l++[A])) (hb:Below U.heap.size W w') :
  RtI K w U G h1 x1 f1 h2 x2 f2 s fo (l++[A]) v' (w'.setCell ⟨G,1,none⟩ v'):=by
 have hbig:=g.big
 have hold:=g.old
 have e2:w'.heap[G]?=some (.cells #[sv s,v,.int .i64 fo] 25):=by rw [hb.block _ (by omega)];exact g.out
 have l1:Lat (fun b=>b=G) U w':=⟨Nat.le_trans g.lat.size hb.size,fun b hl hn=>by rw [hb.block b hl,g.lat.block b hl hn]⟩
 refine ⟨hown.lat (Lat.set (a:=⟨G,1,none⟩) hKG v') (fun b e h2=>by
  have:=(hown.own_lt e).1
  have:=hK b h2
  omega),?_,(g.p3.more (hb.mono (by omega))).more ((Below.refl _ _).setCell (by show _<=G;omega) _),l1.setU (.inl rfl) _,hbig,hold⟩
 have h1:=heap_setCell_same _ G 1 _ _ v' e2
 rw [show (#[sv s,v,.int .i64 fo]:Array Value).setIfInBounds 1 v'=#[sv s,v',.int .i64 fo] by simp] at h1
 exact h1
theorem RtI.done {H K:Nat->Prop}{w U W:World}{G:Nat}{h1 x1 h2 x2:Sl}{f1 f2:Int}{s:Sl}{fo:Int}{sh:List Nat}{l:List RI}{v:Value} (g:RtI K w U G h1 x1 f1 h2 x2 f2 s fo l v W) (hKG:K G) (hKr:K (w.heap.size+2)) (hKH:∀ b,H b->K b) (hK:∀ b,K b->b < U.heap.size) (hs:RdH K U (sv s) (Qbv sh)) (a0 a1 a2:Value) :
  ∃ x:Sl,v=sv x/\PV H (set3 W (w.heap.size+2) a0 a1 a2) (.mk (sh.map Int.ofNat) l fo) s x fo:=by
 obtain ⟨x,e,hp⟩:=g.own.pv hK (Keeps.lat hs (g.lat.wide fun b e=>by subst e;exact hKG)) fo
 exact ⟨x,e,PV.sub (fun b _ e=>hKH b e) (PV.lat (Lat.set3 (G:=w.heap.size+2) hKr a0 a1 a2) hp)⟩
noncomputable def twA (f:Int) (a b:PA):Int×PA:=twoE (depA a+depA b+1) f a b
def QcO (f:Int):Int×PA:=match QbK f with | some x=>(0,.nums [] [x]) | none=>(24,default)
noncomputable def rowE (f:Int):List PA->Int×PA
 | []=>QcO f
 | [x]=>(0,x)
 | y::z::l=>if (rowE f (z::l)).1=0 then twA f y (rowE f (z::l)).2 else ((rowE f (z::l)).1,default)
theorem QeN (f:Int) (x:PA):rowE f [x]=(0,x):=by rw [rowE]
theorem QdS (f:Int) (y:PA) (l:List PA) (h:l≠[]):rowE f (y::l)=if (rowE f l).1=0 then twA f y (rowE f l).2 else ((rowE f l).1,default):=by
 cases l with
 | nil=>exact absurd rfl h
 | cons z l=>rw [rowE]
theorem Qki {f:Int}{a b:PA}{d:Nat} (ha:GoodA d a) (hb:GoodA d b) (h:(twA f a b).1=0):GoodA d (twA f a b).2:=by
 have h1:=Qck (depA a+depA b+1) f a b d d ha hb (by omega) h
 rwa [Nat.max_self] at h1
theorem Qic {f:Int}{a b:PA}{d M:Nat} (hM:1<=M) (ha:GoodA d a) (hb:GoodA d b) (sa:SmA M a) (sb:SmA M b):SmA M (twA f a b).2:=Qf7 hM _ f a b d d ha hb sa sb
theorem QdT {f:Int}{d:Nat}:∀ {l:List PA},l≠[]->(∀ x∈l,GoodA d x)->(rowE f l).1=0->GoodA d (rowE f l).2
 | [],h,_,_=>absurd rfl h
 | [x],_,h,_=>by rw [QeN];exact h x (List.mem_cons_self ..)
 | y::z::l,_,h,h0=>by
  have ih:=QdT (f:=f) (d:=d) (l:=z::l) (by simp) (fun x hx=>h x (List.mem_cons_of_mem _ hx))
  rw [QdS f y (z::l) (by simp)] at h0 ⊢
  by_cases h1:(rowE f (z::l)).1=0
  ·rw [if_pos h1] at h0 ⊢
   exact Qki (h y (List.mem_cons_self ..)) (ih h1) h0
  ·rw [if_neg h1] at h0
   exact absurd h0 h1
theorem Qgn {f:Int}{d M:Nat} (hM:1<=M):∀ {l:List PA},l≠[]->(∀ x∈l,GoodA d x/\SmA M x)->(rowE f l).1=0->SmA M (rowE f l).2
 | [],h,_,_=>absurd rfl h
 | [x],_,h,_=>by rw [QeN];exact (h x (List.mem_cons_self ..)).2
 | y::z::l,_,h,h0=>by
  have ih:=Qgn (f:=f) (d:=d) hM (l:=z::l) (by simp) (fun x hx=>h x (List.mem_cons_of_mem _ hx))
  have ig:=QdT (f:=f) (d:=d) (l:=z::l) (by simp) (fun x hx=>(h x (List.mem_cons_of_mem _ hx)).1)
  rw [QdS f y (z::l) (by simp)] at h0 ⊢
  by_cases h1:(rowE f (z::l)).1=0
  ·rw [if_pos h1] at h0 ⊢
   exact Qic hM (h y (List.mem_cons_self ..)).1 (ig h1) (h y (List.mem_cons_self ..)).2 (ih h1)
  ·rw [if_neg h1] at h0
   exact absurd h0 h1
theorem Qsa {f:Int} (hk:Qaz f=true) (x y:Nat):twA f (.nums [] [x]) (.nums [] [y])=if (oneP pwP f x y).2=0 then (0,.nums [] [(oneP pwP f x y).1]) else (24,default):=by
 have hfr:Qaq (.nums [] [x]) (.nums [] [y])=(0,[]):=by
  unfold Qaq
  rw [if_pos ⟨rfl,rfl,Nat.le_refl _⟩]
  rfl
 have hle:lenE (.nums [] [x]) (.nums [] [y])=1:=rfl
 unfold twA
 rw [twoE,if_neg (by rw [hk];decide),hfr,if_neg (by simp),if_neg (by rintro (h | h) <;> cases h),QbR,hle]
 have hix:ixP [x].length 0=0/\ixP [y].length 0=0:=⟨rfl,rfl⟩
 rcases QbB 1 (fun c=>oneP pwP f ([x].getD (ixP [x].length c) 0) ([y].getD (ixP [y].length c) 0)) with ⟨⟨c,hc,h⟩,e⟩ | ⟨h,e⟩
 ·obtain rfl:c=0:=by omega
  rw [hix.1,hix.2] at h
  have h':(oneP pwP f x y).2≠0:=h
  rw [e,if_pos (by decide),if_neg h']
 ·have h1:=h 0 (by decide)
  rw [hix.1,hix.2] at h1
  have h1':(oneP pwP f x y).2=0:=h1
  rw [e,if_neg (by simp),if_pos h1']
  have e2:(List.range 1).map (fun c=>(oneP pwP f ([x].getD (ixP [x].length c) 0) ([y].getD (ixP [y].length c) 0)).1)=[(oneP pwP f x y).1]:=rfl
  rw [e2]
theorem QnM {f:Int} (hk:Qaz f=true) (l:List Nat) (hn:1<=l.length):∀ m,m<=l.length - 1->rowE f ((l.drop (l.length - 1 - m)).map fun x => .nums [] [x])=match Qeo (oneP pwP f) (fun i=>l.getD i 0) l.length m with | some v=>(0,.nums [] [v]) | none=>(24,default):=by
 intro m
 induction m with
 | zero =>
  intro _
  have e:l.drop (l.length - 1 - 0)=[l.getD (l.length - 1) 0]:=by
   rw [Nat.sub_zero,List.drop_eq_getElem_cons (by omega),List.drop_eq_nil_of_le (by omega)]
   simp [List.getD,show l.length - 1 < l.length by omega]
  rw [e]
  show rowE f [_]=_
  rw [QeN,Qeo]
 | succ m ih =>
  intro hm
  have ih:=ih (by omega)
  have e:l.drop (l.length - 1 - (m+1))=l.getD (l.length - 2 - m) 0::l.drop (l.length - 1 - m):=by
   rw [List.drop_eq_getElem_cons (by omega)]
   have e1:l.length - 1 - (m+1)=l.length - 2 - m:=by omega
   have e2:l.length - 1 - (m+1)+1=l.length - 1 - m:=by omega
   rw [e2]
   congr 1
   simp [List.getD,e1,show l.length - 2 - m < l.length by omega]
  have hne:((l.drop (l.length - 1 - m)).map fun x=>PA.nums [] [x])≠[]:=by
   intro h
   have:=congrArg List.length h
   simp at this
   omega
  rw [e,List.map_cons,QdS f _ _ hne,ih,Qeo]
  cases hs:Qeo (oneP pwP f) (fun i=>l.getD i 0) l.length m with
  | none=>rfl
  | some v =>
   show (if (0:Int)=0 then twA f (.nums [] [l.getD (l.length - 2 - m) 0]) (.nums [] [v]) else _)=_
   rw [if_pos rfl,Qsa hk]
   simp only [Option.bind_some]
   by_cases h0:(oneP pwP f (l.getD (l.length - 2 - m) 0) v).2=0
   ·rw [if_pos h0,if_pos h0]
   ·rw [if_neg h0,if_neg h0]
theorem Qp2 {f:Int} (hk:Qaz f=true) (l:List Nat) (hn:1<=l.length) (v:Nat) (h:rowR (oneP pwP f) (fun i=>l.getD i 0) l.length=some v):rowE f (l.map fun x => .nums [] [x])=(0,.nums [] [v]):=by
 have h1:=QnM hk l hn (l.length - 1) (Nat.le_refl _)
 unfold rowR at h
 rw [h,show l.length - 1 - (l.length - 1)=0 by omega,List.drop_zero] at h1
 exact h1
theorem QfA:∀ (s:List Nat) (k:Nat),prod1 (s.eraseIdx k)<=prod1 s
 | [],_=>Nat.le_refl _
 | d::s,0=>by
  show prod1 s<=max 1 d*prod1 s
  exact Nat.le_mul_of_pos_left _ (by omega)
 | d::s,k+1=>Nat.mul_le_mul_left _ (QfA s k)
theorem Qlg {s:List Nat}{n:Nat} (h:OkSh s n) (k:Nat):OkSh (s.eraseIdx k) (prodN (s.eraseIdx k)) :=
 ⟨Nat.le_trans (List.length_eraseIdx_le ..) h.1,Nat.le_trans (QfA s k) h.2.1,rfl⟩
theorem Qkj {s r:List Nat}{k i:Nat} (hk:k < s.length) (hr:InSh (s.eraseIdx k) r) (hi:i < s.getD k 0):InSh s (r.take k++i::r.drop k):=by
 have hrl:r.length=s.length - 1:=by rw [hr.1,List.length_eraseIdx,if_pos hk]
 have hl:(r.take k++i::r.drop k).length=s.length:=by simp [List.length_append,List.length_take,List.length_drop];omega
 refine ⟨hl,fun j hj hj2=>?_⟩
 rcases Nat.lt_trichotomy j k with h | h | h
 ·have h1:=hr.2 j (by omega) (by rw [<- hr.1];omega)
  rw [List.getElem_eraseIdx] at h1
  rw [dif_pos h] at h1
  rw [List.getElem_append_left (by rw [List.length_take];omega),List.getElem_take]
  exact h1
 ·subst h
  rw [List.getElem_append_right (by rw [List.length_take];omega)]
  have e:j - (r.take j).length=0:=by rw [List.length_take];omega
  simp only [e,List.getElem_cons_zero]
  have e2:s.getD j 0=s[j]:=by simp [List.getD,hj2]
  omega
 ·have h1:=hr.2 (j - 1) (by omega) (by rw [<- hr.1];omega)
  rw [List.getElem_eraseIdx,dif_neg (by omega)] at h1
  rw [List.getElem_append_right (by rw [List.length_take];omega)]
  have e:j - (r.take k).length=(j - 1 - k)+1:=by rw [List.length_take];omega
  simp only [e,List.getElem_cons_succ,List.getElem_drop]
  have e1:k+(j - 1 - k)=j - 1:=by omega
  have e2:j - 1+1=j:=by omega
  simp only [e1]
  simp only [e2] at h1
  exact h1
def rowK (a:PA) (k:Nat) (r:List Nat):List Nat:=(List.range (a.shape.getD k 0)).map fun i=>plcN a.shape (r.take k++i::r.drop k)
theorem QnN {d:Nat}{a:PA} (hg:GoodA d a){k:Nat} (hk:k < a.shape.length){r:List Nat} (hr:InSh (a.shape.eraseIdx k) r):∀ p∈rowK a k r,p < a.len:=by
 intro p hp
 obtain ⟨i,hi,rfl⟩:=List.mem_map.1 hp
 have h1:=Qjb _ _ (Qkj hk hr (List.mem_range.1 hi))
 rw [hg.sh.2.2.2] at h1
 exact h1
def Qp3 (a:PA) (k:Nat):List (List Nat):=(allL (a.shape.eraseIdx k) (prodN (a.shape.eraseIdx k))).take (prodN (a.shape.eraseIdx k))
def axN (a:PA) (first:Bool):Nat:=if first then 0 else a.shape.length - 1
noncomputable def Qdl (f:Int) (a:PA) (k:Nat):List (Int×PA):=(Qp3 a k).map fun r=>rowE f ((rowK a k r).map (Qak a))
noncomputable def Qdm (f:Int) (a:PA) (first:Bool):Int×PA :=
 if a.shape=[] then (0,a)
 else if (seqE (Qdl f a (axN a first))).1≠0 then ((seqE (Qdl f a (axN a first))).1,default)
 else (0,gatA (a.shape.eraseIdx (axN a first)) (seqE (Qdl f a (axN a first))).2)
def Qtz (a:PA) (k:Nat):Int×PA :=
 if a.shape.getD k 0=1 then (0,match a with | .nums s l => .nums (s.eraseIdx k) l | .chars s l => .chars (s.eraseIdx k) l | .boxes s l => .boxes (s.eraseIdx k) l) else (24,default)
noncomputable def QbG (f:Int) (a:PA) (first:Bool):Int×PA :=
 if Qaz f=false then (1,default)
 else if a.shape≠[]/\a.fill=1 then Qtz a (axN a first)
 else if a.shape≠[]/\a.fill=0/\a.shape.getD (axN a first) 0=0/\QbK f=none then (24,default)
 else Qdm f a first
theorem Qg1 {f:Int} (hk:Qaz f=true) (l:List Nat) (hn:1<=l.length) (v:Nat) (h:rowR (oneP pwP f) (fun i=>l.getD i 0) l.length=some v):QbG f (.nums [l.length] l) false=(0,.nums [] [v]):=by
 unfold QbG
 rw [if_neg (by rw [hk];decide),if_neg (by rintro ⟨_,h⟩;cases h)]
 have hax:axN (.nums [l.length] l) false=0:=rfl
 rw [hax,if_neg (by
  rintro ⟨_,_,h,_⟩
  have h':l.length=0:=h
  omega)]
 unfold Qdm
 rw [if_neg (by intro h;cases h),hax]
 have hrk:Qdl f (.nums [l.length] l) 0=[(0,.nums [] [v])]:=by
  have e1:Qp3 (.nums [l.length] l) 0=[[]]:=rfl
  unfold Qdl
  rw [e1]
  have e2:(rowK (.nums [l.length] l) 0 []).map (Qak (.nums [l.length] l))=l.map fun x => .nums [] [x]:=by
   unfold rowK
   rw [List.map_map]
   apply List.ext_getElem
   ·simp [PA.shape]
   ·intro i h1 h2
    have hi:i < l.length:=by simpa using h2
    simp only [List.getElem_map,List.getElem_range,Function.comp]
    have e3:plcN [l.length] ((([]:List Nat).take 0)++i::([]:List Nat).drop 0)=i:=by
     show plcN [] []+prodN []*i=i
     have e1:plcN [] []=0:=rfl
     have e2:prodN []=1:=rfl
     rw [e1,e2]
     omega
    have e4:plcN (PA.nums [l.length] l).shape ((([]:List Nat).take 0)++i::([]:List Nat).drop 0)=i:=e3
    rw [e4,Qak,QdN hi]
    simp [List.getD,hi]
  rw [List.map_cons,List.map_nil,e2,Qp2 hk l hn v h]
 rw [hrk]
 have hs:seqE [((0:Int),PA.nums [] [v])]=(0,[.nums [] [v]]):=by
  unfold seqE
  rw [if_neg (by simp)]
  unfold seqE
  rw [if_neg (by simp)]
 rw [hs,if_neg (by simp)]
 rfl
end Go.Proofs.YtdelgpelkfndeaaGreatDoor
