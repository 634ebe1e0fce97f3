/- The walk of relate.Apply at numbers in any stores. The walks of squeeze.Into, logic.Truths, arith.Apply and logic.Apply at characters. The walk of rebusref27's .. Conditions: as each theorem says. -/
import Derived.Test.YtdelgpelkfndeaaGreatDoorMgA
import Derived.Test.YtdelgpelkfndeaaGreatDoorMg16
import Derived.Test.YtdelgpelkfndeaaGreatDoorMg06
import Derived.Test.YtdelgpelkfndeaaGreatDoorMg11
import Derived.Test.YtdelgpelkfndeaaGreatDoorMg12
import Derived.Test.YtdelgpelkfndeaaGreatDoorMg17
import Derived.Test.YtdelgpelkfndeaaGreatDoorMg18
import Derived.Test.YtdelgpelkfndeaaGreatDoorMg04
import Derived.Test.YtdelgpelkfndeaaGreatDoorMg07
set_option maxRecDepth 100000
set_option maxHeartbeats 4000000
namespace Go.Proofs.YtdelgpelkfndeaaGreatDoor
open Go Go.RowKit Go.Proofs Fl
def tabRN (f:Int):Nat:=(tbR f 0).toNat+2*(tbR f 1).toNat+4*(tbR f 2).toNat+8*(tbR f 3).toNat
theorem Qh0:∀ a b c d:Bool,((a.toNat+2*b.toNat+4*c.toNat+8*d.toNat).testBit 0=a/\(a.toNat+2*b.toNat+4*c.toNat+8*d.toNat).testBit 1=b/\(a.toNat+2*b.toNat+4*c.toNat+8*d.toNat).testBit 2=c/\(a.toNat+2*b.toNat+4*c.toNat+8*d.toNat).testBit 3=d)/\a.toNat+2*b.toNat+4*c.toNat+8*d.toNat < 16:=by decide
theorem Qg0 (f:Int):tabRN f < 16:=(Qh0 _ _ _ _).2
theorem Qh1 (f:Int) (j:Nat) (hj:j < 4):(tabRN f).testBit j=tbR f j:=by
 obtain ⟨⟨h0,h1,h2,h3⟩,_⟩:=Qh0 (tbR f 0) (tbR f 1) (tbR f 2) (tbR f 3)
 match j,hj with
 | 0,_=>exact h0
 | 1,_=>exact h1
 | 2,_=>exact h2
 | 3,_=>exact h3
theorem Qk7 (f:Int) (hf:11<=f) (hf2:f<=16) (w:World):Calls Tryz.prog 64 #[.int .i64 f] w fun e w'=>e= .returned (.int .u8 ((tabRN f:Nat):Int))/\w=w':=by
 refine (QkZ f hf hf2 w).mono ?_
 rintro e w' ⟨t,rfl,⟨ht,hb⟩,rfl⟩
 have e:t=tabRN f:=by
  apply Nat.eq_of_testBit_eq
  intro j
  by_cases hj:j < 4
  ·rw [hb j hj,Qh1 f j hj]
  ·have h16:(16:Nat)<=2 ^ j:=Nat.pow_le_pow_right (n:=2) (by decide) (show 4<=j by omega)
   rw [Nat.testBit_lt_two_pow (Nat.lt_of_lt_of_le ht h16),Nat.testBit_lt_two_pow (Nat.lt_of_lt_of_le (Qg0 f) h16)]
 exact ⟨by rw [e],rfl⟩
theorem Qkd (t:Bool):fi ((t.toNat:Nat):Int)=Qai t:=by
 cases t
 ·exact fi_zero
 ·exact fi_one
theorem Qno (f:Int) (a b:Bool):(tabRN f).testBit (2*a.toNat+b.toNat)=relB f (Qai a) (Qai b):=by
 rw [Qh1 _ _ (by cases a <;> cases b <;> decide)]
 unfold tbR
 have e1:(2*a.toNat+b.toNat) / 2=a.toNat:=by cases a <;> cases b <;> rfl
 have e2:(2*a.toNat+b.toNat) % 2=b.toNat:=by cases a <;> cases b <;> rfl
 rw [e1,e2,Qkd,Qkd]
def Qft (H:Nat->Prop) (w:World) (R:Nat->Bool) (r:Option Nat) (e:Ending) (w':World):Prop :=
 (r=none/\e= .returned (.tuple #[vecV 0 vnil 0 vnil vnil vnil vnil vnil,.int .i64 23])/\Below w.heap.size w w')\/(∃ N,r=some N/\Qde H w (fun u W=>NumV u 1 N (fun c=>Qai (R c)) W) e w')
def Qqs (w:World) (p q:V8) (x:Value) (W:World):Prop:=x= .bool false/\St2 w W p q
theorem Qh2 {w W:World}{p q:V8} (h:St2 w W p q):Qqs w p q (.bool false) W:=⟨rfl,h⟩
structure LdB (w0:World) (V1 V2:Nat) (b1 b2:Sl) (N:Nat) (W:World):Prop where
 one:W.heap[V1]?=some (.cells #[.slice b1.1 b1.2.1 b1.2.2,.int .i64 (N:Int)] 33)
 two:W.heap[V2]?=some (.cells #[.slice b2.1 b2.2.1 b2.2.2,.int .i64 (N:Int)] 33)
 bel:Below w0.heap.size w0 W
 old1:V1 < w0.heap.size
 old2:V2 < w0.heap.size
theorem LdB.step {w0 W W':World}{V1 V2:Nat}{b1 b2:Sl}{N:Nat} (h:LdB w0 V1 V2 b1 b2 N W) (hb:Below W.heap.size W W'):LdB w0 V1 V2 b1 b2 N W' :=
 ⟨by rw [hb.block _ (lt_of_block h.one)];exact h.one,by rw [hb.block _ (lt_of_block h.two)];exact h.two,Qaa h.bel hb,h.old1,h.old2⟩
theorem LdB.al {w0 W:World}{V1 V2:Nat}{b1 b2:Sl}{N:Nat} (h:LdB w0 V1 V2 b1 b2 N W) (o:Obj):LdB w0 V1 V2 b1 b2 N (W.alloc o):=h.step (bel1 W o)
theorem LdB.dr {w0 W:World}{V1 V2:Nat}{b1 b2:Sl}{N:Nat} (h:LdB w0 V1 V2 b1 b2 N W):LdB w0 V1 V2 b1 b2 N W.drew:=h.step (Below.refl _ W).drew
theorem LdB.put {w0 W:World}{V1 V2:Nat}{b1 b2:Sl}{N:Nat} (h:LdB w0 V1 V2 b1 b2 N W){g j:Nat} (ha:w0.heap.size<=g) (u:Value):LdB w0 V1 V2 b1 b2 N (W.setCell ⟨g,j,none⟩ u) :=
 ⟨by rw [Below.heap_setCell _ _ _ _ (by show _≠g;have:=h.old1;omega)];exact h.one,by rw [Below.heap_setCell _ _ _ _ (by show _≠g;have:=h.old2;omega)];exact h.two,h.bel.setCell (by show _<=g;omega) u,h.old1,h.old2⟩
theorem LdB.prev {w0 W W':World}{V1 V2:Nat}{b1 b2:Sl}{N:Nat} (h:LdB w0 V1 V2 b1 b2 N W) (_:Below W.heap.size W W'):Below w0.heap.size w0 W:=h.bel
theorem LdB.self {w0 W:World}{V1 V2:Nat}{b1 b2:Sl}{N:Nat} (h:LdB w0 V1 V2 b1 b2 N W):LdB w0 V1 V2 b1 b2 N W:=h
theorem Qug {w0 W:World}{V1 V2:Nat}{b1 b2:Sl}{N:Nat} (h:LdB w0 V1 V2 b1 b2 N W):((W.cell? ⟨V1,0,none⟩=some (.slice b1.1 b1.2.1 b1.2.2)/\W.cell? ⟨V1,1,none⟩=some (.int .i64 (N:Int)))/\(W.cell? ⟨V2,0,none⟩=some (.slice b2.1 b2.2.1 b2.2.2)/\W.cell? ⟨V2,1,none⟩=some (.int .i64 (N:Int))))/\LdB w0 V1 V2 b1 b2 N W :=
 ⟨⟨⟨(Qaj h.one).1,(Qaj h.one).2.1⟩,⟨(Qaj h.two).1,(Qaj h.two).2.1⟩⟩,h⟩
def Qr0 (w0:World) (N:Nat) (l:Nat->Bool) (x y:Value) (wx:World):Prop :=
 ∃ (V g:Nat),x= .pointer (some ⟨V,0,none⟩)/\wx.heap[V]?=some (.cells #[.slice (some ⟨g,0,none⟩) ((N+63) / 64) ((N+63) / 64),.int .i64 (N:Int)] 33)/\RowU wx w0.heap.size g ((N+63) / 64) (packW l N)/\Below w0.heap.size w0 wx/\y= .bool true
theorem Qnp {w0 W w2:World}{N:Nat}{l:Nat->Bool}{g:Nat}{V1 V2:Nat}{b1 b2:Sl} (hb:Below w0.heap.size w0 W) (hr:RowU w2 W.heap.size g ((N+63) / 64) (packW l N)) (hs:LdB w0 V1 V2 b1 b2 N w2) :
  Qr0 w0 N l (.pointer (some ⟨w2.heap.size,0,none⟩)) (.bool true) (w2.alloc (.cells #[.slice (some ⟨g,0,none⟩) ((N+63) / 64) ((N+63) / 64),.int .i64 (N:Int)] 33)) :=
 ⟨w2.heap.size,g,rfl,heap_alloc_new w2 _,(hr.below (bel1 w2 _)).lower hb.size,Qaa hs.bel (bel1 w2 _),rfl⟩
theorem QdP {w0 W w2:World}{N:Nat}{l:Nat->Bool}{g Z:Nat}{V1 V2:Nat}{b1 b2:Sl} (hb:Below w0.heap.size w0 W) (hZ:w0.heap.size<=Z) (hZW:Z < W.heap.size) (h1:w2.heap[Z]?=some (.cells bcells 33)) (hr:RowU w2 W.heap.size g ((N+63) / 64) (packW l N)) (hs:LdB w0 V1 V2 b1 b2 N w2) :
  Qr0 w0 N l (.pointer (some ⟨Z,0,none⟩)) (.bool true) (set2 w2 Z (.slice (some ⟨g,0,none⟩) ((N+63) / 64) ((N+63) / 64)) (.int .i64 (N:Int))) :=
 ⟨Z,g,rfl,Qa2 h1 _ _,(Qct hr (by show some g≠_;have:=hr.low.1;intro e;injection e;omega) _ _).lower hb.size,Qa1 hs.bel hZ _ _,rfl⟩
theorem Qi8 (H:Nat->Prop) (f:Int) (hf:11<=f) (hf2:f<=16) (p q:V8) (m n:Nat) (F G:Nat->Nat) (R:Nat->Bool) (w:World) (hL:lenP m n=none)
  (hP:∀ W,Below w.heap.size w W->NumW p.v m F W) (hQ:∀ W,Below w.heap.size w W->NumW q.v n G W) :
  Calls Tryz.prog 27 #[.int .i64 f,p.v,q.v] w (Qft H w R (lenP m n)):=by
 have HLP:=hD (fun W (hs:St2 w W p q)=>(hP W hs.bel).len)
 have HLQ:=hD (fun W (hs:St2 w W p q)=>(hQ W hs.bel).len)
 have HCP:=hD (fun W (hs:St2 w W p q)=>(hP W hs.bel).cls)
 have HCQ:=hD (fun W (hs:St2 w W p q)=>(hQ W hs.bel).cls)
 have HLL:=hD (fun W=>QcX m n W)
 have HS0:=hD (St2.new w p q)
 obtain ⟨L,ok,hL1,hL2⟩:∃ L ok,L=(lenP m n).getD 0/\ok=(lenP m n).isSome:=⟨_,_,rfl,rfl⟩
 rw [<- hL1,<- hL2] at HLL
 obtain rfl:ok=false:=by rw [hL2,hL];rfl
 have HLN:=hD hL
 clear hL1 hL2 hL hP hQ
 go_enter Tryz.func27,Tryz.ntmps27
 go_wp2_with fail
 obtain ⟨w0,hw0⟩:∃ w0,w0=((w.alloc p.o).alloc q.o).alloc (.cells zcells 39):=⟨_,rfl⟩
 rw [<- hw0] at HS0 ⊢
 clear hw0
 go_cut [8,9] from 22 (fun x y wx=>Qfn w p q L false x y wx)
 case first =>
  have hs0:=HS0.out.dr
  have hs00:=HS0.out
  go_region_held3 (fun W=>St2C w W p q/\St2 w W p q)
   (first | with_reducible assumption | (with_reducible (refine QfQ ?_);repeat (first | with_reducible assumption | with_reducible refine St2.dr ?_)))
   (first
    | (go_at_call 60;(with_reducible refine (HLL.out _).mono ?_);rintro e w5 ⟨rfl,rfl⟩)
    | (go_at_call 23;(with_reducible refine (HLP.out _ ?_).mono ?_);exact St2.self (by repeat (first | with_reducible assumption | with_reducible refine St2.dr ?_));rintro e w1 ⟨rfl,hb1⟩;obtain ⟨hc1,hf1⟩:=bcell2 hb1;have hz1:=hb1.size;have hst1:St2 w w1 p q:=St2.step (by repeat (first | with_reducible assumption | with_reducible refine St2.dr ?_)) hb1;clear hb1)
    | (go_at_call 23;(with_reducible refine (HLQ.out _ ?_).mono ?_);exact St2.self (by repeat (first | with_reducible assumption | with_reducible refine St2.dr ?_));rintro e w2 ⟨rfl,hb2⟩;obtain ⟨hc2,hf2⟩:=bcell2 hb2;have hz2:=hb2.size;have hst2:St2 w w2 p q:=St2.step (by repeat (first | with_reducible assumption | with_reducible refine St2.dr ?_)) hb2;clear hb2))
  all_goals
   go_wp2
   go_meet
   first
    | with_reducible exact QaZ hst2
    | with_reducible exact QaZ hst1
 obtain ⟨rfl,rfl,hst⟩:=hcut
 have HST:=hD hst
 clear hst HS0 HLP HLQ HLL
 obtain ⟨⟨h0,h1,h2,h3,h4,h5,h6,h7⟩,hz⟩:=Qag HST.out.res
 go_wp2
 refine bodyPost_ret (v := .tuple #[vecV 0 vnil 0 vnil vnil vnil vnil vnil,.int .i64 23]) ?_ rfl (.inl ⟨HLN.out,rfl,Qac HST.out.bel (Nat.le_add_right _ 2) _ _ _ _ _ _ _ _⟩)
 exact Qas (fn:=Tryz.f27) (p:=6) (u:=7) rfl _ _ (w.heap.size+2) (by rfl) (Qad HST.out.res _ _ _ _ _ _ _ _)
def Qnq (BT:World->Sl->Nat->(Nat->Bool)->Prop) (k:Int) (m N:Nat) (F:Nat->Nat) (w:World) (e:Ending) (w':World):Prop :=
 (k=1/\∃ (b:Sl) (L:Nat->Bool),e= .returned (.tuple #[.agg #[.slice b.1 b.2.1 b.2.2,.int .i64 (N:Int)],.bool true])/\BT w' b N L/\(∀ j,j < N->F (ixP m j)=Qai (L j))/\Below w.heap.size w w') \/
 (k≠1/\e= .returned (.tuple #[.agg #[vnil,.int .i64 0],.bool false])/\Below w.heap.size w w')
theorem Qgm {BT:World->Sl->Nat->(Nat->Bool)->Prop} (hBT:∀ (W W':World) (b:Sl) (n:Nat) (L:Nat->Bool),BT W b n L->Below W.heap.size W W'->BT W' b n L) (H:Nat->Prop) (f:Int) (hf:11<=f) (hf2:f<=16) (p q:V8) (m n:Nat) (F G:Nat->Nat) (R:Nat->Bool) (w:World) (N:Nat) (hH:∀ b,H b->b < w.heap.size) (hL:lenP m n=some N) (hNb:N<=1000000)
  (hSP:∀ W,Below w.heap.size w W->Calls Tryz.prog 62 #[p.v,.int .i64 (N:Int)] W (Qnq BT p.k m N F W))
  (hSQ:∀ W,Below w.heap.size w W->Calls Tryz.prog 62 #[q.v,.int .i64 (N:Int)] W (Qnq BT q.k n N G W))
  (hNU:∀ (W:World) (H':Nat->Prop),Below w.heap.size w W->(∀ b,H' b->b < W.heap.size)->Calls Tryz.prog 65 #[.int .i64 f,.int .i64 (N:Int),p.v,q.v] W (VecR H' W (fun u W'=>NumV u 1 N (fun c=>Qai (R c)) W')))
  (hTR:∀ (W:World) (b1 b2:Sl) (L1 L2:Nat->Bool),BT W b1 N L1->BT W b2 N L2->(∀ j,j < N->F (ixP m j)=Qai (L1 j))->(∀ j,j < N->G (ixP n j)=Qai (L2 j))->Calls Tryz.prog 63 #[.int .u8 ((tabRN f:Nat):Int),.agg #[.slice b1.1 b1.2.1 b1.2.2,.int .i64 (N:Int)],.agg #[.slice b2.1 b2.2.1 b2.2.2,.int .i64 (N:Int)]] W fun e w'=>∃ g,e= .returned (.tuple #[.agg #[.slice (some ⟨g,0,none⟩) ((N+63) / 64) ((N+63) / 64),.int .i64 (N:Int)],.bool true])/\RowU w' W.heap.size g ((N+63) / 64) (packW R N)/\Below W.heap.size W w')
  (hP:∀ W,Below w.heap.size w W->NumW p.v m F W) (hQ:∀ W,Below w.heap.size w W->NumW q.v n G W) :
  Calls Tryz.prog 27 #[.int .i64 f,p.v,q.v] w (Qft H w R (lenP m n)):=by
 have HBT:=hD hBT
 clear hBT
 have HLP:=hD (fun W (hs:St2 w W p q)=>(hP W hs.bel).len)
 have HLQ:=hD (fun W (hs:St2 w W p q)=>(hQ W hs.bel).len)
 have HCP:=hD (fun W (hs:St2 w W p q)=>(hP W hs.bel).cls)
 have HCQ:=hD (fun W (hs:St2 w W p q)=>(hQ W hs.bel).cls)
 have HLL:=hD (fun W=>QcX m n W)
 have HS0:=hD (St2.new w p q)
 obtain ⟨L,ok,hL1,hL2⟩:∃ L ok,L=(lenP m n).getD 0/\ok=(lenP m n).isSome:=⟨_,_,rfl,rfl⟩
 rw [<- hL1,<- hL2] at HLL
 obtain rfl:ok=true:=by rw [hL2,hL];rfl
 obtain rfl:N=L:=by rw [hL1,hL];rfl
 have HLN:=hD hL
 have HH:=hD hH
 have HSP:=hD hSP
 have HSQ:=hD hSQ
 have HNU:=hD hNU
 have HTR:=hD hTR
 have HNB:=hD hNb
 have HTB:=hD (fun W=>Qk7 f hf hf2 W)
 unfold Qnq at HSP HSQ
 unfold VecR at HNU
 clear hL1 hL2 hL hP hQ hH hSP hSQ hNU hTR hNb
 go_enter Tryz.func27,Tryz.ntmps27
 go_wp2_with fail
 obtain ⟨w0,hw0⟩:∃ w0,w0=((w.alloc p.o).alloc q.o).alloc (.cells zcells 39):=⟨_,rfl⟩
 rw [<- hw0] at HS0 ⊢
 clear hw0
 go_cut [8,9] from 22 (fun x y wx=>Qfn w p q N true x y wx)
 case first =>
  have hs0:=HS0.out.dr
  have hs00:=HS0.out
  go_region_held3 (fun W=>St2C w W p q/\St2 w W p q)
   (first | with_reducible assumption | (with_reducible (refine QfQ ?_);repeat (first | with_reducible assumption | with_reducible refine St2.dr ?_)))
   (first
    | (go_at_call 60;(with_reducible refine (HLL.out _).mono ?_);rintro e w5 ⟨rfl,rfl⟩)
    | (go_at_call 23;(with_reducible refine (HLP.out _ ?_).mono ?_);exact St2.self (by repeat (first | with_reducible assumption | with_reducible refine St2.dr ?_));rintro e w1 ⟨rfl,hb1⟩;obtain ⟨hc1,hf1⟩:=bcell2 hb1;have hz1:=hb1.size;have hst1:St2 w w1 p q:=St2.step (by repeat (first | with_reducible assumption | with_reducible refine St2.dr ?_)) hb1;clear hb1)
    | (go_at_call 23;(with_reducible refine (HLQ.out _ ?_).mono ?_);exact St2.self (by repeat (first | with_reducible assumption | with_reducible refine St2.dr ?_));rintro e w2 ⟨rfl,hb2⟩;obtain ⟨hc2,hf2⟩:=bcell2 hb2;have hz2:=hb2.size;have hst2:St2 w w2 p q:=St2.step (by repeat (first | with_reducible assumption | with_reducible refine St2.dr ?_)) hb2;clear hb2))
  all_goals
   go_wp2
   go_meet
   first
    | with_reducible exact QaZ hst2
    | with_reducible exact QaZ hst1
 obtain ⟨rfl,rfl,hst⟩:=hcut
 have HST:=hD hst
 clear hst HS0 HLP HLQ HLL
 obtain ⟨h0,h1,h2,h3,h4,h5,h6,h7⟩:=HST.out.one
 go_wp2_with fail
 refine (HCP.out _ HST.out).mono ?_
 rintro e w3 ⟨rfl,hb3⟩
 have HS3:=hD (HST.out.step hb3)
 clear hb3 h0 h1 h2 h3 h4 h5 h6 h7 HST
 obtain ⟨h0,h1,h2,h3,h4,h5,h6,h7⟩:=HS3.out.two
 go_wp2_with fail
 refine (HCQ.out _ HS3.out).mono ?_
 rintro e w4 ⟨rfl,hb4⟩
 have HS4:=hD (HS3.out.step hb4)
 clear hb4 h0 h1 h2 h3 h4 h5 h6 h7 HS3
 go_wp2_with fail
 go_cut [51] from 42 to 50 (fun x wx=>Qqs w p q x wx)
 case first =>
  have hs0:=HS4.out.dr
  have hs00:=HS4.out
  go_region_held3 (fun W=>St2C w W p q/\St2 w W p q)
   (first | with_reducible assumption | (with_reducible (refine QfQ ?_);repeat (first | with_reducible assumption | with_reducible refine St2.dr ?_)))
   (first
    | (go_at_call 44;(with_reducible refine (HCP.out _ ?_).mono ?_);exact St2.self (by repeat (first | with_reducible assumption | with_reducible refine St2.dr ?_));rintro e w1 ⟨rfl,hb1⟩;obtain ⟨hc1,hf1⟩:=bcell2 hb1;have hz1:=hb1.size;have hst1:St2 w w1 p q:=St2.step (by repeat (first | with_reducible assumption | with_reducible refine St2.dr ?_)) hb1;clear hb1)
    | (go_at_call 44;(with_reducible refine (HCQ.out _ ?_).mono ?_);exact St2.self (by repeat (first | with_reducible assumption | with_reducible refine St2.dr ?_));rintro e w2 ⟨rfl,hb2⟩;obtain ⟨hc2,hf2⟩:=bcell2 hb2;have hz2:=hb2.size;have hst2:St2 w w2 p q:=St2.step (by repeat (first | with_reducible assumption | with_reducible refine St2.dr ?_)) hb2;clear hb2))
  all_goals
   go_wp2
   go_meet
   first
    | with_reducible exact Qh2 hst2
    | with_reducible exact Qh2 hst1
 obtain ⟨rfl,hst⟩:=hcut
 have HS5:=hD hst
 clear hst HS4
 obtain ⟨h0,h1,h2,h3,h4,h5,h6,h7⟩:=HS5.out.one
 go_wp2_with fail
 refine (HSP.out _ HS5.out.bel).mono ?_
 clear h0 h1 h2 h3 h4 h5 h6 h7
 rintro e w6 (⟨-,b1,L1,rfl,hat1,hf1,hb6⟩ | ⟨-,rfl,hb6⟩)
 ·have HS7:=hD ((HS5.out.step hb6).al (.cells #[.slice b1.1 b1.2.1 b1.2.2,.int .i64 (N:Int)] 33))
  have HAT1:=hD (HBT.out _ _ _ _ _ hat1 (bel1 w6 (.cells #[.slice b1.1 b1.2.1 b1.2.2,.int .i64 (N:Int)] 33)))
  have HV1:=hD (heap_alloc_new w6 (.cells #[.slice b1.1 b1.2.1 b1.2.2,.int .i64 (N:Int)] 33))
  clear hb6 hat1
  obtain ⟨h0,h1,h2,h3,h4,h5,h6,h7⟩:=HS7.out.two
  go_wp2_with fail
  refine (HSQ.out _ HS7.out.bel).mono ?_
  clear h0 h1 h2 h3 h4 h5 h6 h7
  rintro e w7 (⟨-,b2,L2,rfl,hat2,hf2,hb7⟩ | ⟨-,rfl,hb7⟩)
  ·have HA1:=hD (HBT.out _ _ _ _ _ (HBT.out _ _ _ _ _ HAT1.out hb7) (bel1 w7 (.cells #[.slice b2.1 b2.2.1 b2.2.2,.int .i64 (N:Int)] 33)))
   have HA2:=hD (HBT.out _ _ _ _ _ hat2 (bel1 w7 (.cells #[.slice b2.1 b2.2.1 b2.2.2,.int .i64 (N:Int)] 33)))
   have HF1:=hD hf1
   have HF2:=hD hf2
   have HS8:=hD ((HS7.out.step hb7).al (.cells #[.slice b2.1 b2.2.1 b2.2.2,.int .i64 (N:Int)] 33))
   have HV2:=hD (heap_alloc_new w7 (.cells #[.slice b2.1 b2.2.1 b2.2.2,.int .i64 (N:Int)] 33))
   have HV1':=hD (show (w7.alloc (.cells #[.slice b2.1 b2.2.1 b2.2.2,.int .i64 (N:Int)] 33)).heap[w6.heap.size]?=some (.cells #[.slice b1.1 b1.2.1 b1.2.2,.int .i64 (N:Int)] 33) by rw [Below.heap_alloc _ _ _ (by have:=hb7.size;have:=lt_of_block HV1.out;omega),hb7.block _ (lt_of_block HV1.out)];exact HV1.out)
   clear hb7 hat2 hf1 hf2
   go_wp2_with fail
   obtain ⟨w0,hw0⟩:∃ w0,w0=w7.alloc (.cells #[.slice b2.1 b2.2.1 b2.2.2,.int .i64 (N:Int)] 33):=⟨_,rfl⟩
   rw [<- hw0] at HA1 HA2 HS8 HV2 HV1' ⊢
   clear hw0
   have HLD:=hD (⟨HV1'.out,HV2.out,Below.refl _ _,lt_of_block HV1'.out,lt_of_block HV2.out⟩:LdB w0 w6.heap.size w7.heap.size b1 b2 N w0)
   have HTT:=hD (fun W (hs:LdB w0 w6.heap.size w7.heap.size b1 b2 N W)=>HTR.out W b1 b2 L1 L2 (HBT.out _ _ _ _ _ HA1.out hs.bel) (HBT.out _ _ _ _ _ HA2.out hs.bel) HF1.out HF2.out)
   obtain ⟨V1,hV1⟩:∃ V,V=w6.heap.size:=⟨_,rfl⟩
   obtain ⟨V2,hV2⟩:∃ V,V=w7.heap.size:=⟨_,rfl⟩
   rw [<- hV1,<- hV2] at HLD HTT
   rw [<- hV1,<- hV2]
   clear hV1 hV2
   go_cut [13,14] from 75 (fun x y wx=>Qr0 w0 N R x y wx)
   case first =>
    have hs0:=HLD.out.dr
    have hs00:=HLD.out
    go_region_held3 (fun W=>((W.cell? ⟨V1,0,none⟩=some (.slice b1.1 b1.2.1 b1.2.2)/\W.cell? ⟨V1,1,none⟩=some (.int .i64 (N:Int)))/\(W.cell? ⟨V2,0,none⟩=some (.slice b2.1 b2.2.1 b2.2.2)/\W.cell? ⟨V2,1,none⟩=some (.int .i64 (N:Int))))/\LdB w0 V1 V2 b1 b2 N W)
     (first | with_reducible assumption | (with_reducible (refine Qug ?_);repeat (first | with_reducible assumption | with_reducible refine LdB.dr ?_ | (with_reducible refine LdB.put ?_ (by first | assumption | omega | (simp;omega)) _) | with_reducible refine LdB.al ?_ _)))
     (first
      | (go_at_call 64;(with_reducible refine (HTB.out _).mono ?_);rintro e w5 ⟨rfl,rfl⟩)
      | (go_at_call 63;(with_reducible refine (HTT.out _ ?_).mono ?_);exact LdB.self (by repeat (first | with_reducible assumption | with_reducible refine LdB.dr ?_ | (with_reducible refine LdB.put ?_ (by first | assumption | omega | (simp;omega)) _) | with_reducible refine LdB.al ?_ _));rintro e w8 ⟨g8,rfl,hr8,hb8⟩;obtain ⟨hc8,hf8⟩:=bcell2 hb8;have hz8:=hb8.size;have hst8:LdB w0 V1 V2 b1 b2 N w8:=LdB.step (by repeat (first | with_reducible assumption | with_reducible refine LdB.dr ?_ | (with_reducible refine LdB.put ?_ (by first | assumption | omega | (simp;omega)) _) | with_reducible refine LdB.al ?_ _)) hb8;have hpv8:=LdB.prev (w0:=w0) (V1:=V1) (V2:=V2) (b1:=b1) (b2:=b2) (N:=N) (by repeat (first | with_reducible assumption | with_reducible refine LdB.dr ?_ | (with_reducible refine LdB.put ?_ (by first | assumption | omega | (simp;omega)) _) | with_reducible refine LdB.al ?_ _)) hb8;have HB8:=hD hb8;have HR8:=hD hr8;have HPV8:=hD hpv8;clear hb8 hr8 hpv8))
    all_goals
     go_wp2
     go_meet
     first
      | with_reducible exact Qnp HPV8.out HR8.out hst8
      | (with_reducible exact QdP HPV8.out (Nat.le_refl _) (Qa5 _ _) (Qqj HB8.out) HR8.out hst8)
      | (with_reducible exact QdP HPV8.out (Nat.le_refl _) (Qa6 _ _) (Qqk HB8.out) HR8.out hst8)
      | (with_reducible exact QdP HPV8.out (Qtg _) (Qa5 _ _) (Qqj HB8.out) HR8.out hst8)
      | (with_reducible exact QdP HPV8.out (Qtg _) (Qa6 _ _) (Qqk HB8.out) HR8.out hst8)
   obtain ⟨V,g8,rfl,hV,hr,hb,rfl⟩:=hcut
   have HS9:=hD (HS8.out.step hb)
   have HR9:=hD hr
   have HW0:=hD HS8.out.sz
   obtain ⟨hv0,hv1,hvf⟩:=Qaj hV
   clear hr hb hV
   go_wp2_with fail
   refine (QbJ _ _ _ _ _).mono ?_
   rintro e w10 ⟨rfl,hb10⟩
   have HS10:=hD (HS9.out.step hb10)
   have HR10:=hD (HR9.out.below hb10)
   clear hb10 hv0 hv1 hvf
   have HRE:=hD (Qad HS10.out.res (.int .i64 1) (.slice (some ⟨g8,0,none⟩) ((N+63) / 64) ((N+63) / 64)) (.int .i64 (N:Int)) vnil vnil vnil vnil vnil)
   have HBE:=hD (Qac HS10.out.bel (Nat.le_add_right _ 2) (.int .i64 1) (.slice (some ⟨g8,0,none⟩) ((N+63) / 64) ((N+63) / 64)) (.int .i64 (N:Int)) vnil vnil vnil vnil vnil)
   have HKE:Hid (Keeps H (set8 w10 (w.heap.size+2) (.int .i64 1) (.slice (some ⟨g8,0,none⟩) ((N+63) / 64) ((N+63) / 64)) (.int .i64 (N:Int)) vnil vnil vnil vnil vnil) (NumV (vecW 1 (some ⟨g8,0,none⟩,(N+63) / 64,(N+63) / 64) (N:Int) (none,0,0) (none,0,0) (none,0,0) (none,0,0) (none,0,0)) 1 N (fun c=>Qai (R c)))):=by
    have h1:Keeps (fun j=>H j\/j=w.heap.size+2) w10 (fun W=>Reads1 W (.slice (some ⟨g8,0,none⟩) ((N+63) / 64) ((N+63) / 64)) ((List.range ((N+63) / 64)).map fun j => .int .u64 (packW R N j:Nat))) :=
     Own1.keepsH HR10.out (fun j e=>by
      have h2:=HW0.out
      rcases e with e | e
      ·have:=HH.out j e;omega
      ·omega)
    refine ((h1.imp fun W' h=>QbV (by have:=HNB.out;omega) ⟨_,rfl,⟨g8,0,_,rfl,fun j hj=>?_⟩⟩).set8 (.inr rfl) _ _ _ _ _ _ _ _).sub fun _ _ e => .inl e
    exact Qbh h j hj
   clear HR9 HR10
   obtain ⟨⟨h0,h1,h2,h3,h4,h5,h6,h7⟩,hz⟩:=Qag HS10.out.res
   go_wp2
   refine bodyPost_ret (v := .tuple #[vecW 1 (some ⟨g8,0,none⟩,(N+63) / 64,(N+63) / 64) (N:Int) (none,0,0) (none,0,0) (none,0,0) (none,0,0) (none,0,0),.int .i64 0]) ?_ rfl (.inr ⟨_,HLN.out,1,(some ⟨g8,0,none⟩,(N+63) / 64,(N+63) / 64),(N:Int),(none,0,0),(none,0,0),(none,0,0),(none,0,0),(none,0,0),rfl,HKE.out,HBE.out⟩)
   exact Qas (fn:=Tryz.f27) (p:=6) (u:=7) rfl _ _ (w.heap.size+2) (by rfl) HRE.out
  ·have HS8:=hD ((HS7.out.step hb7).al (.cells bcells 33))
   clear hb7
   obtain ⟨h0,h1,h2,h3,h4,h5,h6,h7⟩:=HS8.out.one
   obtain ⟨g0,g1,g2,g3,g4,g5,g6,g7⟩:=HS8.out.two
   go_wp2_with fail
   refine (HNU.out _ (fun j=>H j\/j=w.heap.size+2) HS8.out.bel (fun j e=>by
    have h1:=HS8.out.sz
    rcases e with e | e
    ·have:=HH.out j e;omega
    ·omega)).mono ?_
   clear h0 h1 h2 h3 h4 h5 h6 h7 g0 g1 g2 g3 g4 g5 g6 g7
   rintro e w9 ⟨k5,b5,bn5,s5,i5,f5,c5,x5,rfl,hk9,hb9⟩
   have HS9:=hD (HS8.out.step hb9)
   have HKE:=hD hk9
   clear hb9 hk9
   obtain ⟨⟨h0,h1,h2,h3,h4,h5,h6,h7⟩,hz⟩:=Qag HS9.out.res
   go_wp2
   refine bodyPost_ret (v := .tuple #[vecW k5 b5 bn5 s5 i5 f5 c5 x5,.int .i64 0]) ?_ rfl (.inr ⟨_,HLN.out,k5,b5,bn5,s5,i5,f5,c5,x5,rfl,(HKE.out.set8 (.inr rfl) _ _ _ _ _ _ _ _).sub (fun _ _ e => .inl e),Qac HS9.out.bel (Nat.le_add_right _ 2) _ _ _ _ _ _ _ _⟩)
   exact Qas (fn:=Tryz.f27) (p:=6) (u:=7) rfl _ _ (w.heap.size+2) (by rfl) (Qad HS9.out.res _ _ _ _ _ _ _ _)
 ·have HS7:=hD ((HS5.out.step hb6).al (.cells bcells 33))
  clear hb6
  obtain ⟨h0,h1,h2,h3,h4,h5,h6,h7⟩:=HS7.out.two
  go_wp2_with fail
  refine (HSQ.out _ HS7.out.bel).mono ?_
  clear h0 h1 h2 h3 h4 h5 h6 h7
  rintro e w7 (⟨-,b2,L2,rfl,hat2,hf2,hb7⟩ | ⟨-,rfl,hb7⟩)
  ·have HS8:=hD ((HS7.out.step hb7).al (.cells #[.slice b2.1 b2.2.1 b2.2.2,.int .i64 (N:Int)] 33))
   clear hb7 hat2 hf2
   obtain ⟨h0,h1,h2,h3,h4,h5,h6,h7⟩:=HS8.out.one
   obtain ⟨g0,g1,g2,g3,g4,g5,g6,g7⟩:=HS8.out.two
   go_wp2_with fail
   refine (HNU.out _ (fun j=>H j\/j=w.heap.size+2) HS8.out.bel (fun j e=>by
    have h1:=HS8.out.sz
    rcases e with e | e
    ·have:=HH.out j e;omega
    ·omega)).mono ?_
   clear h0 h1 h2 h3 h4 h5 h6 h7 g0 g1 g2 g3 g4 g5 g6 g7
   rintro e w9 ⟨k5,b5,bn5,s5,i5,f5,c5,x5,rfl,hk9,hb9⟩
   have HS9:=hD (HS8.out.step hb9)
   have HKE:=hD hk9
   clear hb9 hk9
   obtain ⟨⟨h0,h1,h2,h3,h4,h5,h6,h7⟩,hz⟩:=Qag HS9.out.res
   go_wp2
   refine bodyPost_ret (v := .tuple #[vecW k5 b5 bn5 s5 i5 f5 c5 x5,.int .i64 0]) ?_ rfl (.inr ⟨_,HLN.out,k5,b5,bn5,s5,i5,f5,c5,x5,rfl,(HKE.out.set8 (.inr rfl) _ _ _ _ _ _ _ _).sub (fun _ _ e => .inl e),Qac HS9.out.bel (Nat.le_add_right _ 2) _ _ _ _ _ _ _ _⟩)
   exact Qas (fn:=Tryz.f27) (p:=6) (u:=7) rfl _ _ (w.heap.size+2) (by rfl) (Qad HS9.out.res _ _ _ _ _ _ _ _)
  ·have HS8:=hD ((HS7.out.step hb7).al (.cells bcells 33))
   clear hb7
   obtain ⟨h0,h1,h2,h3,h4,h5,h6,h7⟩:=HS8.out.one
   obtain ⟨g0,g1,g2,g3,g4,g5,g6,g7⟩:=HS8.out.two
   go_wp2_with fail
   refine (HNU.out _ (fun j=>H j\/j=w.heap.size+2) HS8.out.bel (fun j e=>by
    have h1:=HS8.out.sz
    rcases e with e | e
    ·have:=HH.out j e;omega
    ·omega)).mono ?_
   clear h0 h1 h2 h3 h4 h5 h6 h7 g0 g1 g2 g3 g4 g5 g6 g7
   rintro e w9 ⟨k5,b5,bn5,s5,i5,f5,c5,x5,rfl,hk9,hb9⟩
   have HS9:=hD (HS8.out.step hb9)
   have HKE:=hD hk9
   clear hb9 hk9
   obtain ⟨⟨h0,h1,h2,h3,h4,h5,h6,h7⟩,hz⟩:=Qag HS9.out.res
   go_wp2
   refine bodyPost_ret (v := .tuple #[vecW k5 b5 bn5 s5 i5 f5 c5 x5,.int .i64 0]) ?_ rfl (.inr ⟨_,HLN.out,k5,b5,bn5,s5,i5,f5,c5,x5,rfl,(HKE.out.set8 (.inr rfl) _ _ _ _ _ _ _ _).sub (fun _ _ e => .inl e),Qac HS9.out.bel (Nat.le_add_right _ 2) _ _ _ _ _ _ _ _⟩)
   exact Qas (fn:=Tryz.f27) (p:=6) (u:=7) rfl _ _ (w.heap.size+2) (by rfl) (Qad HS9.out.res _ _ _ _ _ _ _ _)
theorem Qi9 (H:Nat->Prop) (f:Int) (hf:11<=f) (hf2:f<=16) (p q:V8) (m n:Nat) (F G:Nat->Nat) (R:Nat->Bool) (w:World) (N:Nat) (hH:∀ b,H b->b < w.heap.size) (hL:lenP m n=some N) (hNb:N<=1000000)
  (hSP:∀ W,Below w.heap.size w W->Calls Tryz.prog 62 #[p.v,.int .i64 (N:Int)] W (Qi1 p.k m N F W))
  (hSQ:∀ W,Below w.heap.size w W->Calls Tryz.prog 62 #[q.v,.int .i64 (N:Int)] W (Qi1 q.k n N G W))
  (hNU:∀ (W:World) (H':Nat->Prop),Below w.heap.size w W->(∀ b,H' b->b < W.heap.size)->Calls Tryz.prog 65 #[.int .i64 f,.int .i64 (N:Int),p.v,q.v] W (VecR H' W (fun u W'=>NumV u 1 N (fun c=>Qai (R c)) W')))
  (hTR:∀ (W:World) (b1 b2:Sl) (L1 L2:Nat->Bool),BitsAt W b1 N L1->BitsAt W b2 N L2->(∀ j,j < N->F (ixP m j)=Qai (L1 j))->(∀ j,j < N->G (ixP n j)=Qai (L2 j))->Calls Tryz.prog 63 #[.int .u8 ((tabRN f:Nat):Int),.agg #[.slice b1.1 b1.2.1 b1.2.2,.int .i64 (N:Int)],.agg #[.slice b2.1 b2.2.1 b2.2.2,.int .i64 (N:Int)]] W fun e w'=>∃ g,e= .returned (.tuple #[.agg #[.slice (some ⟨g,0,none⟩) ((N+63) / 64) ((N+63) / 64),.int .i64 (N:Int)],.bool true])/\RowU w' W.heap.size g ((N+63) / 64) (packW R N)/\Below W.heap.size W w')
  (hP:∀ W,Below w.heap.size w W->NumW p.v m F W) (hQ:∀ W,Below w.heap.size w W->NumW q.v n G W) :
  Calls Tryz.prog 27 #[.int .i64 f,p.v,q.v] w (Qft H w R (lenP m n)) :=
 Qgm (BT:=BitsAt) (fun _ _ _ _ _ h hb=>h.below hb) H f hf hf2 p q m n F G R w N hH hL hNb hSP hSQ hNU hTR hP hQ
theorem Qfu {l l':Nat->Bool}{n:Nat} (h:∀ j,j < n->l j=l' j) (i:Nat):packW l n i=packW l' n i:=by
 apply Nat.eq_of_testBit_eq
 intro m
 by_cases hm:m < 64
 ·rw [Qay _ _ _ _ hm,Qay _ _ _ _ hm]
  by_cases hj:64*i+m < n
  ·rw [h _ hj]
  ·simp [hj]
 ·rw [Qa0 _ _ _ _ hm,Qa0 _ _ _ _ hm]
theorem Qnr {m n N:Nat} (h:lenP m n=some N):(m=N\/m=1)/\(n=N\/n=1):=by
 unfold lenP at h
 split at h
 ·injection h with h;omega
 ·split at h
  ·injection h with h;omega
  ·split at h
   ·injection h with h;omega
   ·cases h
theorem Qk8 (H:Nat->Prop) (f:Int) (hf:11<=f) (hf2:f<=16) (p q:V8) (m n:Nat) (F G:Nat->Nat) (w:World) (hH:∀ b,H b->b < w.heap.size) (hm:m<=1000000) (hn:n<=1000000)
  (hP:∀ W,Below w.heap.size w W->NumV p.v p.k m F W) (hQ:∀ W,Below w.heap.size w W->NumV q.v q.k n G W) :
  Calls Tryz.prog 27 #[.int .i64 f,p.v,q.v] w (Qft H w (fun c=>relB f (F (ixP m c)) (G (ixP n c))) (lenP m n)):=by
 have hP':∀ W,Below w.heap.size w W->NumW p.v m F W:=fun W hb=>(hP W hb).numW
 have hQ':∀ W,Below w.heap.size w W->NumW q.v n G W:=fun W hb=>(hQ W hb).numW
 have hFt:=(hP w (Below.refl _ _)).tf
 have hGt:=(hQ w (Below.refl _ _)).tf
 cases hL:lenP m n with
 | none =>
  rw [<- hL]
  exact Qi8 H f hf hf2 p q m n F G _ w hL hP' hQ'
 | some N =>
  rw [<- hL]
  have hNb:=Qfb hL hm hn
  obtain ⟨o1,o2⟩:=Qnr hL
  refine Qi9 H f hf hf2 p q m n F G _ w N hH hL hNb (fun W hb=>Qee p.k p.b p.bn p.s p.i p.f p.c p.x m N F W hNb o1 (hP W hb)) (fun W hb=>Qee q.k q.b q.bn q.s q.i q.f q.c q.x n N G W hNb o2 (hQ W hb)) (fun W H' hb hH'=>?_) (fun W b1 b2 L1 L2 h1 h2 e1 e2=>?_) hP' hQ'
  ·refine Qeq H' f _ p q m n N F G W hH' hL hm hn (fun W' hb'=>hP' W' (Qaa hb hb')) (fun W' hb'=>hQ' W' (Qaa hb hb')) (fun c hc W'=>?_)
   obtain ⟨h1,h2⟩:=Qf2 hL hc
   exact Qd3 f hf hf2 _ _ (hFt _ h1) (hGt _ h2) W'
  ·obtain ⟨g1,o1,c1,rfl,hc1⟩:=h1
   obtain ⟨g2,o2,c2,rfl,hc2⟩:=h2
   refine (QkY (tabRN f) (Qg0 f) g1 o1 c1 g2 o2 c2 N L1 L2 W (by omega) hc1 hc2).mono ?_
   rintro e w' ⟨g,rfl,hr,hb⟩
   refine ⟨g,rfl,hr.same fun j _=>Qfu (fun i hi=>?_) j,hb⟩
   rw [Qno,e1 i hi,e2 i hi]
def Qh3 (w:World) (E:Int) (e:Ending) (w':World):Prop:=e= .returned (.tuple #[vecV 0 vnil 0 vnil vnil vnil vnil vnil,.int .i64 E])/\Below w.heap.size w w'
theorem Qja (p q:V8) (m n N:Nat) (z1 z2:Int) (w:World) (hL:lenP m n=some N) (hP:ClsV w p z1 m) (hQ:ClsV w q z2 n) :
  (∀ W,St2 w W p q->Calls Tryz.prog 23 #[p.v] W fun e w2=>e= .returned (.int .i64 (m:Nat))/\Below W.heap.size W w2) /\
  (∀ W,St2 w W p q->Calls Tryz.prog 23 #[q.v] W fun e w2=>e= .returned (.int .i64 (n:Nat))/\Below W.heap.size W w2) /\
  (∀ W,Calls Tryz.prog 60 #[.int .i64 (m:Int),.int .i64 (n:Int)] W fun e w'=>e= .returned (.tuple #[.int .i64 (N:Nat),.bool true])/\W=w') :=
 ⟨fun W hs=>hP.len W hs.bel,fun W hs=>hQ.len W hs.bel,fun W=>by
  have h:=QcX m n W
  rw [hL] at h
  exact h⟩
theorem P1.dr {w W:World}{h x:Sl}{f:Int} (s:P1 w W h x f):P1 w W.drew h x f:=s.step (Below.refl _ W).drew
def blkA:Nat->PA
 | 0 => .nums [] [0]
 | 1 => .chars [] [32]
 | _ => .boxes [] [.nums [0] []]
noncomputable def firE (a:PA):PA:=if 0 < a.len then Qak a 0 else Qak (blkA a.fill) 0
def PzR (H:Nat->Prop) (w:World) (t:RP) (e:Ending) (w':World):Prop:=∃ h x f,e= .returned (plV h x f)/\PV H w' t h x f/\Below w.heap.size w w'
theorem Qtw {H:Nat->Prop}{w w':World}{t:RP}{h x:Sl}{f:Int} (g:PV H w' t h x f) (hb:Below w.heap.size w w'):PzR H w t (.returned (plV h x f)) w':=⟨h,x,f,rfl,g,hb⟩
theorem QeM {H:Nat->Prop}{w:World}{a:PA}{h x:Sl}{f:Int} (g:PV H w (rawP a) h x f):h.2.1=a.shape.length:=by
 rw [Qcl (rawP a)] at g
 obtain ⟨A9,n9,c9,e9,e8,-⟩:=Qcz g.open_.1.now
 injection e9 with _ e9 _
 rw [e9,e8,QbO,List.length_map]
def Qbm (d:Nat) (r:List Nat):List (List Nat):=(List.range d).map fun j=>r++[j]
def Qdk (most:Nat) (l:List (List Nat)) (d:Nat):List (List Nat):=(l.flatMap (Qbm d)).take most
def allL (s:List Nat) (most:Nat):List (List Nat):=s.foldl (Qdk most) [[]]
theorem Qfv (d:Nat) (r:List Nat):(Qbm d r).length=d:=by simp [Qbm]
def InSh (s r:List Nat):Prop:=r.length=s.length/\∀ k (h:k < r.length) (h2:k < s.length),r[k] < s[k]
theorem Qns {s r:List Nat}{d j:Nat} (h:InSh s r) (hj:j < d):InSh (s++[d]) (r++[j]):=by
 refine ⟨by simp [h.1],fun k h1 h2=>?_⟩
 by_cases hk:k < r.length
 ·have hk2:k < s.length:=by rw [<- h.1];exact hk
  rw [List.getElem_append_left hk,List.getElem_append_left hk2]
  exact h.2 k hk hk2
 ·have e:k=r.length:=by simp at h1;omega
  subst e
  have e2:r.length=s.length:=h.1
  rw [List.getElem_append_right (Nat.le_refl _),List.getElem_append_right (by omega)]
  simpa [e2] using hj
theorem QpV {most:Nat}{s:List Nat}{d:Nat}{l:List (List Nat)} (h:∀ r∈l,InSh s r):∀ r∈Qdk most l d,InSh (s++[d]) r:=by
 intro r hr
 have hr2:=List.mem_of_mem_take hr
 obtain ⟨q,hq,hr3⟩:=List.mem_flatMap.1 hr2
 obtain ⟨j,hj,rfl⟩:=List.mem_map.1 hr3
 exact Qns (h q hq) (List.mem_range.1 hj)
theorem Qnt (most:Nat):∀ (s s0:List Nat) (l:List (List Nat)),(∀ r∈l,InSh s0 r)->∀ r∈s.foldl (Qdk most) l,InSh (s0++s) r
 | [],s0,l,h=>by rw [List.append_nil];exact h
 | d::s,s0,l,h=>by
  have h2:=Qnt most s (s0++[d]) (Qdk most l d) (QpV h)
  rw [List.append_assoc] at h2
  exact h2
theorem Qh4 {s:List Nat}{most:Nat}:∀ r∈allL s most,InSh s r:=by
 have h:=Qnt most s [] [[]] (fun r hr=>by
  rw [List.mem_singleton] at hr
  subst hr
  exact ⟨rfl,fun k h _=>absurd h (Nat.not_lt_zero _)⟩)
 rwa [List.nil_append] at h
theorem QpW (most:Nat) (l:List (List Nat)) (d:Nat):(Qdk most l d).length<=most:=by
 unfold Qdk
 rw [List.length_take]
 omega
abbrev natV (n:Nat):Value := .int .i64 (n:Int)
def OwnI (w:World) (B:Nat) (v:Value) (L:List (List Nat)):Prop :=
 ∃ rows:List Sl,Own1 w B 22 v (rows.map sv)/\rows.length=L.length /\
  ∀ i (h:i < rows.length) (h2:i < L.length),(∃ a,rows[i].1=some a/\rows[i].2.1<=rows[i].2.2)/\Keeps (fun b=>b < B\/v.ownBlock=some b) w (fun W=>Reads1 W (sv rows[i]) (L[i].map natV))
theorem OwnI.nil (w:World) (B:Nat):OwnI w B (.slice none 0 0) []:=⟨[],Own1.nil _ _ _,rfl,fun _ h=>absurd h (Nat.not_lt_zero _)⟩
theorem OwnI.below {w w':World}{B:Nat}{v:Value}{L:List (List Nat)} (g:OwnI w B v L) (hb:Below w.heap.size w w'):OwnI w' B v L:=by
 obtain ⟨rows,h1,h2,h3⟩:=g
 exact ⟨rows,h1.below hb,h2,fun i h h'=>⟨(h3 i h h').1,(h3 i h h').2.step hb⟩⟩
theorem OwnI.len {w:World}{B:Nat}{v:Value}{L:List (List Nat)} (g:OwnI w B v L):∃ A c,v= .slice A L.length c:=by
 obtain ⟨rows,h1,h2,h3⟩:=g
 obtain ⟨A,c,e⟩:=h1.reads.len
 rw [List.length_map,h2] at e
 exact ⟨A,c,e⟩
def RowsI (B:Nat) (w:World) (x:Sl) (L:List (List Nat)):Prop :=
 x.2.1=L.length/\∀ i (hi:i < L.length),∃ b o a n c,x.1=some ⟨b,o,none⟩/\n<=c/\∀ W,Lat (fun b=>b < B) w W->W.cell? ⟨b,o+i,none⟩=some (.slice (some a) n c)/\Reads1 W (.slice (some a) n c) (L[i].map natV)
theorem RowsI.lower {B B':Nat}{w:World}{x:Sl}{L:List (List Nat)} (g:RowsI B w x L) (hB:B'<=B):RowsI B' w x L :=
 ⟨g.1,fun i hi=>by
  obtain ⟨b,o,a,n,c,e,hnc,h⟩:=g.2 i hi
  exact ⟨b,o,a,n,c,e,hnc,fun W hW=>h W ⟨hW.size,fun k hk hn=>hW.block k hk (fun e=>hn (Nat.lt_of_lt_of_le e hB))⟩⟩⟩
theorem OwnI.rows {w:World}{B:Nat}{A:Option Addr}{n c:Nat}{L:List (List Nat)} (g:OwnI w B (.slice A n c) L):RowsI B w (A,n,c) L:=by
 obtain ⟨rows,h1,h2,h3⟩:=g
 have hlt:=World.ownsRow.lt h1
 obtain ⟨A9,n9,c9,e9,hn9,hcell⟩:=Qbc h1.reads
 injection e9 with e1 e2 e3
 subst e1;subst e2;subst e3
 refine ⟨by show n=_;omega,fun i hi=>?_⟩
 have hir:i < rows.length:=by omega
 obtain ⟨b,o,hA,hce⟩:=hcell i hir
 obtain ⟨⟨a,ha,hnc⟩,hk⟩:=h3 i hir hi
 refine ⟨b,o,a,rows[i].2.1,rows[i].2.2,hA,hnc,fun W hW=>?_⟩
 have e:sv rows[i]= .slice (some a) rows[i].2.1 rows[i].2.2:=by show Value.slice rows[i].1 _ _=_;rw [ha]
 have hbb:=hlt b (by rw [hA];rfl)
 rw [<- e]
 refine ⟨?_,hk W hW.size fun k hk9 hn=>hW.block k hk9 (fun e9=>hn (.inl e9))⟩
 rw [World.cell?_of_block (w:=w) (hW.block b hbb.2 (by omega))]
 exact hce
theorem QpX:(Tryz.prog.info? 22).map (fun i=>(i.zero,i.size,i.bytes))=some (some (.slice none 0 0),1,24):=by kernel_rfl
theorem Qer {ops:Array Oper}{rest:List Oper}{o:Oper}{a:Act}{Q:Exit->Act->World->Prop}{w:World} (hgd:o.guard=none) (s x:Operand)
  (ho:o.op= .call { callee := .builtin .append,args:=#[s,x],argTypes:=#[22,22]})
  (B:Nat) (v:Value) (xs:List Value) (hs:a.eval s=v) (hown:Own1 w B 3 v xs) (ad:Addr) (m c:Nat) (ys:List Value) (hx:a.eval x= .slice (some ad) m c)
  (hr:Reads1 w (.slice (some ad) m c) ys) (h1:∀ u∈ys,u.oneCell'=true) (hl:xs.length+m<=4194304) (hB:B<=w.heap.size)
  (h:∀ v' w',Own1 w' B 3 v' (xs++ys)->(∀ w0,Below B w0 w->Below B w0 w')->wpList Tryz.prog ops Q rest (a.put o.dst v') w'):wpList Tryz.prog ops Q (o::rest) a w:=by
 obtain ⟨i0,hi0,hz0,hz1,hz2⟩:=info_parts Qbu
 have hm:ys.length=m:=by
  obtain ⟨A9,c9,e9⟩:=hr.len
  injection e9 with _ e9 _
  exact e9.symm
 refine wpList_append_own_at _ hgd s x 22 ho B 3 i0 (.int .i64 0) 1 8 Tryz.underlying22 hi0 hz0 hz1 hz2 rfl (by omega) v xs.length _ hs
  hown ad m c ys hx (by rw [hm,Nat.mul_one]) ?_ h1 (by unfold maxLen;omega) (by omega) hB ?_
 ·intro j u hj
  obtain ⟨hlt,rfl⟩:=List.getElem?_eq_some_iff.1 hj
  rcases hr with ⟨a9,c9,e,h0⟩ | ⟨b,f,n,c9,e,hn,hc⟩
  ·subst h0;exact absurd hlt (Nat.not_lt_zero _)
  ·injection e with e1 e2 e3
   injection e1 with e1
   subst e1
   rw [<- hc j hlt]
   unfold Addr.add;split
   ·rename_i h0;subst h0;rfl
   ·rfl
 intro v' w' hown' hg _ _
 have hlow:=World.ownsRow.lt hown
 refine h v' w' ?_ ?_
 ·unfold Own1
  rw [List.length_append,hm]
  exact hown'
 ·intro w0 hb
  exact hb.grown hg hB fun k hk=>(hlow k hk).1
theorem Qh5 {ops:Array Oper}{rest:List Oper}{o:Oper}{a:Act}{Q:Exit->Act->World->Prop}{w:World} (hgd:o.guard=none) (s x:Operand)
  (ho:o.op= .call { callee := .builtin .append,args:=#[s,x],argTypes:=#[142,142]})
  (B:Nat) (v:Value) (L:List (List Nat)) (hs:a.eval s=v) (hown:OwnI w B v L) (ad:Addr) (n c:Nat) (hnc:n<=c) (r:List Nat) (hk:Keeps (fun b=>b < B\/v.ownBlock=some b) w (fun W=>Reads1 W (.slice (some ad) n c) (r.map natV)))
  (G:Nat) (hG:G=w.heap.size) (hx:a.eval x= .slice (some ⟨G,0,none⟩) 1 1) (hl:L.length<=4194303) (hB:B<=w.heap.size)
  (h:∀ v' w',OwnI w' B v' (L++[r])->(∀ w0,Below B w0 w->Below B w0 w')->wpList Tryz.prog ops Q rest (a.put o.dst v') w'):wpList Tryz.prog ops Q (o::rest) a (w.alloc (.cells #[.slice (some ad) n c] 22)):=by
 subst hG
 obtain ⟨rows,h1,h2,h3⟩:=hown
 obtain ⟨i0,hi0,hz0,hz1,hz2⟩:=info_parts QpX
 refine wpList_append_own_at _ hgd s x 142 ho B 22 i0 _ 1 24 Tryz.underlying142 hi0 hz0 hz1 hz2 rfl (by omega) v (rows.map sv).length _ hs
  (World.ownsRow.alloc h1 _) ⟨w.heap.size,0,none⟩ 1 1 [.slice (some ad) n c] hx rfl (cell_one_new w _ _) (by simp [Value.oneCell']) (by unfold maxLen;rw [List.length_map];omega) (by rw [List.length_map];omega) (by simp;omega) ?_
 intro v' w' hown' hg _ hat
 have hsz:w.heap.size+1<=w'.heap.size:=by have:=hg.size;simpa using this
 have hlow:=World.ownsRow.lt h1
 have keep:∀ b,b < w.heap.size->v.ownBlock≠some b->w'.heap[b]?=w.heap[b]?:=fun b hlt hb=>by
  rw [hg.block b (by simp;omega) (fun e=>hb e.symm)]
  exact (bel1 w _).block b hlt
 have up:∀ {R:World->Prop},Keeps (fun b=>b < B\/v.ownBlock=some b) w R->Keeps (fun b=>b < B\/v'.ownBlock=some b) w' R:=fun {R} hR W hz hb=>by
  refine hR W (by omega) fun b hlt hne=>?_
  rw [hb b (by omega) ?_,keep b hlt (fun e=>hne (.inr e))]
  rintro (e0 | e0)
  ·exact hne (.inl e0)
  rcases hat with e | e
  ·rw [e] at e0;exact hne (.inr e0)
  ·rw [e] at e0
   injection e0 with e2
   simp at e2
   omega
 refine h v' w' ⟨rows++[(some ad,n,c)],?_,by simp [h2],fun i hi hi2=>?_⟩ (fun w0 hb=>(hb.alloc hB _).grown hg (by simp;omega) fun k hk=>(hlow k hk).1)
 ·unfold Own1
  rw [List.map_append,List.length_append]
  exact hown'
 ·by_cases hir:i < rows.length
  ·have hiL:i < L.length:=by omega
   rw [List.getElem_append_left hir,List.getElem_append_left hiL]
   exact ⟨(h3 i hir hiL).1,up (h3 i hir hiL).2⟩
  ·have e:i=rows.length:=by simp at hi;omega
   subst e
   rw [List.getElem_append_right (Nat.le_refl _),List.getElem_append_right (by omega)]
   simp only [h2,Nat.sub_self,List.getElem_cons_zero]
   exact ⟨⟨ad,rfl,hnc⟩,up hk⟩
def allP (s:List Nat) (most i:Nat):List (List Nat):=(s.take i).foldl (Qdk most) [[]]
theorem Qnu {s:List Nat}{most i:Nat} (h:i < s.length):allP s most (i+1)=Qdk most (allP s most i) s[i]:=by
 unfold allP
 rw [List.take_succ_eq_append_getElem h,List.foldl_append]
 rfl
theorem Qr1 {s:List Nat}{most i:Nat}:∀ r∈allP s most i,r.length<=i:=fun r hr=>by
 have h:=(Qh4 (s:=s.take i) (most:=most) r hr).1
 rw [List.length_take] at h
 omega
theorem Qr2 {s:List Nat}{most i:Nat}:(allP s most i).length<=most+1:=by
 unfold allP
 rcases List.eq_nil_or_concat (s.take i) with h | ⟨t,d,h⟩
 ·rw [h];show 1<=_;omega
 ·rw [h,List.concat_eq_append,List.foldl_append]
  have h2:=QpW most (t.foldl (Qdk most) [[]]) d
  show (Qdk most _ d).length<=_
  omega
def midL (most d:Nat) (l:List (List Nat)) (k:Nat):List (List Nat):=((l.take k).flatMap (Qbm d)).take most
theorem Qfw (most d:Nat) (l:List (List Nat)):midL most d l 0=[]:=by simp [midL]
theorem Qke {most d:Nat}{l:List (List Nat)}{k:Nat} (h:k=l.length\/most<=(midL most d l k).length):midL most d l k=Qdk most l d:=by
 rcases h with h | h
 ·subst h;unfold midL Qdk;rw [List.take_length]
 ·unfold midL Qdk at *
  rw [List.length_take] at h
  have e:l.flatMap (Qbm d)=(l.take k).flatMap (Qbm d)++(l.drop k).flatMap (Qbm d):=by rw [<- List.flatMap_append,List.take_append_drop]
  rw [e,List.take_append_of_le_length (by omega)]
theorem Qnv {most d:Nat}{l:List (List Nat)}{k:Nat} (h:(midL most d l k).length < most):midL most d l k=(l.take k).flatMap (Qbm d):=by
 unfold midL at *
 rw [List.length_take] at h
 exact List.take_of_length_le (by omega)
theorem Qnw {most d:Nat}{l:List (List Nat)}{k j:Nat} (hk:k < l.length) (h:(midL most d l k).length < most) (hj:j<=d) (hl:(midL most d l k++(Qbm d l[k]).take j).length<=most)
  (he:j=d\/most<=(midL most d l k++(Qbm d l[k]).take j).length):midL most d l k++(Qbm d l[k]).take j=midL most d l (k+1):=by
 have hx:=Qnv h
 generalize midL most d l k=X at *
 unfold midL
 rw [List.take_succ_eq_append_getElem hk,List.flatMap_append,<- hx,List.flatMap_cons,List.flatMap_nil,List.append_nil]
 have e:X++Qbm d l[k]=(X++(Qbm d l[k]).take j)++(Qbm d l[k]).drop j:=by rw [List.append_assoc,List.take_append_drop]
 rw [e]
 rcases he with he | he
 ·subst he
  have e2:(Qbm j l[k]).drop j=[]:=List.drop_of_length_le (by rw [Qfv];exact Nat.le_refl _)
  rw [e2,List.append_nil,List.take_of_length_le hl]
 ·rw [List.take_append_of_le_length (by omega),List.take_of_length_le hl]
theorem Qk9 {d j:Nat}{r:List Nat} (hj:j < d):(Qbm d r).take j++[r++[j]]=(Qbm d r).take (j+1):=by
 have h:j < (Qbm d r).length:=by rw [Qfv];exact hj
 rw [List.take_succ_eq_append_getElem h]
 simp [Qbm]
theorem Qnx {r:List Nat}:∀ u∈r.map natV,u.oneCell'=true:=fun u hu=>by
 obtain ⟨z,_,rfl⟩:=List.mem_map.1 hu
 rfl
theorem Qkf {e:TypeId}{w:World}{B:Nat}{v:Value}{xs:List Value}{r:List Nat} (h:Own1 w B e v xs) (hl:xs.length=r.length+1):∃ g c,v= .slice (some ⟨g,0,none⟩) (r.length+1) c/\r.length+1<=c:=by
 rcases h.2 with ⟨_,h0⟩ | ⟨g,cap,cur,hv,_,_,hle,_⟩
 ·omega
 ·rw [hl] at hv
  exact ⟨g,cap,hv,by omega⟩
theorem QpY {w2:World}{B:Nat}{v v2:Value}{r:List Nat}{j:Nat} (h:Own1 w2 B 3 v2 (r.map natV++[.int .i64 (j:Int)])) (hB:∀ b,v.ownBlock=some b->b < B){lo:Nat} (hlo:lo<=B):Keeps (fun b=>b < lo\/v.ownBlock=some b) w2 (fun W=>Reads1 W v2 ((r++[j]).map natV)):=by
 rw [List.map_append]
 exact Own1.keepsH h (fun b e=>by
  rcases e with e | e
  ·exact Nat.lt_of_lt_of_le e hlo
  ·exact hB b e)
theorem QpZ (h:Sl) (s:List Nat) (most:Nat) (W:World) (hs:Reads1 W (sv h) (s.map natV)) (hs8:s.length<=8) (hm:most<=1048576) :
  Calls Tryz.prog 125 #[sv h,.int .i64 (most:Int)] W (fun e w'=>∃ A n c,e= .returned (.slice A n c)/\RowsI W.heap.size w' (A,n,c) (allL s most)/\Below W.heap.size W w'):=by
 obtain ⟨A0,n0,c0,he0,hn0,hcell⟩:=Qbc hs
 obtain ⟨hA,hn,hc⟩:=h
 injection he0 with e1 e2 e3
 subst e1;subst e2;subst e3
 dsimp only at hn0 hcell
 have HN:=hD hn0
 have HCE:=hD hcell
 have hn8:hn<=8:=by omega
 have HP0:Hid (allP s most 0=[[]]):=rfl
 have HPN:Hid (allP s most hn=allL s most):=by unfold Hid allP allL;rw [hn0,List.take_length]
 have HPS:Hid (∀ i (h:i < s.length),allP s most (i+1)=Qdk most (allP s most i) s[i]):=fun i h=>Qnu h
 have HPI:Hid (∀ i,∀ r∈allP s most i,r.length<=i):=fun i=>Qr1
 have HPL:Hid (∀ i,(allP s most i).length<=most+1):=fun i=>Qr2
 obtain ⟨W1,hW1⟩:∃ W1,W1=(W.alloc (.cells #[] 3)).alloc (.cells #[.slice (some ⟨W.heap.size,0,none⟩) 0 0] 22):=⟨_,rfl⟩
 have HW1:=hD hW1
 have HR0:Hid (RowsI W.heap.size W1 (some ⟨W.heap.size+1,0,none⟩,1,1) (allP s most 0)):=by
  refine ⟨rfl,fun i hi=>?_⟩
  have hi0:i=0:=by
   have h1:i < 1:=hi
   omega
  subst hi0
  refine ⟨W.heap.size+1,0,⟨W.heap.size,0,none⟩,0,0,rfl,Nat.le_refl _,fun W' hW'=>⟨?_,.inl ⟨_,_,rfl,rfl⟩⟩⟩
  have h1:=heap_alloc_new (W.alloc (.cells #[] 3)) (.cells #[.slice (some ⟨W.heap.size,0,none⟩) 0 0] 22)
  rw [show (W.alloc (.cells #[] 3)).heap.size=W.heap.size+1 by simp,<- hW1] at h1
  have h2:W'.heap[W.heap.size+1]?=some (.cells #[.slice (some ⟨W.heap.size,0,none⟩) 0 0] 22):=by rw [hW'.block _ (lt_blk h1) (by show ¬ W.heap.size+1 < W.heap.size;omega)];exact h1
  rw [cell_of_row _ (W.heap.size+1) (0+0) _ _ (0,0) h2]
  rfl
 have HB0:Hid (Below W.heap.size W W1):=by unfold Hid;rw [hW1];exact bel2 W _ _
 clear hs hn0 hcell hW1 hs8
 dsimp only [sv]
 go_enter Tryz.func125,Tryz.ntmps125
 go_wp2
 rw [<- HW1.out]
 go_loopw [5,6] (fun lv iv wr=>∃ (i:Nat) (A:Option Addr) (n c:Nat),i<=hn/\iv= .int .i64 (i:Int)/\lv= .slice A n c/\RowsI W.heap.size wr (A,n,c) (allP s most i)/\Below W.heap.size W wr) (fun _ iv _=>hn - (intOf iv).toNat)
 case atStart=>exact ⟨0,_,_,_,Nat.zero_le _,rfl,rfl,HR0.out,HB0.out⟩
 case round =>
  obtain ⟨i,lA,ln,lc,hi,rfl,rfl,hrw,hbl⟩:=hrel
  have HRW:=hD hrw
  have HBL:=hD hbl
  clear hrw hbl HR0 HB0
  by_cases hlt:i < hn
  ·have hlt2:(i:Int) < (hn:Int):=by omega
   have his:i < s.length:=by have:=HN.out;omega
   obtain ⟨b0,o0,hA0,hce⟩:=HCE.out i his
   subst hA0
   obtain ⟨lp,hlp⟩:∃ lp,lp=allP s most i:=⟨_,rfl⟩
   obtain ⟨d,hd⟩:∃ d,d=s[i]:=⟨_,rfl⟩
   have HNX:Hid (allP s most (i+1)=Qdk most lp d):=by unfold Hid;rw [HPS.out i his,hlp,hd]
   have HRI:Hid (∀ r∈lp,r.length<=8):=fun r hr=>by rw [hlp] at hr;have:=HPI.out i r hr;omega
   have hll:lp.length<=most+1:=by rw [hlp];exact HPL.out i
   have hln:ln=lp.length:=by rw [hlp];exact HRW.out.1
   rw [<- hlp] at HRW
   have hcd:W.cell? ⟨b0,o0+i,none⟩=some (.int .i64 (d:Int)):=by rw [hd];exact hce
   have HCD:=hD hcd
   have hlb:ln<=1048577:=by omega
   have HLN:=hD hln
   have HM0:Hid (OwnI wr wr.heap.size (.slice none 0 0) (midL most d lp 0)):=by unfold Hid;rw [Qfw];exact OwnI.nil _ _
   clear hce hd hlp hcd hln hll
   generalize wr=wo at *
   go_wp2
   go_loopw [7,8] (fun nv kv wr=>∃ (k:Nat) (A:Option Addr) (c:Nat),k<=ln/\kv= .int .i64 (k:Int)/\nv= .slice A (midL most d lp k).length c/\OwnI wr wo.heap.size (.slice A (midL most d lp k).length c) (midL most d lp k)/\Below wo.heap.size wo wr) (fun _ kv _=>ln - (intOf kv).toNat)
   case atStart=>exact ⟨0,none,0,Nat.zero_le _,rfl,by rw [Qfw];rfl,by rw [Qfw] at HM0 ⊢;exact HM0.out,Below.refl _ _⟩
   case round =>
    obtain ⟨k,nA,nc,hk,rfl,rfl,hoi,hbm⟩:=hrel
    have HOI:=hD hoi
    have HBM:=hD hbm
    clear hoi hbm HM0
    have hmle:(midL most d lp k).length<=most:=by unfold midL;rw [List.length_take];omega
    by_cases hkn:k < ln
    ·have hkn2:(k:Int) < (ln:Int):=by omega
     by_cases hfull:(midL most d lp k).length < most
     ·have hfi:(((midL most d lp k).length:Nat):Int) < (most:Int):=by omega
      have hkl:k < lp.length:=by have:=HLN.out;omega
      obtain ⟨b2,o2,a2,rn,rc,hlA,-,hrows⟩:=HRW.out.2 k hkl
      have HRR:=hD hrows
      have hla:lA=some ⟨b2,o2,none⟩:=hlA
      subst hla
      obtain ⟨r,hr⟩:∃ r,r=lp[k]:=⟨_,rfl⟩
      have HRL:Hid (r.length<=8):=by unfold Hid;rw [hr];exact HRI.out _ (List.getElem_mem _)
      obtain ⟨X,hX⟩:∃ X,X=midL most d lp k:=⟨_,rfl⟩
      have HNE:Hid (∀ j,j<=d->(X++(Qbm d r).take j).length<=most->(j=d\/most<=(X++(Qbm d r).take j).length)->X++(Qbm d r).take j=midL most d lp (k+1)):=fun j hj h1 h2=>by
       subst hX;subst hr
       exact Qnw hkl hfull hj h1 h2
      rw [<- hX] at HOI hfi hfull hmle ⊢
      rw [<- hr] at HRR
      have HI0:Hid (OwnI wr wo.heap.size (.slice nA (X++(Qbm d r).take 0).length nc) (X++(Qbm d r).take 0)):=by
       unfold Hid
       rw [List.take_zero,List.append_nil]
       exact HOI.out
      have hx0:X.length=(X++(Qbm d r).take 0).length:=by rw [List.take_zero,List.append_nil]
      have HX0:=hD hx0
      have HXL:Hid (∀ j,j<=d->(X++(Qbm d r).take j).length=X.length+j):=fun j hj=>by rw [List.length_append,List.length_take,Qfv];omega
      have HXS:Hid (∀ j,j < d->X++(Qbm d r).take j++[r++[j]]=X++(Qbm d r).take (j+1)):=fun j hj=>by rw [List.append_assoc,Qk9 hj]
      obtain ⟨Y,hY⟩:∃ Y:Nat->List (List Nat),Y=fun j=>X++(Qbm d r).take j:=⟨_,rfl⟩
      have HY:Hid (∀ j,X++(Qbm d r).take j=Y j):=fun j=>by rw [hY]
      simp only [HY.out] at HNE HI0 hx0 HX0 HXL HXS
      clear hr hX hY hlA hrows HOI hx0
      generalize hXL:X.length=xl at *
      clear hXL
      have HXX:Hid (∀ j,j<=d->(Y j).length=xl+j):=HXL.out
      generalize wr=wm at *
      go_wp2
      go_loopw [7,9] (fun nv jv wr=>∃ (j:Nat) (A:Option Addr) (c:Nat),j<=d/\xl+j<=most/\jv= .int .i64 (j:Int)/\nv= .slice A (xl+j) c/\OwnI wr wo.heap.size (.slice A (xl+j) c) (Y j)/\Below wo.heap.size wo wr) (fun _ jv _=>d - (intOf jv).toNat)
      case atStart=>exact ⟨0,_,_,Nat.zero_le _,by omega,rfl,rfl,by have h:=HI0.out;rw [<- HX0.out] at h;exact h,HBM.out⟩
      case round =>
       obtain ⟨j,yA,yc,hj,hjm,rfl,rfl,hoj,hbj⟩:=hrel
       have HOJ:=hD hoj
       have HBJ:=hD hbj
       clear hoj hbj HI0
       have cd:=QaB (Qaa HBL.out HBJ.out) HCD.out
       have hsz:wo.heap.size<=wr.heap.size:=HBJ.out.size
       by_cases hjd:j < d
       ·have hjd2:(j:Int) < (d:Int):=by omega
        by_cases hym:xl+j < most
        ·have hym2:((xl:Int)+(j:Int)) < (most:Int):=by omega
         have hym3:(((xl+j:Nat)):Int) < (most:Int):=by omega
         have HE0:Hid (Own1 (wr.alloc (.cells #[] 3)) wr.heap.size 3 (.slice (some ⟨wr.heap.size,0,none⟩) 0 0) []):=World.ownsRow_lit (base:=wr.heap.size) (e:=3) (size:=1) wr #[] 0 (Nat.le_refl _) (by decide) rfl
         have HBA:=hD (bel1 wr (.cells #[] 3))
         have HRA:=hD (HRR.out _ (Lat.below (Qaa HBJ.out HBA.out)))
         obtain ⟨rcell,-⟩:=HRR.out _ (Lat.below (Qaa HBJ.out HBA.out))
         have HRM:Hid (rn=r.length):=by
          obtain ⟨A9,c9,e9⟩:=HRA.out.2.len
          rw [List.length_map] at e9
          injection e9 with _ e9 _
         have HOB:Hid (∀ b,(Value.slice yA (xl+j) yc).ownBlock=some b->b < wr.heap.size):=fun b e=>by
          obtain ⟨rows,q1,q2,q3⟩:=HOJ.out
          exact (World.ownsRow.lt q1 b e).2
         have HXJ:=hD (HXS.out j hjd)
         have HXN:=hD (HXX.out (j+1) hjd)
         have HXO:=hD (HXX.out j hj)
         have HL1:Hid (((r.map natV).length+1)*8<=140737488355328):=by unfold Hid;rw [List.length_map];have:=HRL.out;omega
         have HL2:Hid ((r.map natV).length+1<=140737488355328):=by unfold Hid;rw [List.length_map];have:=HRL.out;omega
         have HL3:Hid (([]:List Value).length+rn<=4194304):=by unfold Hid;rw [HRM.out];have:=HRL.out;simp;omega
         have HL4:Hid ((Y j).length<=4194303):=by unfold Hid;rw [HXO.out];omega
         have hw0:wr.heap.size<=(wr.alloc (.cells #[] 3)).heap.size:=by simp
         go_wp2_with (first
          | (at_builtin;refine Qer rfl (.tmp 45) (.tmp 49) rfl wr.heap.size (.slice (some ⟨wr.heap.size,0,none⟩) 0 0) [] rfl HE0.out a2 rn rc (r.map natV) rfl HRA.out.2 Qnx HL3.out hw0 ?_;intro v1 w1 ho1 hb1;have HO1:=hD ho1;rw [List.nil_append] at HO1;have HB1:=hD (hb1 wr HBA.out);have hs1:wr.heap.size<=w1.heap.size:=HB1.out.size;clear ho1 hb1)
          | (at_builtin;refine QaW rfl (.tmp 50) (.tmp 52) 22 3 rfl Tryz.underlying22 (.int .i64 0) 8 Qbu rfl wr.heap.size v1 (r.map natV) rfl HO1.out (.int .i64 (j:Int)) rfl w1.heap.size rfl rfl HL1.out HL2.out hs1 ?_;intro v2 w2 ho2 hb2;have HB2:=hD (hb2 wr HB1.out);(obtain ⟨g2,c2,hv2,hle2⟩:∃ g c,v2= .slice (some ⟨g,0,none⟩) (r.length+1) c/\r.length+1<=c:=Qkf ho2 (by simp));subst hv2;have HLE2:=hD hle2;clear hle2;have HK2:=hD (QpY (r:=r) (j:=j) ho2 HOB.out hsz);have HOW:=hD (HOJ.out.below HB2.out);have hs2:wo.heap.size<=w2.heap.size:=Nat.le_trans hsz HB2.out.size;clear ho2 hb2)
          | (at_builtin;refine Qh5 rfl (.tmp 44) (.tmp 54) rfl wo.heap.size (.slice yA (xl+j) yc) (Y j) rfl HOW.out ⟨g2,0,none⟩ (r.length+1) c2 HLE2.out (r++[j]) HK2.out w2.heap.size rfl rfl HL4.out hs2 ?_;intro v3 w3 ho3 hb3;(obtain ⟨A3,c3,hv3⟩:=ho3.len);rw [HXJ.out,HXN.out] at hv3;subst hv3;rw [HXJ.out] at ho3;have HO3:=hD ho3;have HB3:=hD (hb3 wo (Qaa HBJ.out HB2.out));clear ho3 hb3))
         go_roundw
         case rel=>exact ⟨j+1,_,_,hjd,by omega,by go_num,rfl,HO3.out,HB3.out⟩
         case measure=>simp [intOf];omega
        ·have hym2:¬ ((xl:Int)+(j:Int)) < (most:Int):=by omega
         have hym3:¬ (((xl+j:Nat)):Int) < (most:Int):=by omega
         have HNY:=hD (HNE.out j hj (by rw [HXX.out j hj];omega) (.inr (by rw [HXX.out j hj];omega)))
         have HLY:=hD (HXX.out j hj)
         rw [HNY.out] at HLY
         have hoj2:=HOJ.out
         rw [HNY.out,<- HLY.out] at hoj2
         have HOK:=hD hoj2
         clear hoj2
         go_wp2
         go_roundw
         case rel=>exact ⟨k+1,_,_,by omega,by go_num,by rw [HLY.out],HOK.out,HBJ.out⟩
         case measure=>simp [intOf];omega
       ·have hjd2:¬ (j:Int) < (d:Int):=by omega
        have HNY:=hD (HNE.out j hj (by rw [HXX.out j hj];omega) (.inl (by omega)))
        have HLY:=hD (HXX.out j hj)
        rw [HNY.out] at HLY
        have hoj2:=HOJ.out
        rw [HNY.out,<- HLY.out] at hoj2
        have HOK:=hD hoj2
        clear hoj2
        go_wp2
        go_roundw
        case rel=>exact ⟨k+1,_,_,by omega,by go_num,by rw [HLY.out],HOK.out,HBJ.out⟩
        case measure=>simp [intOf];omega
     ·have hfi:¬ (((midL most d lp k).length:Nat):Int) < (most:Int):=by omega
      have HAL:Hid (midL most d lp k=allP s most (i+1)):=by unfold Hid;rw [HNX.out];exact Qke (.inr (by omega))
      have HRO:Hid (RowsI W.heap.size wr (nA,(midL most d lp k).length,nc) (allP s most (i+1))):=by unfold Hid;rw [<- HAL.out];exact HOI.out.rows.lower HBL.out.size
      clear HOI
      go_wp2
      go_roundw
      case rel=>exact ⟨i+1,_,_,_,by omega,by go_num,rfl,HRO.out,Qaa HBL.out HBM.out⟩
      case measure=>simp [intOf];omega
    ·have hkn2:¬ (k:Int) < (ln:Int):=by omega
     have HAL:Hid (midL most d lp k=allP s most (i+1)):=by unfold Hid;rw [HNX.out];exact Qke (.inl (by have:=HLN.out;omega))
     have HRO:Hid (RowsI W.heap.size wr (nA,(midL most d lp k).length,nc) (allP s most (i+1))):=by unfold Hid;rw [<- HAL.out];exact HOI.out.rows.lower HBL.out.size
     clear HOI
     go_wp2
     go_roundw
     case rel=>exact ⟨i+1,_,_,_,by omega,by go_num,rfl,HRO.out,Qaa HBL.out HBM.out⟩
     case measure=>simp [intOf];omega
  ·have hge:¬ (i:Int) < (hn:Int):=by omega
   obtain rfl:i=hn:=by omega
   have HFI:=HRW
   rw [HPN.out] at HFI
   go_wp2
   go_ret
   exact ⟨_,_,_,rfl,HFI.out,HBL.out⟩
end Go.Proofs.YtdelgpelkfndeaaGreatDoor
