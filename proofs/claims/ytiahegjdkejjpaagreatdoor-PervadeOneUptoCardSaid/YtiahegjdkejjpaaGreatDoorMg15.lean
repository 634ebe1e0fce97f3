/- The walk of arith.Apply at numbers in any stores. The walks of relate.spread and relate.at, of vec.Bits. The walk of .. Conditions: as each theorem says. -/
import Derived.Test.YtiahegjdkejjpaaGreatDoorMg14
import Derived.Test.YtiahegjdkejjpaaGreatDoorMg11
import Derived.Test.YtiahegjdkejjpaaGreatDoorMg13
import Derived.Test.YtiahegjdkejjpaaGreatDoorMg10
import Derived.Deep.CutBlock
set_option maxRecDepth 100000
set_option maxHeartbeats 4000000
namespace Go.Proofs.YtiahegjdkejjpaaGreatDoor
open Go Go.RowKit Go.Proofs Fl
def Ap2Out (H:Nat->Prop) (w:World) (R:Nat->Nat×Int) (r:Option Nat) (e:Ending) (w':World):Prop :=
 (r=none/\e= .returned (.tuple #[vecV 0 vnil 0 vnil vnil vnil vnil vnil,.int .i64 23])/\Below w.heap.size w w')\/(∃ N,r=some N/\ArOut H w R N e w')
theorem st2_s {w W:World}{p q:V8} (h:St2 w W p q):((W.cell? ⟨w.heap.size,0,none⟩=some (.int .i64 p.k)/\W.cell? ⟨w.heap.size,1,none⟩=some (.slice p.b.1 p.b.2.1 p.b.2.2)/\W.cell? ⟨w.heap.size,2,none⟩=some (.int .i64 p.bn)/\W.cell? ⟨w.heap.size,3,none⟩=some (.slice p.s.1 p.s.2.1 p.s.2.2)/\W.cell? ⟨w.heap.size,4,none⟩=some (.slice p.i.1 p.i.2.1 p.i.2.2)/\W.cell? ⟨w.heap.size,5,none⟩=some (.slice p.f.1 p.f.2.1 p.f.2.2)/\W.cell? ⟨w.heap.size,6,none⟩=some (.slice p.c.1 p.c.2.1 p.c.2.2)/\W.cell? ⟨w.heap.size,7,none⟩=some (.slice p.x.1 p.x.2.1 p.x.2.2))/\(W.cell? ⟨w.heap.size+1,0,none⟩=some (.int .i64 q.k)/\W.cell? ⟨w.heap.size+1,1,none⟩=some (.slice q.b.1 q.b.2.1 q.b.2.2)/\W.cell? ⟨w.heap.size+1,2,none⟩=some (.int .i64 q.bn)/\W.cell? ⟨w.heap.size+1,3,none⟩=some (.slice q.s.1 q.s.2.1 q.s.2.2)/\W.cell? ⟨w.heap.size+1,4,none⟩=some (.slice q.i.1 q.i.2.1 q.i.2.2)/\W.cell? ⟨w.heap.size+1,5,none⟩=some (.slice q.f.1 q.f.2.1 q.f.2.2)/\W.cell? ⟨w.heap.size+1,6,none⟩=some (.slice q.c.1 q.c.2.1 q.c.2.2)/\W.cell? ⟨w.heap.size+1,7,none⟩=some (.slice q.x.1 q.x.2.1 q.x.2.2)))/\St2 w W p q:=⟨⟨h.one,h.two⟩,h⟩
def LenMid (w:World) (p q:V8) (L:Nat) (ok:Bool) (x y:Value) (W:World):Prop:=x= .int .i64 (L:Nat)/\y= .bool ok/\St2 w W p q
theorem lenMid_of {w W:World}{p q:V8}{L:Nat}{ok:Bool} (h:St2 w W p q):LenMid w p q L ok (.int .i64 (L:Nat)) (.bool ok) W:=⟨rfl,rfl,h⟩
theorem awholes_any (pw:Nat->Nat->Nat×Int) (H:Nat->Prop) (f:Int) (p q:V8) (m n N:Nat) (F G:Nat->Nat) (w:World) (hH:∀ b,H b->b < w.heap.size) (hL:lenP m n=some N) (hm:m<=1000000) (hn:n<=1000000)
  (hP:∀ W,Below w.heap.size w W->NumV p.v p.k m F W) (hQ:∀ W,Below w.heap.size w W->NumV q.v q.k n G W) :
  Calls Tryz.prog 231 #[.int .i64 f,.int .i64 (N:Int),p.v,q.v] w (AwOut H w (fun c=>oneP pw f (F (ixP m c)) (G (ixP n c))) N):=by
 by_cases h4:p.k=4\/q.k=4
 ·exact (awholes_no f p q m n N F G w hm hn hP hQ h4).mono fun e w' h => .inr h
 ·exact awholes_go pw H f p q m n N F G w hH hL hm hn hP hQ (fun h=>h4 (.inl h)) (fun h=>h4 (.inr h))
theorem aapply_none (H:Nat->Prop) (f:Int) (hf:1<=f) (hf2:f<=8) (p q:V8) (m n:Nat) (F G:Nat->Nat) (R:Nat->Nat×Int) (w:World) (hL:lenP m n=none)
  (hP:∀ W,Below w.heap.size w W->NumW p.v m F W) (hQ:∀ W,Below w.heap.size w W->NumW q.v n G W) :
  Calls Tryz.prog 167 #[.int .i64 f,p.v,q.v] w (Ap2Out H w R (lenP m n)):=by
 have HLP:=Lib.hid (fun W (hs:St2 w W p q)=>(hP W hs.bel).len)
 have HLQ:=Lib.hid (fun W (hs:St2 w W p q)=>(hQ W hs.bel).len)
 have HCP:=Lib.hid (fun W (hs:St2 w W p q)=>(hP W hs.bel).cls)
 have HCQ:=Lib.hid (fun W (hs:St2 w W p q)=>(hQ W hs.bel).cls)
 have HLL:=Lib.hid (fun W=>length_any m n W)
 have HS0:=Lib.hid (St2.new w p q)
 obtain ⟨L,ok,hL1,hL2⟩:∃ L ok,L=(lenP m n).getD 0/\ok=(lenP m n).isSome:=⟨_,_,rfl,rfl⟩
 rw [<- hL1,<- hL2] at HLL
 obtain rfl:ok=false:=by rw [hL2,hL];rfl
 have HLN:=Lib.hid hL
 clear hL1 hL2 hL hP hQ
 go_enter Tryz.func167,Tryz.ntmps167
 go_wp2_with fail
 obtain ⟨w0,hw0⟩:∃ w0,w0=((w.alloc p.o).alloc q.o).alloc (.cells zcells 37):=⟨_,rfl⟩
 rw [<- hw0] at HS0 ⊢
 clear hw0
 go_cut [8,9] from 19 (fun x y wx=>LenMid w p q L false x y wx)
 case first =>
  have hs0:=HS0.out.dr
  have hs00:=HS0.out
  go_region_held3 (fun W=>((W.cell? ⟨w.heap.size,0,none⟩=some (.int .i64 p.k)/\W.cell? ⟨w.heap.size,1,none⟩=some (.slice p.b.1 p.b.2.1 p.b.2.2)/\W.cell? ⟨w.heap.size,2,none⟩=some (.int .i64 p.bn)/\W.cell? ⟨w.heap.size,3,none⟩=some (.slice p.s.1 p.s.2.1 p.s.2.2)/\W.cell? ⟨w.heap.size,4,none⟩=some (.slice p.i.1 p.i.2.1 p.i.2.2)/\W.cell? ⟨w.heap.size,5,none⟩=some (.slice p.f.1 p.f.2.1 p.f.2.2)/\W.cell? ⟨w.heap.size,6,none⟩=some (.slice p.c.1 p.c.2.1 p.c.2.2)/\W.cell? ⟨w.heap.size,7,none⟩=some (.slice p.x.1 p.x.2.1 p.x.2.2))/\(W.cell? ⟨w.heap.size+1,0,none⟩=some (.int .i64 q.k)/\W.cell? ⟨w.heap.size+1,1,none⟩=some (.slice q.b.1 q.b.2.1 q.b.2.2)/\W.cell? ⟨w.heap.size+1,2,none⟩=some (.int .i64 q.bn)/\W.cell? ⟨w.heap.size+1,3,none⟩=some (.slice q.s.1 q.s.2.1 q.s.2.2)/\W.cell? ⟨w.heap.size+1,4,none⟩=some (.slice q.i.1 q.i.2.1 q.i.2.2)/\W.cell? ⟨w.heap.size+1,5,none⟩=some (.slice q.f.1 q.f.2.1 q.f.2.2)/\W.cell? ⟨w.heap.size+1,6,none⟩=some (.slice q.c.1 q.c.2.1 q.c.2.2)/\W.cell? ⟨w.heap.size+1,7,none⟩=some (.slice q.x.1 q.x.2.1 q.x.2.2)))/\St2 w W p q)
   (first | (with_reducible assumption) | (with_reducible (refine st2_s ?_);repeat (first | (with_reducible assumption) | (with_reducible refine St2.dr ?_))))
   (first
    | (go_at_call 211;(with_reducible refine (HLL.out _).mono ?_);rintro e w5 ⟨rfl,rfl⟩)
    | (go_at_call 85;(with_reducible refine (HLP.out _ ?_).mono ?_);exact St2.self (by repeat (first | (with_reducible assumption) | (with_reducible refine St2.dr ?_)));rintro e w1 ⟨rfl,hb1⟩;obtain ⟨hc1,hf1⟩:=bcell2 hb1;have hz1:=hb1.size;have hst1:St2 w w1 p q:=St2.step (by repeat (first | (with_reducible assumption) | (with_reducible refine St2.dr ?_))) hb1;clear hb1)
    | (go_at_call 85;(with_reducible refine (HLQ.out _ ?_).mono ?_);exact St2.self (by repeat (first | (with_reducible assumption) | (with_reducible refine St2.dr ?_)));rintro e w2 ⟨rfl,hb2⟩;obtain ⟨hc2,hf2⟩:=bcell2 hb2;have hz2:=hb2.size;have hst2:St2 w w2 p q:=St2.step (by repeat (first | (with_reducible assumption) | (with_reducible refine St2.dr ?_))) hb2;clear hb2))
  all_goals
   go_wp2
   go_meet
   first
    | (with_reducible exact lenMid_of hst2)
    | (with_reducible exact lenMid_of hst1)
 obtain ⟨rfl,rfl,hst⟩:=hcut
 have HST:=Lib.hid hst
 clear hst HS0 HLP HLQ HLL
 obtain ⟨⟨h0,h1,h2,h3,h4,h5,h6,h7⟩,hz⟩:=boxed_of HST.out.res
 go_wp2
 refine bodyPost_ret (v := .tuple #[vecV 0 vnil 0 vnil vnil vnil vnil vnil,.int .i64 23]) ?_ rfl (.inl ⟨HLN.out,rfl,below_set8 HST.out.bel (Nat.le_add_right _ 2) _ _ _ _ _ _ _ _⟩)
 exact ret_vec2 (fn:=Tryz.f167) (p:=6) (u:=7) rfl _ _ (w.heap.size+2) (by rfl) (set8_block HST.out.res _ _ _ _ _ _ _ _)
theorem aapply_div (H:Nat->Prop) (f:Int) (hf:1<=f) (hf2:f<=8) (p q:V8) (m n:Nat) (F G:Nat->Nat) (R:Nat->Nat×Int) (w:World) (N:Nat) (hH:∀ b,H b->b < w.heap.size) (hL:lenP m n=some N) (hd:f=4\/f=8)
  (hfl:∀ (W:World) (H':Nat->Prop),Below w.heap.size w W->(∀ b,H' b->b < W.heap.size)->Calls Tryz.prog 232 #[.int .i64 f,.int .i64 (N:Int),p.v,q.v] W (ArOut H' W R N))
  (hP:∀ W,Below w.heap.size w W->NumW p.v m F W) (hQ:∀ W,Below w.heap.size w W->NumW q.v n G W) :
  Calls Tryz.prog 167 #[.int .i64 f,p.v,q.v] w (Ap2Out H w R (lenP m n)):=by
 have HLP:=Lib.hid (fun W (hs:St2 w W p q)=>(hP W hs.bel).len)
 have HLQ:=Lib.hid (fun W (hs:St2 w W p q)=>(hQ W hs.bel).len)
 have HCP:=Lib.hid (fun W (hs:St2 w W p q)=>(hP W hs.bel).cls)
 have HCQ:=Lib.hid (fun W (hs:St2 w W p q)=>(hQ W hs.bel).cls)
 have HLL:=Lib.hid (fun W=>length_any m n W)
 have HS0:=Lib.hid (St2.new w p q)
 obtain ⟨L,ok,hL1,hL2⟩:∃ L ok,L=(lenP m n).getD 0/\ok=(lenP m n).isSome:=⟨_,_,rfl,rfl⟩
 rw [<- hL1,<- hL2] at HLL
 obtain rfl:ok=true:=by rw [hL2,hL];rfl
 obtain rfl:L=N:=by rw [hL1,hL];rfl
 have HLN:=Lib.hid hL
 have HH:=Lib.hid hH
 have HFL:=Lib.hid hfl
 unfold ArOut at HFL
 have hdd:((f != 4)=false)\/((f != 4)=true/\(f != 8)=false):=by
  rcases hd with h | h
  ·left;simp [h]
  ·right;subst h;exact ⟨by decide,by decide⟩
 clear hL1 hL2 hL hP hQ hH hfl hd
 rcases hdd with d4 | ⟨d4,d8⟩
 all_goals
  go_enter Tryz.func167,Tryz.ntmps167
  go_wp2_with fail
  obtain ⟨w0,hw0⟩:∃ w0,w0=((w.alloc p.o).alloc q.o).alloc (.cells zcells 37):=⟨_,rfl⟩
  rw [<- hw0] at HS0 ⊢
  clear hw0
  go_cut [8,9] from 19 (fun x y wx=>LenMid w p q L true x y wx)
  case first =>
   have hs0:=HS0.out.dr
   have hs00:=HS0.out
   go_region_held3 (fun W=>((W.cell? ⟨w.heap.size,0,none⟩=some (.int .i64 p.k)/\W.cell? ⟨w.heap.size,1,none⟩=some (.slice p.b.1 p.b.2.1 p.b.2.2)/\W.cell? ⟨w.heap.size,2,none⟩=some (.int .i64 p.bn)/\W.cell? ⟨w.heap.size,3,none⟩=some (.slice p.s.1 p.s.2.1 p.s.2.2)/\W.cell? ⟨w.heap.size,4,none⟩=some (.slice p.i.1 p.i.2.1 p.i.2.2)/\W.cell? ⟨w.heap.size,5,none⟩=some (.slice p.f.1 p.f.2.1 p.f.2.2)/\W.cell? ⟨w.heap.size,6,none⟩=some (.slice p.c.1 p.c.2.1 p.c.2.2)/\W.cell? ⟨w.heap.size,7,none⟩=some (.slice p.x.1 p.x.2.1 p.x.2.2))/\(W.cell? ⟨w.heap.size+1,0,none⟩=some (.int .i64 q.k)/\W.cell? ⟨w.heap.size+1,1,none⟩=some (.slice q.b.1 q.b.2.1 q.b.2.2)/\W.cell? ⟨w.heap.size+1,2,none⟩=some (.int .i64 q.bn)/\W.cell? ⟨w.heap.size+1,3,none⟩=some (.slice q.s.1 q.s.2.1 q.s.2.2)/\W.cell? ⟨w.heap.size+1,4,none⟩=some (.slice q.i.1 q.i.2.1 q.i.2.2)/\W.cell? ⟨w.heap.size+1,5,none⟩=some (.slice q.f.1 q.f.2.1 q.f.2.2)/\W.cell? ⟨w.heap.size+1,6,none⟩=some (.slice q.c.1 q.c.2.1 q.c.2.2)/\W.cell? ⟨w.heap.size+1,7,none⟩=some (.slice q.x.1 q.x.2.1 q.x.2.2)))/\St2 w W p q)
    (first | (with_reducible assumption) | (with_reducible (refine st2_s ?_);repeat (first | (with_reducible assumption) | (with_reducible refine St2.dr ?_))))
    (first
     | (go_at_call 211;(with_reducible refine (HLL.out _).mono ?_);rintro e w5 ⟨rfl,rfl⟩)
     | (go_at_call 85;(with_reducible refine (HLP.out _ ?_).mono ?_);exact St2.self (by repeat (first | (with_reducible assumption) | (with_reducible refine St2.dr ?_)));rintro e w1 ⟨rfl,hb1⟩;obtain ⟨hc1,hf1⟩:=bcell2 hb1;have hz1:=hb1.size;have hst1:St2 w w1 p q:=St2.step (by repeat (first | (with_reducible assumption) | (with_reducible refine St2.dr ?_))) hb1;clear hb1)
     | (go_at_call 85;(with_reducible refine (HLQ.out _ ?_).mono ?_);exact St2.self (by repeat (first | (with_reducible assumption) | (with_reducible refine St2.dr ?_)));rintro e w2 ⟨rfl,hb2⟩;obtain ⟨hc2,hf2⟩:=bcell2 hb2;have hz2:=hb2.size;have hst2:St2 w w2 p q:=St2.step (by repeat (first | (with_reducible assumption) | (with_reducible refine St2.dr ?_))) hb2;clear hb2))
   all_goals
    go_wp2
    go_meet
    first
     | (with_reducible exact lenMid_of hst2)
     | (with_reducible exact lenMid_of hst1)
  obtain ⟨rfl,rfl,hst⟩:=hcut
  have HST:=Lib.hid hst
  clear hst HS0 HLP HLQ HLL
  obtain ⟨h0,h1,h2,h3,h4,h5,h6,h7⟩:=HST.out.one
  go_wp2_with fail
  refine (HCP.out _ HST.out).mono ?_
  rintro e w3 ⟨rfl,hb3⟩
  have HS3:=Lib.hid (HST.out.step hb3)
  clear hb3 h0 h1 h2 h3 h4 h5 h6 h7 HST
  obtain ⟨h0,h1,h2,h3,h4,h5,h6,h7⟩:=HS3.out.two
  go_wp2_with fail
  refine (HCQ.out _ HS3.out).mono ?_
  rintro e w4 ⟨rfl,hb4⟩
  have HS4:=Lib.hid (HS3.out.step hb4)
  clear hb4 h0 h1 h2 h3 h4 h5 h6 h7 HS3
  obtain ⟨h0,h1,h2,h3,h4,h5,h6,h7⟩:=HS4.out.one
  obtain ⟨g0,g1,g2,g3,g4,g5,g6,g7⟩:=HS4.out.two
  go_wp2_with fail
  refine (HFL.out _ (fun j=>H j\/j=w.heap.size+2) HS4.out.bel (fun j e=>by
   have h1:=HS4.out.sz
   rcases e with e | e
   ·have:=HH.out j e;omega
   ·omega)).mono ?_
  clear h0 h1 h2 h3 h4 h5 h6 h7 g0 g1 g2 g3 g4 g5 g6 g7
  rintro e w7 (⟨hall,k5,b5,bn5,s5,i5,f5,c5,x5,rfl,hk5,hb5⟩ | ⟨hbad,rfl,hb5⟩)
  ·have HS7:=Lib.hid (HS4.out.step hb5)
   have HKE:=Lib.hid hk5
   have HALL:=Lib.hid hall
   clear hb5 hk5 hall
   obtain ⟨⟨h0,h1,h2,h3,h4,h5,h6,h7⟩,hz⟩:=boxed_of HS7.out.res
   go_wp2
   refine bodyPost_ret (v := .tuple #[vecW k5 b5 bn5 s5 i5 f5 c5 x5,.int .i64 0]) ?_ rfl (.inr ⟨_,HLN.out,.inl ⟨HALL.out,k5,b5,bn5,s5,i5,f5,c5,x5,rfl,(HKE.out.set8 (.inr rfl) _ _ _ _ _ _ _ _).sub (fun _ _ e => .inl e),below_set8 HS7.out.bel (Nat.le_add_right _ 2) _ _ _ _ _ _ _ _⟩⟩)
   exact ret_vec2 (fn:=Tryz.f167) (p:=6) (u:=7) rfl _ _ (w.heap.size+2) (by rfl) (set8_block HS7.out.res _ _ _ _ _ _ _ _)
  ·have HS7:=Lib.hid (HS4.out.step hb5)
   have HBAD:=Lib.hid hbad
   clear hb5 hbad
   obtain ⟨⟨h0,h1,h2,h3,h4,h5,h6,h7⟩,hz⟩:=boxed_of HS7.out.res
   go_wp2
   refine bodyPost_ret (v := .tuple #[vecV 0 vnil 0 vnil vnil vnil vnil vnil,.int .i64 24]) ?_ rfl (.inr ⟨_,HLN.out,.inr ⟨HBAD.out,rfl,below_set8 HS7.out.bel (Nat.le_add_right _ 2) _ _ _ _ _ _ _ _⟩⟩)
   exact ret_vec2 (fn:=Tryz.f167) (p:=6) (u:=7) rfl _ _ (w.heap.size+2) (by rfl) (set8_block HS7.out.res _ _ _ _ _ _ _ _)
theorem aapply_all (H:Nat->Prop) (f:Int) (hf:1<=f) (hf2:f<=8) (p q:V8) (m n:Nat) (F G:Nat->Nat) (R:Nat->Nat×Int) (w:World) (N:Nat) (hH:∀ b,H b->b < w.heap.size) (hL:lenP m n=some N) (hd:¬ (f=4\/f=8))
  (hfl:∀ (W:World) (H':Nat->Prop),Below w.heap.size w W->(∀ b,H' b->b < W.heap.size)->Calls Tryz.prog 232 #[.int .i64 f,.int .i64 (N:Int),p.v,q.v] W (ArOut H' W R N))
  (hwh:∀ (W:World) (H':Nat->Prop),Below w.heap.size w W->(∀ b,H' b->b < W.heap.size)->Calls Tryz.prog 231 #[.int .i64 f,.int .i64 (N:Int),p.v,q.v] W (AwOut H' W R N))
  (hP:∀ W,Below w.heap.size w W->NumW p.v m F W) (hQ:∀ W,Below w.heap.size w W->NumW q.v n G W) :
  Calls Tryz.prog 167 #[.int .i64 f,p.v,q.v] w (Ap2Out H w R (lenP m n)):=by
 have HLP:=Lib.hid (fun W (hs:St2 w W p q)=>(hP W hs.bel).len)
 have HLQ:=Lib.hid (fun W (hs:St2 w W p q)=>(hQ W hs.bel).len)
 have HCP:=Lib.hid (fun W (hs:St2 w W p q)=>(hP W hs.bel).cls)
 have HCQ:=Lib.hid (fun W (hs:St2 w W p q)=>(hQ W hs.bel).cls)
 have HLL:=Lib.hid (fun W=>length_any m n W)
 have HS0:=Lib.hid (St2.new w p q)
 obtain ⟨L,ok,hL1,hL2⟩:∃ L ok,L=(lenP m n).getD 0/\ok=(lenP m n).isSome:=⟨_,_,rfl,rfl⟩
 rw [<- hL1,<- hL2] at HLL
 obtain rfl:ok=true:=by rw [hL2,hL];rfl
 obtain rfl:L=N:=by rw [hL1,hL];rfl
 have HLN:=Lib.hid hL
 have HH:=Lib.hid hH
 have HFL:=Lib.hid hfl
 unfold ArOut at HFL
 have HWH:=Lib.hid hwh
 unfold AwOut at HWH
 have d4:(f != 4)=true:=by simpa using fun h=>hd (.inl h)
 have d8:(f != 8)=true:=by simpa using fun h=>hd (.inr h)
 clear hL1 hL2 hL hP hQ hH hfl hd hwh
 go_enter Tryz.func167,Tryz.ntmps167
 go_wp2_with fail
 obtain ⟨w0,hw0⟩:∃ w0,w0=((w.alloc p.o).alloc q.o).alloc (.cells zcells 37):=⟨_,rfl⟩
 rw [<- hw0] at HS0 ⊢
 clear hw0
 go_cut [8,9] from 19 (fun x y wx=>LenMid w p q L true x y wx)
 case first =>
  have hs0:=HS0.out.dr
  have hs00:=HS0.out
  go_region_held3 (fun W=>((W.cell? ⟨w.heap.size,0,none⟩=some (.int .i64 p.k)/\W.cell? ⟨w.heap.size,1,none⟩=some (.slice p.b.1 p.b.2.1 p.b.2.2)/\W.cell? ⟨w.heap.size,2,none⟩=some (.int .i64 p.bn)/\W.cell? ⟨w.heap.size,3,none⟩=some (.slice p.s.1 p.s.2.1 p.s.2.2)/\W.cell? ⟨w.heap.size,4,none⟩=some (.slice p.i.1 p.i.2.1 p.i.2.2)/\W.cell? ⟨w.heap.size,5,none⟩=some (.slice p.f.1 p.f.2.1 p.f.2.2)/\W.cell? ⟨w.heap.size,6,none⟩=some (.slice p.c.1 p.c.2.1 p.c.2.2)/\W.cell? ⟨w.heap.size,7,none⟩=some (.slice p.x.1 p.x.2.1 p.x.2.2))/\(W.cell? ⟨w.heap.size+1,0,none⟩=some (.int .i64 q.k)/\W.cell? ⟨w.heap.size+1,1,none⟩=some (.slice q.b.1 q.b.2.1 q.b.2.2)/\W.cell? ⟨w.heap.size+1,2,none⟩=some (.int .i64 q.bn)/\W.cell? ⟨w.heap.size+1,3,none⟩=some (.slice q.s.1 q.s.2.1 q.s.2.2)/\W.cell? ⟨w.heap.size+1,4,none⟩=some (.slice q.i.1 q.i.2.1 q.i.2.2)/\W.cell? ⟨w.heap.size+1,5,none⟩=some (.slice q.f.1 q.f.2.1 q.f.2.2)/\W.cell? ⟨w.heap.size+1,6,none⟩=some (.slice q.c.1 q.c.2.1 q.c.2.2)/\W.cell? ⟨w.heap.size+1,7,none⟩=some (.slice q.x.1 q.x.2.1 q.x.2.2)))/\St2 w W p q)
   (first | (with_reducible assumption) | (with_reducible (refine st2_s ?_);repeat (first | (with_reducible assumption) | (with_reducible refine St2.dr ?_))))
   (first
    | (go_at_call 211;(with_reducible refine (HLL.out _).mono ?_);rintro e w5 ⟨rfl,rfl⟩)
    | (go_at_call 85;(with_reducible refine (HLP.out _ ?_).mono ?_);exact St2.self (by repeat (first | (with_reducible assumption) | (with_reducible refine St2.dr ?_)));rintro e w1 ⟨rfl,hb1⟩;obtain ⟨hc1,hf1⟩:=bcell2 hb1;have hz1:=hb1.size;have hst1:St2 w w1 p q:=St2.step (by repeat (first | (with_reducible assumption) | (with_reducible refine St2.dr ?_))) hb1;clear hb1)
    | (go_at_call 85;(with_reducible refine (HLQ.out _ ?_).mono ?_);exact St2.self (by repeat (first | (with_reducible assumption) | (with_reducible refine St2.dr ?_)));rintro e w2 ⟨rfl,hb2⟩;obtain ⟨hc2,hf2⟩:=bcell2 hb2;have hz2:=hb2.size;have hst2:St2 w w2 p q:=St2.step (by repeat (first | (with_reducible assumption) | (with_reducible refine St2.dr ?_))) hb2;clear hb2))
  all_goals
   go_wp2
   go_meet
   first
    | (with_reducible exact lenMid_of hst2)
    | (with_reducible exact lenMid_of hst1)
 obtain ⟨rfl,rfl,hst⟩:=hcut
 have HST:=Lib.hid hst
 clear hst HS0 HLP HLQ HLL
 obtain ⟨h0,h1,h2,h3,h4,h5,h6,h7⟩:=HST.out.one
 go_wp2_with fail
 refine (HCP.out _ HST.out).mono ?_
 rintro e w3 ⟨rfl,hb3⟩
 have HS3:=Lib.hid (HST.out.step hb3)
 clear hb3 h0 h1 h2 h3 h4 h5 h6 h7 HST
 obtain ⟨h0,h1,h2,h3,h4,h5,h6,h7⟩:=HS3.out.two
 go_wp2_with fail
 refine (HCQ.out _ HS3.out).mono ?_
 rintro e w4 ⟨rfl,hb4⟩
 have HS4:=Lib.hid (HS3.out.step hb4)
 clear hb4 h0 h1 h2 h3 h4 h5 h6 h7 HS3
 obtain ⟨h0,h1,h2,h3,h4,h5,h6,h7⟩:=HS4.out.one
 obtain ⟨g0,g1,g2,g3,g4,g5,g6,g7⟩:=HS4.out.two
 go_wp2_with fail
 refine (HWH.out _ (fun j=>H j\/j=w.heap.size+2) HS4.out.bel (fun j e=>by
  have h1:=HS4.out.sz
  rcases e with e | e
  ·have:=HH.out j e;omega
  ·omega)).mono ?_
 clear h0 h1 h2 h3 h4 h5 h6 h7 g0 g1 g2 g3 g4 g5 g6 g7
 rintro e w6 (⟨hall,k6,b6,bn6,s6,i6,f6,c6,x6,rfl,hk6,hb6⟩ | ⟨rfl,hb6⟩)
 ·have HS6:=Lib.hid (HS4.out.step hb6)
  have HKE0:=Lib.hid hk6
  have HALL:=Lib.hid hall
  have z6:w.heap.size+2 < w6.heap.size:=HS6.out.sz
  have z6a:w.heap.size < w6.heap.size:=HS6.out.one.lt
  clear hb6 hk6 hall
  have HKE:=Lib.hid ((HKE0.out.set8 (.inr rfl) (.int .i64 k6) (.slice b6.1 b6.2.1 b6.2.2) (.int .i64 bn6) (.slice s6.1 s6.2.1 s6.2.2) (.slice i6.1 i6.2.1 i6.2.2) (.slice f6.1 f6.2.1 f6.2.2) (.slice c6.1 c6.2.1 c6.2.2) (.slice x6.1 x6.2.1 x6.2.2)).sub (H':=H) fun _ _ e => .inl e)
  have HBE:=Lib.hid (below_set8 HS6.out.bel (Nat.le_add_right _ 2) (.int .i64 k6) (.slice b6.1 b6.2.1 b6.2.2) (.int .i64 bn6) (.slice s6.1 s6.2.1 s6.2.2) (.slice i6.1 i6.2.1 i6.2.2) (.slice f6.1 f6.2.1 f6.2.2) (.slice c6.1 c6.2.1 c6.2.2) (.slice x6.1 x6.2.1 x6.2.2))
  have HRE:=Lib.hid (set8_block HS6.out.res (.int .i64 k6) (.slice b6.1 b6.2.1 b6.2.2) (.int .i64 bn6) (.slice s6.1 s6.2.1 s6.2.2) (.slice i6.1 i6.2.1 i6.2.2) (.slice f6.1 f6.2.1 f6.2.2) (.slice c6.1 c6.2.1 c6.2.2) (.slice x6.1 x6.2.1 x6.2.2))
  obtain ⟨⟨h0,h1,h2,h3,h4,h5,h6,h7⟩,hz⟩:=boxed_of HS6.out.res
  go_wp2
  refine bodyPost_ret (v := .tuple #[vecW k6 b6 bn6 s6 i6 f6 c6 x6,.int .i64 0]) ?_ rfl (.inr ⟨_,HLN.out,.inl ⟨HALL.out,k6,b6,bn6,s6,i6,f6,c6,x6,rfl,HKE.out.step (bel1 _ _),bel_both HBE.out (bel1 _ _)⟩⟩)
  exact ret_vec2 (fn:=Tryz.f167) (p:=6) (u:=7) rfl _ _ (w.heap.size+2) (by rfl) ((Below.heap_alloc _ _ _ (lt_of_block HRE.out)).trans HRE.out)
 ·have HS6:=Lib.hid ((HS4.out.step hb6).al (.cells #[.int .i64 0,vnil,.int .i64 0,vnil,vnil,vnil,vnil,vnil] 37))
  clear hb6
  obtain ⟨h0,h1,h2,h3,h4,h5,h6,h7⟩:=HS6.out.one
  obtain ⟨g0,g1,g2,g3,g4,g5,g6,g7⟩:=HS6.out.two
  go_wp2_with fail
  refine (HFL.out _ (fun j=>H j\/j=w.heap.size+2) HS6.out.bel (fun j e=>by
   have h1:=HS6.out.sz
   rcases e with e | e
   ·have:=HH.out j e;omega
   ·omega)).mono ?_
  clear h0 h1 h2 h3 h4 h5 h6 h7 g0 g1 g2 g3 g4 g5 g6 g7
  rintro e w7 (⟨hall,k5,b5,bn5,s5,i5,f5,c5,x5,rfl,hk5,hb5⟩ | ⟨hbad,rfl,hb5⟩)
  ·have HS7:=Lib.hid (HS6.out.step hb5)
   have HKE:=Lib.hid hk5
   have HALL:=Lib.hid hall
   clear hb5 hk5 hall
   obtain ⟨⟨h0,h1,h2,h3,h4,h5,h6,h7⟩,hz⟩:=boxed_of HS7.out.res
   go_wp2
   refine bodyPost_ret (v := .tuple #[vecW k5 b5 bn5 s5 i5 f5 c5 x5,.int .i64 0]) ?_ rfl (.inr ⟨_,HLN.out,.inl ⟨HALL.out,k5,b5,bn5,s5,i5,f5,c5,x5,rfl,(HKE.out.set8 (.inr rfl) _ _ _ _ _ _ _ _).sub (fun _ _ e => .inl e),below_set8 HS7.out.bel (Nat.le_add_right _ 2) _ _ _ _ _ _ _ _⟩⟩)
   exact ret_vec2 (fn:=Tryz.f167) (p:=6) (u:=7) rfl _ _ (w.heap.size+2) (by rfl) (set8_block HS7.out.res _ _ _ _ _ _ _ _)
  ·have HS7:=Lib.hid (HS6.out.step hb5)
   have HBAD:=Lib.hid hbad
   clear hb5 hbad
   obtain ⟨⟨h0,h1,h2,h3,h4,h5,h6,h7⟩,hz⟩:=boxed_of HS7.out.res
   go_wp2
   refine bodyPost_ret (v := .tuple #[vecV 0 vnil 0 vnil vnil vnil vnil vnil,.int .i64 24]) ?_ rfl (.inr ⟨_,HLN.out,.inr ⟨HBAD.out,rfl,below_set8 HS7.out.bel (Nat.le_add_right _ 2) _ _ _ _ _ _ _ _⟩⟩)
   exact ret_vec2 (fn:=Tryz.f167) (p:=6) (u:=7) rfl _ _ (w.heap.size+2) (by rfl) (set8_block HS7.out.res _ _ _ _ _ _ _ _)
theorem aapply_any (H:Nat->Prop) (f:Int) (hf:1<=f) (hf2:f<=8) (p q:V8) (m n:Nat) (F G:Nat->Nat) (w:World) (hH:∀ b,H b->b < w.heap.size) (hm:m<=1000000) (hn:n<=1000000)
  (hP:∀ W,Below w.heap.size w W->NumV p.v p.k m F W) (hQ:∀ W,Below w.heap.size w W->NumV q.v q.k n G W) :
  Calls Tryz.prog 167 #[.int .i64 f,p.v,q.v] w (Ap2Out H w (fun c=>oneP pwP f (F (ixP m c)) (G (ixP n c))) (lenP m n)):=by
 have hP':∀ W,Below w.heap.size w W->NumW p.v m F W:=fun W hb=>(hP W hb).numW
 have hQ':∀ W,Below w.heap.size w W->NumW q.v n G W:=fun W hb=>(hQ W hb).numW
 have hFt:=(hP w (Below.refl _ _)).tf
 have hGt:=(hQ w (Below.refl _ _)).tf
 cases hL:lenP m n with
 | none =>
  rw [<- hL]
  exact aapply_none H f hf hf2 p q m n F G _ w hL hP' hQ'
 | some N =>
  rw [<- hL]
  have hfl:∀ (W:World) (H':Nat->Prop),Below w.heap.size w W->(∀ b,H' b->b < W.heap.size)->Calls Tryz.prog 232 #[.int .i64 f,.int .i64 (N:Int),p.v,q.v] W (ArOut H' W (fun c=>oneP pwP f (F (ixP m c)) (G (ixP n c))) N):=by
   intro W H' hb hH'
   refine afloats_any H' f _ p q m n N F G W hH' hL hm hn (fun W' hb'=>hP' W' (bel_both hb hb')) (fun W' hb'=>hQ' W' (bel_both hb hb')) (fun c hc W'=>?_) (fun c hc=>?_)
   ·obtain ⟨h1,h2⟩:=ixP_lt hL hc
    exact arith_any powIs f hf hf2 _ _ (hFt _ h1) (hGt _ h2) W'
   ·obtain ⟨h1,h2⟩:=ixP_lt hL hc
    rcases oneP_cases powIs f (hFt _ h1) (hGt _ h2) with ⟨y,ht,e⟩ | e
    ·exact ⟨y,0,e,.inl ⟨ht,rfl⟩⟩
    ·exact ⟨0,24,e,.inr ⟨rfl,rfl⟩⟩
  by_cases hd:f=4\/f=8
  ·exact aapply_div H f hf hf2 p q m n F G _ w N hH hL hd hfl hP' hQ'
  ·exact aapply_all H f hf hf2 p q m n F G _ w N hH hL hd hfl (fun W H' hb hH'=>awholes_any pwP H' f p q m n N F G W hH' hL hm hn (fun W' hb'=>hP W' (bel_both hb hb')) (fun W' hb'=>hQ W' (bel_both hb hb'))) hP' hQ'
def BitsAt (W:World) (b:Sl) (n:Nat) (L:Nat->Bool):Prop :=
 ∃ g o c,b=(some ⟨g,o,none⟩,(n+63) / 64,c)/\∀ j,j < (n+63) / 64->W.cell? ⟨g,o+j,none⟩=some (.int .u64 (packW L n j:Nat))
theorem BitsAt.below {W W':World}{b:Sl}{n:Nat}{L:Nat->Bool} (h:BitsAt W b n L) (hb:Below W.heap.size W W'):BitsAt W' b n L:=by
 obtain ⟨g,o,c,e,hc⟩:=h
 exact ⟨g,o,c,e,fun j hj=>by rw [hb.cell (cell_lt (hc j hj))];exact hc j hj⟩
theorem BitsAt.row {W:World}{B g n:Nat}{L:Nat->Bool} (h:RowU W B g ((n+63) / 64) (packW L n)):BitsAt W (some ⟨g,0,none⟩,(n+63) / 64,(n+63) / 64) n L :=
 ⟨g,0,_,rfl,fun j hj=>by rw [Nat.zero_add];exact h.cell hj⟩
theorem BitsAt.in {W:World}{b:Sl}{n:Nat}{L:Nat->Bool} (h:BitsAt W b n L):BitsIn W (.agg #[.slice b.1 b.2.1 b.2.2,.int .i64 (n:Int)]) n L:=by
 obtain ⟨g,o,c,rfl,hc⟩:=h
 exact ⟨g,o,c,rfl,hc⟩
theorem NumV.bits {b:Sl}{bn:Int}{s i f g x:Sl}{m:Nat}{F:Nat->Nat}{w:World} (h:NumV (vecW 1 b bn s i f g x) 1 m F w):bn=(m:Int)/\∃ L,BitsAt w b m L/\∀ j,j < m->F j=flagF (L j):=by
 obtain ⟨l,s',e,hb,hf⟩:=h.bitsX rfl
 injection e with e
 have e1:=congrArg (fun a:Array Value=>a.getD 1 undef) e
 have e2:=congrArg (fun a:Array Value=>a.getD 2 undef) e
 have e1':Value.slice b.1 b.2.1 b.2.2=s':=e1
 have e2':Value.int .i64 bn= .int .i64 (m:Int):=e2
 injection e2' with _ e3
 refine ⟨e3,l,?_,hf⟩
 obtain ⟨g2,o,c,ev,hc⟩:=hb
 injection ev with ev
 have e4:=congrArg (fun a:Array Value=>a.getD 0 undef) ev
 have e4':s'= .slice (some ⟨g2,o,none⟩) ((m+63) / 64) c:=e4
 rw [<- e1'] at e4'
 injection e4' with h1 h2 h3
 exact ⟨g2,o,c,by rw [<- h1,<- h2,<- h3],hc⟩
def SpOut (k:Int) (m N:Nat) (F:Nat->Nat) (w:World) (e:Ending) (w':World):Prop :=
 (k=1/\∃ (b:Sl) (L:Nat->Bool),e= .returned (.tuple #[.agg #[.slice b.1 b.2.1 b.2.2,.int .i64 (N:Int)],.bool true])/\BitsAt w' b N L/\(∀ j,j < N->F (ixP m j)=flagF (L j))/\Below w.heap.size w w') \/
 (k≠1/\e= .returned (.tuple #[.agg #[vnil,.int .i64 0],.bool false])/\Below w.heap.size w w')
structure Sb (w W:World) (p:V8):Prop where
 one:BoxP W w.heap.size p
 res:W.heap[w.heap.size+1]?=some (.cells bcells 30)
 bel:Below w.heap.size w W
theorem Sb.step {w W W':World}{p:V8} (h:Sb w W p) (hb:Below W.heap.size W W'):Sb w W' p :=
 ⟨h.one.below hb,by rw [hb.block _ (lt_of_block h.res)];exact h.res,bel_both h.bel hb⟩
theorem Sb.new (w:World) (p:V8):Sb w ((w.alloc p.o).alloc (.cells bcells 30)) p:=by
 have h2:=heap_alloc_new (w.alloc p.o) (.cells bcells 30)
 have e1:(w.alloc p.o).heap.size=w.heap.size+1:=by simp
 rw [e1] at h2
 exact ⟨(boxP_new w p).below (bel1 _ _),h2,bel2 w _ _⟩
theorem Sb.sz {w W:World}{p:V8} (h:Sb w W p):w.heap.size+1 < W.heap.size:=lt_of_block h.res
theorem spread_no (k:Int) (hk:k≠1) (b:Sl) (bn:Int) (s i f g x:Sl) (m N:Nat) (F:Nat->Nat) (w:World) :
  Calls Tryz.prog 234 #[vecW k b bn s i f g x,.int .i64 (N:Int)] w (SpOut k m N F w):=by
 have HP:=Lib.hid (fun W=>packed_no k hk (.slice b.1 b.2.1 b.2.2) bn (.slice s.1 s.2.1 s.2.2) (.slice i.1 i.2.1 i.2.2) (.slice f.1 f.2.1 f.2.2) (.slice g.1 g.2.1 g.2.2) (.slice x.1 x.2.1 x.2.2) W)
 have HS0:=Lib.hid (Sb.new w ⟨k,b,bn,s,i,f,g,x⟩)
 have HK:=Lib.hid hk
 clear hk
 go_enter Tryz.func234,Tryz.ntmps234
 obtain ⟨h0,h1,h2,h3,h4,h5,h6,h7⟩:=HS0.out.one
 go_wp2_with fail
 refine (HP.out _).mono ?_
 rintro e w1 ⟨rfl,hb1⟩
 have HS1:=Lib.hid (HS0.out.step hb1)
 have z1:w.heap.size+1 < w1.heap.size:=HS1.out.sz
 have HKE:=Lib.hid (set2_block HS1.out.res vnil (.int .i64 0))
 clear hb1 h0 h1 h2 h3 h4 h5 h6 h7
 obtain ⟨hk0,hk1,hkf⟩:=pair_of HS1.out.res
 go_wp2
 refine bodyPost_ret (v := .tuple #[.agg #[vnil,.int .i64 0],.bool false]) ?_ rfl (.inr ⟨HK.out,rfl,bel_both (below_set2 HS1.out.bel (Nat.le_succ _) _ _) (bel1 _ _)⟩)
 exact ret_bits2 (fn:=Tryz.f234) (p:=4) (u:=5) rfl _ _ (w.heap.size+1) (by rfl) ((Below.heap_alloc _ _ _ (lt_of_block HKE.out)).trans HKE.out)
theorem spread_same (b:Sl) (bn:Int) (s i f g x:Sl) (m N:Nat) (F:Nat->Nat) (w:World) (hmN:m=N) (hN:NumV (vecW 1 b bn s i f g x) 1 m F w) :
  Calls Tryz.prog 234 #[vecW 1 b bn s i f g x,.int .i64 (N:Int)] w (SpOut 1 m N F w):=by
 subst hmN
 obtain ⟨rfl,L,hL,hF⟩:=hN.bits
 have HLW:=Lib.hid hL
 have HF:Hid (∀ j,j < m->F (ixP m j)=flagF (L j)):=fun j hj=>by
  have e:ixP m j=j:=by unfold ixP;split <;> omega
  rw [e];exact hF j hj
 have HP:=Lib.hid (fun W=>packed_yes b (m:Int) (.slice s.1 s.2.1 s.2.2) (.slice i.1 i.2.1 i.2.2) (.slice f.1 f.2.1 f.2.2) (.slice g.1 g.2.1 g.2.2) (.slice x.1 x.2.1 x.2.2) W)
 have HBL:=Lib.hid (fun W=>blen_any (.slice b.1 b.2.1 b.2.2) (m:Int) W)
 have HS0:=Lib.hid (Sb.new w ⟨1,b,(m:Int),s,i,f,g,x⟩)
 clear hL hF hN
 have hcase:(((m:Int)==1)=true/\((m:Int) != 1)=false)\/((m:Int)==1)=false:=by
  by_cases h1:m=1
  ·left;subst h1;exact ⟨rfl,rfl⟩
  ·right;simp;omega
 rcases hcase with ⟨e1,e2⟩ | e1
 all_goals
  go_enter Tryz.func234,Tryz.ntmps234
  obtain ⟨h0,h1,h2,h3,h4,h5,h6,h7⟩:=HS0.out.one
  go_wp2_with fail
  refine (HP.out _).mono ?_
  rintro e w1 ⟨rfl,hb1⟩
  have HS1:=Lib.hid (HS0.out.step hb1)
  have z1:w.heap.size+1 < w1.heap.size:=HS1.out.sz
  clear hb1 h0 h1 h2 h3 h4 h5 h6 h7
  have HS2:=Lib.hid (HS1.out.step (bel1 w1 (.cells #[.slice b.1 b.2.1 b.2.2,.int .i64 (m:Int)] 30)))
  have HV2:=Lib.hid (heap_alloc_new w1 (.cells #[.slice b.1 b.2.1 b.2.2,.int .i64 (m:Int)] 30))
  go_wp2_with fail
  refine (HBL.out _).mono ?_
  rintro e w2 ⟨rfl,hb2⟩
  have HS3:=Lib.hid (HS2.out.step hb2)
  have HV3:=Lib.hid (show w2.heap[w1.heap.size]?=some (.cells #[.slice b.1 b.2.1 b.2.2,.int .i64 (m:Int)] 30) by rw [hb2.block _ (lt_of_block HV2.out)];exact HV2.out)
  clear hb2
  have HKE:=Lib.hid (set2_block HS3.out.res (.slice b.1 b.2.1 b.2.2) (.int .i64 (m:Int)))
  have HBE:=Lib.hid (below_set2 HS3.out.bel (Nat.le_succ _) (.slice b.1 b.2.1 b.2.2) (.int .i64 (m:Int)))
  have HLE:=Lib.hid (HLW.out.below HBE.out)
  have z2:w.heap.size+1 < w2.heap.size:=HS3.out.sz
  obtain ⟨hk0,hk1,hkf⟩:=pair_of HS3.out.res
  obtain ⟨hv0,hv1,hvf⟩:=pair_of HV3.out
  go_wp2
  refine bodyPost_ret (v := .tuple #[.agg #[.slice b.1 b.2.1 b.2.2,.int .i64 (m:Int)],.bool true]) ?_ rfl (.inl ⟨rfl,b,L,rfl,HLE.out,HF.out,HBE.out⟩)
  exact ret_bits2 (fn:=Tryz.f234) (p:=4) (u:=5) rfl _ _ (w.heap.size+1) (by rfl) HKE.out
theorem spread_more (b:Sl) (bn:Int) (s i f g x:Sl) (N:Nat) (F:Nat->Nat) (w:World) (hn:N<=1000000) (hN1:N≠1) (hN:NumV (vecW 1 b bn s i f g x) 1 1 F w) :
  Calls Tryz.prog 234 #[vecW 1 b bn s i f g x,.int .i64 (N:Int)] w (SpOut 1 1 N F w):=by
 obtain ⟨rfl,L,hL,hF⟩:=hN.bits
 have HLW:=Lib.hid hL
 have HF:Hid (∀ j,j < N->F (ixP 1 j)=flagF ((fun _=>L 0) j)):=fun j _=>hF 0 (by decide)
 have HP:=Lib.hid (fun W=>packed_yes b ((1:Nat):Int) (.slice s.1 s.2.1 s.2.2) (.slice i.1 i.2.1 i.2.2) (.slice f.1 f.2.1 f.2.2) (.slice g.1 g.2.1 g.2.2) (.slice x.1 x.2.1 x.2.2) W)
 have HBL:=Lib.hid (fun W=>blen_any (.slice b.1 b.2.1 b.2.2) 1 W)
 have HAT:=Lib.hid (fun W (hb:Below w.heap.size w W)=>bitV_at (W:=W) (n:=1) (by decide) (hL.below hb).in 0 (by decide))
 have HMK:=Lib.hid (fun t W=>make_any N t (by omega) W)
 have HS0:=Lib.hid (Sb.new w ⟨1,b,((1:Nat):Int),s,i,f,g,x⟩)
 have e1:((N:Int) != 1)=true:=by simp;omega
 clear hL hF hN hN1
 go_enter Tryz.func234,Tryz.ntmps234
 obtain ⟨h0,h1,h2,h3,h4,h5,h6,h7⟩:=HS0.out.one
 go_wp2_with fail
 refine (HP.out _).mono ?_
 rintro e w1 ⟨rfl,hb1⟩
 have HS1:=Lib.hid (HS0.out.step hb1)
 have z1:w.heap.size+1 < w1.heap.size:=HS1.out.sz
 clear hb1 h0 h1 h2 h3 h4 h5 h6 h7
 have HS2:=Lib.hid (HS1.out.step (bel1 w1 (.cells #[.slice b.1 b.2.1 b.2.2,.int .i64 ((1:Nat):Int)] 30)))
 have HV2:=Lib.hid (heap_alloc_new w1 (.cells #[.slice b.1 b.2.1 b.2.2,.int .i64 ((1:Nat):Int)] 30))
 go_wp2_with fail
 refine (HBL.out _).mono ?_
 rintro e w2 ⟨rfl,hb2⟩
 have HS3:=Lib.hid (HS2.out.step hb2)
 have HV3:=Lib.hid (show w2.heap[w1.heap.size]?=some (.cells #[.slice b.1 b.2.1 b.2.2,.int .i64 ((1:Nat):Int)] 30) by rw [hb2.block _ (lt_of_block HV2.out)];exact HV2.out)
 clear hb2
 obtain ⟨hv0,hv1,hvf⟩:=pair_of HV3.out
 go_wp2_with fail
 refine (HAT.out _ HS3.out.bel).mono ?_
 rintro e w3 ⟨rfl,hb3⟩
 have HS4:=Lib.hid (HS3.out.step hb3)
 clear hb3 hv0 hv1 hvf
 go_wp2_with fail
 refine (HMK.out _ _).mono ?_
 rintro e w4 ⟨gg,rfl,hr4,hb4⟩
 have HS5:=Lib.hid (HS4.out.step hb4)
 have HR5:=Lib.hid (BitsAt.row (L:=fun _=>L 0) (own_set2 hr4 (G:=w.heap.size+1) (by show some gg≠_;have:=hr4.low.1;have:=HS4.out.sz;intro e;injection e;omega) (.slice (some ⟨gg,0,none⟩) ((N+63) / 64) ((N+63) / 64)) (.int .i64 (N:Int))))
 clear hr4 hb4
 have HKE:=Lib.hid (set2_block HS5.out.res (.slice (some ⟨gg,0,none⟩) ((N+63) / 64) ((N+63) / 64)) (.int .i64 (N:Int)))
 have HBE:=Lib.hid (below_set2 HS5.out.bel (Nat.le_succ _) (.slice (some ⟨gg,0,none⟩) ((N+63) / 64) ((N+63) / 64)) (.int .i64 (N:Int)))
 obtain ⟨hk0,hk1,hkf⟩:=pair_of HS5.out.res
 go_wp2
 refine bodyPost_ret (v := .tuple #[.agg #[.slice (some ⟨gg,0,none⟩) ((N+63) / 64) ((N+63) / 64),.int .i64 (N:Int)],.bool true]) ?_ rfl (.inl ⟨rfl,(some ⟨gg,0,none⟩,(N+63) / 64,(N+63) / 64),fun _=>L 0,rfl,HR5.out,HF.out,HBE.out⟩)
 exact ret_bits2 (fn:=Tryz.f234) (p:=4) (u:=5) rfl _ _ (w.heap.size+1) (by rfl) HKE.out
theorem spread_any (k:Int) (b:Sl) (bn:Int) (s i f g x:Sl) (m N:Nat) (F:Nat->Nat) (w:World) (hn:N<=1000000) (hmN:m=N\/m=1) (hN:NumV (vecW k b bn s i f g x) k m F w) :
  Calls Tryz.prog 234 #[vecW k b bn s i f g x,.int .i64 (N:Int)] w (SpOut k m N F w):=by
 by_cases hk:k=1
 ·subst hk
  by_cases h:m=N
  ·exact spread_same b bn s i f g x m N F w h hN
  ·obtain rfl:m=1:=hmN.resolve_left h
   exact spread_more b bn s i f g x N F w hn (fun e=>h e.symm) hN
 ·exact spread_no k hk b bn s i f g x m N F w
theorem rat_any (p:V8) (m i:Nat) (w:World) (hL:∀ W,Below w.heap.size w W->Calls Tryz.prog 85 #[p.v] W fun e w2=>e= .returned (.int .i64 (m:Nat))/\Below W.heap.size W w2) :
  Calls Tryz.prog 271 #[p.v,.int .i64 (i:Int)] w fun e w'=>e= .returned (.int .i64 (ixP m i:Nat))/\Below w.heap.size w w':=by
 have HL:=Lib.hid hL
 clear hL
 by_cases h:m=1
 ·have HX:Hid (ixP m i=0):=if_pos h
  have e1:((m:Int)==1)=true:=by simp;omega
  clear h
  go_enter Tryz.func271,Tryz.ntmps271
  go_wp2_with fail
  refine (HL.out _ (bel1 w _)).mono ?_
  rintro e w1 ⟨rfl,hb1⟩
  have HB:=Lib.hid (bel_both (bel1 w _) hb1)
  clear hb1
  go_wp2
  go_ret
  exact ⟨by rw [HX.out];rfl,HB.out⟩
 ·have HX:Hid (ixP m i=i):=if_neg h
  have e1:((m:Int)==1)=false:=by simp;omega
  clear h
  go_enter Tryz.func271,Tryz.ntmps271
  go_wp2_with fail
  refine (HL.out _ (bel1 w _)).mono ?_
  rintro e w1 ⟨rfl,hb1⟩
  have HB:=Lib.hid (bel_both (bel1 w _) hb1)
  clear hb1
  go_wp2
  go_ret
  exact ⟨by rw [HX.out];rfl,HB.out⟩
theorem store_bool {w:World}{a:Addr}{y:Value} (hc:w.cell? a=some y) (hf:w.frozen? a=false) (x:Bool) (m:Mode):(store a (.bool x) m).run Tryz.prog w= .ok () (w.setCell a (.bool x)):=by
 rw [run_store Tryz.prog w a _ m rfl,hc]
 simp [hf]
theorem rl_put {w W:World}{p q:V8}{f:Nat->Value}{N c:Nat}{u:Value} (h:Ar2 w p q 4 f (.bool false) N c W) (hc:c < N) (hu:f c=u):Ar2 w p q 4 f (.bool false) N (c+1) (W.setCell ⟨w.heap.size+3,c,none⟩ u):=by rw [<- hu];exact h.put hc
theorem rnumbers_any (H:Nat->Prop) (f:Int) (R:Nat->Bool) (p q:V8) (m n N:Nat) (F G:Nat->Nat) (w:World) (hH:∀ b,H b->b < w.heap.size) (hL:lenP m n=some N) (hm:m<=1000000) (hn:n<=1000000)
  (hP:∀ W,Below w.heap.size w W->NumW p.v m F W) (hQ:∀ W,Below w.heap.size w W->NumW q.v n G W)
  (hone:∀ c,c < N->∀ W,Calls Tryz.prog 272 #[.int .i64 f,.float .f64 (F (ixP m c)),.float .f64 (G (ixP n c))] W fun e w'=>e= .returned (.tuple #[.bool (R c),.int .i64 0])/\W=w') :
  Calls Tryz.prog 236 #[.int .i64 f,.int .i64 (N:Int),p.v,q.v] w (VecR H w (fun u W=>NumV u 1 N (fun c=>flagF (R c)) W)):=by
 have hNb:N<=1000000:=lenP_le hL hm hn
 have HP:=Lib.hid hP
 have HQ:=Lib.hid hQ
 have HONE:=Lib.hid hone
 have HH:=Lib.hid hH
 have HIX:=Lib.hid (fun c (hc:c < N)=>ixP_lt hL hc)
 have hmk:=run_make_row' (P:=Tryz.prog) 242 4 (.bool false) 1 Tryz.underlying242 info_bool rfl .i64 .i64 N (by omega) (by omega)
 obtain ⟨ff,hff⟩:∃ ff:Nat->Value,ff=fun c => .bool (R c):=⟨_,rfl⟩
 have HFF:Hid (∀ c,ff c= .bool (R c)):=fun c=>by rw [hff]
 clear hff
 have HA0:=Lib.hid (Ar2.new w p q 4 ff (.bool false) N (by unfold maxLen;omega))
 clear hP hQ hone hH hL
 go_enter Tryz.func236,Tryz.ntmps236
 go_wp2
 go_loopw [15] (fun j wr=>∃ c:Nat,c<=N/\j= .int .i64 c/\Ar2 w p q 4 ff (.bool false) N c wr) (fun j _=>N - (intOf j).toNat)
 case atStart=>exact ⟨0,Nat.zero_le _,rfl,HA0.out⟩
 case round =>
  clear HA0
  obtain ⟨c,hc,rfl,har⟩:=hrel
  have HAR:=Lib.hid har
  clear har
  by_cases hlt:c < N
  ·obtain ⟨hi1,hi2⟩:=HIX.out c hlt
   have HAP:=Lib.hid (fun W (hs:Ar2 w p q 4 ff (.bool false) N c W)=>rat_any p m c W (fun W' hb=>(HP.out W' (bel_both hs.st.bel hb)).len))
   have HAQ:=Lib.hid (fun W (hs:Ar2 w p q 4 ff (.bool false) N c W)=>rat_any q n c W (fun W' hb=>(HQ.out W' (bel_both hs.st.bel hb)).len))
   have HNP:=Lib.hid (fun W (hs:Ar2 w p q 4 ff (.bool false) N c W)=>(HP.out W hs.st.bel).num (ixP m c) hi1)
   have HNQ:=Lib.hid (fun W (hs:Ar2 w p q 4 ff (.bool false) N c W)=>(HQ.out W hs.st.bel).num (ixP n c) hi2)
   have HO:=Lib.hid (HONE.out c hlt)
   have HFC:=Lib.hid (HFF.out c)
   clear hi1 hi2
   generalize R c=y at HO HFC
   generalize F (ixP m c)=xa at *
   generalize G (ixP n c)=xb at *
   generalize ixP m c=ia at *
   generalize ixP n c=ib at *
   go_upto_block 1 with fail
   go_cut [10] from 17 to 36 (fun x wx=>x= .int .i64 (c:Int)/\Ar2 w p q 4 ff (.bool false) N (c+1) wx)
   case first =>
    go_wp2_with fail
    have hs0:=HAR.out.dr
    have hs00:=HAR.out
    have hss0:=hs0.st
    have hss00:=hs00.st
    have hrc:=HAR.out.fill.cell hlt
    have hrf:=HAR.out.fill.frozen c
    have hrz:w.heap.size+3 < wr.heap.size:=HAR.out.fill.low.2
    go_region_held3 (fun W=>((W.cell? ⟨w.heap.size,0,none⟩=some (.int .i64 p.k)/\W.cell? ⟨w.heap.size,1,none⟩=some (.slice p.b.1 p.b.2.1 p.b.2.2)/\W.cell? ⟨w.heap.size,2,none⟩=some (.int .i64 p.bn)/\W.cell? ⟨w.heap.size,3,none⟩=some (.slice p.s.1 p.s.2.1 p.s.2.2)/\W.cell? ⟨w.heap.size,4,none⟩=some (.slice p.i.1 p.i.2.1 p.i.2.2)/\W.cell? ⟨w.heap.size,5,none⟩=some (.slice p.f.1 p.f.2.1 p.f.2.2)/\W.cell? ⟨w.heap.size,6,none⟩=some (.slice p.c.1 p.c.2.1 p.c.2.2)/\W.cell? ⟨w.heap.size,7,none⟩=some (.slice p.x.1 p.x.2.1 p.x.2.2))/\(W.cell? ⟨w.heap.size+1,0,none⟩=some (.int .i64 q.k)/\W.cell? ⟨w.heap.size+1,1,none⟩=some (.slice q.b.1 q.b.2.1 q.b.2.2)/\W.cell? ⟨w.heap.size+1,2,none⟩=some (.int .i64 q.bn)/\W.cell? ⟨w.heap.size+1,3,none⟩=some (.slice q.s.1 q.s.2.1 q.s.2.2)/\W.cell? ⟨w.heap.size+1,4,none⟩=some (.slice q.i.1 q.i.2.1 q.i.2.2)/\W.cell? ⟨w.heap.size+1,5,none⟩=some (.slice q.f.1 q.f.2.1 q.f.2.2)/\W.cell? ⟨w.heap.size+1,6,none⟩=some (.slice q.c.1 q.c.2.1 q.c.2.2)/\W.cell? ⟨w.heap.size+1,7,none⟩=some (.slice q.x.1 q.x.2.1 q.x.2.2)))/\St2 w W p q)
     (first | (with_reducible assumption) | (with_reducible (refine st2_s ?_);repeat (first | (with_reducible assumption) | (with_reducible refine St2.dr ?_) | (with_reducible refine St2.put ?_ (by first | assumption | omega | (simp;omega)) _))))
     (first
      | (go_at_call 272;(with_reducible refine (HO.out _).mono ?_);rintro e w5 ⟨rfl,rfl⟩)
      | (go_at_call 271;(with_reducible refine (HAP.out _ ?_).mono ?_);exact Ar2.self (by repeat (first | (with_reducible assumption) | (with_reducible refine Ar2.dr ?_)));rintro e w1 ⟨rfl,hb1⟩;obtain ⟨hc1,hf1⟩:=bcell2 hb1;have hz1:=hb1.size;have hst1:Ar2 w p q 4 ff (.bool false) N c w1:=Ar2.step (by repeat (first | (with_reducible assumption) | (with_reducible refine Ar2.dr ?_))) hb1;have hss1:St2 w w1 p q:=hst1.st;have hcr1:=hst1.fill.cell hlt;have hfr1:=hst1.fill.frozen c;clear hb1)
      | (go_at_call 271;(with_reducible refine (HAQ.out _ ?_).mono ?_);exact Ar2.self (by repeat (first | (with_reducible assumption) | (with_reducible refine Ar2.dr ?_)));rintro e w2 ⟨rfl,hb2⟩;obtain ⟨hc2,hf2⟩:=bcell2 hb2;have hz2:=hb2.size;have hst2:Ar2 w p q 4 ff (.bool false) N c w2:=Ar2.step (by repeat (first | (with_reducible assumption) | (with_reducible refine Ar2.dr ?_))) hb2;have hss2:St2 w w2 p q:=hst2.st;have hcr2:=hst2.fill.cell hlt;have hfr2:=hst2.fill.frozen c;clear hb2)
      | (go_at_call 136;(with_reducible refine (HNP.out _ ?_).mono ?_);exact Ar2.self (by repeat (first | (with_reducible assumption) | (with_reducible refine Ar2.dr ?_)));rintro e w3 ⟨rfl,hb3⟩;obtain ⟨hc3,hf3⟩:=bcell2 hb3;have hz3:=hb3.size;have hst3:Ar2 w p q 4 ff (.bool false) N c w3:=Ar2.step (by repeat (first | (with_reducible assumption) | (with_reducible refine Ar2.dr ?_))) hb3;have hss3:St2 w w3 p q:=hst3.st;have hcr3:=hst3.fill.cell hlt;have hfr3:=hst3.fill.frozen c;clear hb3)
      | (go_at_call 136;(with_reducible refine (HNQ.out _ ?_).mono ?_);exact Ar2.self (by repeat (first | (with_reducible assumption) | (with_reducible refine Ar2.dr ?_)));rintro e w4 ⟨rfl,hb4⟩;obtain ⟨hc4,hf4⟩:=bcell2 hb4;have hz4:=hb4.size;have hst4:Ar2 w p q 4 ff (.bool false) N c w4:=Ar2.step (by repeat (first | (with_reducible assumption) | (with_reducible refine Ar2.dr ?_))) hb4;have hss4:St2 w w4 p q:=hst4.st;have hcr4:=hst4.fill.cell hlt;have hfr4:=hst4.fill.frozen c;clear hb4))
    all_goals
     go_wp2
     go_meet
     first
      | (with_reducible exact ⟨rfl,rl_put hst4 hlt HFC.out⟩)
      | (with_reducible exact ⟨rfl,rl_put hst3 hlt HFC.out⟩)
      | (with_reducible exact ⟨rfl,rl_put hst2 hlt HFC.out⟩)
      | (with_reducible exact ⟨rfl,rl_put hst1 hlt HFC.out⟩)
   case rest =>
    obtain ⟨rfl,har⟩:=hcut
    have HAR2:=Lib.hid har
    clear har HAR HAP HAQ HNP HNQ HO
    go_wp2
    go_roundw
    case rel=>exact ⟨c+1,by omega,by go_num,HAR2.out⟩
    case measure=>simp [intOf];omega
  ·obtain rfl:c=N:=by omega
   have HPK:=Lib.hid (pack_any (w.heap.size+3) 0 c c R (by omega) (Nat.le_refl _) wr (fun i hi=>by
    rw [Nat.zero_add,HAR.out.fill.done i hi (Nat.le_refl _),HFF.out]))
   go_wp2_with fail
   refine HPK.out.mono ?_
   rintro e w5 ⟨gg,rfl,hr5,hb5⟩
   have HS5:=Lib.hid (HAR.out.st.step hb5)
   have HGW:Hid (wr.heap.size<=gg):=hr5.low.1
   have HGS:Hid (w.heap.size+3<=wr.heap.size):=HAR.out.st.sz
   have HR5:=Lib.hid hr5
   clear hb5 hr5
   go_wp2_with fail
   refine (vbits_any _ _ _ _ _).mono ?_
   rintro e w6 ⟨rfl,hb6⟩
   have HS6:=Lib.hid (HS5.out.step hb6)
   have HR6:=Lib.hid (HR5.out.below hb6)
   clear hb6
   have HRE:=Lib.hid (set8_block HS6.out.res (.int .i64 1) (.slice (some ⟨gg,0,none⟩) ((c+63) / 64) ((c+63) / 64)) (.int .i64 (c:Int)) vnil vnil vnil vnil vnil)
   have HBE:=Lib.hid (below_set8 HS6.out.bel (Nat.le_add_right _ 2) (.int .i64 1) (.slice (some ⟨gg,0,none⟩) ((c+63) / 64) ((c+63) / 64)) (.int .i64 (c:Int)) vnil vnil vnil vnil vnil)
   have HKE:Hid (Keeps H (set8 w6 (w.heap.size+2) (.int .i64 1) (.slice (some ⟨gg,0,none⟩) ((c+63) / 64) ((c+63) / 64)) (.int .i64 (c:Int)) vnil vnil vnil vnil vnil) (NumV (vecW 1 (some ⟨gg,0,none⟩,(c+63) / 64,(c+63) / 64) (c:Int) (none,0,0) (none,0,0) (none,0,0) (none,0,0) (none,0,0)) 1 c (fun c=>flagF (R c)))):=by
    have h1:Keeps (fun j=>H j\/j=w.heap.size+2) w6 (fun W=>Reads1 W (.slice (some ⟨gg,0,none⟩) ((c+63) / 64) ((c+63) / 64)) ((List.range ((c+63) / 64)).map fun j => .int .u64 (packW R c j:Nat))) :=
     Own1.keepsH HR6.out (fun j e=>by
      have h1:=HGW.out
      have h2:=HGS.out
      rcases e with e | e
      ·have:=HH.out j e;omega
      ·omega)
    refine ((h1.imp fun W' h=>numV_bits (by omega) ⟨_,rfl,⟨gg,0,_,rfl,fun j hj=>?_⟩⟩).set8 (.inr rfl) _ _ _ _ _ _ _ _).sub fun _ _ e => .inl e
    exact reads_cell h j hj
   clear HR5 HR6
   obtain ⟨⟨h0,h1,h2,h3,h4,h5,h6,h7⟩,hz⟩:=boxed_of HS6.out.res
   go_wp2
   refine bodyPost_ret (ret_vec rfl _ _ _ rfl HRE.out) rfl ?_
   exact ⟨1,(some ⟨gg,0,none⟩,(c+63) / 64,(c+63) / 64),(c:Int),(none,0,0),(none,0,0),(none,0,0),(none,0,0),(none,0,0),rfl,HKE.out,HBE.out⟩
end Go.Proofs.YtiahegjdkejjpaaGreatDoor
