/- The walk of relate.Apply at numbers in any .. Conditions: as each theorem says. -/
import Derived.Test.YtiahegjdkejjpaaGreatDoorMg15
set_option maxRecDepth 100000
set_option maxHeartbeats 4000000
namespace Go.Proofs.YtiahegjdkejjpaaGreatDoor
open Go Go.RowKit Go.Proofs Fl
def tabRN (f:Int):Nat:=(tbR f 0).toNat+2*(tbR f 1).toNat+4*(tbR f 2).toNat+8*(tbR f 3).toNat
theorem four_bits:∀ a b c d:Bool,((a.toNat+2*b.toNat+4*c.toNat+8*d.toNat).testBit 0=a/\(a.toNat+2*b.toNat+4*c.toNat+8*d.toNat).testBit 1=b/\(a.toNat+2*b.toNat+4*c.toNat+8*d.toNat).testBit 2=c/\(a.toNat+2*b.toNat+4*c.toNat+8*d.toNat).testBit 3=d)/\a.toNat+2*b.toNat+4*c.toNat+8*d.toNat < 16:=by decide
theorem tabRN_lt (f:Int):tabRN f < 16:=(four_bits _ _ _ _).2
theorem tabRN_bit (f:Int) (j:Nat) (hj:j < 4):(tabRN f).testBit j=tbR f j:=by
 obtain ⟨⟨h0,h1,h2,h3⟩,_⟩:=four_bits (tbR f 0) (tbR f 1) (tbR f 2) (tbR f 3)
 match j,hj with
 | 0,_=>exact h0
 | 1,_=>exact h1
 | 2,_=>exact h2
 | 3,_=>exact h3
theorem rtable_fix (f:Int) (hf:11<=f) (hf2:f<=16) (w:World):Calls Tryz.prog 235 #[.int .i64 f] w fun e w'=>e= .returned (.int .u8 ((tabRN f:Nat):Int))/\w=w':=by
 refine (rtable_any f hf hf2 w).mono ?_
 rintro e w' ⟨t,rfl,⟨ht,hb⟩,rfl⟩
 have e:t=tabRN f:=by
  apply Nat.eq_of_testBit_eq
  intro j
  by_cases hj:j < 4
  ·rw [hb j hj,tabRN_bit f j hj]
  ·have h16:(16:Nat)<=2 ^ j:=Nat.pow_le_pow_right (n:=2) (by decide) (show 4<=j by omega)
   rw [Nat.testBit_lt_two_pow (Nat.lt_of_lt_of_le ht h16),Nat.testBit_lt_two_pow (Nat.lt_of_lt_of_le (tabRN_lt f) h16)]
 exact ⟨by rw [e],rfl⟩
theorem fi_toNat (t:Bool):fi ((t.toNat:Nat):Int)=flagF t:=by
 cases t
 ·exact fi_zero
 ·exact fi_one
theorem tabRN_rel (f:Int) (a b:Bool):(tabRN f).testBit (2*a.toNat+b.toNat)=relB f (flagF a) (flagF b):=by
 rw [tabRN_bit _ _ (by cases a <;> cases b <;> decide)]
 unfold tbR
 have e1:(2*a.toNat+b.toNat) / 2=a.toNat:=by cases a <;> cases b <;> rfl
 have e2:(2*a.toNat+b.toNat) % 2=b.toNat:=by cases a <;> cases b <;> rfl
 rw [e1,e2,fi_toNat,fi_toNat]
def Rl2Out (H:Nat->Prop) (w:World) (R:Nat->Bool) (r:Option Nat) (e:Ending) (w':World):Prop :=
 (r=none/\e= .returned (.tuple #[vecV 0 vnil 0 vnil vnil vnil vnil vnil,.int .i64 23])/\Below w.heap.size w w')\/(∃ N,r=some N/\VecOk H w (fun u W=>NumV u 1 N (fun c=>flagF (R c)) W) e w')
def ClsMid (w:World) (p q:V8) (x:Value) (W:World):Prop:=x= .bool false/\St2 w W p q
theorem clsMid_of {w W:World}{p q:V8} (h:St2 w W p q):ClsMid w p q (.bool false) W:=⟨rfl,h⟩
structure LdB (w0:World) (V1 V2:Nat) (b1 b2:Sl) (N:Nat) (W:World):Prop where
 one:W.heap[V1]?=some (.cells #[.slice b1.1 b1.2.1 b1.2.2,.int .i64 (N:Int)] 30)
 two:W.heap[V2]?=some (.cells #[.slice b2.1 b2.2.1 b2.2.2,.int .i64 (N:Int)] 30)
 bel:Below w0.heap.size w0 W
 old1:V1 < w0.heap.size
 old2:V2 < w0.heap.size
theorem LdB.step {w0 W W':World}{V1 V2:Nat}{b1 b2:Sl}{N:Nat} (h:LdB w0 V1 V2 b1 b2 N W) (hb:Below W.heap.size W W'):LdB w0 V1 V2 b1 b2 N W' :=
 ⟨by rw [hb.block _ (lt_of_block h.one)];exact h.one,by rw [hb.block _ (lt_of_block h.two)];exact h.two,bel_both h.bel hb,h.old1,h.old2⟩
theorem LdB.al {w0 W:World}{V1 V2:Nat}{b1 b2:Sl}{N:Nat} (h:LdB w0 V1 V2 b1 b2 N W) (o:Obj):LdB w0 V1 V2 b1 b2 N (W.alloc o):=h.step (bel1 W o)
theorem LdB.dr {w0 W:World}{V1 V2:Nat}{b1 b2:Sl}{N:Nat} (h:LdB w0 V1 V2 b1 b2 N W):LdB w0 V1 V2 b1 b2 N W.drew:=h.step (Below.refl _ W).drew
theorem LdB.put {w0 W:World}{V1 V2:Nat}{b1 b2:Sl}{N:Nat} (h:LdB w0 V1 V2 b1 b2 N W){g j:Nat} (ha:w0.heap.size<=g) (u:Value):LdB w0 V1 V2 b1 b2 N (W.setCell ⟨g,j,none⟩ u) :=
 ⟨by rw [Below.heap_setCell _ _ _ _ (by show _≠g;have:=h.old1;omega)];exact h.one,by rw [Below.heap_setCell _ _ _ _ (by show _≠g;have:=h.old2;omega)];exact h.two,h.bel.setCell (by show _<=g;omega) u,h.old1,h.old2⟩
theorem LdB.prev {w0 W W':World}{V1 V2:Nat}{b1 b2:Sl}{N:Nat} (h:LdB w0 V1 V2 b1 b2 N W) (_:Below W.heap.size W W'):Below w0.heap.size w0 W:=h.bel
theorem LdB.self {w0 W:World}{V1 V2:Nat}{b1 b2:Sl}{N:Nat} (h:LdB w0 V1 V2 b1 b2 N W):LdB w0 V1 V2 b1 b2 N W:=h
theorem ldb_s {w0 W:World}{V1 V2:Nat}{b1 b2:Sl}{N:Nat} (h:LdB w0 V1 V2 b1 b2 N W):((W.cell? ⟨V1,0,none⟩=some (.slice b1.1 b1.2.1 b1.2.2)/\W.cell? ⟨V1,1,none⟩=some (.int .i64 (N:Int)))/\(W.cell? ⟨V2,0,none⟩=some (.slice b2.1 b2.2.1 b2.2.2)/\W.cell? ⟨V2,1,none⟩=some (.int .i64 (N:Int))))/\LdB w0 V1 V2 b1 b2 N W :=
 ⟨⟨⟨(pair_of h.one).1,(pair_of h.one).2.1⟩,⟨(pair_of h.two).1,(pair_of h.two).2.1⟩⟩,h⟩
def TrMid (w0:World) (N:Nat) (l:Nat->Bool) (x y:Value) (wx:World):Prop :=
 ∃ (V g:Nat),x= .pointer (some ⟨V,0,none⟩)/\wx.heap[V]?=some (.cells #[.slice (some ⟨g,0,none⟩) ((N+63) / 64) ((N+63) / 64),.int .i64 (N:Int)] 30)/\RowU wx w0.heap.size g ((N+63) / 64) (packW l N)/\Below w0.heap.size w0 wx/\y= .bool true
theorem trMid_new {w0 W w2:World}{N:Nat}{l:Nat->Bool}{g:Nat}{V1 V2:Nat}{b1 b2:Sl} (hb:Below w0.heap.size w0 W) (hr:RowU w2 W.heap.size g ((N+63) / 64) (packW l N)) (hs:LdB w0 V1 V2 b1 b2 N w2) :
  TrMid w0 N l (.pointer (some ⟨w2.heap.size,0,none⟩)) (.bool true) (w2.alloc (.cells #[.slice (some ⟨g,0,none⟩) ((N+63) / 64) ((N+63) / 64),.int .i64 (N:Int)] 30)) :=
 ⟨w2.heap.size,g,rfl,heap_alloc_new w2 _,(hr.below (bel1 w2 _)).lower hb.size,bel_both hs.bel (bel1 w2 _),rfl⟩
theorem trMid_set {w0 W w2:World}{N:Nat}{l:Nat->Bool}{g Z:Nat}{V1 V2:Nat}{b1 b2:Sl} (hb:Below w0.heap.size w0 W) (hZ:w0.heap.size<=Z) (hZW:Z < W.heap.size) (h1:w2.heap[Z]?=some (.cells bcells 30)) (hr:RowU w2 W.heap.size g ((N+63) / 64) (packW l N)) (hs:LdB w0 V1 V2 b1 b2 N w2) :
  TrMid w0 N l (.pointer (some ⟨Z,0,none⟩)) (.bool true) (set2 w2 Z (.slice (some ⟨g,0,none⟩) ((N+63) / 64) ((N+63) / 64)) (.int .i64 (N:Int))) :=
 ⟨Z,g,rfl,set2_block h1 _ _,(own_set2 hr (by show some g≠_;have:=hr.low.1;intro e;injection e;omega) _ _).lower hb.size,below_set2 hs.bel hZ _ _,rfl⟩
theorem rapply_none (H:Nat->Prop) (f:Int) (hf:11<=f) (hf2:f<=16) (p q:V8) (m n:Nat) (F G:Nat->Nat) (R:Nat->Bool) (w:World) (hL:lenP m n=none)
  (hP:∀ W,Below w.heap.size w W->NumW p.v m F W) (hQ:∀ W,Below w.heap.size w W->NumW q.v n G W) :
  Calls Tryz.prog 168 #[.int .i64 f,p.v,q.v] w (Rl2Out H w R (lenP m n)):=by
 have HLP:=Lib.hid (fun W (hs:St2 w W p q)=>(hP W hs.bel).len)
 have HLQ:=Lib.hid (fun W (hs:St2 w W p q)=>(hQ W hs.bel).len)
 have HCP:=Lib.hid (fun W (hs:St2 w W p q)=>(hP W hs.bel).cls)
 have HCQ:=Lib.hid (fun W (hs:St2 w W p q)=>(hQ W hs.bel).cls)
 have HLL:=Lib.hid (fun W=>length_any m n W)
 have HS0:=Lib.hid (St2.new w p q)
 obtain ⟨L,ok,hL1,hL2⟩:∃ L ok,L=(lenP m n).getD 0/\ok=(lenP m n).isSome:=⟨_,_,rfl,rfl⟩
 rw [<- hL1,<- hL2] at HLL
 obtain rfl:ok=false:=by rw [hL2,hL];rfl
 have HLN:=Lib.hid hL
 clear hL1 hL2 hL hP hQ
 go_enter Tryz.func168,Tryz.ntmps168
 go_wp2_with fail
 obtain ⟨w0,hw0⟩:∃ w0,w0=((w.alloc p.o).alloc q.o).alloc (.cells zcells 37):=⟨_,rfl⟩
 rw [<- hw0] at HS0 ⊢
 clear hw0
 go_cut [8,9] from 22 (fun x y wx=>LenMid w p q L false x y wx)
 case first =>
  have hs0:=HS0.out.dr
  have hs00:=HS0.out
  go_region_held3 (fun W=>((W.cell? ⟨w.heap.size,0,none⟩=some (.int .i64 p.k)/\W.cell? ⟨w.heap.size,1,none⟩=some (.slice p.b.1 p.b.2.1 p.b.2.2)/\W.cell? ⟨w.heap.size,2,none⟩=some (.int .i64 p.bn)/\W.cell? ⟨w.heap.size,3,none⟩=some (.slice p.s.1 p.s.2.1 p.s.2.2)/\W.cell? ⟨w.heap.size,4,none⟩=some (.slice p.i.1 p.i.2.1 p.i.2.2)/\W.cell? ⟨w.heap.size,5,none⟩=some (.slice p.f.1 p.f.2.1 p.f.2.2)/\W.cell? ⟨w.heap.size,6,none⟩=some (.slice p.c.1 p.c.2.1 p.c.2.2)/\W.cell? ⟨w.heap.size,7,none⟩=some (.slice p.x.1 p.x.2.1 p.x.2.2))/\(W.cell? ⟨w.heap.size+1,0,none⟩=some (.int .i64 q.k)/\W.cell? ⟨w.heap.size+1,1,none⟩=some (.slice q.b.1 q.b.2.1 q.b.2.2)/\W.cell? ⟨w.heap.size+1,2,none⟩=some (.int .i64 q.bn)/\W.cell? ⟨w.heap.size+1,3,none⟩=some (.slice q.s.1 q.s.2.1 q.s.2.2)/\W.cell? ⟨w.heap.size+1,4,none⟩=some (.slice q.i.1 q.i.2.1 q.i.2.2)/\W.cell? ⟨w.heap.size+1,5,none⟩=some (.slice q.f.1 q.f.2.1 q.f.2.2)/\W.cell? ⟨w.heap.size+1,6,none⟩=some (.slice q.c.1 q.c.2.1 q.c.2.2)/\W.cell? ⟨w.heap.size+1,7,none⟩=some (.slice q.x.1 q.x.2.1 q.x.2.2)))/\St2 w W p q)
   (first | (with_reducible assumption) | (with_reducible (refine st2_s ?_);repeat (first | (with_reducible assumption) | (with_reducible refine St2.dr ?_))))
   (first
    | (go_at_call 211;(with_reducible refine (HLL.out _).mono ?_);rintro e w5 ⟨rfl,rfl⟩)
    | (go_at_call 85;(with_reducible refine (HLP.out _ ?_).mono ?_);exact St2.self (by repeat (first | (with_reducible assumption) | (with_reducible refine St2.dr ?_)));rintro e w1 ⟨rfl,hb1⟩;obtain ⟨hc1,hf1⟩:=bcell2 hb1;have hz1:=hb1.size;have hst1:St2 w w1 p q:=St2.step (by repeat (first | (with_reducible assumption) | (with_reducible refine St2.dr ?_))) hb1;clear hb1)
    | (go_at_call 85;(with_reducible refine (HLQ.out _ ?_).mono ?_);exact St2.self (by repeat (first | (with_reducible assumption) | (with_reducible refine St2.dr ?_)));rintro e w2 ⟨rfl,hb2⟩;obtain ⟨hc2,hf2⟩:=bcell2 hb2;have hz2:=hb2.size;have hst2:St2 w w2 p q:=St2.step (by repeat (first | (with_reducible assumption) | (with_reducible refine St2.dr ?_))) hb2;clear hb2))
  all_goals
   go_wp2
   go_meet
   first
    | (with_reducible exact lenMid_of hst2)
    | (with_reducible exact lenMid_of hst1)
 obtain ⟨rfl,rfl,hst⟩:=hcut
 have HST:=Lib.hid hst
 clear hst HS0 HLP HLQ HLL
 obtain ⟨⟨h0,h1,h2,h3,h4,h5,h6,h7⟩,hz⟩:=boxed_of HST.out.res
 go_wp2
 refine bodyPost_ret (v := .tuple #[vecV 0 vnil 0 vnil vnil vnil vnil vnil,.int .i64 23]) ?_ rfl (.inl ⟨HLN.out,rfl,below_set8 HST.out.bel (Nat.le_add_right _ 2) _ _ _ _ _ _ _ _⟩)
 exact ret_vec2 (fn:=Tryz.f168) (p:=6) (u:=7) rfl _ _ (w.heap.size+2) (by rfl) (set8_block HST.out.res _ _ _ _ _ _ _ _)
theorem rapply_some (H:Nat->Prop) (f:Int) (hf:11<=f) (hf2:f<=16) (p q:V8) (m n:Nat) (F G:Nat->Nat) (R:Nat->Bool) (w:World) (N:Nat) (hH:∀ b,H b->b < w.heap.size) (hL:lenP m n=some N) (hNb:N<=1000000)
  (hSP:∀ W,Below w.heap.size w W->Calls Tryz.prog 234 #[p.v,.int .i64 (N:Int)] W (SpOut p.k m N F W))
  (hSQ:∀ W,Below w.heap.size w W->Calls Tryz.prog 234 #[q.v,.int .i64 (N:Int)] W (SpOut q.k n N G W))
  (hNU:∀ (W:World) (H':Nat->Prop),Below w.heap.size w W->(∀ b,H' b->b < W.heap.size)->Calls Tryz.prog 236 #[.int .i64 f,.int .i64 (N:Int),p.v,q.v] W (VecR H' W (fun u W'=>NumV u 1 N (fun c=>flagF (R c)) W')))
  (hTR:∀ (W:World) (b1 b2:Sl) (L1 L2:Nat->Bool),BitsAt W b1 N L1->BitsAt W b2 N L2->(∀ j,j < N->F (ixP m j)=flagF (L1 j))->(∀ j,j < N->G (ixP n j)=flagF (L2 j))->Calls Tryz.prog 214 #[.int .u8 ((tabRN f:Nat):Int),.agg #[.slice b1.1 b1.2.1 b1.2.2,.int .i64 (N:Int)],.agg #[.slice b2.1 b2.2.1 b2.2.2,.int .i64 (N:Int)]] W fun e w'=>∃ g,e= .returned (.tuple #[.agg #[.slice (some ⟨g,0,none⟩) ((N+63) / 64) ((N+63) / 64),.int .i64 (N:Int)],.bool true])/\RowU w' W.heap.size g ((N+63) / 64) (packW R N)/\Below W.heap.size W w')
  (hP:∀ W,Below w.heap.size w W->NumW p.v m F W) (hQ:∀ W,Below w.heap.size w W->NumW q.v n G W) :
  Calls Tryz.prog 168 #[.int .i64 f,p.v,q.v] w (Rl2Out H w R (lenP m n)):=by
 have HLP:=Lib.hid (fun W (hs:St2 w W p q)=>(hP W hs.bel).len)
 have HLQ:=Lib.hid (fun W (hs:St2 w W p q)=>(hQ W hs.bel).len)
 have HCP:=Lib.hid (fun W (hs:St2 w W p q)=>(hP W hs.bel).cls)
 have HCQ:=Lib.hid (fun W (hs:St2 w W p q)=>(hQ W hs.bel).cls)
 have HLL:=Lib.hid (fun W=>length_any m n W)
 have HS0:=Lib.hid (St2.new w p q)
 obtain ⟨L,ok,hL1,hL2⟩:∃ L ok,L=(lenP m n).getD 0/\ok=(lenP m n).isSome:=⟨_,_,rfl,rfl⟩
 rw [<- hL1,<- hL2] at HLL
 obtain rfl:ok=true:=by rw [hL2,hL];rfl
 obtain rfl:N=L:=by rw [hL1,hL];rfl
 have HLN:=Lib.hid hL
 have HH:=Lib.hid hH
 have HSP:=Lib.hid hSP
 have HSQ:=Lib.hid hSQ
 have HNU:=Lib.hid hNU
 have HTR:=Lib.hid hTR
 have HNB:=Lib.hid hNb
 have HTB:=Lib.hid (fun W=>rtable_fix f hf hf2 W)
 unfold SpOut at HSP HSQ
 unfold VecR at HNU
 clear hL1 hL2 hL hP hQ hH hSP hSQ hNU hTR hNb
 go_enter Tryz.func168,Tryz.ntmps168
 go_wp2_with fail
 obtain ⟨w0,hw0⟩:∃ w0,w0=((w.alloc p.o).alloc q.o).alloc (.cells zcells 37):=⟨_,rfl⟩
 rw [<- hw0] at HS0 ⊢
 clear hw0
 go_cut [8,9] from 22 (fun x y wx=>LenMid w p q N true x y wx)
 case first =>
  have hs0:=HS0.out.dr
  have hs00:=HS0.out
  go_region_held3 (fun W=>((W.cell? ⟨w.heap.size,0,none⟩=some (.int .i64 p.k)/\W.cell? ⟨w.heap.size,1,none⟩=some (.slice p.b.1 p.b.2.1 p.b.2.2)/\W.cell? ⟨w.heap.size,2,none⟩=some (.int .i64 p.bn)/\W.cell? ⟨w.heap.size,3,none⟩=some (.slice p.s.1 p.s.2.1 p.s.2.2)/\W.cell? ⟨w.heap.size,4,none⟩=some (.slice p.i.1 p.i.2.1 p.i.2.2)/\W.cell? ⟨w.heap.size,5,none⟩=some (.slice p.f.1 p.f.2.1 p.f.2.2)/\W.cell? ⟨w.heap.size,6,none⟩=some (.slice p.c.1 p.c.2.1 p.c.2.2)/\W.cell? ⟨w.heap.size,7,none⟩=some (.slice p.x.1 p.x.2.1 p.x.2.2))/\(W.cell? ⟨w.heap.size+1,0,none⟩=some (.int .i64 q.k)/\W.cell? ⟨w.heap.size+1,1,none⟩=some (.slice q.b.1 q.b.2.1 q.b.2.2)/\W.cell? ⟨w.heap.size+1,2,none⟩=some (.int .i64 q.bn)/\W.cell? ⟨w.heap.size+1,3,none⟩=some (.slice q.s.1 q.s.2.1 q.s.2.2)/\W.cell? ⟨w.heap.size+1,4,none⟩=some (.slice q.i.1 q.i.2.1 q.i.2.2)/\W.cell? ⟨w.heap.size+1,5,none⟩=some (.slice q.f.1 q.f.2.1 q.f.2.2)/\W.cell? ⟨w.heap.size+1,6,none⟩=some (.slice q.c.1 q.c.2.1 q.c.2.2)/\W.cell? ⟨w.heap.size+1,7,none⟩=some (.slice q.x.1 q.x.2.1 q.x.2.2)))/\St2 w W p q)
   (first | (with_reducible assumption) | (with_reducible (refine st2_s ?_);repeat (first | (with_reducible assumption) | (with_reducible refine St2.dr ?_))))
   (first
    | (go_at_call 211;(with_reducible refine (HLL.out _).mono ?_);rintro e w5 ⟨rfl,rfl⟩)
    | (go_at_call 85;(with_reducible refine (HLP.out _ ?_).mono ?_);exact St2.self (by repeat (first | (with_reducible assumption) | (with_reducible refine St2.dr ?_)));rintro e w1 ⟨rfl,hb1⟩;obtain ⟨hc1,hf1⟩:=bcell2 hb1;have hz1:=hb1.size;have hst1:St2 w w1 p q:=St2.step (by repeat (first | (with_reducible assumption) | (with_reducible refine St2.dr ?_))) hb1;clear hb1)
    | (go_at_call 85;(with_reducible refine (HLQ.out _ ?_).mono ?_);exact St2.self (by repeat (first | (with_reducible assumption) | (with_reducible refine St2.dr ?_)));rintro e w2 ⟨rfl,hb2⟩;obtain ⟨hc2,hf2⟩:=bcell2 hb2;have hz2:=hb2.size;have hst2:St2 w w2 p q:=St2.step (by repeat (first | (with_reducible assumption) | (with_reducible refine St2.dr ?_))) hb2;clear hb2))
  all_goals
   go_wp2
   go_meet
   first
    | (with_reducible exact lenMid_of hst2)
    | (with_reducible exact lenMid_of hst1)
 obtain ⟨rfl,rfl,hst⟩:=hcut
 have HST:=Lib.hid hst
 clear hst HS0 HLP HLQ HLL
 obtain ⟨h0,h1,h2,h3,h4,h5,h6,h7⟩:=HST.out.one
 go_wp2_with fail
 refine (HCP.out _ HST.out).mono ?_
 rintro e w3 ⟨rfl,hb3⟩
 have HS3:=Lib.hid (HST.out.step hb3)
 clear hb3 h0 h1 h2 h3 h4 h5 h6 h7 HST
 obtain ⟨h0,h1,h2,h3,h4,h5,h6,h7⟩:=HS3.out.two
 go_wp2_with fail
 refine (HCQ.out _ HS3.out).mono ?_
 rintro e w4 ⟨rfl,hb4⟩
 have HS4:=Lib.hid (HS3.out.step hb4)
 clear hb4 h0 h1 h2 h3 h4 h5 h6 h7 HS3
 go_wp2_with fail
 go_cut [51] from 42 to 50 (fun x wx=>ClsMid w p q x wx)
 case first =>
  have hs0:=HS4.out.dr
  have hs00:=HS4.out
  go_region_held3 (fun W=>((W.cell? ⟨w.heap.size,0,none⟩=some (.int .i64 p.k)/\W.cell? ⟨w.heap.size,1,none⟩=some (.slice p.b.1 p.b.2.1 p.b.2.2)/\W.cell? ⟨w.heap.size,2,none⟩=some (.int .i64 p.bn)/\W.cell? ⟨w.heap.size,3,none⟩=some (.slice p.s.1 p.s.2.1 p.s.2.2)/\W.cell? ⟨w.heap.size,4,none⟩=some (.slice p.i.1 p.i.2.1 p.i.2.2)/\W.cell? ⟨w.heap.size,5,none⟩=some (.slice p.f.1 p.f.2.1 p.f.2.2)/\W.cell? ⟨w.heap.size,6,none⟩=some (.slice p.c.1 p.c.2.1 p.c.2.2)/\W.cell? ⟨w.heap.size,7,none⟩=some (.slice p.x.1 p.x.2.1 p.x.2.2))/\(W.cell? ⟨w.heap.size+1,0,none⟩=some (.int .i64 q.k)/\W.cell? ⟨w.heap.size+1,1,none⟩=some (.slice q.b.1 q.b.2.1 q.b.2.2)/\W.cell? ⟨w.heap.size+1,2,none⟩=some (.int .i64 q.bn)/\W.cell? ⟨w.heap.size+1,3,none⟩=some (.slice q.s.1 q.s.2.1 q.s.2.2)/\W.cell? ⟨w.heap.size+1,4,none⟩=some (.slice q.i.1 q.i.2.1 q.i.2.2)/\W.cell? ⟨w.heap.size+1,5,none⟩=some (.slice q.f.1 q.f.2.1 q.f.2.2)/\W.cell? ⟨w.heap.size+1,6,none⟩=some (.slice q.c.1 q.c.2.1 q.c.2.2)/\W.cell? ⟨w.heap.size+1,7,none⟩=some (.slice q.x.1 q.x.2.1 q.x.2.2)))/\St2 w W p q)
   (first | (with_reducible assumption) | (with_reducible (refine st2_s ?_);repeat (first | (with_reducible assumption) | (with_reducible refine St2.dr ?_))))
   (first
    | (go_at_call 58;(with_reducible refine (HCP.out _ ?_).mono ?_);exact St2.self (by repeat (first | (with_reducible assumption) | (with_reducible refine St2.dr ?_)));rintro e w1 ⟨rfl,hb1⟩;obtain ⟨hc1,hf1⟩:=bcell2 hb1;have hz1:=hb1.size;have hst1:St2 w w1 p q:=St2.step (by repeat (first | (with_reducible assumption) | (with_reducible refine St2.dr ?_))) hb1;clear hb1)
    | (go_at_call 58;(with_reducible refine (HCQ.out _ ?_).mono ?_);exact St2.self (by repeat (first | (with_reducible assumption) | (with_reducible refine St2.dr ?_)));rintro e w2 ⟨rfl,hb2⟩;obtain ⟨hc2,hf2⟩:=bcell2 hb2;have hz2:=hb2.size;have hst2:St2 w w2 p q:=St2.step (by repeat (first | (with_reducible assumption) | (with_reducible refine St2.dr ?_))) hb2;clear hb2))
  all_goals
   go_wp2
   go_meet
   first
    | (with_reducible exact clsMid_of hst2)
    | (with_reducible exact clsMid_of hst1)
 obtain ⟨rfl,hst⟩:=hcut
 have HS5:=Lib.hid hst
 clear hst HS4
 obtain ⟨h0,h1,h2,h3,h4,h5,h6,h7⟩:=HS5.out.one
 go_wp2_with fail
 refine (HSP.out _ HS5.out.bel).mono ?_
 clear h0 h1 h2 h3 h4 h5 h6 h7
 rintro e w6 (⟨-,b1,L1,rfl,hat1,hf1,hb6⟩ | ⟨-,rfl,hb6⟩)
 ·have HS7:=Lib.hid ((HS5.out.step hb6).al (.cells #[.slice b1.1 b1.2.1 b1.2.2,.int .i64 (N:Int)] 30))
  have HAT1:=Lib.hid (hat1.below (bel1 w6 (.cells #[.slice b1.1 b1.2.1 b1.2.2,.int .i64 (N:Int)] 30)))
  have HV1:=Lib.hid (heap_alloc_new w6 (.cells #[.slice b1.1 b1.2.1 b1.2.2,.int .i64 (N:Int)] 30))
  clear hb6 hat1
  obtain ⟨h0,h1,h2,h3,h4,h5,h6,h7⟩:=HS7.out.two
  go_wp2_with fail
  refine (HSQ.out _ HS7.out.bel).mono ?_
  clear h0 h1 h2 h3 h4 h5 h6 h7
  rintro e w7 (⟨-,b2,L2,rfl,hat2,hf2,hb7⟩ | ⟨-,rfl,hb7⟩)
  ·have HA1:=Lib.hid ((HAT1.out.below hb7).below (bel1 w7 (.cells #[.slice b2.1 b2.2.1 b2.2.2,.int .i64 (N:Int)] 30)))
   have HA2:=Lib.hid (hat2.below (bel1 w7 (.cells #[.slice b2.1 b2.2.1 b2.2.2,.int .i64 (N:Int)] 30)))
   have HF1:=Lib.hid hf1
   have HF2:=Lib.hid hf2
   have HS8:=Lib.hid ((HS7.out.step hb7).al (.cells #[.slice b2.1 b2.2.1 b2.2.2,.int .i64 (N:Int)] 30))
   have HV2:=Lib.hid (heap_alloc_new w7 (.cells #[.slice b2.1 b2.2.1 b2.2.2,.int .i64 (N:Int)] 30))
   have HV1':=Lib.hid (show (w7.alloc (.cells #[.slice b2.1 b2.2.1 b2.2.2,.int .i64 (N:Int)] 30)).heap[w6.heap.size]?=some (.cells #[.slice b1.1 b1.2.1 b1.2.2,.int .i64 (N:Int)] 30) by rw [Below.heap_alloc _ _ _ (by have:=hb7.size;have:=lt_of_block HV1.out;omega),hb7.block _ (lt_of_block HV1.out)];exact HV1.out)
   clear hb7 hat2 hf1 hf2
   go_wp2_with fail
   obtain ⟨w0,hw0⟩:∃ w0,w0=w7.alloc (.cells #[.slice b2.1 b2.2.1 b2.2.2,.int .i64 (N:Int)] 30):=⟨_,rfl⟩
   rw [<- hw0] at HA1 HA2 HS8 HV2 HV1' ⊢
   clear hw0
   have HLD:=Lib.hid (⟨HV1'.out,HV2.out,Below.refl _ _,lt_of_block HV1'.out,lt_of_block HV2.out⟩:LdB w0 w6.heap.size w7.heap.size b1 b2 N w0)
   have HTT:=Lib.hid (fun W (hs:LdB w0 w6.heap.size w7.heap.size b1 b2 N W)=>HTR.out W b1 b2 L1 L2 (HA1.out.below hs.bel) (HA2.out.below hs.bel) HF1.out HF2.out)
   obtain ⟨V1,hV1⟩:∃ V,V=w6.heap.size:=⟨_,rfl⟩
   obtain ⟨V2,hV2⟩:∃ V,V=w7.heap.size:=⟨_,rfl⟩
   rw [<- hV1,<- hV2] at HLD HTT
   rw [<- hV1,<- hV2]
   clear hV1 hV2
   go_cut [13,14] from 75 (fun x y wx=>TrMid w0 N R x y wx)
   case first =>
    have hs0:=HLD.out.dr
    have hs00:=HLD.out
    go_region_held3 (fun W=>((W.cell? ⟨V1,0,none⟩=some (.slice b1.1 b1.2.1 b1.2.2)/\W.cell? ⟨V1,1,none⟩=some (.int .i64 (N:Int)))/\(W.cell? ⟨V2,0,none⟩=some (.slice b2.1 b2.2.1 b2.2.2)/\W.cell? ⟨V2,1,none⟩=some (.int .i64 (N:Int))))/\LdB w0 V1 V2 b1 b2 N W)
     (first | (with_reducible assumption) | (with_reducible (refine ldb_s ?_);repeat (first | (with_reducible assumption) | (with_reducible refine LdB.dr ?_) | (with_reducible refine LdB.put ?_ (by first | assumption | omega | (simp;omega)) _) | (with_reducible refine LdB.al ?_ _))))
     (first
      | (go_at_call 235;(with_reducible refine (HTB.out _).mono ?_);rintro e w5 ⟨rfl,rfl⟩)
      | (go_at_call 214;(with_reducible refine (HTT.out _ ?_).mono ?_);exact LdB.self (by repeat (first | (with_reducible assumption) | (with_reducible refine LdB.dr ?_) | (with_reducible refine LdB.put ?_ (by first | assumption | omega | (simp;omega)) _) | (with_reducible refine LdB.al ?_ _)));rintro e w8 ⟨g8,rfl,hr8,hb8⟩;obtain ⟨hc8,hf8⟩:=bcell2 hb8;have hz8:=hb8.size;have hst8:LdB w0 V1 V2 b1 b2 N w8:=LdB.step (by repeat (first | (with_reducible assumption) | (with_reducible refine LdB.dr ?_) | (with_reducible refine LdB.put ?_ (by first | assumption | omega | (simp;omega)) _) | (with_reducible refine LdB.al ?_ _))) hb8;have hpv8:=LdB.prev (w0:=w0) (V1:=V1) (V2:=V2) (b1:=b1) (b2:=b2) (N:=N) (by repeat (first | (with_reducible assumption) | (with_reducible refine LdB.dr ?_) | (with_reducible refine LdB.put ?_ (by first | assumption | omega | (simp;omega)) _) | (with_reducible refine LdB.al ?_ _))) hb8;have HB8:=Lib.hid hb8;have HR8:=Lib.hid hr8;have HPV8:=Lib.hid hpv8;clear hb8 hr8 hpv8))
    all_goals
     go_wp2
     go_meet
     first
      | (with_reducible exact trMid_new HPV8.out HR8.out hst8)
      | (with_reducible exact trMid_set HPV8.out (Nat.le_refl _) (lt_al _ _) (blk_al HB8.out) HR8.out hst8)
      | (with_reducible exact trMid_set HPV8.out (Nat.le_refl _) (lt_dr _ _) (blk_dr HB8.out) HR8.out hst8)
      | (with_reducible exact trMid_set HPV8.out (le_dr _) (lt_al _ _) (blk_al HB8.out) HR8.out hst8)
      | (with_reducible exact trMid_set HPV8.out (le_dr _) (lt_dr _ _) (blk_dr HB8.out) HR8.out hst8)
   obtain ⟨V,g8,rfl,hV,hr,hb,rfl⟩:=hcut
   have HS9:=Lib.hid (HS8.out.step hb)
   have HR9:=Lib.hid hr
   have HW0:=Lib.hid HS8.out.sz
   obtain ⟨hv0,hv1,hvf⟩:=pair_of hV
   clear hr hb hV
   go_wp2_with fail
   refine (vbits_any _ _ _ _ _).mono ?_
   rintro e w10 ⟨rfl,hb10⟩
   have HS10:=Lib.hid (HS9.out.step hb10)
   have HR10:=Lib.hid (HR9.out.below hb10)
   clear hb10 hv0 hv1 hvf
   have HRE:=Lib.hid (set8_block HS10.out.res (.int .i64 1) (.slice (some ⟨g8,0,none⟩) ((N+63) / 64) ((N+63) / 64)) (.int .i64 (N:Int)) vnil vnil vnil vnil vnil)
   have HBE:=Lib.hid (below_set8 HS10.out.bel (Nat.le_add_right _ 2) (.int .i64 1) (.slice (some ⟨g8,0,none⟩) ((N+63) / 64) ((N+63) / 64)) (.int .i64 (N:Int)) vnil vnil vnil vnil vnil)
   have HKE:Hid (Keeps H (set8 w10 (w.heap.size+2) (.int .i64 1) (.slice (some ⟨g8,0,none⟩) ((N+63) / 64) ((N+63) / 64)) (.int .i64 (N:Int)) vnil vnil vnil vnil vnil) (NumV (vecW 1 (some ⟨g8,0,none⟩,(N+63) / 64,(N+63) / 64) (N:Int) (none,0,0) (none,0,0) (none,0,0) (none,0,0) (none,0,0)) 1 N (fun c=>flagF (R c)))):=by
    have h1:Keeps (fun j=>H j\/j=w.heap.size+2) w10 (fun W=>Reads1 W (.slice (some ⟨g8,0,none⟩) ((N+63) / 64) ((N+63) / 64)) ((List.range ((N+63) / 64)).map fun j => .int .u64 (packW R N j:Nat))) :=
     Own1.keepsH HR10.out (fun j e=>by
      have h2:=HW0.out
      rcases e with e | e
      ·have:=HH.out j e;omega
      ·omega)
    refine ((h1.imp fun W' h=>numV_bits (by have:=HNB.out;omega) ⟨_,rfl,⟨g8,0,_,rfl,fun j hj=>?_⟩⟩).set8 (.inr rfl) _ _ _ _ _ _ _ _).sub fun _ _ e => .inl e
    exact reads_cell h j hj
   clear HR9 HR10
   obtain ⟨⟨h0,h1,h2,h3,h4,h5,h6,h7⟩,hz⟩:=boxed_of HS10.out.res
   go_wp2
   refine bodyPost_ret (v := .tuple #[vecW 1 (some ⟨g8,0,none⟩,(N+63) / 64,(N+63) / 64) (N:Int) (none,0,0) (none,0,0) (none,0,0) (none,0,0) (none,0,0),.int .i64 0]) ?_ rfl (.inr ⟨_,HLN.out,1,(some ⟨g8,0,none⟩,(N+63) / 64,(N+63) / 64),(N:Int),(none,0,0),(none,0,0),(none,0,0),(none,0,0),(none,0,0),rfl,HKE.out,HBE.out⟩)
   exact ret_vec2 (fn:=Tryz.f168) (p:=6) (u:=7) rfl _ _ (w.heap.size+2) (by rfl) HRE.out
  ·have HS8:=Lib.hid ((HS7.out.step hb7).al (.cells bcells 30))
   clear hb7
   obtain ⟨h0,h1,h2,h3,h4,h5,h6,h7⟩:=HS8.out.one
   obtain ⟨g0,g1,g2,g3,g4,g5,g6,g7⟩:=HS8.out.two
   go_wp2_with fail
   refine (HNU.out _ (fun j=>H j\/j=w.heap.size+2) HS8.out.bel (fun j e=>by
    have h1:=HS8.out.sz
    rcases e with e | e
    ·have:=HH.out j e;omega
    ·omega)).mono ?_
   clear h0 h1 h2 h3 h4 h5 h6 h7 g0 g1 g2 g3 g4 g5 g6 g7
   rintro e w9 ⟨k5,b5,bn5,s5,i5,f5,c5,x5,rfl,hk9,hb9⟩
   have HS9:=Lib.hid (HS8.out.step hb9)
   have HKE:=Lib.hid hk9
   clear hb9 hk9
   obtain ⟨⟨h0,h1,h2,h3,h4,h5,h6,h7⟩,hz⟩:=boxed_of HS9.out.res
   go_wp2
   refine bodyPost_ret (v := .tuple #[vecW k5 b5 bn5 s5 i5 f5 c5 x5,.int .i64 0]) ?_ rfl (.inr ⟨_,HLN.out,k5,b5,bn5,s5,i5,f5,c5,x5,rfl,(HKE.out.set8 (.inr rfl) _ _ _ _ _ _ _ _).sub (fun _ _ e => .inl e),below_set8 HS9.out.bel (Nat.le_add_right _ 2) _ _ _ _ _ _ _ _⟩)
   exact ret_vec2 (fn:=Tryz.f168) (p:=6) (u:=7) rfl _ _ (w.heap.size+2) (by rfl) (set8_block HS9.out.res _ _ _ _ _ _ _ _)
 ·have HS7:=Lib.hid ((HS5.out.step hb6).al (.cells bcells 30))
  clear hb6
  obtain ⟨h0,h1,h2,h3,h4,h5,h6,h7⟩:=HS7.out.two
  go_wp2_with fail
  refine (HSQ.out _ HS7.out.bel).mono ?_
  clear h0 h1 h2 h3 h4 h5 h6 h7
  rintro e w7 (⟨-,b2,L2,rfl,hat2,hf2,hb7⟩ | ⟨-,rfl,hb7⟩)
  ·have HS8:=Lib.hid ((HS7.out.step hb7).al (.cells #[.slice b2.1 b2.2.1 b2.2.2,.int .i64 (N:Int)] 30))
   clear hb7 hat2 hf2
   obtain ⟨h0,h1,h2,h3,h4,h5,h6,h7⟩:=HS8.out.one
   obtain ⟨g0,g1,g2,g3,g4,g5,g6,g7⟩:=HS8.out.two
   go_wp2_with fail
   refine (HNU.out _ (fun j=>H j\/j=w.heap.size+2) HS8.out.bel (fun j e=>by
    have h1:=HS8.out.sz
    rcases e with e | e
    ·have:=HH.out j e;omega
    ·omega)).mono ?_
   clear h0 h1 h2 h3 h4 h5 h6 h7 g0 g1 g2 g3 g4 g5 g6 g7
   rintro e w9 ⟨k5,b5,bn5,s5,i5,f5,c5,x5,rfl,hk9,hb9⟩
   have HS9:=Lib.hid (HS8.out.step hb9)
   have HKE:=Lib.hid hk9
   clear hb9 hk9
   obtain ⟨⟨h0,h1,h2,h3,h4,h5,h6,h7⟩,hz⟩:=boxed_of HS9.out.res
   go_wp2
   refine bodyPost_ret (v := .tuple #[vecW k5 b5 bn5 s5 i5 f5 c5 x5,.int .i64 0]) ?_ rfl (.inr ⟨_,HLN.out,k5,b5,bn5,s5,i5,f5,c5,x5,rfl,(HKE.out.set8 (.inr rfl) _ _ _ _ _ _ _ _).sub (fun _ _ e => .inl e),below_set8 HS9.out.bel (Nat.le_add_right _ 2) _ _ _ _ _ _ _ _⟩)
   exact ret_vec2 (fn:=Tryz.f168) (p:=6) (u:=7) rfl _ _ (w.heap.size+2) (by rfl) (set8_block HS9.out.res _ _ _ _ _ _ _ _)
  ·have HS8:=Lib.hid ((HS7.out.step hb7).al (.cells bcells 30))
   clear hb7
   obtain ⟨h0,h1,h2,h3,h4,h5,h6,h7⟩:=HS8.out.one
   obtain ⟨g0,g1,g2,g3,g4,g5,g6,g7⟩:=HS8.out.two
   go_wp2_with fail
   refine (HNU.out _ (fun j=>H j\/j=w.heap.size+2) HS8.out.bel (fun j e=>by
    have h1:=HS8.out.sz
    rcases e with e | e
    ·have:=HH.out j e;omega
    ·omega)).mono ?_
   clear h0 h1 h2 h3 h4 h5 h6 h7 g0 g1 g2 g3 g4 g5 g6 g7
   rintro e w9 ⟨k5,b5,bn5,s5,i5,f5,c5,x5,rfl,hk9,hb9⟩
   have HS9:=Lib.hid (HS8.out.step hb9)
   have HKE:=Lib.hid hk9
   clear hb9 hk9
   obtain ⟨⟨h0,h1,h2,h3,h4,h5,h6,h7⟩,hz⟩:=boxed_of HS9.out.res
   go_wp2
   refine bodyPost_ret (v := .tuple #[vecW k5 b5 bn5 s5 i5 f5 c5 x5,.int .i64 0]) ?_ rfl (.inr ⟨_,HLN.out,k5,b5,bn5,s5,i5,f5,c5,x5,rfl,(HKE.out.set8 (.inr rfl) _ _ _ _ _ _ _ _).sub (fun _ _ e => .inl e),below_set8 HS9.out.bel (Nat.le_add_right _ 2) _ _ _ _ _ _ _ _⟩)
   exact ret_vec2 (fn:=Tryz.f168) (p:=6) (u:=7) rfl _ _ (w.heap.size+2) (by rfl) (set8_block HS9.out.res _ _ _ _ _ _ _ _)
theorem packW_congr {l l':Nat->Bool}{n:Nat} (h:∀ j,j < n->l j=l' j) (i:Nat):packW l n i=packW l' n i:=by
 apply Nat.eq_of_testBit_eq
 intro m
 by_cases hm:m < 64
 ·rw [packW_bit _ _ _ _ hm,packW_bit _ _ _ _ hm]
  by_cases hj:64*i+m < n
  ·rw [h _ hj]
  ·simp [hj]
 ·rw [packW_high _ _ _ _ hm,packW_high _ _ _ _ hm]
theorem lenP_ok {m n N:Nat} (h:lenP m n=some N):(m=N\/m=1)/\(n=N\/n=1):=by
 unfold lenP at h
 split at h
 ·injection h with h;omega
 ·split at h
  ·injection h with h;omega
  ·split at h
   ·injection h with h;omega
   ·cases h
theorem rapply_any (H:Nat->Prop) (f:Int) (hf:11<=f) (hf2:f<=16) (p q:V8) (m n:Nat) (F G:Nat->Nat) (w:World) (hH:∀ b,H b->b < w.heap.size) (hm:m<=1000000) (hn:n<=1000000)
  (hP:∀ W,Below w.heap.size w W->NumV p.v p.k m F W) (hQ:∀ W,Below w.heap.size w W->NumV q.v q.k n G W) :
  Calls Tryz.prog 168 #[.int .i64 f,p.v,q.v] w (Rl2Out H w (fun c=>relB f (F (ixP m c)) (G (ixP n c))) (lenP m n)):=by
 have hP':∀ W,Below w.heap.size w W->NumW p.v m F W:=fun W hb=>(hP W hb).numW
 have hQ':∀ W,Below w.heap.size w W->NumW q.v n G W:=fun W hb=>(hQ W hb).numW
 have hFt:=(hP w (Below.refl _ _)).tf
 have hGt:=(hQ w (Below.refl _ _)).tf
 cases hL:lenP m n with
 | none =>
  rw [<- hL]
  exact rapply_none H f hf hf2 p q m n F G _ w hL hP' hQ'
 | some N =>
  rw [<- hL]
  have hNb:=lenP_le hL hm hn
  obtain ⟨o1,o2⟩:=lenP_ok hL
  refine rapply_some H f hf hf2 p q m n F G _ w N hH hL hNb (fun W hb=>spread_any p.k p.b p.bn p.s p.i p.f p.c p.x m N F W hNb o1 (hP W hb)) (fun W hb=>spread_any q.k q.b q.bn q.s q.i q.f q.c q.x n N G W hNb o2 (hQ W hb)) (fun W H' hb hH'=>?_) (fun W b1 b2 L1 L2 h1 h2 e1 e2=>?_) hP' hQ'
  ·refine rnumbers_any H' f _ p q m n N F G W hH' hL hm hn (fun W' hb'=>hP' W' (bel_both hb hb')) (fun W' hb'=>hQ' W' (bel_both hb hb')) (fun c hc W'=>?_)
   obtain ⟨h1,h2⟩:=ixP_lt hL hc
   exact relate_any f hf hf2 _ _ (hFt _ h1) (hGt _ h2) W'
  ·obtain ⟨g1,o1,c1,rfl,hc1⟩:=h1
   obtain ⟨g2,o2,c2,rfl,hc2⟩:=h2
   refine (btruth_any (tabRN f) (tabRN_lt f) g1 o1 c1 g2 o2 c2 N L1 L2 W (by omega) hc1 hc2).mono ?_
   rintro e w' ⟨g,rfl,hr,hb⟩
   refine ⟨g,rfl,hr.same fun j _=>packW_congr (fun i hi=>?_) j,hb⟩
   rw [tabRN_rel,e1 i hi,e2 i hi]
end Go.Proofs.YtiahegjdkejjpaaGreatDoor
