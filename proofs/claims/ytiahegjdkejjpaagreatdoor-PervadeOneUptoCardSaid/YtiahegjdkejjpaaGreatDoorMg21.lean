/- The walks of logic.none, of logic.Apply at no elements, and of logic.Apply over contracts of Truths. Arrays: a plain word for them, and what it is that memory .. Conditions: as each theorem says. -/
import Derived.Test.YtiahegjdkejjpaaGreatDoorMg20
import Derived.Test.YtiahegjdkejjpaaGreatDoorMg17
import Derived.Test.YtiahegjdkejjpaaGreatDoorMg12
import Derived.Test.YtiahegjdkejjpaaGreatDoorMg19
import Derived.Test.YtiahegjdkejjpaaGreatDoorMg15
set_option maxRecDepth 100000
set_option maxHeartbeats 4000000
namespace Go.Proofs.YtiahegjdkejjpaaGreatDoor
open Go Go.RowKit Go.Proofs Fl
def LzOut (w:World) (z1 z2:Int) (e:Ending) (w':World):Prop :=
 ((z1=0/\z2=0/\e= .returned (.tuple #[vecV 1 vnil 0 vnil vnil vnil vnil vnil,.int .i64 0]))\/((z1≠0\/z2≠0)/\e= .returned (.tuple #[vecV 0 vnil 0 vnil vnil vnil vnil vnil,.int .i64 24])))/\Below w.heap.size w w'
theorem none_numL (w:World):Calls Tryz.prog 93 #[.int .i64 0] w fun e w'=>e= .returned (vecV 1 vnil 0 vnil vnil vnil vnil vnil)/\Below w.heap.size w w':=by
 have HK:=Lib.hid (heap_alloc_new w (.cells zcells 37))
 go_enter Tryz.func93,Tryz.ntmps93
 go_wp2_with fail
 refine (vbits_any none 0 0 0 _).mono ?_
 rintro e w2 ⟨rfl,hb2⟩
 have HB2:=Lib.hid (bel_both (bel1 w _) hb2)
 have HK2:=Lib.hid (show w2.heap[w.heap.size]?=some (.cells zcells 37) by rw [hb2.block _ (lt_of_block HK.out)];exact HK.out)
 clear hb2 HK
 obtain ⟨⟨h0,h1,h2,h3,h4,h5,h6,h7⟩,hz⟩:=boxed_of HK2.out
 go_wp2
 exact bodyPost_ret (ret_vec rfl _ _ _ rfl (set8_block HK2.out _ _ _ _ _ _ _ _)) rfl ⟨rfl,below_set8 HB2.out (Nat.le_refl _) _ _ _ _ _ _ _ _⟩
theorem lnone_any (p q:V8) (m n:Nat) (z1 z2:Int) (w:World) (hP:ClsV w p z1 m) (hQ:ClsV w q z2 n) :
  Calls Tryz.prog 212 #[p.v,q.v] w (LzOut w z1 z2):=by
 have HCP:=Lib.hid hP.cls
 have HCQ:=Lib.hid hQ.cls
 have HS0:=Lib.hid (St2.new w p q)
 unfold LzOut
 clear hP hQ
 by_cases hz:z1=0
 ·subst hz
  by_cases hz2:z2=0
  ·subst hz2
   go_enter Tryz.func212,Tryz.ntmps212
   obtain ⟨h0,h1,h2,h3,h4,h5,h6,h7⟩:=HS0.out.one
   go_wp2_with fail
   refine (HCP.out _ HS0.out.bel).mono ?_
   rintro e w1 ⟨rfl,hb⟩
   have HS1:=Lib.hid (HS0.out.step hb)
   clear hb h0 h1 h2 h3 h4 h5 h6 h7 HS0
   obtain ⟨h0,h1,h2,h3,h4,h5,h6,h7⟩:=HS1.out.two
   go_wp2_with fail
   refine (HCQ.out _ HS1.out.bel).mono ?_
   rintro e w2 ⟨rfl,hb⟩
   have HS2:=Lib.hid (HS1.out.step hb)
   clear hb h0 h1 h2 h3 h4 h5 h6 h7 HS1
   go_wp2_with fail
   refine (none_numL _).mono ?_
   rintro e w3 ⟨rfl,hb⟩
   have HS3:=Lib.hid (HS2.out.step hb)
   clear hb HS2
   obtain ⟨⟨h0,h1,h2,h3,h4,h5,h6,h7⟩,hz⟩:=boxed_of HS3.out.res
   go_wp2
   refine bodyPost_ret (v := .tuple #[vecV 1 vnil 0 vnil vnil vnil vnil vnil,.int .i64 0]) ?_ rfl ⟨.inl ⟨trivial,trivial,rfl⟩,below_set8 HS3.out.bel (Nat.le_add_right _ 2) _ _ _ _ _ _ _ _⟩
   exact ret_vec2 (fn:=Tryz.f212) (p:=4) (u:=5) rfl _ _ (w.heap.size+2) (by rfl) (set8_block HS3.out.res _ _ _ _ _ _ _ _)
  ·have n2:(z2 != 0)=true:=by simpa using hz2
   have HZ:=Lib.hid hz2
   clear hz2
   go_enter Tryz.func212,Tryz.ntmps212
   obtain ⟨h0,h1,h2,h3,h4,h5,h6,h7⟩:=HS0.out.one
   go_wp2_with fail
   refine (HCP.out _ HS0.out.bel).mono ?_
   rintro e w1 ⟨rfl,hb⟩
   have HS1:=Lib.hid (HS0.out.step hb)
   clear hb h0 h1 h2 h3 h4 h5 h6 h7 HS0
   obtain ⟨h0,h1,h2,h3,h4,h5,h6,h7⟩:=HS1.out.two
   go_wp2_with fail
   refine (HCQ.out _ HS1.out.bel).mono ?_
   rintro e w2 ⟨rfl,hb⟩
   have HS2:=Lib.hid (HS1.out.step hb)
   clear hb h0 h1 h2 h3 h4 h5 h6 h7 HS1
   obtain ⟨⟨h0,h1,h2,h3,h4,h5,h6,h7⟩,hz⟩:=boxed_of HS2.out.res
   go_wp2
   refine bodyPost_ret (v := .tuple #[vecV 0 vnil 0 vnil vnil vnil vnil vnil,.int .i64 24]) ?_ rfl ⟨.inr ⟨.inr HZ.out,rfl⟩,below_set8 HS2.out.bel (Nat.le_add_right _ 2) _ _ _ _ _ _ _ _⟩
   exact ret_vec2 (fn:=Tryz.f212) (p:=4) (u:=5) rfl _ _ (w.heap.size+2) (by rfl) (set8_block HS2.out.res _ _ _ _ _ _ _ _)
 ·have n1:(z1 != 0)=true:=by simpa using hz
  have HZ:=Lib.hid hz
  clear hz
  go_enter Tryz.func212,Tryz.ntmps212
  obtain ⟨h0,h1,h2,h3,h4,h5,h6,h7⟩:=HS0.out.one
  go_wp2_with fail
  refine (HCP.out _ HS0.out.bel).mono ?_
  rintro e w1 ⟨rfl,hb⟩
  have HS1:=Lib.hid (HS0.out.step hb)
  clear hb h0 h1 h2 h3 h4 h5 h6 h7 HS0
  obtain ⟨⟨h0,h1,h2,h3,h4,h5,h6,h7⟩,hz⟩:=boxed_of HS1.out.res
  go_wp2
  refine bodyPost_ret (v := .tuple #[vecV 0 vnil 0 vnil vnil vnil vnil vnil,.int .i64 24]) ?_ rfl ⟨.inr ⟨.inl HZ.out,rfl⟩,below_set8 HS1.out.bel (Nat.le_add_right _ 2) _ _ _ _ _ _ _ _⟩
  exact ret_vec2 (fn:=Tryz.f212) (p:=4) (u:=5) rfl _ _ (w.heap.size+2) (by rfl) (set8_block HS1.out.res _ _ _ _ _ _ _ _)
theorem lapply_zero (f:Int) (hf:21<=f) (hf2:f<=24) (p q:V8) (m n N:Nat) (z1 z2:Int) (w:World) (hN:N=0) (hL:lenP m n=some N) (hP:ClsV w p z1 m) (hQ:ClsV w q z2 n) :
  Calls Tryz.prog 139 #[.int .i64 f,p.v,q.v] w (LzOut w z1 z2):=by
 obtain ⟨h1,h2,h3⟩:=len_mid p q m n N z1 z2 w hL hP hQ
 have HLP:=Lib.hid h1
 have HLQ:=Lib.hid h2
 have HLL:=Lib.hid h3
 have HTB:=Lib.hid (fun W=>table_any f hf hf2 W)
 have HNO:=Lib.hid (fun W (hb:Below w.heap.size w W)=>lnone_any p q m n z1 z2 W (hP.up hb) (hQ.up hb))
 have HS0:=Lib.hid (St2.new w p q)
 have n0:((N:Int)==0)=true:=by subst hN;rfl
 unfold LzOut at HNO ⊢
 clear h1 h2 h3 hL hP hQ hN
 go_enter Tryz.func139,Tryz.ntmps139
 go_wp2_with fail
 refine (HTB.out _).mono ?_
 rintro e w9 ⟨rfl,hw9⟩
 rw [hw9] at HS0
 clear hw9
 go_wp2_with fail
 go_cut [9,10] from 24 (fun y x wx=>LenMid w p q N true x y wx)
 case first =>
  have hs0:=HS0.out.dr
  have hs00:=HS0.out
  go_region_held3 (fun W=>((W.cell? ⟨w.heap.size,0,none⟩=some (.int .i64 p.k)/\W.cell? ⟨w.heap.size,1,none⟩=some (.slice p.b.1 p.b.2.1 p.b.2.2)/\W.cell? ⟨w.heap.size,2,none⟩=some (.int .i64 p.bn)/\W.cell? ⟨w.heap.size,3,none⟩=some (.slice p.s.1 p.s.2.1 p.s.2.2)/\W.cell? ⟨w.heap.size,4,none⟩=some (.slice p.i.1 p.i.2.1 p.i.2.2)/\W.cell? ⟨w.heap.size,5,none⟩=some (.slice p.f.1 p.f.2.1 p.f.2.2)/\W.cell? ⟨w.heap.size,6,none⟩=some (.slice p.c.1 p.c.2.1 p.c.2.2)/\W.cell? ⟨w.heap.size,7,none⟩=some (.slice p.x.1 p.x.2.1 p.x.2.2))/\(W.cell? ⟨w.heap.size+1,0,none⟩=some (.int .i64 q.k)/\W.cell? ⟨w.heap.size+1,1,none⟩=some (.slice q.b.1 q.b.2.1 q.b.2.2)/\W.cell? ⟨w.heap.size+1,2,none⟩=some (.int .i64 q.bn)/\W.cell? ⟨w.heap.size+1,3,none⟩=some (.slice q.s.1 q.s.2.1 q.s.2.2)/\W.cell? ⟨w.heap.size+1,4,none⟩=some (.slice q.i.1 q.i.2.1 q.i.2.2)/\W.cell? ⟨w.heap.size+1,5,none⟩=some (.slice q.f.1 q.f.2.1 q.f.2.2)/\W.cell? ⟨w.heap.size+1,6,none⟩=some (.slice q.c.1 q.c.2.1 q.c.2.2)/\W.cell? ⟨w.heap.size+1,7,none⟩=some (.slice q.x.1 q.x.2.1 q.x.2.2)))/\St2 w W p q)
   (first | (with_reducible assumption) | (with_reducible (refine st2_s ?_);repeat (first | (with_reducible assumption) | (with_reducible refine St2.dr ?_))))
   (first
    | (go_at_call 211;(with_reducible refine (HLL.out _).mono ?_);rintro e w5 ⟨rfl,rfl⟩)
    | (go_at_call 85;(with_reducible refine (HLP.out _ ?_).mono ?_);exact St2.self (by repeat (first | (with_reducible assumption) | (with_reducible refine St2.dr ?_)));rintro e w1 ⟨rfl,hb1⟩;obtain ⟨hc1,hf1⟩:=bcell2 hb1;have hz1:=hb1.size;have hst1:St2 w w1 p q:=St2.step (by repeat (first | (with_reducible assumption) | (with_reducible refine St2.dr ?_))) hb1;clear hb1)
    | (go_at_call 85;(with_reducible refine (HLQ.out _ ?_).mono ?_);exact St2.self (by repeat (first | (with_reducible assumption) | (with_reducible refine St2.dr ?_)));rintro e w2 ⟨rfl,hb2⟩;obtain ⟨hc2,hf2⟩:=bcell2 hb2;have hz2:=hb2.size;have hst2:St2 w w2 p q:=St2.step (by repeat (first | (with_reducible assumption) | (with_reducible refine St2.dr ?_))) hb2;clear hb2))
  all_goals
   go_wp2
   go_meet
   first
    | (with_reducible exact lenMid_of hst2)
    | (with_reducible exact lenMid_of hst1)
 obtain ⟨rfl,rfl,hst⟩:=hcut
 have HST:=Lib.hid hst
 clear hst HS0 HLP HLQ HLL HTB
 obtain ⟨h0,h1,h2,h3,h4,h5,h6,h7⟩:=HST.out.one
 obtain ⟨g0,g1,g2,g3,g4,g5,g6,g7⟩:=HST.out.two
 go_wp2_with fail
 refine (HNO.out _ HST.out.bel).mono ?_
 clear h0 h1 h2 h3 h4 h5 h6 h7 g0 g1 g2 g3 g4 g5 g6 g7
 rintro e w6 ⟨⟨hz1,hz2,rfl⟩ | ⟨hz1,rfl⟩,hb6⟩
 ·have HS6:=Lib.hid (HST.out.step hb6)
  have HZ1:=Lib.hid hz1
  have HZ2:=Lib.hid hz2
  clear hb6 hz1 hz2 HST
  obtain ⟨⟨h0,h1,h2,h3,h4,h5,h6,h7⟩,hz⟩:=boxed_of HS6.out.res
  go_wp2
  refine bodyPost_ret (v := .tuple #[vecV 1 vnil 0 vnil vnil vnil vnil vnil,.int .i64 0]) ?_ rfl ⟨.inl ⟨HZ1.out,HZ2.out,rfl⟩,below_set8 HS6.out.bel (Nat.le_add_right _ 2) _ _ _ _ _ _ _ _⟩
  exact ret_vec2 (fn:=Tryz.f139) (p:=6) (u:=7) rfl _ _ (w.heap.size+2) (by rfl) (set8_block HS6.out.res _ _ _ _ _ _ _ _)
 ·have HS6:=Lib.hid (HST.out.step hb6)
  have HZ1:=Lib.hid hz1
  clear hb6 hz1 HST
  obtain ⟨⟨h0,h1,h2,h3,h4,h5,h6,h7⟩,hz⟩:=boxed_of HS6.out.res
  go_wp2
  refine bodyPost_ret (v := .tuple #[vecV 0 vnil 0 vnil vnil vnil vnil vnil,.int .i64 24]) ?_ rfl ⟨.inr ⟨HZ1.out,rfl⟩,below_set8 HS6.out.bel (Nat.le_add_right _ 2) _ _ _ _ _ _ _ _⟩
  exact ret_vec2 (fn:=Tryz.f139) (p:=6) (u:=7) rfl _ _ (w.heap.size+2) (by rfl) (set8_block HS6.out.res _ _ _ _ _ _ _ _)
theorem ixP_onto {m n N j:Nat} (h:lenP m n=some N) (h0:0 < N) (hj:j < m):∃ c,c < N/\ixP m c=j:=by
 unfold lenP at h
 unfold ixP
 split at h
 ·injection h with h;subst h
  exact ⟨j,hj,by split <;> omega⟩
 ·split at h
  ·injection h with h
   exact ⟨0,h0,by rw [if_pos (by assumption)];omega⟩
  ·split at h
   ·injection h with h;subst h
    exact ⟨j,hj,by rw [if_neg (by assumption)]⟩
   ·cases h
theorem ixP_ontoR {m n N j:Nat} (h:lenP m n=some N) (h0:0 < N) (hj:j < n):∃ c,c < N/\ixP n c=j:=ixP_onto (by rw [lenP_comm];exact h) h0 hj
theorem lapply_ts (H:Nat->Prop) (f:Int) (hf:21<=f) (hf2:f<=24) (p q:V8) (m n N:Nat) (F G:Nat->Nat) (w:World) (hH:∀ b,H b->b < w.heap.size) (hL:lenP m n=some N) (hN0:0 < N) (hNb:N<=1000000)
  (hP:∀ W,Below w.heap.size w W->Calls Tryz.prog 213 #[p.v] W (TsOut m F W)) (hQ:∀ W,Below w.heap.size w W->Calls Tryz.prog 213 #[q.v] W (TsOut n G W))
  (hLP:∀ W,Below w.heap.size w W->Calls Tryz.prog 85 #[p.v] W fun e w2=>e= .returned (.int .i64 (m:Nat))/\Below W.heap.size W w2)
  (hLQ:∀ W,Below w.heap.size w W->Calls Tryz.prog 85 #[q.v] W fun e w2=>e= .returned (.int .i64 (n:Nat))/\Below W.heap.size W w2) :
  Calls Tryz.prog 139 #[.int .i64 f,p.v,q.v] w (Lg2Out H w (fun c=>isT (F (ixP m c))&&isT (G (ixP n c))) (fun c=>logB f (tv (F (ixP m c))) (tv (G (ixP n c)))) (some N)):=by
 have hA:∀ W,Below w.heap.size w W->Calls Tryz.prog 213 #[p.v] W fun e w'=>((∃ (b:Sl) (L:Nat->Bool),e= .returned (.tuple #[.agg #[.slice b.1 b.2.1 b.2.2,.int .i64 (m:Int)],.bool true])/\BitsAt w' b m L/\(∀ j,j < m->F j=flagF (L j))/\Below W.heap.size W w')\/((∃ c,c < N/\(fun c=>isT (F (ixP m c))&&isT (G (ixP n c))) c=false)/\e= .returned (.tuple #[.agg #[vnil,.int .i64 0],.bool false])/\Below W.heap.size W w')):=fun W hb=>(hP W hb).mono (by
  rintro e w' (⟨_,b,L,rfl,h1,h2,hb⟩ | ⟨⟨j,hj,h⟩,rfl,hb⟩)
  ·exact .inl ⟨b,L,rfl,h1,h2,hb⟩
  ·obtain ⟨c,hc,e⟩:=ixP_onto hL hN0 hj
   exact .inr ⟨⟨c,hc,by show (isT (F (ixP m c))&&_)=false;rw [e,h];rfl⟩,rfl,hb⟩)
 have hB:∀ W,Below w.heap.size w W->Calls Tryz.prog 213 #[q.v] W fun e w'=>((∃ (b:Sl) (L:Nat->Bool),e= .returned (.tuple #[.agg #[.slice b.1 b.2.1 b.2.2,.int .i64 (n:Int)],.bool true])/\BitsAt w' b n L/\(∀ j,j < n->G j=flagF (L j))/\Below W.heap.size W w')\/((∃ c,c < N/\(fun c=>isT (F (ixP m c))&&isT (G (ixP n c))) c=false)/\e= .returned (.tuple #[.agg #[vnil,.int .i64 0],.bool false])/\Below W.heap.size W w')):=fun W hb=>(hQ W hb).mono (by
  rintro e w' (⟨_,b,L,rfl,h1,h2,hb⟩ | ⟨⟨j,hj,h⟩,rfl,hb⟩)
  ·exact .inl ⟨b,L,rfl,h1,h2,hb⟩
  ·obtain ⟨c,hc,e⟩:=ixP_ontoR hL hN0 hj
   exact .inr ⟨⟨c,hc,by show (_&&isT (G (ixP n c)))=false;rw [e,h,Bool.and_false]⟩,rfl,hb⟩)
 have hT:∀ c,c < N->∀ L1 L2:Nat->Bool,(∀ j,j < m->F j=flagF (L1 j))->(∀ j,j < n->G j=flagF (L2 j))->(fun c=>isT (F (ixP m c))&&isT (G (ixP n c))) c=true:=fun c hc L1 L2 e1 e2=>by
  obtain ⟨h1,h2⟩:=ixP_lt hL hc
  show (isT (F _)&&isT (G _))=true
  rw [e1 _ h1,e2 _ h2]
  cases L1 (ixP m c) <;> cases L2 (ixP n c) <;> decide
 have hR:∀ (W:World) (b1 b2:Sl) (L1 L2:Nat->Bool),BitsAt W b1 N L1->BitsAt W b2 N L2->(∀ j,j < N->F (ixP m j)=flagF (L1 j))->(∀ j,j < N->G (ixP n j)=flagF (L2 j))->Calls Tryz.prog 214 #[.int .u8 ((tabN f:Nat):Int),.agg #[.slice b1.1 b1.2.1 b1.2.2,.int .i64 (N:Int)],.agg #[.slice b2.1 b2.2.1 b2.2.2,.int .i64 (N:Int)]] W fun e w'=>∃ g,e= .returned (.tuple #[.agg #[.slice (some ⟨g,0,none⟩) ((N+63) / 64) ((N+63) / 64),.int .i64 (N:Int)],.bool true])/\RowU w' W.heap.size g ((N+63) / 64) (packW (fun c=>logB f (tv (F (ixP m c))) (tv (G (ixP n c)))) N)/\Below W.heap.size W w':=fun W b1 b2 L1 L2 h1 h2 e1 e2=>by
  obtain ⟨g1,o1,c1,rfl,hc1⟩:=h1
  obtain ⟨g2,o2,c2,rfl,hc2⟩:=h2
  refine (btruth_any (tabN f) (tabN_lt f) g1 o1 c1 g2 o2 c2 N L1 L2 W (by omega) hc1 hc2).mono ?_
  rintro e w' ⟨g,rfl,hr,hb⟩
  refine ⟨g,rfl,hr.same fun j _=>packW_congr (fun i hi=>?_) j,hb⟩
  rw [tabN_rel f hf hf2,e1 i hi,e2 i hi,tv_flag,tv_flag]
 rw [<- hL]
 by_cases h1:m=n
 ·subst h1
  obtain rfl:m=N:=by unfold lenP at hL;rw [if_pos rfl] at hL;injection hL
  have hix:∀ j,j < m->ixP m j=j:=fun j hj=>by unfold ixP;split <;> omega
  exact lapply_ss H f hf hf2 p q _ _ w m F G hH hL hN0 hNb hA hB hT hR hLP hLQ
 ·by_cases h2:m=1
  ·subst h2
   obtain rfl:n=N:=by unfold lenP at hL;rw [if_neg h1,if_pos rfl] at hL;injection hL
   exact lapply_os H f hf hf2 p q _ _ w n (fun e=>h1 e.symm) F G hH hL hN0 hNb hA hB hT hR hLP hLQ
  ·have h3:n=1:=by unfold lenP at hL;rw [if_neg h1,if_neg h2] at hL;split at hL;assumption;cases hL
   subst h3
   obtain rfl:m=N:=by unfold lenP at hL;rw [if_neg h1,if_neg h2,if_pos rfl] at hL;injection hL
   exact lapply_so H f hf hf2 p q _ _ w m h2 F G hH hL hN0 hNb hA hB hT hR hLP hLQ
inductive PA where
 | nums (s:List Nat) (l:List Nat)
 | chars (s:List Nat) (l:List Int)
 | boxes (s:List Nat) (l:List PA)
instance:Inhabited PA:=⟨.nums [] []⟩
def PA.shape:PA->List Nat
 | .nums s _=>s | .chars s _=>s | .boxes s _=>s
def PA.len:PA->Nat
 | .nums _ l=>l.length | .chars _ l=>l.length | .boxes _ l=>l.length
def PA.fill:PA->Nat
 | .nums _ _=>0 | .chars _ _=>1 | .boxes _ _=>2
abbrev sv (h:Sl):Value := .slice h.1 h.2.1 h.2.2
abbrev nilS:Sl:=(none,0,0)
abbrev RdH (H:Nat->Prop) (w:World) (v:Value) (xs:List Value):Prop:=Keeps H w fun W=>Reads1 W v xs
structure Lat (H:Nat->Prop) (w w':World):Prop where
 size:w.heap.size<=w'.heap.size
 block:∀ b,b < w.heap.size->¬ H b->w'.heap[b]?=w.heap[b]?
theorem Lat.below {H:Nat->Prop}{w w':World} (h:Below w.heap.size w w'):Lat H w w':=⟨h.size,fun b hb _=>h.block b hb⟩
theorem Lat.set {H:Nat->Prop}{w:World}{a:Addr} (ha:H a.block) (u:Value):Lat H w (w.setCell a u) :=
 ⟨by rw [size_setCell'];exact Nat.le_refl _,fun b _ hn=>Below.heap_setCell _ _ _ _ (fun e=>hn (by rw [e];exact ha))⟩
theorem Lat.trans {H:Nat->Prop}{a b c:World} (h:Lat H a b) (k:Lat H b c):Lat H a c :=
 ⟨Nat.le_trans h.size k.size,fun x hx hn=>by rw [k.block x (Nat.lt_of_lt_of_le hx h.size) hn,h.block x hx hn]⟩
theorem Keeps.lat {H:Nat->Prop}{w w':World}{R:World->Prop} (h:Keeps H w R) (g:Lat H w w'):Keeps H w' R :=
 fun W hz hb=>h W (Nat.le_trans g.size hz) fun b hl hn=>by rw [hb b (Nat.lt_of_lt_of_le hl g.size) hn,g.block b hl hn]
theorem RdH.len {H:Nat->Prop}{w:World}{v:Value}{xs:List Value} (h:RdH H w v xs):∃ a c,v= .slice a xs.length c:=Reads1.len h.now
abbrev ShV (H:Nat->Prop) (w:World) (h:Sl) (s:List Nat):Prop:=RdH H w (sv h) (s.map fun n:Nat => .int .i64 (n:Int))
theorem ShV.len {H:Nat->Prop}{w:World}{h:Sl}{s:List Nat} (g:ShV H w h s):h.2.1=s.length:=by
 obtain ⟨a,c,e⟩:=RdH.len g
 unfold sv at e
 injection e with _ e _
 simpa using e
theorem shV_nil (H:Nat->Prop) (w:World):ShV H w nilS []:=fun _ _ _ => .inl ⟨none,0,rfl,rfl⟩
structure NumS (H:Nat->Prop) (w:World) (p:V8) (l:List Nat):Prop where
 num:Keeps H w (NumV p.v p.k l.length (fun j=>l.getD j 0))
 least:p.k=(leastF (fun j=>l.getD j 0) l.length:Nat)
abbrev zbP:V8:=⟨1,nilS,0,nilS,nilS,nilS,nilS,nilS⟩
def NumA (H:Nat->Prop) (w:World) (p:V8) (l:List Nat):Prop:=NumS H w p l\/(l=[]/\p=zbP)
theorem NumA.lat {H:Nat->Prop}{w w':World}{p:V8}{l:List Nat} (g:NumA H w p l) (k:Lat H w w'):NumA H w' p l:=by
 rcases g with g | g
 ·exact .inl ⟨g.num.lat k,g.least⟩
 ·exact .inr g
theorem NumA.sub {H H':Nat->Prop}{w:World}{p:V8}{l:List Nat} (g:NumA H w p l) (hs:∀ j,j < w.heap.size->H' j->H j):NumA H' w p l:=by
 rcases g with g | g
 ·exact .inl ⟨g.num.sub hs,g.least⟩
 ·exact .inr g
abbrev charsP (c:Sl):V8:=⟨5,nilS,0,nilS,nilS,nilS,c,nilS⟩
abbrev boxesP (x:Sl):V8:=⟨6,nilS,0,nilS,nilS,nilS,nilS,x⟩
abbrev zeroP:V8:=⟨0,nilS,0,nilS,nilS,nilS,nilS,nilS⟩
abbrev arrL (h:Sl) (p:V8):List Value:=[sv h,.int .i64 p.k,sv p.b,.int .i64 p.bn,sv p.s,sv p.i,sv p.f,sv p.c,sv p.x]
abbrev arrV (h:Sl) (p:V8):Value := .agg #[sv h,.int .i64 p.k,sv p.b,.int .i64 p.bn,sv p.s,sv p.i,sv p.f,sv p.c,sv p.x]
def At9 (w:World) (b o:Nat) (h:Sl) (p:V8):Prop :=
 w.cell? ⟨b,o,none⟩=some (sv h)/\w.cell? ⟨b,o+1,none⟩=some (.int .i64 p.k)/\w.cell? ⟨b,o+2,none⟩=some (sv p.b)/\w.cell? ⟨b,o+3,none⟩=some (.int .i64 p.bn)/\w.cell? ⟨b,o+4,none⟩=some (sv p.s) /\
  w.cell? ⟨b,o+5,none⟩=some (sv p.i)/\w.cell? ⟨b,o+6,none⟩=some (sv p.f)/\w.cell? ⟨b,o+7,none⟩=some (sv p.c)/\w.cell? ⟨b,o+8,none⟩=some (sv p.x)
theorem At9.of {w w':World}{b o:Nat}{h:Sl}{p:V8} (g:At9 w b o h p) (e:∀ j,w'.cell? ⟨b,j,none⟩=w.cell? ⟨b,j,none⟩):At9 w' b o h p:=by
 unfold At9
 rw [e,e,e,e,e,e,e,e,e]
 exact g
theorem At9.lt {w:World}{b o:Nat}{h:Sl}{p:V8} (g:At9 w b o h p):b < w.heap.size:=cell_lt g.1
theorem At9.below {w w':World}{b o:Nat}{h:Sl}{p:V8} (g:At9 w b o h p) (hb:Below w.heap.size w w'):At9 w' b o h p:=g.of fun _=>hb.cell g.lt
theorem At9.lat {H:Nat->Prop}{w w':World}{b o:Nat}{h:Sl}{p:V8} (g:At9 w b o h p) (hn:¬ H b) (k:Lat H w w'):At9 w' b o h p:=g.of fun _=>World.cell?_of_block (w:=w) (k.block b g.lt hn)
mutual
def AV (H:Nat->Prop) (w:World):PA->Sl->V8->Prop
 | .nums s l,h,p=>ShV H w h s/\NumA H w p l
 | .chars s l,h,p=>ShV H w h s/\∃ c,p=charsP c/\RdH H w (sv c) (l.map (Value.int .i32))
 | .boxes s l,h,p=>ShV H w h s/\∃ x,p=boxesP x/\x.2.1=l.length/\((l=[]/\True)\/∃ b o,x.1=some ⟨b,o,none⟩/\¬ H b/\AVs H w b o l)
def AVs (H:Nat->Prop) (w:World) (b:Nat):Nat->List PA->Prop
 | _,[]=>True
 | o,a::ar=>(∃ h p,At9 w b o h p/\AV H w a h p)/\AVs H w b (o+9) ar
end
mutual
theorem AV.lat {H:Nat->Prop}{w w':World} (k:Lat H w w'):∀ {a:PA}{h:Sl}{p:V8},AV H w a h p->AV H w' a h p
 | .nums s l,h,p,g=>by
  rw [AV] at g ⊢
  exact ⟨g.1.lat k,g.2.lat k⟩
 | .chars s l,h,p,g=>by
  rw [AV] at g ⊢
  obtain ⟨g1,c,g2,g3⟩:=g
  exact ⟨g1.lat k,c,g2,g3.lat k⟩
 | .boxes s l,h,p,g=>by
  rw [AV] at g ⊢
  obtain ⟨g1,x,g2,g3,g4⟩:=g
  refine ⟨g1.lat k,x,g2,g3,?_⟩
  rcases g4 with g4 | ⟨b,o,g5,hn,g6⟩
  ·exact .inl g4
  ·exact .inr ⟨b,o,g5,hn,AVs.lat k hn g6⟩
theorem AVs.lat {H:Nat->Prop}{w w':World} (k:Lat H w w'){b:Nat} (hn:¬ H b):∀ {o:Nat}{l:List PA},AVs H w b o l->AVs H w' b o l
 | _,[],_=>by rw [AVs];trivial
 | o,a::ar,g=>by
  rw [AVs] at g ⊢
  obtain ⟨⟨h,p,g1,g2⟩,g3⟩:=g
  exact ⟨⟨h,p,g1.lat hn k,AV.lat k g2⟩,AVs.lat k hn g3⟩
end
theorem AV.step {H:Nat->Prop}{w w':World}{a:PA}{h:Sl}{p:V8} (g:AV H w a h p) (hb:Below w.heap.size w w'):AV H w' a h p:=AV.lat (Lat.below hb) g
mutual
theorem AV.sub {H H':Nat->Prop}{w:World} (hs:∀ b,b < w.heap.size->H' b->H b):∀ {a:PA}{h:Sl}{p:V8},AV H w a h p->AV H' w a h p
 | .nums s l,h,p,g=>by
  rw [AV] at g ⊢
  exact ⟨g.1.sub hs,g.2.sub hs⟩
 | .chars s l,h,p,g=>by
  rw [AV] at g ⊢
  obtain ⟨g1,c,g2,g3⟩:=g
  exact ⟨g1.sub hs,c,g2,g3.sub hs⟩
 | .boxes s l,h,p,g=>by
  rw [AV] at g ⊢
  obtain ⟨g1,x,g2,g3,g4⟩:=g
  refine ⟨g1.sub hs,x,g2,g3,?_⟩
  rcases g4 with g4 | ⟨b,o,g5,hn,g6⟩
  ·exact .inl g4
  ·cases l with
   | nil=>exact .inl ⟨rfl,trivial⟩
   | cons a ar =>
    have hl:b < w.heap.size:=by rw [AVs] at g6;obtain ⟨⟨_,_,h9,_⟩,_⟩:=g6;exact h9.lt
    exact .inr ⟨b,o,g5,fun e=>hn (hs b hl e),AVs.sub hs g6⟩
theorem AVs.sub {H H':Nat->Prop}{w:World} (hs:∀ b,b < w.heap.size->H' b->H b){b:Nat}:∀ {o:Nat}{l:List PA},AVs H w b o l->AVs H' w b o l
 | _,[],_=>by rw [AVs];trivial
 | o,a::ar,g=>by
  rw [AVs] at g ⊢
  obtain ⟨⟨h,p,g1,g2⟩,g3⟩:=g
  exact ⟨⟨h,p,g1,AV.sub hs g2⟩,AVs.sub hs g3⟩
end
theorem AV.arg {H:Nat->Prop}{w W:World}{a:PA}{h:Sl}{p:V8} (g:AV H w a h p) (hb:Below w.heap.size w W):AV (Hole H w W) W a h p:=by
 have g2:AV (Hole H w W) w a h p:=AV.sub (fun b hl e=>by
  rcases e with e | ⟨e,_⟩
  ·exact e
  ·omega) g
 exact AV.lat (Lat.below hb) g2
theorem AVs.at_ {H:Nat->Prop}{w:World}{b:Nat}:∀ {l:List PA}{o i:Nat} (hi:i < l.length),AVs H w b o l->∃ h p,At9 w b (o+i*9) h p/\AV H w l[i] h p
 | [],_,_,hi,_=>by simp at hi
 | a::ar,o,0,_,g=>by
  rw [AVs] at g
  simpa using g.1
 | a::ar,o,i+1,hi,g=>by
  rw [AVs] at g
  have:=AVs.at_ (l:=ar) (o:=o+9) (i:=i) (by simpa using hi) g.2
  have e:o+9+i*9=o+(i+1)*9:=by omega
  rw [e] at this
  simpa using this
theorem avs_of {H:Nat->Prop}{w:World}{b:Nat}:∀ (l:List PA) (o:Nat),(∀ i (h:i < l.length),∃ h p,At9 w b (o+i*9) h p/\AV H w l[i] h p)->AVs H w b o l
 | [],_,_=>by rw [AVs];trivial
 | a::ar,o,g=>by
  rw [AVs]
  refine ⟨?_,avs_of ar (o+9) fun i hi=>?_⟩
  ·have:=g 0 (by simp);simpa using this
  ·have:=g (i+1) (by simpa using hi)
   have e:o+(i+1)*9=o+9+i*9:=by omega
   rw [e] at this
   simpa using this
theorem AV.shape {H:Nat->Prop}{w:World}{a:PA}{h:Sl}{p:V8} (g:AV H w a h p):ShV H w h a.shape:=by
 cases a <;> (rw [AV] at g;exact g.1)
theorem AV.nums {H:Nat->Prop}{w:World}{s:List Nat}{l:List Nat}{h:Sl}{p:V8} (g:AV H w (.nums s l) h p):NumA H w p l:=by rw [AV] at g;exact g.2
theorem AV.chars {H:Nat->Prop}{w:World}{s:List Nat}{l:List Int}{h:Sl}{p:V8} (g:AV H w (.chars s l) h p):∃ c,p=charsP c/\RdH H w (sv c) (l.map (Value.int .i32)):=by rw [AV] at g;exact g.2
theorem AV.boxes {H:Nat->Prop}{w:World}{s:List Nat}{l:List PA}{h:Sl}{p:V8} (g:AV H w (.boxes s l) h p) :
  ∃ A n c,p=boxesP (A,n,c)/\n=l.length/\∀ i (hi:i < l.length),∃ b o h p,A=some ⟨b,o,none⟩/\¬ H b/\AV H w l[i] h p/\∀ w1,Lat H w w1->At9 w1 b (o+i*9) h p:=by
 rw [AV] at g
 obtain ⟨_,⟨A,n,c⟩,rfl,hn,g4⟩:=g
 refine ⟨A,n,c,rfl,hn,fun i hi=>?_⟩
 rcases g4 with ⟨rfl,_⟩ | ⟨b,o,g5,hb,g6⟩
 ·simp at hi
 ·obtain ⟨h,p,g7,g8⟩:=AVs.at_ hi g6
  exact ⟨b,o,h,p,g5,hb,g8,fun w1 k=>g7.lat hb k⟩
theorem twoL_arith (H:Nat->Prop) (f:Int) (T:Value->World->Prop) (E:Int) (p q:V8) (w:World) (hH:∀ b,H b->b < w.heap.size) (h1:1<=f) (h2:f<=8)
  (hA:∀ (W:World) (H':Nat->Prop),Below w.heap.size w W->(∀ b,H' b->b < W.heap.size)->Calls Tryz.prog 167 #[.int .i64 f,p.v,q.v] W (TwoL H' W T E)) :
  Calls Tryz.prog 94 #[.int .i64 f,p.v,q.v] w (TwoL H w T E):=by
 have HA:=Lib.hid hA
 have HH:=Lib.hid hH
 have HS0:=Lib.hid (St2.new w p q)
 unfold TwoL ZeroE VecOk at HA ⊢
 clear hA hH
 go_enter Tryz.func94,Tryz.ntmps94
 obtain ⟨h0,h1,h2,h3,h4,h5,h6,h7⟩:=HS0.out.one
 obtain ⟨g0,g1,g2,g3,g4,g5,g6,g7⟩:=HS0.out.two
 go_wp2_with fail
 refine (HA.out _ (fun j=>H j\/j=w.heap.size+2) HS0.out.bel (fun j e=>by
  have h1:=HS0.out.sz
  rcases e with e | e
  ·have:=HH.out j e;omega
  ·omega)).mono ?_
 clear h0 h1 h2 h3 h4 h5 h6 h7 g0 g1 g2 g3 g4 g5 g6 g7
 rintro e w9 (⟨he,k5,b5,bn5,s5,i5,f5,c5,x5,rfl,hk9,hb9⟩ | ⟨he,rfl,hb9⟩)
 ·have HS9:=Lib.hid (HS0.out.step hb9)
  have HKE:=Lib.hid hk9
  have HE:=Lib.hid he
  clear hb9 hk9 he
  obtain ⟨⟨h0,h1,h2,h3,h4,h5,h6,h7⟩,hz⟩:=boxed_of HS9.out.res
  go_wp2
  refine bodyPost_ret (v := .tuple #[vecW k5 b5 bn5 s5 i5 f5 c5 x5,.int .i64 0]) ?_ rfl (.inl ⟨HE.out,k5,b5,bn5,s5,i5,f5,c5,x5,rfl,(HKE.out.set8 (.inr rfl) _ _ _ _ _ _ _ _).sub (fun _ _ e => .inl e),below_set8 HS9.out.bel (Nat.le_add_right _ 2) _ _ _ _ _ _ _ _⟩)
  exact ret_vec2 (fn:=Tryz.f94) (p:=6) (u:=7) rfl _ _ (w.heap.size+2) (by rfl) (set8_block HS9.out.res _ _ _ _ _ _ _ _)
 ·have HS9:=Lib.hid (HS0.out.step hb9)
  have HE:=Lib.hid he
  clear hb9 he
  obtain ⟨⟨h0,h1,h2,h3,h4,h5,h6,h7⟩,hz⟩:=boxed_of HS9.out.res
  go_wp2
  refine bodyPost_ret (v := .tuple #[vecV 0 vnil 0 vnil vnil vnil vnil vnil,.int .i64 E]) ?_ rfl (.inr ⟨HE.out,rfl,below_set8 HS9.out.bel (Nat.le_add_right _ 2) _ _ _ _ _ _ _ _⟩)
  exact ret_vec2 (fn:=Tryz.f94) (p:=6) (u:=7) rfl _ _ (w.heap.size+2) (by rfl) (set8_block HS9.out.res _ _ _ _ _ _ _ _)
theorem twoL_relate (H:Nat->Prop) (f:Int) (T:Value->World->Prop) (E:Int) (p q:V8) (w:World) (hH:∀ b,H b->b < w.heap.size) (h1:11<=f) (h2:f<=16)
  (hA:∀ (W:World) (H':Nat->Prop),Below w.heap.size w W->(∀ b,H' b->b < W.heap.size)->Calls Tryz.prog 168 #[.int .i64 f,p.v,q.v] W (TwoL H' W T E)) :
  Calls Tryz.prog 94 #[.int .i64 f,p.v,q.v] w (TwoL H w T E):=by
 have HA:=Lib.hid hA
 have HH:=Lib.hid hH
 have HS0:=Lib.hid (St2.new w p q)
 unfold TwoL ZeroE VecOk at HA ⊢
 have q1:¬ f<=8:=by omega
 clear hA hH
 go_enter Tryz.func94,Tryz.ntmps94
 obtain ⟨h0,h1,h2,h3,h4,h5,h6,h7⟩:=HS0.out.one
 obtain ⟨g0,g1,g2,g3,g4,g5,g6,g7⟩:=HS0.out.two
 go_wp2_with fail
 refine (HA.out _ (fun j=>H j\/j=w.heap.size+2) HS0.out.bel (fun j e=>by
  have h1:=HS0.out.sz
  rcases e with e | e
  ·have:=HH.out j e;omega
  ·omega)).mono ?_
 clear h0 h1 h2 h3 h4 h5 h6 h7 g0 g1 g2 g3 g4 g5 g6 g7
 rintro e w9 (⟨he,k5,b5,bn5,s5,i5,f5,c5,x5,rfl,hk9,hb9⟩ | ⟨he,rfl,hb9⟩)
 ·have HS9:=Lib.hid (HS0.out.step hb9)
  have HKE:=Lib.hid hk9
  have HE:=Lib.hid he
  clear hb9 hk9 he
  obtain ⟨⟨h0,h1,h2,h3,h4,h5,h6,h7⟩,hz⟩:=boxed_of HS9.out.res
  go_wp2
  refine bodyPost_ret (v := .tuple #[vecW k5 b5 bn5 s5 i5 f5 c5 x5,.int .i64 0]) ?_ rfl (.inl ⟨HE.out,k5,b5,bn5,s5,i5,f5,c5,x5,rfl,(HKE.out.set8 (.inr rfl) _ _ _ _ _ _ _ _).sub (fun _ _ e => .inl e),below_set8 HS9.out.bel (Nat.le_add_right _ 2) _ _ _ _ _ _ _ _⟩)
  exact ret_vec2 (fn:=Tryz.f94) (p:=6) (u:=7) rfl _ _ (w.heap.size+2) (by rfl) (set8_block HS9.out.res _ _ _ _ _ _ _ _)
 ·have HS9:=Lib.hid (HS0.out.step hb9)
  have HE:=Lib.hid he
  clear hb9 he
  obtain ⟨⟨h0,h1,h2,h3,h4,h5,h6,h7⟩,hz⟩:=boxed_of HS9.out.res
  go_wp2
  refine bodyPost_ret (v := .tuple #[vecV 0 vnil 0 vnil vnil vnil vnil vnil,.int .i64 E]) ?_ rfl (.inr ⟨HE.out,rfl,below_set8 HS9.out.bel (Nat.le_add_right _ 2) _ _ _ _ _ _ _ _⟩)
  exact ret_vec2 (fn:=Tryz.f94) (p:=6) (u:=7) rfl _ _ (w.heap.size+2) (by rfl) (set8_block HS9.out.res _ _ _ _ _ _ _ _)
theorem twoL_logic (H:Nat->Prop) (f:Int) (T:Value->World->Prop) (E:Int) (p q:V8) (w:World) (hH:∀ b,H b->b < w.heap.size) (h1:¬ (1<=f/\f<=8)) (h2:¬ (11<=f/\f<=16))
  (hA:∀ (W:World) (H':Nat->Prop),Below w.heap.size w W->(∀ b,H' b->b < W.heap.size)->Calls Tryz.prog 139 #[.int .i64 f,p.v,q.v] W (TwoL H' W T E)) :
  Calls Tryz.prog 94 #[.int .i64 f,p.v,q.v] w (TwoL H w T E):=by
 have HA:=Lib.hid hA
 have HH:=Lib.hid hH
 have HS0:=Lib.hid (St2.new w p q)
 unfold TwoL ZeroE VecOk at HA ⊢
 have hcase:f < 1\/(8 < f/\f < 11)\/16 < f:=by omega
 clear hA hH h1 h2
 rcases hcase with h | ⟨h,h'⟩ | h
 all_goals
  go_enter Tryz.func94,Tryz.ntmps94
  obtain ⟨h0,h1,h2,h3,h4,h5,h6,h7⟩:=HS0.out.one
  obtain ⟨g0,g1,g2,g3,g4,g5,g6,g7⟩:=HS0.out.two
  go_wp2_with fail
  refine (HA.out _ (fun j=>H j\/j=w.heap.size+2) HS0.out.bel (fun j e=>by
   have h1:=HS0.out.sz
   rcases e with e | e
   ·have:=HH.out j e;omega
   ·omega)).mono ?_
  clear h0 h1 h2 h3 h4 h5 h6 h7 g0 g1 g2 g3 g4 g5 g6 g7
  rintro e w9 (⟨he,k5,b5,bn5,s5,i5,f5,c5,x5,rfl,hk9,hb9⟩ | ⟨he,rfl,hb9⟩)
  ·have HS9:=Lib.hid (HS0.out.step hb9)
   have HKE:=Lib.hid hk9
   have HE:=Lib.hid he
   clear hb9 hk9 he
   obtain ⟨⟨h0,h1,h2,h3,h4,h5,h6,h7⟩,hz⟩:=boxed_of HS9.out.res
   go_wp2
   refine bodyPost_ret (v := .tuple #[vecW k5 b5 bn5 s5 i5 f5 c5 x5,.int .i64 0]) ?_ rfl (.inl ⟨HE.out,k5,b5,bn5,s5,i5,f5,c5,x5,rfl,(HKE.out.set8 (.inr rfl) _ _ _ _ _ _ _ _).sub (fun _ _ e => .inl e),below_set8 HS9.out.bel (Nat.le_add_right _ 2) _ _ _ _ _ _ _ _⟩)
   exact ret_vec2 (fn:=Tryz.f94) (p:=6) (u:=7) rfl _ _ (w.heap.size+2) (by rfl) (set8_block HS9.out.res _ _ _ _ _ _ _ _)
  ·have HS9:=Lib.hid (HS0.out.step hb9)
   have HE:=Lib.hid he
   clear hb9 he
   obtain ⟨⟨h0,h1,h2,h3,h4,h5,h6,h7⟩,hz⟩:=boxed_of HS9.out.res
   go_wp2
   refine bodyPost_ret (v := .tuple #[vecV 0 vnil 0 vnil vnil vnil vnil vnil,.int .i64 E]) ?_ rfl (.inr ⟨HE.out,rfl,below_set8 HS9.out.bel (Nat.le_add_right _ 2) _ _ _ _ _ _ _ _⟩)
   exact ret_vec2 (fn:=Tryz.f94) (p:=6) (u:=7) rfl _ _ (w.heap.size+2) (by rfl) (set8_block HS9.out.res _ _ _ _ _ _ _ _)
def WhZ (t:Bool) (W:World) (e:Ending) (w':World):Prop:=∃ (a:Option Addr) (l c:Nat),e= .returned (.tuple #[.slice a l c,.bool t])/\Below W.heap.size W w'
theorem awholesZ_no (f:Int) (p q:V8) (N:Nat) (t1 t2:Bool) (ht:(t1&&t2)=false) (w:World)
  (hP:∀ W,Below w.heap.size w W->Calls Tryz.prog 122 #[p.v] W (WhZ t1 W)) (hQ:∀ W,Below w.heap.size w W->Calls Tryz.prog 122 #[q.v] W (WhZ t2 W)) :
  Calls Tryz.prog 231 #[.int .i64 f,.int .i64 (N:Int),p.v,q.v] w (NoVec w):=by
 have HP:=Lib.hid hP
 have HQ:=Lib.hid hQ
 unfold WhZ at HP HQ
 have HS0:=Lib.hid (St2.new w p q)
 have hcase:t1=false\/(t1=true/\t2=false):=by cases t1 <;> cases t2 <;> simp_all
 clear hP hQ ht
 rcases hcase with rfl | ⟨rfl,rfl⟩
 all_goals
  go_enter Tryz.func231,Tryz.ntmps231
  obtain ⟨h0,h1,h2,h3,h4,h5,h6,h7⟩:=HS0.out.one
  go_wp2_with fail
  refine (HP.out _ HS0.out.bel).mono ?_
  rintro e w1 ⟨a1,l1,c1,rfl,hb1⟩
  have HS1:=Lib.hid (HS0.out.step hb1)
  clear hb1 h0 h1 h2 h3 h4 h5 h6 h7
  obtain ⟨h0,h1,h2,h3,h4,h5,h6,h7⟩:=HS1.out.two
  go_wp2_with fail
  refine (HQ.out _ HS1.out.bel).mono ?_
  rintro e w2 ⟨a2,l2,c2,rfl,hb2⟩
  have HS2:=Lib.hid (HS1.out.step hb2)
  clear hb2 h0 h1 h2 h3 h4 h5 h6 h7
  obtain ⟨⟨h0,h1,h2,h3,h4,h5,h6,h7⟩,hz⟩:=boxed_of HS2.out.res
  go_wp2
  refine bodyPost_ret (v := .tuple #[vecV 0 vnil 0 vnil vnil vnil vnil vnil,.bool false]) ?_ rfl ⟨rfl,below_set8 HS2.out.bel (by omega) _ _ _ _ _ _ _ _⟩
  exact ret_vec2 (fn:=Tryz.f231) (p:=8) (u:=9) rfl _ _ (w.heap.size+2) (by rfl) (set8_block HS2.out.res _ _ _ _ _ _ _ _)
theorem awholesZ_yes (H:Nat->Prop) (f:Int) (p q:V8) (N:Nat) (hN:N=0) (R:Nat->Nat×Int) (t1 t2:Bool) (ht1:t1=true) (ht2:t2=true) (w:World) (hH:∀ b,H b->b < w.heap.size)
  (hP:∀ W,Below w.heap.size w W->Calls Tryz.prog 122 #[p.v] W (WhZ t1 W)) (hQ:∀ W,Below w.heap.size w W->Calls Tryz.prog 122 #[q.v] W (WhZ t2 W)) :
  Calls Tryz.prog 231 #[.int .i64 f,.int .i64 (N:Int),p.v,q.v] w (AwOut H w R N):=by
 subst ht1
 subst ht2
 have hNb:N<=1000000:=by omega
 have HP:=Lib.hid hP
 have HQ:=Lib.hid hQ
 unfold WhZ at HP HQ
 have HS0:=Lib.hid (St2.new w p q)
 have HH:=Lib.hid hH
 have HN:=Lib.hid hN
 have hmk:=run_make_row' (P:=Tryz.prog) 32 2 (.int .i64 0) 8 Tryz.underlying32 info_i64 rfl .i64 .i64 N (by omega) (by omega)
 obtain ⟨ff,hff⟩:∃ ff:Nat->Value,ff=fun c => .int .i64 (zOf (R c).1):=⟨_,rfl⟩
 have HFF:Hid (∀ c,ff c= .int .i64 (zOf (R c).1)):=fun c=>by rw [hff]
 clear hff hP hQ hH hN
 go_enter Tryz.func231,Tryz.ntmps231
 obtain ⟨h0,h1,h2,h3,h4,h5,h6,h7⟩:=HS0.out.one
 go_wp2_with fail
 refine (HP.out _ HS0.out.bel).mono ?_
 rintro e w1 ⟨a1,l1,c1,rfl,hb1⟩
 have HS1:=Lib.hid (HS0.out.step hb1)
 clear hb1 h0 h1 h2 h3 h4 h5 h6 h7 HS0
 obtain ⟨h0,h1,h2,h3,h4,h5,h6,h7⟩:=HS1.out.two
 go_wp2_with fail
 refine (HQ.out _ HS1.out.bel).mono ?_
 rintro e w2 ⟨a2,l2,c2,rfl,hb2⟩
 have HS2:=Lib.hid (HS1.out.step hb2)
 clear hb2 h0 h1 h2 h3 h4 h5 h6 h7 HS1 HP HQ
 have HF0:=Lib.hid (Fill.made w2 w2.heap.size (Nat.le_refl _) 2 ff (.int .i64 0) N (by unfold maxLen;omega))
 have HB0:=Lib.hid (bel1 w2 (.cells (madeCells #[.int .i64 0] N) 2))
 go_wp2
 go_loopw [40] (fun j wr=>∃ c:Nat,c<=N/\j= .int .i64 c/\Fill wr w2.heap.size w2.heap.size 2 ff (.int .i64 0) N c/\Below w2.heap.size w2 wr/\∀ cc,cc < c->∃ z,R cc=(fi z,0)/\Good z) (fun j _=>N - (intOf j).toNat)
 case atStart=>exact ⟨0,Nat.zero_le _,rfl,HF0.out,HB0.out,fun cc h=>absurd h (Nat.not_lt_zero _)⟩
 case round =>
  clear HF0 HB0
  obtain ⟨c,hc,rfl,hfl,hbl,hall⟩:=hrel
  have HFL:=Lib.hid hfl
  have HBL:=Lib.hid hbl
  have HALL:=Lib.hid hall
  clear hfl hbl hall
  by_cases hlt:c < N
  ·exact absurd hlt (by rw [HN.out];exact Nat.not_lt_zero _)
  ·obtain rfl:c=N:=by omega
   have HZ:Hid (∀ j,j < c->∃ z,(R j).1=fi z/\zOf (R j).1=z/\Good z):=fun j hj=>by
    obtain ⟨z,hz,hg⟩:=HALL.out j hj
    rw [hz]
    exact ⟨z,rfl,zOf_of (wholeP_fi hg),hg⟩
   have HGO:Hid (∀ j,j < c->Good (zOf (R j).1)):=fun j hj=>by
    obtain ⟨z,_,h2,hg⟩:=HZ.out j hj
    rw [h2];exact hg
   have HFO:Hid (∀ j,j < c->(R j).1=fi (zOf (R j).1)):=fun j hj=>by
    obtain ⟨z,h1,h2,_⟩:=HZ.out j hj
    rw [h2];exact h1
   have HOK:Hid (∀ j,j < c->(R j).2=0):=fun j hj=>by
    obtain ⟨z,hz,_⟩:=HALL.out j hj
    rw [hz]
   have HRD:Hid (Reads1 wr (.slice (some ⟨w2.heap.size,0,none⟩) c c) (((List.range c).map fun j=>zOf (R j).1).map (.int .i64))):=by
    have h:=HFL.out.own.reads
    have e:(List.range c).map ff=((List.range c).map fun j=>zOf (R j).1).map (.int .i64):=by
     rw [List.map_map]
     exact List.map_congr_left fun j _=>HFF.out j
    rw [e] at h
    exact h
   have HI:=Lib.hid (ints_any HRD.out (by simpa using hNb) (fun y hy=>by
    obtain ⟨j,hj,rfl⟩:=List.mem_map.1 hy
    exact HGO.out j (List.mem_range.1 hj)))
   have HST:=Lib.hid (HS2.out.step HBL.out)
   clear HFL
   go_wp2_with fail
   refine HI.out.mono ?_
   rintro e w3 ⟨u,rfl,hou,hb3⟩
   rw [List.map_map] at hou
   have HS3:=Lib.hid ((HST.out.step hb3))
   have HU:=Lib.hid (hou.lower (show w.heap.size+3<=wr.heap.size from HST.out.sz))
   obtain ⟨ua,un,uc,hu⟩:∃ a n c,u= .slice a n c:=by obtain ⟨a,c,e⟩:=hou.reads.len;exact ⟨a,_,c,e⟩
   subst hu
   clear hb3 hou HST
   have HS4:=Lib.hid (HS3.out.al (.cells #[.int .i64 3,vnil,.int .i64 0,vnil,.slice ua un uc,vnil,vnil,vnil] 37))
   have HU4:=Lib.hid (HU.out.alloc (.cells #[.int .i64 3,vnil,.int .i64 0,vnil,.slice ua un uc,vnil,vnil,vnil] 37))
   have HKV:Hid (Keeps (fun j=>H j\/j=w.heap.size+2) (w3.alloc (.cells #[.int .i64 3,vnil,.int .i64 0,vnil,.slice ua un uc,vnil,vnil,vnil] 37)) (NumV (vecW 3 (none,0,0) 0 (none,0,0) (ua,un,uc) (none,0,0) (none,0,0) (none,0,0)) 3 c (fun j=>(R j).1))) :=
    ((HU.out.keepsH (fun j e=>by rcases e with e | e;have:=HH.out j e;omega;omega)).imp fun W' h2=>(numV_ints ⟨⟨_,rfl,h2⟩,HGO.out⟩).congr HFO.out).step (bel1 w3 _)
   have HSQ:=Lib.hid (squeeze_num (fun j=>H j\/j=w.heap.size+2) 3 (none,0,0) 0 (none,0,0) (ua,un,uc) (none,0,0) (none,0,0) (none,0,0) c (fun j=>(R j).1) _ (fun j e=>by
    have h1:=HS4.out.sz
    rcases e with e | e
    ·have:=HH.out j e;omega
    ·omega) hNb HKV.out)
   go_wp2_with fail
   refine HSQ.out.mono ?_
   rintro e w5 ⟨k5,b5,bn5,s5,i5,f5,c5,x5,rfl,hk5,hb5⟩
   have HS5:=Lib.hid (HS4.out.step hb5)
   have HKE:=Lib.hid hk5
   clear hb5 hk5
   have z5':w.heap.size+2 < w5.heap.size:=HS5.out.sz
   obtain ⟨⟨h0,h1,h2,h3,h4,h5,h6,h7⟩,hz⟩:=boxed_of HS5.out.res
   go_wp2
   refine bodyPost_ret (v := .tuple #[vecW k5 b5 bn5 s5 i5 f5 c5 x5,.bool true]) ?_ rfl (.inl ⟨HOK.out,k5,b5,bn5,s5,i5,f5,c5,x5,rfl,(HKE.out.set8 (.inr rfl) _ _ _ _ _ _ _ _).sub (fun _ _ e => .inl e),below_set8 HS5.out.bel (Nat.le_add_right _ 2) _ _ _ _ _ _ _ _⟩)
   exact ret_vec2 (fn:=Tryz.f231) (p:=8) (u:=9) rfl _ _ (w.heap.size+2) (by rfl) (set8_block HS5.out.res _ _ _ _ _ _ _ _)
theorem aapply_zero (H:Nat->Prop) (f:Int) (hf:1<=f) (hf2:f<=8) (p q:V8) (m n:Nat) (R:Nat->Nat×Int) (F G:Nat->Nat) (t1 t2:Bool) (w:World) (hL:lenP m n=some 0) (hH:∀ b,H b->b < w.heap.size) (hm:m<=1000000) (hn:n<=1000000)
  (hP:∀ W,Below w.heap.size w W->NumW p.v m F W) (hQ:∀ W,Below w.heap.size w W->NumW q.v n G W)
  (hWP:∀ W,Below w.heap.size w W->Calls Tryz.prog 122 #[p.v] W (WhZ t1 W)) (hWQ:∀ W,Below w.heap.size w W->Calls Tryz.prog 122 #[q.v] W (WhZ t2 W)) :
  Calls Tryz.prog 167 #[.int .i64 f,p.v,q.v] w (Ap2Out H w R (lenP m n)):=by
 have hfl:∀ (W:World) (H':Nat->Prop),Below w.heap.size w W->(∀ b,H' b->b < W.heap.size)->Calls Tryz.prog 232 #[.int .i64 f,.int .i64 ((0:Nat):Int),p.v,q.v] W (ArOut H' W R 0):=by
  intro W H' hb hH'
  exact afloats_any H' f R p q m n 0 F G W hH' hL hm hn (fun W' hb'=>hP W' (bel_both hb hb')) (fun W' hb'=>hQ W' (bel_both hb hb')) (fun c hc=>absurd hc (Nat.not_lt_zero _)) fun c hc=>absurd hc (Nat.not_lt_zero _)
 by_cases hd:f=4\/f=8
 ·exact aapply_div H f hf hf2 p q m n F G R w 0 hH hL hd hfl hP hQ
 ·refine aapply_all H f hf hf2 p q m n F G R w 0 hH hL hd hfl (fun W H' hb hH'=>?_) hP hQ
  by_cases ht:(t1&&t2)=true
  ·obtain ⟨h1,h2⟩:t1=true/\t2=true:=by simpa using ht
   exact awholesZ_yes H' f p q 0 rfl R t1 t2 h1 h2 W hH' (fun W' hb'=>hWP W' (bel_both hb hb')) fun W' hb'=>hWQ W' (bel_both hb hb')
  ·exact (awholesZ_no f p q 0 t1 t2 (by simpa using ht) W (fun W' hb'=>hWP W' (bel_both hb hb')) fun W' hb'=>hWQ W' (bel_both hb hb')).mono fun e w' h => .inr h
theorem whZ_num (p:V8) (m:Nat) (F:Nat->Nat) (w:World) (hm:m<=1000000) (hN:∀ W,Below w.heap.size w W->NumV p.v p.k m F W):Calls Tryz.prog 122 #[p.v] w (WhZ (p.k != 4) w) :=
 (wholesW_any p m F w hm hN).mono fun _ _ ⟨a,l,c,h1,_,hb⟩=>⟨a,l,c,h1,hb⟩
theorem whZ_zb (w:World):Calls Tryz.prog 122 #[vecW 1 (none,0,0) 0 (none,0,0) (none,0,0) (none,0,0) (none,0,0) (none,0,0)] w (WhZ true w):=by
 refine (wholes_bits _ _ _ _ _ _ _ 0 (fun _=>0) w (by omega) (fun W hw=>len_1 _ _ _ _ _ _ _ W) (fun W hw j hj=>absurd hj (Nat.not_lt_zero _))).mono ?_
 rintro e w1 ⟨g,rfl,ho,hb⟩
 exact ⟨_,_,_,rfl,hb⟩
end Go.Proofs.YtiahegjdkejjpaaGreatDoor
