/- The walk of logic.Apply at two lists of any lengths that go .. Conditions: as each theorem says. -/
import Derived.Test.YtiahegjdkejjpaaGreatDoorMg17
set_option maxRecDepth 100000
set_option maxHeartbeats 4000000
namespace Go.Proofs.YtiahegjdkejjpaaGreatDoor
open Go Go.RowKit Go.Proofs Fl
theorem RowU.at_ {W:World}{B g n:Nat}{L:Nat->Bool} (h:RowU W B g ((n+63) / 64) (packW L n)):BitsAt W (some ⟨g,0,none⟩,(n+63) / 64,(n+63) / 64) n L :=
 ⟨g,0,_,rfl,fun j hj=>by rw [Nat.zero_add];exact h.cell hj⟩
theorem St2.put2 {w W:World}{p q:V8} (h:St2 w W p q){g:Nat} (ha:w.heap.size+3<=g) (a0 a1:Value):St2 w (set2 W g a0 a1) p q:=(h.put ha a0).put ha a1
theorem set2_other {W:World}{V b:Nat} (hb:b≠V) (a0 a1:Value):(set2 W V a0 a1).heap[b]?=W.heap[b]?:=by
 unfold set2
 rw [Below.heap_setCell _ _ _ _ (by exact hb),Below.heap_setCell _ _ _ _ (by exact hb)]
theorem lapply_ss (H:Nat->Prop) (f:Int) (hf:21<=f) (hf2:f<=24) (p q:V8) (TT R:Nat->Bool) (w:World) (N:Nat) (F G:Nat->Nat) (hH:∀ b,H b->b < w.heap.size) (hL:lenP N N=some N) (hN0:0 < N) (hNb:N<=1000000)
  (hSP:∀ W,Below w.heap.size w W->Calls Tryz.prog 213 #[p.v] W fun e w'=>((∃ (b:Sl) (L:Nat->Bool),e= .returned (.tuple #[.agg #[.slice b.1 b.2.1 b.2.2,.int .i64 (N:Int)],.bool true])/\BitsAt w' b N L/\(∀ j,j < N->F j=flagF (L j))/\Below W.heap.size W w')\/((∃ c,c < N/\TT c=false)/\e= .returned (.tuple #[.agg #[vnil,.int .i64 0],.bool false])/\Below W.heap.size W w')))
  (hSQ:∀ W,Below w.heap.size w W->Calls Tryz.prog 213 #[q.v] W fun e w'=>((∃ (b:Sl) (L:Nat->Bool),e= .returned (.tuple #[.agg #[.slice b.1 b.2.1 b.2.2,.int .i64 (N:Int)],.bool true])/\BitsAt w' b N L/\(∀ j,j < N->G j=flagF (L j))/\Below W.heap.size W w')\/((∃ c,c < N/\TT c=false)/\e= .returned (.tuple #[.agg #[vnil,.int .i64 0],.bool false])/\Below W.heap.size W w')))
  (hTT:∀ c,c < N->∀ L1 L2:Nat->Bool,(∀ j,j < N->F j=flagF (L1 j))->(∀ j,j < N->G j=flagF (L2 j))->TT c=true)
  (hTR:∀ (W:World) (b1 b2:Sl) (L1 L2:Nat->Bool),BitsAt W b1 N L1->BitsAt W b2 N L2->(∀ j,j < N->F (ixP N j)=flagF (L1 j))->(∀ j,j < N->G (ixP N j)=flagF (L2 j))->Calls Tryz.prog 214 #[.int .u8 ((tabN f:Nat):Int),.agg #[.slice b1.1 b1.2.1 b1.2.2,.int .i64 (N:Int)],.agg #[.slice b2.1 b2.2.1 b2.2.2,.int .i64 (N:Int)]] W fun e w'=>∃ g,e= .returned (.tuple #[.agg #[.slice (some ⟨g,0,none⟩) ((N+63) / 64) ((N+63) / 64),.int .i64 (N:Int)],.bool true])/\RowU w' W.heap.size g ((N+63) / 64) (packW R N)/\Below W.heap.size W w')
  (hLP:∀ W,Below w.heap.size w W->Calls Tryz.prog 85 #[p.v] W fun e w2=>e= .returned (.int .i64 (N:Int))/\Below W.heap.size W w2)
  (hLQ:∀ W,Below w.heap.size w W->Calls Tryz.prog 85 #[q.v] W fun e w2=>e= .returned (.int .i64 (N:Int))/\Below W.heap.size W w2) :
  Calls Tryz.prog 139 #[.int .i64 f,p.v,q.v] w (Lg2Out H w TT R (lenP N N)):=by
 have HLP:=Lib.hid (fun W (hs:St2 w W p q)=>hLP W hs.bel)
 have HLQ:=Lib.hid (fun W (hs:St2 w W p q)=>hLQ W hs.bel)
 have HTB:=Lib.hid (fun W=>table_any f hf hf2 W)
 have HLL:Hid (∀ W,Calls Tryz.prog 211 #[.int .i64 (N:Int),.int .i64 (N:Int)] W fun e w'=>e= .returned (.tuple #[.int .i64 (N:Nat),.bool true])/\W=w'):=fun W=>by
  have h:=length_any N N W
  rw [hL] at h
  exact h
 have HS0:=Lib.hid (St2.new w p q)
 clear hLP hLQ
 have HLN:=Lib.hid hL
 have HH:=Lib.hid hH
 have HSP:=Lib.hid hSP
 have HSQ:=Lib.hid hSQ
 have HTR:=Lib.hid hTR
 have HNB:=Lib.hid hNb
 have n0:((N:Int)==0)=false:=by simp;omega
 have nn:((N:Int) != (N:Int))=false:=by simp
 have HMK:=Lib.hid (fun t W=>make_any N t (by omega) W)
 have HIX:Hid (∀ j,j < N->ixP N j=j/\ixP N j=j):=fun j hj=>⟨by unfold ixP;split <;> omega,by unfold ixP;split <;> omega⟩
 clear hL hH hSP hSQ hTR hNb hN0
 go_enter Tryz.func139,Tryz.ntmps139
 go_wp2_with fail
 refine (HTB.out _).mono ?_
 rintro e w9 ⟨rfl,hw9⟩
 rw [hw9] at HS0
 clear hw9
 go_wp2_with fail
 go_cut [9,10] from 24 (fun y x wx=>LenMid w p q N true x y wx)
 case first =>
  have hs0:=HS0.out.dr
  have hs00:=HS0.out
  go_region_held3 (fun W=>((W.cell? ⟨w.heap.size,0,none⟩=some (.int .i64 p.k)/\W.cell? ⟨w.heap.size,1,none⟩=some (.slice p.b.1 p.b.2.1 p.b.2.2)/\W.cell? ⟨w.heap.size,2,none⟩=some (.int .i64 p.bn)/\W.cell? ⟨w.heap.size,3,none⟩=some (.slice p.s.1 p.s.2.1 p.s.2.2)/\W.cell? ⟨w.heap.size,4,none⟩=some (.slice p.i.1 p.i.2.1 p.i.2.2)/\W.cell? ⟨w.heap.size,5,none⟩=some (.slice p.f.1 p.f.2.1 p.f.2.2)/\W.cell? ⟨w.heap.size,6,none⟩=some (.slice p.c.1 p.c.2.1 p.c.2.2)/\W.cell? ⟨w.heap.size,7,none⟩=some (.slice p.x.1 p.x.2.1 p.x.2.2))/\(W.cell? ⟨w.heap.size+1,0,none⟩=some (.int .i64 q.k)/\W.cell? ⟨w.heap.size+1,1,none⟩=some (.slice q.b.1 q.b.2.1 q.b.2.2)/\W.cell? ⟨w.heap.size+1,2,none⟩=some (.int .i64 q.bn)/\W.cell? ⟨w.heap.size+1,3,none⟩=some (.slice q.s.1 q.s.2.1 q.s.2.2)/\W.cell? ⟨w.heap.size+1,4,none⟩=some (.slice q.i.1 q.i.2.1 q.i.2.2)/\W.cell? ⟨w.heap.size+1,5,none⟩=some (.slice q.f.1 q.f.2.1 q.f.2.2)/\W.cell? ⟨w.heap.size+1,6,none⟩=some (.slice q.c.1 q.c.2.1 q.c.2.2)/\W.cell? ⟨w.heap.size+1,7,none⟩=some (.slice q.x.1 q.x.2.1 q.x.2.2)))/\St2 w W p q)
   (first | (with_reducible assumption) | (with_reducible (refine st2_s ?_);repeat (first | (with_reducible assumption) | (with_reducible refine St2.dr ?_))))
   (first
    | (go_at_call 211;(with_reducible refine (HLL.out _).mono ?_);rintro e w5 ⟨rfl,rfl⟩)
    | (go_at_call 85;(with_reducible refine (HLP.out _ ?_).mono ?_);exact St2.self (by repeat (first | (with_reducible assumption) | (with_reducible refine St2.dr ?_)));rintro e w1 ⟨rfl,hb1⟩;obtain ⟨hc1,hf1⟩:=bcell2 hb1;have hz1:=hb1.size;have hst1:St2 w w1 p q:=St2.step (by repeat (first | (with_reducible assumption) | (with_reducible refine St2.dr ?_))) hb1;clear hb1)
    | (go_at_call 85;(with_reducible refine (HLQ.out _ ?_).mono ?_);exact St2.self (by repeat (first | (with_reducible assumption) | (with_reducible refine St2.dr ?_)));rintro e w2 ⟨rfl,hb2⟩;obtain ⟨hc2,hf2⟩:=bcell2 hb2;have hz2:=hb2.size;have hst2:St2 w w2 p q:=St2.step (by repeat (first | (with_reducible assumption) | (with_reducible refine St2.dr ?_))) hb2;clear hb2))
  all_goals
   go_wp2
   go_meet
   first
    | (with_reducible exact lenMid_of hst2)
    | (with_reducible exact lenMid_of hst1)
 obtain ⟨rfl,rfl,hst⟩:=hcut
 have HST:=Lib.hid hst
 clear hst HS0 HLP HLQ HLL HTB
 obtain ⟨h0,h1,h2,h3,h4,h5,h6,h7⟩:=HST.out.one
 go_wp2_with fail
 refine (HSP.out _ HST.out.bel).mono ?_
 clear h0 h1 h2 h3 h4 h5 h6 h7
 rintro e w6 (⟨b1,L1,rfl,hat1,hf1,hb6⟩ | ⟨hbad,rfl,hb6⟩)
 ·have HS7:=Lib.hid ((HST.out.step hb6).al (.cells #[.slice b1.1 b1.2.1 b1.2.2,.int .i64 (N:Int)] 30))
  have HAT1:=Lib.hid (hat1.below (bel1 w6 (.cells #[.slice b1.1 b1.2.1 b1.2.2,.int .i64 (N:Int)] 30)))
  have HV1:=Lib.hid (heap_alloc_new w6 (.cells #[.slice b1.1 b1.2.1 b1.2.2,.int .i64 (N:Int)] 30))
  have HF1:=Lib.hid hf1
  have HV1S:Hid (w.heap.size+3<=w6.heap.size):=Nat.le_trans HST.out.sz hb6.size
  clear hb6 hat1 hf1
  obtain ⟨h0,h1,h2,h3,h4,h5,h6,h7⟩:=HS7.out.two
  go_wp2_with fail
  refine (HSQ.out _ HS7.out.bel).mono ?_
  clear h0 h1 h2 h3 h4 h5 h6 h7
  rintro e w7 (⟨b2,L2,rfl,hat2,hf2',hb7⟩ | ⟨hbad,rfl,hb7⟩)
  ·have HA1:=Lib.hid ((HAT1.out.below hb7).below (bel1 w7 (.cells #[.slice b2.1 b2.2.1 b2.2.2,.int .i64 (N:Int)] 30)))
   have HA2:=Lib.hid (hat2.below (bel1 w7 (.cells #[.slice b2.1 b2.2.1 b2.2.2,.int .i64 (N:Int)] 30)))
   have HF2:=Lib.hid hf2'
   have HV2S:Hid (w.heap.size+3<=w7.heap.size/\w6.heap.size < w7.heap.size):=⟨Nat.le_trans HS7.out.sz hb7.size,Nat.lt_of_lt_of_le (lt_of_block HV1.out) hb7.size⟩
   have HSA:=Lib.hid ((HS7.out.step hb7).al (.cells #[.slice b2.1 b2.2.1 b2.2.2,.int .i64 (N:Int)] 30))
   have HVB:=Lib.hid (heap_alloc_new w7 (.cells #[.slice b2.1 b2.2.1 b2.2.2,.int .i64 (N:Int)] 30))
   have HVA:Hid ((w7.alloc (.cells #[.slice b2.1 b2.2.1 b2.2.2,.int .i64 (N:Int)] 30)).heap[w6.heap.size]?=some (.cells #[.slice b1.1 b1.2.1 b1.2.2,.int .i64 (N:Int)] 30)):=by unfold Hid;rw [Below.heap_alloc _ _ _ HV2S.out.2,hb7.block _ (lt_of_block HV1.out)];exact HV1.out
   clear hb7 hat2 hf2' HAT1 HV1
   obtain ⟨w8,hw8⟩:∃ w8,w8=w7.alloc (.cells #[.slice b2.1 b2.2.1 b2.2.2,.int .i64 (N:Int)] 30):=⟨_,rfl⟩
   rw [<- hw8] at HA1 HA2 HSA HVB HVA
   have HW8:=Lib.hid hw8
   clear hw8
   obtain ⟨hv0,hv1,hvf⟩:=pair_of HVA.out
   rw [HW8.out] at hv0 hv1 hvf
   go_wp2_with fail
   rw [<- HW8.out]
   refine (blen_any _ _ _).mono ?_
   rintro e w10 ⟨rfl,hb⟩
   clear hv0 hv1 hvf
   have HSB:=Lib.hid (HSA.out.step hb)
   have HB1:=Lib.hid (HA1.out.below hb)
   have HB2:=Lib.hid (HA2.out.below hb)
   have HWA:Hid (w10.heap[w6.heap.size]?=some (.cells #[.slice b1.1 b1.2.1 b1.2.2,.int .i64 (N:Int)] 30)):=by unfold Hid;rw [hb.block _ (lt_of_block HVA.out)];exact HVA.out
   have HWB:Hid (w10.heap[w7.heap.size]?=some (.cells #[.slice b2.1 b2.2.1 b2.2.2,.int .i64 (N:Int)] 30)):=by unfold Hid;rw [hb.block _ (lt_of_block HVB.out)];exact HVB.out
   clear hb HSA HA1 HA2 HVA HVB
   have HSC:=HSB
   have HC1:=HB1
   have HC2:=HB2
   have HZA:=HWA
   have HZB:=HWB
   clear HSB HB1 HB2 HWA HWB
   obtain ⟨w13,hw13⟩:∃ w13,w13=w10:=⟨_,rfl⟩
   have HW13:=Lib.hid hw13
   rw [<- hw13] at HSC HC1 HC2 HZA HZB
   clear hw13
   obtain ⟨hu0,hu1,huf⟩:=pair_of HZB.out
   rw [HW13.out] at hu0 hu1 huf
   go_wp2_with fail
   have hw13:=HW13.out.symm
   (try unfold set2 at hw13)
   rw [hw13]
   clear hw13
   refine (blen_any _ _ _).mono ?_
   rintro e w14 ⟨rfl,hb⟩
   clear hu0 hu1 huf
   skip
   have HSD:=Lib.hid (HSC.out.step hb)
   have HD1:=Lib.hid (HC1.out.below hb)
   have HD2:=Lib.hid (HC2.out.below hb)
   have HUA:Hid (w14.heap[w6.heap.size]?=some (.cells #[.slice b1.1 b1.2.1 b1.2.2,.int .i64 (N:Int)] 30)):=by unfold Hid;rw [hb.block _ (lt_of_block HZA.out)];exact HZA.out
   have HUB:Hid (w14.heap[w7.heap.size]?=some (.cells #[.slice b2.1 b2.2.1 b2.2.2,.int .i64 (N:Int)] 30)):=by unfold Hid;rw [hb.block _ (lt_of_block HZB.out)];exact HZB.out
   clear hb HSC HC1 HC2 HZA HZB
   have HSE:=HSD
   have HE1:=HD1
   have HE2:=HD2
   have HTA:=HUA
   have HTB2:=HUB
   clear HSD HD1 HD2 HUA HUB
   obtain ⟨w17,hw17⟩:∃ w17,w17=w14:=⟨_,rfl⟩
   have HW17:=Lib.hid hw17
   rw [<- hw17] at HSE HE1 HE2 HTA HTB2
   clear hw17
   have HT:=Lib.hid (HTR.out w17 b1 b2 L1 L2 HE1.out HE2.out (fun j hj=>by rw [(HIX.out j hj).1];exact HF1.out _ (by omega)) (fun j hj=>by rw [(HIX.out j hj).2];exact HF2.out _ (by omega)))
   have HALL:Hid (∀ c,c < N->TT c=true):=fun c hc=>hTT c hc L1 L2 HF1.out HF2.out
   obtain ⟨hu0,hu1,huf⟩:=pair_of HTA.out
   obtain ⟨ht0,ht1,htf⟩:=pair_of HTB2.out
   rw [HW17.out] at hu0 hu1 huf ht0 ht1 htf
   go_wp2_with fail
   have hw17:=HW17.out.symm
   (try unfold set2 at hw17)
   rw [hw17]
   clear hw17
   refine HT.out.mono ?_
   rintro e w18 ⟨g8,rfl,hr,hb⟩
   clear hu0 hu1 huf ht0 ht1 htf
   skip
   have HS11':=Lib.hid ((HSE.out.step hb).al (.cells #[.slice (some ⟨g8,0,none⟩) ((N+63) / 64) ((N+63) / 64),.int .i64 (N:Int)] 30))
   have HR11:=Lib.hid (hr.below (bel1 w18 (.cells #[.slice (some ⟨g8,0,none⟩) ((N+63) / 64) ((N+63) / 64),.int .i64 (N:Int)] 30)))
   have HW0:=Lib.hid HSE.out.sz
   clear hr hb HT
   go_wp2_with fail
   refine (vbits_any _ _ _ _ _).mono ?_
   rintro e w20 ⟨rfl,hb12⟩
   have HS12':=Lib.hid (HS11'.out.step hb12)
   have HR12':=Lib.hid (HR11.out.below hb12)
   clear hb12
   have HRE:=Lib.hid (set8_block HS12'.out.res (.int .i64 1) (.slice (some ⟨g8,0,none⟩) ((N+63) / 64) ((N+63) / 64)) (.int .i64 (N:Int)) vnil vnil vnil vnil vnil)
   have HBE:=Lib.hid (below_set8 HS12'.out.bel (Nat.le_add_right _ 2) (.int .i64 1) (.slice (some ⟨g8,0,none⟩) ((N+63) / 64) ((N+63) / 64)) (.int .i64 (N:Int)) vnil vnil vnil vnil vnil)
   have HKE:Hid (Keeps H (set8 w20 (w.heap.size+2) (.int .i64 1) (.slice (some ⟨g8,0,none⟩) ((N+63) / 64) ((N+63) / 64)) (.int .i64 (N:Int)) vnil vnil vnil vnil vnil) (NumV (vecW 1 (some ⟨g8,0,none⟩,(N+63) / 64,(N+63) / 64) (N:Int) (none,0,0) (none,0,0) (none,0,0) (none,0,0) (none,0,0)) 1 N (fun c=>flagF (R c)))):=by
    have h1:Keeps (fun j=>H j\/j=w.heap.size+2) w20 (fun W=>Reads1 W (.slice (some ⟨g8,0,none⟩) ((N+63) / 64) ((N+63) / 64)) ((List.range ((N+63) / 64)).map fun j => .int .u64 (packW R N j:Nat))) :=
     Own1.keepsH HR12'.out (fun j e=>by
      have h2:=HW0.out
      rcases e with e | e
      ·have:=HH.out j e;omega
      ·omega)
    refine ((h1.imp fun W' h=>numV_bits (by have:=HNB.out;omega) ⟨_,rfl,⟨g8,0,_,rfl,fun j hj=>?_⟩⟩).set8 (.inr rfl) _ _ _ _ _ _ _ _).sub fun _ _ e => .inl e
    exact reads_cell h j hj
   clear HR11 HR12'
   obtain ⟨⟨h0,h1,h2,h3,h4,h5,h6,h7⟩,hz⟩:=boxed_of HS12'.out.res
   go_wp2
   refine bodyPost_ret (v := .tuple #[vecW 1 (some ⟨g8,0,none⟩,(N+63) / 64,(N+63) / 64) (N:Int) (none,0,0) (none,0,0) (none,0,0) (none,0,0) (none,0,0),.int .i64 0]) ?_ rfl (.inr ⟨_,HLN.out,.inl ⟨HALL.out,1,(some ⟨g8,0,none⟩,(N+63) / 64,(N+63) / 64),(N:Int),(none,0,0),(none,0,0),(none,0,0),(none,0,0),(none,0,0),rfl,HKE.out,HBE.out⟩⟩)
   exact ret_vec2 (fn:=Tryz.f139) (p:=6) (u:=7) rfl _ _ (w.heap.size+2) (by rfl) HRE.out
  ·have HS8:=Lib.hid ((HS7.out.step hb7).al (.cells bcells 30))
   have HBAD:=Lib.hid hbad
   clear hb7 hbad
   obtain ⟨⟨h0,h1,h2,h3,h4,h5,h6,h7⟩,hz⟩:=boxed_of HS8.out.res
   go_wp2
   refine bodyPost_ret (v := .tuple #[vecV 0 vnil 0 vnil vnil vnil vnil vnil,.int .i64 24]) ?_ rfl (.inr ⟨_,HLN.out,.inr ⟨HBAD.out,rfl,below_set8 HS8.out.bel (Nat.le_add_right _ 2) _ _ _ _ _ _ _ _⟩⟩)
   exact ret_vec2 (fn:=Tryz.f139) (p:=6) (u:=7) rfl _ _ (w.heap.size+2) (by rfl) (set8_block HS8.out.res _ _ _ _ _ _ _ _)
 ·have HS7:=Lib.hid ((HST.out.step hb6).al (.cells bcells 30))
  have HBAD:=Lib.hid hbad
  clear hb6 hbad
  obtain ⟨h0,h1,h2,h3,h4,h5,h6,h7⟩:=HS7.out.two
  go_wp2_with fail
  refine (HSQ.out _ HS7.out.bel).mono ?_
  clear h0 h1 h2 h3 h4 h5 h6 h7
  rintro e w7 (⟨b2,L2,rfl,hat2,hf2',hb7⟩ | ⟨hbad,rfl,hb7⟩)
  ·have HS8:=Lib.hid ((HS7.out.step hb7).al (.cells #[.slice b2.1 b2.2.1 b2.2.2,.int .i64 (N:Int)] 30))
   clear hb7 hat2 hf2'
   obtain ⟨⟨h0,h1,h2,h3,h4,h5,h6,h7⟩,hz⟩:=boxed_of HS8.out.res
   go_wp2
   refine bodyPost_ret (v := .tuple #[vecV 0 vnil 0 vnil vnil vnil vnil vnil,.int .i64 24]) ?_ rfl (.inr ⟨_,HLN.out,.inr ⟨HBAD.out,rfl,below_set8 HS8.out.bel (Nat.le_add_right _ 2) _ _ _ _ _ _ _ _⟩⟩)
   exact ret_vec2 (fn:=Tryz.f139) (p:=6) (u:=7) rfl _ _ (w.heap.size+2) (by rfl) (set8_block HS8.out.res _ _ _ _ _ _ _ _)
  ·have HS8:=Lib.hid ((HS7.out.step hb7).al (.cells bcells 30))
   clear hb7 hbad
   obtain ⟨⟨h0,h1,h2,h3,h4,h5,h6,h7⟩,hz⟩:=boxed_of HS8.out.res
   go_wp2
   refine bodyPost_ret (v := .tuple #[vecV 0 vnil 0 vnil vnil vnil vnil vnil,.int .i64 24]) ?_ rfl (.inr ⟨_,HLN.out,.inr ⟨HBAD.out,rfl,below_set8 HS8.out.bel (Nat.le_add_right _ 2) _ _ _ _ _ _ _ _⟩⟩)
   exact ret_vec2 (fn:=Tryz.f139) (p:=6) (u:=7) rfl _ _ (w.heap.size+2) (by rfl) (set8_block HS8.out.res _ _ _ _ _ _ _ _)
theorem lapply_os (H:Nat->Prop) (f:Int) (hf:21<=f) (hf2:f<=24) (p q:V8) (TT R:Nat->Bool) (w:World) (N:Nat) (hN1:N≠1) (F G:Nat->Nat) (hH:∀ b,H b->b < w.heap.size) (hL:lenP 1 N=some N) (hN0:0 < N) (hNb:N<=1000000)
  (hSP:∀ W,Below w.heap.size w W->Calls Tryz.prog 213 #[p.v] W fun e w'=>((∃ (b:Sl) (L:Nat->Bool),e= .returned (.tuple #[.agg #[.slice b.1 b.2.1 b.2.2,.int .i64 (1:Int)],.bool true])/\BitsAt w' b 1 L/\(∀ j,j < 1->F j=flagF (L j))/\Below W.heap.size W w')\/((∃ c,c < N/\TT c=false)/\e= .returned (.tuple #[.agg #[vnil,.int .i64 0],.bool false])/\Below W.heap.size W w')))
  (hSQ:∀ W,Below w.heap.size w W->Calls Tryz.prog 213 #[q.v] W fun e w'=>((∃ (b:Sl) (L:Nat->Bool),e= .returned (.tuple #[.agg #[.slice b.1 b.2.1 b.2.2,.int .i64 (N:Int)],.bool true])/\BitsAt w' b N L/\(∀ j,j < N->G j=flagF (L j))/\Below W.heap.size W w')\/((∃ c,c < N/\TT c=false)/\e= .returned (.tuple #[.agg #[vnil,.int .i64 0],.bool false])/\Below W.heap.size W w')))
  (hTT:∀ c,c < N->∀ L1 L2:Nat->Bool,(∀ j,j < 1->F j=flagF (L1 j))->(∀ j,j < N->G j=flagF (L2 j))->TT c=true)
  (hTR:∀ (W:World) (b1 b2:Sl) (L1 L2:Nat->Bool),BitsAt W b1 N L1->BitsAt W b2 N L2->(∀ j,j < N->F (ixP 1 j)=flagF (L1 j))->(∀ j,j < N->G (ixP N j)=flagF (L2 j))->Calls Tryz.prog 214 #[.int .u8 ((tabN f:Nat):Int),.agg #[.slice b1.1 b1.2.1 b1.2.2,.int .i64 (N:Int)],.agg #[.slice b2.1 b2.2.1 b2.2.2,.int .i64 (N:Int)]] W fun e w'=>∃ g,e= .returned (.tuple #[.agg #[.slice (some ⟨g,0,none⟩) ((N+63) / 64) ((N+63) / 64),.int .i64 (N:Int)],.bool true])/\RowU w' W.heap.size g ((N+63) / 64) (packW R N)/\Below W.heap.size W w')
  (hLP:∀ W,Below w.heap.size w W->Calls Tryz.prog 85 #[p.v] W fun e w2=>e= .returned (.int .i64 (1:Int))/\Below W.heap.size W w2)
  (hLQ:∀ W,Below w.heap.size w W->Calls Tryz.prog 85 #[q.v] W fun e w2=>e= .returned (.int .i64 (N:Int))/\Below W.heap.size W w2) :
  Calls Tryz.prog 139 #[.int .i64 f,p.v,q.v] w (Lg2Out H w TT R (lenP 1 N)):=by
 have HLP:=Lib.hid (fun W (hs:St2 w W p q)=>hLP W hs.bel)
 have HLQ:=Lib.hid (fun W (hs:St2 w W p q)=>hLQ W hs.bel)
 have HTB:=Lib.hid (fun W=>table_any f hf hf2 W)
 have HLL:Hid (∀ W,Calls Tryz.prog 211 #[.int .i64 (1:Int),.int .i64 (N:Int)] W fun e w'=>e= .returned (.tuple #[.int .i64 (N:Nat),.bool true])/\W=w'):=fun W=>by
  have h:=length_any 1 N W
  rw [hL] at h
  exact h
 have HS0:=Lib.hid (St2.new w p q)
 clear hLP hLQ
 have HLN:=Lib.hid hL
 have HH:=Lib.hid hH
 have HSP:=Lib.hid hSP
 have HSQ:=Lib.hid hSQ
 have HTR:=Lib.hid hTR
 have HNB:=Lib.hid hNb
 have n0:((N:Int)==0)=false:=by simp;omega
 have nn:((N:Int) != (N:Int))=false:=by simp
 have n1:((1:Int) != (N:Int))=true:=by simp;omega
 have HMK:=Lib.hid (fun t W=>make_any N t (by omega) W)
 have HIX:Hid (∀ j,j < N->ixP 1 j=0/\ixP N j=j):=fun j hj=>⟨by rfl,by unfold ixP;split <;> omega⟩
 clear hL hH hSP hSQ hTR hNb hN0 hN1
 go_enter Tryz.func139,Tryz.ntmps139
 go_wp2_with fail
 refine (HTB.out _).mono ?_
 rintro e w9 ⟨rfl,hw9⟩
 rw [hw9] at HS0
 clear hw9
 go_wp2_with fail
 go_cut [9,10] from 24 (fun y x wx=>LenMid w p q N true x y wx)
 case first =>
  have hs0:=HS0.out.dr
  have hs00:=HS0.out
  go_region_held3 (fun W=>((W.cell? ⟨w.heap.size,0,none⟩=some (.int .i64 p.k)/\W.cell? ⟨w.heap.size,1,none⟩=some (.slice p.b.1 p.b.2.1 p.b.2.2)/\W.cell? ⟨w.heap.size,2,none⟩=some (.int .i64 p.bn)/\W.cell? ⟨w.heap.size,3,none⟩=some (.slice p.s.1 p.s.2.1 p.s.2.2)/\W.cell? ⟨w.heap.size,4,none⟩=some (.slice p.i.1 p.i.2.1 p.i.2.2)/\W.cell? ⟨w.heap.size,5,none⟩=some (.slice p.f.1 p.f.2.1 p.f.2.2)/\W.cell? ⟨w.heap.size,6,none⟩=some (.slice p.c.1 p.c.2.1 p.c.2.2)/\W.cell? ⟨w.heap.size,7,none⟩=some (.slice p.x.1 p.x.2.1 p.x.2.2))/\(W.cell? ⟨w.heap.size+1,0,none⟩=some (.int .i64 q.k)/\W.cell? ⟨w.heap.size+1,1,none⟩=some (.slice q.b.1 q.b.2.1 q.b.2.2)/\W.cell? ⟨w.heap.size+1,2,none⟩=some (.int .i64 q.bn)/\W.cell? ⟨w.heap.size+1,3,none⟩=some (.slice q.s.1 q.s.2.1 q.s.2.2)/\W.cell? ⟨w.heap.size+1,4,none⟩=some (.slice q.i.1 q.i.2.1 q.i.2.2)/\W.cell? ⟨w.heap.size+1,5,none⟩=some (.slice q.f.1 q.f.2.1 q.f.2.2)/\W.cell? ⟨w.heap.size+1,6,none⟩=some (.slice q.c.1 q.c.2.1 q.c.2.2)/\W.cell? ⟨w.heap.size+1,7,none⟩=some (.slice q.x.1 q.x.2.1 q.x.2.2)))/\St2 w W p q)
   (first | (with_reducible assumption) | (with_reducible (refine st2_s ?_);repeat (first | (with_reducible assumption) | (with_reducible refine St2.dr ?_))))
   (first
    | (go_at_call 211;(with_reducible refine (HLL.out _).mono ?_);rintro e w5 ⟨rfl,rfl⟩)
    | (go_at_call 85;(with_reducible refine (HLP.out _ ?_).mono ?_);exact St2.self (by repeat (first | (with_reducible assumption) | (with_reducible refine St2.dr ?_)));rintro e w1 ⟨rfl,hb1⟩;obtain ⟨hc1,hf1⟩:=bcell2 hb1;have hz1:=hb1.size;have hst1:St2 w w1 p q:=St2.step (by repeat (first | (with_reducible assumption) | (with_reducible refine St2.dr ?_))) hb1;clear hb1)
    | (go_at_call 85;(with_reducible refine (HLQ.out _ ?_).mono ?_);exact St2.self (by repeat (first | (with_reducible assumption) | (with_reducible refine St2.dr ?_)));rintro e w2 ⟨rfl,hb2⟩;obtain ⟨hc2,hf2⟩:=bcell2 hb2;have hz2:=hb2.size;have hst2:St2 w w2 p q:=St2.step (by repeat (first | (with_reducible assumption) | (with_reducible refine St2.dr ?_))) hb2;clear hb2))
  all_goals
   go_wp2
   go_meet
   first
    | (with_reducible exact lenMid_of hst2)
    | (with_reducible exact lenMid_of hst1)
 obtain ⟨rfl,rfl,hst⟩:=hcut
 have HST:=Lib.hid hst
 clear hst HS0 HLP HLQ HLL HTB
 obtain ⟨h0,h1,h2,h3,h4,h5,h6,h7⟩:=HST.out.one
 go_wp2_with fail
 refine (HSP.out _ HST.out.bel).mono ?_
 clear h0 h1 h2 h3 h4 h5 h6 h7
 rintro e w6 (⟨b1,L1,rfl,hat1,hf1,hb6⟩ | ⟨hbad,rfl,hb6⟩)
 ·have HS7:=Lib.hid ((HST.out.step hb6).al (.cells #[.slice b1.1 b1.2.1 b1.2.2,.int .i64 (1:Int)] 30))
  have HAT1:=Lib.hid (hat1.below (bel1 w6 (.cells #[.slice b1.1 b1.2.1 b1.2.2,.int .i64 (1:Int)] 30)))
  have HV1:=Lib.hid (heap_alloc_new w6 (.cells #[.slice b1.1 b1.2.1 b1.2.2,.int .i64 (1:Int)] 30))
  have HF1:=Lib.hid hf1
  have HV1S:Hid (w.heap.size+3<=w6.heap.size):=Nat.le_trans HST.out.sz hb6.size
  clear hb6 hat1 hf1
  obtain ⟨h0,h1,h2,h3,h4,h5,h6,h7⟩:=HS7.out.two
  go_wp2_with fail
  refine (HSQ.out _ HS7.out.bel).mono ?_
  clear h0 h1 h2 h3 h4 h5 h6 h7
  rintro e w7 (⟨b2,L2,rfl,hat2,hf2',hb7⟩ | ⟨hbad,rfl,hb7⟩)
  ·have HA1:=Lib.hid ((HAT1.out.below hb7).below (bel1 w7 (.cells #[.slice b2.1 b2.2.1 b2.2.2,.int .i64 (N:Int)] 30)))
   have HA2:=Lib.hid (hat2.below (bel1 w7 (.cells #[.slice b2.1 b2.2.1 b2.2.2,.int .i64 (N:Int)] 30)))
   have HF2:=Lib.hid hf2'
   have HV2S:Hid (w.heap.size+3<=w7.heap.size/\w6.heap.size < w7.heap.size):=⟨Nat.le_trans HS7.out.sz hb7.size,Nat.lt_of_lt_of_le (lt_of_block HV1.out) hb7.size⟩
   have HSA:=Lib.hid ((HS7.out.step hb7).al (.cells #[.slice b2.1 b2.2.1 b2.2.2,.int .i64 (N:Int)] 30))
   have HVB:=Lib.hid (heap_alloc_new w7 (.cells #[.slice b2.1 b2.2.1 b2.2.2,.int .i64 (N:Int)] 30))
   have HVA:Hid ((w7.alloc (.cells #[.slice b2.1 b2.2.1 b2.2.2,.int .i64 (N:Int)] 30)).heap[w6.heap.size]?=some (.cells #[.slice b1.1 b1.2.1 b1.2.2,.int .i64 (1:Int)] 30)):=by unfold Hid;rw [Below.heap_alloc _ _ _ HV2S.out.2,hb7.block _ (lt_of_block HV1.out)];exact HV1.out
   clear hb7 hat2 hf2' HAT1 HV1
   obtain ⟨w8,hw8⟩:∃ w8,w8=w7.alloc (.cells #[.slice b2.1 b2.2.1 b2.2.2,.int .i64 (N:Int)] 30):=⟨_,rfl⟩
   rw [<- hw8] at HA1 HA2 HSA HVB HVA
   have HW8:=Lib.hid hw8
   clear hw8
   obtain ⟨hv0,hv1,hvf⟩:=pair_of HVA.out
   rw [HW8.out] at hv0 hv1 hvf
   go_wp2_with fail
   rw [<- HW8.out]
   refine (blen_any _ _ _).mono ?_
   rintro e w10 ⟨rfl,hb⟩
   clear hv0 hv1 hvf
   have HSB:=Lib.hid (HSA.out.step hb)
   have HB1:=Lib.hid (HA1.out.below hb)
   have HB2:=Lib.hid (HA2.out.below hb)
   have HWA:Hid (w10.heap[w6.heap.size]?=some (.cells #[.slice b1.1 b1.2.1 b1.2.2,.int .i64 (1:Int)] 30)):=by unfold Hid;rw [hb.block _ (lt_of_block HVA.out)];exact HVA.out
   have HWB:Hid (w10.heap[w7.heap.size]?=some (.cells #[.slice b2.1 b2.2.1 b2.2.2,.int .i64 (N:Int)] 30)):=by unfold Hid;rw [hb.block _ (lt_of_block HVB.out)];exact HVB.out
   clear hb HSA HA1 HA2 HVA HVB
   have HAT:=Lib.hid (bitV_at (s := .slice b1.1 b1.2.1 b1.2.2) (n:=1) (by omega) HB1.out.in 0 (by omega))
   obtain ⟨hv0,hv1,hvf⟩:=pair_of HWA.out
   go_wp2_with fail
   refine HAT.out.mono ?_
   rintro e w11 ⟨rfl,hb⟩
   have HS11:=Lib.hid (HSB.out.step hb)
   have HO11:=Lib.hid (HB2.out.below hb)
   have HX11:Hid (w11.heap[w6.heap.size]?=some (.cells #[.slice b1.1 b1.2.1 b1.2.2,.int .i64 (1:Int)] 30)):=by unfold Hid;rw [hb.block _ (lt_of_block HWA.out)];exact HWA.out
   have HY11:Hid (w11.heap[w7.heap.size]?=some (.cells #[.slice b2.1 b2.2.1 b2.2.2,.int .i64 (N:Int)] 30)):=by unfold Hid;rw [hb.block _ (lt_of_block HWB.out)];exact HWB.out
   clear hb hv0 hv1 hvf HAT
   go_wp2_with fail
   refine (HMK.out _ _).mono ?_
   rintro e w12 ⟨ga,rfl,hr,hb⟩
   have HS12:=Lib.hid (HS11.out.step hb)
   have HO12:=Lib.hid (HO11.out.below hb)
   have HX12:Hid (w12.heap[w6.heap.size]?=some (.cells #[.slice b1.1 b1.2.1 b1.2.2,.int .i64 (1:Int)] 30)):=by unfold Hid;rw [hb.block _ (lt_of_block HX11.out)];exact HX11.out
   have HY12:Hid (w12.heap[w7.heap.size]?=some (.cells #[.slice b2.1 b2.2.1 b2.2.2,.int .i64 (N:Int)] 30)):=by unfold Hid;rw [hb.block _ (lt_of_block HY11.out)];exact HY11.out
   have HR12:=Lib.hid hr.at_
   clear hb hr
   obtain ⟨hv0,hv1,hvf⟩:=pair_of HX12.out
   have HSC:=Lib.hid (HS12.out.put2 HV1S.out (.slice (some ⟨ga,0,none⟩) ((N+63) / 64) ((N+63) / 64)) (.int .i64 (N:Int)))
   have HC1:=Lib.hid (HR12.out.set2 HX12.out (.slice (some ⟨ga,0,none⟩) ((N+63) / 64) ((N+63) / 64)) (.int .i64 (N:Int)))
   have HC2:=Lib.hid (HO12.out.set2 HX12.out (.slice (some ⟨ga,0,none⟩) ((N+63) / 64) ((N+63) / 64)) (.int .i64 (N:Int)))
   have HZA:=Lib.hid (set2_block HX12.out (.slice (some ⟨ga,0,none⟩) ((N+63) / 64) ((N+63) / 64)) (.int .i64 (N:Int)))
   have HZB:Hid ((set2 w12 w6.heap.size (.slice (some ⟨ga,0,none⟩) ((N+63) / 64) ((N+63) / 64)) (.int .i64 (N:Int))).heap[w7.heap.size]?=some (.cells #[.slice b2.1 b2.2.1 b2.2.2,.int .i64 (N:Int)] 30)):=by unfold Hid;rw [set2_other (by have:=HV2S.out.2;omega)];exact HY12.out
   clear HS11 HO11 HX11 HY11 HR12 HO12 HX12 HY12 HS12 HSB HB1 HB2 HWA HWB
   obtain ⟨w13,hw13⟩:∃ w13,w13=(set2 w12 w6.heap.size (.slice (some ⟨ga,0,none⟩) ((N+63) / 64) ((N+63) / 64)) (.int .i64 (N:Int))):=⟨_,rfl⟩
   have HW13:=Lib.hid hw13
   rw [<- hw13] at HSC HC1 HC2 HZA HZB
   clear hw13
   obtain ⟨hu0,hu1,huf⟩:=pair_of HZB.out
   rw [HW13.out] at hu0 hu1 huf
   go_wp2_with fail
   have hw13:=HW13.out.symm
   (try unfold set2 at hw13)
   rw [hw13]
   clear hw13
   refine (blen_any _ _ _).mono ?_
   rintro e w14 ⟨rfl,hb⟩
   clear hu0 hu1 huf
   clear hv0 hv1 hvf
   have HSD:=Lib.hid (HSC.out.step hb)
   have HD1:=Lib.hid (HC1.out.below hb)
   have HD2:=Lib.hid (HC2.out.below hb)
   have HUA:Hid (w14.heap[w6.heap.size]?=some (.cells #[.slice (some ⟨ga,0,none⟩) ((N+63) / 64) ((N+63) / 64),.int .i64 (N:Int)] 30)):=by unfold Hid;rw [hb.block _ (lt_of_block HZA.out)];exact HZA.out
   have HUB:Hid (w14.heap[w7.heap.size]?=some (.cells #[.slice b2.1 b2.2.1 b2.2.2,.int .i64 (N:Int)] 30)):=by unfold Hid;rw [hb.block _ (lt_of_block HZB.out)];exact HZB.out
   clear hb HSC HC1 HC2 HZA HZB
   have HSE:=HSD
   have HE1:=HD1
   have HE2:=HD2
   have HTA:=HUA
   have HTB2:=HUB
   clear HSD HD1 HD2 HUA HUB
   obtain ⟨w17,hw17⟩:∃ w17,w17=w14:=⟨_,rfl⟩
   have HW17:=Lib.hid hw17
   rw [<- hw17] at HSE HE1 HE2 HTA HTB2
   clear hw17
   have HT:=Lib.hid (HTR.out w17 (some ⟨ga,0,none⟩,(N+63) / 64,(N+63) / 64) b2 (fun _=>L1 0) L2 HE1.out HE2.out (fun j hj=>by rw [(HIX.out j hj).1];exact HF1.out _ (by omega)) (fun j hj=>by rw [(HIX.out j hj).2];exact HF2.out _ (by omega)))
   have HALL:Hid (∀ c,c < N->TT c=true):=fun c hc=>hTT c hc L1 L2 HF1.out HF2.out
   obtain ⟨hu0,hu1,huf⟩:=pair_of HTA.out
   obtain ⟨ht0,ht1,htf⟩:=pair_of HTB2.out
   rw [HW17.out] at hu0 hu1 huf ht0 ht1 htf
   go_wp2_with fail
   have hw17:=HW17.out.symm
   (try unfold set2 at hw17)
   rw [hw17]
   clear hw17
   refine HT.out.mono ?_
   rintro e w18 ⟨g8,rfl,hr,hb⟩
   clear hu0 hu1 huf ht0 ht1 htf
   skip
   have HS11':=Lib.hid ((HSE.out.step hb).al (.cells #[.slice (some ⟨g8,0,none⟩) ((N+63) / 64) ((N+63) / 64),.int .i64 (N:Int)] 30))
   have HR11:=Lib.hid (hr.below (bel1 w18 (.cells #[.slice (some ⟨g8,0,none⟩) ((N+63) / 64) ((N+63) / 64),.int .i64 (N:Int)] 30)))
   have HW0:=Lib.hid HSE.out.sz
   clear hr hb HT
   go_wp2_with fail
   refine (vbits_any _ _ _ _ _).mono ?_
   rintro e w20 ⟨rfl,hb12⟩
   have HS12':=Lib.hid (HS11'.out.step hb12)
   have HR12':=Lib.hid (HR11.out.below hb12)
   clear hb12
   have HRE:=Lib.hid (set8_block HS12'.out.res (.int .i64 1) (.slice (some ⟨g8,0,none⟩) ((N+63) / 64) ((N+63) / 64)) (.int .i64 (N:Int)) vnil vnil vnil vnil vnil)
   have HBE:=Lib.hid (below_set8 HS12'.out.bel (Nat.le_add_right _ 2) (.int .i64 1) (.slice (some ⟨g8,0,none⟩) ((N+63) / 64) ((N+63) / 64)) (.int .i64 (N:Int)) vnil vnil vnil vnil vnil)
   have HKE:Hid (Keeps H (set8 w20 (w.heap.size+2) (.int .i64 1) (.slice (some ⟨g8,0,none⟩) ((N+63) / 64) ((N+63) / 64)) (.int .i64 (N:Int)) vnil vnil vnil vnil vnil) (NumV (vecW 1 (some ⟨g8,0,none⟩,(N+63) / 64,(N+63) / 64) (N:Int) (none,0,0) (none,0,0) (none,0,0) (none,0,0) (none,0,0)) 1 N (fun c=>flagF (R c)))):=by
    have h1:Keeps (fun j=>H j\/j=w.heap.size+2) w20 (fun W=>Reads1 W (.slice (some ⟨g8,0,none⟩) ((N+63) / 64) ((N+63) / 64)) ((List.range ((N+63) / 64)).map fun j => .int .u64 (packW R N j:Nat))) :=
     Own1.keepsH HR12'.out (fun j e=>by
      have h2:=HW0.out
      rcases e with e | e
      ·have:=HH.out j e;omega
      ·omega)
    refine ((h1.imp fun W' h=>numV_bits (by have:=HNB.out;omega) ⟨_,rfl,⟨g8,0,_,rfl,fun j hj=>?_⟩⟩).set8 (.inr rfl) _ _ _ _ _ _ _ _).sub fun _ _ e => .inl e
    exact reads_cell h j hj
   clear HR11 HR12'
   obtain ⟨⟨h0,h1,h2,h3,h4,h5,h6,h7⟩,hz⟩:=boxed_of HS12'.out.res
   go_wp2
   refine bodyPost_ret (v := .tuple #[vecW 1 (some ⟨g8,0,none⟩,(N+63) / 64,(N+63) / 64) (N:Int) (none,0,0) (none,0,0) (none,0,0) (none,0,0) (none,0,0),.int .i64 0]) ?_ rfl (.inr ⟨_,HLN.out,.inl ⟨HALL.out,1,(some ⟨g8,0,none⟩,(N+63) / 64,(N+63) / 64),(N:Int),(none,0,0),(none,0,0),(none,0,0),(none,0,0),(none,0,0),rfl,HKE.out,HBE.out⟩⟩)
   exact ret_vec2 (fn:=Tryz.f139) (p:=6) (u:=7) rfl _ _ (w.heap.size+2) (by rfl) HRE.out
  ·have HS8:=Lib.hid ((HS7.out.step hb7).al (.cells bcells 30))
   have HBAD:=Lib.hid hbad
   clear hb7 hbad
   obtain ⟨⟨h0,h1,h2,h3,h4,h5,h6,h7⟩,hz⟩:=boxed_of HS8.out.res
   go_wp2
   refine bodyPost_ret (v := .tuple #[vecV 0 vnil 0 vnil vnil vnil vnil vnil,.int .i64 24]) ?_ rfl (.inr ⟨_,HLN.out,.inr ⟨HBAD.out,rfl,below_set8 HS8.out.bel (Nat.le_add_right _ 2) _ _ _ _ _ _ _ _⟩⟩)
   exact ret_vec2 (fn:=Tryz.f139) (p:=6) (u:=7) rfl _ _ (w.heap.size+2) (by rfl) (set8_block HS8.out.res _ _ _ _ _ _ _ _)
 ·have HS7:=Lib.hid ((HST.out.step hb6).al (.cells bcells 30))
  have HBAD:=Lib.hid hbad
  clear hb6 hbad
  obtain ⟨h0,h1,h2,h3,h4,h5,h6,h7⟩:=HS7.out.two
  go_wp2_with fail
  refine (HSQ.out _ HS7.out.bel).mono ?_
  clear h0 h1 h2 h3 h4 h5 h6 h7
  rintro e w7 (⟨b2,L2,rfl,hat2,hf2',hb7⟩ | ⟨hbad,rfl,hb7⟩)
  ·have HS8:=Lib.hid ((HS7.out.step hb7).al (.cells #[.slice b2.1 b2.2.1 b2.2.2,.int .i64 (N:Int)] 30))
   clear hb7 hat2 hf2'
   obtain ⟨⟨h0,h1,h2,h3,h4,h5,h6,h7⟩,hz⟩:=boxed_of HS8.out.res
   go_wp2
   refine bodyPost_ret (v := .tuple #[vecV 0 vnil 0 vnil vnil vnil vnil vnil,.int .i64 24]) ?_ rfl (.inr ⟨_,HLN.out,.inr ⟨HBAD.out,rfl,below_set8 HS8.out.bel (Nat.le_add_right _ 2) _ _ _ _ _ _ _ _⟩⟩)
   exact ret_vec2 (fn:=Tryz.f139) (p:=6) (u:=7) rfl _ _ (w.heap.size+2) (by rfl) (set8_block HS8.out.res _ _ _ _ _ _ _ _)
  ·have HS8:=Lib.hid ((HS7.out.step hb7).al (.cells bcells 30))
   clear hb7 hbad
   obtain ⟨⟨h0,h1,h2,h3,h4,h5,h6,h7⟩,hz⟩:=boxed_of HS8.out.res
   go_wp2
   refine bodyPost_ret (v := .tuple #[vecV 0 vnil 0 vnil vnil vnil vnil vnil,.int .i64 24]) ?_ rfl (.inr ⟨_,HLN.out,.inr ⟨HBAD.out,rfl,below_set8 HS8.out.bel (Nat.le_add_right _ 2) _ _ _ _ _ _ _ _⟩⟩)
   exact ret_vec2 (fn:=Tryz.f139) (p:=6) (u:=7) rfl _ _ (w.heap.size+2) (by rfl) (set8_block HS8.out.res _ _ _ _ _ _ _ _)
theorem lapply_so (H:Nat->Prop) (f:Int) (hf:21<=f) (hf2:f<=24) (p q:V8) (TT R:Nat->Bool) (w:World) (N:Nat) (hN1:N≠1) (F G:Nat->Nat) (hH:∀ b,H b->b < w.heap.size) (hL:lenP N 1=some N) (hN0:0 < N) (hNb:N<=1000000)
  (hSP:∀ W,Below w.heap.size w W->Calls Tryz.prog 213 #[p.v] W fun e w'=>((∃ (b:Sl) (L:Nat->Bool),e= .returned (.tuple #[.agg #[.slice b.1 b.2.1 b.2.2,.int .i64 (N:Int)],.bool true])/\BitsAt w' b N L/\(∀ j,j < N->F j=flagF (L j))/\Below W.heap.size W w')\/((∃ c,c < N/\TT c=false)/\e= .returned (.tuple #[.agg #[vnil,.int .i64 0],.bool false])/\Below W.heap.size W w')))
  (hSQ:∀ W,Below w.heap.size w W->Calls Tryz.prog 213 #[q.v] W fun e w'=>((∃ (b:Sl) (L:Nat->Bool),e= .returned (.tuple #[.agg #[.slice b.1 b.2.1 b.2.2,.int .i64 (1:Int)],.bool true])/\BitsAt w' b 1 L/\(∀ j,j < 1->G j=flagF (L j))/\Below W.heap.size W w')\/((∃ c,c < N/\TT c=false)/\e= .returned (.tuple #[.agg #[vnil,.int .i64 0],.bool false])/\Below W.heap.size W w')))
  (hTT:∀ c,c < N->∀ L1 L2:Nat->Bool,(∀ j,j < N->F j=flagF (L1 j))->(∀ j,j < 1->G j=flagF (L2 j))->TT c=true)
  (hTR:∀ (W:World) (b1 b2:Sl) (L1 L2:Nat->Bool),BitsAt W b1 N L1->BitsAt W b2 N L2->(∀ j,j < N->F (ixP N j)=flagF (L1 j))->(∀ j,j < N->G (ixP 1 j)=flagF (L2 j))->Calls Tryz.prog 214 #[.int .u8 ((tabN f:Nat):Int),.agg #[.slice b1.1 b1.2.1 b1.2.2,.int .i64 (N:Int)],.agg #[.slice b2.1 b2.2.1 b2.2.2,.int .i64 (N:Int)]] W fun e w'=>∃ g,e= .returned (.tuple #[.agg #[.slice (some ⟨g,0,none⟩) ((N+63) / 64) ((N+63) / 64),.int .i64 (N:Int)],.bool true])/\RowU w' W.heap.size g ((N+63) / 64) (packW R N)/\Below W.heap.size W w')
  (hLP:∀ W,Below w.heap.size w W->Calls Tryz.prog 85 #[p.v] W fun e w2=>e= .returned (.int .i64 (N:Int))/\Below W.heap.size W w2)
  (hLQ:∀ W,Below w.heap.size w W->Calls Tryz.prog 85 #[q.v] W fun e w2=>e= .returned (.int .i64 (1:Int))/\Below W.heap.size W w2) :
  Calls Tryz.prog 139 #[.int .i64 f,p.v,q.v] w (Lg2Out H w TT R (lenP N 1)):=by
 have HLP:=Lib.hid (fun W (hs:St2 w W p q)=>hLP W hs.bel)
 have HLQ:=Lib.hid (fun W (hs:St2 w W p q)=>hLQ W hs.bel)
 have HTB:=Lib.hid (fun W=>table_any f hf hf2 W)
 have HLL:Hid (∀ W,Calls Tryz.prog 211 #[.int .i64 (N:Int),.int .i64 (1:Int)] W fun e w'=>e= .returned (.tuple #[.int .i64 (N:Nat),.bool true])/\W=w'):=fun W=>by
  have h:=length_any N 1 W
  rw [hL] at h
  exact h
 have HS0:=Lib.hid (St2.new w p q)
 clear hLP hLQ
 have HLN:=Lib.hid hL
 have HH:=Lib.hid hH
 have HSP:=Lib.hid hSP
 have HSQ:=Lib.hid hSQ
 have HTR:=Lib.hid hTR
 have HNB:=Lib.hid hNb
 have n0:((N:Int)==0)=false:=by simp;omega
 have nn:((N:Int) != (N:Int))=false:=by simp
 have n1:((1:Int) != (N:Int))=true:=by simp;omega
 have HMK:=Lib.hid (fun t W=>make_any N t (by omega) W)
 have HIX:Hid (∀ j,j < N->ixP N j=j/\ixP 1 j=0):=fun j hj=>⟨by unfold ixP;split <;> omega,by rfl⟩
 clear hL hH hSP hSQ hTR hNb hN0 hN1
 go_enter Tryz.func139,Tryz.ntmps139
 go_wp2_with fail
 refine (HTB.out _).mono ?_
 rintro e w9 ⟨rfl,hw9⟩
 rw [hw9] at HS0
 clear hw9
 go_wp2_with fail
 go_cut [9,10] from 24 (fun y x wx=>LenMid w p q N true x y wx)
 case first =>
  have hs0:=HS0.out.dr
  have hs00:=HS0.out
  go_region_held3 (fun W=>((W.cell? ⟨w.heap.size,0,none⟩=some (.int .i64 p.k)/\W.cell? ⟨w.heap.size,1,none⟩=some (.slice p.b.1 p.b.2.1 p.b.2.2)/\W.cell? ⟨w.heap.size,2,none⟩=some (.int .i64 p.bn)/\W.cell? ⟨w.heap.size,3,none⟩=some (.slice p.s.1 p.s.2.1 p.s.2.2)/\W.cell? ⟨w.heap.size,4,none⟩=some (.slice p.i.1 p.i.2.1 p.i.2.2)/\W.cell? ⟨w.heap.size,5,none⟩=some (.slice p.f.1 p.f.2.1 p.f.2.2)/\W.cell? ⟨w.heap.size,6,none⟩=some (.slice p.c.1 p.c.2.1 p.c.2.2)/\W.cell? ⟨w.heap.size,7,none⟩=some (.slice p.x.1 p.x.2.1 p.x.2.2))/\(W.cell? ⟨w.heap.size+1,0,none⟩=some (.int .i64 q.k)/\W.cell? ⟨w.heap.size+1,1,none⟩=some (.slice q.b.1 q.b.2.1 q.b.2.2)/\W.cell? ⟨w.heap.size+1,2,none⟩=some (.int .i64 q.bn)/\W.cell? ⟨w.heap.size+1,3,none⟩=some (.slice q.s.1 q.s.2.1 q.s.2.2)/\W.cell? ⟨w.heap.size+1,4,none⟩=some (.slice q.i.1 q.i.2.1 q.i.2.2)/\W.cell? ⟨w.heap.size+1,5,none⟩=some (.slice q.f.1 q.f.2.1 q.f.2.2)/\W.cell? ⟨w.heap.size+1,6,none⟩=some (.slice q.c.1 q.c.2.1 q.c.2.2)/\W.cell? ⟨w.heap.size+1,7,none⟩=some (.slice q.x.1 q.x.2.1 q.x.2.2)))/\St2 w W p q)
   (first | (with_reducible assumption) | (with_reducible (refine st2_s ?_);repeat (first | (with_reducible assumption) | (with_reducible refine St2.dr ?_))))
   (first
    | (go_at_call 211;(with_reducible refine (HLL.out _).mono ?_);rintro e w5 ⟨rfl,rfl⟩)
    | (go_at_call 85;(with_reducible refine (HLP.out _ ?_).mono ?_);exact St2.self (by repeat (first | (with_reducible assumption) | (with_reducible refine St2.dr ?_)));rintro e w1 ⟨rfl,hb1⟩;obtain ⟨hc1,hf1⟩:=bcell2 hb1;have hz1:=hb1.size;have hst1:St2 w w1 p q:=St2.step (by repeat (first | (with_reducible assumption) | (with_reducible refine St2.dr ?_))) hb1;clear hb1)
    | (go_at_call 85;(with_reducible refine (HLQ.out _ ?_).mono ?_);exact St2.self (by repeat (first | (with_reducible assumption) | (with_reducible refine St2.dr ?_)));rintro e w2 ⟨rfl,hb2⟩;obtain ⟨hc2,hf2⟩:=bcell2 hb2;have hz2:=hb2.size;have hst2:St2 w w2 p q:=St2.step (by repeat (first | (with_reducible assumption) | (with_reducible refine St2.dr ?_))) hb2;clear hb2))
  all_goals
   go_wp2
   go_meet
   first
    | (with_reducible exact lenMid_of hst2)
    | (with_reducible exact lenMid_of hst1)
 obtain ⟨rfl,rfl,hst⟩:=hcut
 have HST:=Lib.hid hst
 clear hst HS0 HLP HLQ HLL HTB
 obtain ⟨h0,h1,h2,h3,h4,h5,h6,h7⟩:=HST.out.one
 go_wp2_with fail
 refine (HSP.out _ HST.out.bel).mono ?_
 clear h0 h1 h2 h3 h4 h5 h6 h7
 rintro e w6 (⟨b1,L1,rfl,hat1,hf1,hb6⟩ | ⟨hbad,rfl,hb6⟩)
 ·have HS7:=Lib.hid ((HST.out.step hb6).al (.cells #[.slice b1.1 b1.2.1 b1.2.2,.int .i64 (N:Int)] 30))
  have HAT1:=Lib.hid (hat1.below (bel1 w6 (.cells #[.slice b1.1 b1.2.1 b1.2.2,.int .i64 (N:Int)] 30)))
  have HV1:=Lib.hid (heap_alloc_new w6 (.cells #[.slice b1.1 b1.2.1 b1.2.2,.int .i64 (N:Int)] 30))
  have HF1:=Lib.hid hf1
  have HV1S:Hid (w.heap.size+3<=w6.heap.size):=Nat.le_trans HST.out.sz hb6.size
  clear hb6 hat1 hf1
  obtain ⟨h0,h1,h2,h3,h4,h5,h6,h7⟩:=HS7.out.two
  go_wp2_with fail
  refine (HSQ.out _ HS7.out.bel).mono ?_
  clear h0 h1 h2 h3 h4 h5 h6 h7
  rintro e w7 (⟨b2,L2,rfl,hat2,hf2',hb7⟩ | ⟨hbad,rfl,hb7⟩)
  ·have HA1:=Lib.hid ((HAT1.out.below hb7).below (bel1 w7 (.cells #[.slice b2.1 b2.2.1 b2.2.2,.int .i64 (1:Int)] 30)))
   have HA2:=Lib.hid (hat2.below (bel1 w7 (.cells #[.slice b2.1 b2.2.1 b2.2.2,.int .i64 (1:Int)] 30)))
   have HF2:=Lib.hid hf2'
   have HV2S:Hid (w.heap.size+3<=w7.heap.size/\w6.heap.size < w7.heap.size):=⟨Nat.le_trans HS7.out.sz hb7.size,Nat.lt_of_lt_of_le (lt_of_block HV1.out) hb7.size⟩
   have HSA:=Lib.hid ((HS7.out.step hb7).al (.cells #[.slice b2.1 b2.2.1 b2.2.2,.int .i64 (1:Int)] 30))
   have HVB:=Lib.hid (heap_alloc_new w7 (.cells #[.slice b2.1 b2.2.1 b2.2.2,.int .i64 (1:Int)] 30))
   have HVA:Hid ((w7.alloc (.cells #[.slice b2.1 b2.2.1 b2.2.2,.int .i64 (1:Int)] 30)).heap[w6.heap.size]?=some (.cells #[.slice b1.1 b1.2.1 b1.2.2,.int .i64 (N:Int)] 30)):=by unfold Hid;rw [Below.heap_alloc _ _ _ HV2S.out.2,hb7.block _ (lt_of_block HV1.out)];exact HV1.out
   clear hb7 hat2 hf2' HAT1 HV1
   obtain ⟨w8,hw8⟩:∃ w8,w8=w7.alloc (.cells #[.slice b2.1 b2.2.1 b2.2.2,.int .i64 (1:Int)] 30):=⟨_,rfl⟩
   rw [<- hw8] at HA1 HA2 HSA HVB HVA
   have HW8:=Lib.hid hw8
   clear hw8
   obtain ⟨hv0,hv1,hvf⟩:=pair_of HVA.out
   rw [HW8.out] at hv0 hv1 hvf
   go_wp2_with fail
   rw [<- HW8.out]
   refine (blen_any _ _ _).mono ?_
   rintro e w10 ⟨rfl,hb⟩
   clear hv0 hv1 hvf
   have HSB:=Lib.hid (HSA.out.step hb)
   have HB1:=Lib.hid (HA1.out.below hb)
   have HB2:=Lib.hid (HA2.out.below hb)
   have HWA:Hid (w10.heap[w6.heap.size]?=some (.cells #[.slice b1.1 b1.2.1 b1.2.2,.int .i64 (N:Int)] 30)):=by unfold Hid;rw [hb.block _ (lt_of_block HVA.out)];exact HVA.out
   have HWB:Hid (w10.heap[w7.heap.size]?=some (.cells #[.slice b2.1 b2.2.1 b2.2.2,.int .i64 (1:Int)] 30)):=by unfold Hid;rw [hb.block _ (lt_of_block HVB.out)];exact HVB.out
   clear hb HSA HA1 HA2 HVA HVB
   have HSC:=HSB
   have HC1:=HB1
   have HC2:=HB2
   have HZA:=HWA
   have HZB:=HWB
   clear HSB HB1 HB2 HWA HWB
   obtain ⟨w13,hw13⟩:∃ w13,w13=w10:=⟨_,rfl⟩
   have HW13:=Lib.hid hw13
   rw [<- hw13] at HSC HC1 HC2 HZA HZB
   clear hw13
   obtain ⟨hu0,hu1,huf⟩:=pair_of HZB.out
   rw [HW13.out] at hu0 hu1 huf
   go_wp2_with fail
   have hw13:=HW13.out.symm
   (try unfold set2 at hw13)
   rw [hw13]
   clear hw13
   refine (blen_any _ _ _).mono ?_
   rintro e w14 ⟨rfl,hb⟩
   clear hu0 hu1 huf
   skip
   have HSD:=Lib.hid (HSC.out.step hb)
   have HD1:=Lib.hid (HC1.out.below hb)
   have HD2:=Lib.hid (HC2.out.below hb)
   have HUA:Hid (w14.heap[w6.heap.size]?=some (.cells #[.slice b1.1 b1.2.1 b1.2.2,.int .i64 (N:Int)] 30)):=by unfold Hid;rw [hb.block _ (lt_of_block HZA.out)];exact HZA.out
   have HUB:Hid (w14.heap[w7.heap.size]?=some (.cells #[.slice b2.1 b2.2.1 b2.2.2,.int .i64 (1:Int)] 30)):=by unfold Hid;rw [hb.block _ (lt_of_block HZB.out)];exact HZB.out
   clear hb HSC HC1 HC2 HZA HZB
   have HAT:=Lib.hid (bitV_at (s := .slice b2.1 b2.2.1 b2.2.2) (n:=1) (by omega) HD2.out.in 0 (by omega))
   obtain ⟨hv0,hv1,hvf⟩:=pair_of HUB.out
   go_wp2_with fail
   refine HAT.out.mono ?_
   rintro e w15 ⟨rfl,hb⟩
   have HS15:=Lib.hid (HSD.out.step hb)
   have HO15:=Lib.hid (HD1.out.below hb)
   have HX15:Hid (w15.heap[w7.heap.size]?=some (.cells #[.slice b2.1 b2.2.1 b2.2.2,.int .i64 (1:Int)] 30)):=by unfold Hid;rw [hb.block _ (lt_of_block HUB.out)];exact HUB.out
   have HY15:Hid (w15.heap[w6.heap.size]?=some (.cells #[.slice b1.1 b1.2.1 b1.2.2,.int .i64 (N:Int)] 30)):=by unfold Hid;rw [hb.block _ (lt_of_block HUA.out)];exact HUA.out
   clear hb hv0 hv1 hvf HAT
   go_wp2_with fail
   refine (HMK.out _ _).mono ?_
   rintro e w16 ⟨gb,rfl,hr,hb⟩
   have HS16:=Lib.hid (HS15.out.step hb)
   have HO16:=Lib.hid (HO15.out.below hb)
   have HX16:Hid (w16.heap[w7.heap.size]?=some (.cells #[.slice b2.1 b2.2.1 b2.2.2,.int .i64 (1:Int)] 30)):=by unfold Hid;rw [hb.block _ (lt_of_block HX15.out)];exact HX15.out
   have HY16:Hid (w16.heap[w6.heap.size]?=some (.cells #[.slice b1.1 b1.2.1 b1.2.2,.int .i64 (N:Int)] 30)):=by unfold Hid;rw [hb.block _ (lt_of_block HY15.out)];exact HY15.out
   have HR16:=Lib.hid hr.at_
   clear hb hr
   obtain ⟨hv0,hv1,hvf⟩:=pair_of HX16.out
   have HSE:=Lib.hid (HS16.out.put2 HV2S.out.1 (.slice (some ⟨gb,0,none⟩) ((N+63) / 64) ((N+63) / 64)) (.int .i64 (N:Int)))
   have HE2:=Lib.hid (HR16.out.set2 HX16.out (.slice (some ⟨gb,0,none⟩) ((N+63) / 64) ((N+63) / 64)) (.int .i64 (N:Int)))
   have HE1:=Lib.hid (HO16.out.set2 HX16.out (.slice (some ⟨gb,0,none⟩) ((N+63) / 64) ((N+63) / 64)) (.int .i64 (N:Int)))
   have HTB2:=Lib.hid (set2_block HX16.out (.slice (some ⟨gb,0,none⟩) ((N+63) / 64) ((N+63) / 64)) (.int .i64 (N:Int)))
   have HTA:Hid ((set2 w16 w7.heap.size (.slice (some ⟨gb,0,none⟩) ((N+63) / 64) ((N+63) / 64)) (.int .i64 (N:Int))).heap[w6.heap.size]?=some (.cells #[.slice b1.1 b1.2.1 b1.2.2,.int .i64 (N:Int)] 30)):=by unfold Hid;rw [set2_other (by have:=HV2S.out.2;omega)];exact HY16.out
   clear HS15 HO15 HX15 HY15 HR16 HO16 HX16 HY16 HS16 HSD HD1 HD2 HUA HUB
   obtain ⟨w17,hw17⟩:∃ w17,w17=(set2 w16 w7.heap.size (.slice (some ⟨gb,0,none⟩) ((N+63) / 64) ((N+63) / 64)) (.int .i64 (N:Int))):=⟨_,rfl⟩
   have HW17:=Lib.hid hw17
   rw [<- hw17] at HSE HE1 HE2 HTA HTB2
   clear hw17
   have HT:=Lib.hid (HTR.out w17 b1 (some ⟨gb,0,none⟩,(N+63) / 64,(N+63) / 64) L1 (fun _=>L2 0) HE1.out HE2.out (fun j hj=>by rw [(HIX.out j hj).1];exact HF1.out _ (by omega)) (fun j hj=>by rw [(HIX.out j hj).2];exact HF2.out _ (by omega)))
   have HALL:Hid (∀ c,c < N->TT c=true):=fun c hc=>hTT c hc L1 L2 HF1.out HF2.out
   obtain ⟨hu0,hu1,huf⟩:=pair_of HTA.out
   obtain ⟨ht0,ht1,htf⟩:=pair_of HTB2.out
   rw [HW17.out] at hu0 hu1 huf ht0 ht1 htf
   go_wp2_with fail
   have hw17:=HW17.out.symm
   (try unfold set2 at hw17)
   rw [hw17]
   clear hw17
   refine HT.out.mono ?_
   rintro e w18 ⟨g8,rfl,hr,hb⟩
   clear hu0 hu1 huf ht0 ht1 htf
   clear hv0 hv1 hvf
   have HS11':=Lib.hid ((HSE.out.step hb).al (.cells #[.slice (some ⟨g8,0,none⟩) ((N+63) / 64) ((N+63) / 64),.int .i64 (N:Int)] 30))
   have HR11:=Lib.hid (hr.below (bel1 w18 (.cells #[.slice (some ⟨g8,0,none⟩) ((N+63) / 64) ((N+63) / 64),.int .i64 (N:Int)] 30)))
   have HW0:=Lib.hid HSE.out.sz
   clear hr hb HT
   go_wp2_with fail
   refine (vbits_any _ _ _ _ _).mono ?_
   rintro e w20 ⟨rfl,hb12⟩
   have HS12':=Lib.hid (HS11'.out.step hb12)
   have HR12':=Lib.hid (HR11.out.below hb12)
   clear hb12
   have HRE:=Lib.hid (set8_block HS12'.out.res (.int .i64 1) (.slice (some ⟨g8,0,none⟩) ((N+63) / 64) ((N+63) / 64)) (.int .i64 (N:Int)) vnil vnil vnil vnil vnil)
   have HBE:=Lib.hid (below_set8 HS12'.out.bel (Nat.le_add_right _ 2) (.int .i64 1) (.slice (some ⟨g8,0,none⟩) ((N+63) / 64) ((N+63) / 64)) (.int .i64 (N:Int)) vnil vnil vnil vnil vnil)
   have HKE:Hid (Keeps H (set8 w20 (w.heap.size+2) (.int .i64 1) (.slice (some ⟨g8,0,none⟩) ((N+63) / 64) ((N+63) / 64)) (.int .i64 (N:Int)) vnil vnil vnil vnil vnil) (NumV (vecW 1 (some ⟨g8,0,none⟩,(N+63) / 64,(N+63) / 64) (N:Int) (none,0,0) (none,0,0) (none,0,0) (none,0,0) (none,0,0)) 1 N (fun c=>flagF (R c)))):=by
    have h1:Keeps (fun j=>H j\/j=w.heap.size+2) w20 (fun W=>Reads1 W (.slice (some ⟨g8,0,none⟩) ((N+63) / 64) ((N+63) / 64)) ((List.range ((N+63) / 64)).map fun j => .int .u64 (packW R N j:Nat))) :=
     Own1.keepsH HR12'.out (fun j e=>by
      have h2:=HW0.out
      rcases e with e | e
      ·have:=HH.out j e;omega
      ·omega)
    refine ((h1.imp fun W' h=>numV_bits (by have:=HNB.out;omega) ⟨_,rfl,⟨g8,0,_,rfl,fun j hj=>?_⟩⟩).set8 (.inr rfl) _ _ _ _ _ _ _ _).sub fun _ _ e => .inl e
    exact reads_cell h j hj
   clear HR11 HR12'
   obtain ⟨⟨h0,h1,h2,h3,h4,h5,h6,h7⟩,hz⟩:=boxed_of HS12'.out.res
   go_wp2
   refine bodyPost_ret (v := .tuple #[vecW 1 (some ⟨g8,0,none⟩,(N+63) / 64,(N+63) / 64) (N:Int) (none,0,0) (none,0,0) (none,0,0) (none,0,0) (none,0,0),.int .i64 0]) ?_ rfl (.inr ⟨_,HLN.out,.inl ⟨HALL.out,1,(some ⟨g8,0,none⟩,(N+63) / 64,(N+63) / 64),(N:Int),(none,0,0),(none,0,0),(none,0,0),(none,0,0),(none,0,0),rfl,HKE.out,HBE.out⟩⟩)
   exact ret_vec2 (fn:=Tryz.f139) (p:=6) (u:=7) rfl _ _ (w.heap.size+2) (by rfl) HRE.out
  ·have HS8:=Lib.hid ((HS7.out.step hb7).al (.cells bcells 30))
   have HBAD:=Lib.hid hbad
   clear hb7 hbad
   obtain ⟨⟨h0,h1,h2,h3,h4,h5,h6,h7⟩,hz⟩:=boxed_of HS8.out.res
   go_wp2
   refine bodyPost_ret (v := .tuple #[vecV 0 vnil 0 vnil vnil vnil vnil vnil,.int .i64 24]) ?_ rfl (.inr ⟨_,HLN.out,.inr ⟨HBAD.out,rfl,below_set8 HS8.out.bel (Nat.le_add_right _ 2) _ _ _ _ _ _ _ _⟩⟩)
   exact ret_vec2 (fn:=Tryz.f139) (p:=6) (u:=7) rfl _ _ (w.heap.size+2) (by rfl) (set8_block HS8.out.res _ _ _ _ _ _ _ _)
 ·have HS7:=Lib.hid ((HST.out.step hb6).al (.cells bcells 30))
  have HBAD:=Lib.hid hbad
  clear hb6 hbad
  obtain ⟨h0,h1,h2,h3,h4,h5,h6,h7⟩:=HS7.out.two
  go_wp2_with fail
  refine (HSQ.out _ HS7.out.bel).mono ?_
  clear h0 h1 h2 h3 h4 h5 h6 h7
  rintro e w7 (⟨b2,L2,rfl,hat2,hf2',hb7⟩ | ⟨hbad,rfl,hb7⟩)
  ·have HS8:=Lib.hid ((HS7.out.step hb7).al (.cells #[.slice b2.1 b2.2.1 b2.2.2,.int .i64 (1:Int)] 30))
   clear hb7 hat2 hf2'
   obtain ⟨⟨h0,h1,h2,h3,h4,h5,h6,h7⟩,hz⟩:=boxed_of HS8.out.res
   go_wp2
   refine bodyPost_ret (v := .tuple #[vecV 0 vnil 0 vnil vnil vnil vnil vnil,.int .i64 24]) ?_ rfl (.inr ⟨_,HLN.out,.inr ⟨HBAD.out,rfl,below_set8 HS8.out.bel (Nat.le_add_right _ 2) _ _ _ _ _ _ _ _⟩⟩)
   exact ret_vec2 (fn:=Tryz.f139) (p:=6) (u:=7) rfl _ _ (w.heap.size+2) (by rfl) (set8_block HS8.out.res _ _ _ _ _ _ _ _)
  ·have HS8:=Lib.hid ((HS7.out.step hb7).al (.cells bcells 30))
   clear hb7 hbad
   obtain ⟨⟨h0,h1,h2,h3,h4,h5,h6,h7⟩,hz⟩:=boxed_of HS8.out.res
   go_wp2
   refine bodyPost_ret (v := .tuple #[vecV 0 vnil 0 vnil vnil vnil vnil vnil,.int .i64 24]) ?_ rfl (.inr ⟨_,HLN.out,.inr ⟨HBAD.out,rfl,below_set8 HS8.out.bel (Nat.le_add_right _ 2) _ _ _ _ _ _ _ _⟩⟩)
   exact ret_vec2 (fn:=Tryz.f139) (p:=6) (u:=7) rfl _ _ (w.heap.size+2) (by rfl) (set8_block HS8.out.res _ _ _ _ _ _ _ _)
end Go.Proofs.YtiahegjdkejjpaaGreatDoor
