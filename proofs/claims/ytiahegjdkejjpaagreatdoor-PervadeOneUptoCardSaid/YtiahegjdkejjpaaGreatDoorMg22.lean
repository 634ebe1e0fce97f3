/- The walks of bitvec.Truth, relate.spread and relate.Apply at no elements, whatever the .. Conditions: as each theorem says. -/
import Derived.Test.YtiahegjdkejjpaaGreatDoorMg16
set_option maxRecDepth 100000
set_option maxHeartbeats 4000000
namespace Go.Proofs.YtiahegjdkejjpaaGreatDoor
open Go Go.RowKit Go.Proofs Fl
theorem btruthZ (t:Nat) (ht:t < 16) (a1 a2:Option Addr) (c1 c2 n:Nat) (hn0:n=0) (l1 l2:Nat->Bool) (w:World) (hn:n<=1048576) :
  Calls Tryz.prog 214 #[.int .u8 (t:Int),.agg #[.slice a1 ((n+63) / 64) c1,.int .i64 (n:Int)],.agg #[.slice a2 ((n+63) / 64) c2,.int .i64 (n:Int)]] w fun e w'=>∃ g,e= .returned (.tuple #[.agg #[.slice (some ⟨g,0,none⟩) ((n+63) / 64) ((n+63) / 64),.int .i64 (n:Int)],.bool true])/\RowU w' w.heap.size g ((n+63) / 64) (packW (fun i=>t.testBit (2*(l1 i).toNat+(l2 i).toNat)) n)/\Below w.heap.size w w':=by
 obtain ⟨M,hM⟩:∃ M,M=(n+63) / 64:=⟨_,rfl⟩
 rw [<- hM]
 have HM0:Hid (M=0):=by unfold Hid;omega
 have HM:=Lib.hid hM
 have hMb:M<=16384:=by omega
 have hmk:=run_make_row' (P:=Tryz.prog) 28 232 (.int .u64 0) 8 Tryz.underlying28 info_u64 rfl .i64 .i64 M (by omega) (by omega)
 have HT0:=Lib.hid (TrS.new w (.cells #[.slice a1 M c1,.int .i64 (n:Int)] 30) (.cells #[.slice a2 M c2,.int .i64 (n:Int)] 30) t)
 clear hM hn0
 obtain ⟨X1,hX1⟩:∃ X:Obj,X= .cells #[.slice a1 M c1,.int .i64 (n:Int)] 30:=⟨_,rfl⟩
 obtain ⟨X2,hX2⟩:∃ X:Obj,X= .cells #[.slice a2 M c2,.int .i64 (n:Int)] 30:=⟨_,rfl⟩
 have HX1:=Lib.hid hX1
 have HX2:=Lib.hid hX2
 have HT0':Hid (TrS w ((((w.alloc (.cells #[.slice a1 M c1,.int .i64 (n:Int)] 30)).alloc (.cells #[.slice a2 M c2,.int .i64 (n:Int)] 30)).alloc (.cells bcells 30)).alloc (.cells #[.int .u64 0,.int .u64 0,.int .u64 0,.int .u64 0] 283)) X1 X2 t 0):=by
  show TrS _ _ _ _ _ _
  rw [hX1,hX2]
  exact HT0.out
 clear hX1 hX2 HT0
 go_enter Tryz.func214,Tryz.ntmps214
 go_wp2_with fail
 go_loopw [20] (fun ii wr=>∃ i:Nat,i<=4/\ii= .int .i64 i/\TrS w wr X1 X2 t i) (fun ii _=>4 - (intOf ii).toNat)
 case atStart=>exact ⟨0,Nat.zero_le _,rfl,HT0'.out⟩
 case round =>
  clear HT0'
  obtain ⟨i,hi,rfl,hts⟩:=hrel
  have HTS:=Lib.hid hts
  clear hts
  by_cases hlt:i < 4
  ·obtain ⟨hcell,hf⟩:=tab_cell HTS.out.tab i hlt
   have hlt2:(i:Int) < 4:=by omega
   have HMC:Hid (IntKind.u64.wrap (-IntKind.u64.wrap (bits BinOp.and IntKind.u8 ((t:Int) / 2 ^ i) 1))=((mT t i:Nat):Int)):=mT_core ⟨t,ht⟩ ⟨i,hlt⟩
   have HNEW:Hid (TrS w (wr.setCell ⟨w.heap.size+3,i,none⟩ (.int .u64 (mT t i:Nat))) X1 X2 t (i+1)) :=
    ⟨by rw [Below.heap_setCell _ _ _ _ (by show _≠w.heap.size+3;omega)];exact HTS.out.one,by rw [Below.heap_setCell _ _ _ _ (by show _≠w.heap.size+3;omega)];exact HTS.out.two,by rw [Below.heap_setCell _ _ _ _ (by show _≠w.heap.size+3;omega)];exact HTS.out.res,tab_put hlt HTS.out.tab,HTS.out.bel.setCell (by show _<=w.heap.size+3;omega) _⟩
   go_wp2
   rw [HMC.out]
   exact ⟨⟨i+1,by omega,by go_num,HNEW.out⟩,by simp [intOf];omega⟩
  ·obtain rfl:i=4:=by omega
   have HTS0:=HTS
   obtain ⟨hx0,hx1,_⟩:=pair_of (by have:=HTS.out.one;rw [HX1.out] at this;exact this)
   obtain ⟨hy0,hy1,_⟩:=pair_of (by have:=HTS.out.two;rw [HX2.out] at this;exact this)
   have HMA:=Lib.hid (mkMid_a wr (n:Int) M (by unfold maxLen;omega))
   have HMB:=Lib.hid (mkMid_b wr (n:Int) M (by unfold maxLen;omega))
   go_wp2_with fail
   obtain ⟨B,hB⟩:∃ B,B=wr.heap.size:=⟨_,rfl⟩
   have hBw:w.heap.size+4<=B:=by rw [hB];exact HTS.out.sz
   go_cut [10] from 33 (fun p wx=>MkMid wr (n:Int) M p wx)
   case first =>
    have z0:w.heap.size < wr.heap.size:=by have:=HTS.out.sz;omega
    have hx0a:=fun o=>cell_box1 hx0 o
    have hx1a:=fun o=>cell_box1 hx1 o
    go_region
    all_goals
     go_wp2
     go_meet
     first | exact HMA.out | exact HMB.out
   obtain ⟨V,g,rfl,hr0,hb0,hkV,hVg,hV⟩:=hcut
   have hg2:=hr0.low.1
   rw [<- hB] at hr0 hV hg2
   have HR0:=Lib.hid hr0
   have HT1:=Lib.hid (HTS.out.step (hb0.mono HTS.out.sz))
   have HKV:=Lib.hid hkV
   clear hr0 hb0 hkV hmk HMA HMB HTS HTS0 hB hx0 hx1 hy0 hy1
   obtain ⟨hv0,hv1,_⟩:=pair_of HKV.out
   go_wp2_with fail
   go_loopw [43] (fun ii wr=>∃ i:Nat,i<=M/\ii= .int .i64 i/\RowU wr B g M (fun j=>if j < i then tW t (packW l1 n j) (packW l2 n j) else 0)/\TrS w wr X1 X2 t 4/\wr.heap[V]?=some (.cells #[.slice (some ⟨g,0,none⟩) M M,.int .i64 (n:Int)] 30)) (fun ii _=>M - (intOf ii).toNat)
   case atStart=>exact ⟨0,Nat.zero_le _,rfl,HR0.out.same (fun j _=>by rw [if_neg (Nat.not_lt_zero _)]),HT1.out,HKV.out⟩
   case round =>
    clear HR0 HT1 HKV hv0 hv1
    obtain ⟨i,hi,rfl,hrow,hts,hkv⟩:=hrel
    have HROW:=Lib.hid hrow
    have HTS:=Lib.hid hts
    have HKV:=Lib.hid hkv
    clear hrow hts hkv
    by_cases hlt:i < M
    ·exact absurd hlt (by rw [HM0.out];exact Nat.not_lt_zero _)
    ·obtain rfl:i=M:=by omega
     have HT:=Lib.hid (trim_any B g n i _ wr hn HM.out HROW.out (fun j hj=>by
      show (if j < i then _ else _) < _
      rw [if_pos hj]
      exact tW_lt _ _ _))
     have HF:Hid (∀ j,j < i->trimF n i (fun j=>if j < i then tW t (packW l1 n j) (packW l2 n j) else 0) j=packW (fun i=>t.testBit (2*(l1 i).toNat+(l2 i).toNat)) n j):=by
      refine trimF_pack n i _ _ HM.out (fun j hj=>?_) (fun j hj m hm hin=>?_)
      ·show (if j < i then _ else _) < _
       rw [if_pos hj]
       exact tW_lt _ _ _
      ·show Nat.testBit (if j < i then _ else _) m=_
       rw [if_pos hj,tW_bit t _ _ m (packW_lt l1 n j) (packW_lt l2 n j) hm,packW_bit l1 n j m hm,packW_bit l2 n j m hm]
       simp [hin]
     obtain ⟨hv0,hv1,hvf⟩:=pair_of HKV.out
     go_wp2_with fail
     refine HT.out.mono ?_
     rintro e w5 ⟨rfl,hr5,hb5,ho5⟩
     have HR5:=Lib.hid (hr5.same (F':=packW (fun i=>t.testBit (2*(l1 i).toNat+(l2 i).toNat)) n) (fun j hj=>(HF.out j hj).symm))
     have HT5:=Lib.hid (HTS.out.step (hb5.mono hBw))
     have hVl:V < wr.heap.size:=lt_of_block HKV.out
     have HKV5:=Lib.hid (show w5.heap[V]?=some (.cells #[.slice (some ⟨g,0,none⟩) i i,.int .i64 (n:Int)] 30) by rw [ho5 V hVl hVg];exact HKV.out)
     clear hr5 hb5 ho5 hv0 hv1 hvf
     obtain ⟨hv0,hv1,hvf⟩:=pair_of HKV5.out
     obtain ⟨hk0,hk1,hkf⟩:=pair_of HT5.out.res
     go_wp2
     refine bodyPost_ret (v := .tuple #[.agg #[.slice (some ⟨g,0,none⟩) i i,.int .i64 (n:Int)],.bool true]) ?_ rfl ⟨g,rfl,?_,below_set2 HT5.out.bel (by omega) _ _⟩
     ·exact ret_bits2 (fn:=Tryz.f214) (p:=6) (u:=7) rfl _ _ (w.heap.size+2) (by rfl) (set2_block HT5.out.res _ _)
     ·exact own_set2 (HR5.out.lower (by omega)) (by show some g≠_;intro e;injection e;omega) _ _
def BitZ (_:World) (b:Sl) (n:Nat) (_:Nat->Bool):Prop:=b.2.1=0/\n=0
theorem BitZ.below {W W':World}{b:Sl}{n:Nat}{L:Nat->Bool} (h:BitZ W b n L) (_:Below W.heap.size W W'):BitZ W' b n L:=h
def SpOutZ (k:Int) (m N:Nat) (F:Nat->Nat) (w:World) (e:Ending) (w':World):Prop :=
 (k=1/\∃ (b:Sl) (L:Nat->Bool),e= .returned (.tuple #[.agg #[.slice b.1 b.2.1 b.2.2,.int .i64 (N:Int)],.bool true])/\BitZ w' b N L/\(∀ j,j < N->F (ixP m j)=flagF (L j))/\Below w.heap.size w w') \/
 (k≠1/\e= .returned (.tuple #[.agg #[vnil,.int .i64 0],.bool false])/\Below w.heap.size w w')
theorem spOutZ_of {k:Int}{m N:Nat}{F:Nat->Nat}{w:World} (hN:N=0){e:Ending}{w':World} (h:SpOut k m N F w e w'):SpOutZ k m N F w e w':=by
 rcases h with ⟨hk,b,L,he,⟨g,o,c,rfl,_⟩,hF,hb⟩ | h
 ·exact .inl ⟨hk,_,L,he,⟨by subst hN;rfl,hN⟩,hF,hb⟩
 ·exact .inr h
theorem spread_zb0 (N:Nat) (w:World) :
  Calls Tryz.prog 234 #[vecW 1 (none,0,0) 0 (none,0,0) (none,0,0) (none,0,0) (none,0,0) (none,0,0),.int .i64 (N:Int)] w fun e w'=>e= .returned (.tuple #[.agg #[.slice none 0 0,.int .i64 0],.bool true])/\Below w.heap.size w w':=by
 have HP:=Lib.hid (fun W=>packed_yes (none,0,0) 0 vnil vnil vnil vnil vnil W)
 have HBL:=Lib.hid (fun W=>blen_any (.slice none 0 0) 0 W)
 have HS0:=Lib.hid (Sb.new w ⟨1,(none,0,0),0,(none,0,0),(none,0,0),(none,0,0),(none,0,0),(none,0,0)⟩)
 go_enter Tryz.func234,Tryz.ntmps234
 obtain ⟨h0,h1,h2,h3,h4,h5,h6,h7⟩:=HS0.out.one
 go_wp2_with fail
 refine (HP.out _).mono ?_
 rintro e w1 ⟨rfl,hb1⟩
 have HS1:=Lib.hid (HS0.out.step hb1)
 have z1:w.heap.size+1 < w1.heap.size:=HS1.out.sz
 clear hb1 h0 h1 h2 h3 h4 h5 h6 h7
 have HS2:=Lib.hid (HS1.out.step (bel1 w1 (.cells #[.slice none 0 0,.int .i64 0] 30)))
 have HV2:=Lib.hid (heap_alloc_new w1 (.cells #[.slice none 0 0,.int .i64 0] 30))
 go_wp2_with fail
 refine (HBL.out _).mono ?_
 rintro e w2 ⟨rfl,hb2⟩
 have HS3:=Lib.hid (HS2.out.step hb2)
 have HV3:=Lib.hid (show w2.heap[w1.heap.size]?=some (.cells #[.slice none 0 0,.int .i64 0] 30) by rw [hb2.block _ (lt_of_block HV2.out)];exact HV2.out)
 clear hb2
 have HKE:=Lib.hid (set2_block HS3.out.res (.slice none 0 0) (.int .i64 0))
 have HBE:=Lib.hid (below_set2 HS3.out.bel (Nat.le_succ _) (.slice none 0 0) (.int .i64 0))
 have z2:w.heap.size+1 < w2.heap.size:=HS3.out.sz
 obtain ⟨hk0,hk1,hkf⟩:=pair_of HS3.out.res
 obtain ⟨hv0,hv1,hvf⟩:=pair_of HV3.out
 go_wp2
 refine bodyPost_ret (v := .tuple #[.agg #[.slice none 0 0,.int .i64 0],.bool true]) ?_ rfl ⟨rfl,HBE.out⟩
 exact ret_bits2 (fn:=Tryz.f234) (p:=4) (u:=5) rfl _ _ (w.heap.size+1) (by rfl) HKE.out
theorem spread_zb (N:Nat) (hN:N=0) (F:Nat->Nat) (w:World) :
  Calls Tryz.prog 234 #[vecW 1 (none,0,0) 0 (none,0,0) (none,0,0) (none,0,0) (none,0,0) (none,0,0),.int .i64 (N:Int)] w (SpOutZ 1 0 N F w):=by
 refine (spread_zb0 N w).mono fun e w' ⟨h1,hb⟩ => .inl ⟨rfl,(none,0,0),fun _=>false,?_,⟨rfl,hN⟩,fun j hj=>absurd hj (by omega),hb⟩
 subst hN
 exact h1
theorem rapply_someZ (H:Nat->Prop) (f:Int) (hf:11<=f) (hf2:f<=16) (p q:V8) (m n:Nat) (F G:Nat->Nat) (R:Nat->Bool) (w:World) (N:Nat) (hH:∀ b,H b->b < w.heap.size) (hL:lenP m n=some N) (hNb:N<=1000000)
  (hSP:∀ W,Below w.heap.size w W->Calls Tryz.prog 234 #[p.v,.int .i64 (N:Int)] W (SpOutZ p.k m N F W))
  (hSQ:∀ W,Below w.heap.size w W->Calls Tryz.prog 234 #[q.v,.int .i64 (N:Int)] W (SpOutZ q.k n N G W))
  (hNU:∀ (W:World) (H':Nat->Prop),Below w.heap.size w W->(∀ b,H' b->b < W.heap.size)->Calls Tryz.prog 236 #[.int .i64 f,.int .i64 (N:Int),p.v,q.v] W (VecR H' W (fun u W'=>NumV u 1 N (fun c=>flagF (R c)) W')))
  (hTR:∀ (W:World) (b1 b2:Sl) (L1 L2:Nat->Bool),BitZ W b1 N L1->BitZ W b2 N L2->(∀ j,j < N->F (ixP m j)=flagF (L1 j))->(∀ j,j < N->G (ixP n j)=flagF (L2 j))->Calls Tryz.prog 214 #[.int .u8 ((tabRN f:Nat):Int),.agg #[.slice b1.1 b1.2.1 b1.2.2,.int .i64 (N:Int)],.agg #[.slice b2.1 b2.2.1 b2.2.2,.int .i64 (N:Int)]] W fun e w'=>∃ g,e= .returned (.tuple #[.agg #[.slice (some ⟨g,0,none⟩) ((N+63) / 64) ((N+63) / 64),.int .i64 (N:Int)],.bool true])/\RowU w' W.heap.size g ((N+63) / 64) (packW R N)/\Below W.heap.size W w')
  (hP:∀ W,Below w.heap.size w W->NumW p.v m F W) (hQ:∀ W,Below w.heap.size w W->NumW q.v n G W) :
  Calls Tryz.prog 168 #[.int .i64 f,p.v,q.v] w (Rl2Out H w R (lenP m n)):=by
 have HLP:=Lib.hid (fun W (hs:St2 w W p q)=>(hP W hs.bel).len)
 have HLQ:=Lib.hid (fun W (hs:St2 w W p q)=>(hQ W hs.bel).len)
 have HCP:=Lib.hid (fun W (hs:St2 w W p q)=>(hP W hs.bel).cls)
 have HCQ:=Lib.hid (fun W (hs:St2 w W p q)=>(hQ W hs.bel).cls)
 have HLL:=Lib.hid (fun W=>length_any m n W)
 have HS0:=Lib.hid (St2.new w p q)
 obtain ⟨L,ok,hL1,hL2⟩:∃ L ok,L=(lenP m n).getD 0/\ok=(lenP m n).isSome:=⟨_,_,rfl,rfl⟩
 rw [<- hL1,<- hL2] at HLL
 obtain rfl:ok=true:=by rw [hL2,hL];rfl
 obtain rfl:N=L:=by rw [hL1,hL];rfl
 have HLN:=Lib.hid hL
 have HH:=Lib.hid hH
 have HSP:=Lib.hid hSP
 have HSQ:=Lib.hid hSQ
 have HNU:=Lib.hid hNU
 have HTR:=Lib.hid hTR
 have HNB:=Lib.hid hNb
 have HTB:=Lib.hid (fun W=>rtable_fix f hf hf2 W)
 unfold SpOutZ at HSP HSQ
 unfold VecR at HNU
 clear hL1 hL2 hL hP hQ hH hSP hSQ hNU hTR hNb
 go_enter Tryz.func168,Tryz.ntmps168
 go_wp2_with fail
 obtain ⟨w0,hw0⟩:∃ w0,w0=((w.alloc p.o).alloc q.o).alloc (.cells zcells 37):=⟨_,rfl⟩
 rw [<- hw0] at HS0 ⊢
 clear hw0
 go_cut [8,9] from 22 (fun x y wx=>LenMid w p q N true x y wx)
 case first =>
  have hs0:=HS0.out.dr
  have hs00:=HS0.out
  go_region_held3 (fun W=>((W.cell? ⟨w.heap.size,0,none⟩=some (.int .i64 p.k)/\W.cell? ⟨w.heap.size,1,none⟩=some (.slice p.b.1 p.b.2.1 p.b.2.2)/\W.cell? ⟨w.heap.size,2,none⟩=some (.int .i64 p.bn)/\W.cell? ⟨w.heap.size,3,none⟩=some (.slice p.s.1 p.s.2.1 p.s.2.2)/\W.cell? ⟨w.heap.size,4,none⟩=some (.slice p.i.1 p.i.2.1 p.i.2.2)/\W.cell? ⟨w.heap.size,5,none⟩=some (.slice p.f.1 p.f.2.1 p.f.2.2)/\W.cell? ⟨w.heap.size,6,none⟩=some (.slice p.c.1 p.c.2.1 p.c.2.2)/\W.cell? ⟨w.heap.size,7,none⟩=some (.slice p.x.1 p.x.2.1 p.x.2.2))/\(W.cell? ⟨w.heap.size+1,0,none⟩=some (.int .i64 q.k)/\W.cell? ⟨w.heap.size+1,1,none⟩=some (.slice q.b.1 q.b.2.1 q.b.2.2)/\W.cell? ⟨w.heap.size+1,2,none⟩=some (.int .i64 q.bn)/\W.cell? ⟨w.heap.size+1,3,none⟩=some (.slice q.s.1 q.s.2.1 q.s.2.2)/\W.cell? ⟨w.heap.size+1,4,none⟩=some (.slice q.i.1 q.i.2.1 q.i.2.2)/\W.cell? ⟨w.heap.size+1,5,none⟩=some (.slice q.f.1 q.f.2.1 q.f.2.2)/\W.cell? ⟨w.heap.size+1,6,none⟩=some (.slice q.c.1 q.c.2.1 q.c.2.2)/\W.cell? ⟨w.heap.size+1,7,none⟩=some (.slice q.x.1 q.x.2.1 q.x.2.2)))/\St2 w W p q)
   (first | (with_reducible assumption) | (with_reducible (refine st2_s ?_);repeat (first | (with_reducible assumption) | (with_reducible refine St2.dr ?_))))
   (first
    | (go_at_call 211;(with_reducible refine (HLL.out _).mono ?_);rintro e w5 ⟨rfl,rfl⟩)
    | (go_at_call 85;(with_reducible refine (HLP.out _ ?_).mono ?_);exact St2.self (by repeat (first | (with_reducible assumption) | (with_reducible refine St2.dr ?_)));rintro e w1 ⟨rfl,hb1⟩;obtain ⟨hc1,hf1⟩:=bcell2 hb1;have hz1:=hb1.size;have hst1:St2 w w1 p q:=St2.step (by repeat (first | (with_reducible assumption) | (with_reducible refine St2.dr ?_))) hb1;clear hb1)
    | (go_at_call 85;(with_reducible refine (HLQ.out _ ?_).mono ?_);exact St2.self (by repeat (first | (with_reducible assumption) | (with_reducible refine St2.dr ?_)));rintro e w2 ⟨rfl,hb2⟩;obtain ⟨hc2,hf2⟩:=bcell2 hb2;have hz2:=hb2.size;have hst2:St2 w w2 p q:=St2.step (by repeat (first | (with_reducible assumption) | (with_reducible refine St2.dr ?_))) hb2;clear hb2))
  all_goals
   go_wp2
   go_meet
   first
    | (with_reducible exact lenMid_of hst2)
    | (with_reducible exact lenMid_of hst1)
 obtain ⟨rfl,rfl,hst⟩:=hcut
 have HST:=Lib.hid hst
 clear hst HS0 HLP HLQ HLL
 obtain ⟨h0,h1,h2,h3,h4,h5,h6,h7⟩:=HST.out.one
 go_wp2_with fail
 refine (HCP.out _ HST.out).mono ?_
 rintro e w3 ⟨rfl,hb3⟩
 have HS3:=Lib.hid (HST.out.step hb3)
 clear hb3 h0 h1 h2 h3 h4 h5 h6 h7 HST
 obtain ⟨h0,h1,h2,h3,h4,h5,h6,h7⟩:=HS3.out.two
 go_wp2_with fail
 refine (HCQ.out _ HS3.out).mono ?_
 rintro e w4 ⟨rfl,hb4⟩
 have HS4:=Lib.hid (HS3.out.step hb4)
 clear hb4 h0 h1 h2 h3 h4 h5 h6 h7 HS3
 go_wp2_with fail
 go_cut [51] from 42 to 50 (fun x wx=>ClsMid w p q x wx)
 case first =>
  have hs0:=HS4.out.dr
  have hs00:=HS4.out
  go_region_held3 (fun W=>((W.cell? ⟨w.heap.size,0,none⟩=some (.int .i64 p.k)/\W.cell? ⟨w.heap.size,1,none⟩=some (.slice p.b.1 p.b.2.1 p.b.2.2)/\W.cell? ⟨w.heap.size,2,none⟩=some (.int .i64 p.bn)/\W.cell? ⟨w.heap.size,3,none⟩=some (.slice p.s.1 p.s.2.1 p.s.2.2)/\W.cell? ⟨w.heap.size,4,none⟩=some (.slice p.i.1 p.i.2.1 p.i.2.2)/\W.cell? ⟨w.heap.size,5,none⟩=some (.slice p.f.1 p.f.2.1 p.f.2.2)/\W.cell? ⟨w.heap.size,6,none⟩=some (.slice p.c.1 p.c.2.1 p.c.2.2)/\W.cell? ⟨w.heap.size,7,none⟩=some (.slice p.x.1 p.x.2.1 p.x.2.2))/\(W.cell? ⟨w.heap.size+1,0,none⟩=some (.int .i64 q.k)/\W.cell? ⟨w.heap.size+1,1,none⟩=some (.slice q.b.1 q.b.2.1 q.b.2.2)/\W.cell? ⟨w.heap.size+1,2,none⟩=some (.int .i64 q.bn)/\W.cell? ⟨w.heap.size+1,3,none⟩=some (.slice q.s.1 q.s.2.1 q.s.2.2)/\W.cell? ⟨w.heap.size+1,4,none⟩=some (.slice q.i.1 q.i.2.1 q.i.2.2)/\W.cell? ⟨w.heap.size+1,5,none⟩=some (.slice q.f.1 q.f.2.1 q.f.2.2)/\W.cell? ⟨w.heap.size+1,6,none⟩=some (.slice q.c.1 q.c.2.1 q.c.2.2)/\W.cell? ⟨w.heap.size+1,7,none⟩=some (.slice q.x.1 q.x.2.1 q.x.2.2)))/\St2 w W p q)
   (first | (with_reducible assumption) | (with_reducible (refine st2_s ?_);repeat (first | (with_reducible assumption) | (with_reducible refine St2.dr ?_))))
   (first
    | (go_at_call 58;(with_reducible refine (HCP.out _ ?_).mono ?_);exact St2.self (by repeat (first | (with_reducible assumption) | (with_reducible refine St2.dr ?_)));rintro e w1 ⟨rfl,hb1⟩;obtain ⟨hc1,hf1⟩:=bcell2 hb1;have hz1:=hb1.size;have hst1:St2 w w1 p q:=St2.step (by repeat (first | (with_reducible assumption) | (with_reducible refine St2.dr ?_))) hb1;clear hb1)
    | (go_at_call 58;(with_reducible refine (HCQ.out _ ?_).mono ?_);exact St2.self (by repeat (first | (with_reducible assumption) | (with_reducible refine St2.dr ?_)));rintro e w2 ⟨rfl,hb2⟩;obtain ⟨hc2,hf2⟩:=bcell2 hb2;have hz2:=hb2.size;have hst2:St2 w w2 p q:=St2.step (by repeat (first | (with_reducible assumption) | (with_reducible refine St2.dr ?_))) hb2;clear hb2))
  all_goals
   go_wp2
   go_meet
   first
    | (with_reducible exact clsMid_of hst2)
    | (with_reducible exact clsMid_of hst1)
 obtain ⟨rfl,hst⟩:=hcut
 have HS5:=Lib.hid hst
 clear hst HS4
 obtain ⟨h0,h1,h2,h3,h4,h5,h6,h7⟩:=HS5.out.one
 go_wp2_with fail
 refine (HSP.out _ HS5.out.bel).mono ?_
 clear h0 h1 h2 h3 h4 h5 h6 h7
 rintro e w6 (⟨-,b1,L1,rfl,hat1,hf1,hb6⟩ | ⟨-,rfl,hb6⟩)
 ·have HS7:=Lib.hid ((HS5.out.step hb6).al (.cells #[.slice b1.1 b1.2.1 b1.2.2,.int .i64 (N:Int)] 30))
  have HAT1:=Lib.hid (hat1.below (bel1 w6 (.cells #[.slice b1.1 b1.2.1 b1.2.2,.int .i64 (N:Int)] 30)))
  have HV1:=Lib.hid (heap_alloc_new w6 (.cells #[.slice b1.1 b1.2.1 b1.2.2,.int .i64 (N:Int)] 30))
  clear hb6 hat1
  obtain ⟨h0,h1,h2,h3,h4,h5,h6,h7⟩:=HS7.out.two
  go_wp2_with fail
  refine (HSQ.out _ HS7.out.bel).mono ?_
  clear h0 h1 h2 h3 h4 h5 h6 h7
  rintro e w7 (⟨-,b2,L2,rfl,hat2,hf2,hb7⟩ | ⟨-,rfl,hb7⟩)
  ·have HA1:=Lib.hid ((HAT1.out.below hb7).below (bel1 w7 (.cells #[.slice b2.1 b2.2.1 b2.2.2,.int .i64 (N:Int)] 30)))
   have HA2:=Lib.hid (hat2.below (bel1 w7 (.cells #[.slice b2.1 b2.2.1 b2.2.2,.int .i64 (N:Int)] 30)))
   have HF1:=Lib.hid hf1
   have HF2:=Lib.hid hf2
   have HS8:=Lib.hid ((HS7.out.step hb7).al (.cells #[.slice b2.1 b2.2.1 b2.2.2,.int .i64 (N:Int)] 30))
   have HV2:=Lib.hid (heap_alloc_new w7 (.cells #[.slice b2.1 b2.2.1 b2.2.2,.int .i64 (N:Int)] 30))
   have HV1':=Lib.hid (show (w7.alloc (.cells #[.slice b2.1 b2.2.1 b2.2.2,.int .i64 (N:Int)] 30)).heap[w6.heap.size]?=some (.cells #[.slice b1.1 b1.2.1 b1.2.2,.int .i64 (N:Int)] 30) by rw [Below.heap_alloc _ _ _ (by have:=hb7.size;have:=lt_of_block HV1.out;omega),hb7.block _ (lt_of_block HV1.out)];exact HV1.out)
   clear hb7 hat2 hf1 hf2
   go_wp2_with fail
   obtain ⟨w0,hw0⟩:∃ w0,w0=w7.alloc (.cells #[.slice b2.1 b2.2.1 b2.2.2,.int .i64 (N:Int)] 30):=⟨_,rfl⟩
   rw [<- hw0] at HA1 HA2 HS8 HV2 HV1' ⊢
   clear hw0
   have HLD:=Lib.hid (⟨HV1'.out,HV2.out,Below.refl _ _,lt_of_block HV1'.out,lt_of_block HV2.out⟩:LdB w0 w6.heap.size w7.heap.size b1 b2 N w0)
   have HTT:=Lib.hid (fun W (hs:LdB w0 w6.heap.size w7.heap.size b1 b2 N W)=>HTR.out W b1 b2 L1 L2 (HA1.out.below hs.bel) (HA2.out.below hs.bel) HF1.out HF2.out)
   obtain ⟨V1,hV1⟩:∃ V,V=w6.heap.size:=⟨_,rfl⟩
   obtain ⟨V2,hV2⟩:∃ V,V=w7.heap.size:=⟨_,rfl⟩
   rw [<- hV1,<- hV2] at HLD HTT
   rw [<- hV1,<- hV2]
   clear hV1 hV2
   go_cut [13,14] from 75 (fun x y wx=>TrMid w0 N R x y wx)
   case first =>
    have hs0:=HLD.out.dr
    have hs00:=HLD.out
    go_region_held3 (fun W=>((W.cell? ⟨V1,0,none⟩=some (.slice b1.1 b1.2.1 b1.2.2)/\W.cell? ⟨V1,1,none⟩=some (.int .i64 (N:Int)))/\(W.cell? ⟨V2,0,none⟩=some (.slice b2.1 b2.2.1 b2.2.2)/\W.cell? ⟨V2,1,none⟩=some (.int .i64 (N:Int))))/\LdB w0 V1 V2 b1 b2 N W)
     (first | (with_reducible assumption) | (with_reducible (refine ldb_s ?_);repeat (first | (with_reducible assumption) | (with_reducible refine LdB.dr ?_) | (with_reducible refine LdB.put ?_ (by first | assumption | omega | (simp;omega)) _) | (with_reducible refine LdB.al ?_ _))))
     (first
      | (go_at_call 235;(with_reducible refine (HTB.out _).mono ?_);rintro e w5 ⟨rfl,rfl⟩)
      | (go_at_call 214;(with_reducible refine (HTT.out _ ?_).mono ?_);exact LdB.self (by repeat (first | (with_reducible assumption) | (with_reducible refine LdB.dr ?_) | (with_reducible refine LdB.put ?_ (by first | assumption | omega | (simp;omega)) _) | (with_reducible refine LdB.al ?_ _)));rintro e w8 ⟨g8,rfl,hr8,hb8⟩;obtain ⟨hc8,hf8⟩:=bcell2 hb8;have hz8:=hb8.size;have hst8:LdB w0 V1 V2 b1 b2 N w8:=LdB.step (by repeat (first | (with_reducible assumption) | (with_reducible refine LdB.dr ?_) | (with_reducible refine LdB.put ?_ (by first | assumption | omega | (simp;omega)) _) | (with_reducible refine LdB.al ?_ _))) hb8;have hpv8:=LdB.prev (w0:=w0) (V1:=V1) (V2:=V2) (b1:=b1) (b2:=b2) (N:=N) (by repeat (first | (with_reducible assumption) | (with_reducible refine LdB.dr ?_) | (with_reducible refine LdB.put ?_ (by first | assumption | omega | (simp;omega)) _) | (with_reducible refine LdB.al ?_ _))) hb8;have HB8:=Lib.hid hb8;have HR8:=Lib.hid hr8;have HPV8:=Lib.hid hpv8;clear hb8 hr8 hpv8))
    all_goals
     go_wp2
     go_meet
     first
      | (with_reducible exact trMid_new HPV8.out HR8.out hst8)
      | (with_reducible exact trMid_set HPV8.out (Nat.le_refl _) (lt_al _ _) (blk_al HB8.out) HR8.out hst8)
      | (with_reducible exact trMid_set HPV8.out (Nat.le_refl _) (lt_dr _ _) (blk_dr HB8.out) HR8.out hst8)
      | (with_reducible exact trMid_set HPV8.out (le_dr _) (lt_al _ _) (blk_al HB8.out) HR8.out hst8)
      | (with_reducible exact trMid_set HPV8.out (le_dr _) (lt_dr _ _) (blk_dr HB8.out) HR8.out hst8)
   obtain ⟨V,g8,rfl,hV,hr,hb,rfl⟩:=hcut
   have HS9:=Lib.hid (HS8.out.step hb)
   have HR9:=Lib.hid hr
   have HW0:=Lib.hid HS8.out.sz
   obtain ⟨hv0,hv1,hvf⟩:=pair_of hV
   clear hr hb hV
   go_wp2_with fail
   refine (vbits_any _ _ _ _ _).mono ?_
   rintro e w10 ⟨rfl,hb10⟩
   have HS10:=Lib.hid (HS9.out.step hb10)
   have HR10:=Lib.hid (HR9.out.below hb10)
   clear hb10 hv0 hv1 hvf
   have HRE:=Lib.hid (set8_block HS10.out.res (.int .i64 1) (.slice (some ⟨g8,0,none⟩) ((N+63) / 64) ((N+63) / 64)) (.int .i64 (N:Int)) vnil vnil vnil vnil vnil)
   have HBE:=Lib.hid (below_set8 HS10.out.bel (Nat.le_add_right _ 2) (.int .i64 1) (.slice (some ⟨g8,0,none⟩) ((N+63) / 64) ((N+63) / 64)) (.int .i64 (N:Int)) vnil vnil vnil vnil vnil)
   have HKE:Hid (Keeps H (set8 w10 (w.heap.size+2) (.int .i64 1) (.slice (some ⟨g8,0,none⟩) ((N+63) / 64) ((N+63) / 64)) (.int .i64 (N:Int)) vnil vnil vnil vnil vnil) (NumV (vecW 1 (some ⟨g8,0,none⟩,(N+63) / 64,(N+63) / 64) (N:Int) (none,0,0) (none,0,0) (none,0,0) (none,0,0) (none,0,0)) 1 N (fun c=>flagF (R c)))):=by
    have h1:Keeps (fun j=>H j\/j=w.heap.size+2) w10 (fun W=>Reads1 W (.slice (some ⟨g8,0,none⟩) ((N+63) / 64) ((N+63) / 64)) ((List.range ((N+63) / 64)).map fun j => .int .u64 (packW R N j:Nat))) :=
     Own1.keepsH HR10.out (fun j e=>by
      have h2:=HW0.out
      rcases e with e | e
      ·have:=HH.out j e;omega
      ·omega)
    refine ((h1.imp fun W' h=>numV_bits (by have:=HNB.out;omega) ⟨_,rfl,⟨g8,0,_,rfl,fun j hj=>?_⟩⟩).set8 (.inr rfl) _ _ _ _ _ _ _ _).sub fun _ _ e => .inl e
    exact reads_cell h j hj
   clear HR9 HR10
   obtain ⟨⟨h0,h1,h2,h3,h4,h5,h6,h7⟩,hz⟩:=boxed_of HS10.out.res
   go_wp2
   refine bodyPost_ret (v := .tuple #[vecW 1 (some ⟨g8,0,none⟩,(N+63) / 64,(N+63) / 64) (N:Int) (none,0,0) (none,0,0) (none,0,0) (none,0,0) (none,0,0),.int .i64 0]) ?_ rfl (.inr ⟨_,HLN.out,1,(some ⟨g8,0,none⟩,(N+63) / 64,(N+63) / 64),(N:Int),(none,0,0),(none,0,0),(none,0,0),(none,0,0),(none,0,0),rfl,HKE.out,HBE.out⟩)
   exact ret_vec2 (fn:=Tryz.f168) (p:=6) (u:=7) rfl _ _ (w.heap.size+2) (by rfl) HRE.out
  ·have HS8:=Lib.hid ((HS7.out.step hb7).al (.cells bcells 30))
   clear hb7
   obtain ⟨h0,h1,h2,h3,h4,h5,h6,h7⟩:=HS8.out.one
   obtain ⟨g0,g1,g2,g3,g4,g5,g6,g7⟩:=HS8.out.two
   go_wp2_with fail
   refine (HNU.out _ (fun j=>H j\/j=w.heap.size+2) HS8.out.bel (fun j e=>by
    have h1:=HS8.out.sz
    rcases e with e | e
    ·have:=HH.out j e;omega
    ·omega)).mono ?_
   clear h0 h1 h2 h3 h4 h5 h6 h7 g0 g1 g2 g3 g4 g5 g6 g7
   rintro e w9 ⟨k5,b5,bn5,s5,i5,f5,c5,x5,rfl,hk9,hb9⟩
   have HS9:=Lib.hid (HS8.out.step hb9)
   have HKE:=Lib.hid hk9
   clear hb9 hk9
   obtain ⟨⟨h0,h1,h2,h3,h4,h5,h6,h7⟩,hz⟩:=boxed_of HS9.out.res
   go_wp2
   refine bodyPost_ret (v := .tuple #[vecW k5 b5 bn5 s5 i5 f5 c5 x5,.int .i64 0]) ?_ rfl (.inr ⟨_,HLN.out,k5,b5,bn5,s5,i5,f5,c5,x5,rfl,(HKE.out.set8 (.inr rfl) _ _ _ _ _ _ _ _).sub (fun _ _ e => .inl e),below_set8 HS9.out.bel (Nat.le_add_right _ 2) _ _ _ _ _ _ _ _⟩)
   exact ret_vec2 (fn:=Tryz.f168) (p:=6) (u:=7) rfl _ _ (w.heap.size+2) (by rfl) (set8_block HS9.out.res _ _ _ _ _ _ _ _)
 ·have HS7:=Lib.hid ((HS5.out.step hb6).al (.cells bcells 30))
  clear hb6
  obtain ⟨h0,h1,h2,h3,h4,h5,h6,h7⟩:=HS7.out.two
  go_wp2_with fail
  refine (HSQ.out _ HS7.out.bel).mono ?_
  clear h0 h1 h2 h3 h4 h5 h6 h7
  rintro e w7 (⟨-,b2,L2,rfl,hat2,hf2,hb7⟩ | ⟨-,rfl,hb7⟩)
  ·have HS8:=Lib.hid ((HS7.out.step hb7).al (.cells #[.slice b2.1 b2.2.1 b2.2.2,.int .i64 (N:Int)] 30))
   clear hb7 hat2 hf2
   obtain ⟨h0,h1,h2,h3,h4,h5,h6,h7⟩:=HS8.out.one
   obtain ⟨g0,g1,g2,g3,g4,g5,g6,g7⟩:=HS8.out.two
   go_wp2_with fail
   refine (HNU.out _ (fun j=>H j\/j=w.heap.size+2) HS8.out.bel (fun j e=>by
    have h1:=HS8.out.sz
    rcases e with e | e
    ·have:=HH.out j e;omega
    ·omega)).mono ?_
   clear h0 h1 h2 h3 h4 h5 h6 h7 g0 g1 g2 g3 g4 g5 g6 g7
   rintro e w9 ⟨k5,b5,bn5,s5,i5,f5,c5,x5,rfl,hk9,hb9⟩
   have HS9:=Lib.hid (HS8.out.step hb9)
   have HKE:=Lib.hid hk9
   clear hb9 hk9
   obtain ⟨⟨h0,h1,h2,h3,h4,h5,h6,h7⟩,hz⟩:=boxed_of HS9.out.res
   go_wp2
   refine bodyPost_ret (v := .tuple #[vecW k5 b5 bn5 s5 i5 f5 c5 x5,.int .i64 0]) ?_ rfl (.inr ⟨_,HLN.out,k5,b5,bn5,s5,i5,f5,c5,x5,rfl,(HKE.out.set8 (.inr rfl) _ _ _ _ _ _ _ _).sub (fun _ _ e => .inl e),below_set8 HS9.out.bel (Nat.le_add_right _ 2) _ _ _ _ _ _ _ _⟩)
   exact ret_vec2 (fn:=Tryz.f168) (p:=6) (u:=7) rfl _ _ (w.heap.size+2) (by rfl) (set8_block HS9.out.res _ _ _ _ _ _ _ _)
  ·have HS8:=Lib.hid ((HS7.out.step hb7).al (.cells bcells 30))
   clear hb7
   obtain ⟨h0,h1,h2,h3,h4,h5,h6,h7⟩:=HS8.out.one
   obtain ⟨g0,g1,g2,g3,g4,g5,g6,g7⟩:=HS8.out.two
   go_wp2_with fail
   refine (HNU.out _ (fun j=>H j\/j=w.heap.size+2) HS8.out.bel (fun j e=>by
    have h1:=HS8.out.sz
    rcases e with e | e
    ·have:=HH.out j e;omega
    ·omega)).mono ?_
   clear h0 h1 h2 h3 h4 h5 h6 h7 g0 g1 g2 g3 g4 g5 g6 g7
   rintro e w9 ⟨k5,b5,bn5,s5,i5,f5,c5,x5,rfl,hk9,hb9⟩
   have HS9:=Lib.hid (HS8.out.step hb9)
   have HKE:=Lib.hid hk9
   clear hb9 hk9
   obtain ⟨⟨h0,h1,h2,h3,h4,h5,h6,h7⟩,hz⟩:=boxed_of HS9.out.res
   go_wp2
   refine bodyPost_ret (v := .tuple #[vecW k5 b5 bn5 s5 i5 f5 c5 x5,.int .i64 0]) ?_ rfl (.inr ⟨_,HLN.out,k5,b5,bn5,s5,i5,f5,c5,x5,rfl,(HKE.out.set8 (.inr rfl) _ _ _ _ _ _ _ _).sub (fun _ _ e => .inl e),below_set8 HS9.out.bel (Nat.le_add_right _ 2) _ _ _ _ _ _ _ _⟩)
   exact ret_vec2 (fn:=Tryz.f168) (p:=6) (u:=7) rfl _ _ (w.heap.size+2) (by rfl) (set8_block HS9.out.res _ _ _ _ _ _ _ _)
theorem rapply_zero (H:Nat->Prop) (f:Int) (hf:11<=f) (hf2:f<=16) (p q:V8) (m n N:Nat) (hN:N=0) (F G:Nat->Nat) (R:Nat->Bool) (w:World) (hH:∀ b,H b->b < w.heap.size) (hm:m<=1000000) (hn:n<=1000000) (hL:lenP m n=some N)
  (hSP:∀ W,Below w.heap.size w W->Calls Tryz.prog 234 #[p.v,.int .i64 (N:Int)] W (SpOutZ p.k m N F W)) (hSQ:∀ W,Below w.heap.size w W->Calls Tryz.prog 234 #[q.v,.int .i64 (N:Int)] W (SpOutZ q.k n N G W))
  (hP:∀ W,Below w.heap.size w W->NumW p.v m F W) (hQ:∀ W,Below w.heap.size w W->NumW q.v n G W) :
  Calls Tryz.prog 168 #[.int .i64 f,p.v,q.v] w (Rl2Out H w R (lenP m n)):=by
 refine rapply_someZ H f hf hf2 p q m n F G R w N hH hL (by omega) hSP hSQ (fun W H' hb hH'=>?_) (fun W b1 b2 L1 L2 h1 h2 e1 e2=>?_) hP hQ
 ·exact rnumbers_any H' f R p q m n N F G W hH' hL hm hn (fun W' hb'=>hP W' (bel_both hb hb')) (fun W' hb'=>hQ W' (bel_both hb hb')) fun c hc W'=>absurd hc (by omega)
 ·obtain ⟨a1,n1,c1⟩:=b1
  obtain ⟨a2,n2,c2⟩:=b2
  obtain rfl:n1=(N+63) / 64:=by have h3:n1=0:=h1.1;omega
  obtain rfl:n2=(N+63) / 64:=by have h3:n2=0:=h2.1;omega
  refine (btruthZ (tabRN f) (tabRN_lt f) a1 a2 c1 c2 N hN L1 L2 W (by omega)).mono ?_
  rintro e w' ⟨g,rfl,hr,hb⟩
  exact ⟨g,rfl,hr.same fun j hj=>absurd hj (by omega),hb⟩
end Go.Proofs.YtiahegjdkejjpaaGreatDoor
