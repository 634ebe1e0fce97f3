/- The walk of flat.Join over Vecs of one element each. flat.Join over single numbers, and over single letters. Words of memory in drawing regions: an array at a .. Conditions: as each theorem says. -/
import Derived.Test.YtakgmnafbjdccaaGreatDoorMg30
import Derived.Test.YtakgmnafbjdccaaGreatDoorMg24
import Derived.Test.YtakgmnafbjdccaaGreatDoorMg17
import Derived.Test.YtakgmnafbjdccaaGreatDoorMg31
import Derived.Test.YtakgmnafbjdccaaGreatDoorMg21
import Derived.Test.YtakgmnafbjdccaaGreatDoorMg28
import Derived.BigQuiet
import Derived.Test.YtakgmnafbjdccaaGreatDoorMg23
set_option maxRecDepth 100000
set_option maxHeartbeats 4000000
namespace Go.Proofs.YtakgmnafbjdccaaGreatDoor
open Go Go.RowKit Go.Proofs Fl
def kmax (pp:Nat->V8):Nat->Int
 | 0=>1
 | j+1=>max (kmax pp j) (pp j).k
theorem kmax_pos (pp:Nat->V8):∀ j,1<=kmax pp j
 | 0=>by unfold kmax;decide
 | j+1=>by have:=kmax_pos pp j;show 1<=max (kmax pp j) (pp j).k;omega
theorem kmax_le {pp:Nat->V8}:∀ {j:Nat},(∀ i,i < j->(pp i).k<=5)->kmax pp j<=5
 | 0,_=>by unfold kmax;decide
 | j+1,h=>by
  have h1:=kmax_le (j:=j) fun i hi=>h i (by omega)
  have h2:=h j (Nat.lt_succ_self _)
  show max (kmax pp j) (pp j).k<=5
  omega
def JoinR (H:Nat->Prop) (w:World) (R:Value->World->Prop) (e:Ending) (w':World):Prop :=
 ∃ (k:Int) (b:Sl) (bn:Int) (s i f c x:Sl),e= .returned (.tuple #[vecW k b bn s i f c x,.bool true])/\Keeps H w' (R (vecW k b bn s i f c x))/\Below w.heap.size w w'
theorem join_singles (H:Nat->Prop) (Φ:Value->World->Prop) (g m c:Nat) (q:Int) (pp:Nat->V8) (w:World) (hm1:1<=m) (hm:m<=1000000) (hq:0<=q) (hr:VRow w g m pp)
  (hk:∀ j,j < m->1<=(pp j).k/\(pp j).k<=5)
  (hlen:∀ j,j < m->∀ W,Below w.heap.size w W->Calls Tryz.prog 74 #[(pp j).v] W fun e w'=>e= .returned (.int .i64 1)/\Below W.heap.size W w')
  (hcl:∀ j,j < m->∀ W,Below w.heap.size w W->Calls Tryz.prog 66 #[(pp j).v] W fun e w'=>e= .returned (.int .i64 q)/\Below W.heap.size W w')
  (hj:∀ W,Below w.heap.size w W->w.heap.size < W.heap.size->Calls Tryz.prog 127 #[.slice (some ⟨g,0,none⟩) m c,.int .i64 q,.int .i64 (kmax pp m)] W (VecR (fun b=>H b\/b=w.heap.size) W Φ)) :
  Calls Tryz.prog 71 #[.slice (some ⟨g,0,none⟩) m c] w (JoinR H w Φ):=by
 have HR:=Lib.hid hr
 have HLN:=Lib.hid hlen
 have HCL:=Lib.hid hcl
 have HJ:=Lib.hid hj
 have HKK:=Lib.hid hk
 clear hr hlen hcl hj hk
 unfold VecR at HJ
 have HK0:=Lib.hid (heap_alloc_new w (.cells zcells 38))
 have HB0:=Lib.hid (bel1 w (.cells zcells 38))
 have q0:decide (q>=0)=true:=decide_eq_true hq
 have q1:decide (q < 0)=false:=decide_eq_false (by omega)
 have q2:(q != q)=false:=by simp
 go_enter Tryz.func71,Tryz.ntmps71
 go_wp2_with fail
 go_loopw [4,5,6,11] (fun cc kk nn jj wr=>∃ j:Nat,∃ (K q':Int),j<=m/\jj= .int .i64 j/\kk= .int .i64 K/\nn= .int .i64 j/\cc= .int .i64 q'/\Hid (K=kmax pp j)/\Hid ((j=0/\q'=-1)\/(1<=j/\q'=q))/\Below w.heap.size w wr/\wr.heap[w.heap.size]?=some (.cells zcells 38)) (fun _ _ _ jj _=>m - (intOf jj).toNat)
 case atStart=>exact ⟨0,1,-1,Nat.zero_le _,rfl,rfl,rfl,rfl,rfl,.inl ⟨rfl,rfl⟩,HB0.out,HK0.out⟩
 case round =>
  clear HB0 HK0
  obtain ⟨j,K,q',hj,rfl,rfl,rfl,rfl,hK,hq',hbl,hk⟩:=hrel
  have HBL:=Lib.hid hbl
  have HK:=Lib.hid hk
  clear hbl hk
  by_cases hlt:j < m
  ·obtain ⟨⟨c0,c1,c2,c3,c4,c5,c6,c7⟩,cz⟩:=(HR.out.below HBL.out).at_ j hlt
   have HL1:=Lib.hid (fun W hb=>HLN.out j hlt W hb)
   have HC1:=Lib.hid (fun W hb=>HCL.out j hlt W hb)
   have HK1:=Lib.hid (HKK.out j hlt)
   have HMX:Hid (max K (pp j).k=kmax pp (j+1)):=by rw [hK.out];rfl
   have HKP:=Lib.hid (kmax_pos pp j)
   rw [<- hK.out] at HKP
   have HK5:Hid (K<=5):=by rw [hK.out];exact kmax_le fun i hi=>(HKK.out i (by omega)).2
   generalize pp j=pj at *
   have HB1:=Lib.hid (bel_both HBL.out (bel1 wr pj.o))
   have HS1:=Lib.hid (bel1 wr pj.o)
   have HX1:=Lib.hid (boxP_new wr pj)
   go_wp2_with fail
   refine (HL1.out _ HB1.out).mono ?_
   rintro e w2 ⟨rfl,hb2⟩
   have HB2:=Lib.hid (bel_both HB1.out hb2)
   have HS2:=Lib.hid (bel_both HS1.out hb2)
   have HX2:=Lib.hid (HX1.out.below hb2)
   clear hb2 c0 c1 c2 c3 c4 c5 c6 c7 HX1 HB1 HS1
   obtain ⟨h0,h1,h2,h3,h4,h5,h6,h7⟩:=HX2.out
   rcases hq'.out with ⟨e0,rfl⟩ | ⟨e1,rfl⟩
   ·clear e0
    go_wp2_with fail
    refine (HC1.out _ HB2.out).mono ?_
    rintro e w3 ⟨rfl,hb3⟩
    have HB3:=Lib.hid (bel_both HB2.out hb3)
    have HS3:=Lib.hid (bel_both HS2.out hb3)
    have HX3:=Lib.hid (HX2.out.below hb3)
    clear hb3 h0 h1 h2 h3 h4 h5 h6 h7 HX2 HB2 HS2
    obtain ⟨h0,h1,h2,h3,h4,h5,h6,h7⟩:=HX3.out
    go_wp2_with fail
    refine (kind_any _ _ _ _ _ _ _ _ _).mono ?_
    rintro e w4 ⟨rfl,hb4⟩
    have HB4:=Lib.hid (bel_both HB3.out hb4)
    have HS4:=Lib.hid (bel_both HS3.out hb4)
    have HX4:=Lib.hid (HX3.out.below hb4)
    clear hb4 h0 h1 h2 h3 h4 h5 h6 h7 HX3 HB3 HS3
    obtain ⟨h0,h1,h2,h3,h4,h5,h6,h7⟩:=HX4.out
    go_wp2_with fail
    refine (HL1.out _ HB4.out).mono ?_
    rintro e w5 ⟨rfl,hb5⟩
    have HB5:=Lib.hid (bel_both HB4.out hb5)
    have HS5:=Lib.hid (bel_both HS4.out hb5)
    have HK2:=Lib.hid ((HS5.out.block _ (lt_of_block HK.out)).trans HK.out)
    clear hb5 h0 h1 h2 h3 h4 h5 h6 h7 HX4 HB4 HS4
    go_wp2
    go_roundw
    case rel=>exact ⟨j+1,max K pj.k,_,by omega,by go_num,rfl,by go_num,rfl,HMX.out,.inr ⟨Nat.le_add_left _ _,rfl⟩,HB5.out,HK2.out⟩
    case measure=>simp [intOf];omega
   ·clear e1
    go_wp2_with fail
    refine (HC1.out _ HB2.out).mono ?_
    rintro e w3 ⟨rfl,hb3⟩
    have HB3:=Lib.hid (bel_both HB2.out hb3)
    have HS3:=Lib.hid (bel_both HS2.out hb3)
    have HX3:=Lib.hid (HX2.out.below hb3)
    clear hb3 h0 h1 h2 h3 h4 h5 h6 h7 HX2 HB2 HS2
    obtain ⟨h0,h1,h2,h3,h4,h5,h6,h7⟩:=HX3.out
    go_wp2_with fail
    refine (HC1.out _ HB3.out).mono ?_
    rintro e w4 ⟨rfl,hb4⟩
    have HB4:=Lib.hid (bel_both HB3.out hb4)
    have HS4:=Lib.hid (bel_both HS3.out hb4)
    have HX4:=Lib.hid (HX3.out.below hb4)
    clear hb4 h0 h1 h2 h3 h4 h5 h6 h7 HX3 HB3 HS3
    obtain ⟨h0,h1,h2,h3,h4,h5,h6,h7⟩:=HX4.out
    go_wp2_with fail
    refine (kind_any _ _ _ _ _ _ _ _ _).mono ?_
    rintro e w5 ⟨rfl,hb5⟩
    have HB5:=Lib.hid (bel_both HB4.out hb5)
    have HS5:=Lib.hid (bel_both HS4.out hb5)
    have HX5:=Lib.hid (HX4.out.below hb5)
    clear hb5 h0 h1 h2 h3 h4 h5 h6 h7 HX4 HB4 HS4
    obtain ⟨h0,h1,h2,h3,h4,h5,h6,h7⟩:=HX5.out
    go_wp2_with fail
    refine (HL1.out _ HB5.out).mono ?_
    rintro e w6 ⟨rfl,hb6⟩
    have HB6:=Lib.hid (bel_both HB5.out hb6)
    have HS6:=Lib.hid (bel_both HS5.out hb6)
    have HK2:=Lib.hid ((HS6.out.block _ (lt_of_block HK.out)).trans HK.out)
    clear hb6 h0 h1 h2 h3 h4 h5 h6 h7 HX5 HB5 HS5
    go_wp2
    go_roundw
    case rel=>exact ⟨j+1,max K pj.k,_,by omega,by go_num,rfl,by go_num,rfl,HMX.out,.inr ⟨Nat.le_add_left _ _,rfl⟩,HB6.out,HK2.out⟩
    case measure=>simp [intOf];omega
  ·obtain rfl:j=m:=by omega
   obtain rfl:q'=q:=by
    rcases hq'.out with ⟨e0,_⟩ | ⟨_,e1⟩
    ·omega
    ·exact e1
   have HJ1:=Lib.hid (HJ.out wr HBL.out (lt_of_block HK.out))
   rw [<- hK.out] at HJ1
   clear hq' HJ
   go_wp2_with fail
   refine HJ1.out.mono ?_
   rintro e w6 ⟨k5,b5,bn5,s5,i5,f5,c5,x5,rfl,hk5,hb6⟩
   have HB2:=Lib.hid (bel_both HBL.out hb6)
   have HK2:=Lib.hid (show w6.heap[w.heap.size]?=some (.cells zcells 38) by rw [hb6.block _ (lt_of_block HK.out)];exact HK.out)
   have HKV:=Lib.hid hk5
   clear hb6 hk5
   have HRE:=Lib.hid (set8_block HK2.out (.int .i64 k5) (.slice b5.1 b5.2.1 b5.2.2) (.int .i64 bn5) (.slice s5.1 s5.2.1 s5.2.2) (.slice i5.1 i5.2.1 i5.2.2) (.slice f5.1 f5.2.1 f5.2.2) (.slice c5.1 c5.2.1 c5.2.2) (.slice x5.1 x5.2.1 x5.2.2))
   have HBE:=Lib.hid (below_set8 HB2.out (Nat.le_refl _) (.int .i64 k5) (.slice b5.1 b5.2.1 b5.2.2) (.int .i64 bn5) (.slice s5.1 s5.2.1 s5.2.2) (.slice i5.1 i5.2.1 i5.2.2) (.slice f5.1 f5.2.1 f5.2.2) (.slice c5.1 c5.2.1 c5.2.2) (.slice x5.1 x5.2.1 x5.2.2))
   have HKE:=Lib.hid ((HKV.out.set8 (.inr rfl) (.int .i64 k5) (.slice b5.1 b5.2.1 b5.2.2) (.int .i64 bn5) (.slice s5.1 s5.2.1 s5.2.2) (.slice i5.1 i5.2.1 i5.2.2) (.slice f5.1 f5.2.1 f5.2.2) (.slice c5.1 c5.2.1 c5.2.2) (.slice x5.1 x5.2.1 x5.2.2)).sub (H':=H) fun _ _ e => .inl e)
   obtain ⟨⟨h0,h1,h2,h3,h4,h5,h6,h7⟩,hz⟩:=boxed_of HK2.out
   go_wp2
   refine bodyPost_ret (v := .tuple #[vecW k5 b5 bn5 s5 i5 f5 c5 x5,.bool true]) ?_ rfl ⟨k5,b5,bn5,s5,i5,f5,c5,x5,rfl,HKE.out,HBE.out⟩
   exact ret_vec2 (fn:=Tryz.f71) (p:=2) (u:=3) rfl _ _ w.heap.size (by rfl) HRE.out
theorem least_one (x:Nat):leastF (fun j=>[x].getD j 0) [x].length=rankF x:=by
 have h:=rankF_le x
 show max 1 (rankF x)=rankF x
 omega
theorem leastF_same {F F':Nat->Nat}:∀ n,(∀ j,j < n->F j=F' j)->leastF F n=leastF F' n
 | 0,_=>rfl
 | n+1,h=>by
  show max (leastF F n) (rankF (F n))=max (leastF F' n) (rankF (F' n))
  rw [leastF_same n fun j hj=>h j (by omega),h n (Nat.lt_succ_self _)]
theorem single_k {H:Nat->Prop}{w:World}{p:V8}{x:Nat} (g:NumS H w p [x]):p.k=(rankF x:Nat):=by rw [g.least,least_one]
theorem kmax_rank (pp:Nat->V8) (F:Nat->Nat):∀ m,(∀ j,j < m->(pp j).k=(rankF (F j):Nat))->kmax pp m=(leastF F m:Nat)
 | 0,_=>rfl
 | m+1,h=>by
  have h1:=kmax_rank pp F m fun j hj=>h j (by omega)
  have h2:=h m (Nat.lt_succ_self _)
  show max (kmax pp m) (pp m).k=((max (leastF F m) (rankF (F m)):Nat):Int)
  rw [h1,h2]
  omega
theorem VecR.imp {H:Nat->Prop}{w:World}{R R':Value->World->Prop} (hi:∀ u W,R u W->R' u W) (e:Ending) (w':World) (h:VecR H w R e w'):VecR H w R' e w':=by
 obtain ⟨k,b,bn,s,i,f,c,x,e1,hk,hb⟩:=h
 exact ⟨k,b,bn,s,i,f,c,x,e1,hk.imp fun W h=>hi _ W h,hb⟩
theorem single_bit {H:Nat->Prop}{w:World}{p:V8}{x:Nat} (g:NumS H w p [x]) (h1:p.k=1):∃ t:Bool,p.v=vecV 1 (sv p.b) 1 vnil vnil vnil vnil vnil/\x=flagF t/\∃ l:Nat->Bool,l 0=t/\BitsIn w (.agg #[sv p.b,.int .i64 ((1:Nat):Int)]) 1 l:=by
 have hn:=g.num.now
 rw [h1] at hn
 obtain ⟨l,s,e,hb,hl⟩:=hn.bitsX rfl
 have e2:p.v=vecV 1 s ((1:Nat):Int) vnil vnil vnil vnil vnil:=e
 have e3:sv p.b=s:=by
  have:=e2
  unfold V8.v vecV at this
  simp at this
  exact this.2.1
 rw [<- e3] at e2 hb
 exact ⟨l 0,e2,hl 0 (Nat.lt_succ_self 0),l,rfl,hb⟩
theorem join_nums (H Hp:Nat->Prop) (g m c:Nat) (F:Nat->Nat) (pp:Nat->V8) (w:World) (hH:∀ b,H b->b < w.heap.size) (hm1:1<=m) (hm:m<=1000000) (hr:VRow w g m pp) (hs:∀ j,j < m->NumS Hp w (pp j) [F j]) :
  Calls Tryz.prog 71 #[.slice (some ⟨g,0,none⟩) m c] w (JoinR H w (fun u W=>NumV u (leastF F m:Nat) m F W)):=by
 have hat:∀ j,j < m->∀ W,Below w.heap.size w W->NumV (pp j).v (pp j).k 1 (fun i=>[F j].getD i 0) W:=fun j hj W hb=>((hs j hj).num.lat (Lat.below hb)).now
 have hkr:∀ j,j < m->(pp j).k=(rankF (F j):Nat):=fun j hj=>single_k (hs j hj)
 have htf:∀ j,j < m->TF (F j):=fun j hj=>(hat j hj w (Below.refl _ _)).tf 0 (Nat.lt_succ_self 0)
 refine join_singles H _ g m c 0 pp w hm1 hm (by decide) hr (fun j hj=>?_) (fun j hj W hb=>(hat j hj W hb).len) (fun j hj W hb=>(hat j hj W hb).cls) ?_
 ·have:=hkr j hj
  have:=rankF_le (F j)
  omega
 intro W hb hlt
 have hH':∀ b,(H b\/b=w.heap.size)->b < W.heap.size:=fun b e=>by
  rcases e with e | e
  ·have:=hH b e;omega
  ·omega
 have hrW:=hr.below hb
 rw [kmax_rank pp F m hkr]
 have hle:=leastF_le F m
 by_cases h1:leastF F m=1
 ·have hbit:∀ j,∃ t:Bool,j < m->(pp j).v=vecV 1 (sv (pp j).b) 1 vnil vnil vnil vnil vnil/\F j=flagF t/\∃ l:Nat->Bool,l 0=t/\BitsIn w (.agg #[sv (pp j).b,.int .i64 ((1:Nat):Int)]) 1 l:=fun j=>by
   by_cases hj:j < m
   ·obtain ⟨t,h⟩:=single_bit (hs j hj) (by have:=hkr j hj;have:=leastF_rank F hj;have:=rankF_le (F j);omega)
    exact ⟨t,fun _=>h⟩
   ·exact ⟨false,fun h=>absurd h hj⟩
  obtain ⟨L,hL⟩:=Classical.axiomOfChoice hbit
  rw [h1]
  refine (joined_bit (fun b=>H b\/b=w.heap.size) g m c pp L (fun j=>(pp j).b) hm1 W hH' hm hrW (fun j hj W' hb'=>?_) (fun j hj W' hb'=>?_)).mono (VecR.imp fun u W' h=>h.congr fun j hj=>(hL j hj).2.1)
  ·rw [(hL j hj).1]
   exact packed_yes _ _ _ _ _ _ _ _
  ·obtain ⟨_,_,l,e,hbi⟩:=hL j hj
   refine (unpack_any _ 1 l W' (by decide) (hbi.below (bel_both hb hb'))).mono ?_
   rintro e1 w1 ⟨g1,rfl,hrow,hb1⟩
   refine ⟨_,rfl,?_,hb1⟩
   rw [<- e]
   exact Own1.reads hrow
 by_cases h4:leastF F m=4
 ·rw [h4]
  refine (joined_num (fun b=>H b\/b=w.heap.size) g m c pp F W hH' hm hrW htf (fun j hj W' hb'=>?_)).mono (VecR.imp fun u W' h=>by rw [h4] at h;exact h)
  refine (nums_num _ _ _ _ _ _ _ _ 1 _ W' (by decide) fun W2 hb2=>hat j hj W2 (bel_both (bel_both hb hb') hb2)).mono ?_
  rintro e1 w1 ⟨v,rfl,ho,hb1⟩
  exact ⟨v,rfl,ho.reads,hb1⟩
 ·have hint:∀ j,j < m->Good (zOf (F j))/\F j=fi (zOf (F j)):=fun j hj=>by
   obtain ⟨z,hg,e⟩:=(hat j hj w (Below.refl _ _)).ints (by have:=hkr j hj;have:=leastF_rank F hj;omega) 0 (Nat.lt_succ_self 0)
   have e:F j=fi z:=e
   have e2:zOf (F j)=z:=by rw [e];exact zOf_of (wholeP_fi hg)
   rw [e2];exact ⟨hg,e⟩
  refine (joined_int (fun b=>H b\/b=w.heap.size) g m c pp (fun j=>zOf (F j)) (leastF F m:Nat) (by omega) (by omega) W hH' hm hrW (fun j hj=>(hint j hj).1) (fun j hj W' hb'=>?_)).mono (VecR.imp fun u W' h=>?_)
  ·refine (wholesW_any (pp j) 1 (fun i=>[F j].getD i 0) W' (by decide) fun W2 hb2=>hat j hj W2 (bel_both (bel_both hb hb') hb2)).mono ?_
   rintro e1 w1 ⟨a,l,cc,rfl,hrd,hb1⟩
   have hne:(pp j).k≠4:=by have:=hkr j hj;have:=leastF_rank F hj;omega
   obtain ⟨rfl,hrd⟩:=hrd hne
   refine ⟨.slice a 1 cc,by rw [show ((pp j).k != 4)=true by simpa using hne],hrd,hb1⟩
  ·have e1:leastF (fun j=>fi (zOf (F j))) m=leastF F m:=leastF_same m fun j hj=>(hint j hj).2.symm
   rw [e1] at h
   exact h.congr fun j hj=>(hint j hj).2
theorem join_chars (H Hp:Nat->Prop) (g m c:Nat) (C:Nat->Int) (pp:Nat->V8) (w:World) (hH:∀ b,H b->b < w.heap.size) (hm1:1<=m) (hm:m<=1000000) (hr:VRow w g m pp) (hs:∀ j,j < m->∃ y:Sl,pp j=charsP y/\RdH Hp w (sv y) [.int .i32 (C j)]) :
  Calls Tryz.prog 71 #[.slice (some ⟨g,0,none⟩) m c] w (JoinR H w (fun u W=>∃ y:Sl,u=(charsP y).v/\Reads1 W (sv y) ((List.range m).map fun j => .int .i32 (C j)))):=by
 have hlenY:∀ j,j < m->∃ a cc,pp j=charsP (a,1,cc)/\RdH Hp w (.slice a 1 cc) [.int .i32 (C j)]:=fun j hj=>by
  obtain ⟨y,e,h⟩:=hs j hj
  obtain ⟨a,cc,e2⟩:=h.len
  have e3:y=(a,1,cc):=by
   obtain ⟨y1,y2,y3⟩:=y
   simp [sv] at e2
   obtain ⟨rfl,rfl,rfl⟩:=e2
   rfl
  subst e3
  exact ⟨a,cc,e,h⟩
 refine join_singles H _ g m c 1 pp w hm1 hm (by decide) hr (fun j hj=>?_) (fun j hj W hb=>?_) (fun j hj W hb=>?_) ?_
 ·obtain ⟨a,cc,e,_⟩:=hlenY j hj
  rw [e];exact ⟨show (1:Int)<=5 by decide,show (5:Int)<=5 by decide⟩
 ·obtain ⟨a,cc,e,_⟩:=hlenY j hj
  rw [e];exact len_5 _ _ _ _ _ _ _ _ _ _
 ·obtain ⟨a,cc,e,_⟩:=hlenY j hj
  rw [e];exact class_5 _ _ _ _ _ _ _ W
 intro W hb hlt
 have hH':∀ b,(H b\/b=w.heap.size)->b < W.heap.size:=fun b e=>by
  rcases e with e | e
  ·have:=hH b e;omega
  ·omega
 have eK:∀ m,1<=m->(∀ j,j < m->(pp j).k=5)->kmax pp m=5:=fun m=>by
  induction m with
  | zero=>intro h;omega
  | succ m ih =>
   intro _ h
   have h2:=h m (Nat.lt_succ_self _)
   have h3:=kmax_le (pp:=pp) (j:=m) fun i hi=>by rw [h i (by omega)];decide
   show max (kmax pp m) (pp m).k=5
   omega
 rw [eK m hm1 fun j hj=>by obtain ⟨a,cc,e,_⟩:=hlenY j hj;rw [e]]
 refine (joined_chr (fun b=>H b\/b=w.heap.size) g m c pp C W hH' hm (hr.below hb) (fun j hj W' hb'=>?_)).mono ?_
 ·obtain ⟨a,cc,e,hrd⟩:=hlenY j hj
  rw [e]
  refine (text_any _ _ _ _ _ _ (l:=[C j]) (hrd.lat (Lat.below (bel_both hb hb'))).now (show 1<=1000000 by decide)).mono ?_
  rintro e1 w1 ⟨v,rfl,ho,hb1⟩
  exact ⟨v,rfl,ho.reads,hb1⟩
 ·rintro e w' ⟨y,rfl,hrd,hb1⟩
  exact ⟨5,nilS,0,nilS,nilS,nilS,y,nilS,rfl,hrd.imp fun W h=>⟨y,rfl,h⟩,hb1⟩
def AvAt (H:Nat->Prop) (a:PA) (h:Sl) (p:V8) (W:World):Prop:=AV H W a h p
theorem AvAt.step {H:Nat->Prop}{a:PA}{h:Sl}{p:V8}{W W':World} (g:AvAt H a h p W) (hb:Below W.heap.size W W'):AvAt H a h p W':=AV.step g hb
theorem AvAt.dr {H:Nat->Prop}{a:PA}{h:Sl}{p:V8}{W:World} (g:AvAt H a h p W):AvAt H a h p W.drew:=g.step (Below.refl _ W).drew
theorem AvAt.al {H:Nat->Prop}{a:PA}{h:Sl}{p:V8}{W:World} (g:AvAt H a h p W) (o:Obj):AvAt H a h p (W.alloc o):=g.step (bel1 W o)
theorem AvAt.self {H:Nat->Prop}{a:PA}{h:Sl}{p:V8}{W:World} (g:AvAt H a h p W):AvAt H a h p W:=g
def ZB (Z:Nat) (W:World):Prop:=W.heap[Z]?=some zeroO
theorem ZB.new (W:World):ZB W.heap.size (W.alloc zeroO):=heap_alloc_new W _
theorem ZB.dr {Z:Nat}{W:World} (g:ZB Z W):ZB Z W.drew:=g
theorem ZB.step {Z:Nat}{W W':World} (g:ZB Z W) (hb:Below W.heap.size W W'):ZB Z W':=by
 unfold ZB at g ⊢
 rw [hb.block _ (lt_blk g)]
 exact g
theorem rawP_mk (a:PA):∃ items,rawP a= .mk (a.shape.map Int.ofNat) items (a.fill:Nat)/\items.length=a.len:=by
 cases a with
 | nums s l=>exact ⟨_,by rw [rawP];rfl,by simp [PA.len]⟩
 | chars s l=>exact ⟨_,by rw [rawP];rfl,by simp [PA.len]⟩
 | boxes s l=>exact ⟨_,by rw [rawP];rfl,rawBs_len l⟩
theorem clSh_now (H:Nat->Prop){w:World}{h:Sl}{s:List Nat} (g:Reads1 w (sv h) (s.map fun n:Nat => .int .i64 (n:Int))) (hl:s.length<=1048576) (hH:∀ b,H b->b < w.heap.size) :
  Calls Tryz.prog 69 #[sv h] w fun e w'=>∃ A n c,e= .returned (.slice A n c)/\ShV H w' (A,n,c) s/\Below w.heap.size w w':=by
 refine (clI_any g (by rw [List.length_map];omega) (by intro u hu;obtain ⟨z,_,rfl⟩:=List.mem_map.1 hu;rfl)).mono ?_
 rintro e w' ⟨v',rfl,ho,hb⟩
 obtain ⟨a,c,rfl⟩:=ho.reads.len
 exact ⟨a,_,c,rfl,ho.keepsH hH,hb⟩
structure LdV (w0:World) (V G:Nat) (u:V8) (W:World):Prop where
 one:BoxP W V u
 res:W.heap[G]?=some zeroO
 bel:Below w0.heap.size w0 W
theorem LdV.step {w0 W W':World}{V G:Nat}{u:V8} (h:LdV w0 V G u W) (hb:Below W.heap.size W W'):LdV w0 V G u W':=⟨h.one.below hb,by rw [hb.block _ (lt_blk h.res)];exact h.res,bel_both h.bel hb⟩
theorem LdV.dr {w0 W:World}{V G:Nat}{u:V8} (h:LdV w0 V G u W):LdV w0 V G u W.drew:=h.step (Below.refl _ W).drew
theorem LdV.self {w0 W:World}{V G:Nat}{u:V8} (h:LdV w0 V G u W):LdV w0 V G u W:=h
def BV (V:Nat) (u:V8) (W:World):Prop:=BoxP W V u
theorem BV.dr {W:World}{V:Nat}{u:V8} (h:BV V u W):BV V u W.drew:=Boxed.below h (Below.refl _ W).drew
theorem BV.put {W:World}{V:Nat}{u:V8} (h:BV V u W){g j:Nat} (hg:g≠V) (x:Value):BV V u (W.setCell ⟨g,j,none⟩ x):=Boxed.set h hg x
theorem bv_s {W:World}{V:Nat}{u:V8} (h:BV V u W):(W.cell? ⟨V,0,none⟩=some (.int .i64 u.k)/\W.cell? ⟨V,1,none⟩=some (.slice u.b.1 u.b.2.1 u.b.2.2)/\W.cell? ⟨V,2,none⟩=some (.int .i64 u.bn)/\W.cell? ⟨V,3,none⟩=some (.slice u.s.1 u.s.2.1 u.s.2.2)/\W.cell? ⟨V,4,none⟩=some (.slice u.i.1 u.i.2.1 u.i.2.2)/\W.cell? ⟨V,5,none⟩=some (.slice u.f.1 u.f.2.1 u.f.2.2)/\W.cell? ⟨V,6,none⟩=some (.slice u.c.1 u.c.2.1 u.c.2.2)/\W.cell? ⟨V,7,none⟩=some (.slice u.x.1 u.x.2.1 u.x.2.2))/\BV V u W:=⟨h,h⟩
structure LatW (w:World) where
 W:World
 h:Below w.heap.size w W
instance latW_some (w:World):Nonempty (LatW w):=⟨⟨w,Below.refl _ _⟩⟩
theorem LatW.cell {w:World}{g:Nat} (hg:g < w.heap.size):∀ (n:LatW w) (o:Nat),n.W.cell? ⟨g,o,none⟩=w.cell? ⟨g,o,none⟩:=fun n _=>n.h.cell (p:=⟨g,_,none⟩) hg
theorem region_calm {P:Program}{id:Nat}{Q:Exit->Act->World->Prop}{a:Act}{w:World}{l:List Oper} (hm:P.follows .mixedOrders=true) (hB:Region.lexB .any l.toArray=true)
  (h:wpQuiet P l.toArray (fun w'=>∃ n:LatW w,w'=n.W) (fun a'=>∀ w',(∃ n:LatW w,w'=n.W)->Q .normal a' w') l a):(Code.region id l.toArray true).wp P Q a w :=
 wp_region_quiet (C:=fun w'=>∃ n:LatW w,w'=n.W) hm hB ⟨⟨w.drew,(Below.refl _ w).drew⟩,rfl⟩ (by simpa using h)
theorem calm_of {P:Program}{f:FuncId}{args:Array Value}{w:World}{n:LatW w}{v:Value}
  (h:Calls P f args n.W fun e w'=>e= .returned v/\Below n.W.heap.size n.W w'):Calls P f args n.W fun e w''=>e= .returned v/\∃ m:LatW w,w''=m.W :=
 h.mono fun _ _ ⟨he,hb⟩=>⟨he,⟨_,bel_both n.h hb⟩,rfl⟩
def gok (d cl:Nat->Nat):Nat->Bool
 | 0=>true
 | j+1=>gok d cl j&&(d j==0)&&(cl j != 2)&&(cl j==cl 0)
theorem same_nat (a b:Nat):((a:Int)==(b:Int))=(a==b):=by
 by_cases h:a=b
 ·subst h;simp
 ·have h2:¬ (a:Int)=(b:Int):=by omega
  rw [beq_eq_false_iff_ne.2 h,beq_eq_false_iff_ne.2 h2]
theorem bel_drewN {B:Nat}{a w:World} (h:Below B a w) (k:Nat):Below B a (w.drewN k):=⟨h.os,h.tape,h.output,h.size,h.block⟩
theorem VRow.congr {w:World}{g m:Nat}{pp pp':Nat->V8} (h:VRow w g m pp) (e:∀ j,j < m->pp' j=pp j):VRow w g m pp':=by
 obtain ⟨cs,hg,hs,h1⟩:=h
 exact ⟨cs,hg,hs,fun j hj=>by rw [e j hj];exact h1 j hj⟩
theorem JoinR.v8 {H:Nat->Prop}{w:World}{R:Value->World->Prop}{e:Ending}{w':World} (h:JoinR H w R e w'):∃ u:V8,e= .returned (.tuple #[u.v,.bool true])/\Keeps H w' (R u.v)/\Below w.heap.size w w':=by
 obtain ⟨k,b,bn,s,i,f,c,x,h1,h2,h3⟩:=h
 exact ⟨⟨k,b,bn,s,i,f,c,x⟩,h1,h2,h3⟩
def GatR (H:Nat->Prop) (w:World) (sh:List Nat) (l:List PA) (Φ:Value->World->Prop) (t:Bool) (e:Ending) (w':World):Prop :=
 ∃ h p,e= .returned (arrV h p)/\ShV H w' h sh/\((t=true/\Keeps H w' (Φ p.v))\/(t=false/\∃ x,p=boxesP x/\ASl H w' x l))/\Below w.heap.size w w'
theorem egather_walk (H:Nat->Prop) (sh:List Nat) (s:Sl) (A:Option Addr) (b o m c:Nat) (hh:Nat->Sl) (pp:Nat->V8) (d cl:Nat->Nat) (l:List PA) (Φ:Value->World->Prop) (w:World) (hH:∀ b,H b->b < w.heap.size) (hm:m<=1000000) (hA:0 < m->A=some ⟨b,o,none⟩)
  (hat:∀ j,j < m->∀ W,Below w.heap.size w W->At9 W b (o+j*9) (hh j) (pp j))
  (hd:∀ j,j < m->(hh j).2.1=d j) (hcl:∀ j,j < m->∀ W,Below w.heap.size w W->Calls Tryz.prog 66 #[(pp j).v] W fun e w'=>e= .returned (.int .i64 (cl j:Nat))/\Below W.heap.size W w')
  (hdl:∀ j,d j<=1048576) (hsh:ShV H w s sh) (hsl:sh.length<=1048576)
  (hbox:gok d cl m=false->∀ K W,(∀ b,b < w.heap.size->K b->H b)->(∀ b,K b->b < W.heap.size)->Below w.heap.size w W->Calls Tryz.prog 70 #[.slice A m c] W (BxR K W l))
  (hjn:gok d cl m=true->∀ K W g,(∀ b,K b->b < W.heap.size)->Below w.heap.size w W->VRow W g m pp->Calls Tryz.prog 71 #[.slice (some ⟨g,0,none⟩) m m] W (JoinR K W Φ)) :
  Calls Tryz.prog 23 #[sv s,.slice A m c] w (GatR H w sh l Φ (gok d cl m)):=by
 have HH:=Lib.hid hH
 have HBX:=Lib.hid hbox
 have HJN:=Lib.hid hjn
 have HSH:=Lib.hid hsh
 have HSL:=Lib.hid hsl
 unfold BxR at HBX
 clear hbox hjn hsh hsl hH
 have hmk:=fun W=>run_make_vecs m hm W
 have HAT:=Lib.hid hat
 have HD:=Lib.hid hd
 have HCL:=Lib.hid hcl
 have HDL:=Lib.hid hdl
 clear hat hd hcl hdl
 have HB0:=Lib.hid (bel1 w zeroO)
 have HK0:=Lib.hid (heap_alloc_new w zeroO)
 go_enter Tryz.func23,Tryz.ntmps23
 go_wp2_with fail
 go_loopw [5,15] (fun tt jj wr=>∃ j:Nat,j<=m/\jj= .int .i64 j/\tt= .bool (gok d cl j)/\Below w.heap.size w wr/\wr.heap[w.heap.size]?=some zeroO) (fun _ jj _=>m - (intOf jj).toNat)
 case atStart=>exact ⟨0,Nat.zero_le _,rfl,rfl,HB0.out,HK0.out⟩
 case round =>
  clear HB0 HK0
  obtain ⟨j,hj,rfl,rfl,hbl,hk⟩:=hrel
  have HBL:=Lib.hid hbl
  have HK:=Lib.hid hk
  clear hbl hk
  by_cases hlt:j < m
  ·obtain rfl:=hA (by omega)
   have HA:=Lib.hid (HAT.out j hlt wr HBL.out)
   have HF:=Lib.hid (HAT.out 0 (by omega) wr HBL.out)
   have HDJ:=Lib.hid (HD.out j hlt)
   have HDB:=Lib.hid (HDL.out j)
   have HCJ:=Lib.hid (fun W hb=>HCL.out j hlt W hb)
   have HC0:=Lib.hid (fun W hb=>HCL.out 0 (by omega) W hb)
   have HGO:Hid (gok d cl (j+1)=(gok d cl j&&(d j==0)&&(cl j != 2)&&(cl j==cl 0))):=rfl
   have HBN:=Lib.hid (at9_new wr (hh j) (pp j))
   have HBL1:=Lib.hid (bel_both HBL.out (bel1 wr (arrO (hh j) (pp j))))
   have HK1:Hid ((wr.alloc (arrO (hh j) (pp j))).heap[w.heap.size]?=some zeroO):=by
    rw [Hid,(bel1 wr _).block _ (lt_of_block HK.out)];exact HK.out
   obtain ⟨g,hg⟩:∃ g,g=gok d cl (j+1):=⟨_,rfl⟩
   have HG:=Lib.hid hg
   rw [HGO.out] at hg
   generalize gok d cl j=t at *
   generalize hh j=hj9 at *
   generalize pp j=pj at *
   generalize d j=dj at *
   generalize cl j=cj at *
   generalize cl 0=c0' at *
   obtain ⟨a0,a1,a2,a3,a4,a5,a6,a7,a8⟩:=HA.out
   obtain ⟨n0,n1,n2,n3,n4,n5,n6,n7,n8⟩:=HBN.out.c
   have hsz:=HBL.out.size
   cases t with
   | false =>
    have hg2:g=false:=by rw [hg];rfl
    go_wp2_with fail
    go_quiet (fail)
    go_wp2
    go_roundw
    case rel=>exact ⟨j+1,by omega,by go_num,by rw [<- HG.out,hg2],bel_drewN HBL1.out _,HK1.out⟩
    case measure=>simp [intOf];omega
   | true =>
    obtain ⟨sA,sn,sc⟩:=hj9
    obtain rfl:sn=dj:=HDJ.out
    by_cases hd0:sn=0
    ·subst hd0
     have hd1:(((0:Nat):Int)==0)=true:=rfl
     obtain ⟨w6,hw6⟩:∃ w6,w6=wr.alloc (arrO (sA,0,sc) pj):=⟨_,rfl⟩
     have HW6:=Lib.hid hw6
     rw [<- hw6] at n0 n1 n2 n3 n4 n5 n6 n7 n8
     rw [<- hw6] at HBL1 HK1
     have hLC:=LatW.cell (w:=w6) (g:=wr.heap.size) (by rw [hw6];simp)
     clear hw6
     by_cases hc2:cj=2
     ·subst hc2
      have hg2:g=false:=by rw [hg];rfl
      go_wp2_with fail
      rw [<- HW6.out]
      refine region_calm (by kernel_rfl) (by kernel_rfl) ?_
      repeat (go_big_quiet_step ((go_at_call 66;refine calm_of (HCJ.out _ (bel_both HBL1.out (LatW.h _))))))
      refine wpQuiet_nil ?_
      intro _ hw'
      obtain ⟨nq,hw''⟩:=hw'
      subst hw''
      go_wp2
      go_roundw
      case rel=>exact ⟨j+1,by omega,by go_num,by rw [<- HG.out,hg2],bel_both HBL1.out nq.h,(nq.h.block _ (lt_of_block HK1.out)).trans HK1.out⟩
      case measure=>simp [intOf];omega
     ·have hc3:((cj:Int) != 2)=true:=by simp;omega
      have HG3:Hid (g=((cj:Int)==(c0':Int))):=by
       rw [Hid,hg,show (cj != 2)=true by simpa using hc2,same_nat];rfl
      clear hg
      have HF6:=Lib.hid (HF.out)
      rw [Nat.zero_mul,Nat.add_zero] at HF6
      have hbw:=HF6.out.lt
      have hF6:At9 w6 b o (hh 0) (pp 0):=by rw [HW6.out];exact HF6.out.below (bel1 wr _)
      have hLCb:=LatW.cell (w:=w6) (g:=b) hF6.lt
      generalize hh 0=h0' at *
      generalize pp 0=p0' at *
      obtain ⟨f0,f1,f2,f3,f4,f5,f6,f7,f8⟩:=hF6
      go_wp2_with fail
      rw [<- HW6.out]
      refine region_calm (by kernel_rfl) (by kernel_rfl) ?_
      repeat (go_big_quiet_step ((first | (go_at_call_of 66 (Value.int IntKind.i64 pj.k);refine calm_of (HCJ.out _ (bel_both HBL1.out (LatW.h _)))) | (go_at_call 66;refine calm_of (HC0.out _ (bel_both HBL1.out (LatW.h _)))))))
      refine wpQuiet_nil ?_
      intro _ hw'
      obtain ⟨nq,hw''⟩:=hw'
      subst hw''
      go_wp2
      go_roundw
      case rel=>exact ⟨j+1,by omega,by go_num,by rw [<- HG.out,HG3.out],bel_both HBL1.out nq.h,(nq.h.block _ (lt_of_block HK1.out)).trans HK1.out⟩
      case measure=>simp [intOf];omega
    ·have hg2:g=false:=by rw [hg];simp [hd0]
     have hd1:((sn:Int)==0)=false:=by simp;omega
     go_wp2_with fail
     go_quiet (fail)
     go_wp2
     go_roundw
     case rel=>exact ⟨j+1,by omega,by go_num,by rw [<- HG.out,hg2],bel_drewN HBL1.out _,HK1.out⟩
     case measure=>simp [intOf];omega
  ·obtain rfl:j=m:=by omega
   have HKK:Hid (∀ W:World,wr.heap.size<=W.heap.size->∀ x:Nat,(H x\/x=w.heap.size)->x < W.heap.size):=fun W hW x e=>by
    have h1:=lt_of_block HK.out
    have h2:=HBL.out.size
    rcases e with e | e
    ·have:=HH.out x e;omega
    ·omega
   have HKH:Hid (∀ x:Nat,x < w.heap.size->(H x\/x=w.heap.size)->H x):=fun x hx e=>by
    rcases e with e | e
    ·exact e
    ·omega
   have hcase:gok d cl j=false\/gok d cl j=true:=by cases gok d cl j <;> simp
   rcases hcase with ht | ht
   ·have HT:=Lib.hid ht
    rw [ht]
    have HCL2:=Lib.hid (fun W (hb:Below wr.heap.size wr W)=>clSh_now (fun x=>H x\/x=w.heap.size) (w:=W) (h:=s) (s:=sh) ((HSH.out.lat (Lat.below (bel_both HBL.out hb))).now) HSL.out (HKK.out W hb.size))
    have HBX2:=Lib.hid (fun W (hb:Below wr.heap.size wr W)=>HBX.out HT.out _ W HKH.out (HKK.out W hb.size) (bel_both HBL.out hb))
    clear HBX HJN HAT HD HCL HDL HSH ht hmk
    go_wp2_with fail
    refine (HCL2.out _ (Below.refl _ _)).mono ?_
    rintro e w2 ⟨A7,n7,c7,rfl,hsh7,hb7⟩
    have HS7:=Lib.hid hsh7
    have HB7:=Lib.hid hb7
    clear hsh7 hb7
    go_wp2_with fail
    refine (HBX2.out _ HB7.out).mono ?_
    rintro e w3 ⟨x,rfl,hx,hb3⟩
    have HX:=Lib.hid hx
    have HS3:=Lib.hid (HS7.out.lat (Lat.below hb3))
    have HB3:=Lib.hid (bel_both HBL.out (bel_both HB7.out hb3))
    have HK3:=Lib.hid (((bel_both HB7.out hb3).block _ (lt_of_block HK.out)).trans HK.out)
    clear hx hb3
    obtain ⟨⟨y0,y1,y2,y3,y4,y5,y6,y7,y8⟩,yz⟩:=zero_block HK3.out
    go_wp2
    refine bodyPost_ret (v:=arrV (A7,n7,c7) (boxesP x)) ?_ rfl ⟨(A7,n7,c7),boxesP x,rfl,?_,.inr ⟨HT.out,x,rfl,?_⟩,below_set9 HB3.out (Nat.le_refl _) _ _ _ _ _ _ _ _ _⟩
    ·exact ret_arr (fn:=Tryz.f23) (p:=4) rfl _ _ w.heap.size (by rfl) (set9_block HK3.out _ _ _ _ _ _ _ _ _)
    ·exact (HS3.out.lat (Lat.set9 (G:=w.heap.size) (.inr rfl) _ _ _ _ _ _ _ _ _)).sub fun x _ e => .inl e
    ·exact (HX.out.lat (Lat.set9 (G:=w.heap.size) (.inr rfl) _ _ _ _ _ _ _ _ _)).sub fun x _ e => .inl e
   ·have HT:=Lib.hid ht
    rw [ht]
    obtain ⟨wa,hwa⟩:∃ wa,wa=wr:=⟨_,rfl⟩
    subst hwa
    have HCL2:=Lib.hid (fun W (hb:Below wa.heap.size wa W)=>clSh_now (fun x=>H x\/x=w.heap.size) (w:=W) (h:=s) (s:=sh) ((HSH.out.lat (Lat.below (bel_both HBL.out hb))).now) HSL.out (HKK.out W hb.size))
    have HJN2:=Lib.hid (fun W g (hb:Below wa.heap.size wa W) (hr:VRow W g j pp)=>HJN.out HT.out _ W g (HKK.out W hb.size) (bel_both HBL.out hb) hr)
    have HAT2:=Lib.hid (fun i (hi:i < j) W (hb:Below wa.heap.size wa W)=>HAT.out i hi W (bel_both HBL.out hb))
    have HR0:Hid (VRow (wa.alloc (.cells (madeCells zcells (j*8)) 38)) wa.heap.size j (fun k=>if k < 0 then pp k else zeroP)) :=
     (VRow.made wa j).congr fun k _=>by rw [if_neg (Nat.not_lt_zero _)]
    have HB0:=Lib.hid (bel1 wa (.cells (madeCells zcells (j*8)) 38))
    clear HBX HJN HAT HD HCL HDL HSH ht
    go_wp2_with fail
    go_loopw [56] (fun ii wr=>∃ i:Nat,i<=j/\ii= .int .i64 i/\VRow wr wa.heap.size j (fun k=>if k < i then pp k else zeroP)/\Below wa.heap.size wa wr) (fun ii _=>j - (intOf ii).toNat)
    case atStart=>exact ⟨0,Nat.zero_le _,rfl,HR0.out,HB0.out⟩
    case round =>
     clear HR0 HB0
     obtain ⟨i,hi,rfl,hrow,hbq⟩:=hrel
     have HRW:=Lib.hid hrow
     have HBQ:=Lib.hid hbq
     clear hrow hbq
     by_cases hlt:i < j
     ·obtain rfl:=hA (by omega)
      have HA:=Lib.hid (HAT2.out i hlt wr HBQ.out)
      have HR1:=Lib.hid (HRW.out.below (bel1 wr (arrO (hh i) (pp i))))
      obtain ⟨⟨r0,r1,r2,r3,r4,r5,r6,r7⟩,rz⟩:=HR1.out.at_ i hlt
      have HPUT:=Lib.hid ((HR1.out.put hlt (pp i)).congr (pp':=fun k=>if k < i+1 then pp k else zeroP) fun k hk=>by
       by_cases e:k=i
       ·rw [if_pos e,if_pos (by omega),e]
       ·rw [if_neg e]
        by_cases e2:k < i
        ·rw [if_pos e2,if_pos (by omega)]
        ·rw [if_neg e2,if_neg (by omega)])
      have HBN:=Lib.hid (at9_new wr (hh i) (pp i))
      have HBX:=Lib.hid (below_set8o (HBQ.out.trans ((bel1 wr (arrO (hh i) (pp i))).mono HBQ.out.size)) (Nat.le_refl _) (i*8) (.int .i64 (pp i).k) (sv (pp i).b) (.int .i64 (pp i).bn) (sv (pp i).s) (sv (pp i).i) (sv (pp i).f) (sv (pp i).c) (sv (pp i).x))
      generalize hh i=hi9 at *
      generalize pp i=pi at *
      obtain ⟨a0,a1,a2,a3,a4,a5,a6,a7,a8⟩:=HA.out
      obtain ⟨n0,n1,n2,n3,n4,n5,n6,n7,n8⟩:=HBN.out.c
      go_wp2
      go_roundw
      case rel=>exact ⟨i+1,by omega,by go_num,HPUT.out,HBX.out⟩
      case measure=>simp [intOf];omega
     ·obtain rfl:i=j:=by omega
      have HRJ:Hid (VRow wr wa.heap.size i pp):=HRW.out.congr fun k hk=>by rw [if_pos hk]
      have HJ3:=Lib.hid (HJN2.out wr wa.heap.size HBQ.out HRJ.out)
      clear HAT2 HJN2
      go_wp2_with fail
      refine HJ3.out.mono ?_
      intro e w2 hjr
      obtain ⟨u,rfl,hk5,hb6⟩:=hjr.v8
      obtain ⟨w6,hw6⟩:∃ w6,w6=w2.alloc u.o:=⟨_,rfl⟩
      have HW6:=Lib.hid hw6
      have HB6:Hid (Below wa.heap.size wa w6):=by rw [hw6];exact bel_both HBQ.out (bel_both hb6 (bel1 w2 _))
      have HK6:=Lib.hid ((HB6.out.block _ (lt_of_block HK.out)).trans HK.out)
      have HKV:Hid (Keeps (fun x=>H x\/x=w.heap.size) w6 (Φ u.v)):=by rw [hw6];exact hk5.step (bel1 w2 _)
      have hv:BoxP (w2.alloc u.o) w2.heap.size u:=boxP_new w2 u
      rw [<- hw6] at hv
      have HLD:Hid (LdV w6 w2.heap.size w.heap.size u w6):=⟨hv,HK6.out,Below.refl _ _⟩
      have HCL3:=Lib.hid (fun W (hs:LdV w6 w2.heap.size w.heap.size u W)=>HCL2.out W (bel_both HB6.out hs.bel))
      have HGV:Hid (w.heap.size≠w2.heap.size):=by
       have h1:=lt_of_block HK.out
       have h2:=HBQ.out.size
       have h3:=hb6.size
       unfold Hid
       omega
      clear hk5 hb6 hw6 hv HJ3 HCL2
      go_wp2_with fail
      rw [<- HW6.out]
      have hs0:=HLD.out.dr
      have hs00:=HLD.out
      have hv0:BV w2.heap.size u w6.drew:=hs0.one
      have hv00:BV w2.heap.size u w6:=hs00.one
      have hGV:w.heap.size≠w2.heap.size:=HGV.out
      go_region_held3 (fun W=>(W.cell? ⟨w2.heap.size,0,none⟩=some (.int .i64 u.k)/\W.cell? ⟨w2.heap.size,1,none⟩=some (.slice u.b.1 u.b.2.1 u.b.2.2)/\W.cell? ⟨w2.heap.size,2,none⟩=some (.int .i64 u.bn)/\W.cell? ⟨w2.heap.size,3,none⟩=some (.slice u.s.1 u.s.2.1 u.s.2.2)/\W.cell? ⟨w2.heap.size,4,none⟩=some (.slice u.i.1 u.i.2.1 u.i.2.2)/\W.cell? ⟨w2.heap.size,5,none⟩=some (.slice u.f.1 u.f.2.1 u.f.2.2)/\W.cell? ⟨w2.heap.size,6,none⟩=some (.slice u.c.1 u.c.2.1 u.c.2.2)/\W.cell? ⟨w2.heap.size,7,none⟩=some (.slice u.x.1 u.x.2.1 u.x.2.2))/\BV w2.heap.size u W)
       (first | (with_reducible assumption) | (with_reducible (refine bv_s ?_);repeat (first | (with_reducible assumption) | (with_reducible refine BV.dr ?_) | (with_reducible refine BV.put ?_ (by first | assumption | omega) _))))
       (first
        | (go_at_call 69;(with_reducible refine (HCL3.out _ ?_).mono ?_);exact LdV.self (by repeat (first | (with_reducible assumption) | (with_reducible refine LdV.dr ?_)));rintro e w7 ⟨A7,n7,c7,rfl,hsh7,hb7⟩;have hst7:LdV w6 w2.heap.size w.heap.size u w7:=LdV.step (by repeat (first | (with_reducible assumption) | (with_reducible refine LdV.dr ?_))) hb7;have hbv7:BV w2.heap.size u w7:=hst7.one;have HST7:=Lib.hid hst7;have HSH7:=Lib.hid hsh7;obtain ⟨⟨y0,y1,y2,y3,y4,y5,y6,y7,y8⟩,yz⟩:=zero_block hst7.res;clear hb7 hsh7))
      all_goals
       go_wp2
       refine bodyPost_ret (v:=arrV (A7,n7,c7) u) ?_ rfl ⟨(A7,n7,c7),u,rfl,?_,.inl ⟨HT.out,?_⟩,below_set9 (bel_both HBL.out (bel_both HB6.out (HST7.out.bel))) (Nat.le_refl _) _ _ _ _ _ _ _ _ _⟩
       ·exact ret_arr (fn:=Tryz.f23) (p:=4) rfl _ _ w.heap.size (by rfl) (set9_block HST7.out.res _ _ _ _ _ _ _ _ _)
       ·exact (HSH7.out.lat (Lat.set9 (G:=w.heap.size) (.inr rfl) _ _ _ _ _ _ _ _ _)).sub fun x _ e => .inl e
       ·exact ((HKV.out.lat (Lat.below HST7.out.bel)).lat (Lat.set9 (G:=w.heap.size) (.inr rfl) _ _ _ _ _ _ _ _ _)).sub fun x _ e => .inl e
end Go.Proofs.YtakgmnafbjdccaaGreatDoor
