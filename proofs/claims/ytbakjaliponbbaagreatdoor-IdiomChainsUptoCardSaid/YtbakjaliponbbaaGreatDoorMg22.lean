/- The walks of the reference's Find, Firsts, Pick, List. Plain arrays of tidy numbers, small sums: plain law. The walks of flat.Pick and flat.Cut at characters. .. Conditions: as each theorem says. -/
import Derived.Test.YtbakjaliponbbaaGreatDoorMg15
import Derived.Test.YtbakjaliponbbaaGreatDoorMg18
import Derived.Test.YtbakjaliponbbaaGreatDoorMg21
import Derived.Test.YtbakjaliponbbaaGreatDoorMg11
import Derived.Test.YtbakjaliponbbaaGreatDoorMg16
import Derived.Test.YtbakjaliponbbaaGreatDoorMg06
import Derived.Test.YtbakjaliponbbaaGreatDoorMg04
import Derived.Test.YtbakjaliponbbaaGreatDoorMg02
import Derived.Test.YtbakjaliponbbaaGreatDoorMg07
import Derived.Test.YtbakjaliponbbaaGreatDoorMg05
import Derived.Test.YtbakjaliponbbaaGreatDoorMg12
import Derived.Test.YtbakjaliponbbaaGreatDoorMg13
import Derived.Deep.CutBlock
set_option maxRecDepth 100000
set_option maxHeartbeats 2000000
namespace Go.Proofs.YtbakjaliponbbaaGreatDoor
open Go Go.RowKit Go.Proofs Fl
abbrev ItsR (H:Nat->Prop) (w:World) (x:Sl) (l:List RI):Prop:=PV H w (.mk [] l 0) nilS x 0
theorem PV.its {H:Nat->Prop}{w:World}{s:List Int}{l:List RI}{fill:Int}{h x:Sl}{f:Int} (g:PV H w (.mk s l fill) h x f):ItsR H w x l:=by
 rw [PV] at g
 unfold ItsR
 rw [PV]
 exact ⟨fun _ _ _ => .inl ⟨none,0,rfl,rfl⟩,rfl,g.2.2.1,g.2.2.2⟩
theorem ItsR.pv {H:Nat->Prop}{w:World}{s:List Int}{l:List RI}{h x:Sl} (g:ItsR H w x l) (hs:RdH H w (sv h) (s.map (Value.int .i64))) (fill:Int):PV H w (.mk s l fill) h x fill:=by
 unfold ItsR at g
 rw [PV] at g ⊢
 exact ⟨hs,rfl,g.2.2.1,g.2.2.2⟩
def FndI (l:List RI) (u:RI) (z:Nat):Prop:=z<=l.length/\(∀ j,j < z->l[j]?≠some u)/\(z < l.length->l[z]?=some u)
structure B4 (w:World) (k:Int) (n:Nat) (c:Int) (x:Sl) (W:World):Prop where
 one:At4 W w.heap.size 0 k n c x
 bel:Below w.heap.size w W
theorem B4.new (w:World) (k:Int) (n:Nat) (c:Int) (x:Sl):B4 w k n c x (w.alloc (itO k n c x)):=⟨at4_box w k n c x,bel1 w _⟩
theorem B4.step {w W W':World}{k:Int}{n:Nat}{c:Int}{x:Sl} (g:B4 w k n c x W) (hb:Below W.heap.size W W'):B4 w k n c x W' :=
 ⟨g.one.of fun j=>hb.cell (p:=⟨w.heap.size,j,none⟩) g.one.lt,bel_both g.bel hb⟩
theorem rfind_any {H H2:Nat->Prop}{w:World}{l:List RI}{x:Sl} (g:ItsR H w x l) (u:RI) (k:Int) (n:Nat) (c:Int) (y:Sl) (hu:IV H2 w u k n c y) (hl:l.length<=1048576) (hI:∀ i (hi:i < l.length),ItmB l[i] u) (W:World) (hb:Below w.heap.size w W) :
  Calls Tryz.prog 245 #[sv x,itV k n c y] W (fun e w'=>∃ z:Nat,e= .returned (.int .i64 (z:Int))/\FndI l u z/\Below W.heap.size W w'):=by
 obtain ⟨-,-,hx,hit⟩:=g.open_
 obtain ⟨A,m,cc⟩:=x
 dsimp only at hx hit
 have hmb:m<=1048576:=by omega
 have HM:=Lib.hid hx
 have HIT:=Lib.hid hit
 have HI:=Lib.hid hI
 unfold ItmB at HI
 have HU:=Lib.hid hu
 have HB:=Lib.hid hb
 have HT0:=Lib.hid (B4.new W k n c y)
 clear g hx hit hI hu hl hb
 dsimp only [sv]
 go_enter Tryz.func245,Tryz.ntmps245
 go_wp2
 go_loopw [5] (fun iv wr=>∃ i:Nat,i<=m/\iv= .int .i64 (i:Int)/\(∀ j,j < i->l[j]?≠some u)/\B4 W k n c y wr) (fun iv _=>m - (intOf iv).toNat)
 case atStart=>exact ⟨0,Nat.zero_le _,rfl,fun j hj=>absurd hj (Nat.not_lt_zero _),HT0.out⟩
 case round =>
  obtain ⟨i,hi,rfl,hj,ht⟩:=hrel
  have HJ:=Lib.hid hj
  have HTR:=Lib.hid ht
  clear hj ht
  obtain ⟨b0,b1,b2,b3⟩:=at4_c HTR.out.one
  by_cases hlt:i < m
  ·have h1:i < l.length:=by have:=HM.out;omega
   obtain ⟨b,o,p0,p1,p2,p3,rfl,-,hpv,hce⟩:=HIT.out i h1
   obtain ⟨c0,c1,c2,c3⟩:=hce _ (Lat.below (bel_both HB.out HTR.out.bel))
   dsimp only [sv] at c0 c1 c2 c3
   have HIC:=Lib.hid (HI.out i h1 _ _ p0 p1 p2 p3 k n c y _ (hpv.step (bel_both (bel_both HB.out HTR.out.bel) (below_drewN (Below.refl wr.heap.size wr) 1))) (HU.out.step (bel_both (bel_both HB.out HTR.out.bel) (below_drewN (Below.refl wr.heap.size wr) 1))))
   have HS:Hid (l[i]?=some l[i]):=List.getElem?_eq_getElem h1
   have hlt2:(i:Int) < (m:Int):=by omega
   have HTS:=Lib.hid (HTR.out.step (below_drewN (Below.refl wr.heap.size wr) 1))
   clear hce hpv
   generalize l[i]=t at HIC HS
   go_wp2
   go_still_tail 5,(by kernel_rfl)
   change wpList _ _ _ _ _ (wr.drewN 1)
   clear b0 b1 b2 b3 c0 c1 c2 c3
   generalize wr.drewN 1=wd at *
   go_wp2_with fail
   refine HIC.out.mono ?_
   rintro e w2 ⟨rfl,hb2⟩
   have HT2:=Lib.hid (HTS.out.step hb2)
   clear hb2
   by_cases hxy:t=u
   ·rw [eqI_iff.2 hxy]
    go_wp2
    go_ret
    exact ⟨i,rfl,⟨by have:=HM.out;omega,HJ.out,fun _=>by rw [HS.out,hxy]⟩,HT2.out.bel⟩
   ·rw [eqI_no.2 hxy]
    go_wp2
    go_roundw
    case rel =>
     refine ⟨i+1,by omega,by go_num,fun j hj=>?_,HT2.out⟩
     by_cases e:j=i
     ·rw [e,HS.out];exact fun h=>hxy (Option.some.inj h)
     ·exact HJ.out j (by omega)
    case measure=>simp [intOf];omega
  ·have hlt2:¬ (i:Int) < (m:Int):=by omega
   go_wp2
   go_ret
   exact ⟨m,rfl,⟨by have:=HM.out;omega,fun j hj=>HJ.out j (by omega),fun h=>absurd h (by have:=HM.out;omega)⟩,HTR.out.bel⟩
def fstP (l:List RI) (i:Nat):Prop:=∀ j,j < i->l[j]?≠l[i]?
noncomputable def fstK (l:List RI) (k:Nat):List Nat:=(List.range k).filter fun i=>@decide (fstP l i) (Classical.propDecidable _)
theorem fstK_yes {l:List RI}{k:Nat} (h:fstP l k):fstK l (k+1)=fstK l k++[k]:=by
 unfold fstK
 rw [List.range_succ,List.filter_append]
 simp [h]
theorem fstK_no {l:List RI}{k:Nat} (h:¬ fstP l k):fstK l (k+1)=fstK l k:=by
 unfold fstK
 rw [List.range_succ,List.filter_append]
 simp [h]
theorem fstK_le (l:List RI) (k:Nat):(fstK l k).length<=k:=by
 unfold fstK
 have:=List.length_filter_le (fun i=>@decide (fstP l i) (Classical.propDecidable _)) (List.range k)
 rw [List.length_range] at this
 exact this
theorem fstK_lt {l:List RI}{k i:Nat} (h:i∈fstK l k):i < k:=by
 unfold fstK at h
 exact List.mem_range.1 (List.mem_filter.1 h).1
theorem fndI_fst {l:List RI}{i z:Nat} (hi:i < l.length) (h:FndI l l[i] z):(z=i/\fstP l i)\/(z≠i/\¬ fstP l i):=by
 obtain ⟨h1,h2,h3⟩:=h
 have hs:l[i]?=some l[i]:=List.getElem?_eq_getElem hi
 have hz:z<=i:=by
  rcases Nat.lt_or_ge i z with h | h
  ·exact absurd hs (h2 i h)
  ·exact h
 by_cases e:z=i
 ·exact .inl ⟨e,fun j hj=>by rw [hs];exact h2 j (by omega)⟩
 ·exact .inr ⟨e,fun h=>h z (by omega) (by rw [hs];exact h3 (by omega))⟩
def FkR (l:List RI) (w:World) (e:Ending) (w':World):Prop:=∃ A n c,e= .returned (.slice A n c)/\Own1 w' w.heap.size 3 (.slice A n c) ((fstK l l.length).map fun i:Nat => .int .i64 (i:Int))/\Below w.heap.size w w'
theorem rfirsts_any {H:Nat->Prop}{w:World}{l:List RI}{x:Sl} (g:ItsR H w x l) (hl:l.length<=1048576) (hI:∀ i k (hi:i < l.length) (hk:k < l.length),ItmB l[i] l[k]) (W:World) (hb:Below w.heap.size w W) :
  Calls Tryz.prog 218 #[sv x] W (FkR l W):=by
 have HFN:=Lib.hid (fun (i:Nat) (hi:i < l.length) k n c y (W':World) (hu:IV H w l[i] k n c y) (hb':Below w.heap.size w W')=>rfind_any g l[i] k n c y hu hl (fun j hj=>hI j i hj hi) W' hb')
 obtain ⟨-,-,hx,hit⟩:=g.open_
 obtain ⟨A,m,cc⟩:=x
 dsimp only at hx hit
 have hmb:m<=1048576:=by omega
 have HM:=Lib.hid hx
 have HIT:=Lib.hid hit
 have HB:=Lib.hid hb
 unfold FkR
 have HV0:Hid (Own1 W W.heap.size 3 (.slice none 0 0) ((fstK l 0).map fun i:Nat=>Value.int .i64 (i:Int))):=Own1.nil _ _ _
 rw [<- hx]
 clear g hx hit hI hl hb
 dsimp only [sv]
 go_enter Tryz.func218,Tryz.ntmps218
 go_wp2
 go_loopw [3,4] (fun vv iv wr=>∃ i:Nat,i<=m/\iv= .int .i64 (i:Int)/\Own1 wr W.heap.size 3 vv ((fstK l i).map fun i:Nat=>Value.int .i64 (i:Int))/\Below W.heap.size W wr) (fun _ iv _=>m - (intOf iv).toNat)
 case atStart=>exact ⟨0,Nat.zero_le _,rfl,HV0.out,Below.refl _ _⟩
 case round =>
  obtain ⟨i,hi,rfl,hown,hbl⟩:=hrel
  have HOWN:=Lib.hid hown
  have HBL:=Lib.hid hbl
  obtain ⟨vA,vc,hv⟩:∃ A c,_=Value.slice A ((fstK l i).map fun i:Nat=>Value.int .i64 (i:Int)).length c:=hown.reads.len
  subst hv
  clear hown hbl
  by_cases hlt:i < m
  ·have h1:i < l.length:=by have:=HM.out;omega
   obtain ⟨b,o,p0,p1,p2,p3,rfl,-,hpv,hce⟩:=HIT.out i h1
   obtain ⟨c0,c1,c2,c3⟩:=hce _ (Lat.below (bel_both HB.out HBL.out))
   dsimp only [sv] at c0 c1 c2 c3
   have HX:=Lib.hid (HFN.out i h1 p0 p1 p2 p3 wr hpv (bel_both HB.out HBL.out))
   have HFF:=Lib.hid (fun z=>fndI_fst (z:=z) h1)
   have hlt2:(i:Int) < (m:Int):=by omega
   clear hce hpv
   generalize l[i]=t at HX HFF
   dsimp only [sv] at HX
   go_wp2_with fail
   refine HX.out.mono ?_
   rintro e w5 ⟨z,rfl,hz,hb5⟩
   have hz2:=HFF.out z hz
   have HO5:Hid (Own1 w5 W.heap.size 3 (.slice vA ((fstK l i).map fun i:Nat=>Value.int .i64 (i:Int)).length vc) ((fstK l i).map fun i:Nat=>Value.int .i64 (i:Int))):=HOWN.out.below hb5
   have HB5:=Lib.hid (bel_both HBL.out hb5)
   have hsz:W.heap.size<=w5.heap.size:=HB5.out.size
   clear hb5 hz HX HFF HOWN
   have HLE:Hid (((fstK l i).map fun i:Nat=>Value.int .i64 (i:Int)).length<=i):=by unfold Hid;rw [List.length_map];exact fstK_le l i
   rcases hz2 with ⟨rfl,hfst⟩ | ⟨hne,hnf⟩
   ·have HSI:Hid (((fstK l z).map fun i:Nat=>Value.int .i64 (i:Int))++[.int .i64 (z:Int)]=(fstK l (z+1)).map fun i:Nat=>Value.int .i64 (i:Int)):=by unfold Hid;rw [fstK_yes hfst,List.map_append];rfl
    have HL1:Hid ((((fstK l z).map fun i:Nat=>Value.int .i64 (i:Int)).length+1)*8<=140737488355328):=by have:=HLE.out;show _<=_;omega
    have HL2:Hid (((fstK l z).map fun i:Nat=>Value.int .i64 (i:Int)).length+1<=140737488355328):=by have:=HLE.out;show _<=_;omega
    clear hfst HLE
    generalize hXX:((fstK l z).map fun i:Nat=>Value.int .i64 (i:Int))=XX at *
    clear hXX
    go_wp2_with (at_builtin;refine wpList_push1' rfl (.tmp 19) (.tmp 21) 41 3 rfl Tryz.underlying41 (.int .i64 0) 8 info_intC rfl W.heap.size _ XX rfl HO5.out (.int .i64 (z:Int)) rfl w5.heap.size rfl rfl HL1.out HL2.out hsz ?_;intro v' w6 hv' hb';rw [HSI.out] at hv';have HV:=Lib.hid hv';have HB':=Lib.hid (hb' w5 (Below.refl _ _));clear hb' hv')
    go_roundw
    case rel=>exact ⟨z+1,by omega,by go_num,HV.out,HB5.out.trans HB'.out⟩
    case measure=>simp [intOf];omega
   ·have hne2:((z:Int)==(i:Int))=false:=beq_eq_false_iff_ne.2 (by omega)
    have HNI:Hid (fstK l (i+1)=fstK l i):=fstK_no hnf
    clear hne hnf HLE
    generalize ((fstK l i).map fun i:Nat=>Value.int .i64 (i:Int)).length=nn at HO5 ⊢
    go_wp2
    go_roundw
    case rel=>exact ⟨i+1,by omega,by go_num,by rw [HNI.out];exact HO5.out,HB5.out⟩
    case measure=>simp [intOf];omega
  ·have hge:¬ (i:Int) < (m:Int):=by omega
   obtain rfl:i=m:=by omega
   generalize ((fstK l i).map fun i:Nat=>Value.int .i64 (i:Int)).length=nn at HOWN ⊢
   go_wp2
   go_ret
   exact ⟨_,_,_,rfl,HOWN.out,HBL.out⟩
def pickL (l:List RI) (K:List Nat):List RI:=K.map fun i=>l.getD i default
theorem rpick_any {H:Nat->Prop}{w:World}{l:List RI}{x:Sl} (g:ItsR H w x l) (K:List Nat) (va:Value) (f:Int) (W:World) (hb:Below w.heap.size w W) (hH:∀ b,H b->b < w.heap.size) (hva:Reads1 W va (K.map fun i:Nat => .int .i64 (i:Int))) (hK:∀ k∈K,k < l.length) (hl:l.length<=1048576) (hm:K.length<=1048576) :
  Calls Tryz.prog 217 #[sv x,.int .i64 f,va] W (fun e w'=>∃ A n c,e= .returned (.slice A n c)/\IOwn H w' W.heap.size (.slice A n c) (pickL l K)/\Below W.heap.size W w'):=by
 obtain ⟨-,-,hx,hit⟩:=g.open_
 obtain ⟨A,m,cc⟩:=x
 dsimp only at hx hit
 obtain ⟨A2,n,c2,rfl,hn,hcell⟩:=map_open hva
 have hnb:n<=1048576:=by omega
 have hmb:m<=1048576:=by omega
 have HM:=Lib.hid hx
 have HIT:=Lib.hid hit
 have HB:=Lib.hid hb
 have HN:=Lib.hid hn
 have HC:=Lib.hid hcell
 have HK:=Lib.hid hK
 have HH:=Lib.hid hH
 obtain ⟨L,hL⟩:∃ L,L=pickL l K:=⟨_,rfl⟩
 have HLL:Hid (L.length=n):=by unfold Hid;rw [hL];unfold pickL;rw [List.length_map];exact hn.symm
 have HLI:Hid (∀ i (hi:i < L.length) (hk:i < K.length) (h2:K[i] < l.length),L[i]=l[K[i]]):=fun i hi hk h2=>by
  subst hL
  have e:(pickL l K)[i]?=some l[K[i]]:=by
   unfold pickL
   rw [List.getElem?_map,List.getElem?_eq_getElem hk]
   simp [List.getD,h2]
  rw [List.getElem?_eq_getElem hi] at e
  exact Option.some.inj e
 rw [<- hL]
 have HO0:Hid (IOwn H W W.heap.size (.slice none 0 0) (L.take 0)):=IOwn.nil _ _ _
 clear g hx hit hL hl hm hb hn hcell hK hva hH
 dsimp only [sv]
 go_enter Tryz.func217,Tryz.ntmps217
 go_wp2
 go_loopw [7,8] (fun vv iv wr=>∃ i:Nat,i<=n/\iv= .int .i64 (i:Int)/\IOwn H wr W.heap.size vv (L.take i)/\Below W.heap.size W wr) (fun _ iv _=>n - (intOf iv).toNat)
 case atStart=>exact ⟨0,Nat.zero_le _,rfl,HO0.out,Below.refl _ _⟩
 case round =>
  obtain ⟨i,hi,rfl,hown,hbl⟩:=hrel
  have HOWN:=Lib.hid hown
  have HBL:=Lib.hid hbl
  obtain ⟨vA,vn,vc,hvn⟩:∃ A n c,_=Value.slice A n c:=by obtain ⟨a,c,e⟩:=hown.len;exact ⟨a,_,c,e⟩
  subst hvn
  clear hown hbl HO0
  by_cases hlt:i < n
  ·have hik:i < K.length:=by have:=HN.out;omega
   have hiL:i < L.length:=by have:=HLL.out;omega
   obtain ⟨b,o,rfl,hce⟩:=HC.out i hik
   have hcl:=cell_up HBL.out hce
   have hkl:=HK.out K[i] (List.getElem_mem _)
   have hkm:K[i] < m:=by have:=HM.out;omega
   obtain ⟨b2,o2,p0,p1,p2,p3,rfl,-,hpv,hce2⟩:=HIT.out K[i] hkl
   obtain ⟨c0,c1,c2',c3⟩:=hce2 _ (Lat.below (bel_both HB.out HBL.out))
   dsimp only [sv] at c0 c1 c2' c3
   have HTK:Hid (L.take (i+1)=L.take i++[L[i]]):=List.take_succ_eq_append_getElem hiL
   have HLX:=Lib.hid (HLI.out i hiL hik hkl)
   have hlb:(L.take i).length<=1048576:=by rw [List.length_take];omega
   have HLB:=Lib.hid hlb
   have hlt2:(i:Int) < (n:Int):=by omega
   have hsz:W.heap.size<=wr.heap.size:=HBL.out.size
   have HAV:Hid (IV (fun b=>H b\/(Value.slice vA vn vc).ownBlock=some b) wr L[i] p0 p1 p2 p3):=by
    unfold Hid
    rw [HLX.out]
    refine (IV.sub (fun b hb e=>?_) hpv).step (bel_both HB.out HBL.out)
    rcases e with e | e
    ·exact e
    ·have:=(HOWN.out.own_lt e).1;have:=HB.out.size;omega
   clear hlb hce hpv hce2 HLX
   generalize K[i]=z at hcl hkm c0 c1 c2' c3
   generalize L[i]=li at HTK HAV
   have hz0:¬ (z:Int) < 0:=by omega
   have hz1:¬ (z:Int)>=(m:Int):=by omega
   have hz2:(z:Int) < (m:Int):=by omega
   have hst:=fun md=>st_item wr p0 0 p1 0 (.slice none 0 0) 106 md
   go_wp2_with (at_builtin;refine wpList_pushI' rfl (.tmp 34) (.tmp 42) rfl H W.heap.size (.slice vA vn vc) (L.take i) rfl HOWN.out ⟨p0,p1,p2,p3⟩ li HAV.out wr.heap.size rfl rfl HLB.out hsz ?_;intro v' w' hown' hbw hlat hat2;(obtain ⟨vA',vn',vc',hvn'⟩:∃ A n c,v'= .slice A n c:=by (obtain ⟨a,c,e⟩:=hown'.len;exact ⟨a,_,c,e⟩));subst hvn';have HBW:=Lib.hid (hbw _ (Below.refl _ _));have HOW:=Lib.hid hown';clear hown' hbw hlat hat2)
   go_roundw
   case rel=>exact ⟨i+1,by omega,by go_num,by rw [HTK.out];exact HOW.out,HBL.out.trans HBW.out⟩
   case measure=>simp [intOf];omega
  ·have hge:¬ (i:Int) < (n:Int):=by omega
   obtain rfl:i=n:=by omega
   have HTL:Hid (L.take i=L):=by unfold Hid;rw [<- HLL.out];exact List.take_length
   go_wp2
   go_ret
   exact ⟨_,_,_,rfl,by rw [<- HTL.out];exact HOWN.out,HBL.out⟩
theorem rlst_any {H:Nat->Prop}{w:World}{l:List RI}{x:Sl} (g:ItsR H w x l) (hH:∀ b,H b->b < w.heap.size) (f:Int) :
  Calls Tryz.prog 216 #[sv x,.int .i64 f] w (PlR H w (.mk [(l.length:Int)] l f) f):=by
 have hx:x.2.1=l.length:=g.open_.2.2.1
 have HG:=Lib.hid g
 have HH:=Lib.hid hH
 obtain ⟨A,m,cc⟩:=x
 dsimp only at hx
 rw [<- hx]
 have s1:(w.alloc (plO (some ⟨w.heap.size+1,0,none⟩,1,1) (A,m,cc) f)).heap.size=w.heap.size+1:=by simp
 have HR0:Hid (((w.alloc (plO (some ⟨w.heap.size+1,0,none⟩,1,1) (A,m,cc) f)).alloc (shO (m:Int))).heap[w.heap.size]?=some (plO (some ⟨w.heap.size+1,0,none⟩,1,1) (A,m,cc) f)):=blk_alloc (heap_alloc_new w _) _
 have HR1:Hid (((w.alloc (plO (some ⟨w.heap.size+1,0,none⟩,1,1) (A,m,cc) f)).alloc (shO (m:Int))).heap[w.heap.size+1]?=some (shO (m:Int))):=by
  have h1:=heap_alloc_new (w.alloc (plO (some ⟨w.heap.size+1,0,none⟩,1,1) (A,m,cc) f)) (shO (m:Int))
  rw [s1] at h1
  exact h1
 have HBL:=Lib.hid (bel2 w (plO (some ⟨w.heap.size+1,0,none⟩,1,1) (A,m,cc) f) (shO (m:Int)))
 have HPV:Hid (PV H ((w.alloc (plO (some ⟨w.heap.size+1,0,none⟩,1,1) (A,m,cc) f)).alloc (shO (m:Int))) (.mk [(m:Int)] l f) (some ⟨w.heap.size+1,0,none⟩,1,1) (A,m,cc) f):=by
  refine ItsR.pv (PV.step HG.out HBL.out) (fun W hz hb => .inr ⟨w.heap.size+1,0,1,1,rfl,rfl,fun j hj=>?_⟩) f
  have hj0:j=0:=by simpa using hj
  subst hj0
  have hblk:W.heap[w.heap.size+1]?=some (shO (m:Int)):=by
   rw [hb _ (lt_blk HR1.out) (fun e=>by have:=HH.out _ e;omega)]
   exact HR1.out
  rw [cell_of_row _ (w.heap.size+1) (0+0) _ _ (0,0) hblk]
  rfl
 clear g hx hH s1
 dsimp only [sv]
 go_enter Tryz.func216,Tryz.ntmps216
 go_wp2
 refine bodyPost_ret (v:=plV (some ⟨w.heap.size+1,0,none⟩,1,1) (A,m,cc) f) ?_ rfl ⟨_,_,rfl,HPV.out,HBL.out⟩
 exact ret_plain (fn:=Tryz.f216) (p:=4) rfl _ _ w.heap.size (by rfl) HR0.out
abbrev noH:Nat->Prop:=fun _=>False
theorem noH_lt (w:World):∀ b,noH b->b < w.heap.size:=fun _ e=>e.elim
theorem okF_tf1 {b:Nat} (h:TF b):okF b=true:=by unfold okF;rw [doneP_tf h];rfl
theorem tidF_tf1 {b:Nat} (h:TF b):tidF b=b:=by unfold tidF;rw [doneP_tf h]
theorem ok_raw0 {s l:List Nat} (hs:OkSh s l.length) (hl:∀ x∈l,TF x):OkP 40 (rawP (.nums s l)):=by
 rw [rawP,OkP]
 refine ⟨by decide,.inl rfl,⟨s,rfl,by rw [List.length_map];exact hs⟩,okIs_of _ fun i hi=>?_⟩
 rw [List.getElem_map,OkI]
 have h:=hl _ (List.getElem_mem (by simpa using hi))
 exact ⟨rfl,fun _=>⟨okF_tf1 h,h.lt⟩,fun e=>absurd e (by decide)⟩
theorem cl_raw0 {s l:List Nat} (hl:∀ x∈l,TF x):clP (rawP (.nums s l))= .nums s l:=by
 rw [rawP,clP,toNat_of,if_pos rfl,List.map_map]
 congr 1
 refine (List.map_congr_left (g:=id) fun x hx=>?_).trans (List.map_id l)
 exact tidF_tf1 (hl x hx)
theorem cntIs_raw0 (l:List Nat):cntIs (l.map fun x=>RI.mk 0 x 0 [])=0:=by
 induction l with
 | nil=>rw [List.map_nil,cntIs]
 | cons x l ih=>rw [List.map_cons,cntIs,ih,cntI,cntPs]
theorem cnt_raw0 (s l:List Nat):cntP (rawP (.nums s l))=l.length+s.length+1:=by
 rw [rawP,cntP,cntIs_raw0]
 simp
theorem good_nums {s l:List Nat} (hs:OkSh s l.length) (hl:∀ x∈l,TF x):GoodA 40 (.nums s l):=by rw [GoodA];exact ⟨by decide,hs,hl⟩
theorem lawOf_nums {s l:List Nat} (hs:OkSh s l.length) (hl:∀ x∈l,TF x) (hc:l.length<=1000) (h x:Sl) (f:Int) (w:World) (hr:PV noH w (rawP (.nums s l)) h x f) :
  Calls Tryz.prog 17 #[plV h x f] w (AaR noH w (.nums s l)):=by
 have h1:=lawOf_any noH _ h x f w (noH_lt w) (ok_raw0 hs hl) (by rw [cnt_raw0];have:=hs.1;omega) hr
 rwa [cl_raw0 hl] at h1
theorem tf_small {n:Int} (h:n.natAbs<=1000):TF (fi n):=tf_fi ⟨by omega,by omega⟩
theorem sh0:OkSh [] 1:=⟨by decide,by decide,rfl⟩
theorem all1 {x:Nat} (hx:TF x):∀ z∈[x],TF z:=by
 intro z hz
 simp at hz
 rw [hz]
 exact hx
theorem sm_1 (x:Nat) (s:List Nat):SmA 1000000 (.nums s [x]):=by rw [SmA];simp
def ChrT (L:List Value) (u:Value) (W:World):Prop:=∃ c:Sl,u=V8.v (charsP c)/\Reads1 W (sv c) L
theorem pick_chr (H:Nat->Prop) (c:Sl) (l:List Int) (m:Nat) (K:Nat->Nat) (va:Value) (w:World) (hH:∀ b,H b->b < w.heap.size) (hl:l.length<=1000000) (hm:m<=1000000) (hv:Reads1 w (sv c) (l.map (Value.int .i32))) (hva:Reads1 w va ((List.range m).map fun j => .int .i64 (K j:Int))) (hK:∀ j,j < m->K j < l.length) :
  Calls Tryz.prog 192 #[vecW 5 (none,0,0) 0 (none,0,0) (none,0,0) (none,0,0) c (none,0,0),va] w (VecR H w (ChrT ((List.range m).map fun j => .int .i32 (l.getD (K j) 0)))):=by
 have HV:=Lib.hid hv
 have HVA:=Lib.hid hva
 have HK:=Lib.hid hK
 have HH:=Lib.hid hH
 have HS0:=Lib.hid (St.new w 5 (.slice none 0 0) 0 (.slice none 0 0) (.slice none 0 0) (.slice none 0 0) (.slice c.1 c.2.1 c.2.2) (.slice none 0 0))
 have HTX:=Lib.hid (fun W (hb:Below w.heap.size w W)=>text_any (.slice none 0 0) 0 (.slice none 0 0) (.slice none 0 0) (.slice none 0 0) (.slice none 0 0) (hv.below hb) hl)
 clear hv hva hK hH
 go_enter Tryz.func192,Tryz.ntmps192
 go_wp2_with fail
 refine (vkind_any 5 _ _ _ _ _ _ _ _).mono ?_
 rintro e w1 ⟨rfl,hb⟩
 have HS1:=Lib.hid (HS0.out.step hb)
 clear hb
 obtain ⟨h0,h1,h2,h3,h4,h5,h6,h7⟩:=HS1.out.box
 go_wp2_with fail
 refine (HTX.out _ HS1.out.bel).mono ?_
 rintro e w2 ⟨u,rfl,ho2,hb2⟩
 have HS2:=Lib.hid (HS1.out.step hb2)
 have HT:=Lib.hid (those_any 32 l m K va u w2 hl hm (HVA.out.below HS2.out.bel) ho2.reads HK.out)
 clear ho2 hb2 h0 h1 h2 h3 h4 h5 h6 h7
 go_wp2_with fail
 refine HT.out.mono ?_
 rintro e w3 ⟨g,rfl,ho3,hb3⟩
 have HS3:=Lib.hid (HS2.out.step hb3)
 have HCH:=Lib.hid (chars_any (l:=(List.range m).map fun j=>l.getD (K j) 0) (by rw [List.map_map];exact ho3.reads) (by simpa using hm))
 clear ho3 hb3 HT
 go_wp2_with fail
 refine HCH.out.mono ?_
 rintro e w4 ⟨v,rfl,ho4,hb4⟩
 have HS4:=Lib.hid (HS3.out.step hb4)
 have HO4:=Lib.hid (ho4.lower HS3.out.sz)
 obtain ⟨a5,n5,rfl⟩:∃ a n,v= .slice a m n:=by obtain ⟨a,n,e⟩:=ho4.reads.len;exact ⟨a,n,by simpa using e⟩
 clear ho4 hb4
 have HRE:=Lib.hid (set8_block HS4.out.res (.int .i64 5) vnil (.int .i64 0) vnil vnil vnil (.slice a5 m n5) vnil)
 have HBE:=Lib.hid (below_set8 HS4.out.bel (Nat.le_succ _) (.int .i64 5) vnil (.int .i64 0) vnil vnil vnil (.slice a5 m n5) vnil)
 have HKE:Hid (Keeps H (set8 w4 (w.heap.size+1) (.int .i64 5) vnil (.int .i64 0) vnil vnil vnil (.slice a5 m n5) vnil) (ChrT ((List.range m).map fun j => .int .i32 (l.getD (K j) 0)) (vecW 5 (none,0,0) 0 (none,0,0) (none,0,0) (none,0,0) (a5,m,n5) (none,0,0)))):=by
  have h1:Keeps (fun j=>H j\/j=w.heap.size+1) w4 (fun W=>Reads1 W (.slice a5 m n5) ((List.range m).map fun j => .int .i32 (l.getD (K j) 0))):=by
   have h2:=HO4.out
   rw [List.map_map] at h2
   exact Own1.keepsH h2 (fun j e=>by
    rcases e with e | e
    ·have:=HH.out j e;omega
    ·omega)
  exact ((h1.imp fun W h=>(⟨(a5,m,n5),rfl,h⟩:ChrT ((List.range m).map fun j => .int .i32 (l.getD (K j) 0)) (vecW 5 (none,0,0) 0 (none,0,0) (none,0,0) (none,0,0) (a5,m,n5) (none,0,0)) W)).set8 (.inr rfl) _ _ _ _ _ _ _ _).sub fun _ _ e => .inl e
 clear HO4
 obtain ⟨⟨h0,h1,h2,h3,h4,h5,h6,h7⟩,hz⟩:=boxed_of HS4.out.res
 go_wp2
 refine bodyPost_ret (ret_vec rfl _ _ _ rfl HRE.out) rfl ?_
 exact ⟨5,(none,0,0),0,(none,0,0),(none,0,0),(none,0,0),(a5,m,n5),(none,0,0),rfl,HKE.out,HBE.out⟩
theorem cut_chr (H:Nat->Prop) (c:Sl) (l:List Int) (a t:Nat) (w:World) (hH:∀ b,H b->b < w.heap.size) (hl:l.length<=1000000) (hat:a<=t) (htn:t<=l.length) (hv:Reads1 w (sv c) (l.map (Value.int .i32))) :
  Calls Tryz.prog 139 #[vecW 5 (none,0,0) 0 (none,0,0) (none,0,0) (none,0,0) c (none,0,0),.int .i64 (a:Int),.int .i64 (t:Int)] w (VecR H w (ChrT ((List.range (t - a)).map fun j => .int .i32 (l.getD (a+j) 0)))):=by
 have hn:c.2.1=l.length:=by
  obtain ⟨x,y,e⟩:=Reads1.len hv
  unfold sv at e
  injection e with _ e _
  simpa using e
 refine cut_n 5 (by decide) H (none,0,0) 0 (none,0,0) (none,0,0) (none,0,0) c (none,0,0) l.length a t _ w hat htn hl (fun W hb=>?_) fun W va hb hz hva=>?_
 ·rw [<- hn]
  exact len_5 _ _ _ _ _ _ _ _ _ W
 ·exact pick_chr (fun j=>H j\/j=w.heap.size+1) c l (t - a) (fun j=>a+j) va W (fun j e=>by
   rcases e with e | e
   ·have:=hH j e;have:=hb.size;omega
   ·omega) hl (by omega) (hv.below hb) hva fun j hj=>by omega
abbrev NumZ (H:Nat->Prop) (w:World) (p:V8) (l:List Nat):Prop:=NumA H w p l
abbrev TwT (N:Nat) (G:Nat->Nat) (u:Value) (W:World):Prop:=NumV u (leastF G N:Nat) N G W\/(N=0/\u=zbP.v)
theorem leastF_congr {F F':Nat->Nat}{n:Nat} (h:∀ j,j < n->F j=F' j):leastF F n=leastF F' n:=by
 induction n with
 | zero=>rfl
 | succ n ih =>
  unfold leastF
  rw [ih fun j hj=>h j (by omega),h n (by omega)]
theorem getD_range {N:Nat} (G:Nat->Nat){j:Nat} (hj:j < N):((List.range N).map G).getD j 0=G j:=by
 simp [List.getD,hj]
theorem numZ_of {H:Nat->Prop}{w:World}{k:Int}{b:Sl}{bn:Int}{s i f c x:Sl}{N:Nat}{G:Nat->Nat} (h:Keeps H w (TwT N G (vecW k b bn s i f c x))):NumZ H w ⟨k,b,bn,s,i,f,c,x⟩ ((List.range N).map G):=by
 by_cases hz:N=0/\vecW k b bn s i f c x=zbP.v
 ·obtain ⟨rfl,h2⟩:=hz
  refine .inr ⟨rfl,?_⟩
  unfold vecW vecV at h2
  simp only [Value.agg.injEq,Array.mk.injEq,List.cons.injEq,Value.int.injEq,Value.slice.injEq,true_and,and_true] at h2
  obtain ⟨rfl,⟨b1,b2,b3⟩,rfl,⟨s1,s2,s3⟩,⟨i1,i2,i3⟩,⟨f1,f2,f3⟩,⟨c1,c2,c3⟩,⟨x1,x2,x3⟩⟩:=h2
  obtain ⟨b4,b5,b6⟩:=b
  obtain ⟨s4,s5,s6⟩:=s
  obtain ⟨i4,i5,i6⟩:=i
  obtain ⟨f4,f5,f6⟩:=f
  obtain ⟨c4,c5,c6⟩:=c
  obtain ⟨x4,x5,x6⟩:=x
  subst b1 b2 b3 s1 s2 s3 i1 i2 i3 f1 f2 f3 c1 c2 c3 x1 x2 x3
  rfl
 ·have h1:Keeps H w (NumV (vecW k b bn s i f c x) (leastF G N:Nat) N G):=h.imp fun W h=>h.resolve_right hz
  obtain ⟨b',bn',s',i',f',c',x',e⟩:=h1.now.shape
  have ek:k=(leastF G N:Nat):=by
   unfold vecW vecV at e
   simp only [Value.agg.injEq,Array.mk.injEq,List.cons.injEq,Value.int.injEq,true_and] at e
   exact e.1
  subst ek
  have hl:((List.range N).map G).length=N:=by simp
  refine .inl ⟨?_,?_⟩
  ·show Keeps H w (NumV (vecW _ b bn s i f c x) _ _ _)
   rw [hl]
   exact h1.imp fun W h=>h.congr fun j hj=>getD_range G hj
  ·show ((leastF G N:Nat):Int)=_
   rw [hl]
   exact congrArg _ (leastF_congr fun j hj=>(getD_range G hj).symm)
structure ClsV (w:World) (p:V8) (z:Int) (n:Nat):Prop where
 cls:∀ W,Below w.heap.size w W->Calls Tryz.prog 135 #[p.v] W fun e w'=>e= .returned (.int .i64 z)/\Below W.heap.size W w'
 len:∀ W,Below w.heap.size w W->Calls Tryz.prog 48 #[p.v] W fun e w'=>e= .returned (.int .i64 (n:Nat))/\Below W.heap.size W w'
theorem ClsV.up {w w':World}{p:V8}{z:Int}{n:Nat} (h:ClsV w p z n) (hb:Below w.heap.size w w'):ClsV w' p z n:=⟨fun W hw=>h.cls W (bel_both hb hw),fun W hw=>h.len W (bel_both hb hw)⟩
theorem clsV_av {H:Nat->Prop}{w:World}{a:PA}{h:Sl}{p:V8} (g:AV H w a h p):ClsV w p (a.fill:Nat) a.len :=
 ⟨fun W hb=>av_class g W hb,fun W hb=>av_len g W hb⟩
structure A1 (w W:World) (h:Sl) (p:V8):Prop where
 one:At9 W w.heap.size 0 h p
 res:W.heap[w.heap.size+1]?=some zeroO
 bel:Below w.heap.size w W
theorem A1.step {w W W':World}{h:Sl}{p:V8} (g:A1 w W h p) (hb:Below W.heap.size W W'):A1 w W' h p:=⟨g.one.below hb,by rw [hb.block _ (lt_blk g.res)];exact g.res,bel_both g.bel hb⟩
theorem A1.sz {w W:World}{h:Sl}{p:V8} (g:A1 w W h p):w.heap.size+1 < W.heap.size:=lt_blk g.res
theorem A1.new (w:World) (h:Sl) (p:V8):A1 w ((w.alloc (arrO h p)).alloc zeroO) h p:=by
 have h1:=heap_alloc_new (w.alloc (arrO h p)) zeroO
 have e:(w.alloc (arrO h p)).heap.size=w.heap.size+1:=by simp
 rw [e] at h1
 exact ⟨(at9_new w h p).below (bel1 _ _),h1,bel2 w _ _⟩
def CutA (H:Nat->Prop) (w:World) (a:PA) (e:Ending) (w':World):Prop:=∃ u:V8,e= .returned u.v/\AV H w' a nilS u/\Below w.heap.size w w'
theorem cutA_num {H H1:Nat->Prop}{w:World}{s l:List Nat}{h:Sl}{p:V8} (g:AV H1 w (.nums s l) h p) (hl:l.length<=1000000) (j:Nat) (hj:j < l.length) (z1 z2:Int) (e1:z1=(j:Int)) (e2:z2=((j+1:Nat):Int)) (W:World) (hb:Below w.heap.size w W) (hH:∀ b,H b->b < W.heap.size) (hs:∀ b,b < w.heap.size->H b->H1 b) :
  Calls Tryz.prog 139 #[p.v,.int .i64 z1,.int .i64 z2] W (CutA H W (.nums [] [l.getD j 0])):=by
 subst e1
 subst e2
 rcases g.nums with h | ⟨rfl,_⟩
 ·have hk:Keeps H W (NumV p.v p.k l.length (fun j=>l.getD j 0)):=(h.num.sub hs).step hb
  refine (cut_num H p l.length j (j+1) (fun j=>l.getD j 0) W hH hl (Nat.le_succ j) hj hk).mono ?_
  rintro e w' ⟨k,b,bn,s',i,f,c,x,rfl,hk2,hb2⟩
  rw [show j+1 - j=1 by omega] at hk2
  have h2:=numZ_of (hk2.imp fun W h=>(.inl h:TwT 1 (fun j'=>l.getD (j+j') 0) (vecW k b bn s' i f c x) W))
  refine ⟨⟨k,b,bn,s',i,f,c,x⟩,rfl,?_,hb2⟩
  rw [AV]
  exact ⟨shV_nil _ _,h2⟩
 ·exact absurd hj (Nat.not_lt_zero _)
theorem cutA_chr {H H1:Nat->Prop}{w:World}{s:List Nat}{l:List Int}{h:Sl}{p:V8} (g:AV H1 w (.chars s l) h p) (hl:l.length<=1000000) (j:Nat) (hj:j < l.length) (z1 z2:Int) (e1:z1=(j:Int)) (e2:z2=((j+1:Nat):Int)) (W:World) (hb:Below w.heap.size w W) (hH:∀ b,H b->b < W.heap.size) :
  Calls Tryz.prog 139 #[p.v,.int .i64 z1,.int .i64 z2] W (CutA H W (.chars [] [l.getD j 0])):=by
 subst e1
 subst e2
 obtain ⟨c,rfl,hr⟩:=g.chars
 refine (cut_chr H c l j (j+1) W hH hl (Nat.le_succ j) hj (Keeps.lat hr (Lat.below hb)).now).mono ?_
 rintro e w' ⟨k,b,bn,s',i,f,c',x,rfl,hk2,hb2⟩
 rw [show j+1 - j=1 by omega] at hk2
 obtain ⟨c2,ec,_⟩:=hk2.now
 have hk3:RdH H w' (sv c2) ([l.getD j 0].map (Value.int .i32)):=hk2.imp fun W h=>by
  obtain ⟨c3,e3,h3⟩:=h
  rw [ec] at e3
  have e4:c2=c3:=by
   unfold V8.v vecW vecV at e3
   simp only [Value.agg.injEq,Array.mk.injEq,List.cons.injEq,Value.slice.injEq,true_and,and_true] at e3
   obtain ⟨a2,n2,q2⟩:=c2
   obtain ⟨a3,n3,q3⟩:=c3
   obtain ⟨i1,i2,i3⟩:=e3
   subst i1 i2 i3
   rfl
  rw [e4]
  exact h3
 refine ⟨charsP c2,by rw [ec],?_,hb2⟩
 rw [AV]
 exact ⟨shV_nil _ _,c2,rfl,hk3⟩
theorem At3.belowP {w w':World}{b o:Nat}{h x:Sl}{f:Int} (g:At3 w b o h x f) (hb:Below w.heap.size w w'):At3 w' b o h x f:=At3.lat (H:=fun _=>False) g (fun e=>e) (Lat.below hb)
structure P2 (w W:World) (h1 x1:Sl) (f1:Int) (h2 x2:Sl) (f2:Int):Prop where
 one:At3 W w.heap.size 0 h1 x1 f1
 two:At3 W (w.heap.size+1) 0 h2 x2 f2
 bel:Below w.heap.size w W
theorem P2.step {w W W':World}{h1 x1 h2 x2:Sl}{f1 f2:Int} (h:P2 w W h1 x1 f1 h2 x2 f2) (hb:Below W.heap.size W W'):P2 w W' h1 x1 f1 h2 x2 f2:=⟨At3.belowP h.one hb,At3.belowP h.two hb,bel_both h.bel hb⟩
theorem P2.new (w:World) (h1 x1:Sl) (f1:Int) (h2 x2:Sl) (f2:Int):P2 w ((w.alloc (plO h1 x1 f1)).alloc (plO h2 x2 f2)) h1 x1 f1 h2 x2 f2:=by
 have h:=at3_box (w.alloc (plO h1 x1 f1)) h2 x2 f2
 have e:(w.alloc (plO h1 x1 f1)).heap.size=w.heap.size+1:=by simp
 rw [e] at h
 exact ⟨At3.belowP (at3_box w h1 x1 f1) (bel1 _ _),h,bel2 w _ _⟩
theorem P2.more {w W W':World}{h1 x1 h2 x2:Sl}{f1 f2:Int} (g:P2 w W h1 x1 f1 h2 x2 f2) (hb:Below (w.heap.size+2) W W'):P2 w W' h1 x1 f1 h2 x2 f2 :=
 ⟨g.one.of fun j=>hb.cell (p:=⟨w.heap.size,j,none⟩) (by show w.heap.size < _;omega),g.two.of fun j=>hb.cell (p:=⟨w.heap.size+1,j,none⟩) (by show w.heap.size+1 < _;omega),g.bel.trans (hb.mono (by omega))⟩
theorem P2.dr {w W:World}{h1 x1 h2 x2:Sl}{f1 f2:Int} (g:P2 w W h1 x1 f1 h2 x2 f2):P2 w W.drew h1 x1 f1 h2 x2 f2:=g.step (Below.refl _ W).drew
theorem P2.self {w W:World}{h1 x1 h2 x2:Sl}{f1 f2:Int} (g:P2 w W h1 x1 f1 h2 x2 f2):P2 w W h1 x1 f1 h2 x2 f2:=g
theorem P2.sz {w W:World}{h1 x1 h2 x2:Sl}{f1 f2:Int} (g:P2 w W h1 x1 f1 h2 x2 f2):w.heap.size+2<=W.heap.size:=At3.lt g.two
theorem item_size:(Tryz.prog.info? 106).map (·.size)=some 4:=by kernel_rfl
theorem ret_item {fn:Func}{p:Tmp} (h:fn.results=#[.cell p 106]) (tmps:Array Value) (w:World) (G:Nat){e:TypeId}{a0 a1 a2 a3:Value}
  (hp:tmps.getD p undef= .pointer (some ⟨G,0,none⟩)) (hg:w.heap[G]?=some (.cells #[a0,a1,a2,a3] e)) :
  (results fn tmps).run Tryz.prog w= .ok (.agg #[a0,a1,a2,a3]) w :=
 results_cell_row h tmps w G e _ (0,0) _ hp hg Tryz.underlying106 rfl item_size
def PvS (H:Nat->Prop) (w W:World) (t:RP) (e:Ending) (w':World):Prop:=∃ h x f,e= .returned (plV h x f)/\(PV H w t h x f\/(h=nilS/\(∃ k n c,t= .mk [] [.mk k n c []] k/\k≠2)/\PV H w' t h x f))/\Below W.heap.size W w'
theorem pvS_old {H:Nat->Prop}{w W w':World}{t:RP}{h x:Sl}{f:Int} (hp:PV H w t h x f) (hb:Below W.heap.size W w'):PvS H w W t (.returned (plV h x f)) w':=⟨h,x,f,rfl,.inl hp,hb⟩
theorem pvS_new {H:Nat->Prop}{w W w':World}{k:Int}{n:Nat}{c:Int}{x:Sl}{f:Int} (hk:k≠2) (hp:PV H w' (.mk [] [.mk k n c []] k) nilS x f) (hb:Below W.heap.size W w'):PvS H w W (.mk [] [.mk k n c []] k) (.returned (plV nilS x f)) w':=⟨nilS,x,f,rfl,.inr ⟨rfl,⟨k,n,c,rfl,hk⟩,hp⟩,hb⟩
structure P1 (w W:World) (h x:Sl) (f:Int):Prop where
 one:At3 W w.heap.size 0 h x f
 res:W.heap[w.heap.size+1]?=some (plO nilS nilS 0)
 bel:Below w.heap.size w W
theorem P1.step {w W W':World}{h x:Sl}{f:Int} (g:P1 w W h x f) (hb:Below W.heap.size W W'):P1 w W' h x f:=⟨At3.belowP g.one hb,by rw [hb.block _ (lt_blk g.res)];exact g.res,bel_both g.bel hb⟩
theorem P1.sz {w W:World}{h x:Sl}{f:Int} (g:P1 w W h x f):w.heap.size+2<=W.heap.size:=lt_blk g.res
theorem P1.new (w:World) (h x:Sl) (f:Int):P1 w ((w.alloc (plO h x f)).alloc (plO nilS nilS 0)) h x f:=by
 have h1:=heap_alloc_new (w.alloc (plO h x f)) (plO nilS nilS 0)
 rw [show (w.alloc (plO h x f)).heap.size=w.heap.size+1 by simp] at h1
 exact ⟨At3.belowP (at3_box w h x f) (bel1 _ _),h1,bel2 w _ _⟩
end Go.Proofs.YtbakjaliponbbaaGreatDoor
