/- The reference's Product of any numbers; Finite of any float. The walk of the reference's Ints at shapes that are alike. The walk of Count over plain arrays. .. Conditions: as each theorem says. -/
import Derived.Test.YtbakjaliponbbaaGreatDoorMg07
import Derived.Deep.QuietTactic
import Derived.BigQuiet
set_option maxRecDepth 100000
set_option maxHeartbeats 2000000
namespace Go.Proofs.YtbakjaliponbbaaGreatDoor
open Go Go.RowKit Go.Proofs Fl
theorem int_open {w:World}{v:Value}{s:List Int} (h:Reads1 w v (s.map (Value.int .i64))):∃ A n c,v= .slice A n c/\n=s.length /\
  ∀ i (hi:i < s.length),∃ b o,A=some ⟨b,o,none⟩/\w.cell? ⟨b,o+i,none⟩=some (.int .i64 s[i]):=by
 rcases h with ⟨a,c,rfl,h0⟩ | ⟨b,o,n,c,rfl,hn,hc⟩
 ·have:s=[]:=by simpa using h0
  subst this
  exact ⟨a,0,c,rfl,rfl,fun i hi=>by simp at hi⟩
 ·rw [List.length_map] at hn
  refine ⟨_,n,c,rfl,hn,fun i hi=>⟨b,o,rfl,?_⟩⟩
  have:=hc i (by simpa using hi)
  rw [this]
  simp
theorem rprod_neg (v:Value) (s:List Int) (most:Int) (K:Nat) (hK:K < s.length) (hneg:s[K] < 0) (hpos:∀ j (h:j < s.length),j < K->0<=s[j]) (w:World) (hv:Reads1 w v (s.map (Value.int .i64))) (hl:s.length<=1048576) :
  Calls Tryz.prog 130 #[v,.int .i64 most] w fun e w'=>∃ z:Int,e= .returned (.tuple #[.int .i64 0,.int .i64 z])/\z≠0/\w=w':=by
 obtain ⟨A,n,c,rfl,hn,hcell⟩:=int_open hv
 have HN:=Lib.hid hn
 have HC:=Lib.hid hcell
 have HNG:=Lib.hid (show ∀ (h:K < s.length),s[K] < 0 from fun _=>hneg)
 have HPS:=Lib.hid hpos
 have hnb:n<=1048576:=by omega
 have hKn:K < n:=by omega
 clear hv hl hn hcell hpos hneg
 clear hK
 by_cases h8:8 < n
 ·have h8':(8:Int) < (n:Int):=by omega
  clear h8
  go_enter Tryz.func130,Tryz.ntmps130
  go_wp2
  go_ret2
  exact ⟨_,rfl,by decide,rfl⟩
 ·have h8':¬ (8:Int) < (n:Int):=by omega
  go_enter Tryz.func130,Tryz.ntmps130
  go_wp2
  go_loopw [7,8] (fun z i wr=>∃ (k:Nat) (t:Bool),k<=K/\i= .int .i64 (k:Int)/\z= .bool t/\w=wr) (fun _ i _=>n - (intOf i).toNat)
  case atStart=>exact ⟨0,false,Nat.zero_le _,rfl,rfl,rfl⟩
  case round =>
   obtain ⟨k,t,hk,rfl,rfl,rfl⟩:=hrel
   have hks:k < s.length:=by have:=HN.out;omega
   obtain ⟨b,o,rfl,hce⟩:=HC.out k hks
   have hlt2:(k:Int) < (n:Int):=by omega
   by_cases hlt:k < K
   ·have hd0':=HPS.out k hks hlt
    generalize s[k]=d at hce hd0'
    have hd0:¬ d < 0:=by omega
    cases t with
    | true =>
     go_wp2
     go_roundw
     case rel=>exact ⟨k+1,true,by omega,by go_num,rfl,by trivial⟩
     case measure=>simp [intOf];omega
    | false =>
     go_wp2
     go_roundw
     case rel=>exact ⟨k+1,d==0,by omega,by go_num,rfl,by trivial⟩
     case measure=>simp [intOf];omega
   ·obtain rfl:k=K:=by omega
    have hd0:=HNG.out hks
    generalize s[k]=d at hce hd0
    go_wp2
    go_ret2
    exact ⟨_,rfl,by decide,rfl⟩
theorem first_neg (s:List Int):(∀ d∈s,0<=d)\/∃ K,∃ hK:K < s.length,s[K] < 0/\∀ j (h:j < s.length),j < K->0<=s[j]:=by
 induction s with
 | nil=>exact .inl fun d h=>by cases h
 | cons x s ih =>
  by_cases hx:x < 0
  ·exact .inr ⟨0,by simp,by simpa using hx,fun j _ h=>by omega⟩
  ·rcases ih with h | ⟨K,hK,h1,h2⟩
   ·exact .inl fun d hd=>by
     cases List.mem_cons.1 hd with
     | inl e=>omega
     | inr e=>exact h d e
   ·refine .inr ⟨K+1,by simpa using hK,by simpa using h1,fun j hj hjk=>?_⟩
    cases j with
    | zero=>simp;omega
    | succ j=>have:=h2 j (by simpa using hj) (by omega);simpa using this
theorem rprod_any (v:Value) (s:List Int) (w:World) (hv:Reads1 w v (s.map (Value.int .i64))) (hl:s.length<=1048576) :
  Calls Tryz.prog 130 #[v,.int .i64 1048576] w fun e w'=>(∃ n z:Int,e= .returned (.tuple #[.int .i64 n,.int .i64 z])/\(z=0->∃ (sn:List Nat) (m:Nat),s=sn.map Int.ofNat/\OkSh sn m/\n=(m:Int)))/\w=w':=by
 rcases first_neg s with h | ⟨K,hK,h1,h2⟩
 ·have e:s=(s.map Int.toNat).map Int.ofNat:=natL_of (by rintro ⟨d,hd,h0⟩;have:=h d hd;omega)
  have hv2:Reads1 w v ((s.map Int.toNat).map fun n:Nat => .int .i64 (n:Int)):=by
   have e2:((s.map Int.toNat).map fun n:Nat=>Value.int .i64 (n:Int))=s.map (Value.int .i64):=by
    conv=>rhs;rw [e]
    rw [List.map_map (l:=s.map Int.toNat)]
    rfl
   rw [e2];exact hv
  refine (rprod_nat v (s.map Int.toNat) 1048576 w hv2 (by simpa using hl)).mono ?_
  rintro e' w' ⟨rfl,rfl⟩
  refine ⟨⟨_,_,rfl,fun hz=>?_⟩,rfl⟩
  rcases prodE_cases (s.map Int.toNat) 1048576 with ⟨h3,_⟩ | ⟨h3,h4,_⟩
  ·rw [h3] at hz;cases hz
  ·rw [h3]
   exact ⟨_,_,e,h4,rfl⟩
 ·refine (rprod_neg v s 1048576 K hK h1 h2 w hv hl).mono ?_
  rintro e' w' ⟨z,rfl,hz,rfl⟩
  exact ⟨⟨_,_,rfl,fun h=>absurd h hz⟩,rfl⟩
theorem below_drewN {B:Nat}{a w:World} (h:Below B a w) (k:Nat):Below B a (w.drewN k):=⟨h.os,h.tape,h.output,h.size,h.block⟩
theorem ints_same (va vb:Value) (s:List Int) (w:World) (ha:Reads1 w va (s.map (Value.int .i64))) (hb:Reads1 w vb (s.map (Value.int .i64))) (hl:s.length<=1048576) :
  Calls Tryz.prog 132 #[va,vb] w fun e w'=>e= .returned (.bool true)/\Below w.heap.size w w':=by
 obtain ⟨A,n,c,rfl,hn,hcell⟩:=int_open ha
 obtain ⟨A2,n2,c2,rfl,hn2,hcell2⟩:=int_open hb
 obtain rfl:n2=n:=by omega
 have HC:=Lib.hid hcell
 have HC2:=Lib.hid hcell2
 have HN:=Lib.hid hn
 have hnb:n2<=1048576:=by omega
 have hne:((n2:Int) != (n2:Int))=false:=by simp
 clear ha hb hl hn hn2 hcell hcell2
 go_enter Tryz.func132,Tryz.ntmps132
 go_wp2
 go_loopw [5] (fun i wr=>∃ k:Nat,k<=n2/\i= .int .i64 (k:Int)/\Below w.heap.size w wr) (fun i _=>n2 - (intOf i).toNat)
 case atStart=>exact ⟨0,Nat.zero_le _,rfl,Below.refl _ _⟩
 case round =>
  obtain ⟨k,hk,rfl,hbl⟩:=hrel
  have HBL:=Lib.hid hbl
  by_cases hlt:k < n2
  ·have hks:k < s.length:=by have:=HN.out;omega
   obtain ⟨b,o,rfl,hce⟩:=HC.out k hks
   obtain ⟨b',o',rfl,hce'⟩:=HC2.out k hks
   have c1:=cell_up hbl hce
   have c2':=cell_up hbl hce'
   generalize s[k]=x at c1 c2'
   have hxe:(x != x)=false:=by simp
   have hlt2:(k:Int) < (n2:Int):=by omega
   clear hce hce' hbl
   go_wp2
   go_quiet (fail)
   go_wp2
   go_roundw
   case rel=>exact ⟨k+1,by omega,by go_num,below_drewN HBL.out _⟩
   case measure=>simp [intOf];omega
  ·have hge:¬ (k:Int) < (n2:Int):=by omega
   clear hlt hbl
   go_wp2
   go_ret
   exact ⟨rfl,HBL.out⟩
def CntR (t:RP) (most:Int) (e:Ending):Prop:=∃ n:Nat,e= .returned (.int .i64 (n:Int))/\1<=n/\n<=cntP t/\((n:Int)<=most->n=cntP t)
theorem at3_new (w:World) (h x:Sl) (f:Int) (e:TypeId):At3 (w.alloc (.cells #[sv h,sv x,.int .i64 f] e)) w.heap.size 0 h x f:=by
 have hc:∀ j u,#[sv h,sv x,Value.int .i64 f][j]?=some u->(w.alloc (.cells #[sv h,sv x,.int .i64 f] e)).cell? ⟨w.heap.size,j,none⟩=some u:=by
  intro j u hu
  rw [cell_of_row _ w.heap.size j _ e (0,0) (heap_alloc_new w _)]
  exact hu
 exact ⟨hc 0 _ rfl,hc 1 _ rfl,hc 2 _ rfl⟩
theorem cnt_walk (most:Int):∀ (N:Nat) (t:RP) (h x:Sl) (f:Int) (w:World),cntP t<=N->cntP t<=1048576->PV (fun _=>False) w t h x f ->
  Calls Tryz.prog 42 #[plV h x f,.int .i64 most] w fun e w'=>CntR t most e/\Below w.heap.size w w'
 | 0,t,_,_,_,_,h,_,_=>by have:=cntP_pos t;omega
 | N+1,.mk s items fill,h,x,f,w,hN,hM,hr=>by
  obtain ⟨hsr,rfl,hx,hit⟩:=hr.open_
  obtain ⟨hA,hn,hc⟩:=h
  obtain ⟨A,m,cc⟩:=x
  obtain ⟨_,_,hse⟩:=RdH.len hsr
  have hn2:hn=s.length:=by
   have h1:Value.slice hA hn hc=_:=hse
   injection h1 with _ h1 _
   simpa using h1
  dsimp only at hx hit
  clear hse hsr hr
  have hsz:cntP (.mk s items f)=items.length+s.length+1+cntIs items:=by rw [cntP]
  rw [hsz] at hN hM
  have HSZ:=Lib.hid hsz
  have HK:=Lib.hid hit
  have HMI:=Lib.hid hx
  have HNS:=Lib.hid hn2
  have hmb:m<=1048576:=by omega
  have hnb:hn<=1048576:=by omega
  obtain ⟨B,hB⟩:∃ B,B=m+hn+1:=⟨_,rfl⟩
  have hB1:(m:Int)+(hn:Int)+1=(B:Int):=by rw [hB];push_cast;rfl
  have hBb:1<=B/\B<=1048576:=by omega
  have HBB:Hid (B=items.length+s.length+1):=by unfold Hid;omega
  have HIH:Hid (∀ t h x f w,cntP t<=N->cntP t<=1048576->PV (fun _=>False) w t h x f->Calls Tryz.prog 42 #[plV h x f,.int .i64 most] w fun e w'=>CntR t most e/\Below w.heap.size w w'):=cnt_walk most N
  have HTK:Hid (∀ i (hi:i < items.length),cntIs (items.take (i+1))=cntIs (items.take i)+cntI items[i]):=fun i hi=>cntIs_take items i hi
  have HLE:Hid (∀ i,cntIs (items.take i)<=cntIs items):=fun i=>cntIs_le items i
  have HN2:Hid (B+cntIs items<=N+1/\B+cntIs items<=1048576):=by unfold Hid;omega
  have HTL:Hid (cntIs (items.take m)=cntIs items):=by unfold Hid;rw [hx,List.take_length]
  have HX0:=Lib.hid (at3_new w (hA,hn,hc) (A,m,cc) f 44)
  have HB0:=Lib.hid (bel1 w (.cells #[.slice hA hn hc,.slice A m cc,.int .i64 f] 44))
  obtain ⟨hBb1,hBb2⟩:=hBb
  clear hx hn2 hsz hN hM hit hB
  go_enter Tryz.func42,Tryz.ntmps42
  go_wp2
  generalize w.alloc (.cells #[.slice hA hn hc,.slice A m cc,.int .i64 f] 44)=W at *
  go_loopw [5,6,7] (fun nv iv _ wr=>∃ (i n:Nat),i<=m/\iv= .int .i64 (i:Int)/\nv= .int .i64 (n:Int)/\1<=n/\n<=1048576/\Hid (n<=B+cntIs (items.take i)/\((n:Int)<=most->n=B+cntIs (items.take i)))/\Below W.heap.size W wr) (fun _ iv _ _=>m - (intOf iv).toNat)
  case atStart=>exact ⟨0,B,Nat.zero_le _,rfl,rfl,hBb1,hBb2,by simp [Hid,cntIs],Below.refl _ _⟩
  case round =>
   obtain ⟨i,n,hi,rfl,rfl,h1,h2,hq,hbl⟩:=hrel
   have HBL:=Lib.hid hbl
   have HBW:=Lib.hid (bel_both HB0.out hbl)
   obtain ⟨c0,c1,c2⟩:=HX0.out.of (w':=wr) fun j=>hbl.cell (p:=⟨w.heap.size,j,none⟩) HX0.out.lt
   dsimp only [sv] at c0 c1
   clear hbl
   by_cases him:i < m
   ·have him2:(i:Int) < (m:Int):=by omega
    by_cases hmo:(n:Int)<=most
    ·have hik:i < items.length:=by have:=HMI.out;omega
     obtain ⟨b,o,k',n',c',y,rfl,-,hiv,hat⟩:=HK.out i hik
     have HTN:=Lib.hid (HTK.out i hik)
     obtain ⟨kind,num,char,box,hit⟩:∃ kind num char box,items[i]= .mk kind num char box:=by cases items[i];exact ⟨_,_,_,_,rfl⟩
     rw [hit] at hiv
     have hci:cntI items[i]=cntPs box:=by rw [hit,cntI]
     rw [hci] at HTN
     obtain ⟨rfl,rfl,rfl,hy,hbx⟩:=hiv.open_
     obtain ⟨yA,ym,yc⟩:=y
     dsimp only at hy hbx
     have HY:=Lib.hid hy
     have HBX:=Lib.hid hbx
     have hbl2:cntPs box<=1048576:=by have:=HTN.out;have:=HLE.out (i+1);have:=HN2.out;omega
     have hlb:∀ l:List RP,l.length<=cntPs l:=fun l=>by
      induction l with
      | nil=>simp
      | cons t l ih=>have:=cntP_pos t;rw [cntPs];simp;omega
     have hymb:ym<=1048576:=by have:=hlb box;omega
     have HPT:Hid (∀ i (hi:i < box.length),cntPs (box.take (i+1))=cntPs (box.take i)+cntP box[i]):=fun i hi=>cntPs_take box i hi
     have HPL:Hid (∀ i,cntPs (box.take i)<=cntPs box):=fun i=>cntPs_le box i
     have HPA:Hid (∀ i (hi:i < box.length),cntP box[i]<=cntPs box):=fun i hi=>cntPs_at hi
     have HPM:Hid (cntPs (box.take ym)=cntPs box):=by unfold Hid;rw [hy,List.take_length]
     have HAT:=Lib.hid hat
     have HWW:=Lib.hid (show wr.heap.size<=wr.heap.size from Nat.le_refl _)
     have HQ:=Lib.hid hq.out
     clear hy hbx hbl2 hlb hat hiv hit hci hq
     obtain ⟨w0,hw0⟩:∃ w0,w0=wr:=⟨_,rfl⟩
     go_wp2
     go_loopw [5,7] (fun nv kv wq=>∃ (k q:Nat),k<=ym/\kv= .int .i64 (k:Int)/\nv= .int .i64 (q:Int)/\1<=q/\q<=1048576/\Hid (q<=B+cntIs (items.take i)+cntPs (box.take k)/\((q:Int)<=most->q=B+cntIs (items.take i)+cntPs (box.take k)))/\Below W.heap.size W wq) (fun _ kv _=>ym - (intOf kv).toNat)
     case atStart=>exact ⟨0,n,Nat.zero_le _,rfl,rfl,h1,h2,by have:=HQ.out;simp [Hid,cntPs];exact this,HBL.out⟩
     case round =>
      clear c0 c1 c2 HBL HBW
      obtain ⟨k,q,hk,rfl,rfl,g1,g2,hq,hbl⟩:=hrel
      have HBL:=Lib.hid hbl
      have HBW:=Lib.hid (bel_both HB0.out hbl)
      obtain ⟨c0,c1,c2⟩:=HX0.out.of (w':=wr) fun j=>hbl.cell (p:=⟨w.heap.size,j,none⟩) HX0.out.lt
      dsimp only [sv] at c0 c1
      obtain ⟨d0,d1,d2,d3⟩:=HAT.out wr (Lat.below HBW.out)
      dsimp only [sv] at d3
      clear hbl
      by_cases hkm:k < ym
      ·have hkm2:(k:Int) < (ym:Int):=by omega
       by_cases hmo2:(q:Int)<=most
       ·have hkb:k < box.length:=by have:=HY.out;omega
        obtain ⟨b2,o2,h',y',f',rfl,-,hpv,hat3⟩:=HBX.out k hkb
        obtain ⟨e0,e1,e2⟩:=hat3 wr (Lat.below HBW.out)
        have HPN:=Lib.hid (HPT.out k hkb)
        have HIC:=Lib.hid (HIH.out box[k] h' y' f' wr (by have:=HPA.out k hkb;have:=HTN.out;have:=HLE.out (i+1);have:=HN2.out;omega) (by have:=HPA.out k hkb;have:=HTN.out;have:=HLE.out (i+1);have:=HN2.out;omega) (hpv.step HBW.out))
        clear hpv hat3
        generalize box[k]=z at *
        go_wp2_with fail
        refine HIC.out.mono ?_
        rintro e w2 ⟨⟨r,rfl,r1,r2,r3⟩,hb⟩
        have HB2:=Lib.hid (bel_both HBL.out hb)
        have HR3:=Lib.hid r3
        have hqr:q+r<=1048576:=by have:=HPN.out;have:=HPL.out (k+1);have:=HTN.out;have:=HLE.out (i+1);have:=HN2.out;have:=hq.out;omega
        have hqr1:1<=q+r:=by omega
        have HQ2:Hid (q+r<=B+cntIs (items.take i)+cntPs (box.take (k+1))/\(((q+r:Nat):Int)<=most->q+r=B+cntIs (items.take i)+cntPs (box.take (k+1)))):=by
         have a1:=HPN.out
         have a2:=hq.out
         refine ⟨by omega,fun h=>?_⟩
         have a3:=HR3.out (by omega)
         have a4:=a2.2 (by omega)
         omega
        clear hb r3 hq
        go_wp2
        go_roundw
        case rel=>exact ⟨k+1,q+r,by omega,by go_num,by go_num,hqr1,hqr,HQ2.out,HB2.out⟩
        case measure=>simp [intOf];omega
       ·have HQ2:Hid (q<=B+cntIs (items.take (i+1))/\((q:Int)<=most->q=B+cntIs (items.take (i+1)))):=by
         have a1:=HPL.out k
         have a2:=hq.out
         have a3:=HTN.out
         exact ⟨by omega,fun h=>absurd h hmo2⟩
        clear hq
        go_wp2
        go_roundw
        case rel=>exact ⟨i+1,q,by omega,by go_num,rfl,g1,g2,HQ2.out,HBL.out⟩
        case measure=>simp [intOf];omega
      ·have hkm2:¬ (k:Int) < (ym:Int):=by omega
       have HQ2:Hid (q<=B+cntIs (items.take (i+1))/\((q:Int)<=most->q=B+cntIs (items.take (i+1)))):=by
        have a1:=HPM.out
        have a2:=hq.out
        have a3:=HTN.out
        rw [show k=ym by omega] at a2
        exact ⟨by omega,fun h=>by have:=a2.2 h;omega⟩
       clear hq
       go_wp2
       go_roundw
       case rel=>exact ⟨i+1,q,by omega,by go_num,rfl,g1,g2,HQ2.out,HBL.out⟩
       case measure=>simp [intOf];omega
    ·have HF:Hid (CntR (.mk s items f) most (.returned (.int .i64 (n:Int)))):=⟨n,rfl,h1,by rw [HSZ.out];have:=hq.out;have:=HLE.out i;have:=HBB.out;omega,fun h=>absurd h hmo⟩
     clear hq
     go_wp2
     go_ret
     exact ⟨HF.out,HBW.out⟩
   ·have him2:¬ (i:Int) < (m:Int):=by omega
    have HF:Hid (CntR (.mk s items f) most (.returned (.int .i64 (n:Int)))):=⟨n,rfl,h1,by rw [HSZ.out];have:=hq.out;have:=HLE.out i;have:=HBB.out;omega,fun h=>by
     have a1:=hq.out.2 h
     rw [show i=m by omega,HTL.out] at a1
     rw [HSZ.out];have:=HBB.out;omega⟩
    clear hq
    go_wp2
    go_ret
    exact ⟨HF.out,HBW.out⟩
theorem finite_any {b:Nat} (hb:b < 18446744073709551616) (w:World):Calls Tryz.prog 54 #[.float .f64 b] w fun e w'=>e= .returned (.bool (okF b))/\w=w':=by
 rcases classify b hb with ⟨s,Z,hz,rfl⟩ | h
 ·have e:okF (W s Z)=true:=by unfold okF;rw [doneP_num s hz];rfl
  rw [e]
  exact finite_num s hz w
 ·have e:okF b=false:=by
   have e2:doneP b=(0,24):=by rcases h with ⟨s,rfl⟩ | h;exact doneP_inf s;exact doneP_nan h
   unfold okF;rw [e2];rfl
  rw [e]
  rcases h with ⟨s,rfl⟩ | h
  ·exact finite_inf s w
  ·exact finite_nan h w
def ChkR (d:Nat) (t:RP) (e:Ending):Prop:=∃ y:Int,e= .returned (.int .i64 y)/\(y=0->OkP d t)
theorem chkR_bad {d:Nat}{t:RP}{y:Int} (h:y≠0):ChkR d t (.returned (.int .i64 y)):=⟨y,rfl,fun e=>absurd e h⟩
theorem chk_zero (t:RP) (h x:Sl) (f:Int) (w:World):Calls Tryz.prog 90 #[plV h x f,.int .i64 0] w fun e w'=>ChkR 0 t e/\Below w.heap.size w w':=by
 have HB0:=Lib.hid (bel1 w (.cells #[sv h,sv x,.int .i64 f] 44))
 have HR:=Lib.hid (chkR_bad (d:=0) (t:=t) (y:=1) (by decide))
 go_enter Tryz.func90,Tryz.ntmps90
 go_wp2
 go_ret
 exact ⟨HR.out,HB0.out⟩
theorem chk_fill (d:Nat) (t:RP) (h x:Sl) (f z:Int) (hz:z≠0) (hf:¬ (f=0\/f=1\/f=2)) (w:World):Calls Tryz.prog 90 #[plV h x f,.int .i64 z] w fun e w'=>ChkR d t e/\Below w.heap.size w w':=by
 have HB0:=Lib.hid (bel1 w (.cells #[sv h,sv x,.int .i64 f] 44))
 have HR:=Lib.hid (chkR_bad (d:=d) (t:=t) (y:=1) (by decide))
 obtain ⟨c0,c1,c2⟩:=at3_new w h x f 44
 have hz2:(z==0)=false:=by simpa using hz
 by_cases h0:f < 0
 ·clear hz hf
  go_enter Tryz.func90,Tryz.ntmps90
  go_wp2
  go_ret
  exact ⟨HR.out,HB0.out⟩
 ·have h2:2 < f:=by omega
  clear hz hf
  go_enter Tryz.func90,Tryz.ntmps90
  go_wp2
  go_ret
  exact ⟨HR.out,HB0.out⟩
theorem at4_new (w:World) (k:Int) (n:Nat) (c:Int) (x:Sl) (e:TypeId):At4 (w.alloc (.cells #[.int .i64 k,.float .f64 n,.int .i32 c,sv x] e)) w.heap.size 0 k n c x:=by
 have hc:∀ j u,#[Value.int .i64 k,.float .f64 n,.int .i32 c,sv x][j]?=some u->(w.alloc (.cells #[.int .i64 k,.float .f64 n,.int .i32 c,sv x] e)).cell? ⟨w.heap.size,j,none⟩=some u:=by
  intro j u hu
  rw [cell_of_row _ w.heap.size j _ e (0,0) (heap_alloc_new w _)]
  exact hu
 exact ⟨hc 0 _ rfl,hc 1 _ rfl,hc 2 _ rfl,hc 3 _ rfl⟩
theorem st_item (w:World) (k:Int) (x n:Nat) (c:Int) (y:Value) (e:TypeId) (md:Mode) :
  (store ⟨w.heap.size,1,none⟩ (.float .f64 n) md).run Tryz.prog (w.alloc (.cells #[.int .i64 k,.float .f64 x,.int .i32 c,y] e))= .ok () (w.alloc (.cells #[.int .i64 k,.float .f64 n,.int .i32 c,y] e)):=by
 have hg:=heap_alloc_new w (.cells #[.int .i64 k,.float .f64 x,.int .i32 c,y] e)
 have hc:(w.alloc (.cells #[.int .i64 k,.float .f64 x,.int .i32 c,y] e)).cell? ⟨w.heap.size,1,none⟩=some (.float .f64 x):=by
  rw [cell_of_row _ w.heap.size 1 _ e (0,0) hg];rfl
 have hz:(w.alloc (.cells #[.int .i64 k,.float .f64 x,.int .i32 c,y] e)).frozen? ⟨w.heap.size,1,none⟩=false:=frozen_of_row _ _ _ _ _ hg
 rw [store_float hc hz .f64 n md,World.setCell_alloc_at _ _ _ _ _ rfl]
 rfl
theorem okI_0 {d:Nat}{n:Nat}{c:Int}{box:List RP} (h:okF n=true) (hn:n < 18446744073709551616):OkI d 0 (.mk 0 n c box):=by
 rw [OkI];exact ⟨rfl,fun _=>⟨h,hn⟩,fun e=>by cases e⟩
theorem okI_1 {d:Nat}{n:Nat}{c:Int}{box:List RP}:OkI d 1 (.mk 1 n c box):=by
 rw [OkI];exact ⟨rfl,fun e=>(by cases e),fun e=>by cases e⟩
theorem okI_2 {d:Nat}{n:Nat}{c:Int}{box:List RP} (h1:box.length=1) (h2:OkPs d box):OkI (d+1) 2 (.mk 2 n c box):=by
 rw [OkI];exact ⟨rfl,fun e=>(by cases e),fun _=>⟨h1,h2⟩⟩
theorem okPs_one {d:Nat}{box:List RP} (h1:box.length=1) (h2:∀ h:0 < box.length,OkP d box[0]):OkPs d box:=by
 match box,h1 with
 | [t],_=>rw [OkPs,OkPs];exact ⟨h2 (by simp),trivial⟩
theorem chk_0 (d:Nat) (hd:d<=40) (s:List Int) (items:List RI) (h x:Sl) (w:World) (hfit:FitIs items) (hM:cntP (.mk s items 0)<=1048576) (hr:PV (fun _=>False) w (.mk s items 0) h x 0) :
  Calls Tryz.prog 90 #[plV h x 0,.int .i64 ((d+1:Nat):Int)] w fun e w'=>ChkR (d+1) (.mk s items 0) e/\Below w.heap.size w w':=by
 obtain ⟨hsr,_,hx,hit⟩:=hr.open_
 obtain ⟨A,m,cc⟩:=x
 dsimp only at hx hit
 have hsz:cntP (.mk s items 0)=items.length+s.length+1+cntIs items:=by rw [cntP]
 rw [hsz] at hM
 have HK:=Lib.hid hit
 have HMI:=Lib.hid hx
 have hmb:m<=1048576:=by omega
 have HFT:Hid (∀ i (hi:i < items.length),FitI items[i]):=fun i hi=>fitIs_at hi hfit
 have HCN:Hid (∀ i (hi:i < items.length),cntI items[i]<=1048576):=fun i hi=>by have:=cntIs_at hi;omega
 have HPR:Hid (∀ W,Below w.heap.size w W->Calls Tryz.prog 130 #[sv h,.int .i64 1048576] W fun e w'=>(∃ n z:Int,e= .returned (.tuple #[.int .i64 n,.int .i64 z])/\(z=0->∃ (sn:List Nat) (m:Nat),s=sn.map Int.ofNat/\OkSh sn m/\n=(m:Int)))/\W=w'):=fun W hb=>rprod_any _ s W (hsr.step hb).now (by omega)
 have HX0:=Lib.hid (at3_new w h (A,m,cc) 0 44)
 have HB0:=Lib.hid (bel1 w (.cells #[sv h,.slice A m cc,.int .i64 0] 44))
 have HB00:=Lib.hid (HPR.out _ HB0.out)
 obtain ⟨z,hz⟩:∃ z:Int,z=((d+1:Nat):Int):=⟨_,rfl⟩
 rw [<- hz]
 have hz0:(z==0)=false:=by simp;omega
 clear hz hx hsz hM hit hfit hsr hr HPR
 go_enter Tryz.func90,Tryz.ntmps90
 obtain ⟨c0,c1,c2⟩:=HX0.out
 dsimp only [sv] at c1
 go_wp2_with fail
 refine HB00.out.mono ?_
 rintro e w1 ⟨⟨n,y,rfl,hy⟩,rfl⟩
 have HY:=Lib.hid hy
 clear hy HB00
 by_cases hy0:y=0
 ·subst hy0
  obtain ⟨sn,M,hs,hok,rfl⟩:=HY.out rfl
  have HS:=Lib.hid hs
  have HOK:=Lib.hid hok
  clear hs hok HY
  by_cases hMm:M=m
  ·subst hMm
   have hne:((M:Int) != (M:Int))=false:=by simp
   have HFIN:Hid ((∀ j (hj:j < items.length),OkI (d+1) 0 items[j])->OkP (d+1) (.mk s items 0)):=fun hall=>by
    rw [OkP]
    exact ⟨by omega,by decide,⟨sn,HS.out,by have h1:=HOK.out;rw [HMI.out] at h1;exact h1⟩,okIs_of items hall⟩
   clear HS HOK
   generalize hW:w.alloc (.cells #[sv h,.slice A M cc,.int .i64 0] 44)=W at *
   clear hW
   go_wp2
   go_loopw [7,8,9,10] (fun gv iv _ _ wr=>∃ (i:Nat) (g:Bool),i<=M/\iv= .int .i64 (i:Int)/\gv= .bool g/\Hid (g=true->∀ j (hj:j < items.length),j < i->OkI (d+1) 0 items[j])/\Below W.heap.size W wr) (fun _ iv _ _ _=>M - (intOf iv).toNat)
   case atStart=>exact ⟨0,true,Nat.zero_le _,rfl,rfl,fun _ j _ hj=>absurd hj (Nat.not_lt_zero _),Below.refl _ _⟩
   case round =>
    clear c0 c1 c2
    obtain ⟨i,g,hi,rfl,rfl,hq,hbl⟩:=hrel
    have HBL:=Lib.hid hbl
    have HBW:=Lib.hid (bel_both HB0.out hbl)
    obtain ⟨c0,c1,c2⟩:=HX0.out.of (w':=wr) fun j=>hbl.cell (p:=⟨w.heap.size,j,none⟩) HX0.out.lt
    dsimp only [sv] at c1
    clear hbl
    by_cases him:i < M
    ·have him2:(i:Int) < (M:Int):=by omega
     have hik:i < items.length:=by have:=HMI.out;omega
     obtain ⟨b,o,k',n',c',y,rfl,-,hiv,hat⟩:=HK.out i hik
     have HSTEP:Hid (OkI (d+1) 0 items[i]->g=true->∀ j (hj:j < items.length),j < i+1->OkI (d+1) 0 items[j]):=fun h1 h2 j hj hji=>by
      by_cases e:j=i
      ·subst e;exact h1
      ·exact hq.out h2 j hj (by omega)
     have HFI:=Lib.hid (HFT.out i hik)
     have HCI:=Lib.hid (HCN.out i hik)
     clear hq
     generalize items[i]=it at hiv HSTEP HFI HCI
     cases it with
     | mk kind num char box =>
     obtain ⟨rfl,rfl,rfl,hy,hbx⟩:=hiv.open_
     obtain ⟨d0,d1,d2,d3⟩:=hat wr (Lat.below HBW.out)
     dsimp only [sv] at d3
     have hnum:n' < 18446744073709551616:=by have:=HFI.out;rw [FitI] at this;exact this.1
     obtain ⟨yA,ym,yc⟩:=y
     dsimp only at hy hbx
     have HYL:=Lib.hid hy
     have HBX:=Lib.hid hbx
     have HN4:=Lib.hid (at4_new wr k' n' c' (yA,ym,yc) 106)
     have HBA:=Lib.hid (bel_both HBL.out (bel1 wr (.cells #[.int .i64 k',.float .f64 n',.int .i32 c',.slice yA ym yc] 106)))
     have HBR:=Lib.hid (bel_both HBW.out (bel1 wr (.cells #[.int .i64 k',.float .f64 n',.int .i32 c',.slice yA ym yc] 106)))
     have HZ0:=Lib.hid HX0.out.lt
     have HZ1:=Lib.hid HBL.out.size
     clear hy hbx hat hiv
     have b1:=fun o=>cell_box1 c1 o
     have b2:=fun o=>cell_box1 c2 o
     have hst:=fun md=>st_item wr k' 0 n' 0 (.slice none 0 0) 106 md
     have HBAD:=Lib.hid (chkR_bad (d:=d+1) (t := .mk s items 0) (y:=1) (by decide))
     by_cases hkf:k'=0
     ·subst hkf
      have HFA:=Lib.hid (fun W=>finite_any hnum W)
      have HOI:Hid (okF n'=true->OkI (d+1) 0 (.mk 0 n' c' box)):=fun h=>okI_0 h hnum
      clear hnum
      generalize okF n'=fb at HFA HOI
      cases g with
      | true =>
       have HJ:Hid (fb=true->∀ j (hj:j < items.length),j < i+1->OkI (d+1) 0 items[j]):=fun h=>HSTEP.out (HOI.out h) rfl
       clear HSTEP HOI
       go_wp2_with fail
       refine (HFA.out _).mono ?_
       rintro e w2 ⟨rfl,rfl⟩
       go_wp2
       go_roundw
       case rel=>exact ⟨i+1,fb,by omega,by go_num,rfl,HJ.out,HBA.out⟩
       case measure=>simp [intOf];omega
      | false =>
       have HJ:Hid (false=true->∀ j (hj:j < items.length),j < i+1->OkI (d+1) 0 items[j]):=fun h=>by cases h
       clear HSTEP HOI
       go_wp2
       go_roundw
       case rel=>exact ⟨i+1,false,by omega,by go_num,rfl,HJ.out,HBA.out⟩
       case measure=>simp [intOf];omega
     ·have hkf2:(k' != 0)=true:=by simpa using hkf
      clear HSTEP hnum hkf
      go_wp2
      go_ret
      exact ⟨HBAD.out,HBR.out⟩
    ·have him2:¬ (i:Int) < (M:Int):=by omega
     have HIE:Hid (i=items.length):=by unfold Hid;have:=HMI.out;omega
     cases g with
     | true =>
      have HF:Hid (ChkR (d+1) (.mk s items 0) (.returned (.int .i64 0))):=⟨0,rfl,fun _=>HFIN.out fun j hj=>hq.out rfl j hj (by have:=HIE.out;omega)⟩
      clear hq
      go_wp2
      go_ret
      exact ⟨HF.out,HBW.out⟩
     | false =>
      have HF:=Lib.hid (chkR_bad (d:=d+1) (t := .mk s items 0) (y:=1) (by decide))
      clear hq
      go_wp2
      go_ret
      exact ⟨HF.out,HBW.out⟩
  ·have hne:((M:Int) != (m:Int))=true:=by simp;omega
   have HF:=Lib.hid (chkR_bad (d:=d+1) (t := .mk s items 0) (y:=23) (by decide))
   clear hMm
   go_wp2
   go_ret
   exact ⟨HF.out,HB0.out⟩
 ·have hne:(y != 0)=true:=by simpa using hy0
  have HF:=Lib.hid (chkR_bad (d:=d+1) (t := .mk s items 0) (y:=y) hy0)
  clear hy0 HY
  go_wp2
  go_ret
  exact ⟨HF.out,HB0.out⟩
theorem chk_1 (d:Nat) (hd:d<=40) (s:List Int) (items:List RI) (h x:Sl) (w:World) (hfit:FitIs items) (hM:cntP (.mk s items 1)<=1048576) (hr:PV (fun _=>False) w (.mk s items 1) h x 1) :
  Calls Tryz.prog 90 #[plV h x 1,.int .i64 ((d+1:Nat):Int)] w fun e w'=>ChkR (d+1) (.mk s items 1) e/\Below w.heap.size w w':=by
 obtain ⟨hsr,_,hx,hit⟩:=hr.open_
 obtain ⟨A,m,cc⟩:=x
 dsimp only at hx hit
 have hsz:cntP (.mk s items 1)=items.length+s.length+1+cntIs items:=by rw [cntP]
 rw [hsz] at hM
 have HK:=Lib.hid hit
 have HMI:=Lib.hid hx
 have hmb:m<=1048576:=by omega
 have HFT:Hid (∀ i (hi:i < items.length),FitI items[i]):=fun i hi=>fitIs_at hi hfit
 have HCN:Hid (∀ i (hi:i < items.length),cntI items[i]<=1048576):=fun i hi=>by have:=cntIs_at hi;omega
 have HPR:Hid (∀ W,Below w.heap.size w W->Calls Tryz.prog 130 #[sv h,.int .i64 1048576] W fun e w'=>(∃ n z:Int,e= .returned (.tuple #[.int .i64 n,.int .i64 z])/\(z=0->∃ (sn:List Nat) (m:Nat),s=sn.map Int.ofNat/\OkSh sn m/\n=(m:Int)))/\W=w'):=fun W hb=>rprod_any _ s W (hsr.step hb).now (by omega)
 have HX0:=Lib.hid (at3_new w h (A,m,cc) 1 44)
 have HB0:=Lib.hid (bel1 w (.cells #[sv h,.slice A m cc,.int .i64 1] 44))
 have HB00:=Lib.hid (HPR.out _ HB0.out)
 obtain ⟨z,hz⟩:∃ z:Int,z=((d+1:Nat):Int):=⟨_,rfl⟩
 rw [<- hz]
 have hz0:(z==0)=false:=by simp;omega
 clear hz hx hsz hM hit hfit hsr hr HPR
 go_enter Tryz.func90,Tryz.ntmps90
 obtain ⟨c0,c1,c2⟩:=HX0.out
 dsimp only [sv] at c1
 go_wp2_with fail
 refine HB00.out.mono ?_
 rintro e w1 ⟨⟨n,y,rfl,hy⟩,rfl⟩
 have HY:=Lib.hid hy
 clear hy HB00
 by_cases hy0:y=0
 ·subst hy0
  obtain ⟨sn,M,hs,hok,rfl⟩:=HY.out rfl
  have HS:=Lib.hid hs
  have HOK:=Lib.hid hok
  clear hs hok HY
  by_cases hMm:M=m
  ·subst hMm
   have hne:((M:Int) != (M:Int))=false:=by simp
   have HFIN:Hid ((∀ j (hj:j < items.length),OkI (d+1) 1 items[j])->OkP (d+1) (.mk s items 1)):=fun hall=>by
    rw [OkP]
    exact ⟨by omega,by decide,⟨sn,HS.out,by have h1:=HOK.out;rw [HMI.out] at h1;exact h1⟩,okIs_of items hall⟩
   clear HS HOK
   generalize hW:w.alloc (.cells #[sv h,.slice A M cc,.int .i64 1] 44)=W at *
   clear hW
   go_wp2
   go_loopw [7,8,9,10] (fun gv iv _ _ wr=>∃ (i:Nat) (g:Bool),i<=M/\iv= .int .i64 (i:Int)/\gv= .bool g/\Hid (g=true->∀ j (hj:j < items.length),j < i->OkI (d+1) 1 items[j])/\Below W.heap.size W wr) (fun _ iv _ _ _=>M - (intOf iv).toNat)
   case atStart=>exact ⟨0,true,Nat.zero_le _,rfl,rfl,fun _ j _ hj=>absurd hj (Nat.not_lt_zero _),Below.refl _ _⟩
   case round =>
    clear c0 c1 c2
    obtain ⟨i,g,hi,rfl,rfl,hq,hbl⟩:=hrel
    have HBL:=Lib.hid hbl
    have HBW:=Lib.hid (bel_both HB0.out hbl)
    obtain ⟨c0,c1,c2⟩:=HX0.out.of (w':=wr) fun j=>hbl.cell (p:=⟨w.heap.size,j,none⟩) HX0.out.lt
    dsimp only [sv] at c1
    clear hbl
    by_cases him:i < M
    ·have him2:(i:Int) < (M:Int):=by omega
     have hik:i < items.length:=by have:=HMI.out;omega
     obtain ⟨b,o,k',n',c',y,rfl,-,hiv,hat⟩:=HK.out i hik
     have HSTEP:Hid (OkI (d+1) 1 items[i]->g=true->∀ j (hj:j < items.length),j < i+1->OkI (d+1) 1 items[j]):=fun h1 h2 j hj hji=>by
      by_cases e:j=i
      ·subst e;exact h1
      ·exact hq.out h2 j hj (by omega)
     have HFI:=Lib.hid (HFT.out i hik)
     have HCI:=Lib.hid (HCN.out i hik)
     clear hq
     generalize items[i]=it at hiv HSTEP HFI HCI
     cases it with
     | mk kind num char box =>
     obtain ⟨rfl,rfl,rfl,hy,hbx⟩:=hiv.open_
     obtain ⟨d0,d1,d2,d3⟩:=hat wr (Lat.below HBW.out)
     dsimp only [sv] at d3
     have hnum:n' < 18446744073709551616:=by have:=HFI.out;rw [FitI] at this;exact this.1
     obtain ⟨yA,ym,yc⟩:=y
     dsimp only at hy hbx
     have HYL:=Lib.hid hy
     have HBX:=Lib.hid hbx
     have HN4:=Lib.hid (at4_new wr k' n' c' (yA,ym,yc) 106)
     have HBA:=Lib.hid (bel_both HBL.out (bel1 wr (.cells #[.int .i64 k',.float .f64 n',.int .i32 c',.slice yA ym yc] 106)))
     have HBR:=Lib.hid (bel_both HBW.out (bel1 wr (.cells #[.int .i64 k',.float .f64 n',.int .i32 c',.slice yA ym yc] 106)))
     have HZ0:=Lib.hid HX0.out.lt
     have HZ1:=Lib.hid HBL.out.size
     clear hy hbx hat hiv
     have b1:=fun o=>cell_box1 c1 o
     have b2:=fun o=>cell_box1 c2 o
     have hst:=fun md=>st_item wr k' 0 n' 0 (.slice none 0 0) 106 md
     have HBAD:=Lib.hid (chkR_bad (d:=d+1) (t := .mk s items 1) (y:=1) (by decide))
     by_cases hkf:k'=1
     ·subst hkf
      have HJ:Hid (g=true->∀ j (hj:j < items.length),j < i+1->OkI (d+1) 1 items[j]):=HSTEP.out okI_1
      clear HSTEP hnum
      cases g with
      | true =>
       go_wp2
       go_roundw
       case rel=>exact ⟨i+1,true,by omega,by go_num,rfl,HJ.out,HBA.out⟩
       case measure=>simp [intOf];omega
      | false =>
       go_wp2
       go_roundw
       case rel=>exact ⟨i+1,false,by omega,by go_num,rfl,HJ.out,HBA.out⟩
       case measure=>simp [intOf];omega
     ·have hkf2:(k' != 1)=true:=by simpa using hkf
      clear HSTEP hnum hkf
      go_wp2
      go_ret
      exact ⟨HBAD.out,HBR.out⟩
    ·have him2:¬ (i:Int) < (M:Int):=by omega
     have HIE:Hid (i=items.length):=by unfold Hid;have:=HMI.out;omega
     cases g with
     | true =>
      have HF:Hid (ChkR (d+1) (.mk s items 1) (.returned (.int .i64 0))):=⟨0,rfl,fun _=>HFIN.out fun j hj=>hq.out rfl j hj (by have:=HIE.out;omega)⟩
      clear hq
      go_wp2
      go_ret
      exact ⟨HF.out,HBW.out⟩
     | false =>
      have HF:=Lib.hid (chkR_bad (d:=d+1) (t := .mk s items 1) (y:=1) (by decide))
      clear hq
      go_wp2
      go_ret
      exact ⟨HF.out,HBW.out⟩
  ·have hne:((M:Int) != (m:Int))=true:=by simp;omega
   have HF:=Lib.hid (chkR_bad (d:=d+1) (t := .mk s items 1) (y:=23) (by decide))
   clear hMm
   go_wp2
   go_ret
   exact ⟨HF.out,HB0.out⟩
 ·have hne:(y != 0)=true:=by simpa using hy0
  have HF:=Lib.hid (chkR_bad (d:=d+1) (t := .mk s items 1) (y:=y) hy0)
  clear hy0 HY
  go_wp2
  go_ret
  exact ⟨HF.out,HB0.out⟩
theorem chk_2 (d:Nat) (hd:d<=40) (hIH:∀ (t:RP) (h x:Sl) (f:Int) (w:World),FitP t->cntP t<=1048576->PV (fun _=>False) w t h x f->Calls Tryz.prog 90 #[plV h x f,.int .i64 (d:Int)] w fun e w'=>ChkR d t e/\Below w.heap.size w w') (s:List Int) (items:List RI) (h x:Sl) (w:World) (hfit:FitIs items) (hM:cntP (.mk s items 2)<=1048576) (hr:PV (fun _=>False) w (.mk s items 2) h x 2) :
  Calls Tryz.prog 90 #[plV h x 2,.int .i64 ((d+1:Nat):Int)] w fun e w'=>ChkR (d+1) (.mk s items 2) e/\Below w.heap.size w w':=by
 obtain ⟨hsr,_,hx,hit⟩:=hr.open_
 obtain ⟨A,m,cc⟩:=x
 dsimp only at hx hit
 have hsz:cntP (.mk s items 2)=items.length+s.length+1+cntIs items:=by rw [cntP]
 rw [hsz] at hM
 have HK:=Lib.hid hit
 have HMI:=Lib.hid hx
 have hmb:m<=1048576:=by omega
 have HFT:Hid (∀ i (hi:i < items.length),FitI items[i]):=fun i hi=>fitIs_at hi hfit
 have HCN:Hid (∀ i (hi:i < items.length),cntI items[i]<=1048576):=fun i hi=>by have:=cntIs_at hi;omega
 have HPR:Hid (∀ W,Below w.heap.size w W->Calls Tryz.prog 130 #[sv h,.int .i64 1048576] W fun e w'=>(∃ n z:Int,e= .returned (.tuple #[.int .i64 n,.int .i64 z])/\(z=0->∃ (sn:List Nat) (m:Nat),s=sn.map Int.ofNat/\OkSh sn m/\n=(m:Int)))/\W=w'):=fun W hb=>rprod_any _ s W (hsr.step hb).now (by omega)
 have HX0:=Lib.hid (at3_new w h (A,m,cc) 2 44)
 have HB0:=Lib.hid (bel1 w (.cells #[sv h,.slice A m cc,.int .i64 2] 44))
 have HB00:=Lib.hid (HPR.out _ HB0.out)
 obtain ⟨z,hz⟩:∃ z:Int,z=((d+1:Nat):Int):=⟨_,rfl⟩
 rw [<- hz]
 have hz0:(z==0)=false:=by simp;omega
 have hz1:z - 1=(d:Int):=by omega
 have hz2:IntKind.i64.wrap (d:Int)=(d:Int):=IntWalk.i64_in _ (by omega)
 have HIH:=Lib.hid hIH
 clear hIH
 clear hz hx hsz hM hit hfit hsr hr HPR
 go_enter Tryz.func90,Tryz.ntmps90
 obtain ⟨c0,c1,c2⟩:=HX0.out
 dsimp only [sv] at c1
 go_wp2_with fail
 refine HB00.out.mono ?_
 rintro e w1 ⟨⟨n,y,rfl,hy⟩,rfl⟩
 have HY:=Lib.hid hy
 clear hy HB00
 by_cases hy0:y=0
 ·subst hy0
  obtain ⟨sn,M,hs,hok,rfl⟩:=HY.out rfl
  have HS:=Lib.hid hs
  have HOK:=Lib.hid hok
  clear hs hok HY
  by_cases hMm:M=m
  ·subst hMm
   have hne:((M:Int) != (M:Int))=false:=by simp
   have HFIN:Hid ((∀ j (hj:j < items.length),OkI (d+1) 2 items[j])->OkP (d+1) (.mk s items 2)):=fun hall=>by
    rw [OkP]
    exact ⟨by omega,by decide,⟨sn,HS.out,by have h1:=HOK.out;rw [HMI.out] at h1;exact h1⟩,okIs_of items hall⟩
   clear HS HOK
   generalize hW:w.alloc (.cells #[sv h,.slice A M cc,.int .i64 2] 44)=W at *
   clear hW
   go_wp2
   go_loopw [7,8,9,10] (fun gv iv _ _ wr=>∃ (i:Nat) (g:Bool),i<=M/\iv= .int .i64 (i:Int)/\gv= .bool g/\Hid (g=true->∀ j (hj:j < items.length),j < i->OkI (d+1) 2 items[j])/\Below W.heap.size W wr) (fun _ iv _ _ _=>M - (intOf iv).toNat)
   case atStart=>exact ⟨0,true,Nat.zero_le _,rfl,rfl,fun _ j _ hj=>absurd hj (Nat.not_lt_zero _),Below.refl _ _⟩
   case round =>
    clear c0 c1 c2
    obtain ⟨i,g,hi,rfl,rfl,hq,hbl⟩:=hrel
    have HBL:=Lib.hid hbl
    have HBW:=Lib.hid (bel_both HB0.out hbl)
    obtain ⟨c0,c1,c2⟩:=HX0.out.of (w':=wr) fun j=>hbl.cell (p:=⟨w.heap.size,j,none⟩) HX0.out.lt
    dsimp only [sv] at c1
    clear hbl
    by_cases him:i < M
    ·have him2:(i:Int) < (M:Int):=by omega
     have hik:i < items.length:=by have:=HMI.out;omega
     obtain ⟨b,o,k',n',c',y,rfl,-,hiv,hat⟩:=HK.out i hik
     have HSTEP:Hid (OkI (d+1) 2 items[i]->g=true->∀ j (hj:j < items.length),j < i+1->OkI (d+1) 2 items[j]):=fun h1 h2 j hj hji=>by
      by_cases e:j=i
      ·subst e;exact h1
      ·exact hq.out h2 j hj (by omega)
     have HFI:=Lib.hid (HFT.out i hik)
     have HCI:=Lib.hid (HCN.out i hik)
     clear hq
     generalize items[i]=it at hiv HSTEP HFI HCI
     cases it with
     | mk kind num char box =>
     obtain ⟨rfl,rfl,rfl,hy,hbx⟩:=hiv.open_
     obtain ⟨d0,d1,d2,d3⟩:=hat wr (Lat.below HBW.out)
     dsimp only [sv] at d3
     have hnum:n' < 18446744073709551616:=by have:=HFI.out;rw [FitI] at this;exact this.1
     obtain ⟨yA,ym,yc⟩:=y
     dsimp only at hy hbx
     have HYL:=Lib.hid hy
     have HBX:=Lib.hid hbx
     have HN4:=Lib.hid (at4_new wr k' n' c' (yA,ym,yc) 106)
     have HBA:=Lib.hid (bel_both HBL.out (bel1 wr (.cells #[.int .i64 k',.float .f64 n',.int .i32 c',.slice yA ym yc] 106)))
     have HBR:=Lib.hid (bel_both HBW.out (bel1 wr (.cells #[.int .i64 k',.float .f64 n',.int .i32 c',.slice yA ym yc] 106)))
     have HZ0:=Lib.hid HX0.out.lt
     have HZ1:=Lib.hid HBL.out.size
     clear hy hbx hat hiv
     have b1:=fun o=>cell_box1 c1 o
     have b2:=fun o=>cell_box1 c2 o
     have hst:=fun md=>st_item wr k' 0 n' 0 (.slice none 0 0) 106 md
     have HBAD:=Lib.hid (chkR_bad (d:=d+1) (t := .mk s items 2) (y:=1) (by decide))
     by_cases hkf:k'=2
     ·subst hkf
      by_cases hym:ym=1
      ·subst hym
       have hb0:0 < box.length:=by have:=HYL.out;omega
       obtain ⟨bb,o2,h',y',f',rfl,-,hpv,hat3⟩:=HBX.out 0 hb0
       obtain ⟨e0,e1,e2⟩:=hat3 _ (Lat.below HBR.out)
       simp only [Nat.zero_mul,Nat.add_zero] at e0 e1 e2
       have HIC:=Lib.hid (HIH.out box[0] h' y' f' _ (by have:=HFI.out;rw [FitI] at this;exact fitPs_at hb0 this.2) (by have:=HCI.out;rw [cntI] at this;have:=cntPs_at hb0;omega) (hpv.step HBR.out))
       have HOI:Hid (OkP d box[0]->g=true->∀ j (hj:j < items.length),j < i+1->OkI (d+1) 2 items[j]):=fun h=>HSTEP.out (okI_2 HYL.out.symm (okPs_one HYL.out.symm fun _=>h))
       clear hpv hat3 HSTEP hnum
       generalize box[0]=zt at *
       go_wp2_with fail
       refine HIC.out.mono ?_
       rintro e w2 ⟨⟨y2,rfl,hy2⟩,hb⟩
       have HY2:=Lib.hid hy2
       have HB2:=Lib.hid (bel_both HBA.out hb)
       have HB2W:=Lib.hid (bel_both HBR.out hb)
       obtain ⟨a0,a1,a2,a3⟩:=HN4.out.of (w':=w2) fun j=>hb.cell (p:=⟨wr.heap.size,j,none⟩) HN4.out.lt
       dsimp only [sv] at a3
       clear hb hy2
       by_cases hy20:y2=0
       ·subst hy20
        have HJ:Hid (g=true->∀ j (hj:j < items.length),j < i+1->OkI (d+1) 2 items[j]):=HOI.out (HY2.out rfl)
        clear HOI HY2
        cases g with
        | true =>
         have HJ2:Hid (true=true->∀ j (hj:j < items.length),j < i+1->OkI (d+1) 2 items[j]):=fun _=>HJ.out (by trivial)
         clear HJ
         go_wp2
         go_roundw
         case rel=>exact ⟨i+1,true,by omega,by go_num,rfl,(show Hid _ from fun _=>HJ2.out (by trivial)),HB2.out⟩
         case measure=>simp [intOf];omega
        | false =>
         go_wp2
         go_roundw
         case rel=>exact ⟨i+1,false,by omega,by go_num,rfl,HJ.out,HB2.out⟩
         case measure=>simp [intOf];omega
       ·have hne2:(y2 != 0)=true:=by simpa using hy20
        have HBD:=Lib.hid (chkR_bad (d:=d+1) (t := .mk s items 2) (y:=y2) hy20)
        clear HOI HY2 hy20
        go_wp2
        go_ret
        exact ⟨HBD.out,HB2W.out⟩
      ·have hne2:((ym:Int) != 1)=true:=by simp;omega
       clear HSTEP hnum hym
       go_wp2
       go_ret
       exact ⟨HBAD.out,HBR.out⟩
     ·have hkf2:(k' != 2)=true:=by simpa using hkf
      clear HSTEP hnum hkf
      go_wp2
      go_ret
      exact ⟨HBAD.out,HBR.out⟩
    ·have him2:¬ (i:Int) < (M:Int):=by omega
     have HIE:Hid (i=items.length):=by unfold Hid;have:=HMI.out;omega
     cases g with
     | true =>
      have HF:Hid (ChkR (d+1) (.mk s items 2) (.returned (.int .i64 0))):=⟨0,rfl,fun _=>HFIN.out fun j hj=>hq.out rfl j hj (by have:=HIE.out;omega)⟩
      clear hq
      go_wp2
      go_ret
      exact ⟨HF.out,HBW.out⟩
     | false =>
      have HF:=Lib.hid (chkR_bad (d:=d+1) (t := .mk s items 2) (y:=1) (by decide))
      clear hq
      go_wp2
      go_ret
      exact ⟨HF.out,HBW.out⟩
  ·have hne:((M:Int) != (m:Int))=true:=by simp;omega
   have HF:=Lib.hid (chkR_bad (d:=d+1) (t := .mk s items 2) (y:=23) (by decide))
   clear hMm
   go_wp2
   go_ret
   exact ⟨HF.out,HB0.out⟩
 ·have hne:(y != 0)=true:=by simpa using hy0
  have HF:=Lib.hid (chkR_bad (d:=d+1) (t := .mk s items 2) (y:=y) hy0)
  clear hy0 HY
  go_wp2
  go_ret
  exact ⟨HF.out,HB0.out⟩
theorem chk_walk:∀ (d:Nat) (t:RP) (h x:Sl) (f:Int) (w:World),d<=40->FitP t->cntP t<=1048576->PV (fun _=>False) w t h x f ->
  Calls Tryz.prog 90 #[plV h x f,.int .i64 (d:Int)] w fun e w'=>ChkR d t e/\Below w.heap.size w w'
 | 0,t,h,x,f,w,_,_,_,_=>chk_zero t h x f w
 | d+1,.mk s items fill,h,x,f,w,hd,hfit,hM,hr=>by
  obtain ⟨_,rfl,_,_⟩:=hr.open_
  rw [FitP] at hfit
  by_cases hf:f=0\/f=1\/f=2
  ·rcases hf with rfl | rfl | rfl
   ·exact chk_0 d (by omega) s items h x w hfit hM hr
   ·exact chk_1 d (by omega) s items h x w hfit hM hr
   ·exact chk_2 d (by omega) (fun t h x f w h1 h2 h3=>chk_walk d t h x f w (by omega) h1 h2 h3) s items h x w hfit hM hr
  ·exact chk_fill (d+1) _ h x f _ (by omega) hf w
theorem check_any (t:RP) (h x:Sl) (f:Int) (w:World) (hfit:FitP t) (hM:cntP t<=1048576) (hr:PV (fun _=>False) w t h x f) :
  Calls Tryz.prog 43 #[plV h x f] w fun e w'=>ChkR 40 t e/\Below w.heap.size w w':=by
 have HB0:=Lib.hid (bel1 w (.cells #[sv h,sv x,.int .i64 f] 44))
 have HC:=Lib.hid (chk_walk 40 t h x f _ (Nat.le_refl _) hfit hM (hr.step HB0.out))
 clear hfit hM hr
 go_enter Tryz.func43,Tryz.ntmps43
 go_wp2_with fail
 refine HC.out.mono ?_
 rintro e w1 ⟨⟨y,rfl,hy⟩,hb⟩
 have HR:Hid (ChkR 40 t (.returned (.int .i64 y))):=⟨y,rfl,hy⟩
 have HB:=Lib.hid (bel_both HB0.out hb)
 clear hy hb
 go_wp2
 go_ret
 exact ⟨HR.out,HB.out⟩
end Go.Proofs.YtbakjaliponbbaaGreatDoor
