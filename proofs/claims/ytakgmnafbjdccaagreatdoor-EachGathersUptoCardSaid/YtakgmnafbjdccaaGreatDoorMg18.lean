/- Which plain arrays are good; the array that a good one is; the plain array of an array. Plain law. The walk of Count over plain arrays. Products of shapes: .. Conditions: as each theorem says. -/
import Derived.Test.YtakgmnafbjdccaaGreatDoorMg17
import Derived.Test.YtakgmnafbjdccaaGreatDoorMg15
set_option maxRecDepth 100000
set_option maxHeartbeats 2000000
namespace Go.Proofs.YtakgmnafbjdccaaGreatDoor
open Go Go.RowKit Go.Proofs Fl
def prodN:List Nat->Nat
 | []=>1
 | d::s=>d*prodN s
def prod1:List Nat->Nat
 | []=>1
 | d::s=>max 1 d*prod1 s
theorem prod1_pos (s:List Nat):1<=prod1 s:=by
 induction s with
 | nil=>exact Nat.le_refl _
 | cons d s ih=>exact Nat.mul_pos (by omega) ih
theorem prodN_le (s:List Nat):prodN s<=prod1 s:=by
 induction s with
 | nil=>exact Nat.le_refl _
 | cons d s ih=>exact Nat.mul_le_mul (by omega) ih
theorem prodN_zero {s:List Nat} (h:0∈s):prodN s=0:=by
 induction s with
 | nil=>cases h
 | cons d s ih =>
  cases List.mem_cons.1 h with
  | inl e=>subst e;simp [prodN]
  | inr e=>simp [prodN,ih e]
theorem prodN_eq {s:List Nat} (h:0 ∉ s):prodN s=prod1 s:=by
 induction s with
 | nil=>rfl
 | cons d s ih =>
  have h1:d≠0:=fun e=>h (by simp [e])
  have h2:0 ∉ s:=fun e=>h (by simp [e])
  show d*_=max 1 d*_
  rw [ih h2,Nat.max_eq_right (by omega)]
def OkSh (s:List Nat) (n:Nat):Prop:=s.length<=8/\prod1 s<=1048576/\prodN s=n
theorem OkSh.le {s:List Nat}{n:Nat} (h:OkSh s n):n<=1048576:=by
 have:=prodN_le s;have:=h.2.1;have:=h.2.2;omega
mutual
def OkP:Nat->RP->Prop
 | d,.mk s items fill=>0 < d/\(fill=0\/fill=1\/fill=2)/\(∃ sn:List Nat,s=sn.map Int.ofNat/\OkSh sn items.length)/\OkIs d fill items
def OkIs:Nat->Int->List RI->Prop
 | _,_,[]=>True
 | d,fill,t::ts=>OkI d fill t/\OkIs d fill ts
def OkI:Nat->Int->RI->Prop
 | d,fill,.mk k n _ box=>k=fill/\(k=0->okF n=true/\n < 18446744073709551616)/\(k=2->box.length=1/\OkPs (d - 1) box)
def OkPs:Nat->List RP->Prop
 | _,[]=>True
 | d,t::ts=>OkP d t/\OkPs d ts
end
theorem okIs_at {d:Nat}{fill:Int}:∀ {ts:List RI}{i:Nat} (hi:i < ts.length),OkIs d fill ts->OkI d fill ts[i]
 | [],_,hi,_=>by simp at hi
 | t::ts,0,_,h=>by rw [OkIs] at h;exact h.1
 | t::ts,i+1,hi,h=>by rw [OkIs] at h;simpa using okIs_at (ts:=ts) (i:=i) (by simpa using hi) h.2
theorem okIs_of {d:Nat}{fill:Int}:∀ (ts:List RI),(∀ i (hi:i < ts.length),OkI d fill ts[i])->OkIs d fill ts
 | [],_=>by rw [OkIs];trivial
 | t::ts,h=>by
  rw [OkIs]
  exact ⟨by have:=h 0 (by simp);simpa using this,okIs_of ts fun i hi=>by have:=h (i+1) (by simpa using hi);simpa using this⟩
mutual
def FitP:RP->Prop
 | .mk _ items _=>FitIs items
def FitIs:List RI->Prop
 | []=>True
 | t::ts=>FitI t/\FitIs ts
def FitI:RI->Prop
 | .mk _ n _ box=>n < 18446744073709551616/\FitPs box
def FitPs:List RP->Prop
 | []=>True
 | t::ts=>FitP t/\FitPs ts
end
theorem fitIs_at:∀ {ts:List RI}{i:Nat} (hi:i < ts.length),FitIs ts->FitI ts[i]
 | [],_,hi,_=>by simp at hi
 | t::ts,0,_,h=>by rw [FitIs] at h;exact h.1
 | t::ts,i+1,hi,h=>by rw [FitIs] at h;simpa using fitIs_at (ts:=ts) (i:=i) (by simpa using hi) h.2
theorem fitPs_at:∀ {ts:List RP}{i:Nat} (hi:i < ts.length),FitPs ts->FitP ts[i]
 | [],_,hi,_=>by simp at hi
 | t::ts,0,_,h=>by rw [FitPs] at h;exact h.1
 | t::ts,i+1,hi,h=>by rw [FitPs] at h;simpa using fitPs_at (ts:=ts) (i:=i) (by simpa using hi) h.2
def RI.numOf:RI->Nat | .mk _ n _ _=>n
def RI.charOf:RI->Int | .mk _ _ c _=>c
mutual
def clP:RP->PA
 | .mk s items fill=>if fill=0 then .nums (s.map Int.toNat) (items.map fun t=>tidF t.numOf) else if fill=1 then .chars (s.map Int.toNat) (items.map RI.charOf) else .boxes (s.map Int.toNat) (clIs items)
def clIs:List RI->List PA
 | []=>[]
 | t::ts=>clI t::clIs ts
def clI:RI->PA
 | .mk _ _ _ box=>clPs box
def clPs:List RP->PA
 | [] => .nums [] []
 | t::_=>clP t
end
theorem clIs_len:∀ ts:List RI,(clIs ts).length=ts.length
 | []=>by rw [clIs];rfl
 | t::ts=>by rw [clIs];simp [clIs_len ts]
theorem clIs_at:∀ {ts:List RI}{i:Nat} (hi:i < ts.length) (h2:i < (clIs ts).length),(clIs ts)[i]=clI ts[i]
 | [],_,hi,_=>by simp at hi
 | t::ts,0,_,_=>by simp [clIs]
 | t::ts,i+1,hi,h2=>by
  have:=clIs_at (ts:=ts) (i:=i) (by simpa using hi) (by rw [clIs_len];simpa using hi)
  simp only [clIs,List.getElem_cons_succ]
  exact this
mutual
def rawP:PA->RP
 | .nums s l => .mk (s.map Int.ofNat) (l.map fun x => .mk 0 x 0 []) 0
 | .chars s l => .mk (s.map Int.ofNat) (l.map fun c => .mk 1 0 c []) 1
 | .boxes s l => .mk (s.map Int.ofNat) (rawBs l) 2
def rawBs:List PA->List RI
 | []=>[]
 | a::ar => .mk 2 0 0 [rawP a]::rawBs ar
end
theorem rawBs_len:∀ l:List PA,(rawBs l).length=l.length
 | []=>by rw [rawBs];rfl
 | a::ar=>by rw [rawBs];simp [rawBs_len ar]
theorem rawBs_at:∀ {l:List PA}{i:Nat} (hi:i < l.length) (h2:i < (rawBs l).length),(rawBs l)[i]= .mk 2 0 0 [rawP l[i]]
 | [],_,hi,_=>by simp at hi
 | a::ar,0,_,_=>by simp [rawBs]
 | a::ar,i+1,hi,h2=>by
  have:=rawBs_at (l:=ar) (i:=i) (by simpa using hi) (by rw [rawBs_len];simpa using hi)
  simp only [rawBs,List.getElem_cons_succ]
  exact this
mutual
def GoodA:Nat->PA->Prop
 | d,.nums s l=>0 < d/\OkSh s l.length/\∀ x∈l,TF x
 | d,.chars s l=>0 < d/\OkSh s l.length
 | d,.boxes s l=>0 < d/\OkSh s l.length/\GoodAs (d - 1) l
def GoodAs:Nat->List PA->Prop
 | _,[]=>True
 | d,a::ar=>GoodA d a/\GoodAs d ar
end
theorem goodAs_at {d:Nat}:∀ {l:List PA}{i:Nat} (hi:i < l.length),GoodAs d l->GoodA d l[i]
 | [],_,hi,_=>by simp at hi
 | a::ar,0,_,h=>by rw [GoodAs] at h;exact h.1
 | a::ar,i+1,hi,h=>by rw [GoodAs] at h;simpa using goodAs_at (l:=ar) (i:=i) (by simpa using hi) h.2
theorem goodAs_of {d:Nat}:∀ (l:List PA),(∀ i (hi:i < l.length),GoodA d l[i])->GoodAs d l
 | [],_=>by rw [GoodAs];trivial
 | a::ar,h=>by
  rw [GoodAs]
  exact ⟨by have:=h 0 (by simp);simpa using this,goodAs_of ar fun i hi=>by have:=h (i+1) (by simpa using hi);simpa using this⟩
theorem GoodA.sh {d:Nat}{a:PA} (h:GoodA d a):0 < d/\OkSh a.shape a.len:=by
 cases a <;> (rw [GoodA] at h;first | exact ⟨h.1,h.2.1⟩ | exact h)
theorem GoodA.nums {d:Nat}{s l:List Nat} (h:GoodA d (.nums s l)):∀ j,j < l.length->TF (l.getD j 0):=by
 rw [GoodA] at h
 intro j hj
 have e:l.getD j 0=l[j]:=by simp [List.getD,hj]
 rw [e]
 exact h.2.2 _ (List.getElem_mem hj)
theorem GoodA.boxes {d:Nat}{s:List Nat}{l:List PA} (h:GoodA d (.boxes s l)):∀ i (hi:i < l.length),GoodA (d - 1) l[i]:=by
 rw [GoodA] at h
 exact fun i hi=>goodAs_at hi h.2.2
mutual
theorem GoodA.up {d d':Nat} (hd:d<=d'):∀ (a:PA),GoodA d a->GoodA d' a
 | .nums s l,h=>by rw [GoodA] at h ⊢;exact ⟨by omega,h.2⟩
 | .chars s l,h=>by rw [GoodA] at h ⊢;exact ⟨by omega,h.2⟩
 | .boxes s l,h=>by rw [GoodA] at h ⊢;exact ⟨by omega,h.2.1,GoodAs.up (by omega) l h.2.2⟩
theorem GoodAs.up {d d':Nat} (hd:d<=d'):∀ (l:List PA),GoodAs d l->GoodAs d' l
 | [],_=>by rw [GoodAs];trivial
 | a::ar,h=>by rw [GoodAs] at h ⊢;exact ⟨GoodA.up hd a h.1,GoodAs.up hd ar h.2⟩
end
theorem toNat_of (sn:List Nat):(sn.map Int.ofNat).map Int.toNat=sn:=by
 rw [List.map_map]
 have:(Int.toNat∘Int.ofNat)=id:=by funext x;rfl
 rw [this,List.map_id]
theorem okF_tf {n:Nat} (h:okF n=true) (hb:n < 18446744073709551616):TF (tidF n):=by
 unfold okF at h
 rcases doneP_cases hb with ⟨c,hc,e4⟩ | e4
 ·unfold tidF;rw [e4];exact hc
 ·rw [e4] at h;exact absurd h (by decide)
mutual
theorem okP_good:∀ (d:Nat) (t:RP),OkP d t->GoodA d (clP t)
 | d,.mk s items fill,h=>by
  rw [OkP] at h
  obtain ⟨hd,hf,⟨sn,rfl,hs⟩,hi⟩:=h
  rw [clP,toNat_of]
  rcases hf with rfl | rfl | rfl
  ·rw [if_pos rfl,GoodA]
   refine ⟨hd,by rw [List.length_map];exact hs,fun x hx=>?_⟩
   obtain ⟨t,ht,rfl⟩:=List.mem_map.1 hx
   obtain ⟨i,hi2,rfl⟩:=List.getElem_of_mem ht
   have hk:=okIs_at hi2 hi
   generalize items[i]=t at hk ⊢
   cases t with
   | mk k n c box =>
    rw [OkI] at hk
    obtain ⟨rfl,h1,_⟩:=hk
    exact okF_tf (h1 rfl).1 (h1 rfl).2
  ·rw [if_neg (by decide),if_pos rfl,GoodA]
   exact ⟨hd,by rw [List.length_map];exact hs⟩
  ·rw [if_neg (by decide),if_neg (by decide),GoodA]
   exact ⟨hd,by rw [clIs_len];exact hs,okIs_good d items hi⟩
theorem okIs_good:∀ (d:Nat) (ts:List RI),OkIs d 2 ts->GoodAs (d - 1) (clIs ts)
 | _,[],_=>by rw [clIs,GoodAs];trivial
 | d,t::ts,h=>by
  rw [OkIs] at h
  rw [clIs,GoodAs]
  exact ⟨okI_good d t h.1,okIs_good d ts h.2⟩
theorem okI_good:∀ (d:Nat) (t:RI),OkI d 2 t->GoodA (d - 1) (clI t)
 | d,.mk k n c box,h=>by
  rw [OkI] at h
  obtain ⟨rfl,_,h2⟩:=h
  rw [clI]
  exact okPs_good (d - 1) box (h2 rfl).1 (h2 rfl).2
theorem okPs_good:∀ (d:Nat) (ts:List RP),ts.length=1->OkPs d ts->GoodA d (clPs ts)
 | _,[],h,_=>by simp at h
 | d,t::ts,_,h=>by
  rw [OkPs] at h
  rw [clPs]
  exact okP_good d t h.1
end
def CntR (t:RP) (most:Int) (e:Ending):Prop:=∃ n:Nat,e= .returned (.int .i64 (n:Int))/\1<=n/\n<=cntP t/\((n:Int)<=most->n=cntP t)
theorem at3_new (w:World) (h x:Sl) (f:Int) (e:TypeId):At3 (w.alloc (.cells #[sv h,sv x,.int .i64 f] e)) w.heap.size 0 h x f:=by
 have hc:∀ j u,#[sv h,sv x,Value.int .i64 f][j]?=some u->(w.alloc (.cells #[sv h,sv x,.int .i64 f] e)).cell? ⟨w.heap.size,j,none⟩=some u:=by
  intro j u hu
  rw [cell_of_row _ w.heap.size j _ e (0,0) (heap_alloc_new w _)]
  exact hu
 exact ⟨hc 0 _ rfl,hc 1 _ rfl,hc 2 _ rfl⟩
theorem cnt_walk (most:Int):∀ (N:Nat) (t:RP) (h x:Sl) (f:Int) (w:World),cntP t<=N->cntP t<=1048576->PV (fun _=>False) w t h x f ->
  Calls Tryz.prog 47 #[plV h x f,.int .i64 most] w fun e w'=>CntR t most e/\Below w.heap.size w w'
 | 0,t,_,_,_,_,h,_,_=>by have:=cntP_pos t;omega
 | N+1,.mk s items fill,h,x,f,w,hN,hM,hr=>by
  obtain ⟨hsr,rfl,hx,hit⟩:=hr.open_
  obtain ⟨hA,hn,hc⟩:=h
  obtain ⟨A,m,cc⟩:=x
  obtain ⟨_,_,hse⟩:=RdH.len hsr
  have hn2:hn=s.length:=by
   have h1:Value.slice hA hn hc=_:=hse
   injection h1 with _ h1 _
   simpa using h1
  dsimp only at hx hit
  clear hse hsr hr
  have hsz:cntP (.mk s items f)=items.length+s.length+1+cntIs items:=by rw [cntP]
  rw [hsz] at hN hM
  have HSZ:=Lib.hid hsz
  have HK:=Lib.hid hit
  have HMI:=Lib.hid hx
  have HNS:=Lib.hid hn2
  have hmb:m<=1048576:=by omega
  have hnb:hn<=1048576:=by omega
  obtain ⟨B,hB⟩:∃ B,B=m+hn+1:=⟨_,rfl⟩
  have hB1:(m:Int)+(hn:Int)+1=(B:Int):=by rw [hB];push_cast;rfl
  have hBb:1<=B/\B<=1048576:=by omega
  have HBB:Hid (B=items.length+s.length+1):=by unfold Hid;omega
  have HIH:Hid (∀ t h x f w,cntP t<=N->cntP t<=1048576->PV (fun _=>False) w t h x f->Calls Tryz.prog 47 #[plV h x f,.int .i64 most] w fun e w'=>CntR t most e/\Below w.heap.size w w'):=cnt_walk most N
  have HTK:Hid (∀ i (hi:i < items.length),cntIs (items.take (i+1))=cntIs (items.take i)+cntI items[i]):=fun i hi=>cntIs_take items i hi
  have HLE:Hid (∀ i,cntIs (items.take i)<=cntIs items):=fun i=>cntIs_le items i
  have HN2:Hid (B+cntIs items<=N+1/\B+cntIs items<=1048576):=by unfold Hid;omega
  have HTL:Hid (cntIs (items.take m)=cntIs items):=by unfold Hid;rw [hx,List.take_length]
  have HX0:=Lib.hid (at3_new w (hA,hn,hc) (A,m,cc) f 25)
  have HB0:=Lib.hid (bel1 w (.cells #[.slice hA hn hc,.slice A m cc,.int .i64 f] 25))
  obtain ⟨hBb1,hBb2⟩:=hBb
  clear hx hn2 hsz hN hM hit hB
  go_enter Tryz.func47,Tryz.ntmps47
  go_wp2
  generalize w.alloc (.cells #[.slice hA hn hc,.slice A m cc,.int .i64 f] 25)=W at *
  go_loopw [5,6,7] (fun nv iv _ wr=>∃ (i n:Nat),i<=m/\iv= .int .i64 (i:Int)/\nv= .int .i64 (n:Int)/\1<=n/\n<=1048576/\Hid (n<=B+cntIs (items.take i)/\((n:Int)<=most->n=B+cntIs (items.take i)))/\Below W.heap.size W wr) (fun _ iv _ _=>m - (intOf iv).toNat)
  case atStart=>exact ⟨0,B,Nat.zero_le _,rfl,rfl,hBb1,hBb2,by simp [Hid,cntIs],Below.refl _ _⟩
  case round =>
   obtain ⟨i,n,hi,rfl,rfl,h1,h2,hq,hbl⟩:=hrel
   have HBL:=Lib.hid hbl
   have HBW:=Lib.hid (bel_both HB0.out hbl)
   obtain ⟨c0,c1,c2⟩:=HX0.out.of (w':=wr) fun j=>hbl.cell (p:=⟨w.heap.size,j,none⟩) HX0.out.lt
   dsimp only [sv] at c0 c1
   clear hbl
   by_cases him:i < m
   ·have him2:(i:Int) < (m:Int):=by omega
    by_cases hmo:(n:Int)<=most
    ·have hik:i < items.length:=by have:=HMI.out;omega
     obtain ⟨b,o,k',n',c',y,rfl,-,hiv,hat⟩:=HK.out i hik
     have HTN:=Lib.hid (HTK.out i hik)
     obtain ⟨kind,num,char,box,hit⟩:∃ kind num char box,items[i]= .mk kind num char box:=by cases items[i];exact ⟨_,_,_,_,rfl⟩
     rw [hit] at hiv
     have hci:cntI items[i]=cntPs box:=by rw [hit,cntI]
     rw [hci] at HTN
     obtain ⟨rfl,rfl,rfl,hy,hbx⟩:=hiv.open_
     obtain ⟨yA,ym,yc⟩:=y
     dsimp only at hy hbx
     have HY:=Lib.hid hy
     have HBX:=Lib.hid hbx
     have hbl2:cntPs box<=1048576:=by have:=HTN.out;have:=HLE.out (i+1);have:=HN2.out;omega
     have hlb:∀ l:List RP,l.length<=cntPs l:=fun l=>by
      induction l with
      | nil=>simp
      | cons t l ih=>have:=cntP_pos t;rw [cntPs];simp;omega
     have hymb:ym<=1048576:=by have:=hlb box;omega
     have HPT:Hid (∀ i (hi:i < box.length),cntPs (box.take (i+1))=cntPs (box.take i)+cntP box[i]):=fun i hi=>cntPs_take box i hi
     have HPL:Hid (∀ i,cntPs (box.take i)<=cntPs box):=fun i=>cntPs_le box i
     have HPA:Hid (∀ i (hi:i < box.length),cntP box[i]<=cntPs box):=fun i hi=>cntPs_at hi
     have HPM:Hid (cntPs (box.take ym)=cntPs box):=by unfold Hid;rw [hy,List.take_length]
     have HAT:=Lib.hid hat
     have HWW:=Lib.hid (show wr.heap.size<=wr.heap.size from Nat.le_refl _)
     have HQ:=Lib.hid hq.out
     clear hy hbx hbl2 hlb hat hiv hit hci hq
     obtain ⟨w0,hw0⟩:∃ w0,w0=wr:=⟨_,rfl⟩
     go_wp2
     go_loopw [5,7] (fun nv kv wq=>∃ (k q:Nat),k<=ym/\kv= .int .i64 (k:Int)/\nv= .int .i64 (q:Int)/\1<=q/\q<=1048576/\Hid (q<=B+cntIs (items.take i)+cntPs (box.take k)/\((q:Int)<=most->q=B+cntIs (items.take i)+cntPs (box.take k)))/\Below W.heap.size W wq) (fun _ kv _=>ym - (intOf kv).toNat)
     case atStart=>exact ⟨0,n,Nat.zero_le _,rfl,rfl,h1,h2,by have:=HQ.out;simp [Hid,cntPs];exact this,HBL.out⟩
     case round =>
      clear c0 c1 c2 HBL HBW
      obtain ⟨k,q,hk,rfl,rfl,g1,g2,hq,hbl⟩:=hrel
      have HBL:=Lib.hid hbl
      have HBW:=Lib.hid (bel_both HB0.out hbl)
      obtain ⟨c0,c1,c2⟩:=HX0.out.of (w':=wr) fun j=>hbl.cell (p:=⟨w.heap.size,j,none⟩) HX0.out.lt
      dsimp only [sv] at c0 c1
      obtain ⟨d0,d1,d2,d3⟩:=HAT.out wr (Lat.below HBW.out)
      dsimp only [sv] at d3
      clear hbl
      by_cases hkm:k < ym
      ·have hkm2:(k:Int) < (ym:Int):=by omega
       by_cases hmo2:(q:Int)<=most
       ·have hkb:k < box.length:=by have:=HY.out;omega
        obtain ⟨b2,o2,h',y',f',rfl,-,hpv,hat3⟩:=HBX.out k hkb
        obtain ⟨e0,e1,e2⟩:=hat3 wr (Lat.below HBW.out)
        have HPN:=Lib.hid (HPT.out k hkb)
        have HIC:=Lib.hid (HIH.out box[k] h' y' f' wr (by have:=HPA.out k hkb;have:=HTN.out;have:=HLE.out (i+1);have:=HN2.out;omega) (by have:=HPA.out k hkb;have:=HTN.out;have:=HLE.out (i+1);have:=HN2.out;omega) (hpv.step HBW.out))
        clear hpv hat3
        generalize box[k]=z at *
        go_wp2_with fail
        refine HIC.out.mono ?_
        rintro e w2 ⟨⟨r,rfl,r1,r2,r3⟩,hb⟩
        have HB2:=Lib.hid (bel_both HBL.out hb)
        have HR3:=Lib.hid r3
        have hqr:q+r<=1048576:=by have:=HPN.out;have:=HPL.out (k+1);have:=HTN.out;have:=HLE.out (i+1);have:=HN2.out;have:=hq.out;omega
        have hqr1:1<=q+r:=by omega
        have HQ2:Hid (q+r<=B+cntIs (items.take i)+cntPs (box.take (k+1))/\(((q+r:Nat):Int)<=most->q+r=B+cntIs (items.take i)+cntPs (box.take (k+1)))):=by
         have a1:=HPN.out
         have a2:=hq.out
         refine ⟨by omega,fun h=>?_⟩
         have a3:=HR3.out (by omega)
         have a4:=a2.2 (by omega)
         omega
        clear hb r3 hq
        go_wp2
        go_roundw
        case rel=>exact ⟨k+1,q+r,by omega,by go_num,by go_num,hqr1,hqr,HQ2.out,HB2.out⟩
        case measure=>simp [intOf];omega
       ·have HQ2:Hid (q<=B+cntIs (items.take (i+1))/\((q:Int)<=most->q=B+cntIs (items.take (i+1)))):=by
         have a1:=HPL.out k
         have a2:=hq.out
         have a3:=HTN.out
         exact ⟨by omega,fun h=>absurd h hmo2⟩
        clear hq
        go_wp2
        go_roundw
        case rel=>exact ⟨i+1,q,by omega,by go_num,rfl,g1,g2,HQ2.out,HBL.out⟩
        case measure=>simp [intOf];omega
      ·have hkm2:¬ (k:Int) < (ym:Int):=by omega
       have HQ2:Hid (q<=B+cntIs (items.take (i+1))/\((q:Int)<=most->q=B+cntIs (items.take (i+1)))):=by
        have a1:=HPM.out
        have a2:=hq.out
        have a3:=HTN.out
        rw [show k=ym by omega] at a2
        exact ⟨by omega,fun h=>by have:=a2.2 h;omega⟩
       clear hq
       go_wp2
       go_roundw
       case rel=>exact ⟨i+1,q,by omega,by go_num,rfl,g1,g2,HQ2.out,HBL.out⟩
       case measure=>simp [intOf];omega
    ·have HF:Hid (CntR (.mk s items f) most (.returned (.int .i64 (n:Int)))):=⟨n,rfl,h1,by rw [HSZ.out];have:=hq.out;have:=HLE.out i;have:=HBB.out;omega,fun h=>absurd h hmo⟩
     clear hq
     go_wp2
     go_ret
     exact ⟨HF.out,HBW.out⟩
   ·have him2:¬ (i:Int) < (m:Int):=by omega
    have HF:Hid (CntR (.mk s items f) most (.returned (.int .i64 (n:Int)))):=⟨n,rfl,h1,by rw [HSZ.out];have:=hq.out;have:=HLE.out i;have:=HBB.out;omega,fun h=>by
     have a1:=hq.out.2 h
     rw [show i=m by omega,HTL.out] at a1
     rw [HSZ.out];have:=HBB.out;omega⟩
    clear hq
    go_wp2
    go_ret
    exact ⟨HF.out,HBW.out⟩
def prodE (s:List Nat) (most:Int):Int×Int :=
 if 8 < s.length then (0,26) else if 1048576 < prod1 s then (0,26) else if most < (prodN s:Int) then (0,26) else ((prodN s:Int),0)
theorem prod1_snoc (s:List Nat) (d:Nat):prod1 (s++[d])=prod1 s*max 1 d:=by
 induction s with
 | nil=>simp [prod1]
 | cons x s ih=>simp only [List.cons_append,prod1,ih,Nat.mul_assoc]
theorem prod1_take (s:List Nat) (k:Nat) (h:k < s.length):prod1 (s.take (k+1))=prod1 (s.take k)*max 1 s[k]:=by
 rw [List.take_succ_eq_append_getElem h,prod1_snoc]
theorem prod1_append (s t:List Nat):prod1 (s++t)=prod1 s*prod1 t:=by
 induction s with
 | nil=>simp [prod1]
 | cons x s ih=>simp only [List.cons_append,prod1,ih,Nat.mul_assoc]
theorem prod1_take_le (s:List Nat) (k:Nat):prod1 (s.take k)<=prod1 s:=by
 have h:=prod1_append (s.take k) (s.drop k)
 rw [List.take_append_drop] at h
 rw [h]
 exact Nat.le_mul_of_pos_right _ (prod1_pos _)
theorem prod1_elem {s:List Nat}{k:Nat} (h:k < s.length):s[k]<=prod1 s:=by
 have h1:=prod1_take s k h
 have h2:=prod1_take_le s (k+1)
 have h3:=prod1_pos (s.take k)
 have h4:s[k]<=prod1 (s.take k)*max 1 s[k]:=Nat.le_trans (Nat.le_max_right 1 _) (Nat.le_mul_of_pos_left _ h3)
 omega
theorem prodE_cases (s:List Nat) (most:Int):(prodE s most=(0,26)/\(8 < s.length\/1048576 < prod1 s\/most < (prodN s:Int))) \/
  (prodE s most=((prodN s:Int),0)/\OkSh s (prodN s)/\(prodN s:Int)<=most):=by
 unfold prodE
 split
 ·rename_i h;exact .inl ⟨rfl,.inl h⟩
 ·split
  ·rename_i h;exact .inl ⟨rfl,.inr (.inl h)⟩
  ·split
   ·rename_i h;exact .inl ⟨rfl,.inr (.inr h)⟩
   ·rename_i h1 h2 h3;exact .inr ⟨rfl,⟨by omega,by omega,rfl⟩,by omega⟩
theorem prodE_ok {s:List Nat}{n:Nat} (h:OkSh s n){most:Int} (hm:(n:Int)<=most):prodE s most=((n:Int),0):=by
 obtain ⟨h1,h2,rfl⟩:=h
 unfold prodE
 rw [if_neg (by omega),if_neg (by omega),if_neg (by omega)]
theorem natL_of {s:List Int} (h:¬ ∃ d∈s,d < 0):s=(s.map Int.toNat).map Int.ofNat:=by
 rw [List.map_map]
 symm
 rw [List.map_congr_left (g:=id),List.map_id]
 intro d hd
 have:0<=d:=by
  by_cases h0:d < 0
  ·exact absurd ⟨d,hd,h0⟩ h
  ·omega
 exact Int.toNat_of_nonneg this
end Go.Proofs.YtakgmnafbjdccaaGreatDoor
