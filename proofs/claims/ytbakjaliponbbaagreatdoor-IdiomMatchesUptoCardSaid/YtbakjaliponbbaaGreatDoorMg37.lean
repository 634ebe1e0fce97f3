/- The walk of the reference's kids, sort by sort. Printed by .. Conditions: as each theorem says. -/
import Derived.Test.YtbakjaliponbbaaGreatDoorMg35
import Derived.Test.YtbakjaliponbbaaGreatDoorMg04
set_option maxRecDepth 100000
set_option maxHeartbeats 3200000
namespace Go.Proofs.YtbakjaliponbbaaGreatDoor
open Go Go.RowKit Go.Proofs Fl
def NTell (f:FuncId) (p:RTree->Bool) (N:Nat):Prop:=∀ (t:RTree) (v0 v1 v2 v3 v4 v5:Value) (W:World),sizeR t<=N->FitG t->RN W t [v0,v1,v2,v3,v4,v5] ->
 Calls Tryz.prog f #[.agg #[v0,v1,v2,v3,v4,v5]] W fun e w'=>e= .returned (.bool (p t))/\Below W.heap.size W w'
theorem all_no {l:List RTree}{p:RTree->Bool}{i:Nat} (hi:i < l.length) (h:p l[i]=false):l.all p=false:=by
 rw [List.all_eq_false];exact ⟨_,List.getElem_mem hi,by rw [h];simp⟩
theorem all_yes {l:List RTree}{p:RTree->Bool} (h:∀ i (hi:i < l.length),p l[i]=true):l.all p=true:=by
 rw [List.all_eq_true]
 intro x hx
 obtain ⟨i,hi,rfl⟩:=List.getElem_of_mem hx
 exact h i hi
theorem rkids_0 {N:Nat} (HV:Hid (NTell 24 (fun t=>gd t 0) N)) (l:List RTree) (A:Option Addr) (m cc:Nat) (w:World) (hm:m=l.length) (hm2:m<=1048576) (hk:KidR w A l) (hok:∀ i (hi:i < l.length),sizeR l[i]<=N/\FitG l[i]) :
  Calls Tryz.prog 57 #[.slice A m cc,.int .i64 0] w fun e w'=>e= .returned (.bool (l.all fun t=>gd t 0))/\Below w.heap.size w w':=by
 have HM:=Lib.hid hm
 have HKD:=Lib.hid hk
 have HOK:=Lib.hid hok
 obtain ⟨R,hR⟩:∃ R,R=l.all fun t=>gd t 0:=⟨_,rfl⟩
 have HNO:Hid (∀ i (hi:i < l.length),gd l[i] 0=false->R=false):=fun i hi h=>by rw [hR];exact all_no hi h
 have HYS:Hid ((∀ i (hi:i < l.length),gd l[i] 0=true)->R=true):=fun h=>by rw [hR];exact all_yes h
 rw [<- hR]
 clear hm hk hok hR
 go_enter Tryz.func57,Tryz.ntmps57
 go_wp2
 go_loopw [5] (fun iv wr=>∃ k:Nat,k<=m/\iv= .int .i64 (k:Int)/\Hid (∀ i (hi:i < l.length),i < k->gd l[i] 0=true)/\Below w.heap.size w wr) (fun iv _=>m - (intOf iv).toNat)
 case atStart=>exact ⟨0,Nat.zero_le _,rfl,fun i _ h=>absurd h (by omega),Below.refl _ _⟩
 case round =>
  obtain ⟨i,hi,rfl,hall,hbl⟩:=hrel
  have HBL:=Lib.hid hbl
  clear hbl
  by_cases hlt:i < m
  ·have hil:i < l.length:=by have:=HM.out;omega
   have hlt2:(i:Int) < (m:Int):=by omega
   obtain ⟨b,o,u0,u1,u2,u3,u4,u5,rfl,hr,hce⟩:=HKD.out i hil
   have HAK:Hid (gd l[i] 0=true->∀ j (hj:j < l.length),j < i+1->gd l[j] 0=true):=by
    intro hp j hj h
    rcases Nat.lt_or_ge j i with h1 | h1
    ·exact hall.out j hj h1
    ·obtain rfl:j=i:=by omega
     exact hp
   have HNK:=Lib.hid (HNO.out i hil)
   have HOI:=Lib.hid (HOK.out i hil)
   have HRN:=Lib.hid hr
   have HCE:=Lib.hid hce
   clear hall hr hce
   generalize l[i]=t at *
   have HC:=Lib.hid (HV.out t _ _ _ _ _ _ wr HOI.out.1 HOI.out.2 (HRN.out.below HBL.out))
   dsimp only at HC
   generalize gd t 0=g at *
   obtain ⟨x0,x1,x2,x3,x4,x5⟩:=HCE.out _ HBL.out
   go_wp2_with fail
   refine HC.out.mono ?_
   rintro e w2 ⟨rfl,hb⟩
   have HB2:=Lib.hid (HBL.out.trans (hb.mono HBL.out.size))
   clear hb x0 x1 x2 x3 x4 x5
   cases g with
   | false =>
    have HT:=Lib.hid (HNK.out rfl)
    go_wp2
    go_ret
    exact ⟨by rw [HT.out];rfl,HB2.out⟩
   | true =>
    have HA:=Lib.hid (HAK.out rfl)
    go_wp2
    go_roundw
    case rel=>exact ⟨i+1,by omega,by go_num,HA.out,HB2.out⟩
    case measure=>simp [intOf];omega
  ·have hge:¬ (i:Int) < (m:Int):=by omega
   have HT:Hid (R=true):=HYS.out fun j hj=>hall.out j hj (by have:=HM.out;omega)
   clear hall
   go_wp2
   go_ret
   exact ⟨by rw [HT.out];rfl,HBL.out⟩
theorem rkids_1 {N:Nat} (HF:Hid (NTell 105 (fun t=>gd t 1) N)) (l:List RTree) (A:Option Addr) (m cc:Nat) (w:World) (hm:m=l.length) (hm2:m<=1048576) (hk:KidR w A l) (hok:∀ i (hi:i < l.length),sizeR l[i]<=N/\FitG l[i]) :
  Calls Tryz.prog 57 #[.slice A m cc,.int .i64 1] w fun e w'=>e= .returned (.bool (l.all fun t=>gd t 1))/\Below w.heap.size w w':=by
 have HM:=Lib.hid hm
 have HKD:=Lib.hid hk
 have HOK:=Lib.hid hok
 obtain ⟨R,hR⟩:∃ R,R=l.all fun t=>gd t 1:=⟨_,rfl⟩
 have HNO:Hid (∀ i (hi:i < l.length),gd l[i] 1=false->R=false):=fun i hi h=>by rw [hR];exact all_no hi h
 have HYS:Hid ((∀ i (hi:i < l.length),gd l[i] 1=true)->R=true):=fun h=>by rw [hR];exact all_yes h
 rw [<- hR]
 clear hm hk hok hR
 go_enter Tryz.func57,Tryz.ntmps57
 go_wp2
 go_loopw [5] (fun iv wr=>∃ k:Nat,k<=m/\iv= .int .i64 (k:Int)/\Hid (∀ i (hi:i < l.length),i < k->gd l[i] 1=true)/\Below w.heap.size w wr) (fun iv _=>m - (intOf iv).toNat)
 case atStart=>exact ⟨0,Nat.zero_le _,rfl,fun i _ h=>absurd h (by omega),Below.refl _ _⟩
 case round =>
  obtain ⟨i,hi,rfl,hall,hbl⟩:=hrel
  have HBL:=Lib.hid hbl
  clear hbl
  by_cases hlt:i < m
  ·have hil:i < l.length:=by have:=HM.out;omega
   have hlt2:(i:Int) < (m:Int):=by omega
   obtain ⟨b,o,u0,u1,u2,u3,u4,u5,rfl,hr,hce⟩:=HKD.out i hil
   have HAK:Hid (gd l[i] 1=true->∀ j (hj:j < l.length),j < i+1->gd l[j] 1=true):=by
    intro hp j hj h
    rcases Nat.lt_or_ge j i with h1 | h1
    ·exact hall.out j hj h1
    ·obtain rfl:j=i:=by omega
     exact hp
   have HNK:=Lib.hid (HNO.out i hil)
   have HOI:=Lib.hid (HOK.out i hil)
   have HRN:=Lib.hid hr
   have HCE:=Lib.hid hce
   clear hall hr hce
   generalize l[i]=t at *
   have HC:=Lib.hid (HF.out t _ _ _ _ _ _ wr HOI.out.1 HOI.out.2 (HRN.out.below HBL.out))
   dsimp only at HC
   generalize gd t 1=g at *
   obtain ⟨x0,x1,x2,x3,x4,x5⟩:=HCE.out _ HBL.out
   go_wp2_with fail
   refine HC.out.mono ?_
   rintro e w2 ⟨rfl,hb⟩
   have HB2:=Lib.hid (HBL.out.trans (hb.mono HBL.out.size))
   clear hb x0 x1 x2 x3 x4 x5
   cases g with
   | false =>
    have HT:=Lib.hid (HNK.out rfl)
    go_wp2
    go_ret
    exact ⟨by rw [HT.out];rfl,HB2.out⟩
   | true =>
    have HA:=Lib.hid (HAK.out rfl)
    go_wp2
    go_roundw
    case rel=>exact ⟨i+1,by omega,by go_num,HA.out,HB2.out⟩
    case measure=>simp [intOf];omega
  ·have hge:¬ (i:Int) < (m:Int):=by omega
   have HT:Hid (R=true):=HYS.out fun j hj=>hall.out j hj (by have:=HM.out;omega)
   clear hall
   go_wp2
   go_ret
   exact ⟨by rw [HT.out];rfl,HBL.out⟩
theorem rkids_2 {N:Nat} (HV:Hid (NTell 24 (fun t=>gd t 0) N)) (l:List RTree) (A:Option Addr) (m cc:Nat) (w:World) (hm:m=l.length) (hm2:m<=1048576) (hk:KidR w A l) (hok:∀ i (hi:i < l.length),sizeR l[i]<=N/\FitG l[i]) :
  Calls Tryz.prog 57 #[.slice A m cc,.int .i64 2] w fun e w'=>e= .returned (.bool (l.all fun t=>gd t 2))/\Below w.heap.size w w':=by
 have HM:=Lib.hid hm
 have HKD:=Lib.hid hk
 have HOK:=Lib.hid hok
 obtain ⟨R,hR⟩:∃ R,R=l.all fun t=>gd t 2:=⟨_,rfl⟩
 have HNO:Hid (∀ i (hi:i < l.length),gd l[i] 2=false->R=false):=fun i hi h=>by rw [hR];exact all_no hi h
 have HYS:Hid ((∀ i (hi:i < l.length),gd l[i] 2=true)->R=true):=fun h=>by rw [hR];exact all_yes h
 rw [<- hR]
 clear hm hk hok hR
 go_enter Tryz.func57,Tryz.ntmps57
 go_wp2
 go_loopw [5] (fun iv wr=>∃ k:Nat,k<=m/\iv= .int .i64 (k:Int)/\Hid (∀ i (hi:i < l.length),i < k->gd l[i] 2=true)/\Below w.heap.size w wr) (fun iv _=>m - (intOf iv).toNat)
 case atStart=>exact ⟨0,Nat.zero_le _,rfl,fun i _ h=>absurd h (by omega),Below.refl _ _⟩
 case round =>
  obtain ⟨i,hi,rfl,hall,hbl⟩:=hrel
  have HBL:=Lib.hid hbl
  clear hbl
  by_cases hlt:i < m
  ·have hil:i < l.length:=by have:=HM.out;omega
   have hlt2:(i:Int) < (m:Int):=by omega
   obtain ⟨b,o,u0,u1,u2,u3,u4,u5,rfl,hr,hce⟩:=HKD.out i hil
   have HAK:Hid (gd l[i] 2=true->∀ j (hj:j < l.length),j < i+1->gd l[j] 2=true):=by
    intro hp j hj h
    rcases Nat.lt_or_ge j i with h1 | h1
    ·exact hall.out j hj h1
    ·obtain rfl:j=i:=by omega
     exact hp
   have HNK:=Lib.hid (HNO.out i hil)
   have HOI:=Lib.hid (HOK.out i hil)
   have HRN:=Lib.hid hr
   have HCE:=Lib.hid hce
   clear hall hr hce
   generalize l[i]=t at *
   obtain ⟨k,nums,text,name,c,kids⟩:=t
   obtain ⟨M,hM⟩:∃ M,M+1=N:=⟨N - 1,by have:=sizeR_pos (.mk k nums text name c kids);have:=HOI.out.1;omega⟩
   obtain ⟨A1,n1,c1,A2,n2,c2,A3,m3,c3,rfl,rfl,rfl,rfl,rfl,rfl,hnd⟩:=HRN.out.node (N:=M) HOI.out.2 (by have:=HOI.out.1;omega)
   have HND:=Lib.hid hnd
   have HC:=Lib.hid (HV.out (.mk k nums text name c kids) _ _ _ _ _ _ wr HOI.out.1 HOI.out.2 (HRN.out.below HBL.out))
   have HON:=Lib.hid (fun W=>only_walk k A1 n1 c1 A2 n2 c2 name c A3 m3 c3 nums text HND.out.hn HND.out.ht W)
   dsimp only at HC
   obtain ⟨x0,x1,x2,x3,x4,x5⟩:=HCE.out _ HBL.out
   clear hnd
   by_cases h21:k=21
   ·subst h21
    have HG:Hid (gd (.mk 21 nums text name c kids) 2=(onlyB 21 nums text name c&&decide ((m3:Int)=0))):=by
     unfold Hid;rw [gd_2_21,pl_n (by decide),HND.out.hm,Bool.and_comm];rfl
    rw [gd_0_no (by omega)] at HC
    go_wp2_with fail
    refine HC.out.mono ?_
    rintro e w2 ⟨rfl,hb⟩
    have HB2:=Lib.hid (HBL.out.trans (hb.mono HBL.out.size))
    clear hb x0 x1 x2 x3 x4 x5
    obtain ⟨x0,x1,x2,x3,x4,x5⟩:=HCE.out _ HB2.out
    generalize onlyB 21 nums text name c=ob at *
    obtain ⟨g,hg⟩:∃ g,g=gd (.mk 21 nums text name c kids) 2:=⟨_,rfl⟩
    rw [<- hg] at HG HNK HAK
    clear hg HND
    go_wp2_with fail
    refine (HON.out _).mono ?_
    rintro e w3 ⟨rfl,hb⟩
    have HB3:=Lib.hid (HB2.out.trans (hb.mono HB2.out.size))
    clear hb x0 x1 x2 x3 x4 x5
    obtain ⟨x0,x1,x2,x3,x4,x5⟩:=HCE.out _ HB3.out
    cases ob with
    | false =>
     have HT:=Lib.hid (HNK.out (by rw [HG.out];rfl))
     go_wp2
     go_ret
     exact ⟨by rw [HT.out];rfl,HB3.out⟩
    | true =>
     by_cases hz:(m3:Int)=0
     ·have hz1:((m3:Int)==0)=true:=by simpa using hz
      have HA:=Lib.hid (HAK.out (by rw [HG.out,decide_eq_true hz];rfl))
      clear hz HG
      go_wp2
      go_roundw
      case rel=>exact ⟨i+1,by omega,by go_num,HA.out,HB3.out⟩
      case measure=>simp [intOf];omega
     ·have hz1:((m3:Int)==0)=false:=by simpa using hz
      have HT:=Lib.hid (HNK.out (by rw [HG.out,decide_eq_false hz];rfl))
      clear hz HG
      go_wp2
      go_ret
      exact ⟨by rw [HT.out];rfl,HB3.out⟩
   ·have q1:(k==21)=false:=by simpa using h21
    rw [gd_2_no h21] at HNK HAK
    generalize gd (.mk k nums text name c kids) 0=g at *
    clear h21
    go_wp2_with fail
    refine HC.out.mono ?_
    rintro e w2 ⟨rfl,hb⟩
    have HB2:=Lib.hid (HBL.out.trans (hb.mono HBL.out.size))
    clear hb x0 x1 x2 x3 x4 x5
    obtain ⟨x0,x1,x2,x3,x4,x5⟩:=HCE.out _ HB2.out
    cases g with
    | false =>
     have HT:=Lib.hid (HNK.out rfl)
     go_wp2
     go_ret
     exact ⟨by rw [HT.out];rfl,HB2.out⟩
    | true =>
     have HA:=Lib.hid (HAK.out rfl)
     go_wp2
     go_roundw
     case rel=>exact ⟨i+1,by omega,by go_num,HA.out,HB2.out⟩
     case measure=>simp [intOf];omega
  ·have hge:¬ (i:Int) < (m:Int):=by omega
   have HT:Hid (R=true):=HYS.out fun j hj=>hall.out j hj (by have:=HM.out;omega)
   clear hall
   go_wp2
   go_ret
   exact ⟨by rw [HT.out];rfl,HBL.out⟩
theorem rkids_3 {N:Nat} (HV:Hid (NTell 24 (fun t=>gd t 0) N)) (HB:Hid (NTell 35 (fun t=>decide (kindR t=20)&&gd t 4) N)) (HK:Hid (∀ M,M+1<=N->KTell M)) (l:List RTree) (A:Option Addr) (m cc:Nat) (w:World) (hm:m=l.length) (hm2:m<=1048576) (hk:KidR w A l) (hok:∀ i (hi:i < l.length),sizeR l[i]<=N/\FitG l[i]) :
  Calls Tryz.prog 57 #[.slice A m cc,.int .i64 3] w fun e w'=>e= .returned (.bool (l.all fun t=>gd t 3))/\Below w.heap.size w w':=by
 have HM:=Lib.hid hm
 have HKD:=Lib.hid hk
 have HOK:=Lib.hid hok
 obtain ⟨R,hR⟩:∃ R,R=l.all fun t=>gd t 3:=⟨_,rfl⟩
 have HNO:Hid (∀ i (hi:i < l.length),gd l[i] 3=false->R=false):=fun i hi h=>by rw [hR];exact all_no hi h
 have HYS:Hid ((∀ i (hi:i < l.length),gd l[i] 3=true)->R=true):=fun h=>by rw [hR];exact all_yes h
 rw [<- hR]
 clear hm hk hok hR
 go_enter Tryz.func57,Tryz.ntmps57
 go_wp2
 go_loopw [5] (fun iv wr=>∃ k:Nat,k<=m/\iv= .int .i64 (k:Int)/\Hid (∀ i (hi:i < l.length),i < k->gd l[i] 3=true)/\Below w.heap.size w wr) (fun iv _=>m - (intOf iv).toNat)
 case atStart=>exact ⟨0,Nat.zero_le _,rfl,fun i _ h=>absurd h (by omega),Below.refl _ _⟩
 case round =>
  obtain ⟨i,hi,rfl,hall,hbl⟩:=hrel
  have HBL:=Lib.hid hbl
  clear hbl
  by_cases hlt:i < m
  ·have hil:i < l.length:=by have:=HM.out;omega
   have hlt2:(i:Int) < (m:Int):=by omega
   obtain ⟨b,o,u0,u1,u2,u3,u4,u5,rfl,hr,hce⟩:=HKD.out i hil
   have HAK:Hid (gd l[i] 3=true->∀ j (hj:j < l.length),j < i+1->gd l[j] 3=true):=by
    intro hp j hj h
    rcases Nat.lt_or_ge j i with h1 | h1
    ·exact hall.out j hj h1
    ·obtain rfl:j=i:=by omega
     exact hp
   have HNK:=Lib.hid (HNO.out i hil)
   have HOI:=Lib.hid (HOK.out i hil)
   have HRN:=Lib.hid hr
   have HCE:=Lib.hid hce
   clear hall hr hce
   generalize l[i]=t at *
   obtain ⟨k,nums,text,name,c,kids⟩:=t
   obtain ⟨M,hM⟩:∃ M,M+1=N:=⟨N - 1,by have:=sizeR_pos (.mk k nums text name c kids);have:=HOI.out.1;omega⟩
   obtain ⟨A1,n1,c1,A2,n2,c2,A3,m3,c3,rfl,rfl,rfl,rfl,rfl,rfl,hnd⟩:=HRN.out.node (N:=M) HOI.out.2 (by have:=HOI.out.1;omega)
   have HND:=Lib.hid hnd
   have HC:=Lib.hid (HV.out (.mk k nums text name c kids) _ _ _ _ _ _ wr HOI.out.1 HOI.out.2 (HRN.out.below HBL.out))
   have HON:=Lib.hid (fun W=>only_walk k A1 n1 c1 A2 n2 c2 name c A3 m3 c3 nums text HND.out.hn HND.out.ht W)
   dsimp only at HC
   obtain ⟨x0,x1,x2,x3,x4,x5⟩:=HCE.out _ HBL.out
   clear hnd
   have HKK:=Lib.hid (fun W (hb:Below w.heap.size w W)=>HK.out M (by omega) 0 0 kids A3 m3 c3 W rfl (by decide) HND.out.hm HND.out.fm (HND.out.hkid.below hb) HND.out.ok)
   have HBB:=Lib.hid (fun W (hb:Below w.heap.size w W)=>HB.out (.mk k nums text name c kids) _ _ _ _ _ _ W HOI.out.1 HOI.out.2 (HRN.out.below hb))
   dsimp only [kindR] at HBB
   by_cases h20:k=20
   ·subst h20
    rw [gd_0_no (by omega)] at HC
    rw [gd_3_20] at HNK HAK
    go_wp2_with fail
    refine HC.out.mono ?_
    rintro e w2 ⟨rfl,hb⟩
    have HB2:=Lib.hid (HBL.out.trans (hb.mono HBL.out.size))
    clear hb x0 x1 x2 x3 x4 x5
    obtain ⟨x0,x1,x2,x3,x4,x5⟩:=HCE.out _ HB2.out
    simp only [decide_true,Bool.true_and] at HBB
    generalize gd (.mk 20 nums text name c kids) 4=g at *
    go_wp2_with fail
    refine (HBB.out _ HB2.out).mono ?_
    rintro e w3 ⟨rfl,hb⟩
    have HB3:=Lib.hid (HB2.out.trans (hb.mono HB2.out.size))
    clear hb x0 x1 x2 x3 x4 x5
    obtain ⟨x0,x1,x2,x3,x4,x5⟩:=HCE.out _ HB3.out
    cases g with
    | false =>
     have HT:=Lib.hid (HNK.out rfl)
     go_wp2
     go_ret
     exact ⟨by rw [HT.out];rfl,HB3.out⟩
    | true =>
     have HA:=Lib.hid (HAK.out rfl)
     go_wp2
     go_roundw
     case rel=>exact ⟨i+1,by omega,by go_num,HA.out,HB3.out⟩
     case measure=>simp [intOf];omega
   ·have q0:(k==20)=false:=by simpa using h20
    by_cases h19:k=19
    ·subst h19
     have HG:Hid (gd (.mk 19 nums text name c kids) 3=(onlyB 19 nums text name c&&decide ((m3:Int)=2)&&kids.all (fun t=>gd t 0))):=by
      unfold Hid;rw [gd_3_19,pl_n (by decide),gds_eq,HND.out.hm,Bool.and_comm (decide _)];rfl
     rw [gd_0_no (by omega)] at HC
     go_wp2_with fail
     refine HC.out.mono ?_
     rintro e w2 ⟨rfl,hb⟩
     have HB2:=Lib.hid (HBL.out.trans (hb.mono HBL.out.size))
     clear hb x0 x1 x2 x3 x4 x5
     obtain ⟨x0,x1,x2,x3,x4,x5⟩:=HCE.out _ HB2.out
     generalize onlyB 19 nums text name c=ob at *
     generalize kids.all (fun t=>gd t 0)=kb at *
     obtain ⟨g,hg⟩:∃ g,g=gd (.mk 19 nums text name c kids) 3:=⟨_,rfl⟩
     rw [<- hg] at HG HNK HAK
     clear hg HND
     go_wp2_with fail
     refine (HON.out _).mono ?_
     rintro e w3 ⟨rfl,hb⟩
     have HB3:=Lib.hid (HB2.out.trans (hb.mono HB2.out.size))
     clear hb x0 x1 x2 x3 x4 x5
     obtain ⟨x0,x1,x2,x3,x4,x5⟩:=HCE.out _ HB3.out
     cases ob with
     | false =>
      have HT:=Lib.hid (HNK.out (by rw [HG.out];rfl))
      go_wp2
      go_ret
      exact ⟨by rw [HT.out];rfl,HB3.out⟩
     | true =>
      by_cases hz:(m3:Int)=2
      ·have hz1:((m3:Int)==2)=true:=by simpa using hz
       have HG2:Hid (g=kb):=by unfold Hid;rw [HG.out,decide_eq_true hz];rfl
       clear hz HG
       go_wp2_with fail
       refine (HKK.out _ HB3.out).mono ?_
       rintro e w4 ⟨rfl,hb⟩
       have HB4:=Lib.hid (HB3.out.trans (hb.mono HB3.out.size))
       clear hb x0 x1 x2 x3 x4 x5
       rw [HG2.out] at HNK HAK
       clear HG2 g
       cases kb with
       | false =>
        have HT:=Lib.hid (HNK.out rfl)
        go_wp2
        go_ret
        exact ⟨by rw [HT.out];rfl,HB4.out⟩
       | true =>
        have HA:=Lib.hid (HAK.out rfl)
        go_wp2
        go_roundw
        case rel=>exact ⟨i+1,by omega,by go_num,HA.out,HB4.out⟩
        case measure=>simp [intOf];omega
      ·have hz1:((m3:Int)==2)=false:=by simpa using hz
       have HT:=Lib.hid (HNK.out (by rw [HG.out,decide_eq_false hz];rfl))
       clear hz HG
       go_wp2
       go_ret
       exact ⟨by rw [HT.out];rfl,HB3.out⟩
    ·have q1:(k==19)=false:=by simpa using h19
     rw [gd_3_no h19 h20] at HNK HAK
     generalize gd (.mk k nums text name c kids) 0=g at *
     clear h19 h20
     go_wp2_with fail
     refine HC.out.mono ?_
     rintro e w2 ⟨rfl,hb⟩
     have HB2:=Lib.hid (HBL.out.trans (hb.mono HBL.out.size))
     clear hb x0 x1 x2 x3 x4 x5
     obtain ⟨x0,x1,x2,x3,x4,x5⟩:=HCE.out _ HB2.out
     cases g with
     | false =>
      have HT:=Lib.hid (HNK.out rfl)
      go_wp2
      go_ret
      exact ⟨by rw [HT.out];rfl,HB2.out⟩
     | true =>
      have HA:=Lib.hid (HAK.out rfl)
      go_wp2
      go_roundw
      case rel=>exact ⟨i+1,by omega,by go_num,HA.out,HB2.out⟩
      case measure=>simp [intOf];omega
  ·have hge:¬ (i:Int) < (m:Int):=by omega
   have HT:Hid (R=true):=HYS.out fun j hj=>hall.out j hj (by have:=HM.out;omega)
   clear hall
   go_wp2
   go_ret
   exact ⟨by rw [HT.out];rfl,HBL.out⟩
end Go.Proofs.YtbakjaliponbbaaGreatDoor
