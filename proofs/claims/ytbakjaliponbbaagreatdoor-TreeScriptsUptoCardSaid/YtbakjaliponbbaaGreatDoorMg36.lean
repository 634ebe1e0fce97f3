/- The walk of the reference's kids, sort by sort. Printed by gen_trgk.py. The reference's GoodValue, GoodFun, GoodBind and kids tell which trees are good. How .. Conditions: as each theorem says. -/
import Derived.Test.YtbakjaliponbbaaGreatDoorMg23
import Derived.Test.YtbakjaliponbbaaGreatDoorMg03
import Derived.Test.YtbakjaliponbbaaGreatDoorMg34
import Derived.Test.YtbakjaliponbbaaGreatDoorMg35
import Derived.Test.YtbakjaliponbbaaGreatDoorMg00
import Derived.Test.YtbakjaliponbbaaGreatDoorMg13
set_option maxRecDepth 100000
set_option maxHeartbeats 3200000
namespace Go.Proofs.YtbakjaliponbbaaGreatDoor
open Go Go.RowKit Go.Proofs Fl
def NTell (f:FuncId) (p:RTree->Bool) (N:Nat):Prop:=∀ (t:RTree) (v0 v1 v2 v3 v4 v5:Value) (W:World),sizeR t<=N->FitG t->RN W t [v0,v1,v2,v3,v4,v5] ->
 Calls Tryz.prog f #[.agg #[v0,v1,v2,v3,v4,v5]] W fun e w'=>e= .returned (.bool (p t))/\Below W.heap.size W w'
theorem all_no {l:List RTree}{p:RTree->Bool}{i:Nat} (hi:i < l.length) (h:p l[i]=false):l.all p=false:=by
 rw [List.all_eq_false];exact ⟨_,List.getElem_mem hi,by rw [h];simp⟩
theorem all_yes {l:List RTree}{p:RTree->Bool} (h:∀ i (hi:i < l.length),p l[i]=true):l.all p=true:=by
 rw [List.all_eq_true]
 intro x hx
 obtain ⟨i,hi,rfl⟩:=List.getElem_of_mem hx
 exact h i hi
theorem rkids_0 {N:Nat} (HV:Hid (NTell 24 (fun t=>gd t 0) N)) (l:List RTree) (A:Option Addr) (m cc:Nat) (w:World) (hm:m=l.length) (hm2:m<=1048576) (hk:KidR w A l) (hok:∀ i (hi:i < l.length),sizeR l[i]<=N/\FitG l[i]) :
  Calls Tryz.prog 57 #[.slice A m cc,.int .i64 0] w fun e w'=>e= .returned (.bool (l.all fun t=>gd t 0))/\Below w.heap.size w w':=by
 have HM:=Lib.hid hm
 have HKD:=Lib.hid hk
 have HOK:=Lib.hid hok
 obtain ⟨R,hR⟩:∃ R,R=l.all fun t=>gd t 0:=⟨_,rfl⟩
 have HNO:Hid (∀ i (hi:i < l.length),gd l[i] 0=false->R=false):=fun i hi h=>by rw [hR];exact all_no hi h
 have HYS:Hid ((∀ i (hi:i < l.length),gd l[i] 0=true)->R=true):=fun h=>by rw [hR];exact all_yes h
 rw [<- hR]
 clear hm hk hok hR
 go_enter Tryz.func57,Tryz.ntmps57
 go_wp2
 go_loopw [5] (fun iv wr=>∃ k:Nat,k<=m/\iv= .int .i64 (k:Int)/\Hid (∀ i (hi:i < l.length),i < k->gd l[i] 0=true)/\Below w.heap.size w wr) (fun iv _=>m - (intOf iv).toNat)
 case atStart=>exact ⟨0,Nat.zero_le _,rfl,fun i _ h=>absurd h (by omega),Below.refl _ _⟩
 case round =>
  obtain ⟨i,hi,rfl,hall,hbl⟩:=hrel
  have HBL:=Lib.hid hbl
  clear hbl
  by_cases hlt:i < m
  ·have hil:i < l.length:=by have:=HM.out;omega
   have hlt2:(i:Int) < (m:Int):=by omega
   obtain ⟨b,o,u0,u1,u2,u3,u4,u5,rfl,hr,hce⟩:=HKD.out i hil
   have HAK:Hid (gd l[i] 0=true->∀ j (hj:j < l.length),j < i+1->gd l[j] 0=true):=by
    intro hp j hj h
    rcases Nat.lt_or_ge j i with h1 | h1
    ·exact hall.out j hj h1
    ·obtain rfl:j=i:=by omega
     exact hp
   have HNK:=Lib.hid (HNO.out i hil)
   have HOI:=Lib.hid (HOK.out i hil)
   have HRN:=Lib.hid hr
   have HCE:=Lib.hid hce
   clear hall hr hce
   generalize l[i]=t at *
   have HC:=Lib.hid (HV.out t _ _ _ _ _ _ wr HOI.out.1 HOI.out.2 (HRN.out.below HBL.out))
   dsimp only at HC
   generalize gd t 0=g at *
   obtain ⟨x0,x1,x2,x3,x4,x5⟩:=HCE.out _ HBL.out
   go_wp2_with fail
   refine HC.out.mono ?_
   rintro e w2 ⟨rfl,hb⟩
   have HB2:=Lib.hid (HBL.out.trans (hb.mono HBL.out.size))
   clear hb x0 x1 x2 x3 x4 x5
   cases g with
   | false =>
    have HT:=Lib.hid (HNK.out rfl)
    go_wp2
    go_ret
    exact ⟨by rw [HT.out];rfl,HB2.out⟩
   | true =>
    have HA:=Lib.hid (HAK.out rfl)
    go_wp2
    go_roundw
    case rel=>exact ⟨i+1,by omega,by go_num,HA.out,HB2.out⟩
    case measure=>simp [intOf];omega
  ·have hge:¬ (i:Int) < (m:Int):=by omega
   have HT:Hid (R=true):=HYS.out fun j hj=>hall.out j hj (by have:=HM.out;omega)
   clear hall
   go_wp2
   go_ret
   exact ⟨by rw [HT.out];rfl,HBL.out⟩
theorem rkids_1 {N:Nat} (HF:Hid (NTell 105 (fun t=>gd t 1) N)) (l:List RTree) (A:Option Addr) (m cc:Nat) (w:World) (hm:m=l.length) (hm2:m<=1048576) (hk:KidR w A l) (hok:∀ i (hi:i < l.length),sizeR l[i]<=N/\FitG l[i]) :
  Calls Tryz.prog 57 #[.slice A m cc,.int .i64 1] w fun e w'=>e= .returned (.bool (l.all fun t=>gd t 1))/\Below w.heap.size w w':=by
 have HM:=Lib.hid hm
 have HKD:=Lib.hid hk
 have HOK:=Lib.hid hok
 obtain ⟨R,hR⟩:∃ R,R=l.all fun t=>gd t 1:=⟨_,rfl⟩
 have HNO:Hid (∀ i (hi:i < l.length),gd l[i] 1=false->R=false):=fun i hi h=>by rw [hR];exact all_no hi h
 have HYS:Hid ((∀ i (hi:i < l.length),gd l[i] 1=true)->R=true):=fun h=>by rw [hR];exact all_yes h
 rw [<- hR]
 clear hm hk hok hR
 go_enter Tryz.func57,Tryz.ntmps57
 go_wp2
 go_loopw [5] (fun iv wr=>∃ k:Nat,k<=m/\iv= .int .i64 (k:Int)/\Hid (∀ i (hi:i < l.length),i < k->gd l[i] 1=true)/\Below w.heap.size w wr) (fun iv _=>m - (intOf iv).toNat)
 case atStart=>exact ⟨0,Nat.zero_le _,rfl,fun i _ h=>absurd h (by omega),Below.refl _ _⟩
 case round =>
  obtain ⟨i,hi,rfl,hall,hbl⟩:=hrel
  have HBL:=Lib.hid hbl
  clear hbl
  by_cases hlt:i < m
  ·have hil:i < l.length:=by have:=HM.out;omega
   have hlt2:(i:Int) < (m:Int):=by omega
   obtain ⟨b,o,u0,u1,u2,u3,u4,u5,rfl,hr,hce⟩:=HKD.out i hil
   have HAK:Hid (gd l[i] 1=true->∀ j (hj:j < l.length),j < i+1->gd l[j] 1=true):=by
    intro hp j hj h
    rcases Nat.lt_or_ge j i with h1 | h1
    ·exact hall.out j hj h1
    ·obtain rfl:j=i:=by omega
     exact hp
   have HNK:=Lib.hid (HNO.out i hil)
   have HOI:=Lib.hid (HOK.out i hil)
   have HRN:=Lib.hid hr
   have HCE:=Lib.hid hce
   clear hall hr hce
   generalize l[i]=t at *
   have HC:=Lib.hid (HF.out t _ _ _ _ _ _ wr HOI.out.1 HOI.out.2 (HRN.out.below HBL.out))
   dsimp only at HC
   generalize gd t 1=g at *
   obtain ⟨x0,x1,x2,x3,x4,x5⟩:=HCE.out _ HBL.out
   go_wp2_with fail
   refine HC.out.mono ?_
   rintro e w2 ⟨rfl,hb⟩
   have HB2:=Lib.hid (HBL.out.trans (hb.mono HBL.out.size))
   clear hb x0 x1 x2 x3 x4 x5
   cases g with
   | false =>
    have HT:=Lib.hid (HNK.out rfl)
    go_wp2
    go_ret
    exact ⟨by rw [HT.out];rfl,HB2.out⟩
   | true =>
    have HA:=Lib.hid (HAK.out rfl)
    go_wp2
    go_roundw
    case rel=>exact ⟨i+1,by omega,by go_num,HA.out,HB2.out⟩
    case measure=>simp [intOf];omega
  ·have hge:¬ (i:Int) < (m:Int):=by omega
   have HT:Hid (R=true):=HYS.out fun j hj=>hall.out j hj (by have:=HM.out;omega)
   clear hall
   go_wp2
   go_ret
   exact ⟨by rw [HT.out];rfl,HBL.out⟩
theorem rkids_2 {N:Nat} (HV:Hid (NTell 24 (fun t=>gd t 0) N)) (l:List RTree) (A:Option Addr) (m cc:Nat) (w:World) (hm:m=l.length) (hm2:m<=1048576) (hk:KidR w A l) (hok:∀ i (hi:i < l.length),sizeR l[i]<=N/\FitG l[i]) :
  Calls Tryz.prog 57 #[.slice A m cc,.int .i64 2] w fun e w'=>e= .returned (.bool (l.all fun t=>gd t 2))/\Below w.heap.size w w':=by
 have HM:=Lib.hid hm
 have HKD:=Lib.hid hk
 have HOK:=Lib.hid hok
 obtain ⟨R,hR⟩:∃ R,R=l.all fun t=>gd t 2:=⟨_,rfl⟩
 have HNO:Hid (∀ i (hi:i < l.length),gd l[i] 2=false->R=false):=fun i hi h=>by rw [hR];exact all_no hi h
 have HYS:Hid ((∀ i (hi:i < l.length),gd l[i] 2=true)->R=true):=fun h=>by rw [hR];exact all_yes h
 rw [<- hR]
 clear hm hk hok hR
 go_enter Tryz.func57,Tryz.ntmps57
 go_wp2
 go_loopw [5] (fun iv wr=>∃ k:Nat,k<=m/\iv= .int .i64 (k:Int)/\Hid (∀ i (hi:i < l.length),i < k->gd l[i] 2=true)/\Below w.heap.size w wr) (fun iv _=>m - (intOf iv).toNat)
 case atStart=>exact ⟨0,Nat.zero_le _,rfl,fun i _ h=>absurd h (by omega),Below.refl _ _⟩
 case round =>
  obtain ⟨i,hi,rfl,hall,hbl⟩:=hrel
  have HBL:=Lib.hid hbl
  clear hbl
  by_cases hlt:i < m
  ·have hil:i < l.length:=by have:=HM.out;omega
   have hlt2:(i:Int) < (m:Int):=by omega
   obtain ⟨b,o,u0,u1,u2,u3,u4,u5,rfl,hr,hce⟩:=HKD.out i hil
   have HAK:Hid (gd l[i] 2=true->∀ j (hj:j < l.length),j < i+1->gd l[j] 2=true):=by
    intro hp j hj h
    rcases Nat.lt_or_ge j i with h1 | h1
    ·exact hall.out j hj h1
    ·obtain rfl:j=i:=by omega
     exact hp
   have HNK:=Lib.hid (HNO.out i hil)
   have HOI:=Lib.hid (HOK.out i hil)
   have HRN:=Lib.hid hr
   have HCE:=Lib.hid hce
   clear hall hr hce
   generalize l[i]=t at *
   obtain ⟨k,nums,text,name,c,kids⟩:=t
   obtain ⟨M,hM⟩:∃ M,M+1=N:=⟨N - 1,by have:=sizeR_pos (.mk k nums text name c kids);have:=HOI.out.1;omega⟩
   obtain ⟨A1,n1,c1,A2,n2,c2,A3,m3,c3,rfl,rfl,rfl,rfl,rfl,rfl,hnd⟩:=HRN.out.node (N:=M) HOI.out.2 (by have:=HOI.out.1;omega)
   have HND:=Lib.hid hnd
   have HC:=Lib.hid (HV.out (.mk k nums text name c kids) _ _ _ _ _ _ wr HOI.out.1 HOI.out.2 (HRN.out.below HBL.out))
   have HON:=Lib.hid (fun W=>only_walk k A1 n1 c1 A2 n2 c2 name c A3 m3 c3 nums text HND.out.hn HND.out.ht W)
   dsimp only at HC
   obtain ⟨x0,x1,x2,x3,x4,x5⟩:=HCE.out _ HBL.out
   clear hnd
   by_cases h21:k=21
   ·subst h21
    have HG:Hid (gd (.mk 21 nums text name c kids) 2=(onlyB 21 nums text name c&&decide ((m3:Int)=0))):=by
     unfold Hid;rw [gd_2_21,pl_n (by decide),HND.out.hm,Bool.and_comm];rfl
    rw [gd_0_no (by omega)] at HC
    go_wp2_with fail
    refine HC.out.mono ?_
    rintro e w2 ⟨rfl,hb⟩
    have HB2:=Lib.hid (HBL.out.trans (hb.mono HBL.out.size))
    clear hb x0 x1 x2 x3 x4 x5
    obtain ⟨x0,x1,x2,x3,x4,x5⟩:=HCE.out _ HB2.out
    generalize onlyB 21 nums text name c=ob at *
    obtain ⟨g,hg⟩:∃ g,g=gd (.mk 21 nums text name c kids) 2:=⟨_,rfl⟩
    rw [<- hg] at HG HNK HAK
    clear hg HND
    go_wp2_with fail
    refine (HON.out _).mono ?_
    rintro e w3 ⟨rfl,hb⟩
    have HB3:=Lib.hid (HB2.out.trans (hb.mono HB2.out.size))
    clear hb x0 x1 x2 x3 x4 x5
    obtain ⟨x0,x1,x2,x3,x4,x5⟩:=HCE.out _ HB3.out
    cases ob with
    | false =>
     have HT:=Lib.hid (HNK.out (by rw [HG.out];rfl))
     go_wp2
     go_ret
     exact ⟨by rw [HT.out];rfl,HB3.out⟩
    | true =>
     by_cases hz:(m3:Int)=0
     ·have hz1:((m3:Int)==0)=true:=by simpa using hz
      have HA:=Lib.hid (HAK.out (by rw [HG.out,decide_eq_true hz];rfl))
      clear hz HG
      go_wp2
      go_roundw
      case rel=>exact ⟨i+1,by omega,by go_num,HA.out,HB3.out⟩
      case measure=>simp [intOf];omega
     ·have hz1:((m3:Int)==0)=false:=by simpa using hz
      have HT:=Lib.hid (HNK.out (by rw [HG.out,decide_eq_false hz];rfl))
      clear hz HG
      go_wp2
      go_ret
      exact ⟨by rw [HT.out];rfl,HB3.out⟩
   ·have q1:(k==21)=false:=by simpa using h21
    rw [gd_2_no h21] at HNK HAK
    generalize gd (.mk k nums text name c kids) 0=g at *
    clear h21
    go_wp2_with fail
    refine HC.out.mono ?_
    rintro e w2 ⟨rfl,hb⟩
    have HB2:=Lib.hid (HBL.out.trans (hb.mono HBL.out.size))
    clear hb x0 x1 x2 x3 x4 x5
    obtain ⟨x0,x1,x2,x3,x4,x5⟩:=HCE.out _ HB2.out
    cases g with
    | false =>
     have HT:=Lib.hid (HNK.out rfl)
     go_wp2
     go_ret
     exact ⟨by rw [HT.out];rfl,HB2.out⟩
    | true =>
     have HA:=Lib.hid (HAK.out rfl)
     go_wp2
     go_roundw
     case rel=>exact ⟨i+1,by omega,by go_num,HA.out,HB2.out⟩
     case measure=>simp [intOf];omega
  ·have hge:¬ (i:Int) < (m:Int):=by omega
   have HT:Hid (R=true):=HYS.out fun j hj=>hall.out j hj (by have:=HM.out;omega)
   clear hall
   go_wp2
   go_ret
   exact ⟨by rw [HT.out];rfl,HBL.out⟩
theorem rkids_3 {N:Nat} (HV:Hid (NTell 24 (fun t=>gd t 0) N)) (HB:Hid (NTell 35 (fun t=>decide (kindR t=20)&&gd t 4) N)) (HK:Hid (∀ M,M+1<=N->KTell M)) (l:List RTree) (A:Option Addr) (m cc:Nat) (w:World) (hm:m=l.length) (hm2:m<=1048576) (hk:KidR w A l) (hok:∀ i (hi:i < l.length),sizeR l[i]<=N/\FitG l[i]) :
  Calls Tryz.prog 57 #[.slice A m cc,.int .i64 3] w fun e w'=>e= .returned (.bool (l.all fun t=>gd t 3))/\Below w.heap.size w w':=by
 have HM:=Lib.hid hm
 have HKD:=Lib.hid hk
 have HOK:=Lib.hid hok
 obtain ⟨R,hR⟩:∃ R,R=l.all fun t=>gd t 3:=⟨_,rfl⟩
 have HNO:Hid (∀ i (hi:i < l.length),gd l[i] 3=false->R=false):=fun i hi h=>by rw [hR];exact all_no hi h
 have HYS:Hid ((∀ i (hi:i < l.length),gd l[i] 3=true)->R=true):=fun h=>by rw [hR];exact all_yes h
 rw [<- hR]
 clear hm hk hok hR
 go_enter Tryz.func57,Tryz.ntmps57
 go_wp2
 go_loopw [5] (fun iv wr=>∃ k:Nat,k<=m/\iv= .int .i64 (k:Int)/\Hid (∀ i (hi:i < l.length),i < k->gd l[i] 3=true)/\Below w.heap.size w wr) (fun iv _=>m - (intOf iv).toNat)
 case atStart=>exact ⟨0,Nat.zero_le _,rfl,fun i _ h=>absurd h (by omega),Below.refl _ _⟩
 case round =>
  obtain ⟨i,hi,rfl,hall,hbl⟩:=hrel
  have HBL:=Lib.hid hbl
  clear hbl
  by_cases hlt:i < m
  ·have hil:i < l.length:=by have:=HM.out;omega
   have hlt2:(i:Int) < (m:Int):=by omega
   obtain ⟨b,o,u0,u1,u2,u3,u4,u5,rfl,hr,hce⟩:=HKD.out i hil
   have HAK:Hid (gd l[i] 3=true->∀ j (hj:j < l.length),j < i+1->gd l[j] 3=true):=by
    intro hp j hj h
    rcases Nat.lt_or_ge j i with h1 | h1
    ·exact hall.out j hj h1
    ·obtain rfl:j=i:=by omega
     exact hp
   have HNK:=Lib.hid (HNO.out i hil)
   have HOI:=Lib.hid (HOK.out i hil)
   have HRN:=Lib.hid hr
   have HCE:=Lib.hid hce
   clear hall hr hce
   generalize l[i]=t at *
   obtain ⟨k,nums,text,name,c,kids⟩:=t
   obtain ⟨M,hM⟩:∃ M,M+1=N:=⟨N - 1,by have:=sizeR_pos (.mk k nums text name c kids);have:=HOI.out.1;omega⟩
   obtain ⟨A1,n1,c1,A2,n2,c2,A3,m3,c3,rfl,rfl,rfl,rfl,rfl,rfl,hnd⟩:=HRN.out.node (N:=M) HOI.out.2 (by have:=HOI.out.1;omega)
   have HND:=Lib.hid hnd
   have HC:=Lib.hid (HV.out (.mk k nums text name c kids) _ _ _ _ _ _ wr HOI.out.1 HOI.out.2 (HRN.out.below HBL.out))
   have HON:=Lib.hid (fun W=>only_walk k A1 n1 c1 A2 n2 c2 name c A3 m3 c3 nums text HND.out.hn HND.out.ht W)
   dsimp only at HC
   obtain ⟨x0,x1,x2,x3,x4,x5⟩:=HCE.out _ HBL.out
   clear hnd
   have HKK:=Lib.hid (fun W (hb:Below w.heap.size w W)=>HK.out M (by omega) 0 0 kids A3 m3 c3 W rfl (by decide) HND.out.hm HND.out.fm (HND.out.hkid.below hb) HND.out.ok)
   have HBB:=Lib.hid (fun W (hb:Below w.heap.size w W)=>HB.out (.mk k nums text name c kids) _ _ _ _ _ _ W HOI.out.1 HOI.out.2 (HRN.out.below hb))
   dsimp only [kindR] at HBB
   by_cases h20:k=20
   ·subst h20
    rw [gd_0_no (by omega)] at HC
    rw [gd_3_20] at HNK HAK
    go_wp2_with fail
    refine HC.out.mono ?_
    rintro e w2 ⟨rfl,hb⟩
    have HB2:=Lib.hid (HBL.out.trans (hb.mono HBL.out.size))
    clear hb x0 x1 x2 x3 x4 x5
    obtain ⟨x0,x1,x2,x3,x4,x5⟩:=HCE.out _ HB2.out
    simp only [decide_true,Bool.true_and] at HBB
    generalize gd (.mk 20 nums text name c kids) 4=g at *
    go_wp2_with fail
    refine (HBB.out _ HB2.out).mono ?_
    rintro e w3 ⟨rfl,hb⟩
    have HB3:=Lib.hid (HB2.out.trans (hb.mono HB2.out.size))
    clear hb x0 x1 x2 x3 x4 x5
    obtain ⟨x0,x1,x2,x3,x4,x5⟩:=HCE.out _ HB3.out
    cases g with
    | false =>
     have HT:=Lib.hid (HNK.out rfl)
     go_wp2
     go_ret
     exact ⟨by rw [HT.out];rfl,HB3.out⟩
    | true =>
     have HA:=Lib.hid (HAK.out rfl)
     go_wp2
     go_roundw
     case rel=>exact ⟨i+1,by omega,by go_num,HA.out,HB3.out⟩
     case measure=>simp [intOf];omega
   ·have q0:(k==20)=false:=by simpa using h20
    by_cases h19:k=19
    ·subst h19
     have HG:Hid (gd (.mk 19 nums text name c kids) 3=(onlyB 19 nums text name c&&decide ((m3:Int)=2)&&kids.all (fun t=>gd t 0))):=by
      unfold Hid;rw [gd_3_19,pl_n (by decide),gds_eq,HND.out.hm,Bool.and_comm (decide _)];rfl
     rw [gd_0_no (by omega)] at HC
     go_wp2_with fail
     refine HC.out.mono ?_
     rintro e w2 ⟨rfl,hb⟩
     have HB2:=Lib.hid (HBL.out.trans (hb.mono HBL.out.size))
     clear hb x0 x1 x2 x3 x4 x5
     obtain ⟨x0,x1,x2,x3,x4,x5⟩:=HCE.out _ HB2.out
     generalize onlyB 19 nums text name c=ob at *
     generalize kids.all (fun t=>gd t 0)=kb at *
     obtain ⟨g,hg⟩:∃ g,g=gd (.mk 19 nums text name c kids) 3:=⟨_,rfl⟩
     rw [<- hg] at HG HNK HAK
     clear hg HND
     go_wp2_with fail
     refine (HON.out _).mono ?_
     rintro e w3 ⟨rfl,hb⟩
     have HB3:=Lib.hid (HB2.out.trans (hb.mono HB2.out.size))
     clear hb x0 x1 x2 x3 x4 x5
     obtain ⟨x0,x1,x2,x3,x4,x5⟩:=HCE.out _ HB3.out
     cases ob with
     | false =>
      have HT:=Lib.hid (HNK.out (by rw [HG.out];rfl))
      go_wp2
      go_ret
      exact ⟨by rw [HT.out];rfl,HB3.out⟩
     | true =>
      by_cases hz:(m3:Int)=2
      ·have hz1:((m3:Int)==2)=true:=by simpa using hz
       have HG2:Hid (g=kb):=by unfold Hid;rw [HG.out,decide_eq_true hz];rfl
       clear hz HG
       go_wp2_with fail
       refine (HKK.out _ HB3.out).mono ?_
       rintro e w4 ⟨rfl,hb⟩
       have HB4:=Lib.hid (HB3.out.trans (hb.mono HB3.out.size))
       clear hb x0 x1 x2 x3 x4 x5
       rw [HG2.out] at HNK HAK
       clear HG2 g
       cases kb with
       | false =>
        have HT:=Lib.hid (HNK.out rfl)
        go_wp2
        go_ret
        exact ⟨by rw [HT.out];rfl,HB4.out⟩
       | true =>
        have HA:=Lib.hid (HAK.out rfl)
        go_wp2
        go_roundw
        case rel=>exact ⟨i+1,by omega,by go_num,HA.out,HB4.out⟩
        case measure=>simp [intOf];omega
      ·have hz1:((m3:Int)==2)=false:=by simpa using hz
       have HT:=Lib.hid (HNK.out (by rw [HG.out,decide_eq_false hz];rfl))
       clear hz HG
       go_wp2
       go_ret
       exact ⟨by rw [HT.out];rfl,HB3.out⟩
    ·have q1:(k==19)=false:=by simpa using h19
     rw [gd_3_no h19 h20] at HNK HAK
     generalize gd (.mk k nums text name c kids) 0=g at *
     clear h19 h20
     go_wp2_with fail
     refine HC.out.mono ?_
     rintro e w2 ⟨rfl,hb⟩
     have HB2:=Lib.hid (HBL.out.trans (hb.mono HBL.out.size))
     clear hb x0 x1 x2 x3 x4 x5
     obtain ⟨x0,x1,x2,x3,x4,x5⟩:=HCE.out _ HB2.out
     cases g with
     | false =>
      have HT:=Lib.hid (HNK.out rfl)
      go_wp2
      go_ret
      exact ⟨by rw [HT.out];rfl,HB2.out⟩
     | true =>
      have HA:=Lib.hid (HAK.out rfl)
      go_wp2
      go_roundw
      case rel=>exact ⟨i+1,by omega,by go_num,HA.out,HB2.out⟩
      case measure=>simp [intOf];omega
  ·have hge:¬ (i:Int) < (m:Int):=by omega
   have HT:Hid (R=true):=HYS.out fun j hj=>hall.out j hj (by have:=HM.out;omega)
   clear hall
   go_wp2
   go_ret
   exact ⟨by rw [HT.out];rfl,HBL.out⟩
theorem lenLg {l:List RTree} (h:0 < l.length):∃ ts t,l=ts++[t]:=by
 induction l with
 | nil=>simp at h
 | cons x l ih =>
  cases l with
  | nil=>exact ⟨[],x,rfl⟩
  | cons y l =>
   obtain ⟨ts,t,e⟩:=ih (by simp)
   exact ⟨x::ts,t,by rw [e];rfl⟩
theorem lenHg {l:List RTree} (h:0 < l.length):∃ t ts,l=t::ts:=by
 cases l with
 | nil=>simp at h
 | cons t ts=>exact ⟨t,ts,rfl⟩
theorem rval_step {N:Nat} (HK:Hid (KTell N)):NTell 24 (fun t=>gd t 0) (N+1):=by
 rintro ⟨k,nums,text,name,c,kids⟩ v0 v1 v2 v3 v4 v5 w hN hf ht
 obtain ⟨A1,n1,c1,A2,n2,c2,A,m,cc,rfl,rfl,rfl,rfl,rfl,rfl,hy⟩:=ht.node hf hN
 dsimp only
 by_cases hk:k < 1\/12 < k
 ·exact rval_no (hk:=hk) (HY:=hy)
 have hk2:k=1\/k=2\/k=3\/k=4\/k=5\/k=6\/k=7\/k=8\/k=9\/k=10\/k=11\/k=12:=by omega
 clear hk
 rcases hk2 with rfl | rfl | rfl | rfl | rfl | rfl | rfl | rfl | rfl | rfl | rfl | rfl
 ·exact rval_1 (HY:=hy)
 ·by_cases h0:m=0
  ·subst h0;exact rval_2b (HY:=hy)
  ·exact rval_2a (h0:=by omega) (HY:=hy)
 ·by_cases h0:m=0
  ·subst h0;exact rval_3b (HY:=hy)
  ·exact rval_3a (h0:=by omega) (HY:=hy)
 ·by_cases h0:m=0
  ·subst h0;exact rval_4b (HY:=hy)
  ·exact rval_4a (h0:=by omega) (HY:=hy)
 ·by_cases h0:m=0
  ·subst h0;exact rval_5b (HY:=hy)
  ·exact rval_5a (h0:=by omega) (HY:=hy)
 ·by_cases h0:m=0
  ·subst h0;exact rval_6b (HY:=hy)
  ·exact rval_6a (h0:=by omega) (HY:=hy)
 ·by_cases h0:m<=1
  ·exact rval_7a (h0:=h0) (HY:=hy)
  ·exact rval_7b (h0:=by omega) (HY:=hy) (HK:=HK)
 ·by_cases h0:m<=1
  ·exact rval_8a (h0:=h0) (HY:=hy)
  ·obtain ⟨b,o,rfl⟩:=hy.hkid.some (by have:=hy.hm;omega)
   obtain ⟨t,ts,rfl⟩:=lenHg (l:=kids) (by have:=hy.hm;omega)
   exact rval_8b (h0:=by omega) (HY:=hy) (HK:=HK)
 ·by_cases h0:m=2
  ·subst h0
   obtain ⟨b,o,rfl⟩:=hy.hkid.some (by have:=hy.hm;omega)
   obtain ⟨t,ts,rfl⟩:=lenHg (l:=kids) (by have:=hy.hm;omega)
   exact rval_9b (HY:=hy) (HK:=HK)
  ·exact rval_9a (h0:=by omega) (HY:=hy)
 ·by_cases h0:m=3
  ·subst h0
   obtain ⟨b,o,rfl⟩:=hy.hkid.some (by have:=hy.hm;omega)
   obtain ⟨t,ts,rfl⟩:=lenHg (l:=kids) (by have:=hy.hm;omega)
   exact rval_10b (HY:=hy) (HK:=HK)
  ·exact rval_10a (h0:=by omega) (HY:=hy)
 ·by_cases h0:(m:Int)=1
  ·exact rval_11b (h0:=h0) (HY:=hy) (HK:=HK)
  ·exact rval_11a (h0:=h0) (HY:=hy)
 ·by_cases h0:m<=1
  ·exact rval_12a (h0:=h0) (HY:=hy)
  ·obtain ⟨b,o,rfl⟩:=hy.hkid.some (by have:=hy.hm;omega)
   obtain ⟨ts,t0,rfl⟩:=lenLg (l:=kids) (by have:=hy.hm;omega)
   have hm':m=ts.length+1:=by have:=hy.hm;simpa using this
   obtain ⟨j,hj⟩:∃ j,j=ts.length:=⟨_,rfl⟩
   rw [<- hj] at hm'
   subst hm'
   exact rval_12b (h0:=by omega) (hj2:=by have:=hy.fm;omega) (hj:=hj) (HY:=hy) (HK:=HK)
theorem rfun_step {N:Nat} (HK:Hid (KTell N)):NTell 105 (fun t=>gd t 1) (N+1):=by
 rintro ⟨k,nums,text,name,c,kids⟩ v0 v1 v2 v3 v4 v5 w hN hf ht
 obtain ⟨A1,n1,c1,A2,n2,c2,A,m,cc,rfl,rfl,rfl,rfl,rfl,rfl,hy⟩:=ht.node hf hN
 dsimp only
 by_cases hk:k < 13\/18 < k
 ·exact rfun_no (hk:=hk) (HY:=hy)
 have hk2:k=13\/k=14\/k=15\/k=16\/k=17\/k=18:=by omega
 clear hk
 rcases hk2 with rfl | rfl | rfl | rfl | rfl | rfl
 ·by_cases h0:m=0
  ·subst h0
   cases hv:verbB c with
   | true=>exact rfun_13b (hv:=hv) (HY:=hy)
   | false=>exact rfun_13c (hv:=hv) (HY:=hy)
  ·exact rfun_13a (h0:=by omega) (HY:=hy)
 ·by_cases h0:m=0
  ·subst h0;exact rfun_14b (HY:=hy)
  ·exact rfun_14a (h0:=by omega) (HY:=hy)
 ·by_cases h0:m=0
  ·subst h0;exact rfun_15a (HY:=hy)
  ·exact rfun_15b (h0:=by omega) (HY:=hy) (HK:=HK)
 ·by_cases h0:m=1
  ·subst h0
   cases hs:slashB c with
   | true=>exact rfun_16b (hs:=hs) (HY:=hy) (HK:=HK)
   | false =>
    by_cases h1:c=168
    ·subst h1;exact rfun_16c (HY:=hy) (HK:=HK)
    ·by_cases h2:c=9064
     ·subst h2;exact rfun_16d (HY:=hy) (HK:=HK)
     ·exact rfun_16e (hs:=hs) (h1:=by simpa using h1) (h2:=by simpa using h2) (HY:=hy)
  ·exact rfun_16a (h0:=by omega) (HY:=hy)
 ·by_cases h0:(m:Int)=2
  ·exact rfun_17b (h0:=h0) (HY:=hy) (HK:=HK)
  ·exact rfun_17a (h0:=h0) (HY:=hy)
 ·by_cases h0:(m:Int)=1
  ·exact rfun_18b (h0:=h0) (HY:=hy) (HK:=HK)
  ·exact rfun_18a (h0:=h0) (HY:=hy)
theorem rbind_step {N:Nat} (HK:Hid (KTell N)):NTell 35 (fun t=>decide (kindR t=20)&&gd t 4) (N+1):=by
 rintro ⟨k,nums,text,name,c,kids⟩ v0 v1 v2 v3 v4 v5 w hN hf ht
 obtain ⟨A1,n1,c1,A2,n2,c2,A,m,cc,rfl,rfl,rfl,rfl,rfl,rfl,hy⟩:=ht.node hf hN
 dsimp only
 by_cases hk:k=20
 ·subst hk
  rw [decide_eq_true (show kindR (.mk 20 nums text name c kids)=20 from rfl),Bool.true_and]
  by_cases h0:m=1
  ·subst h0;exact rbind_b (HY:=hy) (HK:=HK)
  ·exact rbind_a (h0:=by omega) (HY:=hy)
 ·rw [decide_eq_false (show ¬ kindR (.mk k nums text name c kids)=20 from hk),Bool.false_and]
  exact rbind_no hk _ _ _ _ _ w
theorem kTell_step {N:Nat} (hv:NTell 24 (fun t=>gd t 0) N) (hf:NTell 105 (fun t=>gd t 1) N) (hb:NTell 35 (fun t=>decide (kindR t=20)&&gd t 4) N) (hk:∀ M,M+1<=N->KTell M):KTell N:=by
 intro s sn l A m cc W hs hsn hm hm2 hkd hok
 subst hs
 have h:sn=0\/sn=1\/sn=2\/sn=3:=by omega
 rcases h with rfl | rfl | rfl | rfl
 ·exact rkids_0 hv l A m cc W hm hm2 hkd hok
 ·exact rkids_1 hf l A m cc W hm hm2 hkd hok
 ·exact rkids_2 hv l A m cc W hm hm2 hkd hok
 ·exact rkids_3 hv hb hk l A m cc W hm hm2 hkd hok
theorem nTell_zero (f:FuncId) (p:RTree->Bool):NTell f p 0:=by
 intro t _ _ _ _ _ _ _ h
 have:=sizeR_pos t
 omega
theorem rall_good:∀ N:Nat,(NTell 24 (fun t=>gd t 0) N/\NTell 105 (fun t=>gd t 1) N/\NTell 35 (fun t=>decide (kindR t=20)&&gd t 4) N)/\∀ M,M<=N->KTell M
 | 0=>⟨⟨nTell_zero _ _,nTell_zero _ _,nTell_zero _ _⟩,fun M hM=>by
  obtain rfl:M=0:=by omega
  exact kTell_step (nTell_zero _ _) (nTell_zero _ _) (nTell_zero _ _) fun M h=>by omega⟩
 | N+1=>by
  obtain ⟨_,hk⟩:=rall_good N
  have hK:=hk N (Nat.le_refl _)
  have hv:=rval_step hK
  have hf:=rfun_step hK
  have hb:=rbind_step hK
  refine ⟨⟨hv,hf,hb⟩,fun M hM=>?_⟩
  by_cases h:M<=N
  ·exact hk M h
  ·obtain rfl:M=N+1:=by omega
   exact kTell_step hv hf hb fun M h=>hk M (by omega)
mutual
def deepN:Nat->RTree->Nat
 | 0,_=>0
 | d+1,.mk _ _ _ _ _ kids=>1+deepNs d kids
def deepNs:Nat->List RTree->Nat
 | _,[]=>0
 | d,t::ts=>max (deepN d t) (deepNs d ts)
end
theorem deepNs_le (d D:Nat):∀ ts:List RTree,deepNs d ts<=D↔∀ t∈ts,deepN d t<=D
 | []=>by rw [deepNs];simp
 | t::ts=>by
  rw [deepNs,Nat.max_le,deepNs_le d D ts]
  simp
theorem deepN_dpB:∀ (d e:Nat) (t:RTree),d < e->(decide (deepN e t<=d)=dpB d t)
 | 0,e,.mk k nums text name c kids,h=>by
  obtain ⟨e',rfl⟩:∃ e',e=e'+1:=⟨e - 1,by omega⟩
  rw [deepN,dpB]
  simp
 | d+1,e,.mk k nums text name c kids,h=>by
  obtain ⟨e',rfl⟩:∃ e',e=e'+1:=⟨e - 1,by omega⟩
  rw [deepN,dpB]
  have h2:decide (1+deepNs e' kids<=d+1)=decide (∀ t∈kids,deepN e' t<=d):=by
   rw [Bool.eq_iff_iff,decide_eq_true_iff,decide_eq_true_iff,<- deepNs_le];omega
  rw [h2,Bool.eq_iff_iff,decide_eq_true_iff,List.all_eq_true]
  refine ⟨fun hk t ht=>?_,fun hk t ht=>?_⟩
  ·rw [<- deepN_dpB d e' t (by omega)];exact decide_eq_true (hk t ht)
  ·have:=hk t ht
   rw [<- deepN_dpB d e' t (by omega)] at this
   exact of_decide_eq_true this
def accD (d:Nat) (ts:List RTree):Nat->Nat
 | 0=>0
 | i+1=>max (accD d ts i) (deepN d (ts.getD i default))
theorem accD_cons (d:Nat) (t:RTree) (ts:List RTree):∀ i,accD d (t::ts) (i+1)=max (deepN d t) (accD d ts i)
 | 0=>by show max 0 (deepN d t)=max (deepN d t) 0;omega
 | i+1=>by
  show max (accD d (t::ts) (i+1)) (deepN d (ts.getD i default))=_
  rw [accD_cons d t ts i]
  show _=max (deepN d t) (max (accD d ts i) (deepN d (ts.getD i default)))
  omega
theorem accD_all (d:Nat):∀ ts,accD d ts ts.length=deepNs d ts
 | []=>rfl
 | t::ts=>by rw [List.length_cons,accD_cons,accD_all d ts,deepNs]
theorem deepN_lt:∀ (d:Nat) (t:RTree),deepN d t<=d
 | 0,t=>by rw [deepN];omega
 | d+1,.mk _ _ _ _ _ kids=>by
  rw [deepN]
  have:=(deepNs_le d d kids).2 fun t _=>deepN_lt d t
  omega
theorem deepX_R:∀ (N:Nat) (t:RTree) (v0 v1 v2 v3 v4 v5:Value) (D:Nat) (most:Int) (w:World),most=(D:Int)->D<=60->sizeR t<=N->sizeR t<=1048576->RN w t [v0,v1,v2,v3,v4,v5] ->
  Calls Tryz.prog 58 #[.agg #[v0,v1,v2,v3,v4,v5],.int .i64 most] w fun e w'=>e= .returned (.int .i64 (deepN D t:Nat))/\Below w.heap.size w w'
 | 0,t,_,_,_,_,_,_,_,_,_,_,_,h,_,_=>by have:=sizeR_pos t;omega
 | N+1,.mk k nums text name c kids,v0,v1,v2,v3,v4,v5,D,most,w,hmost,hD60,hN,hM,hr=>by
  obtain ⟨nv,tv,A,cc,m,hvs,hrn,hrt,hm,hkid⟩:=hr.open_
  simp only [List.cons.injEq,and_true] at hvs
  obtain ⟨rfl,rfl,rfl,rfl,rfl,rfl⟩:=hvs
  obtain ⟨A1,n1,c1,rfl,hx1⟩:=hrn.slice
  obtain ⟨A2,n2,c2,rfl,hx2⟩:=hrt.slice
  clear hx1 hx2
  have HK:=Lib.hid hkid
  have HM:=Lib.hid hm
  have hsz:sizeR (.mk k nums text name c kids)=1+sizeRs kids:=by rw [sizeR]
  have hlen:=sizeRs_len kids
  have hm2:m<=1048576:=by omega
  have HIH:Hid (∀ t v0 v1 v2 v3 v4 v5 (D:Nat) (most:Int) w,most=(D:Int)->D<=60->sizeR t<=N->sizeR t<=1048576->RN w t [v0,v1,v2,v3,v4,v5]->Calls Tryz.prog 58 #[.agg #[v0,v1,v2,v3,v4,v5],.int .i64 most] w fun e w'=>e= .returned (.int .i64 (deepN D t:Nat))/\Below w.heap.size w w'):=deepX_R N
  have HAT:Hid (∀ i (hi:i < kids.length),sizeR kids[i]<=sizeRs kids):=fun i hi=>sizeRs_at hi
  have HN2:Hid (1+sizeRs kids<=N+1/\1+sizeRs kids<=1048576):=by unfold Hid;omega
  have HB0:Hid (Below w.heap.size w (w.alloc (.cells #[.int .i64 k,.slice A1 n1 c1,.slice A2 n2 c2,.string name,.int .i32 c,.slice A m cc] 29))):=(Below.refl _ w).alloc (Nat.le_refl _) _
  clear hkid hm hsz hlen hN hM hr hrn hrt
  have hk0:(w.alloc (.cells #[.int .i64 k,.slice A1 n1 c1,.slice A2 n2 c2,.string name,.int .i32 c,.slice A m cc] 29)).cell? ⟨w.heap.size,5,none⟩=some (.slice A m cc):=by rw [World.cell?_alloc_at _ _ _ _ rfl];rfl
  have HK0:=Lib.hid hk0
  have hsz0:(w.alloc (.cells #[.int .i64 k,.slice A1 n1 c1,.slice A2 n2 c2,.string name,.int .i32 c,.slice A m cc] 29)).heap.size=w.heap.size+1:=by simp
  have HSZ0:=Lib.hid hsz0
  clear hk0 hsz0
  cases D with
  | zero =>
   have hz:most=0:=by omega
   have HR:Hid (deepN 0 (.mk k nums text name c kids)=0):=by unfold Hid;rw [deepN]
   subst hz
   clear hmost
   go_enter Tryz.func58,Tryz.ntmps58
   go_wp2
   go_ret
   exact ⟨by rw [HR.out];rfl,HB0.out⟩
  | succ D =>
   have hz1:(most==0)=false:=by simp;omega
   have hp1:1<=most:=by omega
   have hp60:most<=60:=by omega
   have HMO:Hid (most - 1=(D:Int)):=by unfold Hid;omega
   have HR:Hid (deepN (D+1) (.mk k nums text name c kids)=1+accD D kids kids.length):=by unfold Hid;rw [deepN,accD_all]
   have HLT:=Lib.hid (deepN_lt D)
   have HAD:Hid (∀ i,accD D kids (i+1)=max (accD D kids i) (deepN D (kids.getD i default))):=fun i=>rfl
   have HA0:Hid (accD D kids 0=0):=rfl
   have hD59:D<=59:=by omega
   generalize deepN (D+1) (.mk k nums text name c kids)=R at *
   clear hmost
   go_enter Tryz.func58,Tryz.ntmps58
   go_wp2
   generalize w.alloc (.cells #[.int .i64 k,.slice A1 n1 c1,.slice A2 n2 c2,.string name,.int .i32 c,.slice A m cc] 29)=W at *
   go_loopw [5,6] (fun cv iv wr=>∃ (i n:Nat),i<=m/\iv= .int .i64 (i:Int)/\cv= .int .i64 (n:Int)/\Hid (n=accD D kids i)/\n<=60/\Below W.heap.size W wr) (fun _ iv _=>m - (intOf iv).toNat)
   case atStart=>exact ⟨0,0,Nat.zero_le _,rfl,rfl,HA0.out.symm,by omega,Below.refl _ _⟩
   case round =>
    obtain ⟨i,n,hi,rfl,rfl,HNA,h2,hbl⟩:=hrel
    have HBL:=Lib.hid hbl
    have HBW:Hid (Below w.heap.size w wr):=HB0.out.trans (hbl.mono (by have:=HSZ0.out;omega))
    have hk0:wr.cell? ⟨w.heap.size,5,none⟩=some (.slice A m cc):=by rw [hbl.cell (by have:=HSZ0.out;simp;omega)];exact HK0.out
    have hzw:W.heap.size<=wr.heap.size:=hbl.size
    clear hbl
    by_cases him:i < m
    ·have hik:i < kids.length:=by have:=HM.out;omega
     obtain ⟨b,o,u0,u1,u2,u3,u4,u5,rfl,hr,hce⟩:=HK.out i hik
     obtain ⟨c0,c1,c2,c3,c4,c5⟩:=hce wr HBW.out
     have HIC:=Lib.hid (HIH.out kids[i] u0 u1 u2 u3 u4 u5 D (most - 1) wr HMO.out (by omega) (by have:=HAT.out i hik;have:=HN2.out;omega) (by have:=HAT.out i hik;have:=HN2.out;omega) (hr.below HBW.out))
     have hgd:kids.getD i default=kids[i]:=by simp [List.getD,hik]
     have HNX:Hid (accD D kids (i+1)=max n (deepN D kids[i])):=by unfold Hid;rw [HAD.out i,hgd,<- HNA.out]
     have hlt:=HLT.out kids[i]
     clear hr hce hgd
     generalize deepN D kids[i]=n2 at *
     go_wp2_with fail
     refine HIC.out.mono ?_
     rintro e w2 ⟨rfl,hb⟩
     have HB2:=Lib.hid (HBL.out.trans (hb.mono hzw))
     clear hb
     by_cases hg:n < n2
     ·have HE:Hid (n2=accD D kids (i+1)):=by unfold Hid;rw [HNX.out];omega
      have hgi:(n:Int) < (n2:Int):=by omega
      go_wp2
      go_roundw
      case rel=>exact ⟨i+1,n2,by omega,by go_num,rfl,HE.out,by omega,HB2.out⟩
      case measure=>simp [intOf];omega
     ·have HE:Hid (n=accD D kids (i+1)):=by unfold Hid;rw [HNX.out];omega
      have hgi:¬ (n:Int) < (n2:Int):=by omega
      go_wp2
      go_roundw
      case rel=>exact ⟨i+1,n,by omega,by go_num,rfl,HE.out,by omega,HB2.out⟩
      case measure=>simp [intOf];omega
    ·have HE:Hid (R=1+n):=by unfold Hid;rw [HR.out,HNA.out,show i=kids.length by have:=HM.out;omega]
     go_wp2
     go_ret
     exact ⟨by rw [HE.out];go_num,HBW.out⟩
theorem DeepX_R (t:RTree) (v0 v1 v2 v3 v4 v5:Value) (w:World) (hM:sizeR t<=1048576) (hr:RN w t [v0,v1,v2,v3,v4,v5]) :
  Calls Tryz.prog 25 #[.agg #[v0,v1,v2,v3,v4,v5]] w fun e w'=>e= .returned (.int .i64 (deepN 60 t:Nat))/\Below w.heap.size w w':=by
 have HB0:Hid (Below w.heap.size w (w.alloc (.cells #[v0,v1,v2,v3,v4,v5] 29))):=(Below.refl _ w).alloc (Nat.le_refl _) _
 have HDP:=Lib.hid (fun w' hb=>deepX_R (sizeR t) t v0 v1 v2 v3 v4 v5 60 60 w' rfl (Nat.le_refl _) (Nat.le_refl _) hM (hr.below (w':=w') hb))
 clear hM hr
 generalize deepN 60 t=n at *
 go_enter Tryz.func25,Tryz.ntmps25
 go_wp2_with fail
 refine (HDP.out _ HB0.out).mono ?_
 rintro e w1 ⟨rfl,hb⟩
 have HB1:=Lib.hid (bel_both HB0.out hb)
 clear hb
 go_wp2
 go_ret
 exact ⟨rfl,HB1.out⟩
def stB (t:RTree):Bool:=(gd t 0||(decide (kindR t=20)&&gd t 4))&&dpB 40 t
theorem rstate_walk (t:RTree) (v0 v1 v2 v3 v4 v5:Value) (w:World) (hM:sizeR t<=1048576) (hf:FitG t) (hr:RN w t [v0,v1,v2,v3,v4,v5]) :
  Calls Tryz.prog 9 #[.agg #[v0,v1,v2,v3,v4,v5]] w fun e w'=>e= .returned (.bool (stB t))/\Below w.heap.size w w':=by
 have HB0:=Lib.hid (boxedT w [v0,v1,v2,v3,v4,v5] 29)
 have HGV:=Lib.hid (fun W (h:BoxT w W [v0,v1,v2,v3,v4,v5])=>(rall_good (sizeR t)).1.1 t v0 v1 v2 v3 v4 v5 W (Nat.le_refl _) hf (hr.below h.2.1))
 have HGB:=Lib.hid (fun W (h:BoxT w W [v0,v1,v2,v3,v4,v5])=>(rall_good (sizeR t)).1.2.2 t v0 v1 v2 v3 v4 v5 W (Nat.le_refl _) hf (hr.below h.2.1))
 have HDP:=Lib.hid (fun W (h:BoxT w W [v0,v1,v2,v3,v4,v5])=>DeepX_R t v0 v1 v2 v3 v4 v5 W hM (hr.below h.2.1))
 have HD40:Hid (decide (deepN 60 t<=40)=dpB 40 t):=deepN_dpB 40 60 t (by decide)
 have HS:Hid (stB t=((gd t 0||(decide (kindR t=20)&&gd t 4))&&dpB 40 t)):=rfl
 dsimp only at HGV HGB
 clear hM hf hr
 generalize gd t 0=b1 at *
 generalize (decide (kindR t=20)&&gd t 4)=b2 at *
 generalize dpB 40 t=b3 at *
 generalize deepN 60 t=n at *
 generalize stB t=R at *
 go_enter Tryz.func9,Tryz.ntmps9
 obtain ⟨n0,n1,n2,n3,n4,n5⟩:=HB0.out.c6
 go_wp2_with fail
 refine (HGV.out _ HB0.out).mono ?_
 rintro e w1 ⟨rfl,hb⟩
 have HB1:=Lib.hid (HB0.out.step hb)
 clear hb n0 n1 n2 n3 n4 n5
 obtain ⟨n0,n1,n2,n3,n4,n5⟩:=HB1.out.c6
 cases b1 with
 | true =>
  go_wp2_with fail
  refine (HDP.out _ HB1.out).mono ?_
  rintro e w2 ⟨rfl,hb⟩
  have HB2:=Lib.hid (HB1.out.step hb)
  clear hb n0 n1 n2 n3 n4 n5
  by_cases h40:n<=40
  ·have h3:b3=true:=by rw [<- HD40.out];exact decide_eq_true h40
   have hi:(n:Int)<=40:=by omega
   go_wp2
   go_ret
   exact ⟨by rw [HS.out,h3];rfl,HB2.out.2.1⟩
  ·have h3:b3=false:=by rw [<- HD40.out];exact decide_eq_false h40
   have hi:¬ (n:Int)<=40:=by omega
   go_wp2
   go_ret
   exact ⟨by rw [HS.out,h3];show Ending.returned (Value.bool (decide ((n:Int)<=40)))=_;rw [decide_eq_false (show ¬ (n:Int)<=40 by omega),Bool.and_false],HB2.out.2.1⟩
 | false =>
  go_wp2_with fail
  refine (HGB.out _ HB1.out).mono ?_
  rintro e w2 ⟨rfl,hb⟩
  have HB2:=Lib.hid (HB1.out.step hb)
  clear hb n0 n1 n2 n3 n4 n5
  obtain ⟨n0,n1,n2,n3,n4,n5⟩:=HB2.out.c6
  cases b2 with
  | false =>
   go_wp2
   go_ret
   exact ⟨by rw [HS.out];rfl,HB2.out.2.1⟩
  | true =>
   go_wp2_with fail
   refine (HDP.out _ HB2.out).mono ?_
   rintro e w3 ⟨rfl,hb⟩
   have HB3:=Lib.hid (HB2.out.step hb)
   clear hb n0 n1 n2 n3 n4 n5
   by_cases h40:n<=40
   ·have h3:b3=true:=by rw [<- HD40.out];exact decide_eq_true h40
    have hi:(n:Int)<=40:=by omega
    go_wp2
    go_ret
    exact ⟨by rw [HS.out,h3];rfl,HB3.out.2.1⟩
   ·have h3:b3=false:=by rw [<- HD40.out];exact decide_eq_false h40
    have hi:¬ (n:Int)<=40:=by omega
    go_wp2
    go_ret
    exact ⟨by rw [HS.out,h3];show Ending.returned (Value.bool (decide ((n:Int)<=40)))=_;rw [decide_eq_false (show ¬ (n:Int)<=40 by omega),Bool.and_false],HB3.out.2.1⟩
theorem tstate_walk (t:RTree) (v0 v1 v2 v3 v4 v5 v6:Value) (w:World) (hf:FitG t) (ht:TN w t [v0,v1,v2,v3,v4,v5,v6]) :
  Calls Tryz.prog 36 #[.agg #[v0,v1,v2,v3,v4,v5,v6]] w fun e w'=>e= .returned (.bool (stB t))/\Below w.heap.size w w':=by
 obtain ⟨hv,hfn,hix,hli,hbi⟩:=all_good (sizeR t)
 have hX:=boxedT w [v0,v1,v2,v3,v4,v5,v6] 31
 have HV:Hid (∀ W,Below w.heap.size w W->Calls Tryz.prog 69 #[.agg #[v0,v1,v2,v3,v4,v5,v6]] W fun e w'=>e= .returned (.bool (gd t 0))/\Below W.heap.size W w'):=fun W hb=>hv t _ _ _ _ _ _ _ W ⟨Nat.le_refl _,hf⟩ (TN.below hb _ _ ht)
 have HBI:Hid (∀ W,Below w.heap.size w W->Calls Tryz.prog 72 #[.agg #[v0,v1,v2,v3,v4,v5,v6]] W fun e w'=>e= .returned (.bool (gd t 4))/\Below W.heap.size W w'):=fun W hb=>hbi t _ _ _ _ _ _ _ W ⟨Nat.le_refl _,hf⟩ (TN.below hb _ _ ht)
 have HD:Hid (∀ W,Below w.heap.size w W->Calls Tryz.prog 71 #[.agg #[v0,v1,v2,v3,v4,v5,v6],.int .i64 40] W fun e w'=>e= .returned (.bool (dpB 40 t))/\Below W.heap.size W w'):=fun W hb=>depth_walk 40 t _ _ _ _ _ _ _ W 40 rfl (by omega) hf (TN.below hb _ _ ht)
 obtain ⟨ua,B1,m1,d1,B2,m2,d2,B3,m3,d3,rfl,rfl,rfl,rfl,rfl,rfl,rfl,-,-⟩:=ht.vals
 have HS:Hid (stB t=((gd t 0||(decide (kindR t=20)&&gd t 4))&&dpB 40 t)):=rfl
 have X0:=Lib.hid hX
 clear hv hfn hX hf ht hix hli hbi
 generalize gd t 0=b1 at *
 generalize gd t 4=b2 at *
 generalize dpB 40 t=b3 at *
 generalize stB t=R at *
 generalize kindR t=k at *
 generalize nameR t=un at *
 generalize charR t=uc at *
 go_enter Tryz.func36,Tryz.ntmps36
 go_wp2_with fail
 generalize w.alloc (.cells #[.int .i64 k,.int .i64 ua,.slice B1 m1 d1,.slice B2 m2 d2,.string un,.int .i32 uc,.slice B3 m3 d3] 31)=W at *
 (with_reducible refine (HD.out _ X0.out.bl).mono ?_)
 rintro e w1 ⟨rfl,hb⟩
 have X1:=Lib.hid (X0.out.step hb)
 clear hb
 obtain ⟨x0,x1,x2,x3,x4,x5,x6⟩:=X1.out.c7
 cases b3
 case false =>
  go_wp2
  go_ret
  exact ⟨by rw [HS.out,Bool.and_false];rfl,X1.out.bl⟩
 by_cases h20:k=20
 ·subst h20
  go_wp2_with fail
  (with_reducible refine (HBI.out _ X1.out.bl).mono ?_)
  rintro e w2 ⟨rfl,hb⟩
  have X2:=Lib.hid (X1.out.step hb)
  clear hb x0 x1 x2 x3 x4 x5 x6
  obtain ⟨x0,x1,x2,x3,x4,x5,x6⟩:=X2.out.c7
  cases b2
  case true =>
   go_wp2
   go_ret
   exact ⟨by rw [HS.out];simp,X2.out.bl⟩
  go_wp2_with fail
  (with_reducible refine (HV.out _ X2.out.bl).mono ?_)
  rintro e w3 ⟨rfl,hb⟩
  have X3:=Lib.hid (X2.out.step hb)
  clear hb x0 x1 x2 x3 x4 x5 x6
  go_wp2
  go_ret
  exact ⟨by rw [HS.out];simp,X3.out.bl⟩
 ·have h20b:(k==20)=false:=by simpa using h20
  go_wp2_with fail
  (with_reducible refine (HV.out _ X1.out.bl).mono ?_)
  rintro e w3 ⟨rfl,hb⟩
  have X3:=Lib.hid (X1.out.step hb)
  clear hb x0 x1 x2 x3 x4 x5 x6
  go_wp2
  go_ret
  exact ⟨by rw [HS.out];simp [h20],X3.out.bl⟩
end Go.Proofs.YtbakjaliponbbaaGreatDoor
