/- The walks of the reference's Product and of shape.Product. The reference's Product of any numbers; Finite of any .. Conditions: as each theorem says. -/
import Derived.Test.YtakgmnafbjdccaaGreatDoorMg18
import Derived.IntWalk
set_option maxRecDepth 100000
set_option maxHeartbeats 2000000
namespace Go.Proofs.YtakgmnafbjdccaaGreatDoor
open Go Go.RowKit Go.Proofs Fl
theorem nat_open {w:World}{v:Value}{s:List Nat} (h:Reads1 w v (s.map fun n:Nat => .int .i64 (n:Int))):∃ A n c,v= .slice A n c/\n=s.length /\
  ∀ i (hi:i < s.length),∃ b o,A=some ⟨b,o,none⟩/\w.cell? ⟨b,o+i,none⟩=some (.int .i64 (s[i]:Nat)):=by
 rcases h with ⟨a,c,rfl,h0⟩ | ⟨b,o,n,c,rfl,hn,hc⟩
 ·have:s=[]:=by simpa using h0
  subst this
  exact ⟨a,0,c,rfl,rfl,fun i hi=>by simp at hi⟩
 ·rw [List.length_map] at hn
  refine ⟨_,n,c,rfl,hn,fun i hi=>⟨b,o,rfl,?_⟩⟩
  have:=hc i (by simpa using hi)
  rw [this]
  simp
theorem take_mem {s:List Nat}{k:Nat} (h:k < s.length):(0∈s.take (k+1))↔(0∈s.take k\/s[k]=0):=by
 rw [List.take_succ_eq_append_getElem h,List.mem_append,List.mem_singleton]
 constructor
 ·rintro (h | h)
  ·exact .inl h
  ·exact .inr h.symm
 ·rintro (h | h)
  ·exact .inl h
  ·exact .inr h.symm
theorem prodE_8 {s:List Nat}{most:Int} (h:8 < s.length):prodE s most=(0,26):=if_pos h
theorem prodE_big {s:List Nat}{most:Int} (h:1048576 < prod1 s):prodE s most=(0,26):=by
 unfold prodE
 rw [if_pos h]
 split <;> rfl
theorem prodE_most {s:List Nat}{most:Int} (h:most < (prodN s:Int)):prodE s most=(0,26):=by
 unfold prodE
 rw [if_pos h]
 split
 ·rfl
 ·split <;> rfl
theorem prodE_all {s:List Nat}{most:Int} (h8:¬ 8 < s.length) (h1:prod1 s<=1048576) (hm:¬ most < (prodN s:Int)):prodE s most=((prodN s:Int),0):=by
 unfold prodE
 rw [if_neg h8,if_neg (by omega),if_neg hm]
theorem prod1_lt {s:List Nat}{k:Nat} (h:k < s.length) (hb:1048576 < prod1 (s.take k)*max 1 s[k]):1048576 < prod1 s:=by
 have h1:=prod1_take_le s (k+1)
 rw [prod1_take s k h] at h1
 omega
theorem rprod_nat (v:Value) (s:List Nat) (most:Int) (w:World) (hv:Reads1 w v (s.map fun n:Nat => .int .i64 (n:Int))) (hl:s.length<=1048576) :
  Calls Tryz.prog 79 #[v,.int .i64 most] w fun e w'=>e= .returned (.tuple #[.int .i64 (prodE s most).1,.int .i64 (prodE s most).2])/\w=w':=by
 obtain ⟨A,n,c,rfl,hn,hcell⟩:=nat_open hv
 obtain ⟨R,hR⟩:∃ R,R=prodE s most:=⟨_,rfl⟩
 rw [<- hR]
 have HR:=Lib.hid hR
 have HN:=Lib.hid hn
 have HC:=Lib.hid hcell
 have hnb:n<=1048576:=by omega
 clear hv hl hn hcell hR
 by_cases h8:8 < n
 ·have HE:Hid (R=(0,26)):=by unfold Hid;rw [HR.out];exact prodE_8 (by have:=HN.out;omega)
  have h8':(8:Int) < (n:Int):=by omega
  clear h8
  go_enter Tryz.func79,Tryz.ntmps79
  go_wp2
  go_ret2
  exact ⟨by rw [HE.out];rfl,rfl⟩
 ·have h8':¬ (8:Int) < (n:Int):=by omega
  have HPZ:Hid (∀ k (hk:k < s.length),prod1 (s.take (k+1))=prod1 (s.take k)*max 1 s[k]):=fun k hk=>prod1_take s k hk
  have HTM:Hid (∀ k (hk:k < s.length),(0∈s.take (k+1))↔(0∈s.take k\/s[k]=0)):=fun k hk=>take_mem hk
  have HEL:Hid (∀ k (hk:k < s.length),s[k]<=prod1 s):=fun k hk=>prod1_elem hk
  have HLT:Hid (∀ k (hk:k < s.length),1048576 < prod1 (s.take k)*max 1 s[k]->1048576 < prod1 s):=fun k hk h=>prod1_lt hk h
  have HTK:Hid (s.take n=s):=by unfold Hid;rw [HN.out];exact List.take_length
  go_enter Tryz.func79,Tryz.ntmps79
  go_wp2
  go_loopw [7,8] (fun z i wr=>∃ (k:Nat) (t:Bool),k<=n/\i= .int .i64 (k:Int)/\z= .bool t/\Hid (t=decide (0∈s.take k))/\w=wr) (fun _ i _=>n - (intOf i).toNat)
  case atStart=>exact ⟨0,false,Nat.zero_le _,rfl,rfl,by simp [Hid],rfl⟩
  case round =>
   obtain ⟨k,t,hk,rfl,rfl,ht,rfl⟩:=hrel
   by_cases hlt:k < n
   ·have hks:k < s.length:=by have:=HN.out;omega
    obtain ⟨b,o,rfl,hce⟩:=HC.out k hks
    have HT:=Lib.hid (HTM.out k hks)
    generalize s[k]=d at hce HT
    have hd0:¬ (d:Int) < 0:=by omega
    have hlt2:(k:Int) < (n:Int):=by omega
    cases t with
    | true =>
     have HT2:Hid (true=decide (0∈s.take (k+1))):=by unfold Hid;symm;exact decide_eq_true (HT.out.2 (.inl (of_decide_eq_true ht.out.symm)))
     clear ht HT
     go_wp2
     go_roundw
     case rel=>exact ⟨k+1,true,by omega,by go_num,rfl,HT2.out,by trivial⟩
     case measure=>simp [intOf];omega
    | false =>
     by_cases hz:d=0
     ·have HT2:Hid (true=decide (0∈s.take (k+1))):=by unfold Hid;symm;exact decide_eq_true (HT.out.2 (.inr hz))
      subst hz
      clear ht HT
      go_wp2
      go_roundw
      case rel=>exact ⟨k+1,true,by omega,by go_num,rfl,HT2.out,by trivial⟩
      case measure=>simp [intOf];omega
     ·have HT2:Hid (false=decide (0∈s.take (k+1))):=by
       unfold Hid;symm
       refine decide_eq_false fun h=>?_
       rcases HT.out.1 h with h | h
       ·exact of_decide_eq_false ht.out.symm h
       ·exact hz h
      have hz2:((d:Int)==0)=false:=by simp;omega
      clear ht HT hz
      go_wp2
      go_roundw
      case rel=>exact ⟨k+1,false,by omega,by go_num,rfl,HT2.out,by trivial⟩
      case measure=>simp [intOf];omega
   ·have hge:¬ (k:Int) < (n:Int):=by omega
    have HZ:Hid (t=decide (0∈s)):=by unfold Hid;rw [ht.out,show k=n by omega,HTK.out]
    clear ht HTM hlt
    go_wp2
    go_loopw [6,9] (fun p i wr=>∃ (k q:Nat),k<=n/\i= .int .i64 (k:Int)/\p= .int .i64 (q:Int)/\q<=1048576/\1<=q/\Hid (q=prod1 (s.take k))/\w=wr) (fun _ i _=>n - (intOf i).toNat)
    case atStart=>exact ⟨0,1,Nat.zero_le _,rfl,rfl,by omega,by omega,rfl,rfl⟩
    case round =>
     obtain ⟨k,q,hk,rfl,rfl,hq,hq1,hp,rfl⟩:=hrel
     by_cases hlt:k < n
     ·have hks:k < s.length:=by have:=HN.out;omega
      obtain ⟨b,o,rfl,hce⟩:=HC.out k hks
      have HP:=Lib.hid (HPZ.out k hks)
      have HE:=Lib.hid (HEL.out k hks)
      have HL:=Lib.hid (HLT.out k hks)
      rw [<- hp.out] at HP HL
      generalize s[k]=d at hce HP HE HL
      have hlt2:(k:Int) < (n:Int):=by omega
      by_cases hbig:1048576 < d
      ·have HX:Hid (R=(0,26)):=by unfold Hid;rw [HR.out];exact prodE_big (by have:=HE.out;omega)
       have hbig2:(1048576:Int) < (d:Int):=by omega
       clear hp HP HE HL hbig
       go_wp2
       go_ret2
       exact ⟨by rw [HX.out];rfl,rfl⟩
      ·have hbig2:¬ (1048576:Int) < (d:Int):=by omega
       by_cases hz:d=0
       ·have HQ:Hid (q=prod1 (s.take (k+1))):=by unfold Hid;rw [HP.out,hz];simp
        subst hz
        have hq2:¬ (1048576:Int) < (q:Int):=by omega
        clear hp HP HE HL hbig
        go_wp2
        go_roundw
        case rel=>exact ⟨k+1,q,by omega,by go_num,rfl,hq,hq1,HQ.out,by trivial⟩
        case measure=>simp [intOf];omega
       ·have hz2:0 < (d:Int):=by omega
        obtain ⟨m,hm⟩:∃ m,m=q*d:=⟨_,rfl⟩
        have hm2:(q:Int)*(d:Int)=(m:Int):=by rw [hm];push_cast;rfl
        have hmb:m<=1099511627776:=by rw [hm];exact Nat.le_trans (Nat.mul_le_mul hq (show d<=1048576 by omega)) (by decide)
        have hm1:1<=m:=by rw [hm];exact Nat.mul_pos hq1 (by omega)
        have HQ:Hid (m=prod1 (s.take (k+1))):=by unfold Hid;rw [HP.out,hm,Nat.max_eq_right (by omega)]
        by_cases hmm:1048576 < m
        ·have HX:Hid (R=(0,26)):=by
          unfold Hid;rw [HR.out]
          refine prodE_big (HL.out ?_)
          rw [Nat.max_eq_right (by omega),<- hm];exact hmm
         have hmm2:(1048576:Int) < (m:Int):=by omega
         clear hp HP HE HL hbig hm hz hmm HQ
         go_wp2
         go_ret2
         exact ⟨by rw [HX.out];rfl,rfl⟩
        ·have hmm2:¬ (1048576:Int) < (m:Int):=by omega
         clear hp HP HE HL hbig hm hz
         go_wp2
         go_roundw
         case rel=>exact ⟨k+1,m,by omega,by go_num,rfl,by omega,hm1,HQ.out,by trivial⟩
         case measure=>simp [intOf];omega
     ·have hge:¬ (k:Int) < (n:Int):=by omega
      have HQ:Hid (q=prod1 s):=by unfold Hid;rw [hp.out,show k=n by omega,HTK.out]
      clear hp hlt
      cases t with
      | true =>
       have HP0:Hid (prodN s=0):=by unfold Hid;exact prodN_zero (of_decide_eq_true HZ.out.symm)
       by_cases hmo:most < 0
       ·have HX:Hid (R=(0,26)):=by unfold Hid;rw [HR.out];exact prodE_most (by rw [HP0.out];exact hmo)
        clear HPZ HEL HLT HC
        go_wp2
        go_ret2
        exact ⟨by rw [HX.out];rfl,rfl⟩
       ·have HX:Hid (R=(0,0)):=by
         unfold Hid;rw [HR.out,prodE_all (by have:=HN.out;omega) (by rw [<- HQ.out];exact hq) (by rw [HP0.out];exact hmo),HP0.out];rfl
        clear HPZ HEL HLT HC
        go_wp2
        go_ret2
        exact ⟨by rw [HX.out];rfl,rfl⟩
      | false =>
       have HP0:Hid (prodN s=q):=by unfold Hid;rw [HQ.out];exact prodN_eq (of_decide_eq_false HZ.out.symm)
       by_cases hmo:most < (q:Int)
       ·have HX:Hid (R=(0,26)):=by unfold Hid;rw [HR.out];exact prodE_most (by rw [HP0.out];exact hmo)
        clear HPZ HEL HLT HC
        go_wp2
        go_ret2
        exact ⟨by rw [HX.out];rfl,rfl⟩
       ·have HX:Hid (R=((q:Int),0)):=by
         unfold Hid;rw [HR.out,prodE_all (by have:=HN.out;omega) (by rw [<- HQ.out];exact hq) (by rw [HP0.out];exact hmo),HP0.out]
        clear HPZ HEL HLT HC
        go_wp2
        go_ret2
        exact ⟨by rw [HX.out];rfl,rfl⟩
theorem index_zero (v:Value) (s:List Nat) (w:World) (hv:Reads1 w v (s.map fun n:Nat => .int .i64 (n:Int))) (hl:s.length<=1048576) :
  Calls Tryz.prog 195 #[v,.int .i64 0] w fun e w'=>∃ z:Int,e= .returned (.int .i64 z)/\decide (0<=z)=decide (0∈s)/\w=w':=by
 obtain ⟨A,n,c,rfl,hn,hcell⟩:=nat_open hv
 have HN:=Lib.hid hn
 have HC:=Lib.hid hcell
 have hnb:n<=1048576:=by omega
 have HTM:Hid (∀ k (hk:k < s.length),(0∈s.take (k+1))↔(0∈s.take k\/s[k]=0)):=fun k hk=>take_mem hk
 have HMM:Hid (∀ k (hk:k < s.length),s[k]∈s):=fun k hk=>List.getElem_mem hk
 have HTK:Hid (s.take n=s):=by unfold Hid;rw [hn];exact List.take_length
 clear hv hl hn hcell
 go_enter Tryz.func195,Tryz.ntmps195
 go_wp2
 go_loopw [5,8] (fun _ i wr=>∃ k:Nat,k<=n/\i= .int .i64 (k:Int)/\Hid (¬ 0∈s.take k)/\w=wr) (fun _ i _=>n - (intOf i).toNat)
 case atStart=>exact ⟨0,Nat.zero_le _,rfl,by simp [Hid],rfl⟩
 case round =>
  obtain ⟨k,hk,rfl,hno,rfl⟩:=hrel
  by_cases hlt:k < n
  ·have hks:k < s.length:=by have:=HN.out;omega
   obtain ⟨b,o,rfl,hce⟩:=HC.out k hks
   have HT:=Lib.hid (HTM.out k hks)
   have HM:=Lib.hid (HMM.out k hks)
   generalize s[k]=d at hce HT HM
   have hlt2:(k:Int) < (n:Int):=by omega
   by_cases hz:d=0
   ·have HY:Hid (decide (0<=(k:Int))=decide (0∈s)):=by
     unfold Hid
     have h1:=HM.out
     rw [hz] at h1
     rw [decide_eq_true h1]
     exact decide_eq_true (by omega)
    subst hz
    clear hno HT HM
    go_wp2
    go_ret
    exact ⟨_,rfl,HY.out,rfl⟩
   ·have HT2:Hid (¬ 0∈s.take (k+1)):=fun h=>by
     rcases HT.out.1 h with h | h
     ·exact hno.out h
     ·exact hz h
    have hz2:((0:Int)==(d:Int))=false:=by simp;omega
    clear hno HT HM hz
    go_wp2
    go_roundw
    case rel=>exact ⟨k+1,by omega,by go_num,HT2.out,by trivial⟩
    case measure=>simp [intOf];omega
  ·have hge:¬ (k:Int) < (n:Int):=by omega
   have HZ:Hid (decide ((0:Int)<=-1)=decide (0∈s)):=by
    unfold Hid
    have h1:=hno.out
    rw [show k=n by omega,HTK.out] at h1
    rw [decide_eq_false h1]
    rfl
   clear hno hlt
   go_wp2
   go_ret
   exact ⟨_,rfl,decide_eq_decide.1 HZ.out,rfl⟩
theorem contains_zero (v:Value) (s:List Nat) (w:World) (hv:Reads1 w v (s.map fun n:Nat => .int .i64 (n:Int))) (hl:s.length<=1048576) :
  Calls Tryz.prog 129 #[v,.int .i64 0] w fun e w'=>e= .returned (.bool (decide (0∈s)))/\w=w':=by
 have HI:=Lib.hid (index_zero v s w hv hl)
 clear hv hl
 go_enter Tryz.func129,Tryz.ntmps129
 go_wp2_with fail
 refine HI.out.mono ?_
 rintro e w1 ⟨z,rfl,hz,rfl⟩
 have HZ:=Lib.hid hz
 clear hz
 go_wp2
 go_ret
 exact ⟨by rw [<- HZ.out];rfl,rfl⟩
theorem within_yes (n:Nat) (most:Int) (hn:n<=1048576) (hm:¬ most < (n:Int)) (w:World):Calls Tryz.prog 130 #[.int .i64 (n:Int),.int .i64 most] w fun e w'=>e= .returned (.tuple #[.int .i64 (n:Int),.int .i64 0])/\w=w':=by
 have h1:¬ (1048576:Int) < (n:Int):=by omega
 go_enter Tryz.func130,Tryz.ntmps130
 go_wp2
 go_ret2
 exact ⟨rfl,rfl⟩
theorem within_no (n:Nat) (most:Int) (hm:most < (n:Int)) (w:World):Calls Tryz.prog 130 #[.int .i64 (n:Int),.int .i64 most] w fun e w'=>e= .returned (.tuple #[.int .i64 0,.int .i64 26])/\w=w':=by
 go_enter Tryz.func130,Tryz.ntmps130
 go_wp2
 go_ret2
 exact ⟨rfl,rfl⟩
theorem quo_lt {q d:Nat} (hq:1<=q):1048576 / q < d↔1048576 < q*d:=by
 rw [Nat.div_lt_iff_lt_mul (by omega),Nat.mul_comm]
theorem tdiv_nat (a q:Nat):((a:Nat):Int).tdiv (q:Int)=((a / q:Nat):Int):=by
 rw [Int.tdiv_eq_ediv_of_nonneg (by omega)]
 exact (Int.natCast_ediv a q).symm
theorem ediv_nat (a q:Nat):((a:Nat):Int) / (q:Int)=((a / q:Nat):Int):=(Int.natCast_ediv a q).symm
theorem product_any (v:Value) (s:List Nat) (most:Int) (w:World) (hv:Reads1 w v (s.map fun n:Nat => .int .i64 (n:Int))) (hl:s.length<=1048576) :
  Calls Tryz.prog 73 #[v,.int .i64 most] w fun e w'=>e= .returned (.tuple #[.int .i64 (prodE s most).1,.int .i64 (prodE s most).2])/\w=w':=by
 have HCT:=Lib.hid (contains_zero v s w hv hl)
 obtain ⟨A,n,c,rfl,hn,hcell⟩:=nat_open hv
 obtain ⟨R,hR⟩:∃ R,R=prodE s most:=⟨_,rfl⟩
 rw [<- hR]
 have HR:=Lib.hid hR
 have HN:=Lib.hid hn
 have HC:=Lib.hid hcell
 have hnb:n<=1048576:=by omega
 clear hv hl hn hcell hR
 by_cases h8:8 < n
 ·have HE:Hid (R=(0,26)):=by unfold Hid;rw [HR.out];exact prodE_8 (by have:=HN.out;omega)
  have h8':(8:Int) < (n:Int):=by omega
  clear h8
  go_enter Tryz.func73,Tryz.ntmps73
  go_wp2
  go_ret2
  exact ⟨by rw [HE.out];rfl,rfl⟩
 ·have h8':¬ (8:Int) < (n:Int):=by omega
  have HPZ:Hid (∀ k (hk:k < s.length),prod1 (s.take (k+1))=prod1 (s.take k)*max 1 s[k]):=fun k hk=>prod1_take s k hk
  have HEL:Hid (∀ k (hk:k < s.length),s[k]<=prod1 s):=fun k hk=>prod1_elem hk
  have HLT:Hid (∀ k (hk:k < s.length),1048576 < prod1 (s.take k)*max 1 s[k]->1048576 < prod1 s):=fun k hk h=>prod1_lt hk h
  have HTK:Hid (s.take n=s):=by unfold Hid;rw [HN.out];exact List.take_length
  go_enter Tryz.func73,Tryz.ntmps73
  go_wp2
  go_loopw [7,16] (fun _ i wr=>∃ (k:Nat),k<=n/\i= .int .i64 (k:Int)/\w=wr) (fun _ i _=>n - (intOf i).toNat)
  case atStart=>exact ⟨0,Nat.zero_le _,rfl,rfl⟩
  case round =>
   obtain ⟨k,hk,rfl,rfl⟩:=hrel
   by_cases hlt:k < n
   ·have hks:k < s.length:=by have:=HN.out;omega
    obtain ⟨b,o,rfl,hce⟩:=HC.out k hks
    generalize s[k]=d at hce
    have hd0:¬ (d:Int) < 0:=by omega
    have hlt2:(k:Int) < (n:Int):=by omega
    go_wp2
    go_roundw
    case rel=>exact ⟨k+1,by omega,by go_num,by trivial⟩
    case measure=>simp [intOf];omega
   ·have hge:¬ (k:Int) < (n:Int):=by omega
    clear hlt
    go_wp2
    go_loopw [8,10,25] (fun p _ i wr=>∃ (k q:Nat),k<=n/\i= .int .i64 (k:Int)/\p= .int .i64 (q:Int)/\q<=1048576/\1<=q/\Hid (q=prod1 (s.take k))/\w=wr) (fun _ _ i _=>n - (intOf i).toNat)
    case atStart=>exact ⟨0,1,Nat.zero_le _,rfl,rfl,by omega,by omega,rfl,rfl⟩
    case round =>
     obtain ⟨k,q,hk,rfl,rfl,hq,hq1,hp,rfl⟩:=hrel
     by_cases hlt:k < n
     ·have hks:k < s.length:=by have:=HN.out;omega
      obtain ⟨b,o,rfl,hce⟩:=HC.out k hks
      have HP:=Lib.hid (HPZ.out k hks)
      have HL:=Lib.hid (HLT.out k hks)
      rw [<- hp.out] at HP HL
      generalize s[k]=d at hce HP HL
      have hlt2:(k:Int) < (n:Int):=by omega
      obtain ⟨r,hr⟩:∃ r,r=1048576 / q:=⟨_,rfl⟩
      have hr2:(1048576:Int).tdiv (q:Int)=(r:Int):=by rw [hr];exact tdiv_nat 1048576 q
      have hr3:(1048576:Int) / (q:Int)=(r:Int):=by rw [hr];exact ediv_nat 1048576 q
      have hrb:r<=1048576:=by rw [hr];exact Nat.div_le_self _ _
      have hr1:IntKind.i64.wrap ((1048576:Int).tdiv (q:Int))=(r:Int):=by rw [hr2];exact IntWalk.i64_in _ (by omega)
      have hq0:¬ (q:Int)=0:=by omega
      have hq0':¬ q=0:=by omega
      have hiff:r < d↔1048576 < q*d:=by rw [hr];exact quo_lt hq1
      by_cases hbig:r < d
      ·have HX:Hid (R=(0,26)):=by
        unfold Hid;rw [HR.out]
        refine prodE_big (HL.out ?_)
        have h1:=hiff.1 hbig
        have h2:q*d<=q*max 1 d:=Nat.mul_le_mul_left _ (by omega)
        omega
       have hbig2:(r:Int) < (d:Int):=by omega
       clear hp HP HL hbig hr hiff
       go_wp2
       go_ret2
       exact ⟨by rw [HX.out];rfl,rfl⟩
      ·have hbig2:¬ (r:Int) < (d:Int):=by omega
       obtain ⟨m,hm⟩:∃ m,m=q*max 1 d:=⟨_,rfl⟩
       have hmx:max (1:Int) (d:Int)=((max 1 d:Nat):Int):=by omega
       obtain ⟨x,hx⟩:∃ x,x=max 1 d:=⟨_,rfl⟩
       rw [<- hx] at hmx hm
       have hm2:(q:Int)*(x:Int)=(m:Int):=by rw [hm];push_cast;rfl
       have hmb:m<=1048576:=by
        have h1:¬ 1048576 < q*d:=fun h=>hbig (hiff.2 h)
        rw [hm,hx]
        by_cases hd:d=0
        ·rw [hd];simp;exact hq
        ·rw [Nat.max_eq_right (by omega)];omega
       have hm1:1<=m:=by rw [hm];exact Nat.mul_pos hq1 (by omega)
       have HQ:Hid (m=prod1 (s.take (k+1))):=by unfold Hid;rw [HP.out,hm,hx]
       have hxb:x<=m:=by rw [hm];exact Nat.le_mul_of_pos_left _ hq1
       clear hp HP HL hbig hm hx hr hiff
       go_wp2
       go_roundw
       case rel=>exact ⟨k+1,m,by omega,by go_num,rfl,hmb,hm1,HQ.out,by trivial⟩
       case measure=>simp [intOf];omega
     ·have hge:¬ (k:Int) < (n:Int):=by omega
      have HQ:Hid (q=prod1 s):=by unfold Hid;rw [hp.out,show k=n by omega,HTK.out]
      clear hp hlt HPZ HEL HLT HC
      by_cases hz:0∈s
      ·have HCT2:Hid (Calls Tryz.prog 129 #[.slice A n c,.int .i64 0] w fun e w'=>e= .returned (.bool true)/\w=w'):=by
        have h:=HCT.out
        rw [decide_eq_true hz] at h
        exact h
       have HP0:Hid (prodN s=0):=by unfold Hid;exact prodN_zero hz
       clear hz
       by_cases hmo:most < ((0:Nat):Int)
       ·have HX:Hid (R=(0,26)):=by unfold Hid;rw [HR.out];exact prodE_most (by rw [HP0.out];exact hmo)
        have HW:=Lib.hid (fun W=>within_no 0 most hmo W)
        go_wp2_with fail
        refine HCT2.out.mono ?_
        rintro e w1 ⟨rfl,rfl⟩
        go_wp2_with fail
        refine (HW.out _).mono ?_
        rintro e w1 ⟨rfl,rfl⟩
        go_wp2
        go_ret2
        exact ⟨by rw [HX.out];rfl,rfl⟩
       ·have HX:Hid (R=(0,0)):=by
         unfold Hid;rw [HR.out,prodE_all (by have:=HN.out;omega) (by rw [<- HQ.out];exact hq) (by rw [HP0.out];exact hmo),HP0.out];rfl
        have HW:=Lib.hid (fun W=>within_yes 0 most (by omega) hmo W)
        go_wp2_with fail
        refine HCT2.out.mono ?_
        rintro e w1 ⟨rfl,rfl⟩
        go_wp2_with fail
        refine (HW.out _).mono ?_
        rintro e w1 ⟨rfl,rfl⟩
        go_wp2
        go_ret2
        exact ⟨by rw [HX.out];rfl,rfl⟩
      ·have HCT2:Hid (Calls Tryz.prog 129 #[.slice A n c,.int .i64 0] w fun e w'=>e= .returned (.bool false)/\w=w'):=by
        have h:=HCT.out
        rw [decide_eq_false hz] at h
        exact h
       have HP0:Hid (prodN s=q):=by unfold Hid;rw [HQ.out];exact prodN_eq hz
       clear hz
       by_cases hmo:most < (q:Int)
       ·have HX:Hid (R=(0,26)):=by unfold Hid;rw [HR.out];exact prodE_most (by rw [HP0.out];exact hmo)
        have HW:=Lib.hid (fun W=>within_no q most hmo W)
        go_wp2_with fail
        refine HCT2.out.mono ?_
        rintro e w1 ⟨rfl,rfl⟩
        go_wp2_with fail
        refine (HW.out _).mono ?_
        rintro e w1 ⟨rfl,rfl⟩
        go_wp2
        go_ret2
        exact ⟨by rw [HX.out];rfl,rfl⟩
       ·have HX:Hid (R=((q:Int),0)):=by
         unfold Hid;rw [HR.out,prodE_all (by have:=HN.out;omega) (by rw [<- HQ.out];exact hq) (by rw [HP0.out];exact hmo),HP0.out]
        have HW:=Lib.hid (fun W=>within_yes q most hq hmo W)
        go_wp2_with fail
        refine HCT2.out.mono ?_
        rintro e w1 ⟨rfl,rfl⟩
        go_wp2_with fail
        refine (HW.out _).mono ?_
        rintro e w1 ⟨rfl,rfl⟩
        go_wp2
        go_ret2
        exact ⟨by rw [HX.out];rfl,rfl⟩
theorem int_open {w:World}{v:Value}{s:List Int} (h:Reads1 w v (s.map (Value.int .i64))):∃ A n c,v= .slice A n c/\n=s.length /\
  ∀ i (hi:i < s.length),∃ b o,A=some ⟨b,o,none⟩/\w.cell? ⟨b,o+i,none⟩=some (.int .i64 s[i]):=by
 rcases h with ⟨a,c,rfl,h0⟩ | ⟨b,o,n,c,rfl,hn,hc⟩
 ·have:s=[]:=by simpa using h0
  subst this
  exact ⟨a,0,c,rfl,rfl,fun i hi=>by simp at hi⟩
 ·rw [List.length_map] at hn
  refine ⟨_,n,c,rfl,hn,fun i hi=>⟨b,o,rfl,?_⟩⟩
  have:=hc i (by simpa using hi)
  rw [this]
  simp
theorem rprod_neg (v:Value) (s:List Int) (most:Int) (K:Nat) (hK:K < s.length) (hneg:s[K] < 0) (hpos:∀ j (h:j < s.length),j < K->0<=s[j]) (w:World) (hv:Reads1 w v (s.map (Value.int .i64))) (hl:s.length<=1048576) :
  Calls Tryz.prog 79 #[v,.int .i64 most] w fun e w'=>∃ z:Int,e= .returned (.tuple #[.int .i64 0,.int .i64 z])/\z≠0/\w=w':=by
 obtain ⟨A,n,c,rfl,hn,hcell⟩:=int_open hv
 have HN:=Lib.hid hn
 have HC:=Lib.hid hcell
 have HNG:=Lib.hid (show ∀ (h:K < s.length),s[K] < 0 from fun _=>hneg)
 have HPS:=Lib.hid hpos
 have hnb:n<=1048576:=by omega
 have hKn:K < n:=by omega
 clear hv hl hn hcell hpos hneg
 clear hK
 by_cases h8:8 < n
 ·have h8':(8:Int) < (n:Int):=by omega
  clear h8
  go_enter Tryz.func79,Tryz.ntmps79
  go_wp2
  go_ret2
  exact ⟨_,rfl,by decide,rfl⟩
 ·have h8':¬ (8:Int) < (n:Int):=by omega
  go_enter Tryz.func79,Tryz.ntmps79
  go_wp2
  go_loopw [7,8] (fun z i wr=>∃ (k:Nat) (t:Bool),k<=K/\i= .int .i64 (k:Int)/\z= .bool t/\w=wr) (fun _ i _=>n - (intOf i).toNat)
  case atStart=>exact ⟨0,false,Nat.zero_le _,rfl,rfl,rfl⟩
  case round =>
   obtain ⟨k,t,hk,rfl,rfl,rfl⟩:=hrel
   have hks:k < s.length:=by have:=HN.out;omega
   obtain ⟨b,o,rfl,hce⟩:=HC.out k hks
   have hlt2:(k:Int) < (n:Int):=by omega
   by_cases hlt:k < K
   ·have hd0':=HPS.out k hks hlt
    generalize s[k]=d at hce hd0'
    have hd0:¬ d < 0:=by omega
    cases t with
    | true =>
     go_wp2
     go_roundw
     case rel=>exact ⟨k+1,true,by omega,by go_num,rfl,by trivial⟩
     case measure=>simp [intOf];omega
    | false =>
     go_wp2
     go_roundw
     case rel=>exact ⟨k+1,d==0,by omega,by go_num,rfl,by trivial⟩
     case measure=>simp [intOf];omega
   ·obtain rfl:k=K:=by omega
    have hd0:=HNG.out hks
    generalize s[k]=d at hce hd0
    go_wp2
    go_ret2
    exact ⟨_,rfl,by decide,rfl⟩
theorem first_neg (s:List Int):(∀ d∈s,0<=d)\/∃ K,∃ hK:K < s.length,s[K] < 0/\∀ j (h:j < s.length),j < K->0<=s[j]:=by
 induction s with
 | nil=>exact .inl fun d h=>by cases h
 | cons x s ih =>
  by_cases hx:x < 0
  ·exact .inr ⟨0,by simp,by simpa using hx,fun j _ h=>by omega⟩
  ·rcases ih with h | ⟨K,hK,h1,h2⟩
   ·exact .inl fun d hd=>by
     cases List.mem_cons.1 hd with
     | inl e=>omega
     | inr e=>exact h d e
   ·refine .inr ⟨K+1,by simpa using hK,by simpa using h1,fun j hj hjk=>?_⟩
    cases j with
    | zero=>simp;omega
    | succ j=>have:=h2 j (by simpa using hj) (by omega);simpa using this
theorem rprod_any (v:Value) (s:List Int) (w:World) (hv:Reads1 w v (s.map (Value.int .i64))) (hl:s.length<=1048576) :
  Calls Tryz.prog 79 #[v,.int .i64 1048576] w fun e w'=>(∃ n z:Int,e= .returned (.tuple #[.int .i64 n,.int .i64 z])/\(z=0->∃ (sn:List Nat) (m:Nat),s=sn.map Int.ofNat/\OkSh sn m/\n=(m:Int)))/\w=w':=by
 rcases first_neg s with h | ⟨K,hK,h1,h2⟩
 ·have e:s=(s.map Int.toNat).map Int.ofNat:=natL_of (by rintro ⟨d,hd,h0⟩;have:=h d hd;omega)
  have hv2:Reads1 w v ((s.map Int.toNat).map fun n:Nat => .int .i64 (n:Int)):=by
   have e2:((s.map Int.toNat).map fun n:Nat=>Value.int .i64 (n:Int))=s.map (Value.int .i64):=by
    conv=>rhs;rw [e]
    rw [List.map_map (l:=s.map Int.toNat)]
    rfl
   rw [e2];exact hv
  refine (rprod_nat v (s.map Int.toNat) 1048576 w hv2 (by simpa using hl)).mono ?_
  rintro e' w' ⟨rfl,rfl⟩
  refine ⟨⟨_,_,rfl,fun hz=>?_⟩,rfl⟩
  rcases prodE_cases (s.map Int.toNat) 1048576 with ⟨h3,_⟩ | ⟨h3,h4,_⟩
  ·rw [h3] at hz;cases hz
  ·rw [h3]
   exact ⟨_,_,e,h4,rfl⟩
 ·refine (rprod_neg v s 1048576 K hK h1 h2 w hv hl).mono ?_
  rintro e' w' ⟨z,rfl,hz,rfl⟩
  exact ⟨⟨_,_,rfl,fun h=>absurd h hz⟩,rfl⟩
end Go.Proofs.YtakgmnafbjdccaaGreatDoor
