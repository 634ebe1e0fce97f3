/- The walks of the reference's Product and of shape.Product. The reference's Product of any numbers; Finite of any float. The walk of Check over plain arrays. An .. Conditions: as each theorem says. -/
import Derived.Test.YtbakjaliponbbaaGreatDoorMg14
import Derived.IntWalk
import Derived.Test.YtbakjaliponbbaaGreatDoorMg13
set_option maxRecDepth 100000
set_option maxHeartbeats 2000000
namespace Go.Proofs.YtbakjaliponbbaaGreatDoor
open Go Go.RowKit Go.Proofs Fl
theorem nat_open {w:World}{v:Value}{s:List Nat} (h:Reads1 w v (s.map fun n:Nat => .int .i64 (n:Int))):∃ A n c,v= .slice A n c/\n=s.length /\
  ∀ i (hi:i < s.length),∃ b o,A=some ⟨b,o,none⟩/\w.cell? ⟨b,o+i,none⟩=some (.int .i64 (s[i]:Nat)):=by
 rcases h with ⟨a,c,rfl,h0⟩ | ⟨b,o,n,c,rfl,hn,hc⟩
 ·have:s=[]:=by simpa using h0
  subst this
  exact ⟨a,0,c,rfl,rfl,fun i hi=>by simp at hi⟩
 ·rw [List.length_map] at hn
  refine ⟨_,n,c,rfl,hn,fun i hi=>⟨b,o,rfl,?_⟩⟩
  have:=hc i (by simpa using hi)
  rw [this]
  simp
theorem take_mem {s:List Nat}{k:Nat} (h:k < s.length):(0∈s.take (k+1))↔(0∈s.take k\/s[k]=0):=by
 rw [List.take_succ_eq_append_getElem h,List.mem_append,List.mem_singleton]
 constructor
 ·rintro (h | h)
  ·exact .inl h
  ·exact .inr h.symm
 ·rintro (h | h)
  ·exact .inl h
  ·exact .inr h.symm
theorem prodE_8 {s:List Nat}{most:Int} (h:8 < s.length):prodE s most=(0,26):=if_pos h
theorem prodE_big {s:List Nat}{most:Int} (h:1048576 < prod1 s):prodE s most=(0,26):=by
 unfold prodE
 rw [if_pos h]
 split <;> rfl
theorem prodE_most {s:List Nat}{most:Int} (h:most < (prodN s:Int)):prodE s most=(0,26):=by
 unfold prodE
 rw [if_pos h]
 split
 ·rfl
 ·split <;> rfl
theorem prodE_all {s:List Nat}{most:Int} (h8:¬ 8 < s.length) (h1:prod1 s<=1048576) (hm:¬ most < (prodN s:Int)):prodE s most=((prodN s:Int),0):=by
 unfold prodE
 rw [if_neg h8,if_neg (by omega),if_neg hm]
theorem prod1_lt {s:List Nat}{k:Nat} (h:k < s.length) (hb:1048576 < prod1 (s.take k)*max 1 s[k]):1048576 < prod1 s:=by
 have h1:=prod1_take_le s (k+1)
 rw [prod1_take s k h] at h1
 omega
theorem index_zero (v:Value) (s:List Nat) (w:World) (hv:Reads1 w v (s.map fun n:Nat => .int .i64 (n:Int))) (hl:s.length<=1048576) :
  Calls Tryz.prog 241 #[v,.int .i64 0] w fun e w'=>∃ z:Int,e= .returned (.int .i64 z)/\decide (0<=z)=decide (0∈s)/\w=w':=by
 obtain ⟨A,n,c,rfl,hn,hcell⟩:=nat_open hv
 have HN:=Lib.hid hn
 have HC:=Lib.hid hcell
 have hnb:n<=1048576:=by omega
 have HTM:Hid (∀ k (hk:k < s.length),(0∈s.take (k+1))↔(0∈s.take k\/s[k]=0)):=fun k hk=>take_mem hk
 have HMM:Hid (∀ k (hk:k < s.length),s[k]∈s):=fun k hk=>List.getElem_mem hk
 have HTK:Hid (s.take n=s):=by unfold Hid;rw [hn];exact List.take_length
 clear hv hl hn hcell
 go_enter Tryz.func241,Tryz.ntmps241
 go_wp2
 go_loopw [5,8] (fun _ i wr=>∃ k:Nat,k<=n/\i= .int .i64 (k:Int)/\Hid (¬ 0∈s.take k)/\w=wr) (fun _ i _=>n - (intOf i).toNat)
 case atStart=>exact ⟨0,Nat.zero_le _,rfl,by simp [Hid],rfl⟩
 case round =>
  obtain ⟨k,hk,rfl,hno,rfl⟩:=hrel
  by_cases hlt:k < n
  ·have hks:k < s.length:=by have:=HN.out;omega
   obtain ⟨b,o,rfl,hce⟩:=HC.out k hks
   have HT:=Lib.hid (HTM.out k hks)
   have HM:=Lib.hid (HMM.out k hks)
   generalize s[k]=d at hce HT HM
   have hlt2:(k:Int) < (n:Int):=by omega
   by_cases hz:d=0
   ·have HY:Hid (decide (0<=(k:Int))=decide (0∈s)):=by
     unfold Hid
     have h1:=HM.out
     rw [hz] at h1
     rw [decide_eq_true h1]
     exact decide_eq_true (by omega)
    subst hz
    clear hno HT HM
    go_wp2
    go_ret
    exact ⟨_,rfl,HY.out,rfl⟩
   ·have HT2:Hid (¬ 0∈s.take (k+1)):=fun h=>by
     rcases HT.out.1 h with h | h
     ·exact hno.out h
     ·exact hz h
    have hz2:((0:Int)==(d:Int))=false:=by simp;omega
    clear hno HT HM hz
    go_wp2
    go_roundw
    case rel=>exact ⟨k+1,by omega,by go_num,HT2.out,by trivial⟩
    case measure=>simp [intOf];omega
  ·have hge:¬ (k:Int) < (n:Int):=by omega
   have HZ:Hid (decide ((0:Int)<=-1)=decide (0∈s)):=by
    unfold Hid
    have h1:=hno.out
    rw [show k=n by omega,HTK.out] at h1
    rw [decide_eq_false h1]
    rfl
   clear hno hlt
   go_wp2
   go_ret
   exact ⟨_,rfl,decide_eq_decide.1 HZ.out,rfl⟩
theorem contains_zero (v:Value) (s:List Nat) (w:World) (hv:Reads1 w v (s.map fun n:Nat => .int .i64 (n:Int))) (hl:s.length<=1048576) :
  Calls Tryz.prog 203 #[v,.int .i64 0] w fun e w'=>e= .returned (.bool (decide (0∈s)))/\w=w':=by
 have HI:=Lib.hid (index_zero v s w hv hl)
 clear hv hl
 go_enter Tryz.func203,Tryz.ntmps203
 go_wp2_with fail
 refine HI.out.mono ?_
 rintro e w1 ⟨z,rfl,hz,rfl⟩
 have HZ:=Lib.hid hz
 clear hz
 go_wp2
 go_ret
 exact ⟨by rw [<- HZ.out];rfl,rfl⟩
theorem within_yes (n:Nat) (most:Int) (hn:n<=1048576) (hm:¬ most < (n:Int)) (w:World):Calls Tryz.prog 204 #[.int .i64 (n:Int),.int .i64 most] w fun e w'=>e= .returned (.tuple #[.int .i64 (n:Int),.int .i64 0])/\w=w':=by
 have h1:¬ (1048576:Int) < (n:Int):=by omega
 go_enter Tryz.func204,Tryz.ntmps204
 go_wp2
 go_ret2
 exact ⟨rfl,rfl⟩
theorem within_no (n:Nat) (most:Int) (hm:most < (n:Int)) (w:World):Calls Tryz.prog 204 #[.int .i64 (n:Int),.int .i64 most] w fun e w'=>e= .returned (.tuple #[.int .i64 0,.int .i64 26])/\w=w':=by
 go_enter Tryz.func204,Tryz.ntmps204
 go_wp2
 go_ret2
 exact ⟨rfl,rfl⟩
theorem quo_lt {q d:Nat} (hq:1<=q):1048576 / q < d↔1048576 < q*d:=by
 rw [Nat.div_lt_iff_lt_mul (by omega),Nat.mul_comm]
theorem tdiv_nat (a q:Nat):((a:Nat):Int).tdiv (q:Int)=((a / q:Nat):Int):=by
 rw [Int.tdiv_eq_ediv_of_nonneg (by omega)]
 exact (Int.natCast_ediv a q).symm
theorem ediv_nat (a q:Nat):((a:Nat):Int) / (q:Int)=((a / q:Nat):Int):=(Int.natCast_ediv a q).symm
theorem product_any (v:Value) (s:List Nat) (most:Int) (w:World) (hv:Reads1 w v (s.map fun n:Nat => .int .i64 (n:Int))) (hl:s.length<=1048576) :
  Calls Tryz.prog 150 #[v,.int .i64 most] w fun e w'=>e= .returned (.tuple #[.int .i64 (prodE s most).1,.int .i64 (prodE s most).2])/\w=w':=by
 have HCT:=Lib.hid (contains_zero v s w hv hl)
 obtain ⟨A,n,c,rfl,hn,hcell⟩:=nat_open hv
 obtain ⟨R,hR⟩:∃ R,R=prodE s most:=⟨_,rfl⟩
 rw [<- hR]
 have HR:=Lib.hid hR
 have HN:=Lib.hid hn
 have HC:=Lib.hid hcell
 have hnb:n<=1048576:=by omega
 clear hv hl hn hcell hR
 by_cases h8:8 < n
 ·have HE:Hid (R=(0,26)):=by unfold Hid;rw [HR.out];exact prodE_8 (by have:=HN.out;omega)
  have h8':(8:Int) < (n:Int):=by omega
  clear h8
  go_enter Tryz.func150,Tryz.ntmps150
  go_wp2
  go_ret2
  exact ⟨by rw [HE.out];rfl,rfl⟩
 ·have h8':¬ (8:Int) < (n:Int):=by omega
  have HPZ:Hid (∀ k (hk:k < s.length),prod1 (s.take (k+1))=prod1 (s.take k)*max 1 s[k]):=fun k hk=>prod1_take s k hk
  have HEL:Hid (∀ k (hk:k < s.length),s[k]<=prod1 s):=fun k hk=>prod1_elem hk
  have HLT:Hid (∀ k (hk:k < s.length),1048576 < prod1 (s.take k)*max 1 s[k]->1048576 < prod1 s):=fun k hk h=>prod1_lt hk h
  have HTK:Hid (s.take n=s):=by unfold Hid;rw [HN.out];exact List.take_length
  go_enter Tryz.func150,Tryz.ntmps150
  go_wp2
  go_loopw [7,16] (fun _ i wr=>∃ (k:Nat),k<=n/\i= .int .i64 (k:Int)/\w=wr) (fun _ i _=>n - (intOf i).toNat)
  case atStart=>exact ⟨0,Nat.zero_le _,rfl,rfl⟩
  case round =>
   obtain ⟨k,hk,rfl,rfl⟩:=hrel
   by_cases hlt:k < n
   ·have hks:k < s.length:=by have:=HN.out;omega
    obtain ⟨b,o,rfl,hce⟩:=HC.out k hks
    generalize s[k]=d at hce
    have hd0:¬ (d:Int) < 0:=by omega
    have hlt2:(k:Int) < (n:Int):=by omega
    go_wp2
    go_roundw
    case rel=>exact ⟨k+1,by omega,by go_num,by trivial⟩
    case measure=>simp [intOf];omega
   ·have hge:¬ (k:Int) < (n:Int):=by omega
    clear hlt
    go_wp2
    go_loopw [8,10,25] (fun p _ i wr=>∃ (k q:Nat),k<=n/\i= .int .i64 (k:Int)/\p= .int .i64 (q:Int)/\q<=1048576/\1<=q/\Hid (q=prod1 (s.take k))/\w=wr) (fun _ _ i _=>n - (intOf i).toNat)
    case atStart=>exact ⟨0,1,Nat.zero_le _,rfl,rfl,by omega,by omega,rfl,rfl⟩
    case round =>
     obtain ⟨k,q,hk,rfl,rfl,hq,hq1,hp,rfl⟩:=hrel
     by_cases hlt:k < n
     ·have hks:k < s.length:=by have:=HN.out;omega
      obtain ⟨b,o,rfl,hce⟩:=HC.out k hks
      have HP:=Lib.hid (HPZ.out k hks)
      have HL:=Lib.hid (HLT.out k hks)
      rw [<- hp.out] at HP HL
      generalize s[k]=d at hce HP HL
      have hlt2:(k:Int) < (n:Int):=by omega
      obtain ⟨r,hr⟩:∃ r,r=1048576 / q:=⟨_,rfl⟩
      have hr2:(1048576:Int).tdiv (q:Int)=(r:Int):=by rw [hr];exact tdiv_nat 1048576 q
      have hr3:(1048576:Int) / (q:Int)=(r:Int):=by rw [hr];exact ediv_nat 1048576 q
      have hrb:r<=1048576:=by rw [hr];exact Nat.div_le_self _ _
      have hr1:IntKind.i64.wrap ((1048576:Int).tdiv (q:Int))=(r:Int):=by rw [hr2];exact IntWalk.i64_in _ (by omega)
      have hq0:¬ (q:Int)=0:=by omega
      have hq0':¬ q=0:=by omega
      have hiff:r < d↔1048576 < q*d:=by rw [hr];exact quo_lt hq1
      by_cases hbig:r < d
      ·have HX:Hid (R=(0,26)):=by
        unfold Hid;rw [HR.out]
        refine prodE_big (HL.out ?_)
        have h1:=hiff.1 hbig
        have h2:q*d<=q*max 1 d:=Nat.mul_le_mul_left _ (by omega)
        omega
       have hbig2:(r:Int) < (d:Int):=by omega
       clear hp HP HL hbig hr hiff
       go_wp2
       go_ret2
       exact ⟨by rw [HX.out];rfl,rfl⟩
      ·have hbig2:¬ (r:Int) < (d:Int):=by omega
       obtain ⟨m,hm⟩:∃ m,m=q*max 1 d:=⟨_,rfl⟩
       have hmx:max (1:Int) (d:Int)=((max 1 d:Nat):Int):=by omega
       obtain ⟨x,hx⟩:∃ x,x=max 1 d:=⟨_,rfl⟩
       rw [<- hx] at hmx hm
       have hm2:(q:Int)*(x:Int)=(m:Int):=by rw [hm];push_cast;rfl
       have hmb:m<=1048576:=by
        have h1:¬ 1048576 < q*d:=fun h=>hbig (hiff.2 h)
        rw [hm,hx]
        by_cases hd:d=0
        ·rw [hd];simp;exact hq
        ·rw [Nat.max_eq_right (by omega)];omega
       have hm1:1<=m:=by rw [hm];exact Nat.mul_pos hq1 (by omega)
       have HQ:Hid (m=prod1 (s.take (k+1))):=by unfold Hid;rw [HP.out,hm,hx]
       have hxb:x<=m:=by rw [hm];exact Nat.le_mul_of_pos_left _ hq1
       clear hp HP HL hbig hm hx hr hiff
       go_wp2
       go_roundw
       case rel=>exact ⟨k+1,m,by omega,by go_num,rfl,hmb,hm1,HQ.out,by trivial⟩
       case measure=>simp [intOf];omega
     ·have hge:¬ (k:Int) < (n:Int):=by omega
      have HQ:Hid (q=prod1 s):=by unfold Hid;rw [hp.out,show k=n by omega,HTK.out]
      clear hp hlt HPZ HEL HLT HC
      by_cases hz:0∈s
      ·have HCT2:Hid (Calls Tryz.prog 203 #[.slice A n c,.int .i64 0] w fun e w'=>e= .returned (.bool true)/\w=w'):=by
        have h:=HCT.out
        rw [decide_eq_true hz] at h
        exact h
       have HP0:Hid (prodN s=0):=by unfold Hid;exact prodN_zero hz
       clear hz
       by_cases hmo:most < ((0:Nat):Int)
       ·have HX:Hid (R=(0,26)):=by unfold Hid;rw [HR.out];exact prodE_most (by rw [HP0.out];exact hmo)
        have HW:=Lib.hid (fun W=>within_no 0 most hmo W)
        go_wp2_with fail
        refine HCT2.out.mono ?_
        rintro e w1 ⟨rfl,rfl⟩
        go_wp2_with fail
        refine (HW.out _).mono ?_
        rintro e w1 ⟨rfl,rfl⟩
        go_wp2
        go_ret2
        exact ⟨by rw [HX.out];rfl,rfl⟩
       ·have HX:Hid (R=(0,0)):=by
         unfold Hid;rw [HR.out,prodE_all (by have:=HN.out;omega) (by rw [<- HQ.out];exact hq) (by rw [HP0.out];exact hmo),HP0.out];rfl
        have HW:=Lib.hid (fun W=>within_yes 0 most (by omega) hmo W)
        go_wp2_with fail
        refine HCT2.out.mono ?_
        rintro e w1 ⟨rfl,rfl⟩
        go_wp2_with fail
        refine (HW.out _).mono ?_
        rintro e w1 ⟨rfl,rfl⟩
        go_wp2
        go_ret2
        exact ⟨by rw [HX.out];rfl,rfl⟩
      ·have HCT2:Hid (Calls Tryz.prog 203 #[.slice A n c,.int .i64 0] w fun e w'=>e= .returned (.bool false)/\w=w'):=by
        have h:=HCT.out
        rw [decide_eq_false hz] at h
        exact h
       have HP0:Hid (prodN s=q):=by unfold Hid;rw [HQ.out];exact prodN_eq hz
       clear hz
       by_cases hmo:most < (q:Int)
       ·have HX:Hid (R=(0,26)):=by unfold Hid;rw [HR.out];exact prodE_most (by rw [HP0.out];exact hmo)
        have HW:=Lib.hid (fun W=>within_no q most hmo W)
        go_wp2_with fail
        refine HCT2.out.mono ?_
        rintro e w1 ⟨rfl,rfl⟩
        go_wp2_with fail
        refine (HW.out _).mono ?_
        rintro e w1 ⟨rfl,rfl⟩
        go_wp2
        go_ret2
        exact ⟨by rw [HX.out];rfl,rfl⟩
       ·have HX:Hid (R=((q:Int),0)):=by
         unfold Hid;rw [HR.out,prodE_all (by have:=HN.out;omega) (by rw [<- HQ.out];exact hq) (by rw [HP0.out];exact hmo),HP0.out]
        have HW:=Lib.hid (fun W=>within_yes q most hq hmo W)
        go_wp2_with fail
        refine HCT2.out.mono ?_
        rintro e w1 ⟨rfl,rfl⟩
        go_wp2_with fail
        refine (HW.out _).mono ?_
        rintro e w1 ⟨rfl,rfl⟩
        go_wp2
        go_ret2
        exact ⟨by rw [HX.out];rfl,rfl⟩
theorem int_open {w:World}{v:Value}{s:List Int} (h:Reads1 w v (s.map (Value.int .i64))):∃ A n c,v= .slice A n c/\n=s.length /\
  ∀ i (hi:i < s.length),∃ b o,A=some ⟨b,o,none⟩/\w.cell? ⟨b,o+i,none⟩=some (.int .i64 s[i]):=by
 rcases h with ⟨a,c,rfl,h0⟩ | ⟨b,o,n,c,rfl,hn,hc⟩
 ·have:s=[]:=by simpa using h0
  subst this
  exact ⟨a,0,c,rfl,rfl,fun i hi=>by simp at hi⟩
 ·rw [List.length_map] at hn
  refine ⟨_,n,c,rfl,hn,fun i hi=>⟨b,o,rfl,?_⟩⟩
  have:=hc i (by simpa using hi)
  rw [this]
  simp
theorem st_item (w:World) (k:Int) (x n:Nat) (c:Int) (y:Value) (e:TypeId) (md:Mode) :
  (store ⟨w.heap.size,1,none⟩ (.float .f64 n) md).run Tryz.prog (w.alloc (.cells #[.int .i64 k,.float .f64 x,.int .i32 c,y] e))= .ok () (w.alloc (.cells #[.int .i64 k,.float .f64 n,.int .i32 c,y] e)):=by
 have hg:=heap_alloc_new w (.cells #[.int .i64 k,.float .f64 x,.int .i32 c,y] e)
 have hc:(w.alloc (.cells #[.int .i64 k,.float .f64 x,.int .i32 c,y] e)).cell? ⟨w.heap.size,1,none⟩=some (.float .f64 x):=by
  rw [cell_of_row _ w.heap.size 1 _ e (0,0) hg];rfl
 have hz:(w.alloc (.cells #[.int .i64 k,.float .f64 x,.int .i32 c,y] e)).frozen? ⟨w.heap.size,1,none⟩=false:=frozen_of_row _ _ _ _ _ hg
 rw [store_float hc hz .f64 n md,World.setCell_alloc_at _ _ _ _ _ rfl]
 rfl
abbrev arrO (h:Sl) (p:V8):Obj := .cells #[sv h,.int .i64 p.k,sv p.b,.int .i64 p.bn,sv p.s,sv p.i,sv p.f,sv p.c,sv p.x] 59
abbrev zeroO:Obj:=arrO nilS zeroP
theorem at9_of {W:World}{G:Nat}{e:TypeId}{h:Sl}{p:V8} (hg:W.heap[G]?=some (.cells #[sv h,.int .i64 p.k,sv p.b,.int .i64 p.bn,sv p.s,sv p.i,sv p.f,sv p.c,sv p.x] e)):At9 W G 0 h p/\∀ j,W.frozen? ⟨G,j,none⟩=false:=by
 have hc:∀ j u,#[sv h,.int .i64 p.k,sv p.b,.int .i64 p.bn,sv p.s,sv p.i,sv p.f,sv p.c,sv p.x][j]?=some u->W.cell? ⟨G,j,none⟩=some u:=by
  intro j u hu
  rw [cell_of_row _ G j _ e (0,0) hg]
  exact hu
 exact ⟨⟨hc 0 _ rfl,hc 1 _ rfl,hc 2 _ rfl,hc 3 _ rfl,hc 4 _ rfl,hc 5 _ rfl,hc 6 _ rfl,hc 7 _ rfl,hc 8 _ rfl⟩,fun j=>frozen_of_row _ _ j _ e hg⟩
theorem at9_new (w:World) (h:Sl) (p:V8):At9 (w.alloc (arrO h p)) w.heap.size 0 h p:=(at9_of (heap_alloc_new w _)).1
theorem At9.set {w:World}{G o:Nat}{h:Sl}{p:V8} (g:At9 w G o h p){a:Addr} (ha:a.block≠G) (u:Value):At9 (w.setCell a u) G o h p :=
 g.of fun _=>World.cell?_of_block (w:=w) (Below.heap_setCell w a u G (fun e=>ha e.symm))
abbrev set9 (w:World) (G:Nat) (a0 a1 a2 a3 a4 a5 a6 a7 a8:Value):World:=(set8 w G a0 a1 a2 a3 a4 a5 a6 a7).setCell ⟨G,8,none⟩ a8
theorem below_set9 {B:Nat}{w0 w:World} (h:Below B w0 w){G:Nat} (hG:B<=G) (a0 a1 a2 a3 a4 a5 a6 a7 a8:Value):Below B w0 (set9 w G a0 a1 a2 a3 a4 a5 a6 a7 a8):=(below_set8 h hG _ _ _ _ _ _ _ _).setCell hG _
theorem set9_block {w:World}{G:Nat}{e:TypeId}{z0 z1 z2 z3 z4 z5 z6 z7 z8:Value} (h:w.heap[G]?=some (.cells #[z0,z1,z2,z3,z4,z5,z6,z7,z8] e)) (a0 a1 a2 a3 a4 a5 a6 a7 a8:Value) :
  (set9 w G a0 a1 a2 a3 a4 a5 a6 a7 a8).heap[G]?=some (.cells #[a0,a1,a2,a3,a4,a5,a6,a7,a8] e):=by
 have h0:=heap_setCell_same _ G 0 _ e a0 h
 rw [show (#[z0,z1,z2,z3,z4,z5,z6,z7,z8]:Array Value).setIfInBounds 0 a0=#[a0,z1,z2,z3,z4,z5,z6,z7,z8] by simp] at h0
 have h1:=heap_setCell_same _ G 1 _ e a1 h0
 rw [show (#[a0,z1,z2,z3,z4,z5,z6,z7,z8]:Array Value).setIfInBounds 1 a1=#[a0,a1,z2,z3,z4,z5,z6,z7,z8] by simp] at h1
 have h2:=heap_setCell_same _ G 2 _ e a2 h1
 rw [show (#[a0,a1,z2,z3,z4,z5,z6,z7,z8]:Array Value).setIfInBounds 2 a2=#[a0,a1,a2,z3,z4,z5,z6,z7,z8] by simp] at h2
 have h3:=heap_setCell_same _ G 3 _ e a3 h2
 rw [show (#[a0,a1,a2,z3,z4,z5,z6,z7,z8]:Array Value).setIfInBounds 3 a3=#[a0,a1,a2,a3,z4,z5,z6,z7,z8] by simp] at h3
 have h4:=heap_setCell_same _ G 4 _ e a4 h3
 rw [show (#[a0,a1,a2,a3,z4,z5,z6,z7,z8]:Array Value).setIfInBounds 4 a4=#[a0,a1,a2,a3,a4,z5,z6,z7,z8] by simp] at h4
 have h5:=heap_setCell_same _ G 5 _ e a5 h4
 rw [show (#[a0,a1,a2,a3,a4,z5,z6,z7,z8]:Array Value).setIfInBounds 5 a5=#[a0,a1,a2,a3,a4,a5,z6,z7,z8] by simp] at h5
 have h6:=heap_setCell_same _ G 6 _ e a6 h5
 rw [show (#[a0,a1,a2,a3,a4,a5,z6,z7,z8]:Array Value).setIfInBounds 6 a6=#[a0,a1,a2,a3,a4,a5,a6,z7,z8] by simp] at h6
 have h7:=heap_setCell_same _ G 7 _ e a7 h6
 rw [show (#[a0,a1,a2,a3,a4,a5,a6,z7,z8]:Array Value).setIfInBounds 7 a7=#[a0,a1,a2,a3,a4,a5,a6,a7,z8] by simp] at h7
 have h8:=heap_setCell_same _ G 8 _ e a8 h7
 rw [show (#[a0,a1,a2,a3,a4,a5,a6,a7,z8]:Array Value).setIfInBounds 8 a8=#[a0,a1,a2,a3,a4,a5,a6,a7,a8] by simp] at h8
 exact h8
theorem arr_size:(Tryz.prog.info? 59).map (·.size)=some 9:=by kernel_rfl
theorem ret_arr {fn:Func}{p:Tmp} (h:fn.results=#[.cell p 59]) (tmps:Array Value) (w:World) (G:Nat){e:TypeId}{a0 a1 a2 a3 a4 a5 a6 a7 a8:Value}
  (hp:tmps.getD p undef= .pointer (some ⟨G,0,none⟩)) (hg:w.heap[G]?=some (.cells #[a0,a1,a2,a3,a4,a5,a6,a7,a8] e)) :
  (results fn tmps).run Tryz.prog w= .ok (.agg #[a0,a1,a2,a3,a4,a5,a6,a7,a8]) w :=
 results_cell_row h tmps w G e _ (0,0) _ hp hg Tryz.underlying59 rfl arr_size
theorem ret_arr2 {fn:Func}{p u:Tmp} (h:fn.results=#[.cell p 59,.tmp u]) (tmps:Array Value) (w:World) (G:Nat){e:TypeId}{a0 a1 a2 a3 a4 a5 a6 a7 a8:Value}
  (hp:tmps.getD p undef= .pointer (some ⟨G,0,none⟩)) (hg:w.heap[G]?=some (.cells #[a0,a1,a2,a3,a4,a5,a6,a7,a8] e)) :
  (results fn tmps).run Tryz.prog w= .ok (.tuple #[.agg #[a0,a1,a2,a3,a4,a5,a6,a7,a8],tmps.getD u undef]) w:=by
 rw [results_cell_tmp h,hp]
 have:=run_loadVar_row (P:=Tryz.prog) w G e 59 _ (0,0) _ hg Tryz.underlying59 rfl arr_size
 simp [asAddr,Result.andThen,this]
end Go.Proofs.YtbakjaliponbbaaGreatDoor
namespace Go.Proofs.YtbakjaliponbbaaGreatDoor
open Go Go.RowKit Go.Proofs Fl Go.Shelf Go.Lib
def ASl (H:Nat->Prop) (w:World) (x:Sl) (l:List PA):Prop:=x.2.1=l.length/\((l=[]/\True)\/∃ b o,x.1=some ⟨b,o,none⟩/\¬ H b/\AVs H w b o l)
theorem AV.asl {H:Nat->Prop}{w:World}{s:List Nat}{l:List PA}{h:Sl}{p:V8} (g:AV H w (.boxes s l) h p):∃ x,p=boxesP x/\ASl H w x l:=by
 rw [AV] at g
 obtain ⟨_,x,rfl,h1,h2⟩:=g
 exact ⟨x,rfl,h1,h2⟩
theorem ASl.av {H:Nat->Prop}{w:World}{s:List Nat}{l:List PA}{h x:Sl} (g:ASl H w x l) (hs:ShV H w h s):AV H w (.boxes s l) h (boxesP x):=by
 rw [AV]
 exact ⟨hs,x,rfl,g.1,g.2⟩
theorem ASl.lat {H:Nat->Prop}{w w':World}{x:Sl}{l:List PA} (k:Lat H w w') (g:ASl H w x l):ASl H w' x l:=by
 refine ⟨g.1,?_⟩
 rcases g.2 with g4 | ⟨b,o,g5,hn,g6⟩
 ·exact .inl g4
 ·exact .inr ⟨b,o,g5,hn,AVs.lat k hn g6⟩
theorem ASl.step {H:Nat->Prop}{w w':World}{x:Sl}{l:List PA} (g:ASl H w x l) (hb:Below w.heap.size w w'):ASl H w' x l:=g.lat (Lat.below hb)
theorem ASl.nil (H:Nat->Prop) (w:World) (a:Option Addr) (c:Nat):ASl H w (a,0,c) []:=⟨rfl,.inl ⟨rfl,trivial⟩⟩
theorem ASl.at_ {H:Nat->Prop}{w:World}{x:Sl}{l:List PA} (g:ASl H w x l):∀ i (hi:i < l.length),∃ b o h p,x.1=some ⟨b,o,none⟩/\¬ H b/\AV H w l[i] h p/\∀ w1,Lat H w w1->At9 w1 b (o+i*9) h p:=by
 intro i hi
 rcases g.2 with ⟨rfl,_⟩ | ⟨b,o,g5,hb,g6⟩
 ·simp at hi
 ·obtain ⟨h,p,g7,g8⟩:=AVs.at_ hi g6
  exact ⟨b,o,h,p,g5,hb,g8,fun w1 k=>g7.lat hb k⟩
def flatA (n:Nat) (hh:Nat->Sl) (pp:Nat->V8):List Value:=(List.range n).flatMap fun i=>arrL (hh i) (pp i)
theorem flatA_succ (n:Nat) (hh:Nat->Sl) (pp:Nat->V8):flatA (n+1) hh pp=flatA n hh pp++arrL (hh n) (pp n):=by
 unfold flatA
 rw [List.range_succ,List.flatMap_append]
 simp
theorem flatA_len (n:Nat) (hh:Nat->Sl) (pp:Nat->V8):(flatA n hh pp).length=n*9:=by
 induction n with
 | zero=>rfl
 | succ n ih=>rw [flatA_succ,List.length_append,ih];simp;omega
theorem flatA_get (n:Nat) (hh:Nat->Sl) (pp:Nat->V8) (i j:Nat) (hi:i < n) (hj:j < 9):(flatA n hh pp)[i*9+j]?=(arrL (hh i) (pp i))[j]?:=by
 induction n with
 | zero=>omega
 | succ n ih =>
  rw [flatA_succ]
  by_cases h:i < n
  ·rw [List.getElem?_append_left (by rw [flatA_len];omega)]
   exact ih h
  ·obtain rfl:i=n:=by omega
   rw [List.getElem?_append_right (by rw [flatA_len];omega),flatA_len]
   congr 1
   omega
theorem flatA_one (n:Nat) (hh:Nat->Sl) (pp:Nat->V8):∀ u∈flatA n hh pp,u.oneCell'=true:=by
 intro u hu
 obtain ⟨i,_,h⟩:=List.mem_flatMap.1 hu
 simp only [List.mem_cons,List.not_mem_nil,or_false] at h
 rcases h with rfl | rfl | rfl | rfl | rfl | rfl | rfl | rfl | rfl <;> rfl
theorem flatA_congr (n:Nat){hh hh':Nat->Sl}{pp pp':Nat->V8} (h:∀ i,i < n->hh i=hh' i/\pp i=pp' i):flatA n hh pp=flatA n hh' pp':=by
 unfold flatA
 induction n with
 | zero=>rfl
 | succ n ih =>
  rw [List.range_succ,List.flatMap_append,List.flatMap_append,ih fun i hi=>h i (by omega)]
  have:=h n (by omega)
  simp [this.1,this.2]
theorem flat_at9 {w:World}{b o n:Nat}{hh:Nat->Sl}{pp:Nat->V8} (h:∀ j u,(flatA n hh pp)[j]?=some u->w.cell? ⟨b,o+j,none⟩=some u) (i:Nat) (hi:i < n):At9 w b (o+i*9) (hh i) (pp i):=by
 have k:∀ j u,j < 9->(arrL (hh i) (pp i))[j]?=some u->w.cell? ⟨b,o+i*9+j,none⟩=some u:=fun j u hj hu=>by
  rw [Nat.add_assoc]
  exact h _ _ (by rw [flatA_get n hh pp i j hi hj];exact hu)
 exact ⟨k 0 _ (by decide) rfl,k 1 _ (by decide) rfl,k 2 _ (by decide) rfl,k 3 _ (by decide) rfl,k 4 _ (by decide) rfl,k 5 _ (by decide) rfl,k 6 _ (by decide) rfl,k 7 _ (by decide) rfl,k 8 _ (by decide) rfl⟩
theorem at9_flat {w:World}{b o n:Nat}{hh:Nat->Sl}{pp:Nat->V8} (h:∀ i,i < n->At9 w b (o+i*9) (hh i) (pp i)):∀ j u,(flatA n hh pp)[j]?=some u->w.cell? ⟨b,o+j,none⟩=some u:=by
 intro j u hu
 have hj:j < n*9:=by
  have:=(List.getElem?_eq_some_iff.1 hu).1
  rw [flatA_len] at this;exact this
 have e:j=j / 9*9+j % 9:=by omega
 have hi:j / 9 < n:=by omega
 have hm:j % 9 < 9:=Nat.mod_lt _ (by decide)
 rw [e,flatA_get n hh pp _ _ hi hm] at hu
 obtain ⟨c0,c1,c2,c3,c4,c5,c6,c7,c8⟩:=h _ hi
 rw [e,<- Nat.add_assoc]
 generalize j % 9=m at *
 generalize o+j / 9*9=q at *
 have hm9:m=0\/m=1\/m=2\/m=3\/m=4\/m=5\/m=6\/m=7\/m=8:=by omega
 rcases hm9 with rfl | rfl | rfl | rfl | rfl | rfl | rfl | rfl | rfl <;> (simp only [List.getElem?_cons_zero,List.getElem?_cons_succ,Option.some.injEq] at hu;subst hu;assumption)
def AOwn (H:Nat->Prop) (w:World) (B:Nat) (v:Value) (l:List PA):Prop :=
 ∃ (hh:Nat->Sl) (pp:Nat->V8),w.ownsRow B 59 9 v l.length (flatA l.length hh pp)/\∀ i (hi:i < l.length),AV (fun b=>H b\/v.ownBlock=some b) w l[i] (hh i) (pp i)
theorem add_zero_off (g j:Nat):(⟨g,0,none⟩:Addr).add j=⟨g,0+j,none⟩:=by
 unfold Addr.add
 split
 ·rename_i h;subst h;rfl
 ·rfl
theorem AOwn.asl {H:Nat->Prop}{w:World}{B:Nat}{v:Value}{l:List PA} (h:AOwn H w B v l) (hH:∀ b,H b->b < B):∃ x:Sl,v=sv x/\ASl H w x l:=by
 obtain ⟨hh,pp,hown,ha⟩:=h
 have hcell:=fun {g:Nat} (hg:v.ownBlock=some g)=>World.ownsRow.cells hown hg
 rcases hown.2 with ⟨rfl,h0⟩ | ⟨g,cap,cur,rfl,hbg,_⟩
 ·have:l=[]:=List.eq_nil_of_length_eq_zero h0
  subst this
  exact ⟨(none,0,0),rfl,ASl.nil _ _ _ _⟩
 ·refine ⟨(some ⟨g,0,none⟩,l.length,cap),rfl,rfl,.inr ⟨g,0,rfl,fun e=>by have:=hH g e;omega,avs_of _ _ fun i hi=>⟨hh i,pp i,?_,AV.sub (fun _ _ e => .inl e) (ha i hi)⟩⟩⟩
  refine flat_at9 (fun j u hu=>?_) i hi
  have:=hcell (g:=g) rfl j u hu
  rw [add_zero_off] at this
  exact this
theorem arr_info:(Tryz.prog.info? 59).map (fun i=>(i.zero,i.size,i.bytes))=some (some (.agg #[.slice none 0 0,.int .i64 0,.slice none 0 0,.int .i64 0,.slice none 0 0,.slice none 0 0,.slice none 0 0,.slice none 0 0,.slice none 0 0]),9,184):=by kernel_rfl
section
variable {P:Program} {ρ:Ren}
theorem clone_zeroN (L:SlLaysE0.n41 P ρ) (i0:TypeInfo) (z:Value) (size bytes:Nat) (hi:P.info? (ρ.t 23)=some i0) (hz0:i0.zero=some z) (hz1:i0.size=size) (hz2:i0.bytes=bytes) (hzs:z.cells.size=size) (hsz:0 < size)
  (z23:∀ w,(Go.sizeOf (ρ.t 23)).run P w= .ok size w) (x:Addr) (c:Nat) (w:World) :
  Calls P (ρ.f 41) #[.slice (some x) 0 c] w fun e w'=>∃ v',e= .returned v'/\w'.ownsRow w.heap.size (ρ.t 23) size v' 0 []/\Below w.heap.size w w':=by
 have mixed:=L.mixed;have t4:=L.t4;have a4:=L.a4;have z4:=L.z4;have v4:=L.v4;have t22:=L.t22;have a22:=L.a22;have z22:=L.z22;have v22:=L.v22
 have q22:∀ (w:World) (a:Option Addr) (n c n' c':Nat),(binOp .eql (ρ.t 22) (.slice a n c) (.slice none n' c')).run P w= .ok (.bool a.isNone) w:=fun w a n c n' c'=>Lib.run_eql_slice_nil w _ _ a n c n' c' L.t22
 have u22:∀ w,Sem.run P (underlying (ρ.t 22)) w= .ok (TypeDesc.slice (ρ.t 23)) w:=run_underlying t22
 obtain ⟨_,_,FG⟩:=L.f41
 obtain ⟨n,hn⟩:∃ n:Nat,n=0:=⟨0,rfl⟩
 rw [<- hn]
 have HN:=Lib.hid hn
 clear hn
 go_enter FG,SlBodyN.n41_ntmps ρ
 go_wp2_with (at_builtin;refine wpList_append_own _ rfl _ _ (ρ.t 22) rfl w.heap.size (ρ.t 23) i0 z size bytes t22 hi hz0 hz1 hz2 hzs hsz _ _ _ rfl (World.ownsRow_made w #[] 0 (Nat.le_refl _) (Nat.zero_le _) (by simp)) x n c [] rfl ?qc1 ?qc2 ?qc3 ?qc4 ?qc5 ?qc6 ?_)
 case qc1=>rw [HN.out];simp
 case qc2 =>
  intro j u hj
  simp at hj
 case qc3=>intro u hu;cases hu
 case qc4=>rw [Nat.zero_add,HN.out];exact Nat.zero_le _
 case qc5=>rw [Nat.zero_add,HN.out,Nat.zero_mul];exact Nat.zero_le _
 case qc6=>simp
 intro v' w1 hown hgrow hnil
 go_wp2
 go_ret
 refine ⟨v',rfl,hown,?_⟩
 exact ((Below.refl _ w).alloc (Nat.le_refl _) _).grown hgrow (by simp) (by intro k hk;simp [Value.ownBlock] at hk;omega)
end
theorem clone_zeroA (x:Addr) (c:Nat) (w:World) :
  Calls Tryz.prog 207 #[.slice (some x) 0 c] w fun e w'=>∃ v',e= .returned v'/\w'.ownsRow w.heap.size 59 9 v' 0 []/\Below w.heap.size w w':=by
 obtain ⟨i0,hi,hz0,hz1,hz2⟩:=info_parts arr_info
 exact clone_zeroN clA_lays i0 _ 9 184 hi hz0 hz1 hz2 rfl (by decide) Tryz.sizeOf59 x c w
theorem clA_any {H:Nat->Prop}{w:World}{x:Sl}{l:List PA} (g:ASl H w x l) (hl:l.length<=1048576) (hH:∀ b,H b->b < w.heap.size) :
  Calls Tryz.prog 207 #[sv x] w fun e w'=>∃ v',e= .returned v'/\AOwn H w' w.heap.size v' l/\Below w.heap.size w w':=by
 obtain ⟨A,n,c⟩:=x
 obtain ⟨rfl,g2⟩:=g
 rcases g2 with ⟨rfl,_⟩ | ⟨b,o,g5,hn,g6⟩
 ·cases A with
  | none =>
   refine (AnyE.slices_Clone_nil clA_lays 0 c w).mono ?_
   rintro e w' ⟨rfl,rfl⟩
   exact ⟨_,rfl,⟨fun _=>nilS,fun _=>zeroP,World.ownsRow_nil _ _ _ _,fun i hi=>by simp at hi⟩,Below.refl _ _⟩
  | some A =>
   refine (clone_zeroA A c w).mono ?_
   rintro e w' ⟨v',rfl,ho,hb⟩
   exact ⟨v',rfl,⟨fun _=>nilS,fun _=>zeroP,ho,fun i hi=>by simp at hi⟩,hb⟩
 ·have hA:A=some ⟨b,o,none⟩:=g5
  subst hA
  obtain ⟨i0,hi,hz0,hz1,hz2⟩:=info_parts arr_info
  have hex:∀ i,∃ hp:Sl×V8,∀ hi:i < l.length,At9 w b (o+i*9) hp.1 hp.2/\AV H w l[i] hp.1 hp.2:=fun i=>by
   by_cases hi:i < l.length
   ·obtain ⟨h,p,h1,h2⟩:=AVs.at_ hi g6
    exact ⟨(h,p),fun _=>⟨h1,h2⟩⟩
   ·exact ⟨(nilS,zeroP),fun h=>absurd h hi⟩
  obtain ⟨hp,hhp⟩:=Classical.axiomOfChoice hex
  refine (AnyE.slices_Clone clA_lays i0 _ 9 184 hi hz0 hz1 hz2 rfl (by decide) Tryz.sizeOf59 b o l.length c (flatA l.length (fun i=>(hp i).1) (fun i=>(hp i).2)) w (flatA_len _ _ _) (by unfold maxLen;omega) (by omega)
   (at9_flat fun i hi=>(hhp i hi).1) (flatA_one _ _ _)).mono ?_
  rintro e w' ⟨v',rfl,ho,_,hb⟩
  exact ⟨v',rfl,⟨_,_,ho,fun i hi=>(AV.sub (fun b hl e=>by
   rcases e with e | e
   ·exact e
   ·have:=(World.ownsRow.lt ho b e).1;omega) (hhp i hi).2).step hb⟩,hb⟩
theorem AOwn.nil (H:Nat->Prop) (w:World) (B:Nat):AOwn H w B (.slice none 0 0) []:=⟨fun _=>nilS,fun _=>zeroP,World.ownsRow_nil w B _ _,fun i hi=>by simp at hi⟩
theorem AOwn.below {H:Nat->Prop}{w w':World}{B:Nat}{v:Value}{l:List PA} (h:AOwn H w B v l) (hb:Below w.heap.size w w'):AOwn H w' B v l:=by
 obtain ⟨hh,pp,hown,ha⟩:=h
 refine ⟨hh,pp,⟨hown.1,?_⟩,fun i hi=>(ha i hi).step hb⟩
 rcases hown.2 with h2 | ⟨g,cap,cur,hv,hbg,hg,r⟩
 ·exact .inl h2
 ·refine .inr ⟨g,cap,cur,hv,hbg,?_,r⟩
  have hlt:g < w.heap.size:=by
   rcases Nat.lt_or_ge g w.heap.size with hlt | hge
   ·exact hlt
   ·rw [Array.getElem?_eq_none hge] at hg;cases hg
  rw [hb.block g hlt];exact hg
theorem AOwn.len {H:Nat->Prop}{w:World}{B:Nat}{v:Value}{l:List PA} (h:AOwn H w B v l):∃ a c,v= .slice a l.length c:=by
 obtain ⟨hh,pp,hown,ha⟩:=h
 rcases hown.2 with ⟨rfl,h0⟩ | ⟨g,cap,cur,rfl,_⟩
 ·exact ⟨none,0,by rw [h0]⟩
 ·exact ⟨_,_,rfl⟩
theorem AOwn.own_lt {H:Nat->Prop}{w:World}{B:Nat}{v:Value}{l:List PA} (h:AOwn H w B v l){b:Nat} (e:v.ownBlock=some b):B<=b/\b < w.heap.size:=by
 obtain ⟨hh,pp,hown,ha⟩:=h
 exact World.ownsRow.lt hown b e
theorem wpList_pushA {ops:Array Oper}{rest:List Oper}{o:Oper}{a:Act}{Q:Exit->Act->World->Prop}{w:World} (hgd:o.guard=none) (s x:Operand)
  (ho:o.op= .call { callee := .builtin .append,args:=#[s,x],argTypes:=#[55,55]})
  (H:Nat->Prop) (B:Nat) (v:Value) (l:List PA) (hs:a.eval s=v) (hown:AOwn H w B v l) (h:Sl) (p:V8) (A:PA) (hA:AV (fun b=>H b\/v.ownBlock=some b) w A h p)
  (hx:a.eval x= .slice (some ⟨w.heap.size,0,none⟩) 1 1) (hl:l.length<=1048576) (hB:B<=w.heap.size)
  (k:∀ v' w',AOwn H w' B v' (l++[A])->(∀ w0,Below B w0 w->Below B w0 w')->Lat (fun b=>v.ownBlock=some b) w w'->(v'.ownBlock=v.ownBlock\/∃ g,v'.ownBlock=some g/\w.heap.size<=g)->wpList Tryz.prog ops Q rest (a.put o.dst v') w') :
  wpList Tryz.prog ops Q (o::rest) a (w.alloc (arrO h p)):=by
 obtain ⟨i0,hi0,hz0,hz1,hz2⟩:=info_parts arr_info
 obtain ⟨hh,pp,hrow,hel⟩:=hown
 refine wpList_append_own_at _ hgd s x 55 ho B 59 i0 _ 9 184 Tryz.underlying55 hi0 hz0 hz1 hz2 rfl (by omega) v l.length _ hs
  (World.ownsRow.alloc hrow _) ⟨w.heap.size,0,none⟩ 1 1 (arrL h p) hx rfl ?_ ?_ (by unfold maxLen;omega) (by omega) (by simp;omega) ?_
 ·intro j u hj
  rw [add_zero_off,Nat.zero_add,cell_of_row _ w.heap.size j _ _ (0,0) (heap_alloc_new w _)]
  simpa using hj
 ·intro u hu
  simp only [List.mem_cons,List.not_mem_nil,or_false] at hu
  rcases hu with rfl | rfl | rfl | rfl | rfl | rfl | rfl | rfl | rfl <;> rfl
 intro v' w' hown' hg _ hat
 have hsz:w.heap.size+1<=w'.heap.size:=by have:=hg.size;simpa using this
 have hat2:v'.ownBlock=v.ownBlock\/∃ g,v'.ownBlock=some g/\w.heap.size<=g:=by
  rcases hat with e | e
  ·exact .inl e
  ·exact .inr ⟨_,e,by simp⟩
 have hlat:Lat (fun b=>v.ownBlock=some b) w w':=⟨by omega,fun b hb hn=>by rw [hg.block b (by simp;omega) (fun e=>hn e.symm),(bel1 w _).block b hb]⟩
 refine k v' w' ⟨fun i=>if i < l.length then hh i else h,fun i=>if i < l.length then pp i else p,?_,fun i hi=>?_⟩ (fun w0 hb=>((hb.alloc hB _).grown hg (by simp;omega) fun k hk=>(World.ownsRow.lt hrow k hk).1)) hlat hat2
 ·rw [show (l++[A]).length=l.length+1 by simp,flatA_succ]
  have e:flatA l.length (fun i=>if i < l.length then hh i else h) (fun i=>if i < l.length then pp i else p)=flatA l.length hh pp:=flatA_congr _ fun i hi=>by rw [if_pos hi,if_pos hi];exact ⟨rfl,rfl⟩
  rw [e,if_neg (Nat.lt_irrefl _),if_neg (Nat.lt_irrefl _)]
  exact hown'
 ·have up:∀ {A:PA} {h:Sl} {p:V8},AV (fun b=>H b\/v.ownBlock=some b) w A h p->AV (fun b=>H b\/v'.ownBlock=some b) w' A h p:=by
   intro A h p hA
   have h1:AV (fun b=>(H b\/v.ownBlock=some b)\/v'.ownBlock=some b) w A h p:=AV.sub (fun b hb e=>by
    rcases e with e | e
    ·exact e
    ·rcases hat2 with e2 | ⟨g,e2,hg2⟩
     ·rw [e2] at e;exact .inr e
     ·rw [e2] at e
      injection e with e
      omega) hA
   have h2:AV (fun b=>(H b\/v.ownBlock=some b)\/v'.ownBlock=some b) w' A h p:=AV.lat ⟨hlat.size,fun b hb hn=>hlat.block b hb fun e=>hn (.inl (.inr e))⟩ h1
   exact AV.sub (fun b _ e=>by
    rcases e with e | e
    ·exact .inl (.inl e)
    ·exact .inr e) h2
  by_cases hi2:i < l.length
  ·dsimp only
   rw [if_pos hi2,if_pos hi2,List.getElem_append_left hi2]
   exact up (hel i hi2)
  ·have e:i=l.length:=by rw [List.length_append] at hi;simp at hi;omega
   subst e
   dsimp only
   rw [if_neg hi2,if_neg hi2]
   simp only [List.getElem_append_right (Nat.le_refl _),Nat.sub_self,List.getElem_cons_zero]
   exact up hA
end Go.Proofs.YtbakjaliponbbaaGreatDoor
