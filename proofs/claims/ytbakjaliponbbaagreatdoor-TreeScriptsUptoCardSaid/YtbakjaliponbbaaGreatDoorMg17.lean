/- The walks of lit.Numbers and of the reference's Numbers over the numbers of a tree. Printed by .. Conditions: as each theorem says. -/
import Derived.Test.YtbakjaliponbbaaGreatDoorMg16
import Derived.Test.YtbakjaliponbbaaGreatDoorMg01
set_option maxRecDepth 100000
set_option maxHeartbeats 1000000
namespace Go.Proofs.YtbakjaliponbbaaGreatDoor
open Go Go.RowKit Go.Proofs Fl
def joinT (t:Nat->List Int):Nat->List Int
 | 0=>[]
 | k+1=>joinT t k++(if k=0 then [] else [32])++t k
theorem joinT_len {t:Nat->List Int}{n:Nat} (h:∀ i,i < n->(t i).length<=60):∀ k,k<=n->(joinT t k).length<=61*k:=by
 intro k
 induction k with
 | zero=>intro _;simp [joinT]
 | succ k ih =>
  intro hk
  have h1:=ih (by omega)
  have h2:=h k (by omega)
  unfold joinT
  split <;> simp <;> omega
structure NumsW (p:Nat->Bool×Nat) (t:Nat->List Int) (n:Nat):Prop where
 rep:∀ i,i < n->Rep (p i).2
 wr:∀ i,i < n->WrIs (p i).1 (p i).2 (t i)
theorem NumsW.len {p:Nat->Bool×Nat}{t:Nat->List Int}{n:Nat} (h:NumsW p t n) (i:Nat) (hi:i < n):0 < (t i).length/\(t i).length<=60:=wr_len (h.rep i hi) (h.wr i hi)
theorem lnumbers_walk (b o c n:Nat) (p:Nat->Bool×Nat) (t:Nat->List Int) (hp:NumsW p t n) (hn60:n<=1048576) (w:World) (ht:TzTab w)
  (hc:∀ i,i < n->w.cell? ⟨b,o+i,none⟩=some (fl (p i))) :
  Calls Tryz.prog 74 #[.slice (some ⟨b,o,none⟩) n c] w fun e w'=>Wrote w (joinT t n) e w':=by
 have hcw:∀ wr,Below w.heap.size w wr->∀ i,i < n->wr.cell? ⟨b,o+i,none⟩=some (fl (p i)):=by
  intro wr hb i h
  rw [hb.cell (cell_lt (hc i h))];exact hc i h
 have HC:=Lib.hid hcw
 have HP:=Lib.hid hp
 have HTT:Hid (∀ wr,Below w.heap.size w wr->TzTab wr):=fun wr hb=>ht.below hb
 have HLEN:=Lib.hid (joinT_len (t:=t) (n:=n) (fun i hi=>(hp.len i hi).2))
 obtain ⟨B,hB⟩:∃ B,B=w.heap.size:=⟨_,rfl⟩
 have HB:=Lib.hid hB
 have HS:Hid (∀ e w',Wrote w (joinT t n) e w'=∃ v,e= .returned v/\OwnR w' B v (joinT t n)/\Below B w w'):=by rw [hB];exact fun _ _=>rfl
 clear hc hcw hp ht hB
 go_enter Tryz.func74,Tryz.ntmps74
 go_wp2
 go_loopw [3,8] (fun v i wr=>∃ k:Nat,k<=n/\i= .int .i64 k/\OwnR wr B v (joinT t k)/\Below B w wr) (fun _ i _=>n - (intOf i).toNat)
 case atStart=>exact ⟨0,Nat.zero_le _,rfl,OwnR.nil w B,Below.refl B w⟩
 case round =>
  obtain ⟨k,hk,rfl,hown,hbl⟩:=hrel
  have HOWN:=Lib.hid hown
  have hBw:B<=wr.heap.size:=by rw [HB.out];exact hbl.size
  clear hown
  by_cases hlt:k < n
  ·have hcell:=HC.out wr (by rw [<- HB.out];exact hbl) k hlt
   have hl1:(joinT t k).length<=1099511627776:=by have:=HLEN.out k hk;omega
   have HW:=Lib.hid (fun w ht=>lWrite_any (p k).1 (HP.out.rep k hlt) (HP.out.wr k hlt) w ht)
   have hlen:=HP.out.len k hlt
   have HNE:Hid (t k≠[]):=by intro e;rw [e] at hlen;simp at hlen
   have HT1:=Lib.hid (HTT.out wr (by rw [<- HB.out];exact hbl))
   unfold fl at hcell
   generalize W (p k).1 (p k).2=y at *
   by_cases h0:k=0
   ·have HJ:Hid (joinT t (k+1)=joinT t k++t k):=by show _=_;rw [joinT,if_pos h0];simp
    have hgt:¬ 0 < (k:Int):=by omega
    clear h0
    go_wp2_with fail
    refine (HW.out _ HT1.out).mono ?_
    rintro e w3 ⟨v3,rfl,ho3,hb3⟩
    obtain ⟨g,c3,hv3,hcl⟩:=ho3.form HNE.out
    rw [hv3]
    have hcl':∀ i (hi:i < (t k).length),w3.cell? ⟨g,0+i,none⟩=some (.int .i32 (t k)[i]):=fun i hi=>by rw [Nat.zero_add];exact hcl w3 _ ho3 i hi
    have HCL:=Lib.hid hcl'
    have HO3:=Lib.hid (HOWN.out.below hb3)
    have hB3:B<=w3.heap.size:=by have:=hb3.size;omega
    have HB3:=Lib.hid (hbl.trans (hb3.mono hBw))
    have hl3:(joinT t k).length+(t k).length<=1099511627776:=by have:=HLEN.out k hk;omega
    clear hv3 hcl hcl' ho3 hb3
    go_wp2_with (at_builtin;refine wpList_appL rfl (.tmp 18) (.tmp 20) rfl B _ (joinT t k) rfl HO3.out g 0 c3 (t k) rfl HCL.out hl3 hB3 ?_;intro v4 w4 hv4 hbk hk4 hs4;rw [<- HJ.out] at hv4;have HV4:=Lib.hid hv4;have HB4:=Lib.hid (hbk w HB3.out);clear hbk hk4 hv4)
    go_roundw
    case rel=>exact ⟨k+1,by omega,by go_num,HV4.out,HB4.out⟩
    case measure=>simp [intOf];omega
   ·have HJ:Hid (joinT t (k+1)=(joinT t k++[32])++t k):=by show _=_;rw [joinT,if_neg h0]
    have hgt:0 < (k:Int):=by omega
    clear h0
    go_wp2_with (at_builtin;refine wpList_app1 rfl (.tmp 15) (.tmp 16) rfl B _ (joinT t k) rfl HOWN.out 32 rfl hl1 hBw ?_;intro v2 w2 hv2 hbk hk2 hs2;have HV2:=Lib.hid hv2;have HB2:=Lib.hid (hbk w hbl);clear hbk hk2 hv2)
    refine (HW.out _ (HTT.out w2 (by rw [<- HB.out];exact HB2.out))).mono ?_
    rintro e w3 ⟨v3,rfl,ho3,hb3⟩
    obtain ⟨g,c3,hv3,hcl⟩:=ho3.form HNE.out
    rw [hv3]
    have hcl':∀ i (hi:i < (t k).length),w3.cell? ⟨g,0+i,none⟩=some (.int .i32 (t k)[i]):=fun i hi=>by rw [Nat.zero_add];exact hcl w3 _ ho3 i hi
    have HCL:=Lib.hid hcl'
    have HO3:=Lib.hid (HV2.out.below hb3)
    have hB2:B<=w2.heap.size:=by rw [HB.out];exact HB2.out.size
    have hB3:B<=w3.heap.size:=by have:=hb3.size;omega
    have HB3:=Lib.hid (HB2.out.trans (hb3.mono hB2))
    have hl3:(joinT t k++[32]).length+(t k).length<=1099511627776:=by have:=HLEN.out k hk;simp;omega
    clear hv3 hcl hcl' ho3 hb3
    go_wp2_with (at_builtin;refine wpList_appL rfl (.tmp 18) (.tmp 20) rfl B _ (joinT t k++[32]) rfl HO3.out g 0 c3 (t k) rfl HCL.out hl3 hB3 ?_;intro v4 w4 hv4 hbk hk4 hs4;rw [<- HJ.out] at hv4;have HV4:=Lib.hid hv4;have HB4:=Lib.hid (hbk w HB3.out);clear hbk hk4 hv4)
    go_roundw
    case rel=>exact ⟨k+1,by omega,by go_num,HV4.out,HB4.out⟩
    case measure=>simp [intOf];omega
  ·obtain rfl:k=n:=by omega
   go_wp2
   go_ret
   rw [HS.out]
   exact ⟨_,rfl,HOWN.out,hbl⟩
theorem encode_blank:Utf8.encode 32=⟨#[32]⟩:=by decide+kernel
theorem rlnumbers_walk (b o c n:Nat) (p:Nat->Bool×Nat) (t:Nat->List Int) (hp:NumsW p t n) (hn60:n<=1048576) (w:World)
  (hc:∀ i,i < n->w.cell? ⟨b,o+i,none⟩=some (fl (p i))) :
  Calls Tryz.prog 81 #[.slice (some ⟨b,o,none⟩) n c] w fun e w'=>Texts w (runesBytes (joinT t n)) e w':=by
 have hcw:∀ wr,Below w.heap.size w wr->∀ i,i < n->wr.cell? ⟨b,o+i,none⟩=some (fl (p i)):=by
  intro wr hb i h
  rw [hb.cell (cell_lt (hc i h))];exact hc i h
 have HC:=Lib.hid hcw
 have HP:=Lib.hid hp
 have HLEN:=Lib.hid (joinT_len (t:=t) (n:=n) (fun i hi=>(hp.len i hi).2))
 obtain ⟨B,hB⟩:∃ B,B=w.heap.size:=⟨_,rfl⟩
 have HB:=Lib.hid hB
 have HS:Hid (∀ e w',Texts w (runesBytes (joinT t n)) e w'=(e= .returned (.string (runesBytes (joinT t n)))/\Below B w w')):=by rw [hB];exact fun _ _=>rfl
 clear hc hcw hp hB
 go_enter Tryz.func81,Tryz.ntmps81
 go_wp2
 go_loopw [3,4] (fun s i wr=>∃ (k:Nat) (S:ByteArray),k<=n/\i= .int .i64 k/\s= .string S/\Hid (S=runesBytes (joinT t k))/\S.size<=300000000/\Below B w wr) (fun _ i _=>n - (intOf i).toNat)
 case atStart=>exact ⟨0,_,Nat.zero_le _,rfl,rfl,rfl,by decide,Below.refl B w⟩
 case round =>
  obtain ⟨k,S,hk,rfl,rfl,hS,hsz,hbl⟩:=hrel
  have hBw:B<=wr.heap.size:=by rw [HB.out];exact hbl.size
  by_cases hlt:k < n
  ·have hcell:=HC.out wr (by rw [<- HB.out];exact hbl) k hlt
   have HW:=Lib.hid (rWrite_any (p k).1 (HP.out.rep k hlt) (HP.out.wr k hlt))
   have htz:(runesBytes (t k)).size<=240:=by
    have:=(HP.out.len k hlt).2
    have:=runesBytes_size_le (t k);omega
   have hSz:S.size<=255852544:=by
    rw [hS.out]
    have:=HLEN.out k hk
    have:=runesBytes_size_le (joinT t k);omega
   unfold fl at hcell
   generalize W (p k).1 (p k).2=y at *
   by_cases h0:k=0
   ·have HJ:Hid (runesBytes (joinT t (k+1))=S++runesBytes (t k)):=by
     show _=_
     rw [joinT,if_pos h0,hS.out,runesBytes_append,runesBytes_append,runesBytes_nil];simp
    have hgt:¬ 0 < (k:Int):=by omega
    have hsz2:(S++runesBytes (t k)).size<=300000000:=by rw [ByteArray.size_append];omega
    clear h0 hS
    generalize runesBytes (t k)=T at *
    go_wp2_with fail
    refine (HW.out _).mono ?_
    rintro e w3 ⟨rfl,hb3⟩
    have HB3:=Lib.hid (hbl.trans (hb3.mono hBw))
    clear hb3
    go_wp2
    go_roundw
    case rel=>exact ⟨k+1,_,by omega,by go_num,rfl,HJ.out.symm,hsz2,HB3.out⟩
    case measure=>simp [intOf];omega
   ·have HJ:Hid (runesBytes (joinT t (k+1))=S++⟨#[32]⟩++runesBytes (t k)):=by
     show _=_
     rw [joinT,if_neg h0,hS.out,runesBytes_append,runesBytes_append,runesBytes_cons,runesBytes_nil,encode_blank];simp
    have hgt:0 < (k:Int):=by omega
    have hsz2:(S++⟨#[32]⟩++runesBytes (t k)).size<=300000000:=by
     rw [ByteArray.size_append,ByteArray.size_append,show (⟨#[32]⟩:ByteArray).size=1 from rfl];omega
    clear h0 hS
    generalize runesBytes (t k)=T at *
    go_wp2_with fail
    refine (HW.out _).mono ?_
    rintro e w3 ⟨rfl,hb3⟩
    have HB3:=Lib.hid (hbl.trans (hb3.mono hBw))
    clear hb3
    go_wp2
    go_roundw
    case rel=>exact ⟨k+1,_,by omega,by go_num,rfl,HJ.out.symm,hsz2,HB3.out⟩
    case measure=>simp [intOf];omega
  ·obtain rfl:k=n:=by omega
   go_wp2
   go_ret
   rw [HS.out,<- hS.out]
   exact ⟨rfl,hbl⟩
theorem numbers_nil (a:Option Addr) (c:Nat) (w:World) :
  Calls Tryz.prog 74 #[.slice a 0 c] w fun e w'=>Wrote w [] e w':=by
 go_enter Tryz.func74,Tryz.ntmps74
 go_wp2
 refine wp_loop_rounds 1 ?_
 rw [rounds_succ]
 go_wp2
 go_ret
 exact ⟨_,rfl,OwnR.nil _ _,Below.refl _ _⟩
theorem rnumbers_nil (a:Option Addr) (c:Nat) (w:World) :
  Calls Tryz.prog 81 #[.slice a 0 c] w fun e w'=>Texts w (runesBytes []) e w':=by
 go_enter Tryz.func81,Tryz.ntmps81
 go_wp2
 refine wp_loop_rounds 1 ?_
 rw [rounds_succ]
 go_wp2
 go_ret
 exact ⟨rfl,Below.refl _ _⟩
def Floats (w:World) (v:Value) (p:Nat->Bool×Nat) (n:Nat):Prop:=Reads1 w v (flist p n)
theorem Floats.cases {w:World}{v:Value}{p:Nat->Bool×Nat}{n:Nat} (h:Floats w v p n) :
  (∃ a c,v= .slice a 0 c/\n=0)\/∃ b o c,v= .slice (some ⟨b,o,none⟩) n c/\∀ i,i < n->w.cell? ⟨b,o+i,none⟩=some (fl (p i)):=by
 rcases h with ⟨a,c,rfl,h⟩ | ⟨b,o,m,c,rfl,hn,hc⟩
 ·have:=congrArg List.length h
  rw [flist_len] at this
  exact .inl ⟨a,c,rfl,this⟩
 ·rw [flist_len] at hn
  subst hn
  refine .inr ⟨b,o,c,rfl,fun i hi=>?_⟩
  rw [hc i (by rw [flist_len];exact hi),flist_get]
theorem numsW_any {w:World}{v:Value}{p:Nat->Bool×Nat}{n:Nat}{t:Nat->List Int} (h:Floats w v p n) (hp:NumsW p t n) (hn60:n<=1048576) (ht:TzTab w) :
  Calls Tryz.prog 74 #[v] w fun e w'=>Wrote w (joinT t n) e w':=by
 rcases h.cases with ⟨a,c,rfl,rfl⟩ | ⟨b,o,c,rfl,hc⟩
 ·exact numbers_nil a c w
 ·exact lnumbers_walk b o c n p t hp hn60 w ht hc
theorem rnumsW_any {w:World}{v:Value}{p:Nat->Bool×Nat}{n:Nat}{t:Nat->List Int} (h:Floats w v p n) (hp:NumsW p t n) (hn60:n<=1048576) :
  Calls Tryz.prog 81 #[v] w fun e w'=>Texts w (runesBytes (joinT t n)) e w':=by
 rcases h.cases with ⟨a,c,rfl,rfl⟩ | ⟨b,o,c,rfl,hc⟩
 ·exact rnumbers_nil a c w
 ·exact rlnumbers_walk b o c n p t hp hn60 w hc
noncomputable def numT (x:Nat):List Int:=by
 classical
 exact if h:∃ l s Z,Rep Z/\x=W s Z/\WrIs s Z l then h.choose else []
theorem numT_is {x:Nat} (hx:x < 18446744073709551616) (h:isFin x=true):∃ s Z,Rep Z/\x=W s Z/\WrIs s Z (numT x):=by
 have he:∃ l s Z,Rep Z/\x=W s Z/\WrIs s Z l:=by
  rcases classify x hx with ⟨s,Z,hz,e⟩ | ⟨s,rfl⟩ | hn
  ·obtain ⟨l,hl⟩:=wr_ex s hz
   exact ⟨l,s,Z,hz,e,hl⟩
  ·rw [isFin_inf] at h;cases h
  ·rw [isFin_nan hn] at h;cases h
 have e:numT x=he.choose:=by unfold numT;exact dif_pos he
 rw [e]
 exact he.choose_spec
noncomputable def numsT (l:List Nat):List Int:=joinT (fun i=>numT (l.getD i 0)) l.length
theorem nums_ok {l:List Nat} (hl:∀ x∈l,x < 18446744073709551616) (hf:l.all isFin=true):∃ p:Nat->Bool×Nat,NumsW p (fun i=>numT (l.getD i 0)) l.length/\l.map (Value.float .f64)=flist p l.length:=by
 have h:∀ i,∃ q:Bool×Nat,i < l.length->Rep q.2/\l.getD i 0=W q.1 q.2/\WrIs q.1 q.2 (numT (l.getD i 0)):=by
  intro i
  by_cases hi:i < l.length
  ·have e:l.getD i 0=l[i]:=by simp [List.getD,hi]
   obtain ⟨s,Z,h1,h2,h3⟩:=numT_is (hl _ (List.getElem_mem hi)) (List.all_eq_true.1 hf _ (List.getElem_mem hi))
   exact ⟨(s,Z),fun _=>⟨h1,by rw [e];exact h2,by rw [e];exact h3⟩⟩
  ·exact ⟨(false,0),fun h=>absurd h hi⟩
 obtain ⟨p,hp⟩:=Classical.axiomOfChoice h
 refine ⟨p,⟨fun i hi=>(hp i hi).1,fun i hi=>(hp i hi).2.2⟩,?_⟩
 apply List.ext_getElem
 ·rw [flist_len];simp
 ·intro i h1 h2
  have hi:i < l.length:=by simpa using h1
  rw [flist_get]
  unfold fl
  rw [<- (hp i hi).2.1]
  simp [List.getD,hi]
theorem numsT_len {l:List Nat} (hl:∀ x∈l,x < 18446744073709551616) (hf:l.all isFin=true) (hn:0 < l.length):numsT l≠[]/\(numsT l).length<=61*l.length:=by
 obtain ⟨p,hp,_⟩:=nums_ok hl hf
 refine ⟨fun e=>?_,joinT_len (fun i hi=>(hp.len i hi).2) _ (Nat.le_refl _)⟩
 have h0:=(hp.len (l.length - 1) (by omega)).1
 have hj:joinT (fun i=>numT (l.getD i 0)) (l.length - 1+1)=joinT (fun i=>numT (l.getD i 0)) (l.length - 1)++(if l.length - 1=0 then [] else [32])++numT (l.getD (l.length - 1) 0):=rfl
 unfold numsT at e
 rw [show l.length - 1+1=l.length by omega,e] at hj
 have:=congrArg List.length hj
 simp only [List.length_append,List.length_nil] at this
 omega
def NumD (c:Int):Prop:=(48<=c/\c<=57)\/c=112\/c=32\/c=175
theorem decR_numd (m:Nat):∀ c∈decR m,NumD c:=by
 induction m using Nat.strongRecOn with
 | _ m ih =>
  intro c hc
  by_cases h:m / 10=0
  ·rw [decR_last h] at hc
   simp at hc;left;omega
  ·rw [decR_next h] at hc
   rcases List.mem_cons.1 hc with rfl | hc
   ·left;omega
   ·exact ih _ (by omega) c hc
theorem writeS_numd (n:Int):∀ c∈writeS n,NumD c:=by
 intro c hc
 unfold writeS at hc
 rcases List.mem_append.1 hc with h | h
 ·split at h
  ·simp at h;exact .inr (.inr (.inr h))
  ·cases h
 ·exact decR_numd _ c (List.mem_reverse.1 h)
theorem wr_numd {s:Bool}{Z:Nat}{l:List Int} (h:WrIs s Z l):∀ c∈l,NumD c:=by
 rcases h with ⟨m,_,_,hl⟩ | ⟨_,q,j,_,_,hl⟩ <;> rw [hl]
 ·exact writeS_numd _
 ·intro c hc
  rcases List.mem_append.1 hc with h | h
  ·exact writeS_numd _ c h
  ·rcases List.mem_cons.1 h with rfl | h
   ·exact .inr (.inl rfl)
   ·exact writeS_numd _ c h
theorem join_numd {t:Nat->List Int}:∀ k,(∀ i,i < k->∀ c∈t i,NumD c)->∀ c∈joinT t k,NumD c
 | 0,_=>fun c hc=>absurd hc (by simp [joinT])
 | k+1,h=>fun c hc=>by
  rw [joinT] at hc
  rcases List.mem_append.1 hc with hc | hc
  ·rcases List.mem_append.1 hc with hc | hc
   ·exact join_numd k (fun i hi=>h i (by omega)) c hc
   ·split at hc
    ·cases hc
    ·simp at hc;exact .inr (.inr (.inl hc))
  ·exact h k (by omega) c hc
theorem get_list (a:ByteArray) (i:Nat):a.get! i=a.data.toList.getD i 0:=by
 show a.data[i]! = _
 by_cases h:i < a.data.size
 ·rw [getElem!_pos a.data i h,List.getD_eq_getElem?_getD,List.getElem?_eq_getElem (by simpa using h)]
  simp
 ·rw [getElem!_neg a.data i h,List.getD_eq_getElem?_getD,List.getElem?_eq_none (by simpa using h)]
  rfl
theorem get_mid (p e r:ByteArray) (k:Nat) (h:k < e.size):(p++(e++r)).get! (p.size+k)=e.get! k:=by
 have hp:p.size=p.data.toList.length:=rfl
 have he:e.size=e.data.toList.length:=rfl
 rw [get_list,get_list,ByteArray.data_append,ByteArray.data_append,Array.toList_append,Array.toList_append,hp]
 rw [List.getD_eq_getElem?_getD,List.getD_eq_getElem?_getD,List.getElem?_append_right (Nat.le_add_right _ _),Nat.add_sub_cancel_left,List.getElem?_append_left (by rw [<- he];exact h)]
theorem enc_size {c:Int} (h0:0<=c) (h1:c < 128):(Utf8.encode c).size=1:=by rw [encode_ascii c h0 h1];rfl
theorem dec_ascii (p r:ByteArray) (c:Int) (h0:0<=c) (h1:c < 128):Utf8.decode (p++(Utf8.encode c++r)) p.size=(c.toNat,1):=by
 have hg:=get_mid p (Utf8.encode c) r 0 (by rw [enc_size h0 h1];omega)
 rw [Nat.add_zero] at hg
 have e:((Utf8.encode c).get! 0).toNat=c.toNat:=by
  rw [encode_ascii c h0 h1]
  show (UInt8.ofNat c.toNat).toNat=_
  rw [UInt8.toNat_ofNat'];omega
 unfold Utf8.decode
 simp only [Nat.add_zero,hg,e]
 rw [if_pos (by omega)]
theorem dec_high (p r:ByteArray):Utf8.decode (p++(Utf8.encode 175++r)) p.size=(175,2):=by
 have e175:Utf8.encode 175=⟨#[194,175]⟩:=by decide+kernel
 have h0:=get_mid p (Utf8.encode 175) r 0 (by rw [e175];decide)
 have h1:=get_mid p (Utf8.encode 175) r 1 (by rw [e175];decide)
 rw [Nat.add_zero] at h0
 have g0:((Utf8.encode 175).get! 0).toNat=194:=by rw [e175];rfl
 have g1:((Utf8.encode 175).get! 1).toNat=175:=by rw [e175];rfl
 have hz:p.size+1 < (p++(Utf8.encode 175++r)).size:=by
  rw [ByteArray.size_append,ByteArray.size_append,e175]
  show _ < _+(2+_)
  omega
 unfold Utf8.decode
 simp only [Nat.add_zero,h0,h1,g0,g1,hz,decide_true,Bool.true_and]
 rfl
theorem rl_back:∀ (l:List Int) (p:ByteArray) (f:Nat),(∀ c∈l,NumD c)->(runesBytes l).size<=f->rl (p++runesBytes l) f p.size=l
 | [],p,f,_,_=>by
  rw [runesBytes_nil]
  exact rl_end _ (by simp)
 | c::l,p,f,h,hf=>by
  have hc:=h c (by simp)
  have hle:1<=(Utf8.encode c).size:=by
   rcases hc with h | h | h | h
   ·rw [enc_size (by omega) (by omega)];omega
   ·subst h;decide+kernel
   ·subst h;decide+kernel
   ·subst h;decide+kernel
  have hd:Utf8.decode (p++(Utf8.encode c++runesBytes l)) p.size=(c.toNat,(Utf8.encode c).size):=by
   rcases hc with h | h | h | h
   ·rw [dec_ascii _ _ c (by omega) (by omega),enc_size (by omega) (by omega)]
   ·subst h;rw [dec_ascii _ _ 112 (by omega) (by omega)];rfl
   ·subst h;rw [dec_ascii _ _ 32 (by omega) (by omega)];rfl
   ·subst h;rw [dec_high];rfl
  have hn:((c.toNat:Nat):Int)=c:=by rcases hc with h | h | h | h <;> omega
  rw [runesBytes_cons] at hf ⊢
  rw [ByteArray.size_append] at hf
  obtain ⟨f',rfl⟩:∃ f',f=f'+1:=⟨f - 1,by omega⟩
  have hs:p.size < (p++(Utf8.encode c++runesBytes l)).size:=by
   rw [ByteArray.size_append,ByteArray.size_append];omega
  rw [rl,if_pos hs,hd]
  have ih:=rl_back l (p++Utf8.encode c) f' (fun x hx=>h x (by simp [hx])) (by omega)
  rw [ByteArray.append_assoc,ByteArray.size_append] at ih
  show ((c.toNat:Nat):Int)::rl _ f' (p.size+(Utf8.encode c).size)=_
  rw [ih,hn]
theorem runes_back {l:List Int} (h:∀ c∈l,NumD c):runesOf (runesBytes l)=l:=by
 have e:=rl_back l ByteArray.empty (runesBytes l).size h (Nat.le_refl _)
 rw [ByteArray.empty_append] at e
 exact e
theorem runes_nums {l:List Nat} (hl:∀ x∈l,x < 18446744073709551616) (hf:l.all isFin=true):runesOf (runesBytes (numsT l))=numsT l:=by
 obtain ⟨p,hp,_⟩:=nums_ok hl hf
 exact runes_back (join_numd _ fun i hi=>wr_numd (hp.wr i hi))
theorem lnums_any {w:World}{v:Value}{l:List Nat} (h:Reads1 w v (l.map (Value.float .f64))) (hl:∀ x∈l,x < 18446744073709551616) (hf:l.all isFin=true) (hn:l.length<=1048576) (ht:TzTab w) :
  Calls Tryz.prog 74 #[v] w fun e w'=>Wrote w (numsT l) e w':=by
 obtain ⟨p,hp,e⟩:=nums_ok hl hf
 rw [e] at h
 exact numsW_any h hp hn ht
theorem rlnums_any {w:World}{v:Value}{l:List Nat} (h:Reads1 w v (l.map (Value.float .f64))) (hl:∀ x∈l,x < 18446744073709551616) (hf:l.all isFin=true) (hn:l.length<=1048576) :
  Calls Tryz.prog 81 #[v] w fun e w'=>Texts w (runesBytes (numsT l)) e w':=by
 obtain ⟨p,hp,e⟩:=nums_ok hl hf
 rw [e] at h
 exact rnumsW_any h hp hn
end Go.Proofs.YtbakjaliponbbaaGreatDoor
