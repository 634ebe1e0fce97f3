/- The writer's quote. Printed by gen_trtg.py. Plain laws of whole numbers times powers of two as 64-bit floats. No program in sight. Plain law: how whole numbers .. Conditions: as each theorem says. -/
import Derived.Test.YtbakjaliponbbaaGreatDoorMg13
import Derived.Test.YtbakjaliponbbaaGreatDoorMg02
import Derived.Test.YtbakjaliponbbaaGreatDoorMg00
import Derived.Deep.DeepMust
set_option maxRecDepth 100000
set_option maxHeartbeats 1600000
namespace Go.Proofs.YtbakjaliponbbaaGreatDoor
open Go Go.RowKit Go.Proofs Fl
def quoI (c:Int):List Int:=if c=39 then [39,39] else [c]
def quoA (l:List Int):List Int:=39::l.flatMap quoI
def quoT (l:List Int):List Int:=quoA l++[39]
theorem quoA_snoc (l:List Int) (c:Int):quoA (l++[c])=quoA l++quoI c:=by unfold quoA;simp
theorem quoA_len (l:List Int):(quoA l).length<=2*l.length+1:=by
 unfold quoA
 induction l with
 | nil=>simp
 | cons c l ih =>
  have:(quoI c).length<=2:=by unfold quoI;split <;> simp
  simp only [List.flatMap_cons,List.length_cons,List.length_append] at ih ⊢
  omega
theorem ownR_one (w:World) (c:Int):OwnR (w.alloc (.cells #[.int .i32 c] 21)) w.heap.size (.slice (some ⟨w.heap.size,0,none⟩) 1 1) [c]:=by
 exact ⟨by simp,.inr ⟨w.heap.size,1,#[.int .i32 c],rfl,Nat.le_refl _,heap_alloc_new w _,Nat.le_refl _,by unfold maxLen;omega,by simp,by simp⟩⟩
theorem st_putv {w0 wa Wp W:World}{g:Nat}{v:Value}{l:List Int}{G n cc:Nat}{s:List Int} (h:Stepped w0 wa g v l Wp) (hb:Below Wp.heap.size Wp W) (hG:Wp.heap.size<=G) (hr:Runes W (.slice (some ⟨G,0,none⟩) n cc) s) (hs:s≠[]) (hl:l.length+s.length<=1099511627000) :
  Calls Tryz.prog 37 #[.pointer (some ⟨g,0,none⟩),.slice (some ⟨G,0,none⟩) n cc] W fun e w'=>e= .returned (.tuple #[])/\Stepped w0 wa g v (joinP l s) w':=by
 obtain ⟨v1,h2,h3,h1⟩:=h
 obtain ⟨k1,k2⟩:=h2.below hb
 rcases hr with ⟨a,c,_,hnil⟩ | ⟨b',o',n',c',he,hn,hc⟩
 ·exact absurd hnil hs
 ·simp only [Value.slice.injEq,Option.some.injEq,Addr.mk.injEq,and_true] at he
  obtain ⟨⟨rfl,rfl⟩,rfl,rfl⟩:=he
  have hp:0 < s.length:=List.length_pos_iff.2 hs
  have hgl:g < G:=by have:=h2.lt;omega
  have hog:v1.ownBlock≠some G:=fun e=>by have:=(World.ownsRow.lt h2.own _ e).2;omega
  refine (put_walk _ g v1 _ 0 _ _ l s W hs k1 ⟨by show G≠g;omega,hog,cell_lt (hc 0 hp),hc⟩ hn hl).mono ?_
  rintro e w' ⟨he,v',hw',hg'⟩
  obtain ⟨v2,q1,q2,q3⟩:=Stepped.mk' (h1.trans (hb.mono h1.size)) k1 ⟨hw',hg'⟩
  exact ⟨he,v2,q1,(h3.trans k2).trans q2,q3⟩
theorem quote_any (w0:World) (A:Option Addr) (n cc:Nat) (text:List Int) (hr:Runes w0 (.slice A n cc) text) (hn2:text.length<=1048576) :
  ∀ w g v l,Below w0.heap.size w0 w->WSt w w0.heap.size g v l->l.length+2*(quoT text).length<=1099511627000 ->
   Calls Tryz.prog 75 #[.pointer (some ⟨g,0,none⟩),.slice A n cc] w fun e w'=>e= .returned (.tuple #[])/\Stepped w0 w g v (joinP l (quoT text)) w':=by
 intro w g v l hb hw hl
 obtain ⟨A',cc',n',he,hn,hcell⟩:=hr.opn
 simp only [Value.slice.injEq] at he
 obtain ⟨rfl,rfl,rfl⟩:=he
 have HC:=Lib.hid hcell
 have HN:=Lib.hid hn
 have hn3:n<=1048576:=by omega
 have HS:=Lib.hid (Stepped.start hb hw)
 have HLN:=Lib.hid hl
 have HBW:=Lib.hid hb
 have HO0:=Lib.hid (ownR_one w 39)
 have HB0:=Lib.hid (bel1 w (.cells #[.int .i32 39] 21))
 have HQL:=Lib.hid (fun i=>quoA_len (text.take i))
 have HTL:Hid (∀ i,(text.take i).length<=1048576):=fun i=>by rw [List.length_take];omega
 clear hb hw hl hcell hn hr hn2
 go_enter Tryz.func75,Tryz.ntmps75
 go_wp2
 generalize w.alloc (.cells #[.int .i32 39] 21)=w00 at *
 go_loopw [4,10] (fun sv iv wr=>∃ (i:Nat),i<=n/\iv= .int .i64 (i:Int)/\Hid (OwnR wr w.heap.size sv (quoA (text.take i)))/\Hid (Below w.heap.size w wr)) (fun _ iv _=>n - (intOf iv).toNat)
 case atStart=>exact ⟨0,Nat.zero_le _,rfl,HO0.out,HB0.out⟩
 case round =>
  obtain ⟨i,hi,rfl,HO,HBR⟩:=hrel
  have hzr:w.heap.size<=wr.heap.size:=HBR.out.size
  have hql:(quoA (text.take i)).length<=4194304:=by have:=HQL.out i;have:=HTL.out i;omega
  by_cases him:i < n
  ·have hik:i < text.length:=by have:=HN.out;omega
   obtain ⟨b,o,rfl,hce⟩:=HC.out i hik
   have hce2:=hce _ (HBW.out.trans (HBR.out.mono HBW.out.size))
   have HE:Hid (quoA (text.take (i+1))=quoA (text.take i)++quoI (text.getD i 0)):=by
    unfold Hid;rw [<- quoA_snoc];congr 1;rw [List.take_add_one];simp [List.getD,hik]
   clear hce
   generalize text.getD i 0=x at *
   generalize quoA (text.take i)=q at *
   by_cases hx:x=39
   ·subst hx
    have HE2:Hid (quoA (text.take (i+1))=q++[39]++[39]):=by unfold Hid;rw [HE.out];simp [quoI]
    clear HE
    go_wp2_with (at_builtin;first
     | (refine wpList_app1 rfl (.tmp 16) (.tmp 18) rfl w.heap.size _ q (by rfl) HO.out 39 (by rfl) (by omega) hzr ?_;intro v2 w2 hv hbb _ _;have HO2:=Lib.hid hv;have HB2:=Lib.hid (hbb w HBR.out);have hz2:=HB2.out.size;clear hv hbb)
     | (refine wpList_app1 rfl (.tmp 20) (.tmp 22) rfl w.heap.size _ (q++[39]) (by rfl) HO2.out 39 (by rfl) (by simp;omega) hz2 ?_;intro v3 w3 hv hbb _ _;have HO3:=Lib.hid hv;have HB3:=Lib.hid (hbb w HB2.out);clear hv hbb))
    go_roundw
    case rel=>exact ⟨i+1,by omega,by go_num,by unfold Hid;rw [HE2.out];exact HO3.out,HB3.out⟩
    case measure=>simp [intOf];omega
   ·have HE2:Hid (quoA (text.take (i+1))=q++[x]):=by unfold Hid;rw [HE.out];simp [quoI,hx]
    have hx2:(x==39)=false:=by simpa using hx
    clear HE hx
    go_wp2_with (at_builtin;(refine wpList_app1 rfl (.tmp 20) (.tmp 22) rfl w.heap.size _ q (by rfl) HO.out x (by rfl) (by omega) hzr ?_;intro v3 w3 hv hbb _ _;have HO3:=Lib.hid hv;have HB3:=Lib.hid (hbb w HBR.out);clear hv hbb))
    go_roundw
    case rel=>exact ⟨i+1,by omega,by go_num,by unfold Hid;rw [HE2.out];exact HO3.out,HB3.out⟩
    case measure=>simp [intOf];omega
  ·have HE:Hid (text.take i=text):=by unfold Hid;rw [List.take_of_length_le (by have:=HN.out;omega)]
   have HQ:Hid (quoT text=quoA (text.take i)++[39]):=by unfold Hid;rw [HE.out];rfl
   have HL:Hid (l.length+(quoA (text.take i)++[39]).length<=1099511627000):=by unfold Hid;rw [<- HQ.out];have:=HLN.out;omega
   clear HE
   generalize quoA (text.take i)=q at *
   go_wp2_with (at_builtin;(refine wpList_app1 rfl (.tmp 26) (.tmp 27) rfl w.heap.size _ q (by rfl) HO.out 39 (by rfl) (by omega) hzr ?_;intro v3 w3 hv hbb _ _;have HB3:=Lib.hid (hbb w HBR.out);obtain ⟨gg,ccc,hvv,_⟩:=hv.form (by simp);obtain ⟨n3,hn3⟩:∃ n,n=(q++[39]).length:=⟨_,rfl⟩;rw [<- hn3] at hvv;subst hvv;have HO3:=Lib.hid hv;clear hv hbb hn3))
   have HOW:Hid (w.heap.size<=gg):=(World.ownsRow.lt HO3.out gg rfl).1
   have HRN:Hid (Runes w3 (.slice (some ⟨gg,0,none⟩) n3 ccc) (q++[39])):=HO3.out.runes
   have HPU:=Lib.hid (st_putv HS.out HB3.out HOW.out HRN.out (by simp) HL.out)
   clear HO3 HRN HOW HS HB3
   (with_reducible refine HPU.out.mono ?_)
   rintro e w4 ⟨rfl,hd⟩
   have HF:Hid (Stepped w0 w g v (joinP l (quoT text)) w4):=by rw [HQ.out];exact hd
   clear hd
   go_wp2
   go_end0
   exact ⟨rfl,HF.out⟩
end Go.Proofs.YtbakjaliponbbaaGreatDoor
namespace Go.Proofs.YtbakjaliponbbaaGreatDoor.Fl
open Ieee Go
theorem rep_unit {m:Nat} (hm:m<=9007199254740992):Rep (m*2^K):=rep_int K hm (by unfold K;omega)
end Go.Proofs.YtbakjaliponbbaaGreatDoor.Fl
namespace Go.Proofs.YtbakjaliponbbaaGreatDoor.Fl
open Ieee Go
def decR (m:Nat):List Int:=((48:Int)+(m % 10:Nat))::(if m / 10=0 then [] else decR (m / 10))
termination_by m
decreasing_by omega
def writeS (n:Int):List Int:=(if n < 0 then [175] else [])++(decR n.natAbs).reverse
theorem decR_last {m:Nat} (h:m / 10=0):decR m=[(48:Int)+(m % 10:Nat)]:=by rw [decR,if_pos h]
theorem decR_next {m:Nat} (h:m / 10≠0):decR m=((48:Int)+(m % 10:Nat))::decR (m / 10):=by rw [decR,if_neg h]
theorem decR_len (k:Nat):∀ m,m < 10^k->(decR m).length<=k\/k=0:=by
 induction k with
 | zero=>intro m h;exact .inr rfl
 | succ k ih =>
  intro m h
  left
  by_cases h10:m / 10=0
  ·rw [decR_last h10];simp
  ·rw [decR_next h10]
   have h2:m / 10 < 10^k:=by rw [Nat.pow_succ] at h;omega
   rcases ih (m / 10) h2 with h3 | h3
   ·simp;exact h3
   ·subst h3;simp at h2;omega
theorem decR_ne (m:Nat):decR m≠[]:=by rw [decR];exact List.cons_ne_nil _ _
end Go.Proofs.YtbakjaliponbbaaGreatDoor.Fl
namespace Go.Proofs.YtbakjaliponbbaaGreatDoor
open Go Go.RowKit Go.Proofs Fl
def Wrote (w0:World) (l:List Int) (e:Ending) (w':World):Prop :=
 ∃ v,e= .returned v/\OwnR w' w0.heap.size v l/\Below w0.heap.size w0 w'
theorem dec_char (k:Nat):IntKind.i32.wrap ((48:Int)+(k:Int) % 10)=48+(k:Int) % 10:=by
 have:0<=(k:Int) % 10:=by omega
 have:(k:Int) % 10 < 10:=by omega
 simp [IntKind.wrap,IntKind.bits,IntKind.signed];omega
theorem rev_drop {D:List Int}{t:Nat} (h:t < D.length):(D.drop (t+1)).reverse++[D[t]]=(D.drop t).reverse:=by
 rw [List.drop_eq_getElem_cons h,List.reverse_cons]
theorem write_pos (m:Nat) (hm:m<=9007199254740992) (w:World) :
  Calls Tryz.prog 175 #[.int .i64 m] w fun e w'=>Wrote w (decR m).reverse e w':=by
 generalize hD:decR m=D
 have HD:=Lib.hid hD
 have hlen:D.length<=16:=by
  rw [<- hD]
  rcases decR_len 16 m (by omega) with h | h
  ·exact h
  ·omega
 have hne:D≠[]:=by rw [<- hD];exact decR_ne m
 have HNE:=Lib.hid hne
 clear hD hne
 have hdec:decide ((m:Int) < 0)=false:=decide_eq_false (by omega)
 obtain ⟨B,hB⟩:∃ B,B=w.heap.size:=⟨_,rfl⟩
 have HB:=Lib.hid hB
 have HS:Hid (∀ e w',Wrote w D.reverse e w'=∃ v,e= .returned v/\OwnR w' B v D.reverse/\Below B w w'):=by rw [hB];exact fun _ _=>rfl
 clear hB
 go_enter Tryz.func175,Tryz.ntmps175
 go_wp2
 go_loopw [0,4] (fun n d wr=>∃ (k:Nat) (ds:List Int),n= .int .i64 k/\OwnR wr B d ds/\Hid (D=ds++decR k)/\Below B w wr/\k<=9007199254740992/\Hid (OwnR wr B (.slice none 0 0) []/\Apart d (.slice none 0 0))) (fun n _ _=>(intOf n).toNat)
 case atStart=>exact ⟨m,[],rfl,OwnR.nil w B,HD.out.symm,Below.refl B w,hm,⟨OwnR.nil w B,.inl rfl⟩⟩
 case round =>
  obtain ⟨k,ds,rfl,hown,hq,hbel,hk,hla⟩:=hrel
  clear hdec
  have hch:=dec_char k
  have hdl:ds.length<=16:=by
   have:=congrArg List.length hq.out
   rw [List.length_append] at this;omega
  have HOWN:=Lib.hid hown
  have hl1:ds.length<=1099511627776:=by omega
  have hBw:B<=wr.heap.size:=by rw [HB.out];exact hbel.size
  clear hown
  by_cases h10:k / 10=0
  ·have HE:Hid (D=ds++[(48:Int)+(k:Int) % 10]):=by
    show _=_
    rw [hq.out,decR_last h10];simp
   have hz:((k:Int) / 10==0)=true:=beq_iff_eq.2 (by omega)
   clear hq h10
   go_wp2_with (at_builtin;refine wpList_app1 rfl (.tmp 13) (.tmp 18) rfl B _ ds rfl HOWN.out (48+(k:Int) % 10) rfl hl1 hBw ?_;intro v' w1 hv' hb' hk' hs';rw [<- HE.out] at hv';have HV:=Lib.hid hv';have HB':=Lib.hid (hb' w hbel);have HK':=Lib.hid (hk' (.slice none 0 0) [] hla.out.1 hla.out.2);clear hb' hk' hv';obtain ⟨g,cc,hvv,hcl⟩:=HV.out.form HNE.out;rw [hvv];have HCL:=Lib.hid hcl;have HVV:=Lib.hid hvv;clear hcl hvv)
   go_loopw [3,5] (fun l i wr2=>∃ (t:Nat) (u:Int),t<=D.length/\i= .int .i64 u/\Hid (u=(t:Int) - 1)/\OwnR wr2 B l ([]++(D.drop t).reverse)/\Hid (OwnR wr2 B v' D/\Apart l v')/\Below B w wr2) (fun _ i _=>(intOf i+1).toNat)
   case atStart =>
    refine ⟨D.length,_,Nat.le_refl _,rfl,rfl,?_,⟨HV.out,HK'.out.2.symm⟩,HB'.out⟩
    rw [List.drop_length];exact HK'.out.1
   case round =>
    obtain ⟨t,u,ht,rfl,hu,hl,hda,hbl⟩:=hrel
    have HL:=Lib.hid hl
    have hBw2:B<=wr.heap.size:=by rw [HB.out];exact hbl.size
    clear hl
    by_cases h0:t=0
    ·have hu0:u < 0:=by have:=hu.out;omega
     have HE:Hid (D.drop t=D):=by show _=_;rw [h0];rfl
     clear hu h0
     go_wp2
     go_ret
     rw [HS.out]
     exact ⟨_,rfl,by rw [<- HE.out];exact HL.out,hbl⟩
    ·obtain ⟨t',rfl⟩:∃ t',t=t'+1:=⟨t - 1,by omega⟩
     obtain rfl:u=(t':Int):=by have:=hu.out;omega
     have hlt:t' < D.length:=by omega
     have hcell:=HCL.out wr B hda.out.1 t' hlt
     have HE:=Lib.hid (rev_drop hlt)
     have hl2:([]++(D.drop (t'+1)).reverse).length<=1099511627776:=by simp;omega
     clear hu h0
     generalize D[t']=x at *
     go_wp2_with (at_builtin;refine wpList_app1 rfl (.tmp 31) (.tmp 36) rfl B _ ([]++(D.drop (t'+1)).reverse) rfl HL.out x rfl hl2 hBw2 ?_;intro l' w2 hv' hb' hk' hs';rw [List.append_assoc,HE.out] at hv';have HV2:=Lib.hid hv';have HB2:=Lib.hid (hb' w hbl);have HK2:=Lib.hid (hk' v' D hda.out.1 hda.out.2);clear hb' hk' hv')
     go_roundw
     case rel=>exact ⟨t',_,by omega,rfl,rfl,HV2.out,HK2,HB2.out⟩
     case measure=>simp [intOf]
  ·have HE:Hid (D=(ds++[(48:Int)+(k:Int) % 10])++decR (k / 10)):=by
    show _=_
    rw [hq.out,decR_next h10];simp
   have hz:((k:Int) / 10==0)=false:=beq_eq_false_iff_ne.2 (by omega)
   clear hq
   go_wp2_with (at_builtin;refine wpList_app1 rfl (.tmp 13) (.tmp 18) rfl B _ ds rfl HOWN.out (48+(k:Int) % 10) rfl hl1 hBw ?_;intro v' w1 hv' hb' hk' hs';have HV:=Lib.hid hv';have HB':=Lib.hid (hb' w hbel);have HK':=Lib.hid (hk' (.slice none 0 0) [] hla.out.1 hla.out.2);clear hb' hk' hv')
   go_roundw
   case rel=>exact ⟨k / 10,_,by go_num,HV.out,HE,HB'.out,by omega,HK'⟩
   case measure=>simp [intOf];omega
theorem write_neg (m:Nat) (hm0:0 < m) (hm:m<=9007199254740992) (w:World) :
  Calls Tryz.prog 175 #[.int .i64 (-(m:Int))] w fun e w'=>Wrote w (175::(decR m).reverse) e w':=by
 generalize hD:decR m=D
 have HD:=Lib.hid hD
 have hlen:D.length<=16:=by
  rw [<- hD]
  rcases decR_len 16 m (by omega) with h | h
  ·exact h
  ·omega
 have hne:D≠[]:=by rw [<- hD];exact decR_ne m
 have HNE:=Lib.hid hne
 clear hD hne
 have hdec:decide (-(m:Int) < 0)=true:=decide_eq_true (by omega)
 obtain ⟨B,hB⟩:∃ B,B=w.heap.size:=⟨_,rfl⟩
 have HB:=Lib.hid hB
 have HS:Hid (∀ e w',Wrote w (175::D.reverse) e w'=∃ v,e= .returned v/\OwnR w' B v (175::D.reverse)/\Below B w w'):=by rw [hB];exact fun _ _=>rfl
 clear hB
 go_enter Tryz.func175,Tryz.ntmps175
 have hBw0:B<=w.heap.size:=by rw [HB.out];exact Nat.le_refl _
 go_wp2_with (at_builtin;refine wpList_app1 rfl (.tmp 8) (.tmp 9) rfl B _ [] rfl (OwnR.nil w B) 175 rfl (by simp) hBw0 ?_;intro l0 w0 hv' hb' hk' hs';rw [List.nil_append] at hv';have HL0:=Lib.hid hv';have HB0:=Lib.hid (hb' w (Below.refl B w));clear hb' hk' hv')
 go_loopw [0,4] (fun n d wr=>∃ (k:Nat) (ds:List Int),n= .int .i64 k/\OwnR wr B d ds/\Hid (D=ds++decR k)/\Below B w wr/\k<=9007199254740992/\Hid (OwnR wr B l0 [175]/\Apart d l0)) (fun n _ _=>(intOf n).toNat)
 case atStart=>exact ⟨m,[],by go_num,OwnR.nil _ B,HD.out.symm,HB0.out,hm,⟨HL0.out,.inl rfl⟩⟩
 case round =>
  obtain ⟨k,ds,rfl,hown,hq,hbel,hk,hla⟩:=hrel
  clear hdec
  have hch:=dec_char k
  have hdl:ds.length<=16:=by
   have:=congrArg List.length hq.out
   rw [List.length_append] at this;omega
  have HOWN:=Lib.hid hown
  have hl1:ds.length<=1099511627776:=by omega
  have hBw:B<=wr.heap.size:=by rw [HB.out];exact hbel.size
  clear hown
  by_cases h10:k / 10=0
  ·have HE:Hid (D=ds++[(48:Int)+(k:Int) % 10]):=by
    show _=_
    rw [hq.out,decR_last h10];simp
   have hz:((k:Int) / 10==0)=true:=beq_iff_eq.2 (by omega)
   clear hq h10
   go_wp2_with (at_builtin;refine wpList_app1 rfl (.tmp 13) (.tmp 18) rfl B _ ds rfl HOWN.out (48+(k:Int) % 10) rfl hl1 hBw ?_;intro v' w1 hv' hb' hk' hs';rw [<- HE.out] at hv';have HV:=Lib.hid hv';have HB':=Lib.hid (hb' w hbel);have HK':=Lib.hid (hk' l0 [175] hla.out.1 hla.out.2);clear hb' hk' hv';obtain ⟨g,cc,hvv,hcl⟩:=HV.out.form HNE.out;rw [hvv];have HCL:=Lib.hid hcl;have HVV:=Lib.hid hvv;clear hcl hvv)
   go_loopw [3,5] (fun l i wr2=>∃ (t:Nat) (u:Int),t<=D.length/\i= .int .i64 u/\Hid (u=(t:Int) - 1)/\OwnR wr2 B l ([175]++(D.drop t).reverse)/\Hid (OwnR wr2 B v' D/\Apart l v')/\Below B w wr2) (fun _ i _=>(intOf i+1).toNat)
   case atStart =>
    refine ⟨D.length,_,Nat.le_refl _,rfl,rfl,?_,⟨HV.out,HK'.out.2.symm⟩,HB'.out⟩
    rw [List.drop_length];exact HK'.out.1
   case round =>
    obtain ⟨t,u,ht,rfl,hu,hl,hda,hbl⟩:=hrel
    have HL:=Lib.hid hl
    have hBw2:B<=wr.heap.size:=by rw [HB.out];exact hbl.size
    clear hl
    by_cases h0:t=0
    ·have hu0:u < 0:=by have:=hu.out;omega
     have HE:Hid (D.drop t=D):=by show _=_;rw [h0];rfl
     clear hu h0
     go_wp2
     go_ret
     rw [HS.out]
     exact ⟨_,rfl,by rw [<- HE.out];exact HL.out,hbl⟩
    ·obtain ⟨t',rfl⟩:∃ t',t=t'+1:=⟨t - 1,by omega⟩
     obtain rfl:u=(t':Int):=by have:=hu.out;omega
     have hlt:t' < D.length:=by omega
     have hcell:=HCL.out wr B hda.out.1 t' hlt
     have HE:=Lib.hid (rev_drop hlt)
     have hl2:([175]++(D.drop (t'+1)).reverse).length<=1099511627776:=by simp;omega
     clear hu h0
     generalize D[t']=x at *
     go_wp2_with (at_builtin;refine wpList_app1 rfl (.tmp 31) (.tmp 36) rfl B _ ([175]++(D.drop (t'+1)).reverse) rfl HL.out x rfl hl2 hBw2 ?_;intro l' w2 hv' hb' hk' hs';rw [List.append_assoc,HE.out] at hv';have HV2:=Lib.hid hv';have HB2:=Lib.hid (hb' w hbl);have HK2:=Lib.hid (hk' v' D hda.out.1 hda.out.2);clear hb' hk' hv')
     go_roundw
     case rel=>exact ⟨t',_,by omega,rfl,rfl,HV2.out,HK2,HB2.out⟩
     case measure=>simp [intOf]
  ·have HE:Hid (D=(ds++[(48:Int)+(k:Int) % 10])++decR (k / 10)):=by
    show _=_
    rw [hq.out,decR_next h10];simp
   have hz:((k:Int) / 10==0)=false:=beq_eq_false_iff_ne.2 (by omega)
   clear hq
   go_wp2_with (at_builtin;refine wpList_app1 rfl (.tmp 13) (.tmp 18) rfl B _ ds rfl HOWN.out (48+(k:Int) % 10) rfl hl1 hBw ?_;intro v' w1 hv' hb' hk' hs';have HV:=Lib.hid hv';have HB':=Lib.hid (hb' w hbel);have HK':=Lib.hid (hk' l0 [175] hla.out.1 hla.out.2);clear hb' hk' hv')
   go_roundw
   case rel=>exact ⟨k / 10,_,by go_num,HV.out,HE,HB'.out,by omega,HK'⟩
   case measure=>simp [intOf];omega
theorem write_any (n:Int) (h1:-9007199254740992<=n) (h2:n<=9007199254740992) (w:World) :
  Calls Tryz.prog 175 #[.int .i64 n] w fun e w'=>Wrote w (writeS n) e w':=by
 by_cases h:n < 0
 ·obtain ⟨m,hm⟩:=Int.eq_ofNat_of_zero_le (show 0<=-n by omega)
  obtain rfl:n=-(m:Int):=by omega
  have e:writeS (-(m:Int))=[175]++(decR m).reverse:=by
   unfold writeS;rw [if_pos h,show (-(m:Int)).natAbs=m by omega]
  rw [e]
  exact write_neg m (by omega) (by omega) w
 ·obtain ⟨m,rfl⟩:=Int.eq_ofNat_of_zero_le (show 0<=n by omega)
  have e:writeS (m:Int)=(decR m).reverse:=by
   unfold writeS;rw [if_neg h,Int.natAbs_natCast,List.nil_append]
  rw [e]
  exact write_pos m (by omega) w
end Go.Proofs.YtbakjaliponbbaaGreatDoor
