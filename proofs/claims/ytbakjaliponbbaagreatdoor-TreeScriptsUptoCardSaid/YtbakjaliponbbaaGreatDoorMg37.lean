/- The walk of tree.Script. Printed by gen_trxs.py. The walk of the law TreeScripts. Printed by .. Conditions: as each theorem says. -/
import Derived.Test.YtbakjaliponbbaaGreatDoorMg14
import Derived.Test.YtbakjaliponbbaaGreatDoorMg36
import Derived.Test.YtbakjaliponbbaaGreatDoorMg30
import Derived.Test.YtbakjaliponbbaaGreatDoorMg07
import Derived.Test.YtbakjaliponbbaaGreatDoorMg08
set_option maxRecDepth 100000
set_option maxHeartbeats 6400000
namespace Go.Proofs.YtbakjaliponbbaaGreatDoor
open Go Go.RowKit Go.Proofs Fl
theorem tscript_walk (w0:World) (tx:RTree->List Int) (ts:List RTree) (A:Option Addr) (n cc:Nat) (hn:n=ts.length) (hn2:n<=1048576) (hk:KidsAt w0 A ts) (hf:∀ i (hi:i < ts.length),FitG ts[i]) (H:∀ i (hi:i < ts.length),stB ts[i]=true->NodeP 38 w0 ts[i] (tx ts[i]))
  (hl:∀ k,k<=ts.length->(∀ j (hj:j < ts.length),j < k->stB ts[j]=true)->(accT tx 8900 ts k).length<=500000000000) :
  Calls Tryz.prog 10 #[.slice A n cc] w0 fun e w'=>(ts.all stB=true/\(∃ v,e= .returned v/\Runes w' v (accT tx 8900 ts ts.length))\/ts.all stB=false/\e= .returned (.slice none 0 0))/\Below w0.heap.size w0 w':=by
 have HK:=Lib.hid hk
 have HN:=Lib.hid hn
 have HFT:=Lib.hid hf
 have HH:=Lib.hid H
 have HLN:=Lib.hid hl
 have HAT:Hid (∀ i,accT tx 8900 ts (i+1)=joinP (accT tx 8900 ts i) (joinP (if i=0 then [] else [8900]) (tx (ts.getD i default)))):=fun i=>rfl
 have HA0:Hid (accT tx 8900 ts 0=[]):=rfl
 obtain ⟨R,hR⟩:∃ R,R=ts.all stB:=⟨_,rfl⟩
 have HR1:Hid (∀ i (hi:i < ts.length),stB ts[i]=false->R=false):=fun i hi h=>by rw [hR,List.all_eq_false];exact ⟨_,List.getElem_mem hi,by rw [h];simp⟩
 have HR2:Hid ((∀ i (hi:i < ts.length),stB ts[i]=true)->R=true):=fun h=>by
  rw [hR,List.all_eq_true]
  intro x hx
  obtain ⟨i,hi,rfl⟩:=List.getElem_of_mem hx
  exact h i hi
 rw [<- hR]
 have hba:=bel1 w0 (.cells #[.slice none 0 0] 86)
 have hw2:WSt (w0.alloc (.cells #[.slice none 0 0] 86)) w0.heap.size w0.heap.size (.slice none 0 0) [] :=
  ⟨Nat.le_refl _,heap_alloc_new w0 _,OwnR.nil _ _,by simp [Value.ownBlock]⟩
 have HST0:=Lib.hid (Stepped.start hba hw2)
 clear hn hk H hl hf hR hba hw2
 go_enter Tryz.func10,Tryz.ntmps10
 go_wp2
 generalize w0.alloc (.cells #[.slice none 0 0] 86)=WG at *
 go_loopw [10] (fun iv wr=>∃ (i:Nat),i<=n/\iv= .int .i64 (i:Int)/\Hid (Stepped w0 WG w0.heap.size (.slice none 0 0) (accT tx 8900 ts i) wr)/\Hid (∀ j (hj:j < ts.length),j < i->stB ts[j]=true)) (fun iv _=>n - (intOf iv).toNat)
 case atStart=>exact ⟨0,Nat.zero_le _,rfl,by unfold Hid;rw [HA0.out];exact HST0.out,fun j hj h=>absurd h (by omega)⟩
 case round =>
  obtain ⟨i,hi,rfl,hst,HAG⟩:=hrel
  by_cases him:i < n
  ·have hik:i < ts.length:=by have:=HN.out;omega
   obtain ⟨b,o,u0,u1,u2,u3,u4,u5,u6,rfl,hr,hce⟩:=HK.out.kid i hik
   have HSW0:∀ W,Below w0.heap.size w0 W->Calls Tryz.prog 36 #[.agg #[u0,u1,u2,u3,u4,u5,u6]] W fun e w'=>e= .returned (.bool (stB ts[i]))/\Below W.heap.size W w':=fun W h=>tstate_walk ts[i] _ _ _ _ _ _ _ W (HFT.out i hik) (TN.below h _ _ hr)
   obtain ⟨ua,B1,m1,d1,B2,m2,d2,B3,m3,d3,rfl,rfl,rfl,rfl,rfl,rfl,rfl,-,-⟩:=hr.vals
   have HSW:=Lib.hid HSW0
   clear HSW0
   have hgd:ts.getD i default=ts[i]:=by simp [List.getD,hik]
   have HE0:Hid (accT tx 8900 ts (i+1)=joinP (accT tx 8900 ts i) (joinP (if i=0 then [] else [8900]) (tx ts[i]))):=by unfold Hid;rw [HAT.out i,hgd]
   have HBL:Hid (Below w0.heap.size w0 wr):=by obtain ⟨_,_,_,h⟩:=hst.out;exact h
   have HNO:Hid (stB ts[i]=false->R=false):=HR1.out i hik
   have HYS:Hid (stB ts[i]=true->NodeP 38 w0 ts[i] (tx ts[i])):=HH.out i hik
   have HAY:Hid (stB ts[i]=true->∀ j (hj:j < ts.length),j < i+1->stB ts[j]=true):=fun h j hj hji=>by
    by_cases e:j=i
    ·subst e;exact h
    ·exact HAG.out j hj (by omega)
   have HLY:Hid (stB ts[i]=true->(accT tx 8900 ts (i+1)).length<=500000000000):=fun h=>HLN.out (i+1) (by omega) (HAY.out h)
   have HR:=Lib.hid hr
   generalize hsb:stB ts[i]=sb at HSW HNO HYS HAY HLY
   clear hsb
   generalize kindR ts[i]=uk at *
   generalize nameR ts[i]=un at *
   generalize charR ts[i]=uc at *
   have hd0:=hst.out.d9 [.int .i64 uk,.int .i64 ua,.slice B1 m1 d1,.slice B2 m2 d2,.string un,.int .i32 uc,.slice B3 m3 d3] 31
   obtain ⟨W1,hW1⟩:∃ W1,W1=wr.alloc (.cells #[.int .i64 uk,.int .i64 ua,.slice B1 m1 d1,.slice B2 m2 d2,.string un,.int .i32 uc,.slice B3 m3 d3] 31):=⟨_,rfl⟩
   have HW1:=Lib.hid hW1
   have HD0:Hid (D9 w0 w0.heap.size (.slice none 0 0) (accT tx 8900 ts i) WG wr.heap.size [.int .i64 uk,.int .i64 ua,.slice B1 m1 d1,.slice B2 m2 d2,.string un,.int .i32 uc,.slice B3 m3 d3] W1):=by unfold Hid;rw [hW1];exact hd0
   have HCE:=Lib.hid hce
   clear hr hce hgd hW1 hd0
   by_cases h0:i=0
   ·have HE:Hid (accT tx 8900 ts (i+1)=joinP (accT tx 8900 ts i) (tx ts[i])):=by unfold Hid;rw [HE0.out,if_pos h0,joinP_nil]
    have hce0:KidC w0 b o (.int .i64 uk) (.int .i64 ua) (.slice B1 m1 d1) (.slice B2 m2 d2) (.string un) (.int .i32 uc) (.slice B3 m3 d3):=by have h:=HCE.out;rw [h0] at h;simpa using h
    clear HE0
    obtain ⟨y0,y1,y2,y3,y4,y5,y6⟩:=kidC_of hce0 HBL.out
    go_upto_region 5 with fail
    rw [<- HW1.out]
    clear HW1 y0 y1 y2 y3 y4 y5 y6 hce0
    obtain ⟨x0,x1,x2,x3,x4,x5,x6⟩:=HD0.out.c7
    go_wp2_with fail
    (with_reducible refine (HSW.out _ HD0.out.bel).mono ?_)
    rintro e w1 ⟨rfl,hb⟩
    have HD1:=Lib.hid (HD0.out.bstep hb)
    clear hb x0 x1 x2 x3 x4 x5 x6
    obtain ⟨x0,x1,x2,x3,x4,x5,x6⟩:=HD1.out.c7
    cases sb with
    | false =>
     have HRF:Hid (R=false):=HNO.out rfl
     go_wp2
     go_ret
     exact ⟨.inr ⟨HRF.out,rfl⟩,HD1.out.bel⟩
    | true =>
     have HND:=Lib.hid (HYS.out rfl)
     have HLK:=Lib.hid (HLY.out rfl)
     have HAL:Hid (∀ j (hj:j < ts.length),j < i+1->stB ts[j]=true):=HAY.out rfl
     have HL0:Hid ((accT tx 8900 ts i).length+2*(tx ts[i]).length<=1099511627000):=by
      have h:=HLK.out
      rw [HE.out] at h
      have:=(joinP_len2 (accT tx 8900 ts i) (tx ts[i])).1
      unfold Hid;omega
     go_wp2_with fail
     (with_reducible refine (d9_node HND.out HR.out HD1.out HL0.out).mono ?_)
     rintro e w2 ⟨rfl,hd⟩
     have HF:Hid (Stepped w0 WG w0.heap.size (.slice none 0 0) (accT tx 8900 ts (i+1)) w2):=by
      unfold Hid;rw [HE.out];exact hd.stepped
     clear hd x0 x1 x2 x3 x4 x5 x6
     go_wp2
     go_roundw
     case rel=>exact ⟨i+1,by omega,by go_num,HF.out,HAL.out⟩
     case measure=>simp [intOf];omega
   ·have HE:Hid (accT tx 8900 ts (i+1)=joinP (accT tx 8900 ts i) (joinP [8900] (tx ts[i]))):=by unfold Hid;rw [HE0.out,if_neg h0]
    have hi0:0 < i:=by omega
    clear HE0
    obtain ⟨y0,y1,y2,y3,y4,y5,y6⟩:=kidC_of HCE.out HBL.out
    go_upto_region 5 with fail
    rw [<- HW1.out]
    clear HW1 y0 y1 y2 y3 y4 y5 y6
    obtain ⟨x0,x1,x2,x3,x4,x5,x6⟩:=HD0.out.c7
    go_wp2_with fail
    (with_reducible refine (HSW.out _ HD0.out.bel).mono ?_)
    rintro e w1 ⟨rfl,hb⟩
    have HD1:=Lib.hid (HD0.out.bstep hb)
    clear hb x0 x1 x2 x3 x4 x5 x6
    obtain ⟨x0,x1,x2,x3,x4,x5,x6⟩:=HD1.out.c7
    cases sb with
    | false =>
     have HRF:Hid (R=false):=HNO.out rfl
     go_wp2
     go_ret
     exact ⟨.inr ⟨HRF.out,rfl⟩,HD1.out.bel⟩
    | true =>
     have HND:=Lib.hid (HYS.out rfl)
     have HLK:=Lib.hid (HLY.out rfl)
     have HAL:Hid (∀ j (hj:j < ts.length),j < i+1->stB ts[j]=true):=HAY.out rfl
     have HL0:Hid ((accT tx 8900 ts i).length+1<=1099511627000/\(joinP (accT tx 8900 ts i) [8900]).length+2*(tx ts[i]).length<=1099511627000):=by
      have h:=HLK.out
      rw [HE.out,<- joinP_assoc] at h
      have h1:=(joinP_len2 (joinP (accT tx 8900 ts i) [8900]) (tx ts[i])).1
      have h2:=(joinP_len2 (accT tx 8900 ts i) [8900]).1
      unfold Hid;constructor <;> omega
     go_wp2_with fail
     (with_reducible refine (d9_put 8900 w1.heap.size rfl HD1.out HL0.out.1).mono ?_)
     rintro e w2 ⟨rfl,hd⟩
     have HD2:=Lib.hid hd
     clear hd x0 x1 x2 x3 x4 x5 x6
     obtain ⟨x0,x1,x2,x3,x4,x5,x6⟩:=HD2.out.c7
     go_wp2_with fail
     (with_reducible refine (d9_node HND.out HR.out HD2.out HL0.out.2).mono ?_)
     rintro e w3 ⟨rfl,hd⟩
     have HF:Hid (Stepped w0 WG w0.heap.size (.slice none 0 0) (accT tx 8900 ts (i+1)) w3):=by
      have h:=hd.stepped
      rw [joinP_assoc] at h
      unfold Hid;rw [HE.out];exact h
     clear hd x0 x1 x2 x3 x4 x5 x6
     go_wp2
     go_roundw
     case rel=>exact ⟨i+1,by omega,by go_num,HF.out,HAL.out⟩
     case measure=>simp [intOf];omega
  ·have hin:i=ts.length:=by have:=HN.out;omega
   have HRT:Hid (R=true):=HR2.out fun j hj=>HAG.out j hj (by omega)
   have hst1:Stepped w0 WG w0.heap.size (.slice none 0 0) (accT tx 8900 ts ts.length) wr:=by rw [<- hin];exact hst.out
   obtain ⟨v3,hw3,hg3,hb3⟩:=hst1
   have HRN:=Lib.hid hw3.own.runes
   have HB3:=Lib.hid hb3
   obtain ⟨hc3,hf3⟩:=hw3.cell
   obtain ⟨A',cv',hv'⟩:=hw3.own.len
   subst hv'
   clear hw3 hg3 hb3 hst hin
   generalize (accT tx 8900 ts ts.length).length=sl at *
   go_wp2
   go_ret
   exact ⟨.inl ⟨HRT.out,_,rfl,HRN.out⟩,HB3.out⟩
def NOwn (w W:World) (v:Value) (ts:List RTree):Prop:=KOwn (fun b=>v.ownBlock≠some b/\b < W.heap.size) W w.heap.size v ts
theorem NOwn.below {w W W':World}{v:Value}{ts:List RTree} (h:NOwn w W v ts) (hb:Below W.heap.size W W'):NOwn w W' v ts:=by
 obtain ⟨vss,hl,h7,hown,ht⟩:=h
 have hz:=hb.size
 exact ⟨vss,hl,h7,ownsRow_below2 hown hb,fun i h1 h2=>TNF.keep (fun b hF=>⟨hF.1,by have:=hF.2;omega⟩) (fun b hF=>hb.block b hF.2) _ _ (ht i h1 h2)⟩
theorem NOwn.kids {w W:World}{A:Option Addr}{n c:Nat}{ts:List RTree} (h:NOwn w W (.slice A n c) ts):KidsAt W A ts:=by
 by_cases hne:ts=[]
 ·subst hne;exact fun i hi=>absurd hi (by simp)
 ·obtain ⟨r,cc,e,_,_,_,hk⟩:=KOwn.tks h hne
  simp only [Value.slice.injEq] at e
  obtain ⟨rfl,rfl,rfl⟩:=e
  intro i hi
  obtain ⟨v0,v1,v2,v3,v4,v5,v6,c0,c1,c2,c3,c4,c5,c6,ht⟩:=TKs.at_ hi (TKsF.tks r 0 ts hk)
  refine ⟨r,0,v0,v1,v2,v3,v4,v5,v6,rfl,ht,fun w1 hb=>?_⟩
  have k:∀ {p:Addr} {v:Value},W.cell? p=some v->w1.cell? p=some v:=fun {p v} h=>by rw [hb.cell (cell_lt h)];exact h
  exact ⟨k c0,k c1,k c2,k c3,k c4,k c5,k c6⟩
theorem KOwn.len2 {F:Nat->Prop}{w:World}{B:Nat}{A:Option Addr}{n c:Nat}{kids:List RTree} (h:KOwn F w B (.slice A n c) kids):n=kids.length:=by
 obtain ⟨av,cv,e⟩:=KOwn.slice h
 simp only [Value.slice.injEq] at e
 exact e.2.1
theorem wpList_pushN {ops:Array Oper}{rest:List Oper}{o:Oper}{a:Act}{Q:Exit->Act->World->Prop}{w W:World} (hgd:o.guard=none) (s x:Operand)
  (ho:o.op= .call { callee := .builtin .append,args:=#[s,x],argTypes:=#[24,24]})
  (v:Value) (ts:List RTree) (hs:a.eval s=v) (hown:NOwn w W v ts) (z:Nat) (t:RTree) (u0 u1 u2 u3 u4 u5 u6:Value) (hvz:∀ b,v.ownBlock=some b->b < z) (ht:TNF (fun b=>(b < w.heap.size\/z<=b)/\b < W.heap.size) W t [u0,u1,u2,u3,u4,u5,u6])
  (h1:∀ u∈[u0,u1,u2,u3,u4,u5,u6],u.oneCell'=true) (hx:a.eval x= .slice (some ⟨W.heap.size,0,none⟩) 1 1) (hl:ts.length<=1048576) (hB:w.heap.size<=W.heap.size)
  (h:∀ A' n' c' w',NOwn w w' (.slice A' n' c') (ts++[t])->Below w.heap.size W w'->wpList Tryz.prog ops Q rest (a.put o.dst (.slice A' n' c')) w'):wpList Tryz.prog ops Q (o::rest) a (W.alloc (.cells #[u0,u1,u2,u3,u4,u5,u6] 31)):=by
 obtain ⟨vss,hvl,h7,hrow,hts⟩:=hown
 obtain ⟨i0,hi0,hz0,hz1,hz2⟩:=info_parts info_node
 refine wpList_append_own_at _ hgd s x 24 ho w.heap.size 31 i0 _ 7 112 Tryz.underlying24 hi0 hz0 hz1 hz2 rfl (by omega) v ts.length _ hs
  (World.ownsRow.alloc hrow _) ⟨W.heap.size,0,none⟩ 1 1 [u0,u1,u2,u3,u4,u5,u6] hx (by simp) ?_ h1 (by unfold maxLen;omega) (by omega) (by simp;omega) ?_
 ·intro j u hj
  have e:(⟨W.heap.size,0,none⟩:Addr).add j=⟨W.heap.size,j,none⟩:=by
   unfold Addr.add;split
   ·rename_i h0;rw [h0]
   ·simp
  rw [e,World.cell?_alloc_at _ _ _ _ rfl]
  simpa using hj
 intro v' w' hown' hg _ hat
 have hsz:W.heap.size+1<=w'.heap.size:=by have:=hg.size;simpa using this
 have keep:∀ b,v.ownBlock≠some b->b < W.heap.size->w'.heap[b]?=W.heap[b]?:=fun b hb hlt=>by
  rw [hg.block b (by simp;omega) (fun e=>hb e.symm)]
  exact (bel1 W _).block b hlt
 have hv':∀ b,b < W.heap.size->v.ownBlock≠some b->v'.ownBlock≠some b:=fun b hb hne e=>by
  rcases hat with h | h
  ·rw [h] at e;exact hne e
  ·rw [h] at e;simp at e;omega
 have hko:KOwn (fun b=>v'.ownBlock≠some b/\b < w'.heap.size) w' w.heap.size v' (ts++[t]):=by
  refine ⟨vss++[[u0,u1,u2,u3,u4,u5,u6]],by simp [hvl],?_,?_,fun i hi hi2=>?_⟩
  ·intro vs hvs
   rcases List.mem_append.1 hvs with h | h
   ·exact h7 vs h
   ·simp at h;subst h;rfl
  ·have e:(vss++[[u0,u1,u2,u3,u4,u5,u6]]).flatten=vss.flatten++[u0,u1,u2,u3,u4,u5,u6]:=by simp
   rw [e,List.length_append,List.length_singleton]
   exact hown'
  ·by_cases hlt:i < ts.length
   ·rw [List.getElem_append_left hlt,List.getElem_append_left (by omega)]
    exact TNF.keep (fun b hF=>⟨hv' b hF.2 hF.1,by have:=hF.2;omega⟩) (fun b hF=>keep b hF.1 hF.2) _ _ (hts i hlt (by omega))
   ·have hi3:i=ts.length:=by simp at hi;omega
    subst hi3
    have e1:(ts++[t])[ts.length]=t:=by simp
    have e2:(vss++[[u0,u1,u2,u3,u4,u5,u6]])[ts.length]'(by simp;omega)=[u0,u1,u2,u3,u4,u5,u6]:=by rw [List.getElem_append_right (by omega)];simp [hvl]
    rw [e1,e2]
    have hno:∀ b,((b < w.heap.size\/z<=b)/\b < W.heap.size)->v.ownBlock≠some b:=fun b hF e=>by
     have hlo:=(World.ownsRow.lt hrow b e).1
     have:=hvz b e
     rcases hF.1 with h | h <;> omega
    exact TNF.keep (fun b hF=>⟨hv' b hF.2 (hno b hF),by have:=hF.2;omega⟩) (fun b hF=>keep b (hno b hF) hF.2) _ _ ht
 obtain ⟨A',c',rfl⟩:=KOwn.slice hko
 exact h A' _ c' w' hko (((Below.refl _ W).alloc hB _).grown hg (by simp;omega) fun k hk=>(World.ownsRow.lt hrow k hk).1)
theorem gt_st {t:RTree} (hf:FitG t) (h:stB t=true):GT t:=by
 unfold stB at h
 simp only [Bool.and_eq_true,Bool.or_eq_true,decide_eq_true_eq] at h
 rcases h.1 with h0 | ⟨hk,h4⟩
 ·exact gt_of _ t 0 (by decide) (Nat.le_refl _) hf h0
 ·cases t with
  | mk k nums text name c kids =>
   have hk2:k=20:=hk
   subst hk2
   exact gt_of _ _ 3 (by decide) (Nat.le_refl _) hf (by rw [gd_3_20];exact h4)
theorem accT_lenK {tx:RTree->List Int}{bt:Int}{ts:List RTree}:∀ i,i<=ts.length->(∀ j (hj:j < ts.length),j < i->(tx ts[j]).length+20<=100*measR ts[j])->(accT tx bt ts i).length<=100*measRs (ts.take i)
 | 0,_,_=>by simp [accT]
 | i+1,hi,h=>by
  have h1:=accT_lenK (tx:=tx) (bt:=bt) i (by omega) fun j hj hji=>h j hj (by omega)
  have h2:=h i (by omega) (by omega)
  have hgd:ts.getD i default=ts[i]:=by simp [List.getD,show i < ts.length by omega]
  rw [measRs_take ts i (by omega)]
  have e:accT tx bt ts (i+1)=joinP (accT tx bt ts i) (joinP (if i=0 then [] else [bt]) (tx (ts.getD i default))):=rfl
  rw [e,hgd]
  have j1:=(joinP_len (accT tx bt ts i) (joinP (if i=0 then [] else [bt]) (tx ts[i]))).2
  have j2:=(joinP_len (if i=0 then [] else [bt]) (tx ts[i])).2
  have j3:(if i=0 then ([]:List Int) else [bt]).length<=1:=by split <;> simp
  omega
theorem measRs_le:∀ (ts:List RTree) (i:Nat),measRs (ts.take i)<=measRs ts
 | [],i=>by simp
 | t::ts,0=>by simp [measRs]
 | t::ts,i+1=>by have:=measRs_le ts i;simp only [List.take_succ_cons,measRs];omega
theorem scripts_walk (ts:List RTree) (A:Option Addr) (n cc:Nat) (w:World) (hn:n=ts.length) (hM:measRs ts<=1048576) (hf:∀ i (hi:i < ts.length),FitG ts[i]) (hT:TzTab w) (hk:KidR w A ts) :
  Calls Tryz.prog 3 #[.slice A n cc] w fun e w'=>e= .returned (.bool true)/\Below w.heap.size w w':=by
 have hlen:ts.length<=1048576:=by have:=sizeRs_len ts;have:=size_measS ts;omega
 obtain ⟨N,hN⟩:∃ N,N=sizeRs ts:=⟨_,rfl⟩
 have hsz:∀ i (hi:i < ts.length),sizeR ts[i]<=N:=fun i hi=>by rw [hN];exact sizeRs_at hi
 have hs1:∀ i (hi:i < ts.length),sizeR ts[i]<=1048576:=fun i hi=>by have:=size_meas ts[i];have:=measRs_at hi;omega
 have hme:∀ i (hi:i < ts.length),measR ts[i]<=1048576:=fun i hi=>by have:=measRs_at hi;omega
 have hlk:∀ k,k<=ts.length->(∀ j (hj:j < ts.length),j < k->stB ts[j]=true)->(accT (txF N) 8900 ts k).length<=500000000000:=fun k hk h=>by
  have h1:=accT_lenK (tx:=txF N) (bt:=8900) (ts:=ts) k hk fun j hj hjk=>tx_len N _ (gt_st (hf j hj) (h j hj hjk))
  have:=measRs_le ts k
  omega
 have HSM:=Lib.hid (fun i (hi:i < ts.length) W (hb:Below w.heap.size w W) v0 v1 v2 v3 v4 v5 (hr:RN w ts[i] [v0,v1,v2,v3,v4,v5])=>small_R ts[i] v0 v1 v2 v3 v4 v5 W (hs1 i hi) (hr.below hb))
 have HOF:=Lib.hid (fun i (hi:i < ts.length) W (hb:Below w.heap.size w W) v0 v1 v2 v3 v4 v5 (hr:RN w ts[i] [v0,v1,v2,v3,v4,v5])=>of_walk w (sizeR ts[i]) ts[i] v0 v1 v2 v3 v4 v5 W (Nat.le_refl _) (hs1 i hi) hr hb)
 have HST:=Lib.hid (fun i (hi:i < ts.length) W (hb:Below w.heap.size w W) v0 v1 v2 v3 v4 v5 (hr:RN w ts[i] [v0,v1,v2,v3,v4,v5])=>rstate_walk ts[i] v0 v1 v2 v3 v4 v5 W (hs1 i hi) (hf i hi) (hr.below hb))
 have HTS:Hid (∀ W A' c',Below w.heap.size w W->NOwn w W (.slice A' n c') ts->Calls Tryz.prog 10 #[.slice A' n c'] W fun e w'=>(ts.all stB=true/\(∃ v,e= .returned v/\Runes w' v (accT (txF N) 8900 ts ts.length))\/ts.all stB=false/\e= .returned (.slice none 0 0))/\Below W.heap.size W w'):=fun W A' c' hb ho =>
  tscript_walk W (txF N) ts A' n c' hn (by omega) ho.kids hf (fun i hi h=>node_text W (hT.below hb) N ts[i] (gt_st (hf i hi) h) (hsz i hi)) hlk
 have HRS:Hid (ts.all stB=true->∀ q W,w.heap.size<=q->Below w.heap.size w W->LoA W q->Calls Tryz.prog 12 #[.slice A n cc,.pointer (some ⟨q,0,none⟩)] W (RtQ q W (accT (txF N) 8900 ts ts.length))):=fun h q W hq hb hL=>by
  have hall:∀ i (hi:i < ts.length),stB ts[i]=true:=fun i hi=>List.all_eq_true.1 h _ (List.getElem_mem hi)
  exact rscript_any w q hq (txF N) ts A n cc hn (by omega) hk (fun i hi=>text_text w q hq N ts[i] (gt_st (hf i hi) (hall i hi)) (hsz i hi) (hme i hi)) (by have:=hlk ts.length (Nat.le_refl _) (fun j hj _=>hall j hj);omega) W hb hL
 have HLL:Hid (ts.all stB=true->(accT (txF N) 8900 ts ts.length).length<=1099511627776):=fun h=>by
  have:=hlk ts.length (Nat.le_refl _) (fun j hj _=>List.all_eq_true.1 h _ (List.getElem_mem hj));omega
 have HAW:=Lib.hid (fun W=>awake31_walk W)
 have HK:=Lib.hid hk
 have HN:=Lib.hid hn
 have hn3:n<=1048576:=by have:=sizeRs_len ts;have:=size_measS ts;omega
 have HALL:Hid (∀ i (hi:i < ts.length),(ts.take (i+1)).all stB=((ts.take i).all stB&&stB ts[i])):=fun i hi=>by rw [List.take_succ_eq_append_getElem hi,List.all_append];simp
 have HTK:Hid (∀ i (hi:i < ts.length),ts.take (i+1)=ts.take i++[ts[i]]):=fun i hi=>List.take_succ_eq_append_getElem hi
 have HTA:Hid (ts.take n=ts):=by unfold Hid;rw [hn,List.take_length]
 generalize accT (txF N) 8900 ts ts.length=tot at *
 clear hk hn hM hf hT hlk hsz hs1 hme hN
 by_cases h6:6 < n
 ·have h6i:(6:Int) < (n:Int):=by omega
  go_enter Tryz.func3,Tryz.ntmps3
  go_wp2_with fail
  (with_reducible refine (HAW.out _).mono ?_)
  rintro e w1 ⟨rfl,hb⟩
  have HB1:=Lib.hid hb
  clear hb
  go_wp2
  go_ret
  exact ⟨rfl,HB1.out⟩
 ·have h6i:¬ (6:Int) < (n:Int):=by omega
  have HO0:Hid (NOwn w w (.slice none 0 0) (ts.take 0)):=KOwn.nil _ _ _
  go_enter Tryz.func3,Tryz.ntmps3
  go_wp2
  go_loopw [3,4,5] (fun ov gv iv wr=>∃ (i:Nat) (g:Bool) (A':Option Addr) (c':Nat),i<=n/\iv= .int .i64 (i:Int)/\gv= .bool g/\ov= .slice A' i c'/\Hid (NOwn w wr (.slice A' i c') (ts.take i))/\Hid (g=(ts.take i).all stB)/\Hid (Below w.heap.size w wr)) (fun _ _ iv _=>n - (intOf iv).toNat)
  case atStart=>exact ⟨0,true,none,0,Nat.zero_le _,rfl,rfl,rfl,HO0.out,rfl,Below.refl _ _⟩
  case round =>
   obtain ⟨i,g,A',c',hi,rfl,rfl,rfl,HO,HG,HB⟩:=hrel
   by_cases him:i < n
   ·have hik:i < ts.length:=by have:=HN.out;omega
    obtain ⟨b,o,u0,u1,u2,u3,u4,u5,rfl,hr,hce⟩:=HK.out.kid i hik
    have HCE:=Lib.hid hce
    have hsm:=HSM.out i hik wr HB.out u0 u1 u2 u3 u4 u5 hr
    have HS0:=Lib.hid hsm
    have HOW:=Lib.hid (fun W hb=>HOF.out i hik W hb u0 u1 u2 u3 u4 u5 hr)
    have HSW:=Lib.hid (fun W hb=>HST.out i hik W hb u0 u1 u2 u3 u4 u5 hr)
    have HAL:=Lib.hid (HALL.out i hik)
    have HTI:=Lib.hid (HTK.out i hik)
    have HLN9:Hid ((ts.take i++[ts[i]]).length=i+1):=by unfold Hid;rw [List.length_append,List.length_take,List.length_singleton,Nat.min_eq_left (by omega)]
    clear hr hce hsm
    obtain ⟨y0,y1,y2,y3,y4,y5⟩:=HCE.out wr HB.out
    go_wp2_with fail
    (with_reducible refine HS0.out.mono ?_)
    rintro e w1 ⟨⟨sm,rfl⟩,hb⟩
    have HB1:=Lib.hid (HB.out.trans (hb.mono HB.out.size))
    have HO1:=Lib.hid (HO.out.below hb)
    clear hb HS0 y0 y1 y2 y3 y4 y5
    cases sm with
    | false =>
     go_wp2_with fail
     (with_reducible refine (HAW.out _).mono ?_)
     rintro e w2 ⟨rfl,hb⟩
     have HB2:=Lib.hid (HB1.out.trans (hb.mono HB1.out.size))
     clear hb
     go_wp2
     go_ret
     exact ⟨rfl,HB2.out⟩
    | true =>
     obtain ⟨y0,y1,y2,y3,y4,y5⟩:=HCE.out w1 HB1.out
     go_wp2_with fail
     (with_reducible refine (HOW.out _ HB1.out).mono ?_)
     rintro e w2 ⟨⟨k',a',cx,nm',E1,E2,E3,p1,q1,p2,q2,p3,q3,rfl,hta⟩,hb⟩
     have HB2:=Lib.hid (HB1.out.trans (hb.mono HB1.out.size))
     have HO2:=Lib.hid (HO1.out.below hb)
     have HTA2:=Lib.hid hta
     have HVZ:Hid (∀ b,(Value.slice A' i c').ownBlock=some b->b < w1.heap.size):=fun b e=>by
      obtain ⟨vss,_,_,hrow,_⟩:=HO1.out
      exact (World.ownsRow.lt hrow b e).2
     have HLT:Hid ((ts.take i).length<=1048576):=by unfold Hid;rw [List.length_take];omega
     have hone:∀ u∈[Value.int .i64 k',.int .i64 a',.slice E1 p1 q1,.slice E2 p2 q2,.string nm',.int .i32 cx,.slice E3 p3 q3],u.oneCell'=true:=by simp [Value.oneCell']
     have HONE:=Lib.hid hone
     clear hb hta hone y0 y1 y2 y3 y4 y5
     cases g with
     | false =>
      go_wp2_with (at_builtin;refine wpList_pushN rfl (.tmp 24) (.tmp 30) rfl _ (ts.take i) rfl HO2.out w1.heap.size ts[i] _ _ _ _ _ _ _ HVZ.out HTA2.out HONE.out rfl HLT.out HB2.out.size ?_;intro A3 n3 c3 w3 ho3 hb3;have hn3':=KOwn.len2 ho3;rw [<- HTI.out] at ho3;have HO3:=Lib.hid ho3;have HB3:=Lib.hid (HB2.out.trans hb3);have hn4:n3=i+1:=hn3'.trans HLN9.out;subst hn4;clear ho3 hb3 hn3';obtain ⟨y0,y1,y2,y3,y4,y5⟩:=HCE.out w3 HB3.out)
      have HGF:Hid (false=(ts.take (i+1)).all stB):=by unfold Hid;rw [HAL.out,<- HG.out];rfl
      go_wp2
      go_roundw
      case rel=>exact ⟨i+1,false,A3,c3,by omega,by go_num,rfl,rfl,HO3.out,HGF.out,HB3.out⟩
      case measure=>simp [intOf];omega
     | true =>
      go_wp2_with (at_builtin;refine wpList_pushN rfl (.tmp 24) (.tmp 30) rfl _ (ts.take i) rfl HO2.out w1.heap.size ts[i] _ _ _ _ _ _ _ HVZ.out HTA2.out HONE.out rfl HLT.out HB2.out.size ?_;intro A3 n3 c3 w3 ho3 hb3;have hn3':=KOwn.len2 ho3;rw [<- HTI.out] at ho3;have HO3:=Lib.hid ho3;have HB3:=Lib.hid (HB2.out.trans hb3);have hn4:n3=i+1:=hn3'.trans HLN9.out;subst hn4;clear ho3 hb3 hn3';obtain ⟨y0,y1,y2,y3,y4,y5⟩:=HCE.out w3 HB3.out)
      (with_reducible refine (HSW.out _ HB3.out).mono ?_)
      rintro e w4 ⟨rfl,hb⟩
      have HB4:=Lib.hid (HB3.out.trans (hb.mono HB3.out.size))
      have HO4:=Lib.hid (HO3.out.below hb)
      have HGT:Hid (stB ts[i]=(ts.take (i+1)).all stB):=by unfold Hid;rw [HAL.out,<- HG.out];rfl
      clear hb y0 y1 y2 y3 y4 y5
      generalize stB ts[i]=sb at *
      go_wp2
      go_roundw
      case rel=>exact ⟨i+1,sb,A3,c3,by omega,by go_num,rfl,rfl,HO4.out,HGT.out,HB4.out⟩
      case measure=>simp [intOf];omega
   ·obtain rfl:i=n:=by omega
    have HO9:Hid (NOwn w wr (.slice A' i c') ts):=by unfold Hid;rw [<- HTA.out];exact HO.out
    have HG9:Hid (g=ts.all stB):=by unfold Hid;rw [HG.out,HTA.out]
    have HSC:=Lib.hid (HTS.out wr A' c' HB.out HO9.out)
    rw [<- HG9.out] at HSC HRS HLL
    clear HO HG HO9 HG9
    cases g with
    | false =>
     go_wp2_with fail
     (with_reducible refine HSC.out.mono ?_)
     rintro e w1 ⟨⟨h,_⟩ | ⟨_,rfl⟩,hb⟩
     ·cases h
     have HB1:=Lib.hid (HB.out.trans (hb.mono HB.out.size))
     clear hb
     go_wp2_with fail
     (with_reducible refine (HAW.out _).mono ?_)
     rintro e w2 ⟨rfl,hb⟩
     have HB2:=Lib.hid (HB1.out.trans (hb.mono HB1.out.size))
     clear hb
     go_wp2
     go_ret
     exact ⟨rfl,HB2.out⟩
    | true =>
     have HRS1:=Lib.hid (HRS.out rfl)
     have HLE:=Lib.hid (HLL.out rfl)
     go_wp2_with fail
     (with_reducible refine HSC.out.mono ?_)
     rintro e w1 ⟨⟨_,v,rfl,hrn⟩ | ⟨h,_⟩,hb⟩
     case inr=>cases h
     have HB1:=Lib.hid (HB.out.trans (hb.mono HB.out.size))
     have hlo:LoA (w1.alloc (.cells #[.slice none 0 0,.slice none 0 0,.int .i64 0] 39)) w1.heap.size:=⟨0,heap_alloc_new w1 _⟩
     have hb2:=bel1 w1 (.cells #[.slice none 0 0,.slice none 0 0,.int .i64 0] 39)
     have HRC:=Lib.hid (HRS1.out w1.heap.size _ HB1.out.size (HB1.out.trans (hb2.mono HB1.out.size)) hlo)
     have HRN:=Lib.hid hrn
     have HB2:=Lib.hid hb2
     obtain ⟨V1,V2,V3,rfl,-,-⟩:=runes_opn hrn
     clear hrn hb hlo hb2 HSC HRS HLL HRS1
     go_wp2_with fail
     (with_reducible refine HRC.out.mono ?_)
     rintro e w3 ⟨A7,n7,c7,rfl,hr7,hq7,hl7⟩
     have hb3:Below w1.heap.size w1 w3:=HB2.out.trans (hq7.below HB2.out.size (Nat.le_refl _))
     have HB3:=Lib.hid (HB1.out.trans (hb3.mono HB1.out.size))
     have heq:=runesEq_walk _ _ tot tot w3 (HRN.out.below hb3) (hr7.runes (c:=c7)) HLE.out HLE.out
     rw [decide_eq_true (rfl:tot=tot)] at heq
     have HEQ:=Lib.hid heq
     clear hr7 hq7 hl7 hb3 HRC heq
     go_wp2_with fail
     (with_reducible refine HEQ.out.mono ?_)
     rintro e w4 ⟨rfl,hb⟩
     have HB4:=Lib.hid (HB3.out.trans (hb.mono HB3.out.size))
     clear hb HEQ
     go_wp2_with fail
     (with_reducible refine (HAW.out _).mono ?_)
     rintro e w5 ⟨rfl,hb⟩
     have HB5:=Lib.hid (HB4.out.trans (hb.mono HB4.out.size))
     clear hb
     go_wp2
     go_ret
     exact ⟨rfl,HB5.out⟩
end Go.Proofs.YtbakjaliponbbaaGreatDoor
