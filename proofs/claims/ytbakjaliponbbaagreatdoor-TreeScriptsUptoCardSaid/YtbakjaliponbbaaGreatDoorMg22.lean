/- Rows of texts; the reference's round and list. Printed by .. Conditions: as each theorem says. -/
import Derived.Test.YtbakjaliponbbaaGreatDoorMg21
import Derived.Test.YtbakjaliponbbaaGreatDoorMg13
set_option maxRecDepth 100000
set_option maxHeartbeats 3200000
namespace Go.Proofs.YtbakjaliponbbaaGreatDoor
open Go Go.RowKit Go.Proofs Fl
abbrev slV (r:Option Addr×Nat×Nat):Value := .slice r.1 r.2.1 r.2.2
def OwnS (q:Nat) (W:World) (B:Nat) (v:Value) (ss:List (List Int)):Prop :=
 ∃ rows:List (Option Addr×Nat×Nat),Own1 W B 27 v (rows.map slV)/\rows.length=ss.length/\∀ i (h:i < rows.length) (h2:i < ss.length),RunQ (fun b=>b≠q/\v.ownBlock≠some b) W rows[i].1 rows[i].2.1 ss[i]
theorem OwnS.nil (q:Nat) (W:World) (B:Nat):OwnS q W B (.slice none 0 0) []:=⟨[],Own1.nil _ _ _,rfl,fun i h=>absurd h (by simp)⟩
theorem LoA.belowB {W W':World}{q B:Nat} (h:LoA W q) (hq:q < B) (hb:Below B W W'):LoA W' q:=by
 obtain ⟨a,h⟩:=h
 exact ⟨a,by rw [hb.block q hq];exact h⟩
theorem Lq.trans4 {q:Nat}{a b c:World} (h:Lq q a b) (k:Below a.heap.size b c):Lq q a c :=
 ⟨k.os.trans h.os,k.tape.trans h.tape,k.output.trans h.output,Nat.le_trans h.size k.size,fun x hx hn=>by rw [k.block x hx,h.block x hx hn]⟩
theorem Own1.lq {q B:Nat}{w w':World}{e:TypeId}{v:Value}{xs:List Value} (h:Own1 w B e v xs) (hq:q < B) (k:Lq q w w'):Own1 w' B e v xs:=by
 refine ⟨h.1,?_⟩
 rcases h.2 with h2 | ⟨g,cap,cur,hv,hbg,hg,r⟩
 ·exact .inl h2
 ·refine .inr ⟨g,cap,cur,hv,hbg,?_,r⟩
  have hlt:g < w.heap.size:=by
   rcases Nat.lt_or_ge g w.heap.size with hlt | hge
   ·exact hlt
   ·rw [Array.getElem?_eq_none hge] at hg;cases hg
  rw [k.block g hlt (by omega)];exact hg
theorem OwnS.lq {q B:Nat}{w w':World}{v:Value}{ss:List (List Int)} (h:OwnS q w B v ss) (hq:q < B) (k:Lq q w w'):OwnS q w' B v ss:=by
 obtain ⟨rows,h1,h2,h3⟩:=h
 exact ⟨rows,h1.lq hq k,h2,fun i h h'=>(h3 i h h').keep fun b hb hl=>k.block b hl hb.1⟩
theorem OwnS.rows {q B n c:Nat}{w:World}{A:Option Addr}{ss:List (List Int)} (h:OwnS q w B (.slice A n c) ss):RowsQ w A n ss:=by
 obtain ⟨rows,h1,h2,h3⟩:=h
 have hr:=h1.reads
 rcases hr with ⟨a,c',e,hx⟩ | ⟨b,o,n',c',e,hn,hc⟩
 ·simp only [Value.slice.injEq] at e
  have:rows=[]:=by simpa using hx
  subst this
  have hs:ss=[]:=List.eq_nil_of_length_eq_zero (by simpa using h2.symm)
  subst hs
  exact ⟨e.2.1,fun i hi=>absurd hi (by simp)⟩
 ·simp only [Value.slice.injEq] at e
  obtain ⟨rfl,rfl,rfl⟩:=e
  refine ⟨by rw [hn,List.length_map,h2],fun i hi=>?_⟩
  have hc2:=hc i (by rw [List.length_map,h2];exact hi)
  rw [List.getElem_map] at hc2
  exact ⟨b,o,_,_,_,rfl,hc2,(h3 i (by omega) hi).imp fun _ _ _=>trivial⟩
theorem info_sl:(Tryz.prog.info? 27).map (fun i=>(i.zero,i.size,i.bytes))=some (some (.slice none 0 0),1,24):=by kernel_rfl
theorem wpList_pushS {ops:Array Oper}{rest:List Oper}{o:Oper}{a:Act}{Q:Exit->Act->World->Prop}{w:World} (hgd:o.guard=none) (s x:Operand)
  (ho:o.op= .call { callee := .builtin .append,args:=#[s,x],argTypes:=#[89,89]})
  (q B:Nat) (v:Value) (ss:List (List Int)) (hs:a.eval s=v) (hown:OwnS q w B v ss) (A:Option Addr) (n c:Nat) (t:List Int) (hr:RunQ (fun b=>b≠q/\v.ownBlock≠some b) w A n t)
  (hx:a.eval x= .slice (some ⟨w.heap.size,0,none⟩) 1 1) (hl:ss.length<=4194303) (hB:B<=w.heap.size)
  (h:∀ A' n' c' w',OwnS q w' B (.slice A' n' c') (ss++[t])->Below B w w'->wpList Tryz.prog ops Q rest (a.put o.dst (.slice A' n' c')) w'):wpList Tryz.prog ops Q (o::rest) a (w.alloc (.cells #[.slice A n c] 27)):=by
 obtain ⟨rows,h1,h2,h3⟩:=hown
 obtain ⟨i0,hi0,hz0,hz1,hz2⟩:=info_parts info_sl
 refine wpList_append_own_at _ hgd s x 89 ho B 27 i0 _ 1 24 Tryz.underlying89 hi0 hz0 hz1 hz2 rfl (by omega) v (rows.map slV).length _ hs
  (World.ownsRow.alloc h1 _) ⟨w.heap.size,0,none⟩ 1 1 [.slice A n c] hx rfl (cell_one_new w _ _) (by simp [Value.oneCell']) (by unfold maxLen;rw [List.length_map];omega) (by rw [List.length_map];omega) (by simp;omega) ?_
 intro v' w' hown' hg _ hat
 have hsz:w.heap.size+1<=w'.heap.size:=by have:=hg.size;simpa using this
 have keep:∀ b,b≠q/\v.ownBlock≠some b->b < w.heap.size->w'.heap[b]?=w.heap[b]?:=fun b hb hlt=>by
  rw [hg.block b (by simp;omega) (fun e=>hb.2 e.symm)]
  exact (bel1 w _).block b hlt
 have hv':∀ b,b < w.heap.size->v.ownBlock≠some b->v'.ownBlock≠some b:=fun b hb hne e=>by
  rcases hat with h | h
  ·rw [h] at e;exact hne e
  ·rw [h] at e
   simp at e
   omega
 have ho2:Own1 w' B 27 v' ((rows++[(A,n,c)]).map slV):=by
  unfold Own1
  rw [List.length_map,List.length_append,List.map_append]
  rw [List.length_map] at hown'
  exact hown'
 obtain ⟨A',c',rfl⟩:=Reads1.len ho2.reads
 refine h A' _ c' w' ⟨rows++[(A,n,c)],ho2,by simp [h2],fun i hi hi2=>?_⟩ ?_
 ·have hF:∀ (F:Nat->Prop) (A0:Option Addr) (n0:Nat) (t0:List Int),RunQ (fun b=>b≠q/\v.ownBlock≠some b) w A0 n0 t0->RunQ (fun b=>b≠q/\(Value.slice A' (((rows++[(A,n,c)]).map slV).length) c').ownBlock≠some b) w' A0 n0 t0:=fun _ A0 n0 t0 h=>(h.imp (F':=fun b=>(b≠q/\v.ownBlock≠some b)/\(Value.slice A' (((rows++[(A,n,c)]).map slV).length) c').ownBlock≠some b) fun b hb hlt=>⟨hb,hv' b hlt hb.2⟩).keep (fun b hb hlt=>keep b hb.1 hlt) |>.imp fun b hb _=>⟨hb.1.1,hb.2⟩
  by_cases hlt:i < rows.length
  ·rw [List.getElem_append_left hlt,List.getElem_append_left (by omega)]
   exact hF (fun _=>True) _ _ _ (h3 i hlt (by omega))
  ·have hi3:i=rows.length:=by simp at hi;omega
   subst hi3
   have e1:(rows++[(A,n,c)])[rows.length]=(A,n,c):=by simp
   have e2:(ss++[t])[rows.length]'(by simp;omega)=t:=by rw [List.getElem_append_right (by omega)];simp
   rw [e1,e2]
   exact hF (fun _=>True) _ _ _ hr
 ·exact ((Below.refl B w).alloc hB _).grown hg (by simp;omega) fun k hk=>(World.ownsRow.lt h1 k hk).1
theorem ownS_one {q B:Nat}{w:World}{A:Option Addr}{n c:Nat}{t:List Int} (hr:RunQ (fun b=>b≠q) w A n t) (hB:B<=w.heap.size):OwnS q (w.alloc (.cells #[.slice A n c] 27)) B (.slice (some ⟨w.heap.size,0,none⟩) 1 1) [t]:=by
 refine ⟨[(A,n,c)],⟨by simp,.inr ⟨w.heap.size,1,#[.slice A n c],rfl,hB,heap_alloc_new w _,Nat.le_refl _,by unfold maxLen;omega,by simp,by simp⟩⟩,rfl,fun i hi hi2=>?_⟩
 have hi3:i=0:=by simp at hi;omega
 subst hi3
 exact (hr.imp (F':=fun b=>b≠q/\(Value.slice (some ⟨w.heap.size,0,none⟩) 1 1).ownBlock≠some b) fun b hb hlt=>⟨hb,by simp [Value.ownBlock];omega⟩).below (bel1 w _)
theorem RtQ.own {q:Nat}{W w':World}{s:List Int}{A:Option Addr}{n:Nat}{v:Value}{B:Nat}{ss:List (List Int)} (hr:RunQ (fun b=>W.heap.size<=b) w' A n s) (hL:LoA W q) (ho:OwnS q W B v ss):RunQ (fun b=>b≠q/\v.ownBlock≠some b) w' A n s:=by
 obtain ⟨rows,h1,_⟩:=ho
 exact hr.imp fun b hb _=>⟨by have:=hL.lt;omega,fun e=>by have:=(World.ownsRow.lt h1 b e).2;omega⟩
theorem accJ_take (ss:List (List Int)) (t:List Int):∀ i,i<=ss.length->accJ (ss++[t]) i=accJ ss i
 | 0,_=>rfl
 | i+1,h=>by
  rw [accJ,accJ,accJ_take ss t i (by omega)]
  simp [List.getD,List.getElem?_append_left (show i < ss.length by omega)]
theorem accJ_snoc (ss:List (List Int)) (t:List Int):accJ (ss++[t]) (ss++[t]).length=joinP (accJ ss ss.length) t:=by
 rw [List.length_append,List.length_singleton]
 show joinP (accJ (ss++[t]) ss.length) ((ss++[t]).getD ss.length [])=_
 rw [accJ_take ss t _ (Nat.le_refl _)]
 simp [List.getD]
theorem accJ2 (a b:List Int):accJ [a,b] [a,b].length=joinP a b:=by
 show joinP (joinP [] a) b=_
 rw [joinP_nil]
theorem accJ3 (a b c:List Int):accJ [a,b,c] [a,b,c].length=joinP a (joinP b c):=by
 show joinP (joinP (joinP [] a) b) c=_
 rw [joinP_nil,joinP_assoc]
theorem accJ4 (a b c d:List Int):accJ [a,b,c,d] [a,b,c,d].length=joinP a (joinP b (joinP c d)):=by
 show joinP (joinP (joinP (joinP [] a) b) c) d=_
 rw [joinP_nil,joinP_assoc,joinP_assoc]
theorem round_any (w0:World) (q:Nat) (hq:w0.heap.size<=q) (t:RTree) (s:List Int) (must:Bool) (H:Hid (TextP 40 w0 q t s)) (hl:(wrapT (!must) s).length<=1099511627000):∀ v0 v1 v2 v3 v4 v5 W,RN w0 t [v0,v1,v2,v3,v4,v5]->Below w0.heap.size w0 W->LoA W q ->
  Calls Tryz.prog 83 #[.agg #[v0,v1,v2,v3,v4,v5],.bool must,.pointer (some ⟨q,0,none⟩)] W (RtQ q W (wrapT (!must) s)):=by
 intro v0 v1 v2 v3 v4 v5 W hr hb hL
 obtain ⟨B1,m1,d1,B2,m2,d2,B3,m3,d3,rfl,rfl,rfl,rfl,rfl,rfl,-,-⟩:=hr.vals
 have HR:=Lib.hid hr
 generalize kindR t=uk at *
 generalize nameR t=un at *
 generalize charR t=uc at *
 have HX0:=Lib.hid (RSt.start hb hL [.int .i64 uk,.slice B1 m1 d1,.slice B2 m2 d2,.string un,.int .i32 uc,.slice B3 m3 d3] 29)
 have HQ:=Lib.hid hq
 have HQL:=Lib.hid hL.lt
 have HLL:=Lib.hid hl
 clear hr hb hL hl
 cases must
 all_goals
  go_enter Tryz.func83,Tryz.ntmps83
  obtain ⟨a,z0,z1,z2,zf⟩:=HX0.out.lo.cells
  have zf2:=zf 2
  go_upto_region 2 with fail
  clear z0 z1 z2 zf2 zf
  generalize W.alloc (.cells #[.int .i64 uk,.slice B1 m1 d1,.slice B2 m2 d2,.string un,.int .i32 uc,.slice B3 m3 d3] 29)=W1 at *
  obtain ⟨W2,hW2⟩:∃ W2,W2=W1.setCell ⟨q,2,none⟩ (.int .i64 (wrap64 (a+1))):=⟨_,rfl⟩
  rw [<- hW2]
  have HX2:Hid (RSt w0 q W.heap.size [.int .i64 uk,.slice B1 m1 d1,.slice B2 m2 d2,.string un,.int .i32 uc,.slice B3 m3 d3] W W2):=by unfold Hid;rw [hW2];exact HX0.out.step HQ.out (Lq.set _ _ _ _) (HX0.out.lo.put _)
  have HT:=Lib.hid (H.out _ _ _ _ _ _ W2 HR.out HX2.out.bel HX2.out.lo)
  obtain ⟨y0,y1,y2,y3,y4,y5⟩:=HX2.out.c6
  clear hW2 HX0
  go_wp2_with fail
  (with_reducible refine HT.out.mono ?_)
  rintro e w3 ⟨A,n,c,rfl,hr3,hq3,hl3⟩
  have HQ3:=Lib.hid (HX2.out.lq.trans hq3)
  have HR3:Hid (RunQ (fun b=>W.heap.size<=b) w3 A n s):=hr3.imp fun b hb _=>by have:=HX2.out.lq.size;omega
  have HL3:=Lib.hid hl3
  obtain ⟨a3,z0,z1,z2,zf⟩:=HL3.out.cells
  have HTK:=Lib.hid (fun x W=>take_same x W)
  clear hr3 hq3 hl3 HT y0 y1 y2 y3 y4 y5 zf HX2
  go_wp2_with fail
 ·go_quiet (first | (go_at_call 89;refine Calls.quiet_of_same (HTK.out _ _)))
  rename_i nq
  have HQ4:=Lib.hid (HQ3.out.trans (.of (Below.drewN2 (Below.refl _ w3) nq)))
  have HR4:=Lib.hid (HR3.out.below (Below.drewN2 (Below.refl _ w3) nq))
  have HL4:=Lib.hid (HL3.out.below (Below.drewN2 (Below.refl _ w3) nq))
  clear z0 z1 z2
  generalize w3.drewN nq=w4 at *
  go_wp2
  go_ret
  exact ⟨A,n,c,rfl,HR4.out,HQ4.out,HL4.out⟩
 ·go_quiet (first | (go_at_call 89;refine Calls.quiet_of_same (HTK.out _ _)))
  rename_i nq
  have HQ4:=Lib.hid (HQ3.out.trans (.of (Below.drewN2 (Below.refl _ w3) nq)))
  have HR4:Hid (RunQ (fun b=>b≠q) (w3.drewN nq) A n s):=(HR3.out.below (Below.drewN2 (Below.refl _ w3) nq)).imp fun b hb _=>by have:=HQL.out;omega
  have HL4:=Lib.hid (HL3.out.below (Below.drewN2 (Below.refl _ w3) nq))
  clear z0 z1 z2
  generalize w3.drewN nq=w4 at *
  go_wp2_with fail
  (with_reducible refine (one_q 40 _ HL4.out).mono ?_)
  rintro e w5 ⟨A5,n5,c5,rfl,hr5,hq5,hl5⟩
  have HR5:=Lib.hid hr5
  have HRa:=Lib.hid (HR4.out.lq hq5)
  have HQ5:=Lib.hid (HQ4.out.trans hq5)
  have HL5:=Lib.hid hl5
  clear hr5 hq5 hl5
  go_wp2_with fail
  (with_reducible refine (one_q 41 _ HL5.out).mono ?_)
  rintro e w6 ⟨A6,n6,c6,rfl,hr6,hq6,hl6⟩
  have hrow:=rows3 (c:=c5) (c':=c) (c2:=c6) (HR5.out.lq hq6) (HRa.out.lq hq6) hr6
  have hb6:=bel1 w6 (.cells #[.slice A5 n5 c5,.slice A n c,.slice A6 n6 c6] 27)
  have HAL:=Lib.hid (all_q (cc:=3) hrow (by omega) (hl6.below hb6) (by rw [accJ3];exact HLL.out))
  have HQ6:=Lib.hid ((HQ5.out.trans hq6).trans (.of hb6))
  clear hrow hr6 hq6 hl6 hb6
  go_wp2_with fail
  (with_reducible refine HAL.out.mono ?_)
  rintro e w7 ⟨A7,n7,c7,rfl,hr7,hq7,hl7⟩
  rw [accJ3] at hr7
  have HR7:Hid (RunQ (fun b=>W.heap.size<=b) w7 A7 n7 (joinP [40] (joinP s [41]))):=hr7.imp fun b hb _=>by have:=HQ6.out.size;omega
  have HQ7:=Lib.hid (HQ6.out.trans hq7)
  have HL7:=Lib.hid hl7
  clear hr7 hq7 hl7
  go_wp2
  go_ret
  exact ⟨A7,n7,c7,rfl,HR7.out,HQ7.out,HL7.out⟩
def prT (tx:RTree->List Int) (fr bt:Int) (ts:List RTree):Nat->List (List Int)
 | 0=>[[fr]]
 | i+1=>(if i=0 then prT tx fr bt ts i else prT tx fr bt ts i++[[bt]])++[tx (ts.getD i default)]
theorem prT_len (tx:RTree->List Int) (fr bt:Int) (ts:List RTree):∀ i,(prT tx fr bt ts i).length<=2*i+1
 | 0=>by simp [prT]
 | i+1=>by
  have:=prT_len tx fr bt ts i
  rw [prT]
  split <;> simp <;> omega
theorem prT_acc (tx:RTree->List Int) (fr bt:Int) (ts:List RTree):∀ i,accJ (prT tx fr bt ts i) (prT tx fr bt ts i).length=joinP [fr] (accT tx bt ts i)
 | 0=>by show joinP [] [fr]=joinP [fr] [];rw [joinP_nil,joinP_nil2]
 | i+1=>by
  have h:=prT_acc tx fr bt ts i
  rw [prT,accJ_snoc]
  by_cases h0:i=0
  ·rw [if_pos h0,h,accT,if_pos h0,joinP_nil,joinP_assoc]
  ·rw [if_neg h0,accJ_snoc,h,accT,if_neg h0,joinP_assoc,joinP_assoc]
theorem rlist_any (w0:World) (q:Nat) (hq:w0.heap.size<=q) (tx:RTree->List Int) (fr bt tt:Int) (ts:List RTree) (A:Option Addr) (n cc:Nat) (hn:n=ts.length) (hn2:n<=1048576) (hk:KidR w0 A ts) (H:∀ i (hi:i < ts.length),TextP 40 w0 q ts[i] (tx ts[i])) (hl:(joinP [fr] (joinP (accT tx bt ts ts.length) [tt])).length<=1099511627000) :
  ∀ W,Below w0.heap.size w0 W->LoA W q->Calls Tryz.prog 85 #[.slice A n cc,.int .i32 fr,.int .i32 bt,.int .i32 tt,.pointer (some ⟨q,0,none⟩)] W (RtQ q W (joinP [fr] (joinP (accT tx bt ts ts.length) [tt]))):=by
 intro W hb hL
 have HN:=Lib.hid hn
 have HK:=Lib.hid hk
 have HH:=Lib.hid H
 have HLL:=Lib.hid hl
 have HQ:=Lib.hid hq
 have HB:=Lib.hid hb
 have HLO:=Lib.hid hL
 have HQL:=Lib.hid hL.lt
 have HPL:=Lib.hid (prT_len tx fr bt ts)
 have HPA:=Lib.hid (prT_acc tx fr bt ts)
 have HP0:Hid (prT tx fr bt ts 0=[[fr]]):=rfl
 have HPS:Hid (∀ i,prT tx fr bt ts (i+1)=(if i=0 then prT tx fr bt ts i else prT tx fr bt ts i++[[bt]])++[tx (ts.getD i default)]):=fun i=>rfl
 clear hn hk H hl hq hb hL
 generalize hpr:prT tx fr bt ts=pr at *
 clear hpr
 go_enter Tryz.func85,Tryz.ntmps85
 go_wp2_with fail
 (with_reducible refine (one_q fr _ HLO.out).mono ?_)
 rintro e w1 ⟨A1,n1,c1,rfl,hr1,hq1,hl1⟩
 have ho1:=ownS_one (c:=c1) hr1 (B:=W.heap.size) hq1.size
 have hb1:=bel1 w1 (.cells #[.slice A1 n1 c1] 27)
 have HO1:Hid (OwnS q (w1.alloc (.cells #[.slice A1 n1 c1] 27)) W.heap.size (.slice (some ⟨w1.heap.size,0,none⟩) 1 1) (pr 0)):=by unfold Hid;rw [HP0.out];exact ho1
 have HQ1:=Lib.hid (hq1.trans (.of hb1))
 have HL1:=Lib.hid (hl1.below hb1)
 clear hr1 hq1 hl1 ho1 hb1
 go_wp2
 generalize w1.alloc (.cells #[.slice A1 n1 c1] 27)=w2 at *
 go_loopw [11,12] (fun ov iv wr=>∃ (i:Nat) (A':Option Addr) (n' c':Nat),i<=n/\iv= .int .i64 (i:Int)/\ov= .slice A' n' c'/\Hid (OwnS q wr W.heap.size (.slice A' n' c') (pr i))/\Hid (Lq q W wr)/\Hid (LoA wr q)) (fun _ iv _=>n - (intOf iv).toNat)
 case atStart=>exact ⟨0,_,_,_,Nat.zero_le _,rfl,rfl,HO1.out,HQ1.out,HL1.out⟩
 case round =>
  obtain ⟨i,A',n',c',hi,rfl,rfl,HO,HQR,HLR⟩:=hrel
  have hpl:=HPL.out i
  by_cases him:i < n
  ·have hik:i < ts.length:=by have:=HN.out;omega
   obtain ⟨b,o,u0,u1,u2,u3,u4,u5,rfl,hr,hce⟩:=HK.out.kid i hik
   obtain ⟨B1,m1,d1,B2,m2,d2,B3,m3,d3,rfl,rfl,rfl,rfl,rfl,rfl,-,-⟩:=hr.vals
   have HR:=Lib.hid hr
   generalize kindR ts[i]=uk at *
   generalize nameR ts[i]=un at *
   generalize charR ts[i]=uc at *
   have hgd:ts.getD i default=ts[i]:=by simp [List.getD,hik]
   have HE:Hid (pr (i+1)=(if i=0 then pr i else pr i++[[bt]])++[tx ts[i]]):=by unfold Hid;rw [HPS.out i,hgd]
   have HBW:Hid (Below w0.heap.size w0 wr):=HB.out.trans (HQR.out.below HB.out.size HQ.out)
   have HND:=Lib.hid (HH.out i hik)
   have HCE:=Lib.hid hce
   clear hr hce hgd
   by_cases h0:i=0
   ·rw [if_pos h0] at HE
    have hce0:KidQ w0 b o (.int .i64 uk) (.slice B1 m1 d1) (.slice B2 m2 d2) (.string un) (.int .i32 uc) (.slice B3 m3 d3):=by have h:=HCE.out;rw [h0] at h;simpa using h
    obtain ⟨y0,y1,y2,y3,y4,y5⟩:=hce0 wr HBW.out
    have HT:=Lib.hid (HND.out _ _ _ _ _ _ wr HR.out HBW.out HLR.out)
    clear hce0
    go_wp2_with fail
    (with_reducible refine HT.out.mono ?_)
    rintro e w3 ⟨A3,n3,c3,rfl,hr3,hq3,hl3⟩
    have HO3:=Lib.hid (HO.out.lq HQL.out hq3)
    have HR3:=Lib.hid (RtQ.own hr3 HLR.out HO.out)
    have HQ3:=Lib.hid (HQR.out.trans hq3)
    have HL3:=Lib.hid hl3
    clear hr3 hq3 hl3 HT y0 y1 y2 y3 y4 y5
    go_wp2_with (at_builtin;refine wpList_pushS rfl (.tmp 29) (.tmp 36) rfl q W.heap.size _ (pr i) rfl HO3.out A3 n3 c3 (tx ts[i]) HR3.out rfl (by omega) HQ3.out.size ?_;intro A4 n4 c4 w4 ho4 hb4;have HO4:=Lib.hid ho4;have HQ4:=Lib.hid (HQ3.out.trans4 hb4);have HL4:=Lib.hid (HL3.out.belowB HQL.out hb4);clear ho4 hb4)
    go_roundw
    case rel=>exact ⟨i+1,_,_,_,by omega,by go_num,rfl,by unfold Hid;rw [HE.out];exact HO4.out,HQ4.out,HL4.out⟩
    case measure=>simp [intOf];omega
   ·rw [if_neg h0] at HE
    have hi0:0 < i:=by omega
    go_wp2_with fail
    (with_reducible refine (sign_any bt _).mono ?_)
    rintro e w2' ⟨A2,n2,c2,rfl,hr2,hb2⟩
    have HR2:=Lib.hid (RtQ.own hr2 HLR.out HO.out)
    have HO2:=Lib.hid (HO.out.lq HQL.out (.of hb2))
    have HQ2:=Lib.hid (HQR.out.trans (.of hb2))
    have HL2:=Lib.hid (HLR.out.below hb2)
    clear hr2 hb2
    go_wp2_with (at_builtin;refine wpList_pushS rfl (.tmp 24) (.tmp 27) rfl q W.heap.size _ (pr i) rfl HO2.out A2 n2 c2 [bt] HR2.out rfl (by omega) HQ2.out.size ?_;intro A4 n4 c4 w4 ho4 hb4;have HO4:=Lib.hid ho4;have HQ4:=Lib.hid (HQ2.out.trans4 hb4);have HL4:=Lib.hid (HL2.out.belowB HQL.out hb4);have HBW4:Hid (Below w0.heap.size w0 w4):=HB.out.trans (HQ4.out.below HB.out.size HQ.out);obtain ⟨y0,y1,y2,y3,y4,y5⟩:=HCE.out w4 HBW4.out;clear ho4 hb4)
    have HT:=Lib.hid (HND.out _ _ _ _ _ _ w4 HR.out HBW4.out HL4.out)
    (with_reducible refine HT.out.mono ?_)
    rintro e w3 ⟨A3,n3,c3,rfl,hr3,hq3,hl3⟩
    have HO3:=Lib.hid (HO4.out.lq HQL.out hq3)
    have HR3:=Lib.hid (RtQ.own hr3 HL4.out HO4.out)
    have HQ3:=Lib.hid (HQ4.out.trans hq3)
    have HL3:=Lib.hid hl3
    clear hr3 hq3 hl3 HT y0 y1 y2 y3 y4 y5
    go_wp2_with (at_builtin;refine wpList_pushS rfl (.tmp 29) (.tmp 36) rfl q W.heap.size _ (pr i++[[bt]]) rfl HO3.out A3 n3 c3 (tx ts[i]) HR3.out rfl (by simp;omega) HQ3.out.size ?_;intro A6 n6 c6 w6 ho6 hb6;have HO6:=Lib.hid ho6;have HQ6:=Lib.hid (HQ3.out.trans4 hb6);have HL6:=Lib.hid (HL3.out.belowB HQL.out hb6);clear ho6 hb6)
    go_roundw
    case rel=>exact ⟨i+1,_,_,_,by omega,by go_num,rfl,by unfold Hid;rw [HE.out];exact HO6.out,HQ6.out,HL6.out⟩
    case measure=>simp [intOf];omega
  ·have hin:i=ts.length:=by have:=HN.out;omega
   have HPE:Hid (accJ (pr i) (pr i).length=joinP [fr] (accT tx bt ts ts.length)):=by unfold Hid;rw [HPA.out i,hin]
   go_wp2_with fail
   (with_reducible refine (sign_any tt _).mono ?_)
   rintro e w2' ⟨A2,n2,c2,rfl,hr2,hb2⟩
   have HR2:=Lib.hid (RtQ.own hr2 HLR.out HO.out)
   have HO2:=Lib.hid (HO.out.lq HQL.out (.of hb2))
   have HQ2:=Lib.hid (HQR.out.trans (.of hb2))
   have HL2:=Lib.hid (HLR.out.below hb2)
   clear hr2 hb2
   go_wp2_with (at_builtin;refine wpList_pushS rfl (.tmp 38) (.tmp 41) rfl q W.heap.size _ (pr i) rfl HO2.out A2 n2 c2 [tt] HR2.out rfl (by omega) HQ2.out.size ?_;intro A4 n4 c4 w4 ho4 hb4;have HO4:=Lib.hid ho4;have HQ4:=Lib.hid (HQ2.out.trans4 hb4);have HL4:=Lib.hid (HL2.out.belowB HQL.out hb4);clear ho4 hb4)
   have hrw:=HO4.out.rows
   have HF:Hid (accJ (pr i++[[tt]]) (pr i++[[tt]]).length=joinP [fr] (joinP (accT tx bt ts ts.length) [tt])):=by unfold Hid;rw [accJ_snoc,HPE.out,joinP_assoc]
   have HAL:=Lib.hid (all_q (cc:=c4) hrw (by have h:=hrw.1;simp at h;omega) HL4.out (by rw [HF.out];exact HLL.out))
   clear hrw
   (with_reducible refine HAL.out.mono ?_)
   rintro e w7 ⟨A7,n7,c7,rfl,hr7,hq7,hl7⟩
   rw [HF.out] at hr7
   have HR7:Hid (RunQ (fun b=>W.heap.size<=b) w7 A7 n7 (joinP [fr] (joinP (accT tx bt ts ts.length) [tt]))):=hr7.imp fun b hb _=>by have:=HQ4.out.size;omega
   have HQ7:=Lib.hid (HQ4.out.trans hq7)
   have HL7:=Lib.hid hl7
   clear hr7 hq7 hl7 HAL
   go_wp2
   go_ret
   exact ⟨A7,n7,c7,rfl,HR7.out,HQ7.out,HL7.out⟩
end Go.Proofs.YtbakjaliponbbaaGreatDoor
