/- The texts of good trees: how long they are; the writer's node tells them. Printed by gen_trxn.py. The reference's prim, folded, same over trees. Printed by .. Conditions: as each theorem says. -/
import Derived.Test.YtbakjaliponbbaaGreatDoorMg18
import Derived.Test.YtbakjaliponbbaaGreatDoorMg19
import Derived.Test.YtbakjaliponbbaaGreatDoorMg13
import Derived.Test.YtbakjaliponbbaaGreatDoorMg05
import Derived.Test.YtbakjaliponbbaaGreatDoorMg14
import Derived.BigQuiet
set_option maxRecDepth 100000
namespace Go.Proofs.YtbakjaliponbbaaGreatDoor
open Go Go.RowKit Go.Proofs Fl
mutual
def measR:RTree->Nat
 | .mk _ nums text name _ kids=>1+nums.length+text.length+name.size+measRs kids
def measRs:List RTree->Nat
 | []=>0
 | t::ts=>measR t+measRs ts
end
mutual
theorem size_meas:∀ t,sizeR t<=measR t
 | .mk _ _ _ _ _ kids=>by rw [sizeR,measR];have:=size_measS kids;omega
theorem size_measS:∀ ts,sizeRs ts<=measRs ts
 | []=>by rw [sizeRs,measRs];exact Nat.le_refl _
 | t::ts=>by rw [sizeRs,measRs];have:=size_meas t;have:=size_measS ts;omega
end
theorem measRs_take:∀ (ts:List RTree) (i:Nat) (hi:i < ts.length),measRs (ts.take (i+1))=measRs (ts.take i)+measR ts[i]
 | [],_,hi=>by simp at hi
 | t::ts,0,_=>by simp [measRs]
 | t::ts,i+1,hi=>by
  have:=measRs_take ts i (by simpa using hi)
  simp only [List.take_succ_cons,measRs,List.getElem_cons_succ]
  omega
theorem measRs_at:∀ {ts:List RTree}{i:Nat} (hi:i < ts.length),measR ts[i]<=measRs ts
 | [],_,hi=>by simp at hi
 | t::ts,0,_=>by rw [measRs];simp
 | t::ts,i+1,hi=>by
  have:=measRs_at (ts:=ts) (i:=i) (by simpa using hi)
  rw [measRs];simp;omega
theorem measRs_app:∀ (ts us:List RTree),measRs (ts++us)=measRs ts+measRs us
 | [],us=>by rw [measRs];simp
 | t::ts,us=>by rw [List.cons_append,measRs,measRs,measRs_app ts us];omega
theorem sizeRs_app:∀ (ts us:List RTree),sizeRs (ts++us)=sizeRs ts+sizeRs us
 | [],us=>by rw [sizeRs];simp
 | t::ts,us=>by rw [List.cons_append,sizeRs,sizeRs,sizeRs_app ts us];omega
theorem accT_len {tx:RTree->List Int}{bt:Int}{ts:List RTree} (h:∀ i (hi:i < ts.length),(tx ts[i]).length+20<=100*measR ts[i]):∀ i,i<=ts.length->(accT tx bt ts i).length<=100*measRs (ts.take i)
 | 0,_=>by simp [accT]
 | i+1,hi=>by
  have h1:=accT_len (bt:=bt) h i (by omega)
  have h2:=h i (by omega)
  have hgd:ts.getD i default=ts[i]:=by simp [List.getD,show i < ts.length by omega]
  rw [measRs_take ts i (by omega)]
  have e:accT tx bt ts (i+1)=joinP (accT tx bt ts i) (joinP (if i=0 then [] else [bt]) (tx (ts.getD i default))):=rfl
  rw [e,hgd]
  have j1:=(joinP_len (accT tx bt ts i) (joinP (if i=0 then [] else [bt]) (tx ts[i]))).2
  have j2:=(joinP_len (if i=0 then [] else [bt]) (tx ts[i])).2
  have j3:(if i=0 then ([]:List Int) else [bt]).length<=1:=by split <;> simp
  omega
theorem wrapT_le (b:Bool) (s:List Int):(wrapT b s).length<=s.length+4:=by
 cases b with
 | true=>show s.length<=_;omega
 | false =>
  have e:wrapT false s=joinP [40] (joinP s [41]):=rfl
  rw [e]
  have j1:=(joinP_len [40] (joinP s [41])).2
  have j2:=(joinP_len s [41]).2
  simp at j1 j2
  omega
theorem accW_len {tx:RTree->List Int}{ts:List RTree} (h:∀ i (hi:i < ts.length),(tx ts[i]).length+20<=100*measR ts[i]):∀ i,i<=ts.length->(accW tx ts i).length<=100*measRs (ts.take i)
 | 0,_=>by simp [accW]
 | i+1,hi=>by
  have h1:=accW_len h i (by omega)
  have h2:=h i (by omega)
  have hgd:ts.getD i default=ts[i]:=by simp [List.getD,show i < ts.length by omega]
  rw [measRs_take ts i (by omega)]
  have e:accW tx ts (i+1)=joinP (accW tx ts i) (wrapT (bareB (kindR (ts.getD i default))) (tx (ts.getD i default))):=rfl
  rw [e,hgd]
  have j1:=(joinP_len (accW tx ts i) (wrapT (bareB (kindR ts[i])) (tx ts[i]))).2
  have j2:=wrapT_le (bareB (kindR ts[i])) (tx ts[i])
  omega
theorem brkT_len {tx:RTree->List Int}{ts:List RTree} (h:∀ i (hi:i < ts.length),(tx ts[i]).length+20<=100*measR ts[i]):(brkT tx ts).length<=100*measRs ts+4:=by
 have h1:=accT_len (bt:=59) h ts.length (Nat.le_refl _)
 rw [List.take_length] at h1
 unfold brkT
 have j1:=(joinP_len [91] (joinP (accT tx 59 ts ts.length) [93])).2
 have j2:=(joinP_len (accT tx 59 ts ts.length) [93]).2
 simp at j1 j2
 omega
theorem quoT_len (l:List Int):(quoT l).length<=2*l.length+2:=by
 unfold quoT
 have:=quoA_len l
 simp
 omega
theorem tx_len:∀ (N:Nat) (t:RTree),GT t->(txF N t).length+20<=100*measR t
 | 0,t,_=>by
  have:=size_meas t;have:=sizeR_pos t
  show 0+20<=_
  omega
 | N+1,t,h=>by
  have IH:=tx_len N
  cases h with
  | k1 hf h0 hx hl =>
   rw [tx_1,measR]
   have:=(numsT_len hx hf h0).2
   omega
  | k2 hl =>
   rw [tx_2,measR]
   have:=quoT_len ‹List Int›
   omega
  | k3 hk hz hne =>
   rw [tx_3 hk,measR]
   have:=runesOf_len ‹ByteArray›
   omega
  | k4 hk =>
   rcases hk with rfl | rfl | rfl | rfl
   ·rw [tx_4,measR];simp;omega
   ·rw [tx_5,measR];simp;omega
   ·rw [tx_6,measR];simp;omega
   ·rw [tx_13,measR];simp;omega
  | k7 hl h =>
   rw [tx_7,measR]
   have h1:=accW_len (tx:=txF N) (fun i hi=>IH _ (h i hi)) _ (Nat.le_refl _)
   rw [List.take_length] at h1
   omega
  | @k8 _ _ _ _ t0 ts h0 hp hl h =>
   rw [tx_8,measR,measRs]
   have h1:=brkT_len (tx:=txF N) (fun i hi=>IH _ (h i hi))
   have h2:=IH _ h0
   have h3:=wrapT_le (bareB (kindR t0)) (txF N t0)
   have:=(joinP_len (wrapT (bareB (kindR t0)) (txF N t0)) (brkT (txF N) ts)).2
   omega
  | @k9 _ _ _ _ t0 t1 h0 h1 =>
   rw [tx_9,measR,measRs,measRs,measRs]
   have a0:=IH _ h0
   have a1:=IH _ h1
   have h3:=wrapT_le (!slashT N t0) (txF N t0)
   have:=(joinP_len (wrapT (!slashT N t0) (txF N t0)) (txF N t1)).2
   omega
  | @k10 _ _ _ _ t0 t1 t2 h0 h1 h2 =>
   rw [tx_10,measR,measRs,measRs,measRs,measRs]
   have a0:=IH _ h0
   have a1:=IH _ h1
   have a2:=IH _ h2
   have h3:=wrapT_le (leftB (kindR t2)) (txF N t2)
   have:=(joinP_len (wrapT (leftB (kindR t2)) (txF N t2)) (joinP (txF N t0) (txF N t1))).2
   have:=(joinP_len (txF N t0) (txF N t1)).2
   omega
  | @k11 _ _ name _ _ t0 hk hz hne h0 =>
   rw [tx_11 hk,measR,measRs,measRs]
   have a0:=IH _ h0
   have a1:=runesOf_len name
   have:=(joinP_len (runesOf name) (joinP [8592] (txF N t0))).2
   have:=(joinP_len [8592] (txF N t0)).2
   simp only [List.length_singleton] at *
   omega
  | @k12 _ _ name _ t0 ts hz hne h0 hp hl h =>
   rw [tx_12,measR,measRs_app,measRs,measRs]
   have a0:=IH _ h0
   have a1:=runesOf_len name
   have h1:=brkT_len (tx:=txF N) (fun i hi=>IH _ (h i hi))
   have:=(joinP_len (runesOf name) (joinP (brkT (txF N) ts) (joinP [8592] (txF N t0)))).2
   have:=(joinP_len (brkT (txF N) ts) (joinP [8592] (txF N t0))).2
   have:=(joinP_len [8592] (txF N t0)).2
   simp only [List.length_singleton] at *
   omega
  | @k15 _ _ _ _ kids hl h =>
   rw [tx_15,measR]
   have h1:=accT_len (tx:=txF N) (bt:=8900) (fun i hi=>IH _ (h i hi)) _ (Nat.le_refl _)
   rw [List.take_length] at h1
   have:=(joinP_len [123] (joinP (accT (txF N) 8900 kids kids.length) [125])).2
   have:=(joinP_len (accT (txF N) 8900 kids kids.length) [125]).2
   simp only [List.length_singleton] at *
   omega
  | @k16 _ _ _ c t0 h0 =>
   rw [tx_16,measR,measRs,measRs]
   have a0:=IH _ h0
   have:=(joinP_len (txF N t0) [c]).2
   simp only [List.length_singleton] at *
   omega
  | @k17 _ _ _ _ t0 t1 h0 h1 hk =>
   rw [tx_17,measR,measRs,measRs,measRs]
   have a0:=IH _ h0
   have a1:=IH _ h1
   have h3:=wrapT_le (singleB (kindR t1)) (txF N t1)
   have:=(joinP_len (txF N t0) (joinP [46] (wrapT (singleB (kindR t1)) (txF N t1)))).2
   have:=(joinP_len [46] (wrapT (singleB (kindR t1)) (txF N t1))).2
   simp only [List.length_singleton] at *
   omega
  | @k18 _ _ _ _ t0 h0 hk =>
   rw [tx_18,measR,measRs,measRs]
   have a0:=IH _ h0
   have h3:=wrapT_le (singleB (kindR t0)) (txF N t0)
   have:=(joinP_len [8728,46] (wrapT (singleB (kindR t0)) (txF N t0))).2
   simp only [List.length_cons,List.length_nil] at *
   omega
  | @k19 _ _ _ _ t0 t1 h0 h1 =>
   rw [tx_19,measR,measRs,measRs,measRs]
   have a0:=IH _ h0
   have a1:=IH _ h1
   have:=(joinP_len (txF N t0) (joinP [58] (txF N t1))).2
   have:=(joinP_len [58] (txF N t1)).2
   simp only [List.length_singleton] at *
   omega
  | k21 =>
   rw [tx_21,measR]
   simp
   omega
theorem slashed_text (w0:World):∀ (N:Nat) (t:RTree),GT t->sizeR t<=N->TellsT 125 w0 t (slashT N t)
 | 0,t,_,h=>by have:=sizeR_pos t;omega
 | N+1,t,h,hN=>by
  have IH:=slashed_text w0 N
  cases h with
  | k1=>exact slashed_no w0 1 (by decide) (by decide) (by decide) _ _ _ _ _
  | k2=>exact slashed_no w0 2 (by decide) (by decide) (by decide) _ _ _ _ _
  | k3 hk=>rcases hk with rfl | rfl <;> exact slashed_no w0 _ (by decide) (by decide) (by decide) _ _ _ _ _
  | k4 hk =>
   rcases hk with rfl | rfl | rfl | rfl
   ·exact slashed_no w0 4 (by decide) (by decide) (by decide) _ _ _ _ _
   ·exact slashed_no w0 5 (by decide) (by decide) (by decide) _ _ _ _ _
   ·exact slashed_no w0 6 (by decide) (by decide) (by decide) _ _ _ _ _
   ·exact slashed_13 w0 _ _ _ _ _
  | k7=>exact slashed_no w0 7 (by decide) (by decide) (by decide) _ _ _ _ _
  | k8=>exact slashed_no w0 8 (by decide) (by decide) (by decide) _ _ _ _ _
  | k9=>exact slashed_no w0 9 (by decide) (by decide) (by decide) _ _ _ _ _
  | k10=>exact slashed_no w0 10 (by decide) (by decide) (by decide) _ _ _ _ _
  | k11 hk=>rcases hk with rfl | rfl <;> exact slashed_no w0 _ (by decide) (by decide) (by decide) _ _ _ _ _
  | k12=>exact slashed_no w0 12 (by decide) (by decide) (by decide) _ _ _ _ _
  | k15=>exact slashed_no w0 15 (by decide) (by decide) (by decide) _ _ _ _ _
  | k16 h0=>exact slashed_16 w0 16 (.inl rfl) _ _ _ _ _ _ _ (IH _ h0 (by rw [sizeR,sizeRs,sizeRs] at hN;omega))
  | k17 h0 h1=>exact slashed_16 w0 17 (.inr rfl) _ _ _ _ _ _ _ (IH _ h0 (by rw [sizeR,sizeRs,sizeRs,sizeRs] at hN;omega))
  | k18=>exact slashed_no w0 18 (by decide) (by decide) (by decide) _ _ _ _ _
  | k19=>exact slashed_no w0 19 (by decide) (by decide) (by decide) _ _ _ _ _
  | k21=>exact slashed_no w0 21 (by decide) (by decide) (by decide) _ _ _ _ _
theorem node_text (w0:World) (hT:TzTab w0):∀ (N:Nat) (t:RTree),GT t->sizeR t<=N->NodeP 38 w0 t (txF N t)
 | 0,t,_,h=>by have:=sizeR_pos t;omega
 | N+1,t,h,hN=>by
  have IH:=node_text w0 hT N
  cases h with
  | k1 hf h0 hx hl=>rw [tx_1];exact node_1 w0 hT _ _ _ _ _ hf h0 hx hl
  | k2 hl=>rw [tx_2];exact node_2 w0 _ _ _ _ _ hl
  | k3 hk hz hne=>rw [tx_3 hk];exact node_name w0 _ hk _ _ _ _ _ hz hne
  | k4 hk =>
   rcases hk with rfl | rfl | rfl | rfl
   ·rw [tx_4];exact node_4 w0 _ _ _ _ _
   ·rw [tx_5];exact node_5 w0 _ _ _ _ _
   ·rw [tx_6];exact node_6 w0 _ _ _ _ _
   ·rw [tx_13];exact node_13 w0 _ _ _ _ _
  | k7 hl h=>rw [tx_7];exact node_7 w0 _ _ _ _ _ _ hl (fun i hi=>IH _ (h i hi) (by rw [sizeR] at hN;have:=sizeRs_at hi;omega))
  | k8 h0 hp hl h=>rw [tx_8];exact node_8 w0 _ _ _ _ _ _ (IH _ h0 (by rw [sizeR,sizeRs] at hN;omega)) _ _ hp hl (fun i hi=>IH _ (h i hi) (by rw [sizeR,sizeRs] at hN;have:=sizeRs_at hi;omega))
  | k9 h0 h1=>rw [tx_9];exact node_moreA w0 9 (by omega) _ _ _ _ _ _ (more_9b w0 _ _ _ _ _ _ _ _ (IH _ h0 (by rw [sizeR,sizeRs,sizeRs,sizeRs] at hN;omega)) (IH _ h1 (by rw [sizeR,sizeRs,sizeRs,sizeRs] at hN;omega)) _ (slashed_text w0 N _ h0 (by rw [sizeR,sizeRs,sizeRs,sizeRs] at hN;omega)))
  | k10 h0 h1 h2=>rw [tx_10];exact node_moreA w0 10 (by omega) _ _ _ _ _ _ (more_10 w0 _ _ _ _ _ _ _ _ _ _ (IH _ h0 (by rw [sizeR,sizeRs,sizeRs,sizeRs,sizeRs] at hN;omega)) (IH _ h1 (by rw [sizeR,sizeRs,sizeRs,sizeRs,sizeRs] at hN;omega)) (IH _ h2 (by rw [sizeR,sizeRs,sizeRs,sizeRs,sizeRs] at hN;omega)) _ (left_any w0 _))
  | k11 hk hz hne h0=>rw [tx_11 hk];exact node_moreA w0 _ (by omega) _ _ _ _ _ _ (more_let w0 _ hk _ _ _ _ _ _ hz hne (IH _ h0 (by rw [sizeR,sizeRs,sizeRs] at hN;omega)))
  | k12 hz hne h0 hp hl h=>rw [tx_12];exact node_moreA w0 12 (by omega) _ _ _ _ _ _ (more_12 w0 _ _ _ _ _ _ hz hne (IH _ h0 (by rw [sizeR,sizeRs_app,sizeRs,sizeRs] at hN;omega)) _ _ hp hl (fun i hi=>IH _ (h i hi) (by rw [sizeR,sizeRs_app] at hN;have:=sizeRs_at hi;omega)))
  | k15 hl h=>rw [tx_15];exact node_15 w0 _ _ _ _ _ _ hl (fun i hi=>IH _ (h i hi) (by rw [sizeR] at hN;have:=sizeRs_at hi;omega))
  | k16 h0=>rw [tx_16];exact node_moreA w0 16 (by omega) _ _ _ _ _ _ (more_16 w0 _ _ _ _ _ _ (IH _ h0 (by rw [sizeR,sizeRs,sizeRs] at hN;omega)))
  | k17 h0 h1 hk=>rw [tx_17];exact node_moreA w0 17 (by omega) _ _ _ _ _ _ (more_17 w0 _ _ _ _ _ _ _ _ (IH _ h0 (by rw [sizeR,sizeRs,sizeRs,sizeRs] at hN;omega)) (IH _ h1 (by rw [sizeR,sizeRs,sizeRs,sizeRs] at hN;omega)) _ (single_any w0 _))
  | k18 h0 hk=>rw [tx_18];exact node_moreA w0 18 (by omega) _ _ _ _ _ _ (more_18 w0 _ _ _ _ _ _ (IH _ h0 (by rw [sizeR,sizeRs,sizeRs] at hN;omega)) _ (single_any w0 _))
  | k19 h0 h1=>rw [tx_19];exact node_moreA w0 19 (by omega) _ _ _ _ _ _ (more_19 w0 _ _ _ _ _ _ _ _ (IH _ h0 (by rw [sizeR,sizeRs,sizeRs,sizeRs] at hN;omega)) (IH _ h1 (by rw [sizeR,sizeRs,sizeRs,sizeRs] at hN;omega)))
  | k21=>rw [tx_21];exact node_21 w0 _ _ _ _ _
def KidQ (w:World) (b o:Nat) (v0 v1 v2 v3 v4 v5:Value):Prop:=∀ w1,Below w.heap.size w w1->w1.cell? ⟨b,o,none⟩=some v0/\w1.cell? ⟨b,o+1,none⟩=some v1/\w1.cell? ⟨b,o+2,none⟩=some v2/\w1.cell? ⟨b,o+3,none⟩=some v3/\w1.cell? ⟨b,o+4,none⟩=some v4/\w1.cell? ⟨b,o+5,none⟩=some v5
theorem KidR.kid {w:World}{A:Option Addr}{kids:List RTree} (h:KidR w A kids) (i:Nat) (hi:i < kids.length):∃ b o v0 v1 v2 v3 v4 v5,A=Option.some ⟨b,o,none⟩/\RN w kids[i] [v0,v1,v2,v3,v4,v5]/\KidQ w b (o+i*6) v0 v1 v2 v3 v4 v5:=h i hi
theorem RN.vals {w:World}{t:RTree}{v0 v1 v2 v3 v4 v5:Value} (h:RN w t [v0,v1,v2,v3,v4,v5]) :
  ∃ (A1:Option Addr) (n1 c1:Nat) (A2:Option Addr) (n2 c2:Nat) (A:Option Addr) (m cc:Nat),v0= .int .i64 (kindR t)/\v1= .slice A1 n1 c1/\v2= .slice A2 n2 c2/\v3= .string (nameR t)/\v4= .int .i32 (charR t)/\v5= .slice A m cc/\m=(kidsR t).length /\
   ∀ i,i < (kidsR t).length->∃ b o u0 u1 u2 u3 u4 u5,A=some ⟨b,o,none⟩/\RN w (kidR t i) [u0,u1,u2,u3,u4,u5]/\KidQ w b (o+i*6) u0 u1 u2 u3 u4 u5:=by
 cases t with
 | mk k nums text name c kids =>
  obtain ⟨nv,tv,A,cc,m,hvs,hrn,hrt,hm,hkid⟩:=h.open_
  simp only [List.cons.injEq,and_true] at hvs
  obtain ⟨rfl,rfl,rfl,rfl,rfl,rfl⟩:=hvs
  obtain ⟨A1,c1,n1,rfl,_,_⟩:=hrn.opn
  obtain ⟨A2,c2,n2,rfl,_,_⟩:=hrt.opn
  refine ⟨A1,n1,c1,A2,n2,c2,A,m,cc,rfl,rfl,rfl,rfl,rfl,rfl,hm,fun i hi=>?_⟩
  obtain ⟨b,o,u0,u1,u2,u3,u4,u5,e,ht,hc⟩:=KidR.kid hkid i hi
  exact ⟨b,o,u0,u1,u2,u3,u4,u5,e,by rw [kidR_at (show i < kids.length from hi)];exact ht,hc⟩
structure Lq (q:Nat) (w w':World):Prop where
 os:w'.os=w.os
 tape:w'.tape=w.tape
 output:w'.output=w.output
 size:w.heap.size<=w'.heap.size
 block:∀ b,b < w.heap.size->b≠q->w'.heap[b]?=w.heap[b]?
theorem Lq.of {q:Nat}{w w':World} (h:Below w.heap.size w w'):Lq q w w':=⟨h.os,h.tape,h.output,h.size,fun b hb _=>h.block b hb⟩
theorem Lq.refl (q:Nat) (w:World):Lq q w w:=Lq.of (Below.refl _ _)
theorem Lq.trans {q:Nat}{a b c:World} (h:Lq q a b) (k:Lq q b c):Lq q a c :=
 ⟨k.os.trans h.os,k.tape.trans h.tape,k.output.trans h.output,Nat.le_trans h.size k.size,fun x hx hn=>by rw [k.block x (Nat.lt_of_lt_of_le hx h.size) hn,h.block x hx hn]⟩
theorem Lq.below {q B:Nat}{w w':World} (h:Lq q w w') (hB:B<=w.heap.size) (hq:B<=q):Below B w w' :=
 ⟨h.os,h.tape,h.output,h.size,fun b hb=>h.block b (by omega) (by omega)⟩
theorem Lq.set (q i:Nat) (w:World) (v:Value):Lq q w (w.setCell ⟨q,i,none⟩ v):=by
 have h:=(Below.refl 0 w).setCell (p:=⟨q,i,none⟩) (Nat.zero_le _) v
 exact ⟨h.os,h.tape,h.output,h.size,fun b _ hn=>Below.heap_setCell _ _ _ _ hn⟩
def LoA (W:World) (q:Nat):Prop:=∃ a:Int,W.heap[q]?=some (.cells #[.slice none 0 0,.slice none 0 0,.int .i64 a] 39 (0,0))
theorem LoA.lt {W:World}{q:Nat} (h:LoA W q):q < W.heap.size:=by obtain ⟨a,h⟩:=h;exact lt_of_block h
theorem LoA.below {W W':World}{q:Nat} (h:LoA W q) (hb:Below W.heap.size W W'):LoA W' q:=by
 have hl:=h.lt
 obtain ⟨a,h⟩:=h
 exact ⟨a,by rw [hb.block q hl];exact h⟩
theorem LoA.cells {W:World}{q:Nat} (h:LoA W q):∃ a:Int,W.cell? ⟨q,0,none⟩=some (.slice none 0 0)/\W.cell? ⟨q,1,none⟩=some (.slice none 0 0)/\W.cell? ⟨q,2,none⟩=some (.int .i64 a)/\∀ j,W.frozen? ⟨q,j,none⟩=false:=by
 obtain ⟨a,h⟩:=h
 refine ⟨a,?_,?_,?_,fun j=>?_⟩
 ·simp [World.cell?,h]
 ·simp [World.cell?,h]
 ·simp [World.cell?,h]
 ·simp [World.frozen?,h]
theorem LoA.put {W:World}{q:Nat} (h:LoA W q) (b:Int):LoA (W.setCell ⟨q,2,none⟩ (.int .i64 b)) q:=by
 obtain ⟨a,h⟩:=h
 refine ⟨b,?_⟩
 have h1:=heap_setCell_same _ q 2 _ _ (.int .i64 b) h
 rw [show (#[.slice none 0 0,.slice none 0 0,.int .i64 a]:Array Value).setIfInBounds 2 (.int .i64 b)=#[.slice none 0 0,.slice none 0 0,.int .i64 b] by simp] at h1
 exact h1
def RunQ (F:Nat->Prop) (w:World) (A:Option Addr) (n:Nat) (s:List Int):Prop:=n=s.length/\∀ i (h:i < s.length),∃ b o,A=some ⟨b,o,none⟩/\F b/\w.cell? ⟨b,o+i,none⟩=some (.int .i32 s[i])
theorem RunQ.keep {F:Nat->Prop}{w w':World}{A:Option Addr}{n:Nat}{s:List Int} (h:RunQ F w A n s) (k:∀ b,F b->b < w.heap.size->w'.heap[b]?=w.heap[b]?):RunQ F w' A n s:=by
 refine ⟨h.1,fun i hi=>?_⟩
 obtain ⟨b,o,e,hb,hc⟩:=h.2 i hi
 exact ⟨b,o,e,hb,by rw [World.cell?_of_block (w:=w) (k b hb (cell_lt hc))];exact hc⟩
theorem RunQ.imp {F F':Nat->Prop}{w:World}{A:Option Addr}{n:Nat}{s:List Int} (h:RunQ F w A n s) (k:∀ b,F b->b < w.heap.size->F' b):RunQ F' w A n s:=by
 refine ⟨h.1,fun i hi=>?_⟩
 obtain ⟨b,o,e,hb,hc⟩:=h.2 i hi
 exact ⟨b,o,e,k b hb (cell_lt hc),hc⟩
theorem RunQ.lq {q:Nat}{w w':World}{A:Option Addr}{n:Nat}{s:List Int} (h:RunQ (fun b=>b≠q) w A n s) (k:Lq q w w'):RunQ (fun b=>b≠q) w' A n s:=h.keep fun b hb hl=>k.block b hl hb
theorem RunQ.below {F:Nat->Prop}{w w':World}{A:Option Addr}{n:Nat}{s:List Int} (h:RunQ F w A n s) (k:Below w.heap.size w w'):RunQ F w' A n s:=h.keep fun b _ hl=>k.block b hl
theorem RunQ.runes {F:Nat->Prop}{w:World}{A:Option Addr}{n c:Nat}{s:List Int} (h:RunQ F w A n s):Runes w (.slice A n c) s:=by
 obtain ⟨rfl,h⟩:=h
 cases s with
 | nil=>exact .inl ⟨A,c,rfl,rfl⟩
 | cons x r =>
  obtain ⟨b,o,rfl,_,_⟩:=h 0 (by simp)
  refine .inr ⟨b,o,_,c,rfl,rfl,fun i hi=>?_⟩
  obtain ⟨b',o',e,_,hc⟩:=h i hi
  simp only [Option.some.injEq,Addr.mk.injEq,and_true] at e
  obtain ⟨rfl,rfl⟩:=e
  exact hc
theorem runQ_at {F:Nat->Prop}{G o n c:Nat}{w:World}{s:List Int} (h:Runes w (.slice (some ⟨G,o,none⟩) n c) s) (hG:F G):RunQ F w (some ⟨G,o,none⟩) n s:=by
 rcases h with ⟨a,c',e,rfl⟩ | ⟨b',o',n',c',e,hn,hc⟩
 ·simp only [Value.slice.injEq] at e
  exact ⟨e.2.1,fun i hi=>absurd hi (by simp)⟩
 ·simp only [Value.slice.injEq,Option.some.injEq,Addr.mk.injEq,and_true] at e
  obtain ⟨⟨rfl,rfl⟩,rfl,rfl⟩:=e
  exact ⟨hn,fun i hi=>⟨G,o,rfl,hG,hc i hi⟩⟩
theorem runQ_nil (F:Nat->Prop) (w:World) (A:Option Addr):RunQ F w A 0 []:=⟨rfl,fun i hi=>absurd hi (by simp)⟩
theorem runQ_own {B n c:Nat}{w:World}{A:Option Addr}{s:List Int} (h:OwnR w B (.slice A n c) s):RunQ (fun b=>B<=b) w A n s:=by
 cases s with
 | nil =>
  obtain ⟨a,c',e⟩:=h.len
  simp only [Value.slice.injEq] at e
  exact ⟨e.2.1,fun i hi=>absurd hi (by simp)⟩
 | cons x r =>
  obtain ⟨g,cc,e,_⟩:=h.form (by simp)
  simp only [Value.slice.injEq] at e
  obtain ⟨rfl,rfl,rfl⟩:=e
  exact runQ_at h.runes (World.ownsRow.lt h g rfl).1
def RtQ (q:Nat) (W:World) (s:List Int) (e:Ending) (w':World):Prop:=∃ A n c,e= .returned (.slice A n c)/\RunQ (fun b=>W.heap.size<=b) w' A n s/\Lq q W w'/\LoA w' q
def RtN (q:Nat) (W:World) (s:List Int) (e:Ending) (w':World):Prop:=∃ A n c,e= .returned (.slice A n c)/\RunQ (fun b=>b≠q) w' A n s/\Lq q W w'/\LoA w' q
theorem RtQ.n {q:Nat}{W:World}{s:List Int}{e:Ending}{w':World} (h:RtQ q W s e w') (hL:LoA W q):RtN q W s e w':=by
 obtain ⟨A,n,c,he,hr,h1,h2⟩:=h
 exact ⟨A,n,c,he,hr.imp fun b hb _=>by have:=hL.lt;omega,h1,h2⟩
theorem sign_any (c:Int) (w:World):Calls Tryz.prog 39 #[.int .i32 c] w fun e w'=>∃ A n k,e= .returned (.slice A n k)/\RunQ (fun b=>w.heap.size<=b) w' A n [c]/\Below w.heap.size w w':=by
 have HB:=Lib.hid (bel1 w (.cells #[.int .i32 c] 21))
 have HR:Hid (RunQ (fun b=>w.heap.size<=b) (w.alloc (.cells #[.int .i32 c] 21)) (some ⟨w.heap.size,0,none⟩) 1 [c]):=runQ_at (runes_lit w [c]) (Nat.le_refl _)
 go_enter Tryz.func39,Tryz.ntmps39
 go_wp2
 go_ret
 exact ⟨_,_,_,rfl,HR.out,HB.out⟩
theorem one_q {q:Nat} (c:Int) (w:World) (hL:LoA w q):Calls Tryz.prog 39 #[.int .i32 c] w (RtN q w [c]):=by
 refine (sign_any c w).mono ?_
 rintro e w' ⟨A,n,k,he,hr,hb⟩
 exact ⟨A,n,k,he,hr.imp fun b h _=>by have:=hL.lt;omega,.of hb,hL.below hb⟩
theorem take_nil (x:Int) (w:World):Calls Tryz.prog 89 #[.slice none 0 0,.int .i64 x] w fun e w'=>e= .returned (.bool false)/\w=w':=by
 go_enter Tryz.func89,Tryz.ntmps89
 go_wp2
 go_ret
 exact ⟨rfl,rfl⟩
theorem take_same (x:Int) (w:World):Calls Tryz.prog 89 #[.slice none 0 0,.int .i64 x] w fun e w'=>e= .returned (.bool false)/\w'=w:=(take_nil x w).mono fun _ _ h=>⟨h.1,h.2.symm⟩
theorem rwordy_walk (c:Int) (w:World):Calls Tryz.prog 129 #[.int .i32 c] w fun e w'=>e= .returned (.bool (wordyB c))/\w=w':=by
 have HL:=Lib.hid (fun W=>rLetter_walk c W)
 have HD:=Lib.hid (fun W=>rDigit_walk c W)
 have HR:Hid (wordyB c=(letB c||(digB c||decide (c=175)))):=by
  unfold Hid wordyB
  cases letB c <;> cases digB c <;> cases decide (c=175) <;> rfl
 obtain ⟨h,hh⟩:∃ h:Bool,(c==175)=h:=⟨_,rfl⟩
 have HH:Hid (decide (c=175)=h):=hh
 generalize letB c=x at *
 generalize digB c=y at *
 generalize wordyB c=R at *
 cases x <;> cases y <;> cases h
 all_goals go_enter Tryz.func129,Tryz.ntmps129
 all_goals go_wp2_with fail
 all_goals (with_reducible refine (HL.out _).mono ?_)
 all_goals rintro e w1 ⟨rfl,rfl⟩
 all_goals go_wp2_with fail
 all_goals first
  | (go_ret;exact ⟨by rw [HR.out,HH.out];rfl,rfl⟩)
  | ((with_reducible refine (HD.out _).mono ?_);rintro e w2 ⟨rfl,rfl⟩;go_wp2;go_ret;exact ⟨by rw [HR.out,HH.out];rfl,rfl⟩)
end Go.Proofs.YtbakjaliponbbaaGreatDoor
