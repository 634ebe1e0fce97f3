/- Words for memory: rows of runes that a call owns; slices that read as lists; one more rune appended. Words for memory: slices of one-cell elements of any type .. Conditions: as each theorem says. -/
import Derived.Test.YtbakjaliponbbaaGreatDoorProg
import Derived.WalkKit
import Derived.WalkLawsBesides
import Derived.Maps.AppendAt
import Derived.Lib.Hide
import Derived.Outline
import Derived.Deep.DeepCutAuto
import Derived.Deep.CutBlock
import Derived.Laws.RangeAny
import Derived.Laws.IdiomStrings
import Derived.Lib.RuneCount
set_option maxRecDepth 100000
set_option maxHeartbeats 1600000
namespace Go.Proofs.YtbakjaliponbbaaGreatDoor
open Go Go.RowKit Go.Proofs
def Runes (w:World) (v:Value) (l:List Int):Prop :=
 (∃ a c,v= .slice a 0 c/\l=[]) \/
 (∃ b o n c,v= .slice (some ⟨b,o,none⟩) n c/\n=l.length/\∀ i (h:i < l.length),w.cell? ⟨b,o+i,none⟩=some (.int .i32 l[i]))
theorem cell_lt {w:World}{a:Addr}{v:Value} (h:w.cell? a=some v):a.block < w.heap.size:=by
 unfold World.cell? at h
 rcases Nat.lt_or_ge a.block w.heap.size with hlt | hge
 ·exact hlt
 ·rw [Array.getElem?_eq_none hge] at h;simp at h
theorem Runes.below {w w':World}{v:Value}{l:List Int} (h:Runes w v l) (hb:Below w.heap.size w w'):Runes w' v l:=by
 rcases h with h | ⟨b,o,n,c,rfl,hn,hc⟩
 ·exact .inl h
 ·exact .inr ⟨b,o,n,c,rfl,hn,fun i hi=>by rw [hb.cell (cell_lt (hc i hi))];exact hc i hi⟩
def OwnR (w:World) (B:Nat) (v:Value) (l:List Int):Prop:=w.ownsRow B 21 1 v l.length (l.map (Value.int .i32))
theorem OwnR.nil (w:World) (B:Nat):OwnR w B (.slice none 0 0) []:=World.ownsRow_nil w B _ _
theorem OwnR.runes {w:World}{B:Nat}{v:Value}{l:List Int} (h:OwnR w B v l):Runes w v l:=by
 have h':=h
 rcases h.2 with ⟨rfl,hn⟩ | ⟨g,cap,cur,rfl,hbg,hg,hnc,hcm,hcs,htake⟩
 ·exact .inl ⟨none,0,rfl,List.eq_nil_of_length_eq_zero hn⟩
 ·refine .inr ⟨g,0,l.length,cap,rfl,rfl,fun i hi=>?_⟩
  have:=World.ownsRow.cellAt h' i (by omega)
  rw [Nat.zero_add,this]
  simp [hi]
theorem OwnR.len {w:World}{B:Nat}{v:Value}{l:List Int} (h:OwnR w B v l):∃ a c,v= .slice a l.length c:=by
 rcases h.2 with ⟨rfl,hn⟩ | ⟨g,cap,cur,rfl,_⟩
 ·exact ⟨none,0,by rw [hn]⟩
 ·exact ⟨_,_,rfl⟩
theorem OwnR.below {w w':World}{B:Nat}{v:Value}{l:List Int} (h:OwnR w B v l) (hb:Below w.heap.size w w'):OwnR w' B v l:=by
 refine ⟨h.1,?_⟩
 rcases h.2 with h2 | ⟨g,cap,cur,hv,hbg,hg,r⟩
 ·exact .inl h2
 ·refine .inr ⟨g,cap,cur,hv,hbg,?_,r⟩
  have hlt:g < w.heap.size:=by
   rcases Nat.lt_or_ge g w.heap.size with hlt | hge
   ·exact hlt
   ·rw [Array.getElem?_eq_none hge] at hg;cases hg
  rw [hb.block g hlt];exact hg
theorem OwnR.lower {w:World}{B B':Nat}{v:Value}{l:List Int} (h:OwnR w B v l) (hB:B'<=B):OwnR w B' v l:=by
 refine ⟨h.1,?_⟩
 rcases h.2 with h2 | ⟨g,cap,cur,hv,hbg,r⟩
 ·exact .inl h2
 ·exact .inr ⟨g,cap,cur,hv,by omega,r⟩
theorem OwnR.alloc {w:World}{B:Nat}{v:Value}{l:List Int} (h:OwnR w B v l) (o:Obj):OwnR (w.alloc o) B v l:=World.ownsRow.alloc h o
def Apart (v d:Value):Prop:=v.ownBlock=none\/d.ownBlock=none\/v.ownBlock≠d.ownBlock
theorem Apart.symm {v d:Value} (h:Apart v d):Apart d v:=by
 rcases h with h | h | h
 ·exact .inr (.inl h)
 ·exact .inl h
 ·exact .inr (.inr fun e=>h e.symm)
theorem info_i32:(Tryz.prog.info? 21).map (fun i=>(i.zero,i.size,i.bytes))=some (some (.int .i32 0),1,4):=by kernel_rfl
theorem wpList_app1 {ops:Array Oper}{rest:List Oper}{o:Oper}{a:Act}{Q:Exit->Act->World->Prop}{w:World} (hgd:o.guard=none) (s x:Operand)
  (ho:o.op= .call { callee := .builtin .append,args:=#[s,x],argTypes:=#[27,27]})
  (B:Nat) (v:Value) (l:List Int) (hs:a.eval s=v) (hown:OwnR w B v l) (c:Int)
  (hx:a.eval x= .slice (some ⟨w.heap.size,0,none⟩) 1 1) (hl:l.length<=1099511627776) (hB:B<=w.heap.size)
  (h:∀ v' w',OwnR w' B v' (l++[c])->(∀ w0,Below B w0 w->Below B w0 w')->(∀ d m,OwnR w B d m->Apart v d->OwnR w' B d m/\Apart v' d)->w.heap.size<=w'.heap.size ->
   wpList Tryz.prog ops Q rest (a.put o.dst v') w'):wpList Tryz.prog ops Q (o::rest) a (w.alloc (.cells #[.int .i32 c] 21)):=by
 obtain ⟨i0,hi0,hz0,hz1,hz2⟩:=info_parts info_i32
 refine wpList_append_own_at _ hgd s x 27 ho B 21 i0 (.int .i32 0) 1 4 Tryz.underlying27 hi0 hz0 hz1 hz2 rfl (by omega) v l.length _ hs
  (World.ownsRow.alloc hown _) ⟨w.heap.size,0,none⟩ 1 1 [.int .i32 c] hx rfl (cell_one_new w _ _) (by simp [Value.oneCell']) (by unfold maxLen;omega) (by omega) (by simp;omega) ?_
 intro v' w' hown' hg _ hat
 have hsz:w.heap.size+1<=w'.heap.size:=by have:=hg.size;simpa using this
 refine h v' w' ?_ ?_ ?_ (by omega)
 ·unfold OwnR
  rw [List.length_append,List.map_append]
  exact hown'
 ·intro w0 hb
  exact ((hb.alloc hB _).grown hg (by simp;omega) fun k hk=>(World.ownsRow.lt hown k hk).1)
 ·intro d m hd hap
  have hd':(w.alloc (.cells #[.int .i32 c] 21)).ownsRow B 21 1 d m.length (m.map (Value.int .i32)):=World.ownsRow.alloc hd _
  refine ⟨World.ownsRow.kept hd' hg ?_,?_⟩
  ·rcases hap with h1 | h1 | h1
   ·cases hdb:d.ownBlock with
    | none=>exact .inl rfl
    | some k=>right;rw [h1];simp
   ·exact .inl h1
   ·exact .inr fun e=>h1 e.symm
  ·rcases hat with e | e
   ·unfold Apart;rw [e];exact hap
   ·refine .inr (.inr ?_)
    rw [e]
    intro he
    have:=(World.ownsRow.lt hd _ he.symm).2
    simp at this
    omega
theorem wpList_appL {ops:Array Oper}{rest:List Oper}{o:Oper}{a:Act}{Q:Exit->Act->World->Prop}{w:World} (hgd:o.guard=none) (s x:Operand)
  (ho:o.op= .call { callee := .builtin .append,args:=#[s,x],argTypes:=#[27,27]})
  (B:Nat) (v:Value) (l:List Int) (hs:a.eval s=v) (hown:OwnR w B v l) (b f c:Nat) (m:List Int)
  (hx:a.eval x= .slice (some ⟨b,f,none⟩) m.length c) (hc:∀ i (h:i < m.length),w.cell? ⟨b,f+i,none⟩=some (.int .i32 m[i])) (hl:l.length+m.length<=1099511627776) (hB:B<=w.heap.size)
  (h:∀ v' w',OwnR w' B v' (l++m)->(∀ w0,Below B w0 w->Below B w0 w')->(∀ d k,OwnR w B d k->Apart v d->OwnR w' B d k/\Apart v' d)->w.heap.size<=w'.heap.size ->
   wpList Tryz.prog ops Q rest (a.put o.dst v') w'):wpList Tryz.prog ops Q (o::rest) a w:=by
 obtain ⟨i0,hi0,hz0,hz1,hz2⟩:=info_parts info_i32
 refine wpList_append_own_at _ hgd s x 27 ho B 21 i0 (.int .i32 0) 1 4 Tryz.underlying27 hi0 hz0 hz1 hz2 rfl (by omega) v l.length _ hs
  hown ⟨b,f,none⟩ m.length c (m.map (Value.int .i32)) hx (by simp) ?_ ?_ (by unfold maxLen;omega) (by omega) hB ?_
 ·intro j u hj
  rw [List.getElem?_map] at hj
  obtain ⟨z,hz,rfl⟩:=Option.map_eq_some_iff.1 hj
  obtain ⟨hlt,rfl⟩:=List.getElem?_eq_some_iff.1 hz
  rw [<- hc j hlt]
  unfold Addr.add;split
  ·rename_i h0;subst h0;rfl
  ·rfl
 ·intro u hu
  obtain ⟨z,_,rfl⟩:=List.mem_map.1 hu
  rfl
 intro v' w' hown' hg _ hat
 refine h v' w' ?_ ?_ ?_ hg.size
 ·unfold OwnR
  rw [List.length_append,List.map_append]
  exact hown'
 ·intro w0 hb
  exact hb.grown hg hB fun k hk=>(World.ownsRow.lt hown k hk).1
 ·intro d k hd hap
  refine ⟨World.ownsRow.kept hd hg ?_,?_⟩
  ·rcases hap with h1 | h1 | h1
   ·cases hdb:d.ownBlock with
    | none=>exact .inl rfl
    | some k=>right;rw [h1];simp
   ·exact .inl h1
   ·exact .inr fun e=>h1 e.symm
  ·rcases hat with e | e
   ·unfold Apart;rw [e];exact hap
   ·refine .inr (.inr ?_)
    rw [e]
    intro he
    have:=(World.ownsRow.lt hd _ he.symm).2
    omega
theorem OwnR.form {w:World}{B:Nat}{v:Value}{l:List Int} (h:OwnR w B v l) (hl:l≠[]) :
  ∃ g c,v= .slice (some ⟨g,0,none⟩) l.length c/\∀ w' B',OwnR w' B' v l->∀ i (hi:i < l.length),w'.cell? ⟨g,i,none⟩=some (.int .i32 l[i]):=by
 rcases h.2 with ⟨rfl,hn⟩ | ⟨g,cap,cur,rfl,hbg,hg,hnc,hcm,hcs,htake⟩
 ·exact absurd (List.eq_nil_of_length_eq_zero hn) hl
 ·refine ⟨g,cap,rfl,fun w' B' h' i hi=>?_⟩
  have:=World.ownsRow.cellAt h' i (by omega)
  rw [this]
  simp [hi]
def Reads1 (w:World) (v:Value) (xs:List Value):Prop :=
 (∃ a c,v= .slice a 0 c/\xs=[]) \/
 (∃ b o n c,v= .slice (some ⟨b,o,none⟩) n c/\n=xs.length/\∀ i (h:i < xs.length),w.cell? ⟨b,o+i,none⟩=some xs[i])
theorem Reads1.below {w w':World}{v:Value}{xs:List Value} (h:Reads1 w v xs) (hb:Below w.heap.size w w'):Reads1 w' v xs:=by
 rcases h with h | ⟨b,o,n,c,rfl,hn,hc⟩
 ·exact .inl h
 ·exact .inr ⟨b,o,n,c,rfl,hn,fun i hi=>by rw [hb.cell (cell_lt (hc i hi))];exact hc i hi⟩
theorem Reads1.len {w:World}{v:Value}{xs:List Value} (h:Reads1 w v xs):∃ a c,v= .slice a xs.length c:=by
 rcases h with ⟨a,c,rfl,rfl⟩ | ⟨b,o,n,c,rfl,hn,hc⟩
 ·exact ⟨a,c,rfl⟩
 ·exact ⟨_,c,by rw [hn]⟩
theorem Reads1.cells {w:World}{v:Value}{xs:List Value} (h:Reads1 w v xs) (hne:xs≠[]) :
  ∃ b o c,v= .slice (some ⟨b,o,none⟩) xs.length c/\∀ i (h:i < xs.length),w.cell? ⟨b,o+i,none⟩=some xs[i]:=by
 rcases h with ⟨a,c,rfl,rfl⟩ | ⟨b,o,n,c,rfl,hn,hc⟩
 ·exact absurd rfl hne
 ·exact ⟨b,o,c,by rw [hn],hc⟩
def Own1 (w:World) (B:Nat) (e:TypeId) (v:Value) (xs:List Value):Prop:=w.ownsRow B e 1 v xs.length xs
theorem Own1.nil (w:World) (B:Nat) (e:TypeId):Own1 w B e (.slice none 0 0) []:=World.ownsRow_nil w B _ _
theorem Own1.reads {w:World}{B:Nat}{e:TypeId}{v:Value}{xs:List Value} (h:Own1 w B e v xs):Reads1 w v xs:=by
 have h':=h
 rcases h.2 with ⟨rfl,hn⟩ | ⟨g,cap,cur,rfl,hbg,hg,hnc,hcm,hcs,htake⟩
 ·exact .inl ⟨none,0,rfl,List.eq_nil_of_length_eq_zero hn⟩
 ·refine .inr ⟨g,0,xs.length,cap,rfl,rfl,fun i hi=>?_⟩
  have:=World.ownsRow.cellAt h' i (by omega)
  rw [Nat.zero_add,this]
  simp [hi]
theorem Own1.below {w w':World}{B:Nat}{e:TypeId}{v:Value}{xs:List Value} (h:Own1 w B e v xs) (hb:Below w.heap.size w w'):Own1 w' B e v xs:=by
 refine ⟨h.1,?_⟩
 rcases h.2 with h2 | ⟨g,cap,cur,hv,hbg,hg,r⟩
 ·exact .inl h2
 ·refine .inr ⟨g,cap,cur,hv,hbg,?_,r⟩
  have hlt:g < w.heap.size:=by
   rcases Nat.lt_or_ge g w.heap.size with hlt | hge
   ·exact hlt
   ·rw [Array.getElem?_eq_none hge] at hg;cases hg
  rw [hb.block g hlt];exact hg
theorem Own1.alloc {w:World}{B:Nat}{e:TypeId}{v:Value}{xs:List Value} (h:Own1 w B e v xs) (o:Obj):Own1 (w.alloc o) B e v xs:=World.ownsRow.alloc h o
theorem OwnR.own {w:World}{B:Nat}{v:Value}{l:List Int} (h:OwnR w B v l):Own1 w B 21 v (l.map (Value.int .i32)):=by
 unfold Own1;rw [List.length_map];exact h
inductive RTree where
 | mk (kind:Int) (nums:List Nat) (text:List Int) (name:ByteArray) (char:Int) (kids:List RTree)
mutual
def RN (w:World):RTree->List Value->Prop
 | .mk k nums text name c kids,vs=>∃ nv tv kv,vs=[.int .i64 k,nv,tv,.string name,.int .i32 c,kv]/\Reads1 w nv (nums.map (Value.float .f64))/\Reads1 w tv (text.map (Value.int .i32)) /\
   ((kids=[]/\∃ a cc,kv= .slice a 0 cc)\/(kids≠[]/\∃ b o cc,kv= .slice (some ⟨b,o,none⟩) kids.length cc/\kids.length<=cc/\RKs w b o kids))
def RKs (w:World) (b:Nat):Nat->List RTree->Prop
 | _,[]=>True
 | o,t::ts=>(∃ v0 v1 v2 v3 v4 v5,w.cell? ⟨b,o,none⟩=some v0/\w.cell? ⟨b,o+1,none⟩=some v1/\w.cell? ⟨b,o+2,none⟩=some v2/\w.cell? ⟨b,o+3,none⟩=some v3/\w.cell? ⟨b,o+4,none⟩=some v4/\w.cell? ⟨b,o+5,none⟩=some v5 /\
   RN w t [v0,v1,v2,v3,v4,v5])/\RKs w b (o+6) ts
end
mutual
theorem RN.below {w w':World} (hb:Below w.heap.size w w'):∀ (t:RTree) (vs:List Value),RN w t vs->RN w' t vs
 | .mk k nums text name c kids,vs,h=>by
  rw [RN] at h ⊢
  obtain ⟨nv,tv,kv,h1,h2,h3,h4⟩:=h
  refine ⟨nv,tv,kv,h1,h2.below hb,h3.below hb,?_⟩
  rcases h4 with h4 | ⟨h4,b,o,cc,h5,h5c,h6⟩
  ·exact .inl h4
  ·exact .inr ⟨h4,b,o,cc,h5,h5c,RKs.below hb b o kids h6⟩
theorem RKs.below {w w':World} (hb:Below w.heap.size w w') (b:Nat):∀ (o:Nat) (ts:List RTree),RKs w b o ts->RKs w' b o ts
 | _,[],_=>by rw [RKs];trivial
 | o,t::ts,h=>by
  rw [RKs] at h ⊢
  obtain ⟨⟨v0,v1,v2,v3,v4,v5,h0,h1,h2,h3,h4,h5,h6⟩,h7⟩:=h
  have k:∀ {p:Addr} {v:Value},w.cell? p=some v->w'.cell? p=some v:=fun {p v} h=>by rw [hb.cell (cell_lt h)];exact h
  exact ⟨⟨v0,v1,v2,v3,v4,v5,k h0,k h1,k h2,k h3,k h4,k h5,RN.below hb t _ h6⟩,RKs.below hb b (o+6) ts h7⟩
end
theorem RKs.at_ {w:World}{b:Nat}:∀ {ts:List RTree}{o i:Nat} (hi:i < ts.length),RKs w b o ts->∃ v0 v1 v2 v3 v4 v5,w.cell? ⟨b,o+i*6,none⟩=some v0/\w.cell? ⟨b,o+i*6+1,none⟩=some v1/\w.cell? ⟨b,o+i*6+2,none⟩=some v2 /\
  w.cell? ⟨b,o+i*6+3,none⟩=some v3/\w.cell? ⟨b,o+i*6+4,none⟩=some v4/\w.cell? ⟨b,o+i*6+5,none⟩=some v5/\RN w ts[i] [v0,v1,v2,v3,v4,v5]
 | [],_,_,hi,_=>by simp at hi
 | t::ts,o,0,_,h=>by
  rw [RKs] at h
  simpa using h.1
 | t::ts,o,i+1,hi,h=>by
  rw [RKs] at h
  have:=RKs.at_ (ts:=ts) (o:=o+6) (i:=i) (by simpa using hi) h.2
  have e:o+6+i*6=o+(i+1)*6:=by omega
  rw [e] at this
  simpa using this
mutual
def sizeR:RTree->Nat
 | .mk _ _ _ _ _ kids=>1+sizeRs kids
def sizeRs:List RTree->Nat
 | []=>0
 | t::ts=>sizeR t+sizeRs ts
end
theorem sizeR_pos:∀ t:RTree,1<=sizeR t
 | .mk _ _ _ _ _ _=>by rw [sizeR];omega
theorem sizeRs_at:∀ {ts:List RTree}{i:Nat} (hi:i < ts.length),sizeR ts[i]<=sizeRs ts
 | [],_,hi=>by simp at hi
 | t::ts,0,_=>by rw [sizeRs];simp
 | t::ts,i+1,hi=>by
  have:=sizeRs_at (ts:=ts) (i:=i) (by simpa using hi)
  rw [sizeRs];simp;omega
theorem sizeRs_len:∀ ts:List RTree,ts.length<=sizeRs ts
 | []=>by simp [sizeRs]
 | t::ts=>by have:=sizeRs_len ts;have:=sizeR_pos t;rw [sizeRs];simp;omega
theorem sizeRs_take:∀ (ts:List RTree) (i:Nat) (hi:i < ts.length),sizeRs (ts.take (i+1))=sizeRs (ts.take i)+sizeR ts[i]
 | [],_,hi=>by simp at hi
 | t::ts,0,_=>by simp [sizeRs]
 | t::ts,i+1,hi=>by
  have:=sizeRs_take ts i (by simpa using hi)
  simp only [List.take_succ_cons,sizeRs,List.getElem_cons_succ]
  omega
theorem sizeRs_le:∀ (ts:List RTree) (i:Nat),sizeRs (ts.take i)<=sizeRs ts
 | [],i=>by simp
 | t::ts,0=>by simp [sizeRs]
 | t::ts,i+1=>by have:=sizeRs_le ts i;simp only [List.take_succ_cons,sizeRs];omega
theorem RN.open_ {w:World}{k:Int}{nums:List Nat}{text:List Int}{name:ByteArray}{c:Int}{kids:List RTree}{vs:List Value} (h:RN w (.mk k nums text name c kids) vs) :
  ∃ nv tv A cc m,vs=[.int .i64 k,nv,tv,.string name,.int .i32 c,.slice A m cc]/\Reads1 w nv (nums.map (Value.float .f64))/\Reads1 w tv (text.map (Value.int .i32))/\m=kids.length /\
   ∀ i (hi:i < kids.length),∃ b o v0 v1 v2 v3 v4 v5,A=some ⟨b,o,none⟩/\RN w kids[i] [v0,v1,v2,v3,v4,v5]/\∀ w1,Below w.heap.size w w1 ->
    w1.cell? ⟨b,o+i*6,none⟩=some v0/\w1.cell? ⟨b,o+i*6+1,none⟩=some v1/\w1.cell? ⟨b,o+i*6+2,none⟩=some v2/\w1.cell? ⟨b,o+i*6+3,none⟩=some v3/\w1.cell? ⟨b,o+i*6+4,none⟩=some v4/\w1.cell? ⟨b,o+i*6+5,none⟩=some v5:=by
 rw [RN] at h
 obtain ⟨nv,tv,kv,h1,h2,h3,h4⟩:=h
 rcases h4 with ⟨rfl,a,cc,rfl⟩ | ⟨h4,b,o,cc,rfl,_,h6⟩
 ·exact ⟨nv,tv,a,cc,0,h1,h2,h3,rfl,fun i hi=>by simp at hi⟩
 ·refine ⟨nv,tv,_,cc,_,h1,h2,h3,rfl,fun i hi=>?_⟩
  obtain ⟨v0,v1,v2,v3,v4,v5,c0,c1,c2,c3,c4,c5,hr⟩:=RKs.at_ hi h6
  refine ⟨b,o,v0,v1,v2,v3,v4,v5,rfl,hr,fun w1 hb=>?_⟩
  have k:∀ {p:Addr} {v:Value},w.cell? p=some v->w1.cell? p=some v:=fun {p v} h=>by rw [hb.cell (cell_lt h)];exact h
  exact ⟨k c0,k c1,k c2,k c3,k c4,k c5⟩
theorem RN.cap {w:World}{t:RTree}{v0 v1 v2 v3 v4:Value}{A:Option Addr}{m cc:Nat} (h:RN w t [v0,v1,v2,v3,v4,.slice A m cc]):m<=cc:=by
 cases t with
 | mk k nums text name c kids =>
  rw [RN] at h
  obtain ⟨nv,tv,kv,h1,h2,h3,h4⟩:=h
  simp only [List.cons.injEq,and_true] at h1
  obtain ⟨-,-,-,-,-,rfl⟩:=h1
  rcases h4 with ⟨-,a,c',e⟩ | ⟨-,b,o,c',e,hc,-⟩
  ·injection e with _ e _
   omega
  ·injection e with _ e1 e2
   omega
def SomeN (m:Nat) (e:Ending):Prop:=∃ n:Int,1<=n/\n<=m/\e= .returned (.int .i64 n)
def SomeB (e:Ending):Prop:=∃ b:Bool,e= .returned (.bool b)
theorem count_R (most:Int):∀ (N:Nat) (t:RTree) (v0 v1 v2 v3 v4 v5:Value) (w:World),sizeR t<=N->sizeR t<=1048576->RN w t [v0,v1,v2,v3,v4,v5] ->
  Calls Tryz.prog 23 #[.agg #[v0,v1,v2,v3,v4,v5],.int .i64 most] w fun e w'=>SomeN (sizeR t) e/\Below w.heap.size w w'
 | 0,t,_,_,_,_,_,_,_,h,_,_=>by have:=sizeR_pos t;omega
 | N+1,.mk k nums text name c kids,v0,v1,v2,v3,v4,v5,w,hN,hM,hr=>by
  obtain ⟨nv,tv,A,cc,m,hvs,_,_,hm,hkid⟩:=hr.open_
  simp only [List.cons.injEq,and_true] at hvs
  obtain ⟨rfl,rfl,rfl,rfl,rfl,rfl⟩:=hvs
  have HK:=Lib.hid hkid
  have HM:=Lib.hid hm
  have hsz:sizeR (.mk k nums text name c kids)=1+sizeRs kids:=by rw [sizeR]
  have HSZ:=Lib.hid hsz
  have hlen:=sizeRs_len kids
  have hm2:m<=1048576:=by omega
  have HIH:Hid (∀ t v0 v1 v2 v3 v4 v5 w,sizeR t<=N->sizeR t<=1048576->RN w t [v0,v1,v2,v3,v4,v5]->Calls Tryz.prog 23 #[.agg #[v0,v1,v2,v3,v4,v5],.int .i64 most] w fun e w'=>SomeN (sizeR t) e/\Below w.heap.size w w'):=count_R most N
  have HTK:Hid (∀ i (hi:i < kids.length),sizeRs (kids.take (i+1))=sizeRs (kids.take i)+sizeR kids[i]):=fun i hi=>sizeRs_take kids i hi
  have HLE:Hid (∀ i,sizeRs (kids.take i)<=sizeRs kids):=fun i=>sizeRs_le kids i
  have HAT:Hid (∀ i (hi:i < kids.length),sizeR kids[i]<=sizeRs kids):=fun i hi=>sizeRs_at hi
  have HN2:Hid (1+sizeRs kids<=N+1/\1+sizeRs kids<=1048576):=by unfold Hid;omega
  have HB0:Hid (Below w.heap.size w (w.alloc (.cells #[.int .i64 k,v1,v2,.string name,.int .i32 c,.slice A m cc] 29))):=(Below.refl _ w).alloc (Nat.le_refl _) _
  clear hkid hm hsz hlen hN hM hr
  go_enter Tryz.func23,Tryz.ntmps23
  go_wp2
  have hk0:(w.alloc (.cells #[.int .i64 k,v1,v2,.string name,.int .i32 c,.slice A m cc] 29)).cell? ⟨w.heap.size,5,none⟩=some (.slice A m cc):=by rw [World.cell?_alloc_at _ _ _ _ rfl];rfl
  have HK0:=Lib.hid hk0
  have hsz0:(w.alloc (.cells #[.int .i64 k,v1,v2,.string name,.int .i32 c,.slice A m cc] 29)).heap.size=w.heap.size+1:=by simp
  have HSZ0:=Lib.hid hsz0
  clear hk0 hsz0
  generalize w.alloc (.cells #[.int .i64 k,v1,v2,.string name,.int .i32 c,.slice A m cc] 29)=W at *
  go_loopw [5,6] (fun cv iv wr=>∃ (i:Nat) (n:Int),i<=m/\iv= .int .i64 (i:Int)/\cv= .int .i64 n/\1<=n/\n<=1048576/\Hid (n<=1+(sizeRs (kids.take i):Int))/\Below W.heap.size W wr) (fun _ iv _=>m - (intOf iv).toNat)
  case atStart=>exact ⟨0,1,Nat.zero_le _,rfl,rfl,by omega,by omega,by simp [Hid,sizeRs],Below.refl _ _⟩
  case round =>
   obtain ⟨i,n,hi,rfl,rfl,h1,h2,hn,hbl⟩:=hrel
   have HBL:=Lib.hid hbl
   have HBW:Hid (Below w.heap.size w wr):=HB0.out.trans (hbl.mono (by have:=HSZ0.out;omega))
   have hk0:wr.cell? ⟨w.heap.size,5,none⟩=some (.slice A m cc):=by rw [hbl.cell (by have:=HSZ0.out;simp;omega)];exact HK0.out
   have hzw:W.heap.size<=wr.heap.size:=hbl.size
   clear hbl
   by_cases him:i < m
   ·by_cases hc:n<=most
    ·have hik:i < kids.length:=by have:=HM.out;omega
     obtain ⟨b,o,u0,u1,u2,u3,u4,u5,rfl,hr,hce⟩:=HK.out i hik
     obtain ⟨c0,c1,c2,c3,c4,c5⟩:=hce wr HBW.out
     have HTN:=Lib.hid (HTK.out i hik)
     have HIC:=Lib.hid (HIH.out kids[i] u0 u1 u2 u3 u4 u5 wr (by have:=HAT.out i hik;have:=HN2.out;omega) (by have:=HAT.out i hik;have:=HN2.out;omega) (hr.below HBW.out))
     clear hr hce
     go_wp2_with fail
     refine HIC.out.mono ?_
     rintro e w2 ⟨⟨n2,g1,g2,rfl⟩,hb⟩
     have HB2:=Lib.hid (HBL.out.trans (hb.mono hzw))
     have HN3:Hid (n+n2<=1+(sizeRs (kids.take (i+1)):Int)):=by unfold Hid;rw [HTN.out];have:=hn.out;push_cast;omega
     have hs1:n+n2<=1048576:=by have:=HN3.out;have:=HLE.out (i+1);have:=HN2.out;omega
     have hs2:1<=n+n2:=by omega
     clear hb hn
     go_wp2
     go_roundw
     case rel=>exact ⟨i+1,n+n2,by omega,by go_num,rfl,hs2,hs1,HN3.out,HB2.out⟩
     case measure=>simp [intOf];omega
    ·have HF:Hid (SomeN (sizeR (.mk k nums text name c kids)) (.returned (.int .i64 n))):=⟨n,h1,by rw [HSZ.out];have:=hn.out;have:=HLE.out i;push_cast;omega,rfl⟩
     clear hn
     go_wp2
     go_ret
     exact ⟨HF.out,HBW.out⟩
   ·have HF:Hid (SomeN (sizeR (.mk k nums text name c kids)) (.returned (.int .i64 n))):=⟨n,h1,by rw [HSZ.out];have:=hn.out;have:=HLE.out i;push_cast;omega,rfl⟩
    clear hn
    go_wp2
    go_ret
    exact ⟨HF.out,HBW.out⟩
theorem Reads1.slice {w:World}{v:Value}{xs:List Value} (h:Reads1 w v xs):∃ A n c,v= .slice A n c/\n=xs.length:=by
 obtain ⟨a,c,rfl⟩:=h.len;exact ⟨a,_,c,rfl,rfl⟩
def SomeBV (v:Value):Prop:=∃ b:Bool,v= .bool b
theorem short_R:∀ (N:Nat) (t:RTree) (v0 v1 v2 v3 v4 v5:Value) (w:World),sizeR t<=N->sizeR t<=1048576->RN w t [v0,v1,v2,v3,v4,v5] ->
  Calls Tryz.prog 34 #[.agg #[v0,v1,v2,v3,v4,v5]] w fun e w'=>SomeB e/\Below w.heap.size w w'
 | 0,t,_,_,_,_,_,_,_,h,_,_=>by have:=sizeR_pos t;omega
 | N+1,.mk k nums text name c kids,v0,v1,v2,v3,v4,v5,w,hN,hM,hr=>by
  obtain ⟨nv,tv,A,cc,m,hvs,hrn,hrt,hm,hkid⟩:=hr.open_
  simp only [List.cons.injEq,and_true] at hvs
  obtain ⟨rfl,rfl,rfl,rfl,rfl,rfl⟩:=hvs
  obtain ⟨A1,n1,c1,rfl,hx1⟩:=hrn.slice
  obtain ⟨A2,n2,c2,rfl,hx2⟩:=hrt.slice
  clear hx1 hx2
  have HK:=Lib.hid hkid
  have HM:=Lib.hid hm
  have hsz:sizeR (.mk k nums text name c kids)=1+sizeRs kids:=by rw [sizeR]
  have hlen:=sizeRs_len kids
  have hm2:m<=1048576:=by omega
  have HIH:Hid (∀ t v0 v1 v2 v3 v4 v5 w,sizeR t<=N->sizeR t<=1048576->RN w t [v0,v1,v2,v3,v4,v5]->Calls Tryz.prog 34 #[.agg #[v0,v1,v2,v3,v4,v5]] w fun e w'=>SomeB e/\Below w.heap.size w w'):=short_R N
  have HAT:Hid (∀ i (hi:i < kids.length),sizeR kids[i]<=sizeRs kids):=fun i hi=>sizeRs_at hi
  have HN2:Hid (1+sizeRs kids<=N+1/\1+sizeRs kids<=1048576):=by unfold Hid;omega
  have HB0:Hid (Below w.heap.size w (w.alloc (.cells #[.int .i64 k,.slice A1 n1 c1,.slice A2 n2 c2,.string name,.int .i32 c,.slice A m cc] 29))):=(Below.refl _ w).alloc (Nat.le_refl _) _
  clear hkid hm hsz hlen hN hM hr hrn hrt
  have hk0:(w.alloc (.cells #[.int .i64 k,.slice A1 n1 c1,.slice A2 n2 c2,.string name,.int .i32 c,.slice A m cc] 29)).cell? ⟨w.heap.size,5,none⟩=some (.slice A m cc):=by rw [World.cell?_alloc_at _ _ _ _ rfl];rfl
  have HK0:=Lib.hid hk0
  have hsz0:(w.alloc (.cells #[.int .i64 k,.slice A1 n1 c1,.slice A2 n2 c2,.string name,.int .i32 c,.slice A m cc] 29)).heap.size=w.heap.size+1:=by simp
  have HSZ0:=Lib.hid hsz0
  clear hk0 hsz0
  go_enter Tryz.func34,Tryz.ntmps34
  go_upto_region 1 with fail
  go_cut [3] from 5 (fun bv wx=>SomeBV bv/\wx=w.alloc (.cells #[.int .i64 k,.slice A1 n1 c1,.slice A2 n2 c2,.string name,.int .i32 c,.slice A m cc] 29))
  case first =>
   go_wp2
   all_goals
    go_meet
    exact ⟨⟨_,rfl⟩,rfl⟩
  case rest =>
   obtain ⟨⟨b0,rfl⟩,rfl⟩:=hcut
   go_wp2
   generalize w.alloc (.cells #[.int .i64 k,.slice A1 n1 c1,.slice A2 n2 c2,.string name,.int .i32 c,.slice A m cc] 29)=W at *
   go_loopw [3,4] (fun bv iv wr=>∃ (i:Nat),i<=m/\iv= .int .i64 (i:Int)/\SomeBV bv/\Below W.heap.size W wr) (fun _ iv _=>m - (intOf iv).toNat)
   case atStart=>exact ⟨0,Nat.zero_le _,rfl,⟨_,rfl⟩,Below.refl _ _⟩
   case round =>
    obtain ⟨i,hi,rfl,⟨ok,rfl⟩,hbl⟩:=hrel
    have HBL:=Lib.hid hbl
    have HBW:Hid (Below w.heap.size w wr):=HB0.out.trans (hbl.mono (by have:=HSZ0.out;omega))
    have hk0:wr.cell? ⟨w.heap.size,5,none⟩=some (.slice A m cc):=by rw [hbl.cell (by have:=HSZ0.out;simp;omega)];exact HK0.out
    have hzw:W.heap.size<=wr.heap.size:=hbl.size
    clear hbl
    by_cases him:i < m
    ·cases ok with
     | true =>
      have hik:i < kids.length:=by have:=HM.out;omega
      obtain ⟨b,o,u0,u1,u2,u3,u4,u5,rfl,hr,hce⟩:=HK.out i hik
      obtain ⟨c0,c1,c2,c3,c4,c5⟩:=hce wr HBW.out
      have HIC:=Lib.hid (HIH.out kids[i] u0 u1 u2 u3 u4 u5 wr (by have:=HAT.out i hik;have:=HN2.out;omega) (by have:=HAT.out i hik;have:=HN2.out;omega) (hr.below HBW.out))
      clear hr hce
      go_wp2_with fail
      refine HIC.out.mono ?_
      rintro e w2 ⟨⟨b2,rfl⟩,hb⟩
      have HB2:=Lib.hid (HBL.out.trans (hb.mono hzw))
      clear hb
      go_wp2
      go_roundw
      case rel=>exact ⟨i+1,by omega,by go_num,⟨_,rfl⟩,HB2.out⟩
      case measure=>simp [intOf];omega
     | false =>
      go_wp2
      go_roundw
      case rel=>first | exact ⟨i+1,by omega,by go_num,⟨_,rfl⟩,HBL.out⟩ | ((repeat apply Exists.intro);exact ⟨⟨by omega,by go_num,⟨_,rfl⟩,HBL.out⟩,rfl⟩)
      case measure=>simp [intOf];omega
    ·go_wp2
     go_ret
     exact ⟨⟨_,rfl⟩,HBW.out⟩
theorem small_R (t:RTree) (v0 v1 v2 v3 v4 v5:Value) (w:World) (hM:sizeR t<=1048576) (hr:RN w t [v0,v1,v2,v3,v4,v5]) :
  Calls Tryz.prog 7 #[.agg #[v0,v1,v2,v3,v4,v5]] w fun e w'=>SomeB e/\Below w.heap.size w w':=by
 have HB0:Hid (Below w.heap.size w (w.alloc (.cells #[v0,v1,v2,v3,v4,v5] 29))):=(Below.refl _ w).alloc (Nat.le_refl _) _
 have HCT:=Lib.hid (fun w' hb=>count_R 200 (sizeR t) t v0 v1 v2 v3 v4 v5 w' (Nat.le_refl _) hM (hr.below (w':=w') hb))
 have HSH:=Lib.hid (fun w' hb=>short_R (sizeR t) t v0 v1 v2 v3 v4 v5 w' (Nat.le_refl _) hM (hr.below (w':=w') hb))
 clear hM hr
 go_enter Tryz.func7,Tryz.ntmps7
 go_wp2_with fail
 refine (HCT.out _ HB0.out).mono ?_
 rintro e w1 ⟨⟨n,g1,g2,rfl⟩,hb⟩
 have hc0:∀ j,w1.cell? ⟨w.heap.size,j,none⟩=(w.alloc (.cells #[v0,v1,v2,v3,v4,v5] 29)).cell? ⟨w.heap.size,j,none⟩:=fun j=>hb.cell (p:=⟨w.heap.size,j,none⟩) (by simp)
 have d0:w1.cell? ⟨w.heap.size,0,none⟩=some v0:=by rw [hc0,World.cell?_alloc_at _ _ _ _ rfl];rfl
 have d1:w1.cell? ⟨w.heap.size,1,none⟩=some v1:=by rw [hc0,World.cell?_alloc_at _ _ _ _ rfl];rfl
 have d2:w1.cell? ⟨w.heap.size,2,none⟩=some v2:=by rw [hc0,World.cell?_alloc_at _ _ _ _ rfl];rfl
 have d3:w1.cell? ⟨w.heap.size,3,none⟩=some v3:=by rw [hc0,World.cell?_alloc_at _ _ _ _ rfl];rfl
 have d4:w1.cell? ⟨w.heap.size,4,none⟩=some v4:=by rw [hc0,World.cell?_alloc_at _ _ _ _ rfl];rfl
 have d5:w1.cell? ⟨w.heap.size,5,none⟩=some v5:=by rw [hc0,World.cell?_alloc_at _ _ _ _ rfl];rfl
 have HB1:=Lib.hid (HB0.out.trans (hb.mono HB0.out.size))
 clear hb hc0
 by_cases hn:150 < n
 ·go_wp2
  go_ret
  exact ⟨⟨_,rfl⟩,HB1.out⟩
 ·go_wp2_with fail
  refine (HSH.out _ HB1.out).mono ?_
  rintro e w2 ⟨⟨b,rfl⟩,hb⟩
  have HB2:=Lib.hid (HB1.out.trans (hb.mono HB1.out.size))
  clear hb
  go_wp2
  go_ret
  exact ⟨⟨_,rfl⟩,HB2.out⟩
mutual
def TN (w:World):RTree->List Value->Prop
 | .mk k nums text name c kids,vs=>∃ (at_:Int) (nv tv kv:Value),vs=[.int .i64 k,.int .i64 at_,nv,tv,.string name,.int .i32 c,kv]/\Reads1 w nv (nums.map (Value.float .f64))/\Reads1 w tv (text.map (Value.int .i32)) /\
   ((kids=[]/\∃ a cc,kv= .slice a 0 cc)\/(kids≠[]/\∃ b o cc,kv= .slice (some ⟨b,o,none⟩) kids.length cc/\kids.length<=cc/\TKs w b o kids))
def TKs (w:World) (b:Nat):Nat->List RTree->Prop
 | _,[]=>True
 | o,t::ts=>(∃ v0 v1 v2 v3 v4 v5 v6,w.cell? ⟨b,o,none⟩=some v0/\w.cell? ⟨b,o+1,none⟩=some v1/\w.cell? ⟨b,o+2,none⟩=some v2/\w.cell? ⟨b,o+3,none⟩=some v3/\w.cell? ⟨b,o+4,none⟩=some v4/\w.cell? ⟨b,o+5,none⟩=some v5/\w.cell? ⟨b,o+6,none⟩=some v6 /\
   TN w t [v0,v1,v2,v3,v4,v5,v6])/\TKs w b (o+7) ts
end
mutual
theorem TN.below {w w':World} (hb:Below w.heap.size w w'):∀ (t:RTree) (vs:List Value),TN w t vs->TN w' t vs
 | .mk k nums text name c kids,vs,h=>by
  rw [TN] at h ⊢
  obtain ⟨a,nv,tv,kv,h1,h2,h3,h4⟩:=h
  refine ⟨a,nv,tv,kv,h1,h2.below hb,h3.below hb,?_⟩
  rcases h4 with h4 | ⟨h4,b,o,cc,h5,h5c,h6⟩
  ·exact .inl h4
  ·exact .inr ⟨h4,b,o,cc,h5,h5c,TKs.below hb b o kids h6⟩
theorem TKs.below {w w':World} (hb:Below w.heap.size w w') (b:Nat):∀ (o:Nat) (ts:List RTree),TKs w b o ts->TKs w' b o ts
 | _,[],_=>by rw [TKs];trivial
 | o,t::ts,h=>by
  rw [TKs] at h ⊢
  obtain ⟨⟨v0,v1,v2,v3,v4,v5,v6,h0,h1,h2,h3,h4,h5,h6,h8⟩,h7⟩:=h
  have k:∀ {p:Addr} {v:Value},w.cell? p=some v->w'.cell? p=some v:=fun {p v} h=>by rw [hb.cell (cell_lt h)];exact h
  exact ⟨⟨v0,v1,v2,v3,v4,v5,v6,k h0,k h1,k h2,k h3,k h4,k h5,k h6,TN.below hb t _ h8⟩,TKs.below hb b (o+7) ts h7⟩
end
theorem TKs.at_ {w:World}{b:Nat}:∀ {ts:List RTree}{o i:Nat} (hi:i < ts.length),TKs w b o ts->∃ v0 v1 v2 v3 v4 v5 v6,w.cell? ⟨b,o+i*7,none⟩=some v0/\w.cell? ⟨b,o+i*7+1,none⟩=some v1/\w.cell? ⟨b,o+i*7+2,none⟩=some v2 /\
  w.cell? ⟨b,o+i*7+3,none⟩=some v3/\w.cell? ⟨b,o+i*7+4,none⟩=some v4/\w.cell? ⟨b,o+i*7+5,none⟩=some v5/\w.cell? ⟨b,o+i*7+6,none⟩=some v6/\TN w ts[i] [v0,v1,v2,v3,v4,v5,v6]
 | [],_,_,hi,_=>by simp at hi
 | t::ts,o,0,_,h=>by
  rw [TKs] at h
  simpa using h.1
 | t::ts,o,i+1,hi,h=>by
  rw [TKs] at h
  have:=TKs.at_ (ts:=ts) (o:=o+7) (i:=i) (by simpa using hi) h.2
  have e:o+7+i*7=o+(i+1)*7:=by omega
  rw [e] at this
  simpa using this
theorem TN.open_ {w:World}{k:Int}{nums:List Nat}{text:List Int}{name:ByteArray}{c:Int}{kids:List RTree}{vs:List Value} (h:TN w (.mk k nums text name c kids) vs) :
  ∃ (at_:Int) (nv tv:Value) (A:Option Addr) (cc m:Nat),vs=[.int .i64 k,.int .i64 at_,nv,tv,.string name,.int .i32 c,.slice A m cc]/\Reads1 w nv (nums.map (Value.float .f64))/\Reads1 w tv (text.map (Value.int .i32))/\m=kids.length /\
   ∀ i (hi:i < kids.length),∃ b o v0 v1 v2 v3 v4 v5 v6,A=some ⟨b,o,none⟩/\TN w kids[i] [v0,v1,v2,v3,v4,v5,v6]/\∀ w1,Below w.heap.size w w1 ->
    w1.cell? ⟨b,o+i*7,none⟩=some v0/\w1.cell? ⟨b,o+i*7+1,none⟩=some v1/\w1.cell? ⟨b,o+i*7+2,none⟩=some v2/\w1.cell? ⟨b,o+i*7+3,none⟩=some v3/\w1.cell? ⟨b,o+i*7+4,none⟩=some v4/\w1.cell? ⟨b,o+i*7+5,none⟩=some v5/\w1.cell? ⟨b,o+i*7+6,none⟩=some v6:=by
 rw [TN] at h
 obtain ⟨at_,nv,tv,kv,h1,h2,h3,h4⟩:=h
 rcases h4 with ⟨rfl,a,cc,rfl⟩ | ⟨h4,b,o,cc,rfl,_,h6⟩
 ·exact ⟨at_,nv,tv,a,cc,0,h1,h2,h3,rfl,fun i hi=>by simp at hi⟩
 ·refine ⟨at_,nv,tv,_,cc,_,h1,h2,h3,rfl,fun i hi=>?_⟩
  obtain ⟨v0,v1,v2,v3,v4,v5,v6,c0,c1,c2,c3,c4,c5,c6,hr⟩:=TKs.at_ hi h6
  refine ⟨b,o,v0,v1,v2,v3,v4,v5,v6,rfl,hr,fun w1 hb=>?_⟩
  have k:∀ {p:Addr} {v:Value},w.cell? p=some v->w1.cell? p=some v:=fun {p v} h=>by rw [hb.cell (cell_lt h)];exact h
  exact ⟨k c0,k c1,k c2,k c3,k c4,k c5,k c6⟩
theorem TN.cap {w:World}{k:Int}{nums:List Nat}{text:List Int}{name:ByteArray}{c:Int}{kids:List RTree}{u0 u1 u2 u3 u4 u5:Value}{A:Option Addr}{m cc:Nat} (h:TN w (.mk k nums text name c kids) [u0,u1,u2,u3,u4,u5,.slice A m cc]):m<=cc:=by
 rw [TN] at h
 obtain ⟨at_,nv,tv,kv,h1,h2,h3,h4⟩:=h
 simp only [List.cons.injEq,and_true] at h1
 obtain ⟨_,_,_,_,_,_,h7⟩:=h1
 rcases h4 with ⟨_,a,c2,rfl⟩ | ⟨_,b,o,c2,rfl,hc,_⟩
 ·cases h7;omega
 ·cases h7;exact hc
end Go.Proofs.YtbakjaliponbbaaGreatDoor
namespace Go.Proofs.YtbakjaliponbbaaGreatDoor
open Go
def rl (s:ByteArray):Nat->Nat->List Int
 | 0,_=>[]
 | f+1,i=>if i < s.size then ((Utf8.decode s i).1:Int)::rl s f (i+(Utf8.decode s i).2) else []
def runesOf (s:ByteArray):List Int:=rl s s.size 0
theorem rl_end (s:ByteArray){f i:Nat} (h:s.size<=i):rl s f i=[]:=by
 cases f with
 | zero=>rfl
 | succ f=>rw [rl,if_neg (by omega)]
theorem rl_len (s:ByteArray):∀ f i,(rl s f i).length<=f
 | 0,_=>Nat.le_refl _
 | f+1,i=>by
  rw [rl];split
  ·have:=rl_len s f (i+(Utf8.decode s i).2);simp;omega
  ·simp
theorem runesOf_len (s:ByteArray):(runesOf s).length<=s.size:=rl_len s _ _
theorem rl_fuel (s:ByteArray):∀ f g i,s.size - i<=f->s.size - i<=g->rl s f i=rl s g i
 | 0,g,i,h,_=>by rw [rl_end s (by omega),rl_end s (by omega)]
 | f+1,0,i,_,h=>by rw [rl_end s (by omega),rl_end s (by omega)]
 | f+1,g+1,i,h1,h2=>by
  rw [rl,rl]
  split
  ·rename_i hi
   have hw:=Lib.decode_width_pos s i hi
   rw [rl_fuel s f g _ (by omega) (by omega)]
  ·rfl
theorem rl_step (s:ByteArray){i:Nat} (h:i < s.size):rl s (s.size - i) i=((Utf8.decode s i).1:Int)::rl s (s.size - (i+(Utf8.decode s i).2)) (i+(Utf8.decode s i).2):=by
 have hw:=Lib.decode_width_pos s i h
 obtain ⟨f,hf⟩:∃ f,s.size - i=f+1:=⟨s.size - i - 1,by omega⟩
 rw [hf,rl,if_pos h,rl_fuel s f (s.size - (i+(Utf8.decode s i).2)) _ (by omega) (by omega)]
theorem conv_rl (s:ByteArray):∀ (b i:Nat) (acc:Array Value),Conv.runesFrom s b i acc=acc++((rl s b i).map (Value.int .i32)).toArray
 | 0,i,acc=>by simp [Conv.runesFrom,rl]
 | b+1,i,acc=>by
  unfold Conv.runesFrom
  rw [rl]
  split
  ·show Conv.runesFrom s b (i+(Utf8.decode s i).2) (acc.push (.int .i32 (Int.ofNat (Utf8.decode s i).1)))=_
   rw [conv_rl s b];simp
  ·simp
theorem conv_runesOf (s:ByteArray):Conv.runesFrom s s.size 0 #[]=((runesOf s).map (Value.int .i32)).toArray:=by rw [conv_rl];simp [runesOf]
end Go.Proofs.YtbakjaliponbbaaGreatDoor
