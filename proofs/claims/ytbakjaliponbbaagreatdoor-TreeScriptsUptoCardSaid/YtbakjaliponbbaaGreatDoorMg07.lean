/- The program's tree of a reference's tree: memory with its footprint; the walk of of. The walk of of. The walk of of, whole. The walk of of, its .. Conditions: as each theorem says. -/
import Derived.Test.YtbakjaliponbbaaGreatDoorMg04
import Derived.Deep.RegionHeld3
import Derived.Deep.AppendLies
import Derived.Deep.RegionLaw
set_option maxRecDepth 100000
set_option maxHeartbeats 3200000
namespace Go.Proofs.YtbakjaliponbbaaGreatDoor
open Go Go.RowKit Go.Proofs Fl
def ReadsF (F:Nat->Prop) (w:World) (v:Value) (xs:List Value):Prop :=
 (∃ a c,v= .slice a 0 c/\xs=[]) \/
 (∃ b o n c,v= .slice (some ⟨b,o,none⟩) n c/\n=xs.length/\F b/\∀ i (h:i < xs.length),w.cell? ⟨b,o+i,none⟩=some xs[i])
theorem ReadsF.reads {F:Nat->Prop}{w:World}{v:Value}{xs:List Value} (h:ReadsF F w v xs):Reads1 w v xs:=by
 rcases h with h | ⟨b,o,n,c,h1,h2,_,h3⟩
 ·exact .inl h
 ·exact .inr ⟨b,o,n,c,h1,h2,h3⟩
theorem ReadsF.keep {F F':Nat->Prop}{w w':World}{v:Value}{xs:List Value} (hF:∀ b,F b->F' b) (hk:∀ b,F b->w'.heap[b]?=w.heap[b]?) (h:ReadsF F w v xs):ReadsF F' w' v xs:=by
 rcases h with h | ⟨b,o,n,c,h1,h2,hb,h3⟩
 ·exact .inl h
 ·exact .inr ⟨b,o,n,c,h1,h2,hF b hb,fun i hi=>by rw [World.cell?_of_block (hk b hb)];exact h3 i hi⟩
theorem Reads1.foot {w:World}{v:Value}{xs:List Value} (h:Reads1 w v xs):ReadsF (fun b=>b < w.heap.size) w v xs:=by
 rcases h with h | ⟨b,o,n,c,h1,h2,h3⟩
 ·exact .inl h
 ·cases xs with
  | nil=>subst h1;subst h2;exact .inl ⟨_,c,rfl,rfl⟩
  | cons x xs=>exact .inr ⟨b,o,n,c,h1,h2,cell_lt (h3 0 (by simp)),h3⟩
mutual
def TNF (F:Nat->Prop) (w:World):RTree->List Value->Prop
 | .mk k nums text name c kids,vs=>∃ (at_:Int) (nv tv kv:Value),vs=[.int .i64 k,.int .i64 at_,nv,tv,.string name,.int .i32 c,kv]/\ReadsF F w nv (nums.map (Value.float .f64))/\ReadsF F w tv (text.map (Value.int .i32)) /\
   ((kids=[]/\∃ a cc,kv= .slice a 0 cc)\/(kids≠[]/\∃ b o cc,kv= .slice (some ⟨b,o,none⟩) kids.length cc/\kids.length<=cc/\F b/\TKsF F w b o kids))
def TKsF (F:Nat->Prop) (w:World) (b:Nat):Nat->List RTree->Prop
 | _,[]=>True
 | o,t::ts=>(∃ v0 v1 v2 v3 v4 v5 v6,w.cell? ⟨b,o,none⟩=some v0/\w.cell? ⟨b,o+1,none⟩=some v1/\w.cell? ⟨b,o+2,none⟩=some v2/\w.cell? ⟨b,o+3,none⟩=some v3/\w.cell? ⟨b,o+4,none⟩=some v4/\w.cell? ⟨b,o+5,none⟩=some v5/\w.cell? ⟨b,o+6,none⟩=some v6 /\
   TNF F w t [v0,v1,v2,v3,v4,v5,v6])/\TKsF F w b (o+7) ts
end
mutual
theorem TNF.tn {F:Nat->Prop}{w:World}:∀ (t:RTree) (vs:List Value),TNF F w t vs->TN w t vs
 | .mk k nums text name c kids,vs,h=>by
  rw [TNF] at h
  rw [TN]
  obtain ⟨a,nv,tv,kv,h1,h2,h3,h4⟩:=h
  refine ⟨a,nv,tv,kv,h1,h2.reads,h3.reads,?_⟩
  rcases h4 with h4 | ⟨h4,b,o,cc,h5,h5c,_,h6⟩
  ·exact .inl h4
  ·exact .inr ⟨h4,b,o,cc,h5,h5c,TKsF.tks b o kids h6⟩
theorem TKsF.tks {F:Nat->Prop}{w:World} (b:Nat):∀ (o:Nat) (ts:List RTree),TKsF F w b o ts->TKs w b o ts
 | _,[],_=>by rw [TKs];trivial
 | o,t::ts,h=>by
  rw [TKsF] at h
  rw [TKs]
  obtain ⟨⟨v0,v1,v2,v3,v4,v5,v6,h0,h1,h2,h3,h4,h5,h6,h8⟩,h7⟩:=h
  exact ⟨⟨v0,v1,v2,v3,v4,v5,v6,h0,h1,h2,h3,h4,h5,h6,TNF.tn t _ h8⟩,TKsF.tks b (o+7) ts h7⟩
end
mutual
theorem TNF.keep {F F':Nat->Prop}{w w':World} (hF:∀ b,F b->F' b) (hk:∀ b,F b->w'.heap[b]?=w.heap[b]?):∀ (t:RTree) (vs:List Value),TNF F w t vs->TNF F' w' t vs
 | .mk k nums text name c kids,vs,h=>by
  rw [TNF] at h ⊢
  obtain ⟨a,nv,tv,kv,h1,h2,h3,h4⟩:=h
  refine ⟨a,nv,tv,kv,h1,h2.keep hF hk,h3.keep hF hk,?_⟩
  rcases h4 with h4 | ⟨h4,b,o,cc,h5,h5c,hb,h6⟩
  ·exact .inl h4
  ·exact .inr ⟨h4,b,o,cc,h5,h5c,hF b hb,TKsF.keep hF hk b hb o kids h6⟩
theorem TKsF.keep {F F':Nat->Prop}{w w':World} (hF:∀ b,F b->F' b) (hk:∀ b,F b->w'.heap[b]?=w.heap[b]?) (b:Nat) (hb:F b):∀ (o:Nat) (ts:List RTree),TKsF F w b o ts->TKsF F' w' b o ts
 | _,[],_=>by rw [TKsF];trivial
 | o,t::ts,h=>by
  rw [TKsF] at h ⊢
  obtain ⟨⟨v0,v1,v2,v3,v4,v5,v6,h0,h1,h2,h3,h4,h5,h6,h8⟩,h7⟩:=h
  have k:∀ {i:Nat} {v:Value},w.cell? ⟨b,i,none⟩=some v->w'.cell? ⟨b,i,none⟩=some v:=fun {i v} h=>by rw [World.cell?_of_block (hk b hb)];exact h
  exact ⟨⟨v0,v1,v2,v3,v4,v5,v6,k h0,k h1,k h2,k h3,k h4,k h5,k h6,TNF.keep hF hk t _ h8⟩,TKsF.keep hF hk b hb (o+7) ts h7⟩
end
theorem TKsF.weaken {F F':Nat->Prop}{w:World} (hF:∀ b,F b->F' b) (b:Nat):∀ (o:Nat) (ts:List RTree),TKsF F w b o ts->TKsF F' w b o ts
 | _,[],_=>by rw [TKsF];trivial
 | o,t::ts,h=>by
  rw [TKsF] at h ⊢
  obtain ⟨⟨v0,v1,v2,v3,v4,v5,v6,h0,h1,h2,h3,h4,h5,h6,h8⟩,h7⟩:=h
  exact ⟨⟨v0,v1,v2,v3,v4,v5,v6,h0,h1,h2,h3,h4,h5,h6,TNF.keep hF (fun _ _=>rfl) t _ h8⟩,TKsF.weaken hF b (o+7) ts h7⟩
def KOwn (F:Nat->Prop) (w:World) (B:Nat) (v:Value) (kids:List RTree):Prop :=
 ∃ vss:List (List Value),vss.length=kids.length/\(∀ vs∈vss,vs.length=7)/\w.ownsRow B 31 7 v kids.length vss.flatten/\∀ i (h:i < kids.length) (h2:i < vss.length),TNF F w kids[i] vss[i]
theorem KOwn.nil (F:Nat->Prop) (w:World) (B:Nat):KOwn F w B (.slice none 0 0) [] :=
 ⟨[],rfl,by simp,World.ownsRow_nil w B _ _,fun i h=>by simp at h⟩
theorem flat7:∀ (vss:List (List Value)) (_:∀ vs∈vss,vs.length=7) (i j:Nat) (hi:i < vss.length) (_:j < 7),vss.flatten[i*7+j]?=vss[i][j]?
 | [],_,i,_,hi,_=>by simp at hi
 | vs::vss,h,0,j,_,hj=>by
  have:=h vs (by simp)
  rw [List.flatten_cons,List.getElem?_append_left (by omega)];simp
 | vs::vss,h,i+1,j,hi,hj=>by
  have h7:=h vs (by simp)
  rw [List.flatten_cons,List.getElem?_append_right (by omega)]
  have e:(i+1)*7+j - vs.length=i*7+j:=by omega
  rw [e,flat7 vss (fun v hv=>h v (by simp [hv])) i j (by simpa using hi) hj]
  simp
theorem KOwn.tks {F:Nat->Prop}{w:World}{B:Nat}{v:Value}{kids:List RTree} (h:KOwn F w B v kids) (hne:kids≠[]):∃ r cc,v= .slice (some ⟨r,0,none⟩) kids.length cc/\kids.length<=cc/\B<=r/\r < w.heap.size/\TKsF F w r 0 kids:=by
 obtain ⟨vss,hl,h7,hown,ht⟩:=h
 have hn:0 < kids.length:=List.length_pos_iff.2 hne
 have hlt:=World.ownsRow.lt hown
 have hcell:∀ {g:Nat},v.ownBlock=some g->∀ j u,vss.flatten[j]?=some u->w.cell? ((⟨g,0,none⟩:Addr).add j)=some u:=fun hg=>World.ownsRow.cells hown hg
 rcases hown.2 with ⟨_,h0⟩ | ⟨r,cap,cur,rfl,hbr,hg,hnc,_⟩
 ·omega
 ·refine ⟨r,cap,rfl,hnc,hbr,(hlt r rfl).2,?_⟩
  have key:∀ (n o:Nat) (ts:List RTree),ts=kids.drop n->o=n*7->TKsF F w r o ts:=by
   intro n o ts
   induction ts generalizing n o with
   | nil=>intro _ _;rw [TKsF];trivial
   | cons t ts ih =>
    intro h1 h2
    have hnl:n < kids.length:=by
     rcases Nat.lt_or_ge n kids.length with h | h
     ·exact h
     ·rw [List.drop_eq_nil_of_le h] at h1;cases h1
    rw [List.drop_eq_getElem_cons hnl] at h1
    obtain ⟨rfl,h3⟩:=List.cons.inj h1
    have hvl:=h7 vss[n] (List.getElem_mem (by omega))
    obtain ⟨v0,v1,v2,v3,v4,v5,v6,hv⟩:∃ v0 v1 v2 v3 v4 v5 v6,vss[n]=[v0,v1,v2,v3,v4,v5,v6]:=by
     match vss[n],hvl with
     | [v0,v1,v2,v3,v4,v5,v6],_=>exact ⟨v0,v1,v2,v3,v4,v5,v6,rfl⟩
    have ht2:=ht n hnl (by omega)
    rw [hv] at ht2
    have hc:∀ j u,j < 7->[v0,v1,v2,v3,v4,v5,v6][j]?=some u->w.cell? ⟨r,o+j,none⟩=some u:=by
     intro j u hj hu
     have:=hcell (g:=r) rfl (n*7+j) u (by rw [flat7 vss h7 n j (by omega) hj,hv];exact hu)
     rw [h2]
     have e:(⟨r,0,none⟩:Addr).add (n*7+j)=⟨r,n*7+j,none⟩:=by
      unfold Addr.add;split
      ·rename_i h0;rw [h0]
      ·simp
     rw [<- e];exact this
    rw [TKsF]
    exact ⟨⟨v0,v1,v2,v3,v4,v5,v6,hc 0 _ (by omega) rfl,hc 1 _ (by omega) rfl,hc 2 _ (by omega) rfl,hc 3 _ (by omega) rfl,hc 4 _ (by omega) rfl,hc 5 _ (by omega) rfl,hc 6 _ (by omega) rfl,ht2⟩,ih (n+1) (o+7) h3 (by omega)⟩
  exact key 0 0 kids rfl rfl
theorem info_node:(Tryz.prog.info? 31).map (fun i=>(i.zero,i.size,i.bytes))=some (some (.agg #[.int .i64 0,.int .i64 0,.slice none 0 0,.slice none 0 0,.string ⟨#[]⟩,.int .i32 0,.slice none 0 0]),7,112):=by kernel_rfl
theorem step_pushN {ops:Array Oper}{o:Oper}{a:Act}{K:Act->World->Prop}{Q:Exit->Act->World->Prop}{E:Prop}{w:World} (hgd:o.guard=none) (s x:Operand)
  (ho:o.op= .call { callee := .builtin .append,args:=#[s,x],argTypes:=#[24,24]})
  (B:Nat) (v:Value) (n:Nat) (xs:List Value) (hs:a.eval s=v) (hown:w.ownsRow B 31 7 v n xs) (G:Nat) (us:List Value) (hx:a.eval x= .slice (some ⟨G,0,none⟩) 1 1) (hG:∀ j,w.cell? ⟨G,j,none⟩=us[j]?) (hl:us.length=7) (h1:∀ u∈us,u.oneCell'=true) (hn:n<=1048576) (hB:B<=w.heap.size)
  (h:∀ r cap n' w',n'=n+1->w'.ownsRow B 31 7 (.slice (some ⟨r,0,none⟩) n' cap) n' (xs++us)->w.grownBy w' v.ownBlock->(v.ownBlock=some r\/r=w.heap.size)->K (a.put o.dst (.slice (some ⟨r,0,none⟩) n' cap)) w') :
  if Region.wanted o (yielded ops a.tmps)=true then Oper.wp Tryz.prog o a w K Q else E:=by
 obtain ⟨i0,hi0,hz0,hz1,hz2⟩:=info_parts info_node
 refine step_append_lies w hgd s x 24 ho B 31 i0 _ 7 112 Tryz.underlying24 hi0 hz0 hz1 hz2 rfl (by omega) v n xs hs hown ⟨G,0,none⟩ 1 1 us hx (by omega) ?_ h1 (by omega) (by unfold maxLen;omega) (by omega) hB _ rfl ?_
 ·intro j u hj
  have e:(⟨G,0,none⟩:Addr).add j=⟨G,j,none⟩:=by
   unfold Addr.add;split
   ·rename_i h0;rw [h0]
   ·simp
  rw [e,hG];exact hj
 ·intro r cap w' hown' hg hr _
  exact h r cap _ w' rfl hown' hg hr
def FK (w0 w:World) (kv:Value) (W:World) (b:Nat):Prop:=(b < w0.heap.size\/w.heap.size+3<=b)/\kv.ownBlock≠some b/\b < W.heap.size
structure OfT (w0 w:World) (vs:List Value) (k c:Int) (nv tv:Value) (name:ByteArray) (kids:List RTree) (i:Nat) (kv:Value) (wr:World):Prop where
 below:Below w.heap.size w wr
 w0w:Below w0.heap.size w0 w
 sz:w.heap.size+3<=wr.heap.size
 bx:∀ j,wr.cell? ⟨w.heap.size,j,none⟩=vs[j]?
 r:∀ j,j < 7->∃ v,wr.cell? ⟨w.heap.size+1,j,none⟩=some v
 fr:∀ j,wr.frozen? ⟨w.heap.size+1,j,none⟩=false
 g:∀ j,wr.cell? ⟨w.heap.size+2,j,none⟩=[.int .i64 k,.int .i64 0,nv,tv,.string name,.int .i32 c,kv][j]?
 fg:∀ j,wr.frozen? ⟨w.heap.size+2,j,none⟩=false
 own:KOwn (FK w0 w kv wr) wr (w.heap.size+3) kv (kids.take i)
theorem ownsRow_below2 {w w':World}{B:Nat}{e:TypeId}{s n:Nat}{v:Value}{xs:List Value} (h:w.ownsRow B e s v n xs) (hb:Below w.heap.size w w'):w'.ownsRow B e s v n xs:=by
 refine ⟨h.1,?_⟩
 rcases h.2 with h2 | ⟨g,cap,cur,hv,hbg,hg,r⟩
 ·exact .inl h2
 ·refine .inr ⟨g,cap,cur,hv,hbg,?_,r⟩
  have hlt:g < w.heap.size:=by
   rcases Nat.lt_or_ge g w.heap.size with hlt | hge
   ·exact hlt
   ·rw [Array.getElem?_eq_none hge] at hg;cases hg
  rw [hb.block g hlt];exact hg
theorem OfT.call {w0 w:World}{vs:List Value}{k c:Int}{nv tv:Value}{name:ByteArray}{kids:List RTree}{i:Nat}{kv:Value}{wr w2:World} (h:OfT w0 w vs k c nv tv name kids i kv wr) (hb:Below wr.heap.size wr w2):OfT w0 w vs k c nv tv name kids i kv w2:=by
 have hz:=h.sz
 have hz2:=hb.size
 have ce:∀ (b j:Nat),b < wr.heap.size->w2.cell? ⟨b,j,none⟩=wr.cell? ⟨b,j,none⟩:=fun b j hlt=>hb.cell (p:=⟨b,j,none⟩) hlt
 have fe:∀ (b j:Nat),b < wr.heap.size->w2.frozen? ⟨b,j,none⟩=wr.frozen? ⟨b,j,none⟩:=fun b j hlt=>hb.frozen (p:=⟨b,j,none⟩) hlt
 obtain ⟨vss,hl,h7,hown,ht⟩:=h.own
 refine ⟨h.below.trans (hb.mono h.below.size),h.w0w,by omega,fun j=>by rw [ce _ _ (by omega)];exact h.bx j,fun j hj=>by rw [ce _ _ (by omega)];exact h.r j hj,fun j=>by rw [fe _ _ (by omega)];exact h.fr j,
  fun j=>by rw [ce _ _ (by omega)];exact h.g j,fun j=>by rw [fe _ _ (by omega)];exact h.fg j,vss,hl,h7,ownsRow_below2 hown hb,fun j hj hj2=>?_⟩
 exact TNF.keep (fun b hF=>⟨hF.1,hF.2.1,by have:=hF.2.2;omega⟩) (fun b hF=>hb.block b hF.2.2) _ _ (ht j hj hj2)
theorem OfT.push {w0 w:World}{vs:List Value}{k c:Int}{nv tv:Value}{name:ByteArray}{kids:List RTree}{i:Nat} (hi:i < kids.length){kv:Value}{w2:World}{z:Nat} (h:OfT w0 w vs k c nv tv name kids i kv w2) (hz:w.heap.size+3<=z) (hkz:∀ b,kv.ownBlock=some b->b < z)
  {us:List Value} (hl7:us.length=7) (ht:TNF (fun b=>(b < w0.heap.size\/z<=b)/\b < w2.heap.size) w2 kids[i] us) {o:Obj} {w3:World} {r cap n':Nat} {vss:List (List Value)} (hv1:vss.length=(kids.take i).length) (hv2:∀ v∈vss,v.length=7) (hv3:∀ j (hj:j < (kids.take i).length) (h2:j < vss.length),TNF (FK w0 w kv w2) w2 (kids.take i)[j] vss[j])
  (hn':n'=i+1) (hown:w3.ownsRow (w.heap.size+3) 31 7 (.slice (some ⟨r,0,none⟩) n' cap) n' (vss.flatten++us)) (hg:(w2.alloc o).grownBy w3 kv.ownBlock) (hr:kv.ownBlock=some r\/r=(w2.alloc o).heap.size) :
  OfT w0 w vs k c nv tv name kids (i+1) (.slice (some ⟨r,0,none⟩) n' cap) (w3.setCell ⟨w.heap.size+2,6,none⟩ (.slice (some ⟨r,0,none⟩) n' cap)):=by
 have hs:=h.sz
 have hsz3:w2.heap.size+1<=w3.heap.size:=by have:=hg.size;simpa using this
 have ow:=h.own
 obtain ⟨_,_,_,how,_⟩:=ow
 have hlo:∀ b,kv.ownBlock=some b->w.heap.size+3<=b/\b < w2.heap.size:=fun b hb=>World.ownsRow.lt how b hb
 have hr2:w.heap.size+3<=r:=by
  rcases hr with e | e
  ·exact (hlo r e).1
  ·rw [e];simp;omega
 have hw0:=h.w0w.size
 have sz4:(w3.setCell ⟨w.heap.size+2,6,none⟩ (.slice (some ⟨r,0,none⟩) n' cap)).heap.size=w3.heap.size:=by simp [World.setCell]
 have same:∀ b,b < w2.heap.size->kv.ownBlock≠some b->b≠w.heap.size+2->(w3.setCell ⟨w.heap.size+2,6,none⟩ (.slice (some ⟨r,0,none⟩) n' cap)).heap[b]?=w2.heap[b]?:=by
  intro b hb h1 h2
  rw [Below.heap_setCell _ _ _ _ (by simpa using h2),hg.block b (by simp;omega) h1.symm,heap_alloc_old w2 o hb]
 have lowne:∀ b,b < w.heap.size+3->kv.ownBlock≠some b:=fun b hb e=>by have:=(hlo b e).1;omega
 have ce:∀ b j,b < w.heap.size+3->b≠w.heap.size+2->(w3.setCell ⟨w.heap.size+2,6,none⟩ (.slice (some ⟨r,0,none⟩) n' cap)).cell? ⟨b,j,none⟩=w2.cell? ⟨b,j,none⟩:=fun b j h1 h2=>World.cell?_of_block (same b (by omega) (lowne b h1) h2)
 have fe:∀ b j,b < w.heap.size+3->b≠w.heap.size+2->(w3.setCell ⟨w.heap.size+2,6,none⟩ (.slice (some ⟨r,0,none⟩) n' cap)).frozen? ⟨b,j,none⟩=w2.frozen? ⟨b,j,none⟩:=fun b j h1 h2=>World.frozen?_of_block (same b (by omega) (lowne b h1) h2)
 have gb:w3.heap[w.heap.size+2]?=w2.heap[w.heap.size+2]?:=by rw [hg.block _ (by simp;omega) (lowne _ (by omega)).symm,heap_alloc_old w2 o (by omega)]
 have gc:∀ j,w3.cell? ⟨w.heap.size+2,j,none⟩=[.int .i64 k,.int .i64 0,nv,tv,.string name,.int .i32 c,kv][j]?:=fun j=>by rw [World.cell?_of_block gb];exact h.g j
 refine ⟨?_,h.w0w,?_,fun j=>?_,fun j hj=>?_,fun j=>?_,fun j=>?_,fun j=>?_,?_⟩
 ·refine ⟨?_,?_,?_,?_,fun b hb=>?_⟩
  ·exact hg.os.trans h.below.os
  ·exact hg.tape.trans h.below.tape
  ·exact hg.output.trans h.below.output
  ·have:=h.below.size;rw [sz4];omega
  ·rw [same b (by omega) (lowne b (by omega)) (by omega)];exact h.below.block b hb
 ·rw [sz4];omega
 ·rw [ce _ _ (by omega) (by omega)];exact h.bx j
 ·rw [ce _ _ (by omega) (by omega)];exact h.r j hj
 ·rw [fe _ _ (by omega) (by omega)];exact h.fr j
 ·by_cases e:j=6
  ·subst e;exact World.cell?_setCell_same _ _ _ (gc 6)
  ·rw [World.cell?_setCell_other _ _ _ _ (fun e2=>e (by injection e2 with _ e3;exact e3.symm)),gc]
   rcases (show j < 6\/7<=j by omega) with h1 | h1
   ·rcases (show j=0\/j=1\/j=2\/j=3\/j=4\/j=5 by omega) with rfl | rfl | rfl | rfl | rfl | rfl <;> rfl
   ·rw [List.getElem?_eq_none (by simpa using h1),List.getElem?_eq_none (by simpa using h1)]
 ·rw [World.frozen?_setCell,World.frozen?_of_block (a:=⟨w.heap.size+2,j,none⟩) gb];exact h.fg j
 ·refine ⟨vss++[us],?_,?_,?_,?_⟩
  ·rw [List.length_append,hv1,List.length_take,List.length_take];simp;omega
  ·intro v hv
   rcases List.mem_append.1 hv with hv | hv
   ·exact hv2 v hv
   ·obtain rfl:v=us:=by simpa using hv
    exact hl7
  ·have e1:(vss++[us]).flatten=vss.flatten++us:=by simp
   have e2:(kids.take (i+1)).length=n':=by rw [List.length_take];omega
   rw [e1,e2]
   exact ownsRow_setCell_other hown (by simp [Value.ownBlock];omega) _
  ·have tl:(kids.take i).length=i:=by rw [List.length_take];omega
   intro j hj hj2
   rcases Nat.lt_or_ge j i with h1 | h1
   ·rw [List.getElem_append_left (by omega)]
    have:=hv3 j (by omega) (by omega)
    rw [List.getElem_take] at this ⊢
    have q1:∀ b,FK w0 w kv w2 b->FK w0 w (.slice (some ⟨r,0,none⟩) n' cap) (w3.setCell ⟨w.heap.size+2,6,none⟩ (.slice (some ⟨r,0,none⟩) n' cap)) b:=fun b hF=>⟨hF.1,fun e=>by
     have e':r=b:=by simpa [Value.ownBlock] using e
     rcases hr with e2 | e2
     ·exact hF.2.1 (by rw [<- e'];exact e2)
     ·have:=hF.2.2;rw [e2] at e';simp at e';omega,by have:=hF.2.2;rw [sz4];omega⟩
    exact TNF.keep q1 (fun b hF=>same b hF.2.2 hF.2.1 (by rcases hF.1 with h2 | h2 <;> omega)) _ _ this
   ·obtain rfl:j=i:=by have:=hj;rw [List.length_take] at this;omega
    have e3:(vss++[us])[j]'(by simp;omega)=us:=by rw [List.getElem_append_right (by omega)];simp [hv1,tl]
    rw [e3,List.getElem_take]
    have q1:∀ b,((b < w0.heap.size\/z<=b)/\b < w2.heap.size)->FK w0 w (.slice (some ⟨r,0,none⟩) n' cap) (w3.setCell ⟨w.heap.size+2,6,none⟩ (.slice (some ⟨r,0,none⟩) n' cap)) b:=fun b hF=>⟨by rcases hF.1 with h2 | h2 <;> omega,fun e=>by
     have e':r=b:=by simpa [Value.ownBlock] using e
     rcases hr with e2 | e2
     ·have:=hkz r e2
      have:=(hlo r e2).1
      rcases hF.1 with h2 | h2 <;> omega
     ·have:=hF.2;rw [e2] at e';simp at e';omega,by have:=hF.2;rw [sz4];omega⟩
    exact TNF.keep q1 (fun b hF=>same b hF.2 (fun e=>by
     have:=hkz b e
     have:=(hlo b e).1
     rcases hF.1 with h2 | h2 <;> omega) (by rcases hF.1 with h2 | h2 <;> omega)) _ _ ht
def OfTells (w0 w:World) (t:RTree) (e:Ending) (w':World):Prop:=∃ (k a c:Int) (name:ByteArray) (A1 A2 A3:Option Addr) (n1 c1 n2 c2 n3 c3:Nat),e= .returned (.agg #[.int .i64 k,.int .i64 a,.slice A1 n1 c1,.slice A2 n2 c2,.string name,.int .i32 c,.slice A3 n3 c3]) /\
 TNF (fun b=>(b < w0.heap.size\/w.heap.size<=b)/\b < w'.heap.size) w' t [.int .i64 k,.int .i64 a,.slice A1 n1 c1,.slice A2 n2 c2,.string name,.int .i32 c,.slice A3 n3 c3]
theorem OfT.start (w0 w:World) (hb:Below w0.heap.size w0 w) (x0 x1 x2 x3 x4 x5:Value) (k c:Int) (nv tv:Value) (name:ByteArray) (kids:List RTree):OfT w0 w [x0,x1,x2,x3,x4,x5] k c nv tv name kids 0 (.slice none 0 0)
  (((w.alloc (.cells #[x0,x1,x2,x3,x4,x5] 29)).alloc (.cells #[.int .i64 0,.int .i64 0,.slice none 0 0,.slice none 0 0,.string ⟨#[]⟩,.int .i32 0,.slice none 0 0] 31)).alloc (.cells #[.int .i64 k,.int .i64 0,nv,tv,.string name,.int .i32 c,.slice none 0 0] 31)):=by
 refine ⟨(((Below.refl _ w).alloc (Nat.le_refl _) _).alloc (by simp) _).alloc (by simp;omega) _,hb,by simp,fun j=>?_,fun j hj=>?_,fun j=>?_,fun j=>?_,fun j=>?_,KOwn.nil _ _ _⟩
 ·rw [World.cell?_alloc_past _ _ _ (by simp <;> omega),World.cell?_alloc_past _ _ _ (by simp),World.cell?_alloc_at _ _ _ _ rfl];simp
 ·rw [World.cell?_alloc_past _ _ _ (by simp),World.cell?_alloc_at _ _ _ _ (by simp)]
  rcases (show j=0\/j=1\/j=2\/j=3\/j=4\/j=5\/j=6 by omega) with rfl | rfl | rfl | rfl | rfl | rfl | rfl
  all_goals exact ⟨_,rfl⟩
 ·rw [World.frozen?_alloc_past _ _ _ (by simp),World.frozen?_alloc_at _ _ _ _ (by simp)]
 ·rw [World.cell?_alloc_at _ _ _ _ (by simp)];simp
 ·rw [World.frozen?_alloc_at _ _ _ _ (by simp)]
def set7 (w:World) (R:Nat) (u0 u1 u2 u3 u4 u5 u6:Value):World :=
 ((((((w.setCell ⟨R,0,none⟩ u0).setCell ⟨R,1,none⟩ u1).setCell ⟨R,2,none⟩ u2).setCell ⟨R,3,none⟩ u3).setCell ⟨R,4,none⟩ u4).setCell ⟨R,5,none⟩ u5).setCell ⟨R,6,none⟩ u6
theorem set7_block (w:World) (R:Nat) (u0 u1 u2 u3 u4 u5 u6:Value) (b:Nat) (h:b≠R):(set7 w R u0 u1 u2 u3 u4 u5 u6).heap[b]?=w.heap[b]?:=by
 unfold set7
 rw [Below.heap_setCell _ _ _ _ (by simpa using h),Below.heap_setCell _ _ _ _ (by simpa using h),Below.heap_setCell _ _ _ _ (by simpa using h),Below.heap_setCell _ _ _ _ (by simpa using h),Below.heap_setCell _ _ _ _ (by simpa using h),Below.heap_setCell _ _ _ _ (by simpa using h),Below.heap_setCell _ _ _ _ (by simpa using h)]
theorem set7_size (w:World) (R:Nat) (u0 u1 u2 u3 u4 u5 u6:Value):(set7 w R u0 u1 u2 u3 u4 u5 u6).heap.size=w.heap.size:=by unfold set7;simp [World.setCell]
theorem set7_cells (w:World) (R:Nat) (u0 u1 u2 u3 u4 u5 u6:Value) (h:∀ j,j < 7->∃ v,w.cell? ⟨R,j,none⟩=some v) :
  (set7 w R u0 u1 u2 u3 u4 u5 u6).cell? ⟨R,0,none⟩=some u0/\(set7 w R u0 u1 u2 u3 u4 u5 u6).cell? ⟨R,1,none⟩=some u1/\(set7 w R u0 u1 u2 u3 u4 u5 u6).cell? ⟨R,2,none⟩=some u2 /\
  (set7 w R u0 u1 u2 u3 u4 u5 u6).cell? ⟨R,3,none⟩=some u3/\(set7 w R u0 u1 u2 u3 u4 u5 u6).cell? ⟨R,4,none⟩=some u4/\(set7 w R u0 u1 u2 u3 u4 u5 u6).cell? ⟨R,5,none⟩=some u5/\(set7 w R u0 u1 u2 u3 u4 u5 u6).cell? ⟨R,6,none⟩=some u6:=by
 obtain ⟨v0,h0⟩:=h 0 (by omega);obtain ⟨v1,h1⟩:=h 1 (by omega);obtain ⟨v2,h2⟩:=h 2 (by omega);obtain ⟨v3,h3⟩:=h 3 (by omega);obtain ⟨v4,h4⟩:=h 4 (by omega);obtain ⟨v5,h5⟩:=h 5 (by omega);obtain ⟨v6,h6⟩:=h 6 (by omega)
 have o:∀ (w:World) (i j:Nat) (u:Value),i≠j->(w.setCell ⟨R,i,none⟩ u).cell? ⟨R,j,none⟩=w.cell? ⟨R,j,none⟩:=fun w i j u hij=>World.cell?_setCell_other w _ _ _ (fun e=>hij (by injection e))
 have s:∀ (w:World) (i:Nat) (u v:Value),w.cell? ⟨R,i,none⟩=some v->(w.setCell ⟨R,i,none⟩ u).cell? ⟨R,i,none⟩=some u:=fun w i u v h=>World.cell?_setCell_same w _ _ h
 unfold set7
 refine ⟨?_,?_,?_,?_,?_,?_,?_⟩
 ·rw [o _ 6 0 _ (by omega),o _ 5 0 _ (by omega),o _ 4 0 _ (by omega),o _ 3 0 _ (by omega),o _ 2 0 _ (by omega),o _ 1 0 _ (by omega)];exact s _ _ _ _ h0
 ·rw [o _ 6 1 _ (by omega),o _ 5 1 _ (by omega),o _ 4 1 _ (by omega),o _ 3 1 _ (by omega),o _ 2 1 _ (by omega)];exact s _ _ _ v1 (by rw [o _ 0 1 _ (by omega)];exact h1)
 ·rw [o _ 6 2 _ (by omega),o _ 5 2 _ (by omega),o _ 4 2 _ (by omega),o _ 3 2 _ (by omega)];exact s _ _ _ v2 (by rw [o _ 1 2 _ (by omega),o _ 0 2 _ (by omega)];exact h2)
 ·rw [o _ 6 3 _ (by omega),o _ 5 3 _ (by omega),o _ 4 3 _ (by omega)];exact s _ _ _ v3 (by rw [o _ 2 3 _ (by omega),o _ 1 3 _ (by omega),o _ 0 3 _ (by omega)];exact h3)
 ·rw [o _ 6 4 _ (by omega),o _ 5 4 _ (by omega)];exact s _ _ _ v4 (by rw [o _ 3 4 _ (by omega),o _ 2 4 _ (by omega),o _ 1 4 _ (by omega),o _ 0 4 _ (by omega)];exact h4)
 ·rw [o _ 6 5 _ (by omega)];exact s _ _ _ v5 (by rw [o _ 4 5 _ (by omega),o _ 3 5 _ (by omega),o _ 2 5 _ (by omega),o _ 1 5 _ (by omega),o _ 0 5 _ (by omega)];exact h5)
 ·exact s _ _ _ v6 (by rw [o _ 5 6 _ (by omega),o _ 4 6 _ (by omega),o _ 3 6 _ (by omega),o _ 2 6 _ (by omega),o _ 1 6 _ (by omega),o _ 0 6 _ (by omega)];exact h6)
theorem set7_below {w wr:World} (h:Below w.heap.size w wr) (R:Nat) (hR:w.heap.size<=R) (u0 u1 u2 u3 u4 u5 u6:Value):Below w.heap.size w (set7 wr R u0 u1 u2 u3 u4 u5 u6) :=
 ((((((h.setCell hR _).setCell hR _).setCell hR _).setCell hR _).setCell hR _).setCell hR _).setCell hR _
theorem OfT.done {w0 w:World}{vs:List Value}{k c:Int}{nums:List Nat}{text:List Int}{nv tv:Value}{name:ByteArray}{kids:List RTree}{kv:Value}{wr:World} (h:OfT w0 w vs k c nv tv name kids kids.length kv wr)
  (hn:Reads1 w0 nv (nums.map (Value.float .f64))) (ht:Reads1 w0 tv (text.map (Value.int .i32))) (u0 u1 u2 u3 u4 u5 u6:Value) :
  TNF (fun b=>(b < w0.heap.size\/w.heap.size<=b)/\b < (set7 wr (w.heap.size+1) u0 u1 u2 u3 u4 u5 u6).heap.size) (set7 wr (w.heap.size+1) u0 u1 u2 u3 u4 u5 u6) (.mk k nums text name c kids) [.int .i64 k,.int .i64 0,nv,tv,.string name,.int .i32 c,kv]/\Below w.heap.size w (set7 wr (w.heap.size+1) u0 u1 u2 u3 u4 u5 u6):=by
 have hw0:=h.w0w.size
 have hsz:=h.sz
 have hbl:Below w.heap.size w (set7 wr (w.heap.size+1) u0 u1 u2 u3 u4 u5 u6):=set7_below h.below _ (by omega) _ _ _ _ _ _ _
 refine ⟨?_,hbl⟩
 have hb0:∀ b,b < w0.heap.size->(set7 wr (w.heap.size+1) u0 u1 u2 u3 u4 u5 u6).heap[b]?=w0.heap[b]?:=fun b hb=>by rw [hbl.block b (by omega)];exact h.w0w.block b hb
 have hF0:∀ b,b < w0.heap.size->((b < w0.heap.size\/w.heap.size<=b)/\b < (set7 wr (w.heap.size+1) u0 u1 u2 u3 u4 u5 u6).heap.size):=fun b hb=>⟨.inl hb,by rw [set7_size];omega⟩
 rw [TNF]
 refine ⟨0,nv,tv,kv,rfl,(Reads1.foot hn).keep hF0 hb0,(Reads1.foot ht).keep hF0 hb0,?_⟩
 have ow:=h.own
 rw [List.take_length] at ow
 by_cases hk:kids=[]
 ·subst hk
  obtain ⟨vss,_,_,hown,_⟩:=ow
  rcases hown.2 with ⟨rfl,_⟩ | ⟨g,cap,cur,rfl,_⟩
  ·exact .inl ⟨rfl,_,_,rfl⟩
  ·exact .inl ⟨rfl,_,_,rfl⟩
 ·obtain ⟨r,cc,rfl,hc,hr1,hr2,htk⟩:=ow.tks hk
  have keep:∀ b,w.heap.size+3<=b\/b < w.heap.size->(set7 wr (w.heap.size+1) u0 u1 u2 u3 u4 u5 u6).heap[b]?=wr.heap[b]?:=fun b hb=>set7_block _ _ _ _ _ _ _ _ _ _ (by omega)
  -- the row's own block beside the blocks of its nodes
  have htk2:TKsF (fun b=>((b < w0.heap.size\/w.heap.size+3<=b)/\b < wr.heap.size)) wr r 0 kids:=by
   exact TKsF.weaken (fun b hF=>⟨hF.1,hF.2.2⟩) r 0 kids htk
  refine .inr ⟨hk,r,0,cc,rfl,hc,⟨.inr (by omega),by rw [set7_size];omega⟩,?_⟩
  exact TKsF.keep (F:=fun b=>((b < w0.heap.size\/w.heap.size+3<=b)/\b < wr.heap.size)) (fun b hF=>⟨by rcases hF.1 with h1 | h1 <;> omega,by rw [set7_size];exact hF.2⟩) (fun b hF=>keep b (by rcases hF.1 with h1 | h1 <;> omega)) r ⟨.inr hr1,hr2⟩ 0 kids htk2
def gz (g:Nat) (W:World):Value:=(W.cell? ⟨g,6,none⟩).getD (.int .i64 0)
theorem gz_of {g:Nat}{W:World}{v:Value} (h:W.cell? ⟨g,6,none⟩=some v):gz g W=v:=by unfold gz;rw [h];rfl
theorem KOwn.slice {F:Nat->Prop}{w:World}{B:Nat}{v:Value}{kids:List RTree} (h:KOwn F w B v kids):∃ av cv,v= .slice av kids.length cv:=by
 obtain ⟨vss,_,_,hown,_⟩:=h
 rcases hown.2 with ⟨rfl,h0⟩ | ⟨g,cap,cur,rfl,_⟩
 ·exact ⟨none,0,by rw [h0]⟩
 ·exact ⟨_,_,rfl⟩
theorem OfT.mid {w0 w:World}{vs:List Value}{k c:Int}{nv tv:Value}{name:ByteArray}{kids:List RTree}{i:Nat}{kv:Value}{w2 w3:World} (h:OfT w0 w vs k c nv tv name kids i kv w2){o:Obj} (hg:(w2.alloc o).grownBy w3 kv.ownBlock) :
  Below w0.heap.size w0 w3/\(∀ j,w3.cell? ⟨w.heap.size,j,none⟩=vs[j]?)/\w3.cell? ⟨w.heap.size+2,6,none⟩=some kv/\w3.frozen? ⟨w.heap.size+2,6,none⟩=false:=by
 have ow:=h.own
 obtain ⟨_,_,_,how,_⟩:=ow
 have hs:=h.sz
 have hw0:=h.w0w.size
 have lo:∀ b,b < w.heap.size+3->w3.heap[b]?=w2.heap[b]?:=fun b hb=>by
  rw [hg.block b (by simp;omega) (fun e=>by have:=(World.ownsRow.lt how b e.symm).1;omega),heap_alloc_old w2 o (by omega)]
 refine ⟨?_,fun j=>?_,?_,?_⟩
 ·refine ⟨?_,?_,?_,?_,fun b hb=>?_⟩
  ·exact hg.os.trans (h.below.os.trans h.w0w.os)
  ·exact hg.tape.trans (h.below.tape.trans h.w0w.tape)
  ·exact hg.output.trans (h.below.output.trans h.w0w.output)
  ·have:=hg.size;have:=h.below.size;simp at *;omega
  ·rw [lo b (by omega),h.below.block b (by omega)];exact h.w0w.block b hb
 ·rw [World.cell?_of_block (lo w.heap.size (by omega))];exact h.bx j
 ·rw [World.cell?_of_block (a:=⟨w.heap.size+2,6,none⟩) (lo (w.heap.size+2) (by omega))];exact h.g 6
 ·rw [World.frozen?_of_block (a:=⟨w.heap.size+2,6,none⟩) (lo (w.heap.size+2) (by omega))];exact h.fg 6
theorem new7 (w:World) (us:List Value):∀ j,(w.alloc (.cells us.toArray 31)).cell? ⟨w.heap.size,j,none⟩=us[j]?:=fun j=>by rw [World.cell?_alloc_at _ _ _ _ rfl];simp
theorem one7 {k a c:Int}{name:ByteArray}{A1 A2 A3:Option Addr}{n1 c1 n2 c2 n3 c3:Nat}:∀ u∈[Value.int .i64 k,.int .i64 a,.slice A1 n1 c1,.slice A2 n2 c2,.string name,.int .i32 c,.slice A3 n3 c3],u.oneCell'=true:=by
 intro u hu
 simp only [List.mem_cons,List.not_mem_nil,or_false] at hu
 rcases hu with rfl | rfl | rfl | rfl | rfl | rfl | rfl <;> rfl
theorem of_walk (w0:World):∀ (N:Nat) (t:RTree) (v0 v1 v2 v3 v4 v5:Value) (w:World),sizeR t<=N->sizeR t<=1048576->RN w0 t [v0,v1,v2,v3,v4,v5]->Below w0.heap.size w0 w ->
  Calls Tryz.prog 8 #[.agg #[v0,v1,v2,v3,v4,v5]] w fun e w'=>OfTells w0 w t e w'/\Below w.heap.size w w'
 | 0,t,_,_,_,_,_,_,_,h,_,_,_=>by have:=sizeR_pos t;omega
 | N+1,.mk k nums text name c kids,v0,v1,v2,v3,v4,v5,w,hN,hM,hr,hb=>by
  obtain ⟨nv,tv,A,cc,m,hvs,hrn,hrt,hm,hkid⟩:=hr.open_
  simp only [List.cons.injEq,and_true] at hvs
  obtain ⟨rfl,rfl,rfl,rfl,rfl,rfl⟩:=hvs
  have HRN:=Lib.hid hrn;have HRT:=Lib.hid hrt
  obtain ⟨A1,c1,n1,rfl,hz1,hz2⟩:=hrn.opn
  clear hz1 hz2
  obtain ⟨A2,c2,n2,rfl,hz1,hz2⟩:=hrt.opn
  clear hz1 hz2
  rw [sizeR] at hN hM
  have hlen:=sizeRs_len kids
  have hm2:m<=1048576:=by omega
  have HK:=Lib.hid hkid
  have HM:=Lib.hid hm
  have HIH:Hid (∀ t v0 v1 v2 v3 v4 v5 w,sizeR t<=N->sizeR t<=1048576->RN w0 t [v0,v1,v2,v3,v4,v5]->Below w0.heap.size w0 w->Calls Tryz.prog 8 #[.agg #[v0,v1,v2,v3,v4,v5]] w fun e w'=>OfTells w0 w t e w'/\Below w.heap.size w w'):=of_walk w0 N
  have HAT:Hid (∀ i (hi:i < kids.length),sizeR kids[i]<=sizeRs kids):=fun i hi=>sizeRs_at hi
  have HN2:Hid (1+sizeRs kids<=N+1/\1+sizeRs kids<=1048576):=by unfold Hid;omega
  have HBW:=Lib.hid hb
  have HST:=Lib.hid (OfT.start w0 w hb (.int .i64 k) (.slice A1 n1 c1) (.slice A2 n2 c2) (.string name) (.int .i32 c) (.slice A m cc) k c (.slice A1 n1 c1) (.slice A2 n2 c2) name kids)
  clear hkid hm hlen hN hM hr hrn hrt hb
  go_enter Tryz.func8,Tryz.ntmps8
  go_wp2
  generalize ((w.alloc (.cells #[.int .i64 k,.slice A1 n1 c1,.slice A2 n2 c2,.string name,.int .i32 c,.slice A m cc] 29)).alloc (.cells #[.int .i64 0,.int .i64 0,.slice none 0 0,.slice none 0 0,.string ⟨#[]⟩,.int .i32 0,.slice none 0 0] 31)).alloc (.cells #[.int .i64 k,.int .i64 0,.slice A1 n1 c1,.slice A2 n2 c2,.string name,.int .i32 c,.slice none 0 0] 31)=W at *
  go_loopw [4] (fun iv wr=>∃ (i:Nat) (kv:Value),i<=m/\iv= .int .i64 (i:Int)/\Hid (OfT w0 w [.int .i64 k,.slice A1 n1 c1,.slice A2 n2 c2,.string name,.int .i32 c,.slice A m cc] k c (.slice A1 n1 c1) (.slice A2 n2 c2) name kids i kv wr)) (fun iv _=>m - (intOf iv).toNat)
  case atStart=>exact ⟨0,_,Nat.zero_le _,rfl,HST.out⟩
  case round =>
   obtain ⟨i,kv,hi,rfl,hI⟩:=hrel
   clear HST
   have hkl:=hI.out.own.slice
   obtain ⟨av,cv,hkv⟩:=hkl
   have htl:(kids.take i).length=i:=by rw [List.length_take];have:=HM.out;omega
   rw [htl] at hkv
   subst hkv
   have HTL:=Lib.hid htl
   have HLT:Hid (∀ b,(Value.slice av i cv).ownBlock=some b->b < wr.drew.heap.size):=fun b hb=>by obtain ⟨_,_,_,how,_⟩:=hI.out.own;exact (World.ownsRow.lt how b hb).2
   clear htl
   have b5:wr.cell? ⟨w.heap.size,5,none⟩=some (.slice A m cc):=hI.out.bx 5
   by_cases him:i < m
   ·have hik:i < kids.length:=by have:=HM.out;omega
    obtain ⟨b,o,u0,u1,u2,u3,u4,u5,rfl,hr,hce⟩:=HK.out i hik
    have hbl:Below w0.heap.size w0 wr.drew:=(HBW.out.trans (hI.out.below.mono HBW.out.size)).drew
    have hId:OfT w0 w [.int .i64 k,.slice A1 n1 c1,.slice A2 n2 c2,.string name,.int .i32 c,.slice (some ⟨b,o,none⟩) m cc] k c (.slice A1 n1 c1) (.slice A2 n2 c2) name kids i (.slice av i cv) wr.drew:=hI.out.call (Below.refl _ wr).drew
    have HIC:=Lib.hid (HIH.out kids[i] u0 u1 u2 u3 u4 u5 wr.drew (by have:=HAT.out i hik;have:=HN2.out;omega) (by have:=HAT.out i hik;have:=HN2.out;omega) hr hbl)
    have HCE:=Lib.hid hce
    have HSS:Hid (∀ W,Below w0.heap.size w0 W->(∀ j,W.cell? ⟨w.heap.size,j,none⟩=[Value.int .i64 k,.slice A1 n1 c1,.slice A2 n2 c2,.string name,.int .i32 c,.slice (some ⟨b,o,none⟩) m cc][j]?)->(∃ x,W.cell? ⟨w.heap.size+2,6,none⟩=some x)->W.cell? ⟨w.heap.size+2,6,none⟩=some (gz (w.heap.size+2) W)/\W.cell? ⟨w.heap.size,5,none⟩=some (.slice (some ⟨b,o,none⟩) m cc)/\W.cell? ⟨b,o+i*6,none⟩=some u0/\W.cell? ⟨b,o+i*6+1,none⟩=some u1/\W.cell? ⟨b,o+i*6+2,none⟩=some u2/\W.cell? ⟨b,o+i*6+3,none⟩=some u3/\W.cell? ⟨b,o+i*6+4,none⟩=some u4/\W.cell? ⟨b,o+i*6+5,none⟩=some u5):=by
     intro W hbW h1 ⟨x,h2⟩
     obtain ⟨q0,q1,q2,q3,q4,q5⟩:=HCE.out W hbW
     exact ⟨by rw [gz_of h2];exact h2,h1 5,q0,q1,q2,q3,q4,q5⟩
    have hgz:gz (w.heap.size+2) wr.drew= .slice av i cv:=gz_of (hId.g 6)
    have hs1:=HSS.out _ hbl hId.bx ⟨_,hId.g 6⟩
    have HID:=Lib.hid hId
    have HBL:=Lib.hid hbl
    clear hr hce hId hbl
    go_wp2_with fail
    obtain ⟨s10,s11,s12,s13,s14,s15,s16,s17⟩:=hs1
    rw [hgz] at s10
    clear hgz
    go_region_law (first | (refine step_pushN (by rfl) _ _ (by rfl) (w.heap.size+3) (.slice av i cv) i vss.flatten (by rfl) (World.ownsRow.alloc HO2.out _) w2.heap.size [.int .i64 k',.int .i64 a',.slice B1 p1 q1,.slice B2 p2 q2,.string nm',.int .i32 c',.slice B3 p3 q3] (by rfl) (new7 w2 _) (by rfl) one7 (by omega) (by have:=HI2a.out.sz;omega) ?_;intro r cap n' w3 hn' hown hg hr;have hmid:=HI2.out.mid hg;have HI3:=Lib.hid (OfT.push hik HI2.out HID.out.sz HLT.out (by rfl) HT2.out HV1.out HV2.out HT3.out hn' hown hg hr);have hg3:=hmid.2.2.1;have hfz3:=hmid.2.2.2;clear hmid hown hg hr hn') | (go_simp;go_at_call 8;refine HIC.out.mono ?_;rintro e w2 ⟨⟨k',a',c',nm',B1,B2,B3,p1,q1,p2,q2,p3,q3,rfl,ht2⟩,hb2⟩;have HT2:=Lib.hid ht2;have HI2:=Lib.hid (HID.out.call hb2);have hb02:=HBL.out.trans (hb2.mono HBL.out.size);obtain ⟨s20,s21,s22,s23,s24,s25,s26,s27⟩:=HSS.out _ hb02 HI2.out.bx ⟨_,HI2.out.g 6⟩;have hba:=(Below.refl _ w2).alloc (Nat.le_refl _) (.cells #[.int .i64 k',.int .i64 a',.slice B1 p1 q1,.slice B2 p2 q2,.string nm',.int .i32 c',.slice B3 p3 q3] 31);have HI2a:=Lib.hid (HI2.out.call hba);obtain ⟨s30,s31,s32,s33,s34,s35,s36,s37⟩:=HSS.out _ (hb02.trans (hba.mono hb02.size)) HI2a.out.bx ⟨_,HI2a.out.g 6⟩;rw [gz_of (HI2.out.g 6)] at s20;rw [gz_of (HI2a.out.g 6)] at s30;clear ht2 hb2 hb02 hba;obtain ⟨vss,hv1,hv2,hown2,htn2⟩:=HI2.out.own;rw [HTL.out] at hown2;have HV1:=Lib.hid hv1;have HV2:=Lib.hid hv2;have HO2:=Lib.hid hown2;have HT3:=Lib.hid htn2;clear hv1 hv2 hown2 htn2))
    all_goals
     clear s10 s11 s12 s13 s14 s15 s16 s17 s20 s21 s22 s23 s24 s25 s26 s27 s30 s31 s32 s33 s34 s35 s36 s37 hg3 hfz3
     go_wp2_with fail
     go_roundw
     case rel=>exact ⟨i+1,_,by omega,by go_num,HI3.out⟩
     case measure=>simp [intOf];omega
   ·have him2:i=kids.length:=by have:=HM.out;omega
    have HI2:Hid (OfT w0 w [.int .i64 k,.slice A1 n1 c1,.slice A2 n2 c2,.string name,.int .i32 c,.slice A m cc] k c (.slice A1 n1 c1) (.slice A2 n2 c2) name kids kids.length (.slice av i cv) wr):=by unfold Hid;have:=hI.out;rw [him2] at this ⊢;exact this
    have g0:wr.cell? ⟨w.heap.size+2,0,none⟩=some (.int .i64 k):=hI.out.g 0
    have g1:wr.cell? ⟨w.heap.size+2,1,none⟩=some (.int .i64 0):=hI.out.g 1
    have g2:wr.cell? ⟨w.heap.size+2,2,none⟩=some (.slice A1 n1 c1):=hI.out.g 2
    have g3:wr.cell? ⟨w.heap.size+2,3,none⟩=some (.slice A2 n2 c2):=hI.out.g 3
    have g4:wr.cell? ⟨w.heap.size+2,4,none⟩=some (.string name):=hI.out.g 4
    have g5:wr.cell? ⟨w.heap.size+2,5,none⟩=some (.int .i32 c):=hI.out.g 5
    have g6:wr.cell? ⟨w.heap.size+2,6,none⟩=some (.slice av i cv):=hI.out.g 6
    obtain ⟨z0,r0⟩:=hI.out.r 0 (by omega);obtain ⟨z1,r1⟩:=hI.out.r 1 (by omega);obtain ⟨z2,r2⟩:=hI.out.r 2 (by omega);obtain ⟨z3,r3⟩:=hI.out.r 3 (by omega);obtain ⟨z4,r4⟩:=hI.out.r 4 (by omega);obtain ⟨z5,r5⟩:=hI.out.r 5 (by omega);obtain ⟨z6,r6⟩:=hI.out.r 6 (by omega)
    have hfr:=hI.out.fr
    have HR7:=Lib.hid hI.out.r
    clear him2
    go_wp2
    obtain ⟨q0,q1,q2,q3,q4,q5,q6⟩:=set7_cells wr (w.heap.size+1) (.int .i64 k) (.int .i64 0) (.slice A1 n1 c1) (.slice A2 n2 c2) (.string name) (.int .i32 c) (.slice av i cv) HR7.out
    unfold set7 at q0 q1 q2 q3 q4 q5 q6
    refine bodyPost_ret (v := .agg #[.int .i64 k,.int .i64 0,.slice A1 n1 c1,.slice A2 n2 c2,.string name,.int .i32 c,.slice av i cv]) (by simp [results,Tryz.results8,go_sem,q0,q1,q2,q3,q4,q5,q6]) rfl ⟨⟨k,0,c,name,A1,A2,av,n1,c1,n2,c2,i,cv,rfl,?_⟩,?_⟩
    ·exact (HI2.out.done HRN.out HRT.out _ _ _ _ _ _ _).1
    ·exact (HI2.out.done HRN.out HRT.out _ _ _ _ _ _ _).2
end Go.Proofs.YtbakjaliponbbaaGreatDoor
