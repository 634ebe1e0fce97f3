/- Walks of slices.Equal over numbers and over runes. The walks of slices.EqualFunc over nodes and of tree.Same. Walks of tree.plain and of slices.IndexFunc, .. Conditions: as each theorem says. -/
import Derived.Test.YtbakjaliponbbaaGreatDoorMg32
import Derived.Deep.QuietTactic
import Derived.BigQuiet
import Derived.StillTailTactics
import Derived.Test.YtbakjaliponbbaaGreatDoorMg18
import Derived.Test.YtbakjaliponbbaaGreatDoorMg16
import Derived.Test.YtbakjaliponbbaaGreatDoorMg10
import Derived.Deep.RegionHeld3
import Derived.Deep.AppendLies
import Derived.Deep.RegionLaw
import Derived.Test.YtbakjaliponbbaaGreatDoorMg02
namespace Go.Proofs.YtbakjaliponbbaaGreatDoor
open Go Go.RowKit Go.Proofs
theorem Reads1.opn {w:World}{v:Value}{xs:List Value} (h:Reads1 w v xs):∃ A cc n,v= .slice A n cc/\n=xs.length /\
  ∀ i (hi:i < xs.length),∃ b o,A=some ⟨b,o,none⟩/\∀ w1,Below w.heap.size w w1->w1.cell? ⟨b,o+i,none⟩=some xs[i]:=by
 rcases h with ⟨a,c,rfl,rfl⟩ | ⟨b,o,n,c,rfl,hn,hc⟩
 ·exact ⟨a,c,0,rfl,rfl,fun i hi=>by simp at hi⟩
 ·refine ⟨_,c,n,rfl,hn,fun i hi=>⟨b,o,rfl,fun w1 hb=>?_⟩⟩
  have:=hc i hi
  rw [hb.cell (cell_lt this),this]
def KidsAt (w:World) (A:Option Addr) (kids:List RTree):Prop :=
 ∀ i (hi:i < kids.length),∃ b o v0 v1 v2 v3 v4 v5 v6,A=some ⟨b,o,none⟩/\TN w kids[i] [v0,v1,v2,v3,v4,v5,v6]/\∀ w1,Below w.heap.size w w1 ->
    w1.cell? ⟨b,o+i*7,none⟩=some v0/\w1.cell? ⟨b,o+i*7+1,none⟩=some v1/\w1.cell? ⟨b,o+i*7+2,none⟩=some v2/\w1.cell? ⟨b,o+i*7+3,none⟩=some v3/\w1.cell? ⟨b,o+i*7+4,none⟩=some v4/\w1.cell? ⟨b,o+i*7+5,none⟩=some v5/\w1.cell? ⟨b,o+i*7+6,none⟩=some v6
theorem KidsAt.below {w w':World}{A:Option Addr}{kids:List RTree} (h:KidsAt w A kids) (hb:Below w.heap.size w w'):KidsAt w' A kids:=by
 intro i hi
 obtain ⟨b,o,v0,v1,v2,v3,v4,v5,v6,h1,h2,h3⟩:=h i hi
 exact ⟨b,o,v0,v1,v2,v3,v4,v5,v6,h1,TN.below hb _ _ h2,fun w1 hb1=>h3 w1 (hb.trans (hb1.mono hb.size))⟩
theorem TN.shape {w:World}{t:RTree}{v0 v1 v2 v3 v4 v5 v6:Value} (h:TN w t [v0,v1,v2,v3,v4,v5,v6]) :
  ∃ (k a c:Int) (name:ByteArray) (A1 A2 A3:Option Addr) (n1 c1 n2 c2 n3 c3:Nat),v0= .int .i64 k/\v1= .int .i64 a/\v2= .slice A1 n1 c1/\v3= .slice A2 n2 c2/\v4= .string name/\v5= .int .i32 c/\v6= .slice A3 n3 c3:=by
 cases t with
 | mk k nums text name c kids =>
  obtain ⟨a,nv,tv,A,cc,m,hvs,hrn,hrt,_,_⟩:=h.open_
  simp only [List.cons.injEq,and_true] at hvs
  obtain ⟨rfl,rfl,rfl,rfl,rfl,rfl,rfl⟩:=hvs
  obtain ⟨A1,c1,n1,rfl,_,_⟩:=hrn.opn
  obtain ⟨A2,c2,n2,rfl,_,_⟩:=hrt.opn
  exact ⟨k,a,c,name,A1,A2,A,n1,c1,n2,c2,m,cc,rfl,rfl,rfl,rfl,rfl,rfl,rfl⟩
def BoxT (w W:World) (vs:List Value):Prop:=(∀ i,W.cell? ⟨w.heap.size,i,none⟩=vs[i]?)/\Below w.heap.size w W/\w.heap.size < W.heap.size
theorem boxedT (w:World) (vs:List Value) (T:TypeId):BoxT w (w.alloc (.cells vs.toArray T)) vs :=
 ⟨fun i=>by rw [World.cell?_alloc_at _ _ _ _ rfl];simp,(Below.refl _ w).alloc (Nat.le_refl _) _,by simp⟩
theorem BoxT.step {w W W':World}{vs:List Value} (h:BoxT w W vs) (hb:Below W.heap.size W W'):BoxT w W' vs :=
 ⟨fun i=>by rw [hb.cell (p:=⟨w.heap.size,i,none⟩) h.2.2];exact h.1 i,h.2.1.trans (hb.mono (by have:=h.2.2;omega)),by have:=hb.size;have:=h.2.2;omega⟩
theorem BoxT.c7 {w W:World}{v0 v1 v2 v3 v4 v5 v6:Value} (h:BoxT w W [v0,v1,v2,v3,v4,v5,v6]):W.cell? ⟨w.heap.size,0,none⟩=some v0/\W.cell? ⟨w.heap.size,1,none⟩=some v1/\W.cell? ⟨w.heap.size,2,none⟩=some v2 /\
  W.cell? ⟨w.heap.size,3,none⟩=some v3/\W.cell? ⟨w.heap.size,4,none⟩=some v4/\W.cell? ⟨w.heap.size,5,none⟩=some v5/\W.cell? ⟨w.heap.size,6,none⟩=some v6:=⟨h.1 0,h.1 1,h.1 2,h.1 3,h.1 4,h.1 5,h.1 6⟩
end Go.Proofs.YtbakjaliponbbaaGreatDoor
namespace Go.Proofs.YtbakjaliponbbaaGreatDoor
open Go Go.RowKit Go.Proofs Fl
mutual
def FitG:RTree->Prop
 | .mk _ nums text name _ kids=>nums.length<=1048576/\(∀ x∈nums,x < 18446744073709551616)/\text.length<=1048576/\name.size<=70368744177664/\kids.length<=1048576/\FitGs kids
def FitGs:List RTree->Prop
 | []=>True
 | t::ts=>FitG t/\FitGs ts
end
theorem FitGs_at:∀ {ts:List RTree} (_:FitGs ts){i:Nat} (hi:i < ts.length),FitG ts[i]
 | [],_,_,hi=>by simp at hi
 | t::ts,h,0,_=>by rw [FitGs] at h;exact h.1
 | t::ts,h,i+1,hi=>by rw [FitGs] at h;exact FitGs_at h.2 (by simpa using hi)
structure NodeW (N:Nat) (w:World) (A1:Option Addr) (n1 c1:Nat) (A2:Option Addr) (n2 c2:Nat) (name:ByteArray) (A:Option Addr) (m cc:Nat) (nums:List Nat) (text:List Int) (kids:List RTree):Prop where
 hn:n1=nums.length
 ht:n2=text.length
 hm:m=kids.length
 hrn:Reads1 w (.slice A1 n1 c1) (nums.map (Value.float .f64))
 hrt:Reads1 w (.slice A2 n2 c2) (text.map (Value.int .i32))
 hkid:KidsAt w A kids
 hcap:m<=cc
 fn:nums.length<=1048576
 fx:∀ x∈nums,x < 18446744073709551616
 ft:text.length<=1048576
 fs:name.size<=70368744177664
 fm:m<=1048576
 ok:∀ i (hi:i < kids.length),sizeR kids[i]<=N/\FitG kids[i]
theorem TN.node {N:Nat}{w:World}{k:Int}{nums:List Nat}{text:List Int}{name:ByteArray}{c:Int}{kids:List RTree}{vs:List Value} (h:TN w (.mk k nums text name c kids) vs) (hf:FitG (.mk k nums text name c kids)) (hN:sizeR (.mk k nums text name c kids)<=N+1) :
  ∃ at1 A1 n1 c1 A2 n2 c2 A m cc,vs=[.int .i64 k,.int .i64 at1,.slice A1 n1 c1,.slice A2 n2 c2,.string name,.int .i32 c,.slice A m cc]/\NodeW N w A1 n1 c1 A2 n2 c2 name A m cc nums text kids:=by
 obtain ⟨at1,nv,tv,A,cc,m,rfl,hrn,hrt,hm,hkid⟩:=h.open_
 obtain ⟨A1,c1,n1,rfl,hn1,_⟩:=hrn.opn
 obtain ⟨A2,c2,n2,rfl,hn2,_⟩:=hrt.opn
 rw [FitG] at hf
 rw [sizeR] at hN
 refine ⟨at1,A1,n1,c1,A2,n2,c2,A,m,cc,rfl,⟨by simpa using hn1,by simpa using hn2,hm,hrn,hrt,hkid,h.cap,hf.1,hf.2.1,hf.2.2.1,hf.2.2.2.1,by rw [hm];exact hf.2.2.2.2.1,fun i hi=>⟨?_,FitGs_at hf.2.2.2.2.2 hi⟩⟩⟩
 have:=sizeRs_at hi
 omega
theorem KidsAt.tail {w:World}{b o:Nat}{t:RTree}{ts:List RTree} (h:KidsAt w (some ⟨b,o,none⟩) (t::ts)):KidsAt w (some ⟨b,o+7,none⟩) ts:=by
 intro i hi
 obtain ⟨b',o',v0,v1,v2,v3,v4,v5,v6,h1,h2,h3⟩:=h (i+1) (by simpa using hi)
 cases h1
 refine ⟨b,o+7,v0,v1,v2,v3,v4,v5,v6,rfl,by simpa using h2,fun w1 hb=>?_⟩
 have:=h3 w1 hb
 have e:o+(i+1)*7=o+7+i*7:=by omega
 rwa [e] at this
structure LatW (w:World) where
 W:World
 h:Below w.heap.size w W
instance latW_some (w:World):Nonempty (LatW w):=⟨⟨w,Below.refl _ _⟩⟩
theorem LatW.cell {w:World}{g:Nat} (hg:g < w.heap.size):∀ (n:LatW w) (o:Nat),n.W.cell? ⟨g,o,none⟩=w.cell? ⟨g,o,none⟩:=fun n _=>n.h.cell (p:=⟨g,_,none⟩) hg
instance:Inhabited RTree:=⟨.mk 0 [] [] ⟨#[]⟩ 0 []⟩
structure MtS (W:World) (vs:List Value) (W':World):Prop where
 box:BoxT W W' vs
 res:W'.heap[W.heap.size+1]?=some (.cells #[.int .i64 0,.int .i32 0,.int .i32 0] 63)
theorem MtS.bel {W W':World}{vs:List Value} (g:MtS W vs W'):Below W.heap.size W W':=g.box.2.1
theorem MtS.step {W W' W2:World}{vs:List Value} (g:MtS W vs W') (hb:Below W'.heap.size W' W2):MtS W vs W2:=⟨g.box.step hb,by rw [hb.block _ (lt_blk g.res)];exact g.res⟩
def ReadsF (F:Nat->Prop) (w:World) (v:Value) (xs:List Value):Prop :=
 (∃ a c,v= .slice a 0 c/\xs=[]) \/
 (∃ b o n c,v= .slice (some ⟨b,o,none⟩) n c/\n=xs.length/\F b/\∀ i (h:i < xs.length),w.cell? ⟨b,o+i,none⟩=some xs[i])
theorem ReadsF.reads {F:Nat->Prop}{w:World}{v:Value}{xs:List Value} (h:ReadsF F w v xs):Reads1 w v xs:=by
 rcases h with h | ⟨b,o,n,c,h1,h2,_,h3⟩
 ·exact .inl h
 ·exact .inr ⟨b,o,n,c,h1,h2,h3⟩
theorem ReadsF.keep {F F':Nat->Prop}{w w':World}{v:Value}{xs:List Value} (hF:∀ b,F b->F' b) (hk:∀ b,F b->w'.heap[b]?=w.heap[b]?) (h:ReadsF F w v xs):ReadsF F' w' v xs:=by
 rcases h with h | ⟨b,o,n,c,h1,h2,hb,h3⟩
 ·exact .inl h
 ·exact .inr ⟨b,o,n,c,h1,h2,hF b hb,fun i hi=>by rw [World.cell?_of_block (hk b hb)];exact h3 i hi⟩
theorem Reads1.foot {w:World}{v:Value}{xs:List Value} (h:Reads1 w v xs):ReadsF (fun b=>b < w.heap.size) w v xs:=by
 rcases h with h | ⟨b,o,n,c,h1,h2,h3⟩
 ·exact .inl h
 ·cases xs with
  | nil=>subst h1;subst h2;exact .inl ⟨_,c,rfl,rfl⟩
  | cons x xs=>exact .inr ⟨b,o,n,c,h1,h2,cell_lt (h3 0 (by simp)),h3⟩
mutual
def TNF (F:Nat->Prop) (w:World):RTree->List Value->Prop
 | .mk k nums text name c kids,vs=>∃ (at_:Int) (nv tv kv:Value),vs=[.int .i64 k,.int .i64 at_,nv,tv,.string name,.int .i32 c,kv]/\ReadsF F w nv (nums.map (Value.float .f64))/\ReadsF F w tv (text.map (Value.int .i32)) /\
   ((kids=[]/\∃ a cc,kv= .slice a 0 cc)\/(kids≠[]/\∃ b o cc,kv= .slice (some ⟨b,o,none⟩) kids.length cc/\kids.length<=cc/\F b/\TKsF F w b o kids))
def TKsF (F:Nat->Prop) (w:World) (b:Nat):Nat->List RTree->Prop
 | _,[]=>True
 | o,t::ts=>(∃ v0 v1 v2 v3 v4 v5 v6,w.cell? ⟨b,o,none⟩=some v0/\w.cell? ⟨b,o+1,none⟩=some v1/\w.cell? ⟨b,o+2,none⟩=some v2/\w.cell? ⟨b,o+3,none⟩=some v3/\w.cell? ⟨b,o+4,none⟩=some v4/\w.cell? ⟨b,o+5,none⟩=some v5/\w.cell? ⟨b,o+6,none⟩=some v6 /\
   TNF F w t [v0,v1,v2,v3,v4,v5,v6])/\TKsF F w b (o+7) ts
end
mutual
theorem TNF.tn {F:Nat->Prop}{w:World}:∀ (t:RTree) (vs:List Value),TNF F w t vs->TN w t vs
 | .mk k nums text name c kids,vs,h=>by
  rw [TNF] at h
  rw [TN]
  obtain ⟨a,nv,tv,kv,h1,h2,h3,h4⟩:=h
  refine ⟨a,nv,tv,kv,h1,h2.reads,h3.reads,?_⟩
  rcases h4 with h4 | ⟨h4,b,o,cc,h5,h5c,_,h6⟩
  ·exact .inl h4
  ·exact .inr ⟨h4,b,o,cc,h5,h5c,TKsF.tks b o kids h6⟩
theorem TKsF.tks {F:Nat->Prop}{w:World} (b:Nat):∀ (o:Nat) (ts:List RTree),TKsF F w b o ts->TKs w b o ts
 | _,[],_=>by rw [TKs];trivial
 | o,t::ts,h=>by
  rw [TKsF] at h
  rw [TKs]
  obtain ⟨⟨v0,v1,v2,v3,v4,v5,v6,h0,h1,h2,h3,h4,h5,h6,h8⟩,h7⟩:=h
  exact ⟨⟨v0,v1,v2,v3,v4,v5,v6,h0,h1,h2,h3,h4,h5,h6,TNF.tn t _ h8⟩,TKsF.tks b (o+7) ts h7⟩
end
mutual
theorem TNF.keep {F F':Nat->Prop}{w w':World} (hF:∀ b,F b->F' b) (hk:∀ b,F b->w'.heap[b]?=w.heap[b]?):∀ (t:RTree) (vs:List Value),TNF F w t vs->TNF F' w' t vs
 | .mk k nums text name c kids,vs,h=>by
  rw [TNF] at h ⊢
  obtain ⟨a,nv,tv,kv,h1,h2,h3,h4⟩:=h
  refine ⟨a,nv,tv,kv,h1,h2.keep hF hk,h3.keep hF hk,?_⟩
  rcases h4 with h4 | ⟨h4,b,o,cc,h5,h5c,hb,h6⟩
  ·exact .inl h4
  ·exact .inr ⟨h4,b,o,cc,h5,h5c,hF b hb,TKsF.keep hF hk b hb o kids h6⟩
theorem TKsF.keep {F F':Nat->Prop}{w w':World} (hF:∀ b,F b->F' b) (hk:∀ b,F b->w'.heap[b]?=w.heap[b]?) (b:Nat) (hb:F b):∀ (o:Nat) (ts:List RTree),TKsF F w b o ts->TKsF F' w' b o ts
 | _,[],_=>by rw [TKsF];trivial
 | o,t::ts,h=>by
  rw [TKsF] at h ⊢
  obtain ⟨⟨v0,v1,v2,v3,v4,v5,v6,h0,h1,h2,h3,h4,h5,h6,h8⟩,h7⟩:=h
  have k:∀ {i:Nat} {v:Value},w.cell? ⟨b,i,none⟩=some v->w'.cell? ⟨b,i,none⟩=some v:=fun {i v} h=>by rw [World.cell?_of_block (hk b hb)];exact h
  exact ⟨⟨v0,v1,v2,v3,v4,v5,v6,k h0,k h1,k h2,k h3,k h4,k h5,k h6,TNF.keep hF hk t _ h8⟩,TKsF.keep hF hk b hb (o+7) ts h7⟩
end
theorem TKsF.weaken {F F':Nat->Prop}{w:World} (hF:∀ b,F b->F' b) (b:Nat):∀ (o:Nat) (ts:List RTree),TKsF F w b o ts->TKsF F' w b o ts
 | _,[],_=>by rw [TKsF];trivial
 | o,t::ts,h=>by
  rw [TKsF] at h ⊢
  obtain ⟨⟨v0,v1,v2,v3,v4,v5,v6,h0,h1,h2,h3,h4,h5,h6,h8⟩,h7⟩:=h
  exact ⟨⟨v0,v1,v2,v3,v4,v5,v6,h0,h1,h2,h3,h4,h5,h6,TNF.keep hF (fun _ _=>rfl) t _ h8⟩,TKsF.weaken hF b (o+7) ts h7⟩
def KOwn (F:Nat->Prop) (w:World) (B:Nat) (v:Value) (kids:List RTree):Prop :=
 ∃ vss:List (List Value),vss.length=kids.length/\(∀ vs∈vss,vs.length=7)/\w.ownsRow B 31 7 v kids.length vss.flatten/\∀ i (h:i < kids.length) (h2:i < vss.length),TNF F w kids[i] vss[i]
theorem KOwn.nil (F:Nat->Prop) (w:World) (B:Nat):KOwn F w B (.slice none 0 0) [] :=
 ⟨[],rfl,by simp,World.ownsRow_nil w B _ _,fun i h=>by simp at h⟩
theorem flat7:∀ (vss:List (List Value)) (_:∀ vs∈vss,vs.length=7) (i j:Nat) (hi:i < vss.length) (_:j < 7),vss.flatten[i*7+j]?=vss[i][j]?
 | [],_,i,_,hi,_=>by simp at hi
 | vs::vss,h,0,j,_,hj=>by
  have:=h vs (by simp)
  rw [List.flatten_cons,List.getElem?_append_left (by omega)];simp
 | vs::vss,h,i+1,j,hi,hj=>by
  have h7:=h vs (by simp)
  rw [List.flatten_cons,List.getElem?_append_right (by omega)]
  have e:(i+1)*7+j - vs.length=i*7+j:=by omega
  rw [e,flat7 vss (fun v hv=>h v (by simp [hv])) i j (by simpa using hi) hj]
  simp
theorem KOwn.tks {F:Nat->Prop}{w:World}{B:Nat}{v:Value}{kids:List RTree} (h:KOwn F w B v kids) (hne:kids≠[]):∃ r cc,v= .slice (some ⟨r,0,none⟩) kids.length cc/\kids.length<=cc/\B<=r/\r < w.heap.size/\TKsF F w r 0 kids:=by
 obtain ⟨vss,hl,h7,hown,ht⟩:=h
 have hn:0 < kids.length:=List.length_pos_iff.2 hne
 have hlt:=World.ownsRow.lt hown
 have hcell:∀ {g:Nat},v.ownBlock=some g->∀ j u,vss.flatten[j]?=some u->w.cell? ((⟨g,0,none⟩:Addr).add j)=some u:=fun hg=>World.ownsRow.cells hown hg
 rcases hown.2 with ⟨_,h0⟩ | ⟨r,cap,cur,rfl,hbr,hg,hnc,_⟩
 ·omega
 ·refine ⟨r,cap,rfl,hnc,hbr,(hlt r rfl).2,?_⟩
  have key:∀ (n o:Nat) (ts:List RTree),ts=kids.drop n->o=n*7->TKsF F w r o ts:=by
   intro n o ts
   induction ts generalizing n o with
   | nil=>intro _ _;rw [TKsF];trivial
   | cons t ts ih =>
    intro h1 h2
    have hnl:n < kids.length:=by
     rcases Nat.lt_or_ge n kids.length with h | h
     ·exact h
     ·rw [List.drop_eq_nil_of_le h] at h1;cases h1
    rw [List.drop_eq_getElem_cons hnl] at h1
    obtain ⟨rfl,h3⟩:=List.cons.inj h1
    have hvl:=h7 vss[n] (List.getElem_mem (by omega))
    obtain ⟨v0,v1,v2,v3,v4,v5,v6,hv⟩:∃ v0 v1 v2 v3 v4 v5 v6,vss[n]=[v0,v1,v2,v3,v4,v5,v6]:=by
     match vss[n],hvl with
     | [v0,v1,v2,v3,v4,v5,v6],_=>exact ⟨v0,v1,v2,v3,v4,v5,v6,rfl⟩
    have ht2:=ht n hnl (by omega)
    rw [hv] at ht2
    have hc:∀ j u,j < 7->[v0,v1,v2,v3,v4,v5,v6][j]?=some u->w.cell? ⟨r,o+j,none⟩=some u:=by
     intro j u hj hu
     have:=hcell (g:=r) rfl (n*7+j) u (by rw [flat7 vss h7 n j (by omega) hj,hv];exact hu)
     rw [h2]
     have e:(⟨r,0,none⟩:Addr).add (n*7+j)=⟨r,n*7+j,none⟩:=by
      unfold Addr.add;split
      ·rename_i h0;rw [h0]
      ·simp
     rw [<- e];exact this
    rw [TKsF]
    exact ⟨⟨v0,v1,v2,v3,v4,v5,v6,hc 0 _ (by omega) rfl,hc 1 _ (by omega) rfl,hc 2 _ (by omega) rfl,hc 3 _ (by omega) rfl,hc 4 _ (by omega) rfl,hc 5 _ (by omega) rfl,hc 6 _ (by omega) rfl,ht2⟩,ih (n+1) (o+7) h3 (by omega)⟩
  exact key 0 0 kids rfl rfl
def FK (w0 w:World) (kv:Value) (W:World) (b:Nat):Prop:=(b < w0.heap.size\/w.heap.size+3<=b)/\kv.ownBlock≠some b/\b < W.heap.size
structure OfT (w0 w:World) (vs:List Value) (k c:Int) (nv tv:Value) (name:ByteArray) (kids:List RTree) (i:Nat) (kv:Value) (wr:World):Prop where
 below:Below w.heap.size w wr
 w0w:Below w0.heap.size w0 w
 sz:w.heap.size+3<=wr.heap.size
 bx:∀ j,wr.cell? ⟨w.heap.size,j,none⟩=vs[j]?
 r:∀ j,j < 7->∃ v,wr.cell? ⟨w.heap.size+1,j,none⟩=some v
 fr:∀ j,wr.frozen? ⟨w.heap.size+1,j,none⟩=false
 g:∀ j,wr.cell? ⟨w.heap.size+2,j,none⟩=[.int .i64 k,.int .i64 0,nv,tv,.string name,.int .i32 c,kv][j]?
 fg:∀ j,wr.frozen? ⟨w.heap.size+2,j,none⟩=false
 own:KOwn (FK w0 w kv wr) wr (w.heap.size+3) kv (kids.take i)
theorem ownsRow_below2 {w w':World}{B:Nat}{e:TypeId}{s n:Nat}{v:Value}{xs:List Value} (h:w.ownsRow B e s v n xs) (hb:Below w.heap.size w w'):w'.ownsRow B e s v n xs:=by
 refine ⟨h.1,?_⟩
 rcases h.2 with h2 | ⟨g,cap,cur,hv,hbg,hg,r⟩
 ·exact .inl h2
 ·refine .inr ⟨g,cap,cur,hv,hbg,?_,r⟩
  have hlt:g < w.heap.size:=by
   rcases Nat.lt_or_ge g w.heap.size with hlt | hge
   ·exact hlt
   ·rw [Array.getElem?_eq_none hge] at hg;cases hg
  rw [hb.block g hlt];exact hg
theorem OfT.call {w0 w:World}{vs:List Value}{k c:Int}{nv tv:Value}{name:ByteArray}{kids:List RTree}{i:Nat}{kv:Value}{wr w2:World} (h:OfT w0 w vs k c nv tv name kids i kv wr) (hb:Below wr.heap.size wr w2):OfT w0 w vs k c nv tv name kids i kv w2:=by
 have hz:=h.sz
 have hz2:=hb.size
 have ce:∀ (b j:Nat),b < wr.heap.size->w2.cell? ⟨b,j,none⟩=wr.cell? ⟨b,j,none⟩:=fun b j hlt=>hb.cell (p:=⟨b,j,none⟩) hlt
 have fe:∀ (b j:Nat),b < wr.heap.size->w2.frozen? ⟨b,j,none⟩=wr.frozen? ⟨b,j,none⟩:=fun b j hlt=>hb.frozen (p:=⟨b,j,none⟩) hlt
 obtain ⟨vss,hl,h7,hown,ht⟩:=h.own
 refine ⟨h.below.trans (hb.mono h.below.size),h.w0w,by omega,fun j=>by rw [ce _ _ (by omega)];exact h.bx j,fun j hj=>by rw [ce _ _ (by omega)];exact h.r j hj,fun j=>by rw [fe _ _ (by omega)];exact h.fr j,
  fun j=>by rw [ce _ _ (by omega)];exact h.g j,fun j=>by rw [fe _ _ (by omega)];exact h.fg j,vss,hl,h7,ownsRow_below2 hown hb,fun j hj hj2=>?_⟩
 exact TNF.keep (fun b hF=>⟨hF.1,hF.2.1,by have:=hF.2.2;omega⟩) (fun b hF=>hb.block b hF.2.2) _ _ (ht j hj hj2)
theorem OfT.push {w0 w:World}{vs:List Value}{k c:Int}{nv tv:Value}{name:ByteArray}{kids:List RTree}{i:Nat} (hi:i < kids.length){kv:Value}{w2:World}{z:Nat} (h:OfT w0 w vs k c nv tv name kids i kv w2) (hz:w.heap.size+3<=z) (hkz:∀ b,kv.ownBlock=some b->b < z)
  {us:List Value} (hl7:us.length=7) (ht:TNF (fun b=>(b < w0.heap.size\/z<=b)/\b < w2.heap.size) w2 kids[i] us) {o:Obj} {w3:World} {r cap n':Nat} {vss:List (List Value)} (hv1:vss.length=(kids.take i).length) (hv2:∀ v∈vss,v.length=7) (hv3:∀ j (hj:j < (kids.take i).length) (h2:j < vss.length),TNF (FK w0 w kv w2) w2 (kids.take i)[j] vss[j])
  (hn':n'=i+1) (hown:w3.ownsRow (w.heap.size+3) 31 7 (.slice (some ⟨r,0,none⟩) n' cap) n' (vss.flatten++us)) (hg:(w2.alloc o).grownBy w3 kv.ownBlock) (hr:kv.ownBlock=some r\/r=(w2.alloc o).heap.size) :
  OfT w0 w vs k c nv tv name kids (i+1) (.slice (some ⟨r,0,none⟩) n' cap) (w3.setCell ⟨w.heap.size+2,6,none⟩ (.slice (some ⟨r,0,none⟩) n' cap)):=by
 have hs:=h.sz
 have hsz3:w2.heap.size+1<=w3.heap.size:=by have:=hg.size;simpa using this
 have ow:=h.own
 obtain ⟨_,_,_,how,_⟩:=ow
 have hlo:∀ b,kv.ownBlock=some b->w.heap.size+3<=b/\b < w2.heap.size:=fun b hb=>World.ownsRow.lt how b hb
 have hr2:w.heap.size+3<=r:=by
  rcases hr with e | e
  ·exact (hlo r e).1
  ·rw [e];simp;omega
 have hw0:=h.w0w.size
 have sz4:(w3.setCell ⟨w.heap.size+2,6,none⟩ (.slice (some ⟨r,0,none⟩) n' cap)).heap.size=w3.heap.size:=by simp [World.setCell]
 have same:∀ b,b < w2.heap.size->kv.ownBlock≠some b->b≠w.heap.size+2->(w3.setCell ⟨w.heap.size+2,6,none⟩ (.slice (some ⟨r,0,none⟩) n' cap)).heap[b]?=w2.heap[b]?:=by
  intro b hb h1 h2
  rw [Below.heap_setCell _ _ _ _ (by simpa using h2),hg.block b (by simp;omega) h1.symm,heap_alloc_old w2 o hb]
 have lowne:∀ b,b < w.heap.size+3->kv.ownBlock≠some b:=fun b hb e=>by have:=(hlo b e).1;omega
 have ce:∀ b j,b < w.heap.size+3->b≠w.heap.size+2->(w3.setCell ⟨w.heap.size+2,6,none⟩ (.slice (some ⟨r,0,none⟩) n' cap)).cell? ⟨b,j,none⟩=w2.cell? ⟨b,j,none⟩:=fun b j h1 h2=>World.cell?_of_block (same b (by omega) (lowne b h1) h2)
 have fe:∀ b j,b < w.heap.size+3->b≠w.heap.size+2->(w3.setCell ⟨w.heap.size+2,6,none⟩ (.slice (some ⟨r,0,none⟩) n' cap)).frozen? ⟨b,j,none⟩=w2.frozen? ⟨b,j,none⟩:=fun b j h1 h2=>World.frozen?_of_block (same b (by omega) (lowne b h1) h2)
 have gb:w3.heap[w.heap.size+2]?=w2.heap[w.heap.size+2]?:=by rw [hg.block _ (by simp;omega) (lowne _ (by omega)).symm,heap_alloc_old w2 o (by omega)]
 have gc:∀ j,w3.cell? ⟨w.heap.size+2,j,none⟩=[.int .i64 k,.int .i64 0,nv,tv,.string name,.int .i32 c,kv][j]?:=fun j=>by rw [World.cell?_of_block gb];exact h.g j
 refine ⟨?_,h.w0w,?_,fun j=>?_,fun j hj=>?_,fun j=>?_,fun j=>?_,fun j=>?_,?_⟩
 ·refine ⟨?_,?_,?_,?_,fun b hb=>?_⟩
  ·exact hg.os.trans h.below.os
  ·exact hg.tape.trans h.below.tape
  ·exact hg.output.trans h.below.output
  ·have:=h.below.size;rw [sz4];omega
  ·rw [same b (by omega) (lowne b (by omega)) (by omega)];exact h.below.block b hb
 ·rw [sz4];omega
 ·rw [ce _ _ (by omega) (by omega)];exact h.bx j
 ·rw [ce _ _ (by omega) (by omega)];exact h.r j hj
 ·rw [fe _ _ (by omega) (by omega)];exact h.fr j
 ·by_cases e:j=6
  ·subst e;exact World.cell?_setCell_same _ _ _ (gc 6)
  ·rw [World.cell?_setCell_other _ _ _ _ (fun e2=>e (by injection e2 with _ e3;exact e3.symm)),gc]
   rcases (show j < 6\/7<=j by omega) with h1 | h1
   ·rcases (show j=0\/j=1\/j=2\/j=3\/j=4\/j=5 by omega) with rfl | rfl | rfl | rfl | rfl | rfl <;> rfl
   ·rw [List.getElem?_eq_none (by simpa using h1),List.getElem?_eq_none (by simpa using h1)]
 ·rw [World.frozen?_setCell,World.frozen?_of_block (a:=⟨w.heap.size+2,j,none⟩) gb];exact h.fg j
 ·refine ⟨vss++[us],?_,?_,?_,?_⟩
  ·rw [List.length_append,hv1,List.length_take,List.length_take];simp;omega
  ·intro v hv
   rcases List.mem_append.1 hv with hv | hv
   ·exact hv2 v hv
   ·obtain rfl:v=us:=by simpa using hv
    exact hl7
  ·have e1:(vss++[us]).flatten=vss.flatten++us:=by simp
   have e2:(kids.take (i+1)).length=n':=by rw [List.length_take];omega
   rw [e1,e2]
   exact ownsRow_setCell_other hown (by simp [Value.ownBlock];omega) _
  ·have tl:(kids.take i).length=i:=by rw [List.length_take];omega
   intro j hj hj2
   rcases Nat.lt_or_ge j i with h1 | h1
   ·rw [List.getElem_append_left (by omega)]
    have:=hv3 j (by omega) (by omega)
    rw [List.getElem_take] at this ⊢
    have q1:∀ b,FK w0 w kv w2 b->FK w0 w (.slice (some ⟨r,0,none⟩) n' cap) (w3.setCell ⟨w.heap.size+2,6,none⟩ (.slice (some ⟨r,0,none⟩) n' cap)) b:=fun b hF=>⟨hF.1,fun e=>by
     have e':r=b:=by simpa [Value.ownBlock] using e
     rcases hr with e2 | e2
     ·exact hF.2.1 (by rw [<- e'];exact e2)
     ·have:=hF.2.2;rw [e2] at e';simp at e';omega,by have:=hF.2.2;rw [sz4];omega⟩
    exact TNF.keep q1 (fun b hF=>same b hF.2.2 hF.2.1 (by rcases hF.1 with h2 | h2 <;> omega)) _ _ this
   ·obtain rfl:j=i:=by have:=hj;rw [List.length_take] at this;omega
    have e3:(vss++[us])[j]'(by simp;omega)=us:=by rw [List.getElem_append_right (by omega)];simp [hv1,tl]
    rw [e3,List.getElem_take]
    have q1:∀ b,((b < w0.heap.size\/z<=b)/\b < w2.heap.size)->FK w0 w (.slice (some ⟨r,0,none⟩) n' cap) (w3.setCell ⟨w.heap.size+2,6,none⟩ (.slice (some ⟨r,0,none⟩) n' cap)) b:=fun b hF=>⟨by rcases hF.1 with h2 | h2 <;> omega,fun e=>by
     have e':r=b:=by simpa [Value.ownBlock] using e
     rcases hr with e2 | e2
     ·have:=hkz r e2
      have:=(hlo r e2).1
      rcases hF.1 with h2 | h2 <;> omega
     ·have:=hF.2;rw [e2] at e';simp at e';omega,by have:=hF.2;rw [sz4];omega⟩
    exact TNF.keep q1 (fun b hF=>same b hF.2 (fun e=>by
     have:=hkz b e
     have:=(hlo b e).1
     rcases hF.1 with h2 | h2 <;> omega) (by rcases hF.1 with h2 | h2 <;> omega)) _ _ ht
def set7 (w:World) (R:Nat) (u0 u1 u2 u3 u4 u5 u6:Value):World :=
 ((((((w.setCell ⟨R,0,none⟩ u0).setCell ⟨R,1,none⟩ u1).setCell ⟨R,2,none⟩ u2).setCell ⟨R,3,none⟩ u3).setCell ⟨R,4,none⟩ u4).setCell ⟨R,5,none⟩ u5).setCell ⟨R,6,none⟩ u6
theorem set7_block (w:World) (R:Nat) (u0 u1 u2 u3 u4 u5 u6:Value) (b:Nat) (h:b≠R):(set7 w R u0 u1 u2 u3 u4 u5 u6).heap[b]?=w.heap[b]?:=by
 unfold set7
 rw [Below.heap_setCell _ _ _ _ (by simpa using h),Below.heap_setCell _ _ _ _ (by simpa using h),Below.heap_setCell _ _ _ _ (by simpa using h),Below.heap_setCell _ _ _ _ (by simpa using h),Below.heap_setCell _ _ _ _ (by simpa using h),Below.heap_setCell _ _ _ _ (by simpa using h),Below.heap_setCell _ _ _ _ (by simpa using h)]
theorem set7_size (w:World) (R:Nat) (u0 u1 u2 u3 u4 u5 u6:Value):(set7 w R u0 u1 u2 u3 u4 u5 u6).heap.size=w.heap.size:=by unfold set7;simp [World.setCell]
theorem set7_below {w wr:World} (h:Below w.heap.size w wr) (R:Nat) (hR:w.heap.size<=R) (u0 u1 u2 u3 u4 u5 u6:Value):Below w.heap.size w (set7 wr R u0 u1 u2 u3 u4 u5 u6) :=
 ((((((h.setCell hR _).setCell hR _).setCell hR _).setCell hR _).setCell hR _).setCell hR _).setCell hR _
theorem OfT.done {w0 w:World}{vs:List Value}{k c:Int}{nums:List Nat}{text:List Int}{nv tv:Value}{name:ByteArray}{kids:List RTree}{kv:Value}{wr:World} (h:OfT w0 w vs k c nv tv name kids kids.length kv wr)
  (hn:Reads1 w0 nv (nums.map (Value.float .f64))) (ht:Reads1 w0 tv (text.map (Value.int .i32))) (u0 u1 u2 u3 u4 u5 u6:Value) :
  TNF (fun b=>(b < w0.heap.size\/w.heap.size<=b)/\b < (set7 wr (w.heap.size+1) u0 u1 u2 u3 u4 u5 u6).heap.size) (set7 wr (w.heap.size+1) u0 u1 u2 u3 u4 u5 u6) (.mk k nums text name c kids) [.int .i64 k,.int .i64 0,nv,tv,.string name,.int .i32 c,kv]/\Below w.heap.size w (set7 wr (w.heap.size+1) u0 u1 u2 u3 u4 u5 u6):=by
 have hw0:=h.w0w.size
 have hsz:=h.sz
 have hbl:Below w.heap.size w (set7 wr (w.heap.size+1) u0 u1 u2 u3 u4 u5 u6):=set7_below h.below _ (by omega) _ _ _ _ _ _ _
 refine ⟨?_,hbl⟩
 have hb0:∀ b,b < w0.heap.size->(set7 wr (w.heap.size+1) u0 u1 u2 u3 u4 u5 u6).heap[b]?=w0.heap[b]?:=fun b hb=>by rw [hbl.block b (by omega)];exact h.w0w.block b hb
 have hF0:∀ b,b < w0.heap.size->((b < w0.heap.size\/w.heap.size<=b)/\b < (set7 wr (w.heap.size+1) u0 u1 u2 u3 u4 u5 u6).heap.size):=fun b hb=>⟨.inl hb,by rw [set7_size];omega⟩
 rw [TNF]
 refine ⟨0,nv,tv,kv,rfl,(Reads1.foot hn).keep hF0 hb0,(Reads1.foot ht).keep hF0 hb0,?_⟩
 have ow:=h.own
 rw [List.take_length] at ow
 by_cases hk:kids=[]
 ·subst hk
  obtain ⟨vss,_,_,hown,_⟩:=ow
  rcases hown.2 with ⟨rfl,_⟩ | ⟨g,cap,cur,rfl,_⟩
  ·exact .inl ⟨rfl,_,_,rfl⟩
  ·exact .inl ⟨rfl,_,_,rfl⟩
 ·obtain ⟨r,cc,rfl,hc,hr1,hr2,htk⟩:=ow.tks hk
  have keep:∀ b,w.heap.size+3<=b\/b < w.heap.size->(set7 wr (w.heap.size+1) u0 u1 u2 u3 u4 u5 u6).heap[b]?=wr.heap[b]?:=fun b hb=>set7_block _ _ _ _ _ _ _ _ _ _ (by omega)
  -- the row's own block beside the blocks of its nodes
  have htk2:TKsF (fun b=>((b < w0.heap.size\/w.heap.size+3<=b)/\b < wr.heap.size)) wr r 0 kids:=by
   exact TKsF.weaken (fun b hF=>⟨hF.1,hF.2.2⟩) r 0 kids htk
  refine .inr ⟨hk,r,0,cc,rfl,hc,⟨.inr (by omega),by rw [set7_size];omega⟩,?_⟩
  exact TKsF.keep (F:=fun b=>((b < w0.heap.size\/w.heap.size+3<=b)/\b < wr.heap.size)) (fun b hF=>⟨by rcases hF.1 with h1 | h1 <;> omega,by rw [set7_size];exact hF.2⟩) (fun b hF=>keep b (by rcases hF.1 with h1 | h1 <;> omega)) r ⟨.inr hr1,hr2⟩ 0 kids htk2
def gz (g:Nat) (W:World):Value:=(W.cell? ⟨g,6,none⟩).getD (.int .i64 0)
theorem KOwn.slice {F:Nat->Prop}{w:World}{B:Nat}{v:Value}{kids:List RTree} (h:KOwn F w B v kids):∃ av cv,v= .slice av kids.length cv:=by
 obtain ⟨vss,_,_,hown,_⟩:=h
 rcases hown.2 with ⟨rfl,h0⟩ | ⟨g,cap,cur,rfl,_⟩
 ·exact ⟨none,0,by rw [h0]⟩
 ·exact ⟨_,_,rfl⟩
def Seven (w:World) (R:Nat):Prop:=∃ z0 z1 z2 z3 z4 z5 z6,∀ j,w.cell? ⟨R,j,none⟩=[z0,z1,z2,z3,z4,z5,z6][j]?
def SV (w:World) (R:Nat):Prop:=Seven w R/\(∀ j,w.frozen? ⟨R,j,none⟩=false)/\R < w.heap.size
theorem SV.new (X:World) (R:Nat) (h:R=X.heap.size) (z0 z1 z2 z3 z4 z5 z6:Value) (T:TypeId):SV (X.alloc (.cells #[z0,z1,z2,z3,z4,z5,z6] T)) R:=by
 subst h
 exact ⟨⟨z0,z1,z2,z3,z4,z5,z6,fun j=>by rw [World.cell?_alloc_at _ _ _ _ rfl];simp⟩,fun j=>by rw [World.frozen?_alloc_at _ _ _ _ rfl],by simp⟩
theorem SV.below {X W:World}{R:Nat} (h:SV X R) (hb:Below X.heap.size X W):SV W R:=by
 obtain ⟨⟨z0,z1,z2,z3,z4,z5,z6,hz⟩,hf,hlt⟩:=h
 exact ⟨⟨z0,z1,z2,z3,z4,z5,z6,fun j=>by rw [hb.cell (p:=⟨R,j,none⟩) hlt];exact hz j⟩,fun j=>by rw [hb.frozen (p:=⟨R,j,none⟩) hlt];exact hf j,by have:=hb.size;omega⟩
theorem SV.drew {X:World}{R:Nat} (h:SV X R):SV X.drew R:=h.below (Below.refl _ X).drew
theorem MtS.put {W W':World}{vs:List Value} (g:MtS W vs W'){b j:Nat} (hb:W.heap.size+2<=b) (u:Value):MtS W vs (W'.setCell ⟨b,j,none⟩ u):=by
 have e:∀ i,i < W.heap.size+2->(W'.setCell ⟨b,j,none⟩ u).heap[i]?=W'.heap[i]?:=fun i hi=>Below.heap_setCell _ _ _ _ (by show i≠b;omega)
 have hz:(W'.setCell ⟨b,j,none⟩ u).heap.size=W'.heap.size:=by simp [World.setCell]
 refine ⟨⟨fun i=>?_,g.box.2.1.setCell (by show _<=b;omega) u,by rw [hz];exact g.box.2.2⟩,by rw [e _ (by omega)];exact g.res⟩
 rw [World.cell?_of_block (a:=⟨W.heap.size,i,none⟩) (e _ (by show W.heap.size < _;omega))]
 exact g.box.1 i
structure TwS (w W:World) (vs:List Value) (W':World):Prop where
 mts:MtS W vs W'
 old:Below w.heap.size w W'
 hw:w.heap.size<=W.heap.size
theorem TwS.step {w W W' W2:World}{vs:List Value} (g:TwS w W vs W') (hb:Below W'.heap.size W' W2):TwS w W vs W2:=⟨g.mts.step hb,bel_both g.old hb,g.hw⟩
theorem TwS.dr {w W W':World}{vs:List Value} (g:TwS w W vs W'):TwS w W vs W'.drew:=g.step (Below.refl _ W').drew
theorem TwS.al {w W W':World}{vs:List Value} (g:TwS w W vs W') (o:Obj):TwS w W vs (W'.alloc o):=g.step (bel1 W' o)
theorem TwS.put {w W W':World}{vs:List Value} (g:TwS w W vs W'){b j:Nat} (hb:W.heap.size+2<=b) (u:Value):TwS w W vs (W'.setCell ⟨b,j,none⟩ u):=⟨g.mts.put hb u,g.old.setCell (by show _<=b;have:=g.hw;omega) u,g.hw⟩
theorem TwS.self {w W W':World}{vs:List Value} (g:TwS w W vs W'):TwS w W vs W':=g
theorem TwS.sz {w W W':World}{vs:List Value} (g:TwS w W vs W'):W.heap.size+2<=W'.heap.size:=lt_blk g.mts.res
structure TwX (w W:World) (vs:List Value) (X Y:Nat) (xs ys:List Value) (W':World):Prop where
 tws:TwS w W vs W'
 cx:∀ j,W'.cell? ⟨X,j,none⟩=xs[j]?
 cy:∀ j,W'.cell? ⟨Y,j,none⟩=ys[j]?
 lx:X < W'.heap.size
 ly:Y < W'.heap.size
theorem TwX.step {w W W' W2:World}{vs:List Value}{X Y:Nat}{xs ys:List Value} (g:TwX w W vs X Y xs ys W') (hb:Below W'.heap.size W' W2):TwX w W vs X Y xs ys W2 :=
 ⟨g.tws.step hb,fun j=>by rw [hb.cell (p:=⟨X,j,none⟩) g.lx];exact g.cx j,fun j=>by rw [hb.cell (p:=⟨Y,j,none⟩) g.ly];exact g.cy j,by have:=hb.size;have:=g.lx;omega,by have:=hb.size;have:=g.ly;omega⟩
theorem TwX.cells {w W W':World}{vs:List Value}{X Y:Nat}{x0 x1 x2 x3 x4 x5 x6 y0 y1 y2 y3 y4 y5 y6:Value} (g:TwX w W vs X Y [x0,x1,x2,x3,x4,x5,x6] [y0,y1,y2,y3,y4,y5,y6] W') :
  (W'.cell? ⟨X,0,none⟩=some (x0)/\W'.cell? ⟨X,1,none⟩=some (x1)/\W'.cell? ⟨X,2,none⟩=some (x2)/\W'.cell? ⟨X,3,none⟩=some (x3)/\W'.cell? ⟨X,4,none⟩=some (x4)/\W'.cell? ⟨X,5,none⟩=some (x5)/\W'.cell? ⟨X,6,none⟩=some (x6))/\(W'.cell? ⟨Y,0,none⟩=some (y0)/\W'.cell? ⟨Y,1,none⟩=some (y1)/\W'.cell? ⟨Y,2,none⟩=some (y2)/\W'.cell? ⟨Y,3,none⟩=some (y3)/\W'.cell? ⟨Y,4,none⟩=some (y4)/\W'.cell? ⟨Y,5,none⟩=some (y5)/\W'.cell? ⟨Y,6,none⟩=some (y6)) :=
 ⟨⟨g.cx 0,g.cx 1,g.cx 2,g.cx 3,g.cx 4,g.cx 5,g.cx 6⟩,⟨g.cy 0,g.cy 1,g.cy 2,g.cy 3,g.cy 4,g.cy 5,g.cy 6⟩⟩
def KidR (w:World) (A:Option Addr) (kids:List RTree):Prop :=
 ∀ i (hi:i < kids.length),∃ b o v0 v1 v2 v3 v4 v5,A=some ⟨b,o,none⟩/\RN w kids[i] [v0,v1,v2,v3,v4,v5]/\∀ w1,Below w.heap.size w w1 ->
    w1.cell? ⟨b,o+i*6,none⟩=some v0/\w1.cell? ⟨b,o+i*6+1,none⟩=some v1/\w1.cell? ⟨b,o+i*6+2,none⟩=some v2/\w1.cell? ⟨b,o+i*6+3,none⟩=some v3/\w1.cell? ⟨b,o+i*6+4,none⟩=some v4/\w1.cell? ⟨b,o+i*6+5,none⟩=some v5
theorem KidR.below {w w':World}{A:Option Addr}{kids:List RTree} (h:KidR w A kids) (hb:Below w.heap.size w w'):KidR w' A kids:=by
 intro i hi
 obtain ⟨b,o,v0,v1,v2,v3,v4,v5,h1,h2,h3⟩:=h i hi
 exact ⟨b,o,v0,v1,v2,v3,v4,v5,h1,RN.below hb _ _ h2,fun w1 hb1=>h3 w1 (hb.trans (hb1.mono hb.size))⟩
theorem KidR.tail {w:World}{b o:Nat}{t:RTree}{ts:List RTree} (h:KidR w (some ⟨b,o,none⟩) (t::ts)):KidR w (some ⟨b,o+6,none⟩) ts:=by
 intro i hi
 obtain ⟨b',o',v0,v1,v2,v3,v4,v5,h1,h2,h3⟩:=h (i+1) (by simpa using hi)
 cases h1
 refine ⟨b,o+6,v0,v1,v2,v3,v4,v5,rfl,by simpa using h2,fun w1 hb=>?_⟩
 have:=h3 w1 hb
 have e:o+(i+1)*6=o+6+i*6:=by omega
 rwa [e] at this
theorem KidR.back {w:World}{b o j:Nat}{t:RTree}{ts:List RTree} (h:KidR w (some ⟨b,o,none⟩) (ts++[t])) (hj:j=ts.length):KidR w (some ⟨b,o+j*6,none⟩) [t]:=by
 subst hj
 intro i hi
 obtain rfl:i=0:=by simpa using hi
 obtain ⟨b',o',v0,v1,v2,v3,v4,v5,h1,h2,h3⟩:=h ts.length (by simp)
 cases h1
 exact ⟨b,o+ts.length*6,v0,v1,v2,v3,v4,v5,rfl,by simpa using h2,fun w1 hb=>by simpa using h3 w1 hb⟩
theorem KidR.some {w:World}{A:Option Addr}{kids:List RTree} (h:KidR w A kids) (h0:0 < kids.length):∃ b o,A=some ⟨b,o,none⟩:=by
 obtain ⟨b,o,_,_,_,_,_,_,e,_⟩:=h 0 h0
 exact ⟨b,o,e⟩
structure NodR (N:Nat) (w:World) (A1:Option Addr) (n1 c1:Nat) (A2:Option Addr) (n2 c2:Nat) (name:ByteArray) (A:Option Addr) (m cc:Nat) (nums:List Nat) (text:List Int) (kids:List RTree):Prop where
 hn:n1=nums.length
 ht:n2=text.length
 hm:m=kids.length
 hrn:Reads1 w (.slice A1 n1 c1) (nums.map (Value.float .f64))
 hrt:Reads1 w (.slice A2 n2 c2) (text.map (Value.int .i32))
 hkid:KidR w A kids
 hcap:m<=cc
 fn:nums.length<=1048576
 fx:∀ x∈nums,x < 18446744073709551616
 ft:text.length<=1048576
 fs:name.size<=70368744177664
 fm:m<=1048576
 ok:∀ i (hi:i < kids.length),sizeR kids[i]<=N/\FitG kids[i]
theorem RN.node {N:Nat}{w:World}{k:Int}{nums:List Nat}{text:List Int}{name:ByteArray}{c:Int}{kids:List RTree}{v0 v1 v2 v3 v4 v5:Value} (h:RN w (.mk k nums text name c kids) [v0,v1,v2,v3,v4,v5]) (hf:FitG (.mk k nums text name c kids)) (hN:sizeR (.mk k nums text name c kids)<=N+1) :
  ∃ A1 n1 c1 A2 n2 c2 A m cc,v0= .int .i64 k/\v1= .slice A1 n1 c1/\v2= .slice A2 n2 c2/\v3= .string name/\v4= .int .i32 c/\v5= .slice A m cc/\NodR N w A1 n1 c1 A2 n2 c2 name A m cc nums text kids:=by
 obtain ⟨nv,tv,A,cc,m,hvs,hrn,hrt,hm,hkid⟩:=h.open_
 simp only [List.cons.injEq,and_true] at hvs
 obtain ⟨rfl,rfl,rfl,rfl,rfl,rfl⟩:=hvs
 obtain ⟨A1,c1,n1,rfl,hn1,_⟩:=hrn.opn
 obtain ⟨A2,c2,n2,rfl,hn2,_⟩:=hrt.opn
 rw [FitG] at hf
 rw [sizeR] at hN
 refine ⟨A1,n1,c1,A2,n2,c2,A,m,cc,rfl,rfl,rfl,rfl,rfl,rfl,⟨by simpa using hn1,by simpa using hn2,hm,hrn,hrt,hkid,h.cap,hf.1,hf.2.1,hf.2.2.1,hf.2.2.2.1,by rw [hm];exact hf.2.2.2.2.1,fun i hi=>⟨?_,FitGs_at hf.2.2.2.2.2 hi⟩⟩⟩
 have:=sizeRs_at hi
 omega
end Go.Proofs.YtbakjaliponbbaaGreatDoor
