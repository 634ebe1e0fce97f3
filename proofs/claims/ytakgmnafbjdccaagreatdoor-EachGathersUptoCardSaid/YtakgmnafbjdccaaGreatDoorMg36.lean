/- What is gathered of good arrays is good: plain law. Two rows that a call makes side by side: one of arrays, one of plain arrays. A statement that makes two .. Conditions: as each theorem says. -/
import Derived.Test.YtakgmnafbjdccaaGreatDoorMg35
import Derived.Test.YtakgmnafbjdccaaGreatDoorMg24
import Derived.Test.YtakgmnafbjdccaaGreatDoorMg33
import Derived.Test.YtakgmnafbjdccaaGreatDoorMg21
import Derived.Test.YtakgmnafbjdccaaGreatDoorMg28
import Derived.Test.YtakgmnafbjdccaaGreatDoorMg22
import Derived.Test.YtakgmnafbjdccaaGreatDoorMg34
import Derived.Test.YtakgmnafbjdccaaGreatDoorMg04
import Derived.BigQuiet
set_option maxRecDepth 100000
set_option maxHeartbeats 4000000
namespace Go.Proofs.YtakgmnafbjdccaaGreatDoor
open Go Go.RowKit Go.Proofs Fl
theorem good_len {d:Nat}{a:PA} (h:GoodA d a) (h0:a.shape.length=0):a.len=1:=by
 have h1:=h.sh.2.2.2
 have h2:a.shape=[]:=List.eq_nil_of_length_eq_zero h0
 rw [h2] at h1
 exact h1.symm
theorem good_ones {d:Nat}{l:List PA} (hl:∀ a∈l,GoodA d a):(∀ a∈l,a.shape.length=0->a.fill≠2->a.len=1)/\∀ a∈l,a.shape.length<=1048576 :=
 ⟨fun a ha h0 _=>good_len (hl a ha) h0,fun a ha=>by have:=(hl a ha).sh.2.1;omega⟩
theorem num0_tf {d:Nat}{a:PA} (h:GoodA d a):TF (num0 a):=by
 cases a with
 | nums s l =>
  rw [GoodA] at h
  cases l with
  | nil=>exact tf_zero
  | cons x l=>exact h.2.2 x (List.mem_cons_self ..)
 | chars s l=>exact tf_zero
 | boxes s l=>exact tf_zero
theorem gat_good {d:Nat}{s:List Nat}{l:List PA} (hs:OkSh s l.length) (hl:∀ a∈l,GoodA d a):GoodA (d+1) (gatA s l):=by
 unfold gatA
 split
 ·split
  ·rw [GoodA]
   refine ⟨Nat.succ_pos _,by rw [List.length_map];exact hs,fun x hx=>?_⟩
   obtain ⟨a,ha,rfl⟩:=List.mem_map.1 hx
   exact num0_tf (hl a ha)
  ·rw [GoodA]
   exact ⟨Nat.succ_pos _,by rw [List.length_map];exact hs⟩
 ·rw [GoodA]
  exact ⟨Nat.succ_pos _,hs,goodAs_of _ fun i hi=>hl _ (List.getElem_mem hi)⟩
theorem gat_small {M:Nat}{s:List Nat}{l:List PA} (hs:l.length<=M) (hl:∀ a∈l,SmA M a):SmA M (gatA s l):=by
 unfold gatA
 split
 ·split
  ·rw [SmA,List.length_map]
   exact hs
  ·rw [SmA,List.length_map]
   exact hs
 ·rw [SmA]
  exact ⟨hs,smAs_of _ fun i hi=>hl _ (List.getElem_mem hi)⟩
theorem ixP_id {n i:Nat} (hi:i < n):ixP n i < n:=by rw [ixP_in hi];exact hi
theorem part_good1 {d:Nat}{a:PA} (h:GoodA (d+1) a) (hd:0 < d){i:Nat} (hi:i < a.len):GoodA d (partA a i):=by
 cases a with
 | nums s l =>
  have h1:=partA_good h.nums1 (i:=i) (ixP_id hi)
  exact GoodA.up hd _ h1
 | chars s l =>
  have h1:=partA_good h.chars1 (i:=i) (ixP_id hi)
  exact GoodA.up hd _ h1
 | boxes s l=>exact partA_goodB h (i:=i) (ixP_id hi)
def partsA (a:PA) (c:Nat):List PA:=(List.range c).map (partA a)
theorem partsA_len (a:PA) (c:Nat):(partsA a c).length=c:=by simp [partsA]
theorem partsA_succ (a:PA) (c:Nat):partsA a (c+1)=partsA a c++[partA a c]:=by simp [partsA,List.range_succ]
theorem partsA_good {d:Nat}{a:PA} (h:GoodA (d+1) a) (hd:0 < d){c:Nat} (hc:c<=a.len):∀ x∈partsA a c,GoodA d x:=by
 intro x hx
 obtain ⟨i,hi,rfl⟩:=List.mem_map.1 hx
 exact part_good1 h hd (by have:=List.mem_range.1 hi;omega)
theorem partsA_small {M:Nat} (hM:1<=M){a:PA} (h:SmA M a){c:Nat} (hc:c<=a.len):∀ x∈partsA a c,SmA M x:=by
 intro x hx
 obtain ⟨i,hi,rfl⟩:=List.mem_map.1 hx
 exact smA_one hM h i (ixP_id (by have:=List.mem_range.1 hi;omega))
theorem POwn.sub {H H':Nat->Prop}{w:World}{B:Nat}{v:Value}{l:List RP} (h:POwn H w B v l) (hs:∀ j,j < w.heap.size->H' j->H j):POwn H' w B v l:=by
 obtain ⟨qq,hown,ha⟩:=h
 exact ⟨qq,hown,fun i hi=>PV.sub (fun j hj e=>e.imp (hs j hj) id) (ha i hi)⟩
theorem AOwn.sub {H H':Nat->Prop}{w:World}{B:Nat}{v:Value}{l:List PA} (h:AOwn H w B v l) (hs:∀ j,j < w.heap.size->H' j->H j):AOwn H' w B v l:=by
 obtain ⟨hh,pp,hown,ha⟩:=h
 exact ⟨hh,pp,hown,fun i hi=>AV.sub (fun j hj e=>e.imp (hs j hj) id) (ha i hi)⟩
theorem AOwn.lat {H:Nat->Prop}{w w':World}{B:Nat}{v:Value}{l:List PA} (h:AOwn H w B v l) (k:Lat (fun b=>H b) w w') (hn:∀ b,v.ownBlock=some b->¬ H b):AOwn H w' B v l:=by
 have h':=fun b e=>h.own_lt (b:=b) e
 obtain ⟨hh,pp,hown,ha⟩:=h
 refine ⟨hh,pp,⟨hown.1,?_⟩,fun i hi=>AV.lat ⟨k.size,fun b hb hn=>k.block b hb fun e=>hn (.inl e)⟩ (ha i hi)⟩
 rcases hown.2 with h2 | ⟨g,cap,cur,hv,hbg,hg,r⟩
 ·exact .inl h2
 ·refine .inr ⟨g,cap,cur,hv,hbg,?_,r⟩
  have e:v.ownBlock=some g:=by rw [hv];rfl
  rw [k.block g (h' g e).2 (hn g e)];exact hg
theorem POwn.move {v v':Value}{w w':World}{B:Nat}{u:Value}{l:List RP} (h:POwn (fun b=>v.ownBlock=some b) w B u l) (k:Lat (fun b=>v.ownBlock=some b) w w') (hat:v'.ownBlock=v.ownBlock\/∃ G,v'.ownBlock=some G/\w.heap.size<=G) (dis:∀ b,v.ownBlock=some b->u.ownBlock≠some b):POwn (fun b=>v'.ownBlock=some b) w' B u l:=by
 have h1:POwn (fun b=>v.ownBlock=some b\/v'.ownBlock=some b) w B u l:=h.sub fun j hj e=>by
  rcases e with e | e
  ·exact e
  ·rcases hat with e2 | ⟨G,e2,h2⟩
   ·rw [e2] at e;exact e
   ·rw [e2] at e
    injection e with e
    omega
 refine (h1.lat ⟨k.size,fun b hb hn=>k.block b hb fun e=>hn (.inl e)⟩ fun b e hc=>?_).sub fun j hj e => .inr e
 have hl:=(h.own_lt e).2
 rcases hc with e1 | e1
 ·exact dis b e1 e
 ·rcases hat with e2 | ⟨G,e2,h2⟩
  ·rw [e2] at e1;exact dis b e1 e
  ·rw [e2] at e1
   injection e1 with e1
   omega
theorem AOwn.move {v v':Value}{w w':World}{B:Nat}{u:Value}{l:List PA} (h:AOwn (fun b=>v.ownBlock=some b) w B u l) (k:Lat (fun b=>v.ownBlock=some b) w w') (hat:v'.ownBlock=v.ownBlock\/∃ G,v'.ownBlock=some G/\w.heap.size<=G) (dis:∀ b,v.ownBlock=some b->u.ownBlock≠some b):AOwn (fun b=>v'.ownBlock=some b) w' B u l:=by
 have h1:AOwn (fun b=>v.ownBlock=some b\/v'.ownBlock=some b) w B u l:=h.sub fun j hj e=>by
  rcases e with e | e
  ·exact e
  ·rcases hat with e2 | ⟨G,e2,h2⟩
   ·rw [e2] at e;exact e
   ·rw [e2] at e
    injection e with e
    omega
 refine (h1.lat ⟨k.size,fun b hb hn=>k.block b hb fun e=>hn (.inl e)⟩ fun b e hc=>?_).sub fun j hj e => .inr e
 have hl:=(h.own_lt e).2
 rcases hc with e1 | e1
 ·exact dis b e1 e
 ·rcases hat with e2 | ⟨G,e2,h2⟩
  ·rw [e2] at e1;exact dis b e1 e
  ·rw [e2] at e1
   injection e1 with e1
   omega
structure EgI (w:World) (B:Nat) (K:World->Prop) (la:List PA) (lm:List RP) (vl vm:Value) (W:World):Prop where
 rowl:AOwn (fun b=>vm.ownBlock=some b) W B vl la
 rowm:POwn (fun b=>vl.ownBlock=some b) W B vm lm
 dis:∀ b,vl.ownBlock=some b->vm.ownBlock≠some b
 kept:K W
 bel:Below w.heap.size w W
 low:w.heap.size<=B/\B<=W.heap.size
def KeptAt (B:Nat) (K:World->Prop):Prop:=∀ W W',B<=W.heap.size->Below B W W'->K W->K W'
theorem EgI.step {w W W':World}{B:Nat}{K:World->Prop}{la:List PA}{lm:List RP}{vl vm:Value} (g:EgI w B K la lm vl vm W) (hk:KeptAt B K) (hb:Below W.heap.size W W'):EgI w B K la lm vl vm W' :=
 ⟨g.rowl.below hb,g.rowm.below hb,g.dis,hk W W' g.low.2 (hb.mono g.low.2) g.kept,bel_both g.bel hb,g.low.1,by have:=hb.size;have:=g.low.2;omega⟩
theorem EgI.push_l {w W w':World}{B:Nat}{K:World->Prop}{la:List PA}{lm:List RP}{vl vm vl':Value}{A:PA} (g:EgI w B K la lm vl vm W) (hk:KeptAt B K) (hr:AOwn (fun b=>vm.ownBlock=some b) w' B vl' (la++[A])) (hb:Below B W w') (hl:Lat (fun b=>vl.ownBlock=some b) W w') (hat:vl'.ownBlock=vl.ownBlock\/∃ G,vl'.ownBlock=some G/\W.heap.size<=G) :
  EgI w B K (la++[A]) lm vl' vm w':=by
 refine ⟨hr,g.rowm.move hl hat g.dis,fun b e h=>?_,hk W w' g.low.2 hb g.kept,g.bel.trans (hb.mono g.low.1),g.low.1,by have:=hl.size;have:=g.low.2;omega⟩
 rcases hat with h1 | ⟨G,h1,h2⟩
 ·rw [h1] at e;exact g.dis b e h
 ·rw [h1] at e
  injection e with e
  have:=(g.rowm.own_lt h).2
  omega
theorem EgI.push_m {w W w':World}{B:Nat}{K:World->Prop}{la:List PA}{lm:List RP}{vl vm vm':Value}{A:RP} (g:EgI w B K la lm vl vm W) (hk:KeptAt B K) (hr:POwn (fun b=>vl.ownBlock=some b) w' B vm' (lm++[A])) (hb:Below B W w') (hl:Lat (fun b=>vm.ownBlock=some b) W w') (hat:vm'.ownBlock=vm.ownBlock\/∃ G,vm'.ownBlock=some G/\W.heap.size<=G) :
  EgI w B K la (lm++[A]) vl vm' w':=by
 refine ⟨g.rowl.move hl hat (fun b e h=>g.dis b h e),hr,fun b e h=>?_,hk W w' g.low.2 hb g.kept,g.bel.trans (hb.mono g.low.1),g.low.1,by have:=hl.size;have:=g.low.2;omega⟩
 rcases hat with h1 | ⟨G,h1,h2⟩
 ·rw [h1] at h;exact g.dis b e h
 ·rw [h1] at h
  injection h with h
  have:=(g.rowl.own_lt e).2
  omega
structure Put2 (W:World) (A T:Nat) (oa ot:Obj) (wx:World):Prop where
 one:wx.heap[A]?=some oa
 two:wx.heap[T]?=some ot
 ne:A≠T
 lat:Lat (fun b=>b=A\/b=T) W wx
 keep:∀ B w0,B<=A->B<=T->Below B w0 W->Below B w0 wx
abbrev zPl:Obj:=plO nilS nilS 0
def ZP (Z:Nat) (W:World):Prop:=W.heap[Z]?=some zPl
theorem ZP.new (W:World):ZP W.heap.size (W.alloc zPl):=heap_alloc_new W _
theorem ZP.new1 (W:World) (o:Obj):ZP (W.heap.size+1) ((W.alloc o).alloc zPl):=by
 have h:=heap_alloc_new (W.alloc o) zPl
 rw [show (W.alloc o).heap.size=W.heap.size+1 by simp] at h
 exact h
theorem ZB.new1 (W:World) (o:Obj):ZB (W.heap.size+1) ((W.alloc o).alloc zeroO):=by
 have h:=heap_alloc_new (W.alloc o) zeroO
 rw [show (W.alloc o).heap.size=W.heap.size+1 by simp] at h
 exact h
theorem ZP.step {Z:Nat}{W W':World} (g:ZP Z W) (hb:Below W.heap.size W W'):ZP Z W':=by
 unfold ZP at g ⊢
 rw [hb.block _ (lt_blk g)]
 exact g
theorem ZP.dr {Z:Nat}{W:World} (g:ZP Z W):ZP Z W.drew:=g
theorem ZP.al {Z:Nat}{W:World} (g:ZP Z W) (o:Obj):ZP Z (W.alloc o):=g.step (bel1 W o)
theorem ZB.al {Z:Nat}{W:World} (g:ZB Z W) (o:Obj):ZB Z (W.alloc o):=g.step (bel1 W o)
theorem put2_nn (W:World) (oa ot:Obj):Put2 W W.heap.size (W.heap.size+1) oa ot ((W.alloc oa).alloc ot):=by
 have h2:=heap_alloc_new (W.alloc oa) ot
 rw [show (W.alloc oa).heap.size=W.heap.size+1 by simp] at h2
 exact ⟨by rw [heap_alloc_old _ _ (by simp)];exact heap_alloc_new W oa,h2,by omega,Lat.below (bel2 W oa ot),fun B w0 h1 _ hb=>(hb.alloc h1 _).alloc (by simp;omega) _⟩
theorem put2_nn' (W:World) (oa ot:Obj):Put2 W (W.heap.size+1) W.heap.size oa ot ((W.alloc ot).alloc oa):=by
 have h2:=heap_alloc_new (W.alloc ot) oa
 rw [show (W.alloc ot).heap.size=W.heap.size+1 by simp] at h2
 exact ⟨h2,by rw [heap_alloc_old _ _ (by simp)];exact heap_alloc_new W ot,by omega,Lat.below (bel2 W ot oa),fun B w0 _ h1 hb=>(hb.alloc h1 _).alloc (by simp;omega) _⟩
theorem put2_on {W:World}{A:Nat} (g:ZB A W) (h:Sl) (p:V8) (ot:Obj):Put2 W A W.heap.size (arrO h p) ot ((set9 W A (sv h) (.int .i64 p.k) (sv p.b) (.int .i64 p.bn) (sv p.s) (sv p.i) (sv p.f) (sv p.c) (sv p.x)).alloc ot):=by
 have hl:=lt_blk g
 have h2:=heap_alloc_new (set9 W A (sv h) (.int .i64 p.k) (sv p.b) (.int .i64 p.bn) (sv p.s) (sv p.i) (sv p.f) (sv p.c) (sv p.x)) ot
 have hz:(set9 W A (sv h) (.int .i64 p.k) (sv p.b) (.int .i64 p.bn) (sv p.s) (sv p.i) (sv p.f) (sv p.c) (sv p.x)).heap.size=W.heap.size:=by simp [World.setCell]
 have h1:=set9_block (w:=W) (G:=A) g (sv h) (.int .i64 p.k) (sv p.b) (.int .i64 p.bn) (sv p.s) (sv p.i) (sv p.f) (sv p.c) (sv p.x)
 generalize hWs:set9 W A (sv h) (.int .i64 p.k) (sv p.b) (.int .i64 p.bn) (sv p.s) (sv p.i) (sv p.f) (sv p.c) (sv p.x)=Ws at h2 hz h1 ⊢
 rw [hz] at h2
 refine ⟨by rw [heap_alloc_old _ _ (by omega)];exact h1,h2,by omega,?_,fun B w0 h3 h4 hb=>?_⟩
 ·rw [<- hWs]
  exact (Lat.set9 (H:=fun b=>b=A\/b=W.heap.size) (G:=A) (.inl rfl) _ _ _ _ _ _ _ _ _).trans (Lat.below (bel1 _ _))
 ·rw [<- hWs] at hz ⊢
  exact (below_set9 hb h3 _ _ _ _ _ _ _ _ _).alloc (by omega) _
theorem put2_no {W:World}{T:Nat} (g:ZP T W) (h x:Sl) (f:Int) (oa:Obj):Put2 W W.heap.size T oa (plO h x f) ((set3 W T (sv h) (sv x) (.int .i64 f)).alloc oa):=by
 have hl:=lt_blk g
 have h2:=heap_alloc_new (set3 W T (sv h) (sv x) (.int .i64 f)) oa
 have hz:(set3 W T (sv h) (sv x) (.int .i64 f)).heap.size=W.heap.size:=by simp [World.setCell]
 have h1:=set3_block (w:=W) (G:=T) g (sv h) (sv x) (.int .i64 f)
 generalize hWs:set3 W T (sv h) (sv x) (.int .i64 f)=Ws at h2 hz h1 ⊢
 rw [hz] at h2
 refine ⟨h2,by rw [heap_alloc_old _ _ (by omega)];exact h1,by omega,?_,fun B w0 h3 h4 hb=>?_⟩
 ·rw [<- hWs]
  exact (Lat.set3 (H:=fun b=>b=W.heap.size\/b=T) (G:=T) (.inr rfl) _ _ _).trans (Lat.below (bel1 _ _))
 ·rw [<- hWs] at hz ⊢
  exact (below_set3 hb h4 _ _ _).alloc (by omega) _
theorem put2_oo {W:World}{A T:Nat} (hne:A≠T) (g:ZB A W) (g2:ZP T W) (h:Sl) (p:V8) (h2 x:Sl) (f:Int):Put2 W A T (arrO h p) (plO h2 x f) (set3 (set9 W A (sv h) (.int .i64 p.k) (sv p.b) (.int .i64 p.bn) (sv p.s) (sv p.i) (sv p.f) (sv p.c) (sv p.x)) T (sv h2) (sv x) (.int .i64 f)):=by
 have h1:=set9_block (w:=W) (G:=A) g (sv h) (.int .i64 p.k) (sv p.b) (.int .i64 p.bn) (sv p.s) (sv p.i) (sv p.f) (sv p.c) (sv p.x)
 have l1:=Lat.set9 (w:=W) (H:=fun b=>b=A) (G:=A) rfl (sv h) (.int .i64 p.k) (sv p.b) (.int .i64 p.bn) (sv p.s) (sv p.i) (sv p.f) (sv p.c) (sv p.x)
 have k2:ZP T (set9 W A (sv h) (.int .i64 p.k) (sv p.b) (.int .i64 p.bn) (sv p.s) (sv p.i) (sv p.f) (sv p.c) (sv p.x)):=by
  unfold ZP
  rw [l1.block T (lt_blk g2) (fun e=>hne e.symm)]
  exact g2
 have l2:=Lat.set3 (w:=set9 W A (sv h) (.int .i64 p.k) (sv p.b) (.int .i64 p.bn) (sv p.s) (sv p.i) (sv p.f) (sv p.c) (sv p.x)) (H:=fun b=>b=T) (G:=T) rfl (sv h2) (sv x) (.int .i64 f)
 refine ⟨?_,set3_block k2 _ _ _,hne,⟨by have:=l1.size;have:=l2.size;omega,fun b hb hn=>?_⟩,fun B w0 h3 h4 hb=>below_set3 (below_set9 hb h3 _ _ _ _ _ _ _ _ _) h4 _ _ _⟩
 ·rw [l2.block A (lt_blk h1) hne]
  exact h1
 ·rw [l2.block b (by have:=l1.size;omega) (fun e=>hn (.inr e)),l1.block b hb (fun e=>hn (.inl e))]
theorem put2_oo' {W:World}{A T:Nat} (hne:A≠T) (g:ZB A W) (g2:ZP T W) (h:Sl) (p:V8) (h2 x:Sl) (f:Int):Put2 W A T (arrO h p) (plO h2 x f) (set9 (set3 W T (sv h2) (sv x) (.int .i64 f)) A (sv h) (.int .i64 p.k) (sv p.b) (.int .i64 p.bn) (sv p.s) (sv p.i) (sv p.f) (sv p.c) (sv p.x)):=by
 have h1:=set3_block (w:=W) (G:=T) g2 (sv h2) (sv x) (.int .i64 f)
 have l1:=Lat.set3 (w:=W) (H:=fun b=>b=T) (G:=T) rfl (sv h2) (sv x) (.int .i64 f)
 have k2:ZB A (set3 W T (sv h2) (sv x) (.int .i64 f)):=by
  unfold ZB
  rw [l1.block A (lt_blk g) hne]
  exact g
 have l2:=Lat.set9 (w:=set3 W T (sv h2) (sv x) (.int .i64 f)) (H:=fun b=>b=A) (G:=A) rfl (sv h) (.int .i64 p.k) (sv p.b) (.int .i64 p.bn) (sv p.s) (sv p.i) (sv p.f) (sv p.c) (sv p.x)
 refine ⟨set9_block k2 _ _ _ _ _ _ _ _ _,?_,hne,⟨by have:=l1.size;have:=l2.size;omega,fun b hb hn=>?_⟩,fun B w0 h3 h4 hb=>below_set9 (below_set3 hb h4 _ _ _) h3 _ _ _ _ _ _ _ _ _⟩
 ·rw [l2.block T (lt_blk h1) (fun e=>hne e.symm)]
  exact h1
 ·rw [l2.block b (by have:=l1.size;omega) (fun e=>hn (.inl e)),l1.block b hb (fun e=>hn (.inr e))]
theorem sz1a {w:World}{o:Obj}{n:Nat} (h:(w.alloc o).heap.size<=n):w.heap.size < n:=by simp at h;omega
theorem sz2a {w:World}{o o':Obj}{n:Nat} (h:((w.alloc o).alloc o').heap.size<=n):w.heap.size+1 < n:=by simp at h;omega
abbrev Out (wr W w:World):Nat->Prop:=fun b=>wr.heap.size<=b/\(b < W.heap.size\/w.heap.size<=b)
abbrev Fre (wr W:World):Nat->Prop:=fun b=>wr.heap.size<=b/\b < W.heap.size
theorem av_out {wr W w1 w2:World}{a:PA}{h:Sl}{p:V8} (g:AV (Fre wr W) w1 a h p) (hb:Below w1.heap.size w1 w2):AV (Out wr W w1) w2 a h p :=
 AV.step (AV.sub (fun b hl e=>⟨e.1,by rcases e.2 with e | e <;> omega⟩) g) hb
theorem pv_out {wr W w1 w2:World}{t:RP}{h x:Sl}{f:Int} (g:PV (Fre wr W) w1 t h x f) (hb:Below w1.heap.size w1 w2):PV (Out wr W w1) w2 t h x f :=
 PV.step (PV.sub (fun b hl e=>⟨e.1,by rcases e.2 with e | e <;> omega⟩) g) hb
structure EgS (w wr:World) (h x:Sl) (f:Int) (W:World):Prop where
 one:At3 W w.heap.size 0 h x f
 bel:Below wr.heap.size wr W
 lo:w.heap.size+1<=wr.heap.size
theorem EgS.step {w wr W W':World}{h x:Sl}{f:Int} (g:EgS w wr h x f W) (hb:Below W.heap.size W W'):EgS w wr h x f W':=⟨At3.belowP g.one hb,bel_both g.bel hb,g.lo⟩
theorem EgS.dr {w wr W:World}{h x:Sl}{f:Int} (g:EgS w wr h x f W):EgS w wr h x f W.drew:=g.step (Below.refl _ W).drew
theorem EgS.al {w wr W:World}{h x:Sl}{f:Int} (g:EgS w wr h x f W) (o:Obj):EgS w wr h x f (W.alloc o):=g.step (bel1 W o)
theorem EgS.put {w wr W:World}{h x:Sl}{f:Int} (g:EgS w wr h x f W){b j:Nat} (hb:wr.heap.size<=b) (u:Value):EgS w wr h x f (W.setCell ⟨b,j,none⟩ u) :=
 ⟨g.one.of fun k=>by
  show (W.setCell ⟨b,j,none⟩ u).cell? ⟨w.heap.size,k,none⟩=_
  exact World.cell?_of_block (a:=⟨w.heap.size,k,none⟩) (Below.heap_setCell _ _ _ _ (by have:=g.lo;show w.heap.size≠b;omega)),g.bel.setCell (by show _<=b;exact hb) u,g.lo⟩
theorem EgS.self {w wr W:World}{h x:Sl}{f:Int} (g:EgS w wr h x f W):EgS w wr h x f W:=g
theorem egs_s {w wr W:World}{h x:Sl}{f:Int} (g:EgS w wr h x f W):(W.cell? ⟨w.heap.size,0,none⟩=some (.slice h.1 h.2.1 h.2.2)/\W.cell? ⟨w.heap.size,1,none⟩=some (.slice x.1 x.2.1 x.2.2)/\W.cell? ⟨w.heap.size,2,none⟩=some (.int .i64 f))/\EgS w wr h x f W:=⟨at3_c g.one,g⟩
def EgMid (w wr:World) (h x:Sl) (f:Int) (a:PA) (t:RP) (fo:Int) (va vt:Value) (wx:World):Prop :=
 ∃ (A T:Nat) (u:Sl) (p:V8) (h2 x2:Sl),va= .pointer (some ⟨A,0,none⟩)/\vt= .pointer (some ⟨T,0,none⟩)/\wx.heap[A]?=some (arrO u p)/\wx.heap[T]?=some (plO h2 x2 fo)/\A≠T/\wr.heap.size<=A/\wr.heap.size<=T/\AV (fun b=>b=A\/b=T) wx a u p/\PV (fun b=>b=A\/b=T) wx t h2 x2 fo/\EgS w wr h x f wx
theorem egMid_of {w wr W1 w1 W2 w2 wx:World}{h x:Sl}{f:Int}{a:PA}{t:RP}{fo:Int}{A T:Nat}{u:Sl}{p:V8}{h2 x2:Sl} (g:Put2 w2 A T (arrO u p) (plO h2 x2 fo) wx) (ga:AV (Fre wr W1) w1 a u p) (gt:PV (Fre wr W2) w2 t h2 x2 fo) (hb:Below w1.heap.size w1 w2) (hs:EgS w wr h x f w2)
  (a1:Out wr W1 w1 A) (t1:Out wr W1 w1 T) (a2:Out wr W2 w2 A) (t2:Out wr W2 w2 T) :
  EgMid w wr h x f a t fo (.pointer (some ⟨A,0,none⟩)) (.pointer (some ⟨T,0,none⟩)) wx:=by
 have e1:AV (fun b=>b=A\/b=T) w2 a u p:=AV.sub (fun b _ e=>by
  rcases e with rfl | rfl
  ·exact a1
  ·exact t1) (av_out ga hb)
 have e2:PV (fun b=>b=A\/b=T) w2 t h2 x2 fo:=PV.sub (fun b _ e=>by
  rcases e with rfl | rfl
  ·exact a2
  ·exact t2) (pv_out gt (Below.refl _ _))
 have hlo:=hs.lo
 have ha:=a1.1
 have ht:=t1.1
 refine ⟨A,T,u,p,h2,x2,rfl,rfl,g.one,g.two,g.ne,a1.1,t1.1,AV.lat g.lat e1,PV.lat g.lat e2,⟨?_,g.keep _ _ a1.1 t1.1 hs.bel,hlo⟩⟩
 have hl:=hs.one.lt
 exact hs.one.of fun k=>World.cell?_of_block (a:=⟨w.heap.size,k,none⟩) (g.lat.block w.heap.size hl (by omega))
def gmx (d:Nat->Nat) (f:Nat->Int):Nat->Bool
 | 0=>false
 | j+1=>gmx d f j||decide (0 < d j)||(f j==2)||(f j != f 0)
structure GrI (H:Nat->Prop) (w:World) (h:Sl) (f:Int) (l:List RI) (v:Value) (W:World):Prop where
 own:IOwn (fun b=>H b\/b=w.heap.size\/b=w.heap.size+1) W (w.heap.size+2) v l
 out:W.heap[w.heap.size+1]?=some (.cells #[sv h,v,.int .i64 f] 25)
 res:W.heap[w.heap.size]?=some (.cells zeroPl 25)
 bel:Below w.heap.size w W
theorem GrI.step {H:Nat->Prop}{w W W':World}{h:Sl}{f:Int}{l:List RI}{v:Value} (g:GrI H w h f l v W) (hb:Below W.heap.size W W'):GrI H w h f l v W' :=
 ⟨g.own.below hb,by rw [hb.block _ (lt_blk g.out)];exact g.out,by rw [hb.block _ (lt_blk g.res)];exact g.res,bel_both g.bel hb⟩
theorem GrI.sz {H:Nat->Prop}{w W:World}{h:Sl}{f:Int}{l:List RI}{v:Value} (g:GrI H w h f l v W):w.heap.size+2<=W.heap.size:=lt_blk g.out
theorem GrI.push {H:Nat->Prop}{w W w':World}{h:Sl}{f:Int}{l:List RI}{v v':Value}{A:RI} (g:GrI H w h f l v W) (hH:∀ b,H b->b < w.heap.size) (hown:IOwn (fun b=>H b\/b=w.heap.size\/b=w.heap.size+1) w' (w.heap.size+2) v' (l++[A])) (hb:Below (w.heap.size+2) W w') :
  GrI H w h f (l++[A]) v' (w'.setCell ⟨w.heap.size+1,1,none⟩ v'):=by
 have e2:w'.heap[w.heap.size+1]?=some (.cells #[sv h,v,.int .i64 f] 25):=by rw [hb.block _ (by omega)];exact g.out
 refine ⟨hown.lat (Lat.set (a:=⟨w.heap.size+1,1,none⟩) (.inr (.inr rfl)) v') (fun b e h2=>by
  have:=(hown.own_lt e).1
  rcases h2 with h2 | h2
  ·have:=hH b h2;omega
  ·omega),?_,?_,(g.bel.trans (hb.mono (by omega))).setCell (by show _<=w.heap.size+1;omega) _⟩
 ·have h1:=heap_setCell_same _ (w.heap.size+1) 1 _ _ v' e2
  rw [show (#[sv h,v,.int .i64 f]:Array Value).setIfInBounds 1 v'=#[sv h,v',.int .i64 f] by simp] at h1
  exact h1
 ·rw [Below.heap_setCell _ _ _ _ (by show w.heap.size≠w.heap.size+1;omega),hb.block _ (by omega)]
  exact g.res
theorem GrI.fill {H:Nat->Prop}{w W:World}{h:Sl}{f:Int}{l:List RI}{v:Value} (g:GrI H w h f l v W) (hH:∀ b,H b->b < w.heap.size) (f':Int):GrI H w h f' l v (W.setCell ⟨w.heap.size+1,2,none⟩ (.int .i64 f')):=by
 refine ⟨g.own.lat (Lat.set (a:=⟨w.heap.size+1,2,none⟩) (.inr (.inr rfl)) _) (fun b e h2=>by
  have:=(g.own.own_lt e).1
  rcases h2 with h2 | h2
  ·have:=hH b h2;omega
  ·omega),?_,?_,g.bel.setCell (by show _<=w.heap.size+1;omega) _⟩
 ·have h1:=heap_setCell_same _ (w.heap.size+1) 2 _ _ (.int .i64 f') g.out
  rw [show (#[sv h,v,.int .i64 f]:Array Value).setIfInBounds 2 (.int .i64 f')=#[sv h,v,.int .i64 f'] by simp] at h1
  exact h1
 ·rw [Below.heap_setCell _ _ _ _ (by show w.heap.size≠w.heap.size+1;omega)]
  exact g.res
theorem GrI.drew {H:Nat->Prop}{w W:World}{h:Sl}{f:Int}{l:List RI}{v:Value} (g:GrI H w h f l v W) (n:Nat):GrI H w h f l v (W.drewN n):=g.step ⟨rfl,rfl,rfl,Nat.le_refl _,fun _ _=>rfl⟩
theorem GrI.new (H:Nat->Prop) (w:World) (h:Sl):GrI H w h 0 [] vnil ((w.alloc (.cells zeroPl 25)).alloc (plO h nilS 0)):=by
 have h1:=heap_alloc_new (w.alloc (.cells zeroPl 25)) (plO h nilS 0)
 have e:(w.alloc (.cells zeroPl 25)).heap.size=w.heap.size+1:=by simp
 rw [e] at h1
 exact ⟨IOwn.nil _ _ _,h1,blk_alloc (heap_alloc_new w _) _,bel2 w _ _⟩
theorem GrI.done {H:Nat->Prop}{w W:World}{h:Sl}{f:Int}{s:List Int}{l:List RI}{v:Value} (g:GrI H w h f l v W) (hH:∀ b,H b->b < w.heap.size) (hs:RdH H w (sv h) (s.map (Value.int .i64))) (a0 a1 a2:Value) :
  ∃ x:Sl,v=sv x/\PV H (set3 W w.heap.size a0 a1 a2) (.mk s l f) h x f:=by
 have hs2:RdH (fun b=>H b\/b=w.heap.size\/b=w.heap.size+1) W (sv h) (s.map (Value.int .i64)):=(hs.sub (fun b hb e=>by
  rcases e with e | e
  ·exact e
  ·omega)).lat (Lat.below g.bel)
 obtain ⟨x,e,hp⟩:=g.own.pv (fun b e=>by
  rcases e with e | e
  ·have:=hH b e;omega
  ·omega) hs2 f
 exact ⟨x,e,PV.sub (fun _ _ e => .inl e) (PV.lat (Lat.set3 (G:=w.heap.size) (.inr (.inl rfl)) a0 a1 a2) hp)⟩
theorem rgather_walk (H:Nat->Prop) (s:List Int) (hS:Sl) (A:Option Addr) (b o m c:Nat) (hh yy:Nat->Sl) (ff:Nat->Int) (d:Nat->Nat) (T:Nat->RP) (IT:Nat->RI) (w:World) (hH:∀ b,H b->b < w.heap.size) (hm:m<=1000000) (hA:0 < m->A=some ⟨b,o,none⟩)
  (hat:∀ j,j < m->∀ W,Below w.heap.size w W->At3 W b (o+j*3) (hh j) (yy j) (ff j)) (hd:∀ j,j < m->(hh j).2.1=d j) (hdl:∀ j,d j<=1048576)
  (hT:∀ j,j < m->PV H w (T j) (hh j) (yy j) (ff j))
  (hI:gmx d ff m=false->∀ j,j < m->∃ b2 o2 n2 c2 k n c x,yy j=(some ⟨b2,o2,none⟩,n2+1,c2)/\IV H w (IT j) k n c x/\∀ W,Below w.heap.size w W->At4 W b2 o2 k n c x)
  (hs:RdH H w (sv hS) (s.map (Value.int .i64))) :
  Calls Tryz.prog 24 #[sv hS,.slice A m c] w (PlR H w (.mk s ((List.range m).map fun j=>if gmx d ff m then RI.mk 2 0 0 [T j] else IT j) (if gmx d ff m then 2 else if m=0 then 0 else ff 0)) (if gmx d ff m then 2 else if m=0 then 0 else ff 0)):=by
 have HH:=Lib.hid hH
 have HAT:=Lib.hid hat
 have HD:=Lib.hid hd
 have HDL:=Lib.hid hdl
 have HT:=Lib.hid hT
 have HI:=Lib.hid hI
 have HS:=Lib.hid hs
 clear hat hd hdl hT hI hs
 have HG0:=Lib.hid (GrI.new H w hS)
 go_enter Tryz.func24,Tryz.ntmps24
 go_wp2_with fail
 go_loopw [6,7] (fun tt jj wr=>∃ j:Nat,j<=m/\jj= .int .i64 j/\tt= .bool (gmx d ff j)/\GrI H w hS 0 [] vnil wr) (fun _ jj _=>m - (intOf jj).toNat)
 case atStart=>exact ⟨0,Nat.zero_le _,rfl,rfl,HG0.out⟩
 case round =>
  clear HG0
  obtain ⟨j,hj,rfl,rfl,hg⟩:=hrel
  have HG:=Lib.hid hg
  clear hg
  by_cases hlt:j < m
  ·obtain rfl:=hA (by omega)
   obtain ⟨t,ht⟩:∃ t,t=gmx d ff (j+1):=⟨_,rfl⟩
   have HTT:=Lib.hid ht
   have ht2:t=(gmx d ff j||decide (0 < d j)||(ff j==2)||(ff j != ff 0)):=ht
   clear ht
   have HJ:=Lib.hid (HAT.out j hlt wr HG.out.bel)
   have HF:=Lib.hid (HAT.out 0 (by omega) wr HG.out.bel)
   have HDJ:=Lib.hid (HD.out j hlt)
   have hdb:=HDL.out j
   rw [Nat.zero_mul,Nat.add_zero] at HF
   generalize gmx d ff j=u at *
   generalize hh j=hj9 at *
   generalize yy j=yj at *
   generalize ff j=fj at *
   generalize d j=dj at *
   generalize hh 0=h0' at *
   generalize yy 0=y0' at *
   generalize ff 0=f0' at *
   obtain ⟨sA,sn,sc⟩:=hj9
   obtain rfl:sn=dj:=HDJ.out
   obtain ⟨a0,a1,a2⟩:=HJ.out
   obtain ⟨z0,z1,z2⟩:=HF.out
   cases u with
   | true =>
    have e1:t=true:=by rw [ht2];rfl
    go_wp2_with fail
    go_quiet (fail)
    go_wp2
    go_roundw
    case rel=>exact ⟨j+1,by omega,by go_num,by rw [<- HTT.out,e1],HG.out.drew _⟩
    case measure=>simp [intOf];omega
   | false =>
    by_cases hd0:0 < sn
    ·have e1:t=true:=by rw [ht2,decide_eq_true hd0];rfl
     have hd1:decide ((sn:Int) > 0)=true:=decide_eq_true (by omega)
     go_wp2_with fail
     go_quiet (fail)
     go_wp2
     go_roundw
     case rel=>exact ⟨j+1,by omega,by go_num,by rw [<- HTT.out,e1],HG.out.drew _⟩
     case measure=>simp [intOf];omega
    ·obtain rfl:sn=0:=by omega
     by_cases hf2:fj=2
     ·subst hf2
      have e1:t=true:=by rw [ht2];rfl
      go_wp2_with fail
      go_quiet (fail)
      go_wp2
      go_roundw
      case rel=>exact ⟨j+1,by omega,by go_num,by rw [<- HTT.out,e1],HG.out.drew _⟩
      case measure=>simp [intOf];omega
     ·have hf3:(fj==2)=false:=by simpa using hf2
      have e1:t=(fj != f0'):=by rw [ht2,hf3];rfl
      go_wp2_with fail
      go_quiet (fail)
      go_wp2
      go_roundw
      case rel=>exact ⟨j+1,by omega,by go_num,by rw [<- HTT.out,e1],HG.out.drew _⟩
      case measure=>simp [intOf];omega
  ·obtain rfl:j=m:=by omega
   by_cases hj0:j=0
   ·subst hj0
    have HGE:=HG
    go_wp2_with fail
    refine wp_loop_rounds 1 ?_
    rw [rounds_succ]
    obtain ⟨x',hx',hpv⟩:=HGE.out.done HH.out HS.out (sv hS) vnil (.int .i64 0)
    have HPV:=Lib.hid hpv
    have HRB:=Lib.hid (set3_block HGE.out.res (sv hS) vnil (.int .i64 0))
    have HBB:=Lib.hid (below_set3 HGE.out.bel (G:=w.heap.size) (Nat.le_refl _) (sv hS) vnil (.int .i64 0))
    obtain ⟨xA,xn,xc⟩:=x'
    have h9:vnil= .slice xA xn xc:=hx'
    injection h9 with h10 h11 h12
    subst h10;subst h11;subst h12
    obtain ⟨⟨z0,z1,z2⟩,zz⟩:=block3 HGE.out.res
    obtain ⟨⟨e0,e1,e2⟩,ez⟩:=block3 HGE.out.out
    clear hpv hx'
    go_wp2
    refine bodyPost_ret (v:=plV hS nilS 0) ?_ rfl ⟨hS,nilS,rfl,HPV.out,HBB.out⟩
    exact ret_plain (fn:=Tryz.f24) (p:=4) rfl _ _ w.heap.size (by rfl) HRB.out
   ·have hjp:0 < j:=by omega
    obtain rfl:=hA hjp
    have HF:=Lib.hid (HAT.out 0 hjp wr HG.out.bel)
    rw [Nat.zero_mul,Nat.add_zero] at HF
    obtain ⟨L,hL⟩:∃ L,L=((List.range j).map fun i=>if gmx d ff j then RI.mk 2 0 0 [T i] else IT i):=⟨_,rfl⟩
    have hLl:L.length=j:=by rw [hL];simp
    have HLL:=Lib.hid hLl
    have HLI:Hid (∀ i (hi:i < L.length),L[i]=if gmx d ff j then RI.mk 2 0 0 [T i] else IT i):=by
     intro i hi
     subst hL
     simp
    have HL:=Lib.hid hL
    have hcase:gmx d ff j=false\/gmx d ff j=true:=by cases gmx d ff j <;> simp
    obtain ⟨z0,z1,z2⟩:=HF.out
    obtain ⟨⟨e0,e1,e2⟩,ez⟩:=block3 HG.out.out
    have HG1:=Lib.hid (HG.out.fill HH.out (ff 0))
    have HG2:=Lib.hid (HG1.out.fill HH.out 2)
    clear hL hLl
    rcases hcase with ht | ht
    ·have HT2:=Lib.hid ht
     rw [ht]
     go_wp2_with fail
     go_loopw [8] (fun ii wr=>∃ (i:Nat) (v:Value),i<=j/\ii= .int .i64 i/\GrI H w hS (ff 0) (L.take i) v wr) (fun ii _=>j - (intOf ii).toNat)
     case atStart=>exact ⟨0,_,Nat.zero_le _,rfl,HG1.out⟩
     case round =>
      obtain ⟨i,v,hi,rfl,hgi⟩:=hrel
      have HGI:=Lib.hid hgi
      clear hgi z0 z1 z2 e0 e1 e2 ez
      obtain ⟨vA,vn,vc,hvn⟩:∃ A n c,v= .slice A n c:=by obtain ⟨a,c,e⟩:=HGI.out.own.len;exact ⟨a,_,c,e⟩
      subst hvn
      obtain ⟨⟨e0,e1,e2⟩,ez⟩:=block3 HGI.out.out
      have g1:=fun o=>cell_box1 e1 o
      have g2:=fun o o'=>cell_box2 e1 o o'
      by_cases hik:i < j
      ·have hiL:i < L.length:=by rw [HLL.out];exact hik
       have HTK:Hid (L.take (i+1)=L.take i++[L[i]]):=List.take_succ_eq_append_getElem hiL
       have HLX:=Lib.hid (HLI.out i hiL)
       have hlb:(L.take i).length<=1048576:=by rw [List.length_take];have:=HLL.out;omega
       have HLB:=Lib.hid hlb
       have hsz:w.heap.size+2<=wr.heap.size:=HGI.out.sz
       clear hlb
       have HXJ:=Lib.hid (HAT.out i hik wr HGI.out.bel)
       obtain ⟨b2,o2,n2,c2,k,n,c9,x,hyy,hiv,h4⟩:=HI.out HT2.out i hik
       rw [hyy] at HXJ
       rw [HT2.out,if_neg (by decide)] at HLX
       have HPI:=Lib.hid hiv
       have h4w:=h4 wr HGI.out.bel
       clear hiv h4 hyy
       generalize L[i]=li at HTK HLX
       generalize IT i=ti at HLX HPI
       generalize hh i=hi3 at HXJ
       generalize ff i=fi3 at HXJ
       obtain ⟨a0,a1,a2⟩:=HXJ.out
       obtain ⟨t0,t1,t2,t3⟩:=h4w
       dsimp only [sv] at a1 t3
       have hn2:(0:Int) < ((n2+1:Nat):Int):=by omega
       have HBX:=Lib.hid ((bel1 wr (itO k n c9 x)).drew)
       have HTW:=Lib.hid (HGI.out.step HBX.out)
       have HBK:Hid ((wr.alloc (itO k n c9 x)).drew.heap[wr.heap.size]?=some (itO k n c9 x)):=heap_alloc_new wr (itO k n c9 x)
       have HAV:Hid (IV (fun b=>(fun b=>H b\/b=w.heap.size\/b=w.heap.size+1) b\/(Value.slice vA vn vc).ownBlock=some b) (wr.alloc (itO k n c9 x)).drew li k n c9 x):=by
        unfold Hid
        rw [HLX.out]
        refine (((IV.sub (fun b hb e=>?_) HPI.out).step HGI.out.bel).step HBX.out)
        rcases e with (e | e | e) | e
        ·exact e
        ·omega
        ·omega
        ·have:=(HGI.out.own.own_lt e).1;omega
       have HSZ:Hid (w.heap.size+2<=(wr.alloc (itO k n c9 x)).drew.heap.size):=by unfold Hid;have:=HBX.out.size;omega
       have hst:=fun md=>st_item wr k 0 n 0 (.slice none 0 0) 55 md
       go_wp2_with fail
       go_region_law (go_loud (refine step_pushI rfl (.tmp 76) (.tmp 84) rfl (fun b=>H b\/b=w.heap.size\/b=w.heap.size+1) (w.heap.size+2) (.slice vA vn vc) (L.take i) (by rfl) HTW.out.own ⟨k,n,c9,x⟩ li HAV.out wr.heap.size HBK.out (by rfl) HLB.out HSZ.out ?_);intro vA' vn' vc' w' hown' hbw;have HBW:=Lib.hid (hbw _ (Below.refl _ _));have HP:=Lib.hid (HTW.out.push HH.out hown' HBW.out);(obtain ⟨⟨q0,q1,q2⟩,qz⟩:=block3 (show w'.heap[w.heap.size+1]?=_ from (HBW.out.block _ (by omega)).trans HTW.out.out));clear hown' hbw)
       all_goals
        go_wp2
        go_roundw
        case rel=>exact ⟨i+1,_,by omega,by go_num,by rw [HTK.out];exact HP.out⟩
        case measure=>simp [intOf];omega
      ·obtain rfl:i=j:=by omega
       have HTL:Hid (L.take i=L):=by unfold Hid;rw [<- HLL.out];exact List.take_length
       obtain ⟨x',hx',hpv⟩:=HGI.out.done HH.out HS.out (sv hS) (.slice vA vn vc) (.int .i64 (ff 0))
       rw [HTL.out,HL.out] at hpv
       have HPV:=Lib.hid hpv
       have HRB:=Lib.hid (set3_block HGI.out.res (sv hS) (.slice vA vn vc) (.int .i64 (ff 0)))
       have HBB:=Lib.hid (below_set3 HGI.out.bel (G:=w.heap.size) (Nat.le_refl _) (sv hS) (.slice vA vn vc) (.int .i64 (ff 0)))
       obtain ⟨xA,xn,xc⟩:=x'
       have h9:Value.slice vA vn vc= .slice xA xn xc:=hx'
       injection h9 with h10 h11 h12
       subst h10;subst h11;subst h12
       obtain ⟨⟨y0,y1,y2⟩,yz⟩:=block3 HGI.out.res
       clear hpv hx'
       go_wp2
       all_goals
        refine bodyPost_ret (v:=plV hS (vA,vn,vc) (ff 0)) ?_ rfl ?_
        ·exact ret_plain (fn:=Tryz.f24) (p:=4) rfl _ _ w.heap.size (by rfl) HRB.out
        ·have hp:=HPV.out
         simp only [HT2.out,Bool.false_eq_true,↓reduceIte] at hp
         exact ⟨hS,(vA,vn,vc),rfl,hp,HBB.out⟩
    ·have HT2:=Lib.hid ht
     rw [ht]
     go_wp2_with fail
     go_loopw [8] (fun ii wr=>∃ (i:Nat) (v:Value),i<=j/\ii= .int .i64 i/\GrI H w hS 2 (L.take i) v wr) (fun ii _=>j - (intOf ii).toNat)
     case atStart=>exact ⟨0,_,Nat.zero_le _,rfl,HG2.out⟩
     case round =>
      obtain ⟨i,v,hi,rfl,hgi⟩:=hrel
      have HGI:=Lib.hid hgi
      clear hgi z0 z1 z2 e0 e1 e2 ez
      obtain ⟨vA,vn,vc,hvn⟩:∃ A n c,v= .slice A n c:=by obtain ⟨a,c,e⟩:=HGI.out.own.len;exact ⟨a,_,c,e⟩
      subst hvn
      obtain ⟨⟨e0,e1,e2⟩,ez⟩:=block3 HGI.out.out
      have g1:=fun o=>cell_box1 e1 o
      have g2:=fun o o'=>cell_box2 e1 o o'
      by_cases hik:i < j
      ·have hiL:i < L.length:=by rw [HLL.out];exact hik
       have HTK:Hid (L.take (i+1)=L.take i++[L[i]]):=List.take_succ_eq_append_getElem hiL
       have HLX:=Lib.hid (HLI.out i hiL)
       have hlb:(L.take i).length<=1048576:=by rw [List.length_take];have:=HLL.out;omega
       have HLB:=Lib.hid hlb
       have hsz:w.heap.size+2<=wr.heap.size:=HGI.out.sz
       clear hlb
       have HXJ:=Lib.hid (HAT.out i hik wr HGI.out.bel)
       have HPI:=Lib.hid (HT.out i hik)
       rw [HT2.out,if_pos rfl] at HLX
       generalize L[i]=li at HTK HLX
       generalize T i=ti at HLX HPI
       generalize hh i=hi3 at HXJ HPI
       generalize yy i=yi3 at HXJ HPI
       generalize ff i=fi3 at HXJ HPI
       obtain ⟨a0,a1,a2⟩:=HXJ.out
       have HBX:=Lib.hid ((bel2 wr (plO hi3 yi3 fi3) (itO 2 0 0 (some ⟨wr.heap.size,0,none⟩,1,1))).drew)
       have HTW:=Lib.hid (HGI.out.step HBX.out)
       have HZ1:Hid ((wr.alloc (plO hi3 yi3 fi3)).heap.size=wr.heap.size+1):=by unfold Hid;simp
       have HBK:Hid (((wr.alloc (plO hi3 yi3 fi3)).alloc (itO 2 0 0 (some ⟨wr.heap.size,0,none⟩,1,1))).drew.heap[wr.heap.size+1]?=some (itO 2 0 0 (some ⟨wr.heap.size,0,none⟩,1,1))):=by
        have h1:=heap_alloc_new (wr.alloc (plO hi3 yi3 fi3)) (itO 2 0 0 (some ⟨wr.heap.size,0,none⟩,1,1))
        rw [HZ1.out] at h1
        exact h1
       have HAV:Hid (IV (fun b=>(fun b=>H b\/b=w.heap.size\/b=w.heap.size+1) b\/(Value.slice vA vn vc).ownBlock=some b) ((wr.alloc (plO hi3 yi3 fi3)).alloc (itO 2 0 0 (some ⟨wr.heap.size,0,none⟩,1,1))).drew li 2 0 0 (some ⟨wr.heap.size,0,none⟩,1,1)):=by
        unfold Hid
        rw [HLX.out]
        refine iv_box ?_ (((PV.sub (fun b hb e=>?_) HPI.out).step HGI.out.bel).step HBX.out) ((at3_box wr hi3 yi3 fi3).of fun o=>by
         have hlt:wr.heap.size < (wr.alloc (plO hi3 yi3 fi3)).heap.size:=by simp
         exact (bel1 (wr.alloc (plO hi3 yi3 fi3)) (itO 2 0 0 (some ⟨wr.heap.size,0,none⟩,1,1))).drew.cell (p:=⟨wr.heap.size,o,none⟩) hlt)
        ·rintro ((e | e | e) | e)
         ·have:=HH.out _ e;omega
         ·omega
         ·omega
         ·have:=(HGI.out.own.own_lt e).2;omega
        ·rcases e with (e | e | e) | e
         ·exact e
         ·omega
         ·omega
         ·have:=(HGI.out.own.own_lt e).1;omega
       have HSZ:Hid (w.heap.size+2<=((wr.alloc (plO hi3 yi3 fi3)).alloc (itO 2 0 0 (some ⟨wr.heap.size,0,none⟩,1,1))).drew.heap.size):=by unfold Hid;have:=HBX.out.size;omega
       have hst0:=fun md=>st_item (wr.alloc (plO hi3 yi3 fi3)) 2 0 0 0 (.slice none 0 0) 55 md
       go_wp2_with fail
       go_region_law (go_loud (refine step_pushI rfl (.tmp 65) (.tmp 72) rfl (fun b=>H b\/b=w.heap.size\/b=w.heap.size+1) (w.heap.size+2) (.slice vA vn vc) (L.take i) (by rfl) HTW.out.own ⟨2,0,0,(some ⟨wr.heap.size,0,none⟩,1,1)⟩ li HAV.out (wr.heap.size+1) HBK.out (by rfl) HLB.out HSZ.out ?_);intro vA' vn' vc' w' hown' hbw;have HBW:=Lib.hid (hbw _ (Below.refl _ _));have HP:=Lib.hid (HTW.out.push HH.out hown' HBW.out);(obtain ⟨⟨q0,q1,q2⟩,qz⟩:=block3 (show w'.heap[w.heap.size+1]?=_ from (HBW.out.block _ (by omega)).trans HTW.out.out));clear hown' hbw)
       all_goals
        go_wp2
        go_roundw
        case rel=>exact ⟨i+1,_,by omega,by go_num,by rw [HTK.out];exact HP.out⟩
        case measure=>simp [intOf];omega
      ·obtain rfl:i=j:=by omega
       have HTL:Hid (L.take i=L):=by unfold Hid;rw [<- HLL.out];exact List.take_length
       obtain ⟨x',hx',hpv⟩:=HGI.out.done HH.out HS.out (sv hS) (.slice vA vn vc) (.int .i64 2)
       rw [HTL.out,HL.out] at hpv
       have HPV:=Lib.hid hpv
       have HRB:=Lib.hid (set3_block HGI.out.res (sv hS) (.slice vA vn vc) (.int .i64 2))
       have HBB:=Lib.hid (below_set3 HGI.out.bel (G:=w.heap.size) (Nat.le_refl _) (sv hS) (.slice vA vn vc) (.int .i64 2))
       obtain ⟨xA,xn,xc⟩:=x'
       have h9:Value.slice vA vn vc= .slice xA xn xc:=hx'
       injection h9 with h10 h11 h12
       subst h10;subst h11;subst h12
       obtain ⟨⟨y0,y1,y2⟩,yz⟩:=block3 HGI.out.res
       clear hpv hx'
       go_wp2
       refine bodyPost_ret (v:=plV hS (vA,vn,vc) 2) ?_ rfl ?_
       ·exact ret_plain (fn:=Tryz.f24) (p:=4) rfl _ _ w.heap.size (by rfl) HRB.out
       ·have hp:=HPV.out
        simp only [HT2.out,↓reduceIte] at hp
        exact ⟨hS,(vA,vn,vc),rfl,hp,HBB.out⟩
end Go.Proofs.YtakgmnafbjdccaaGreatDoor
