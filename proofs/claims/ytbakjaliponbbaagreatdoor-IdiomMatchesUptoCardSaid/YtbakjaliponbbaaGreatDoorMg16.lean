/- Rows of items that a call owns: plain arrays that are being made. The walk of Tidy over good plain arrays. The walk of squeeze.Numbers at numbers tidy or .. Conditions: as each theorem says. -/
import Derived.Test.YtbakjaliponbbaaGreatDoorMg14
import Derived.Test.YtbakjaliponbbaaGreatDoorMg15
import Derived.Test.YtbakjaliponbbaaGreatDoorMg12
set_option maxRecDepth 100000
set_option maxHeartbeats 1000000
namespace Go.Proofs.YtbakjaliponbbaaGreatDoor
open Go Go.RowKit Go.Proofs Fl
structure I4 where
 k:Int
 n:Nat
 c:Int
 x:Sl
instance:Inhabited I4:=⟨⟨0,0,0,nilS⟩⟩
abbrev itL (q:I4):List Value:=[.int .i64 q.k,.float .f64 q.n,.int .i32 q.c,sv q.x]
def flatI (n:Nat) (qq:Nat->I4):List Value:=(List.range n).flatMap fun i=>itL (qq i)
theorem flatI_succ (n:Nat) (qq:Nat->I4):flatI (n+1) qq=flatI n qq++itL (qq n):=by
 unfold flatI
 rw [List.range_succ,List.flatMap_append]
 simp
theorem flatI_len (n:Nat) (qq:Nat->I4):(flatI n qq).length=n*4:=by
 induction n with
 | zero=>rfl
 | succ n ih=>rw [flatI_succ,List.length_append,ih];simp;omega
theorem flatI_get (n:Nat) (qq:Nat->I4) (i j:Nat) (hi:i < n) (hj:j < 4):(flatI n qq)[i*4+j]?=(itL (qq i))[j]?:=by
 induction n with
 | zero=>omega
 | succ n ih =>
  rw [flatI_succ]
  by_cases h:i < n
  ·rw [List.getElem?_append_left (by rw [flatI_len];omega)]
   exact ih h
  ·obtain rfl:i=n:=by omega
   rw [List.getElem?_append_right (by rw [flatI_len];omega),flatI_len]
   congr 1
   omega
theorem flatI_congr (n:Nat){qq qq':Nat->I4} (h:∀ i,i < n->qq i=qq' i):flatI n qq=flatI n qq':=by
 unfold flatI
 induction n with
 | zero=>rfl
 | succ n ih =>
  rw [List.range_succ,List.flatMap_append,List.flatMap_append,ih fun i hi=>h i (by omega)]
  simp [h n (by omega)]
theorem flat_at4 {w:World}{b o n:Nat}{qq:Nat->I4} (h:∀ j u,(flatI n qq)[j]?=some u->w.cell? ⟨b,o+j,none⟩=some u) (i:Nat) (hi:i < n):At4 w b (o+i*4) (qq i).k (qq i).n (qq i).c (qq i).x:=by
 have k:∀ j u,j < 4->(itL (qq i))[j]?=some u->w.cell? ⟨b,o+i*4+j,none⟩=some u:=fun j u hj hu=>by
  rw [Nat.add_assoc]
  exact h _ _ (by rw [flatI_get n qq i j hi hj];exact hu)
 exact ⟨k 0 _ (by decide) rfl,k 1 _ (by decide) rfl,k 2 _ (by decide) rfl,k 3 _ (by decide) rfl⟩
def IOwn (H:Nat->Prop) (w:World) (B:Nat) (v:Value) (l:List RI):Prop :=
 ∃ qq:Nat->I4,w.ownsRow B 106 4 v l.length (flatI l.length qq)/\∀ i (hi:i < l.length),IV (fun b=>H b\/v.ownBlock=some b) w l[i] (qq i).k (qq i).n (qq i).c (qq i).x
theorem IOwn.nil (H:Nat->Prop) (w:World) (B:Nat):IOwn H w B (.slice none 0 0) []:=⟨fun _=>default,World.ownsRow_nil w B _ _,fun i hi=>by simp at hi⟩
theorem IOwn.len {H:Nat->Prop}{w:World}{B:Nat}{v:Value}{l:List RI} (h:IOwn H w B v l):∃ a c,v= .slice a l.length c:=by
 obtain ⟨qq,hown,ha⟩:=h
 rcases hown.2 with ⟨rfl,h0⟩ | ⟨g,cap,cur,rfl,_⟩
 ·exact ⟨none,0,by rw [h0]⟩
 ·exact ⟨_,_,rfl⟩
theorem IOwn.own_lt {H:Nat->Prop}{w:World}{B:Nat}{v:Value}{l:List RI} (h:IOwn H w B v l){b:Nat} (e:v.ownBlock=some b):B<=b/\b < w.heap.size:=by
 obtain ⟨qq,hown,ha⟩:=h
 exact World.ownsRow.lt hown b e
theorem IOwn.lat {H:Nat->Prop}{w w':World}{B:Nat}{v:Value}{l:List RI} (h:IOwn H w B v l) (k:Lat (fun b=>H b) w w') (hn:∀ b,v.ownBlock=some b->¬ H b):IOwn H w' B v l:=by
 have h':=fun b e=>h.own_lt (b:=b) e
 obtain ⟨qq,hown,ha⟩:=h
 refine ⟨qq,⟨hown.1,?_⟩,fun i hi=>IV.lat ⟨k.size,fun b hb hn=>k.block b hb fun e=>hn (.inl e)⟩ (ha i hi)⟩
 rcases hown.2 with h2 | ⟨g,cap,cur,hv,hbg,hg,r⟩
 ·exact .inl h2
 ·refine .inr ⟨g,cap,cur,hv,hbg,?_,r⟩
  have e:v.ownBlock=some g:=by rw [hv];rfl
  rw [k.block g (h' g e).2 (hn g e)];exact hg
theorem IOwn.below {H:Nat->Prop}{w w':World}{B:Nat}{v:Value}{l:List RI} (h:IOwn H w B v l) (hb:Below w.heap.size w w'):IOwn H w' B v l:=by
 have h':=fun b e=>h.own_lt (b:=b) e
 obtain ⟨qq,hown,ha⟩:=h
 refine ⟨qq,⟨hown.1,?_⟩,fun i hi=>(ha i hi).step hb⟩
 rcases hown.2 with h2 | ⟨g,cap,cur,hv,hbg,hg,r⟩
 ·exact .inl h2
 ·refine .inr ⟨g,cap,cur,hv,hbg,?_,r⟩
  have e:v.ownBlock=some g:=by rw [hv];rfl
  rw [hb.block g (h' g e).2];exact hg
theorem IOwn.pv {H:Nat->Prop}{w:World}{B:Nat}{v:Value}{items:List RI} (h:IOwn H w B v items) (hH:∀ b,H b->b < B){s:List Int}{hd:Sl} (hs:RdH H w (sv hd) (s.map (Value.int .i64))) (fill:Int):∃ x:Sl,v=sv x/\PV H w (.mk s items fill) hd x fill:=by
 obtain ⟨qq,hown,ha⟩:=h
 have hcell:=fun {g:Nat} (hg:v.ownBlock=some g)=>World.ownsRow.cells hown hg
 rcases hown.2 with ⟨rfl,h0⟩ | ⟨g,cap,cur,rfl,hbg,_⟩
 ·have:items=[]:=List.eq_nil_of_length_eq_zero h0
  subst this
  refine ⟨(none,0,0),rfl,?_⟩
  rw [PV]
  exact ⟨hs,rfl,rfl,.inl ⟨rfl,trivial⟩⟩
 ·refine ⟨(some ⟨g,0,none⟩,items.length,cap),rfl,pv_of hs rfl fun i hi=>⟨g,0,(qq i).k,(qq i).n,(qq i).c,(qq i).x,rfl,fun e=>by have:=hH g e;omega,IV.sub (fun _ _ e => .inl e) (ha i hi),?_⟩⟩
  refine flat_at4 (fun j u hu=>?_) i hi
  have:=hcell (g:=g) rfl j u hu
  rw [add_zero_off] at this
  exact this
theorem item_info:(Tryz.prog.info? 106).map (fun i=>(i.zero,i.size,i.bytes))=some (some (.agg #[.int .i64 0,.float .f64 0,.int .i32 0,.slice none 0 0]),4,48):=by kernel_rfl
theorem wpList_pushI {ops:Array Oper}{rest:List Oper}{o:Oper}{a:Act}{Q:Exit->Act->World->Prop}{w:World} (hgd:o.guard=none) (s x:Operand)
  (ho:o.op= .call { callee := .builtin .append,args:=#[s,x],argTypes:=#[42,42]})
  (H:Nat->Prop) (B:Nat) (v:Value) (l:List RI) (hs:a.eval s=v) (hown:IOwn H w B v l) (q:I4) (A:RI) (hA:IV (fun b=>H b\/v.ownBlock=some b) w A q.k q.n q.c q.x)
  (hx:a.eval x= .slice (some ⟨w.heap.size,0,none⟩) 1 1) (hl:l.length<=1048576) (hB:B<=w.heap.size)
  (k:∀ v' w',IOwn H w' B v' (l++[A])->(∀ w0,Below B w0 w->Below B w0 w')->Lat (fun b=>v.ownBlock=some b) w w'->(v'.ownBlock=v.ownBlock\/∃ g,v'.ownBlock=some g/\w.heap.size<=g)->wpList Tryz.prog ops Q rest (a.put o.dst v') w') :
  wpList Tryz.prog ops Q (o::rest) a (w.alloc (.cells #[.int .i64 q.k,.float .f64 q.n,.int .i32 q.c,sv q.x] 106)):=by
 obtain ⟨i0,hi0,hz0,hz1,hz2⟩:=info_parts item_info
 obtain ⟨qq,hrow,hel⟩:=hown
 refine wpList_append_own_at _ hgd s x 42 ho B 106 i0 _ 4 48 Tryz.underlying42 hi0 hz0 hz1 hz2 rfl (by omega) v l.length _ hs
  (World.ownsRow.alloc hrow _) ⟨w.heap.size,0,none⟩ 1 1 (itL q) hx rfl ?_ ?_ (by unfold maxLen;omega) (by omega) (by simp;omega) ?_
 ·intro j u hj
  rw [add_zero_off,Nat.zero_add,cell_of_row _ w.heap.size j _ _ (0,0) (heap_alloc_new w _)]
  simpa using hj
 ·intro u hu
  simp only [List.mem_cons,List.not_mem_nil,or_false] at hu
  rcases hu with rfl | rfl | rfl | rfl <;> rfl
 intro v' w' hown' hg _ hat
 have hsz:w.heap.size+1<=w'.heap.size:=by have:=hg.size;simpa using this
 have hat2:v'.ownBlock=v.ownBlock\/∃ g,v'.ownBlock=some g/\w.heap.size<=g:=by
  rcases hat with e | e
  ·exact .inl e
  ·exact .inr ⟨_,e,by simp⟩
 have hlat:Lat (fun b=>v.ownBlock=some b) w w':=⟨by omega,fun b hb hn=>by rw [hg.block b (by simp;omega) (fun e=>hn e.symm),(bel1 w _).block b hb]⟩
 refine k v' w' ⟨fun i=>if i < l.length then qq i else q,?_,fun i hi=>?_⟩ (fun w0 hb=>((hb.alloc hB _).grown hg (by simp;omega) fun k hk=>(World.ownsRow.lt hrow k hk).1)) hlat hat2
 ·rw [show (l++[A]).length=l.length+1 by simp,flatI_succ]
  have e:flatI l.length (fun i=>if i < l.length then qq i else q)=flatI l.length qq:=flatI_congr _ fun i hi=>by rw [if_pos hi]
  rw [e,if_neg (Nat.lt_irrefl _)]
  exact hown'
 ·have up:∀ {A:RI} {q:I4},IV (fun b=>H b\/v.ownBlock=some b) w A q.k q.n q.c q.x->IV (fun b=>H b\/v'.ownBlock=some b) w' A q.k q.n q.c q.x:=by
   intro A q hA
   have h1:IV (fun b=>(H b\/v.ownBlock=some b)\/v'.ownBlock=some b) w A q.k q.n q.c q.x:=IV.sub (fun b hb e=>by
    rcases e with e | e
    ·exact e
    ·rcases hat2 with e2 | ⟨g,e2,hg2⟩
     ·rw [e2] at e;exact .inr e
     ·rw [e2] at e
      injection e with e
      omega) hA
   have h2:IV (fun b=>(H b\/v.ownBlock=some b)\/v'.ownBlock=some b) w' A q.k q.n q.c q.x:=IV.lat ⟨hlat.size,fun b hb hn=>hlat.block b hb fun e=>hn (.inl (.inr e))⟩ h1
   exact IV.sub (fun b _ e=>by
    rcases e with e | e
    ·exact .inl (.inl e)
    ·exact .inr e) h2
  by_cases hi2:i < l.length
  ·dsimp only
   rw [if_pos hi2,List.getElem_append_left hi2]
   exact up (hel i hi2)
  ·have e:i=l.length:=by rw [List.length_append] at hi;simp at hi;omega
   subst e
   dsimp only
   rw [if_neg hi2]
   simp only [List.getElem_append_right (Nat.le_refl _),Nat.sub_self,List.getElem_cons_zero]
   exact up hA
theorem plain_size:(Tryz.prog.info? 44).map (·.size)=some 3:=by kernel_rfl
theorem ret_plain {fn:Func}{p:Tmp} (h:fn.results=#[.cell p 44]) (tmps:Array Value) (w:World) (G:Nat){e:TypeId}{a0 a1 a2:Value}
  (hp:tmps.getD p undef= .pointer (some ⟨G,0,none⟩)) (hg:w.heap[G]?=some (.cells #[a0,a1,a2] e)) :
  (results fn tmps).run Tryz.prog w= .ok (.agg #[a0,a1,a2]) w :=
 results_cell_row h tmps w G e _ (0,0) _ hp hg Tryz.underlying44 rfl plain_size
abbrev set3 (w:World) (G:Nat) (a0 a1 a2:Value):World:=((w.setCell ⟨G,0,none⟩ a0).setCell ⟨G,1,none⟩ a1).setCell ⟨G,2,none⟩ a2
theorem set3_block {w:World}{G:Nat}{e:TypeId}{z0 z1 z2:Value} (h:w.heap[G]?=some (.cells #[z0,z1,z2] e)) (a0 a1 a2:Value):(set3 w G a0 a1 a2).heap[G]?=some (.cells #[a0,a1,a2] e):=by
 have h0:=heap_setCell_same _ G 0 _ e a0 h
 rw [show (#[z0,z1,z2]:Array Value).setIfInBounds 0 a0=#[a0,z1,z2] by simp] at h0
 have h1:=heap_setCell_same _ G 1 _ e a1 h0
 rw [show (#[a0,z1,z2]:Array Value).setIfInBounds 1 a1=#[a0,a1,z2] by simp] at h1
 have h2:=heap_setCell_same _ G 2 _ e a2 h1
 rw [show (#[a0,a1,z2]:Array Value).setIfInBounds 2 a2=#[a0,a1,a2] by simp] at h2
 exact h2
theorem below_set3 {B:Nat}{w0 w:World} (h:Below B w0 w){G:Nat} (hG:B<=G) (a0 a1 a2:Value):Below B w0 (set3 w G a0 a1 a2):=((h.setCell hG _).setCell hG _).setCell hG _
theorem Lat.set3 {H:Nat->Prop}{w:World}{G:Nat} (hG:H G) (a0 a1 a2:Value):Lat H w (set3 w G a0 a1 a2) :=
 ((Lat.set (a:=⟨G,0,none⟩) hG a0).trans (Lat.set (a:=⟨G,1,none⟩) hG a1)).trans (Lat.set (a:=⟨G,2,none⟩) hG a2)
theorem block3 {w:World}{G:Nat}{e:TypeId}{a0 a1 a2:Value} (h:w.heap[G]?=some (.cells #[a0,a1,a2] e)):(w.cell? ⟨G,0,none⟩=some a0/\w.cell? ⟨G,1,none⟩=some a1/\w.cell? ⟨G,2,none⟩=some a2)/\∀ j,w.frozen? ⟨G,j,none⟩=false:=by
 have hc:∀ j u,#[a0,a1,a2][j]?=some u->w.cell? ⟨G,j,none⟩=some u:=by
  intro j u hu
  rw [cell_of_row _ G j _ e (0,0) h]
  exact hu
 exact ⟨⟨hc 0 _ rfl,hc 1 _ rfl,hc 2 _ rfl⟩,fun j=>frozen_of_row _ _ j _ e h⟩
theorem okPs_head {d:Nat}{box:List RP} (h0:0 < box.length) (h:OkPs d box):OkP d box[0]:=by
 match box,h0 with
 | t::ts,_=>rw [OkPs] at h;exact h.1
theorem clI_one {k:Int}{n:Nat}{c:Int}{box:List RP} (h0:0 < box.length):clI (.mk k n c box)=clP box[0]:=by
 match box,h0 with
 | t::ts,_=>rw [clI,clPs];rfl
theorem block4 {w:World}{G:Nat}{e:TypeId}{a0 a1 a2 a3:Value} (h:w.heap[G]?=some (.cells #[a0,a1,a2,a3] e)):(w.cell? ⟨G,0,none⟩=some a0/\w.cell? ⟨G,1,none⟩=some a1/\w.cell? ⟨G,2,none⟩=some a2/\w.cell? ⟨G,3,none⟩=some a3)/\∀ j,w.frozen? ⟨G,j,none⟩=false:=by
 have hc:∀ j u,#[a0,a1,a2,a3][j]?=some u->w.cell? ⟨G,j,none⟩=some u:=by
  intro j u hu
  rw [cell_of_row _ G j _ e (0,0) h]
  exact hu
 exact ⟨⟨hc 0 _ rfl,hc 1 _ rfl,hc 2 _ rfl,hc 3 _ rfl⟩,fun j=>frozen_of_row _ _ j _ e h⟩
theorem frozen_box {w:World}{G j:Nat}{v:Value} (h:w.cell? ⟨G,j,none⟩=some v) (hz:∀ j,w.frozen? ⟨G,j,none⟩=false) (o:Obj):(w.alloc o).frozen? ⟨G,j,none⟩=false:=by
 rw [World.frozen?_of_block (w:=w) ((bel1 w o).block G (cell_lt h))]
 exact hz j
theorem lt_blk {w:World}{G:Nat}{o:Obj} (h:w.heap[G]?=some o):G < w.heap.size:=by
 rcases Nat.lt_or_ge G w.heap.size with g | g
 ·exact g
 ·rw [Array.getElem?_eq_none g] at h;cases h
def PlR (H:Nat->Prop) (w:World) (t:RP) (f:Int) (e:Ending) (w':World):Prop:=∃ h' x',e= .returned (plV h' x' f)/\PV H w' t h' x' f/\Below w.heap.size w w'
structure TdI (H:Nat->Prop) (w:World) (h:Sl) (f:Int) (l:List RI) (v:Value) (W:World):Prop where
 own:IOwn (fun b=>H b\/b=w.heap.size+1\/b=w.heap.size+2) W (w.heap.size+3) v l
 out:W.heap[w.heap.size+2]?=some (.cells #[sv h,v,.int .i64 f] 44)
 res:W.heap[w.heap.size+1]?=some (.cells #[.slice none 0 0,.slice none 0 0,.int .i64 0] 44)
 bel:Below w.heap.size w W
theorem TdI.step {H:Nat->Prop}{w W W':World}{h:Sl}{f:Int}{l:List RI}{v:Value} (g:TdI H w h f l v W) (hb:Below W.heap.size W W'):TdI H w h f l v W' :=
 ⟨g.own.below hb,by rw [hb.block _ (lt_blk g.out)];exact g.out,by rw [hb.block _ (lt_blk g.res)];exact g.res,bel_both g.bel hb⟩
theorem TdI.sz {H:Nat->Prop}{w W:World}{h:Sl}{f:Int}{l:List RI}{v:Value} (g:TdI H w h f l v W):w.heap.size+2 < W.heap.size:=lt_blk g.out
theorem TdI.push {H:Nat->Prop}{w W w':World}{h:Sl}{f:Int}{l:List RI}{v v':Value}{A:RI} (g:TdI H w h f l v W) (hH:∀ b,H b->b < w.heap.size) (hown:IOwn (fun b=>H b\/b=w.heap.size+1\/b=w.heap.size+2) w' (w.heap.size+3) v' (l++[A])) (hb:Below (w.heap.size+3) W w') :
  TdI H w h f (l++[A]) v' (w'.setCell ⟨w.heap.size+2,1,none⟩ v'):=by
 have e2:w'.heap[w.heap.size+2]?=some (.cells #[sv h,v,.int .i64 f] 44):=by rw [hb.block _ (by omega)];exact g.out
 have e1:w'.heap[w.heap.size+1]?=some (.cells #[.slice none 0 0,.slice none 0 0,.int .i64 0] 44):=by rw [hb.block _ (by omega)];exact g.res
 refine ⟨hown.lat (Lat.set (a:=⟨w.heap.size+2,1,none⟩) (.inr (.inr rfl)) v') (fun b e h2=>by
  have:=(hown.own_lt e).1
  rcases h2 with h2 | h2
  ·have:=hH b h2;omega
  ·omega),?_,?_,(g.bel.trans (hb.mono (by omega))).setCell (by show _<=w.heap.size+2;omega) _⟩
 ·have h1:=heap_setCell_same _ (w.heap.size+2) 1 _ _ v' e2
  rw [show (#[sv h,v,.int .i64 f]:Array Value).setIfInBounds 1 v'=#[sv h,v',.int .i64 f] by simp] at h1
  exact h1
 ·rw [Below.heap_setCell _ _ _ _ (by show w.heap.size+1≠w.heap.size+2;omega)]
  exact e1
theorem TdI.done {H:Nat->Prop}{w W:World}{h:Sl}{f:Int}{s:List Int}{l:List RI}{v:Value} (g:TdI H w h f l v W) (hH:∀ b,H b->b < w.heap.size) (hs:RdH H w (sv h) (s.map (Value.int .i64))) (a0 a1 a2:Value) :
  ∃ x:Sl,v=sv x/\PV H (set3 W (w.heap.size+1) a0 a1 a2) (.mk s l f) h x f:=by
 have hs2:RdH (fun b=>H b\/b=w.heap.size+1\/b=w.heap.size+2) W (sv h) (s.map (Value.int .i64)):=(hs.sub (fun b hb e=>by
  rcases e with e | e
  ·exact e
  ·omega)).lat (Lat.below g.bel)
 obtain ⟨x,e,hp⟩:=g.own.pv (fun b e=>by
  rcases e with e | e
  ·have:=hH b e;omega
  ·omega) hs2 f
 exact ⟨x,e,PV.sub (fun _ _ e => .inl e) (PV.lat (Lat.set3 (G:=w.heap.size+1) (.inr (.inl rfl)) a0 a1 a2) hp)⟩
theorem At3.push {W w':World}{B:Nat}{h x:Sl}{f:Int} (g:At3 W B 0 h x f) (hb:Below (B+3) W w') (u:Value):At3 (w'.setCell ⟨B+2,1,none⟩ u) B 0 h x f :=
 g.of fun j=>by
  rw [World.cell?_of_block (w:=w') (Below.heap_setCell _ _ _ _ (by show B≠B+2;omega))]
  exact hb.cell (p:=⟨B,j,none⟩) (by show B < B+3;omega)
theorem wpList_pushI' {ops:Array Oper}{rest:List Oper}{o:Oper}{a:Act}{Q:Exit->Act->World->Prop}{w:World} (hgd:o.guard=none) (s x:Operand)
  (ho:o.op= .call { callee := .builtin .append,args:=#[s,x],argTypes:=#[42,42]})
  (H:Nat->Prop) (B:Nat) (v:Value) (l:List RI) (hs:a.eval s=v) (hown:IOwn H w B v l) (q:I4) (A:RI) (hA:IV (fun b=>H b\/v.ownBlock=some b) w A q.k q.n q.c q.x)
  (G:Nat) (hG:G=w.heap.size) (hx:a.eval x= .slice (some ⟨G,0,none⟩) 1 1) (hl:l.length<=1048576) (hB:B<=w.heap.size)
  (k:∀ v' w',IOwn H w' B v' (l++[A])->(∀ w0,Below B w0 w->Below B w0 w')->Lat (fun b=>v.ownBlock=some b) w w'->(v'.ownBlock=v.ownBlock\/∃ g,v'.ownBlock=some g/\w.heap.size<=g)->wpList Tryz.prog ops Q rest (a.put o.dst v') w') :
  wpList Tryz.prog ops Q (o::rest) a (w.alloc (.cells #[.int .i64 q.k,.float .f64 q.n,.int .i32 q.c,sv q.x] 106)):=by
 subst hG
 exact wpList_pushI hgd s x ho H B v l hs hown q A hA hx hl hB k
theorem numbers_tid (H:Nat->Prop) (v:Value) (n:Nat) (F0:Nat->Nat) (w:World) (hH:∀ b,H b->b < w.heap.size) (hr:Reads1 w v ((List.range n).map fun j => .float .f64 (F0 j))) (hn:n<=1000000) (hF:∀ j,j < n->F0 j < 18446744073709551616) (hok:∀ j,j < n->okF (F0 j)=true) :
  Calls Tryz.prog 151 #[v] w (Vec2R H w (fun u W=>NumV u (leastF (fun j=>tidF (F0 j)) n:Nat) n (fun j=>tidF (F0 j)) W)):=by
 obtain ⟨F,hFF⟩:∃ F,F=fun j=>tidF (F0 j):=⟨_,rfl⟩
 have ht:∀ j,j < n->TF (F j):=fun j hj=>by rw [hFF];exact okF_tf (hok j hj) (hF j hj)
 have HF:Hid (Calls Tryz.prog 205 #[v] (w.alloc (.cells zcells 57)) fun e w'=>∃ a m c,e= .returned (.tuple #[vecV 4 vnil 0 vnil vnil (.slice a m c) vnil vnil,.bool true])/\Own1 w' (w.alloc (.cells zcells 57)).heap.size 96 (.slice a m c) ((List.range n).map fun j => .float .f64 (F j))/\Below (w.alloc (.cells zcells 57)).heap.size (w.alloc (.cells zcells 57)) w'):=by
  refine (floats_all (hr.below (bel1 w (.cells zcells 57))) hn hF).mono ?_
  rintro e w' (⟨_,a,m,c,rfl,ho,hb⟩ | ⟨⟨j,hj,hbad⟩,_⟩)
  ·rw [hFF];exact ⟨a,m,c,rfl,ho,hb⟩
  ·rw [hok j hj] at hbad;cases hbad
 rw [<- hFF]
 have HT:=Lib.hid ht
 have HH:=Lib.hid hH
 obtain ⟨v1,v2,v3,rfl⟩:∃ a m c,v= .slice a m c:=by obtain ⟨a,c,e⟩:=hr.len;exact ⟨a,_,c,e⟩
 clear hr ht hH hFF hF hok
 go_enter Tryz.func151,Tryz.ntmps151
 go_wp2_with fail
 refine HF.out.mono ?_
 rintro e w1 ⟨a,m,c,rfl,ho,hb1⟩
 have HK1:=Lib.hid (block_up hb1)
 have HB1:=Lib.hid (bel_both (bel1 w _) hb1)
 have HO:=Lib.hid (ho.lower (show w.heap.size+1<=_ by simp))
 clear hb1 ho
 have HB2:=Lib.hid (bel_both HB1.out (bel1 w1 (.cells #[.int .i64 4,vnil,.int .i64 0,vnil,vnil,.slice a m c,vnil,vnil] 57)))
 have HK2:=Lib.hid ((Below.heap_alloc w1 (.cells #[.int .i64 4,vnil,.int .i64 0,vnil,vnil,.slice a m c,vnil,vnil] 57) _ (lt_of_block HK1.out)).trans HK1.out)
 have HKV:Hid (Keeps (fun j=>H j\/j=w.heap.size) (w1.alloc (.cells #[.int .i64 4,vnil,.int .i64 0,vnil,vnil,.slice a m c,vnil,vnil] 57)) (NumV (vecW 4 (none,0,0) 0 (none,0,0) (none,0,0) (a,m,c) (none,0,0) (none,0,0)) 4 n F)) :=
  ((HO.out.keepsH (fun j e=>by rcases e with e | e;have:=HH.out j e;omega;omega)).imp fun W' h2=>numV_floats ⟨⟨_,rfl,h2⟩,HT.out⟩).step (bel1 w1 _)
 have HS:=Lib.hid (squeeze_num (fun j=>H j\/j=w.heap.size) 4 (none,0,0) 0 (none,0,0) (none,0,0) (a,m,c) (none,0,0) (none,0,0) n F _ (fun j e=>by
  have h1:=HB2.out.size
  have h2:=lt_of_block HK2.out
  rcases e with e | e
  ·have:=HH.out j e;omega
  ·omega) hn HKV.out)
 go_wp2_with fail
 refine HS.out.mono ?_
 rintro e w3 ⟨k4,b4,bn4,s4,i4,f4,c4,x4,rfl,hk4,hb4⟩
 have HB4:=Lib.hid (bel_both HB2.out hb4)
 have HK4:=Lib.hid (show w3.heap[w.heap.size]?=some (.cells zcells 57) by rw [hb4.block _ (lt_of_block HK2.out)];exact HK2.out)
 have HKE:=Lib.hid hk4
 clear hb4 hk4
 obtain ⟨⟨h0,h1,h2,h3,h4,h5,h6,h7⟩,hz⟩:=boxed_of HK4.out
 go_wp2
 refine bodyPost_ret (v := .tuple #[vecW k4 b4 bn4 s4 i4 f4 c4 x4,.bool true]) ?_ rfl ⟨k4,b4,bn4,s4,i4,f4,c4,x4,rfl,(HKE.out.set8 (.inr rfl) _ _ _ _ _ _ _ _).sub (fun _ _ e => .inl e),below_set8 HB4.out (Nat.le_refl _) _ _ _ _ _ _ _ _⟩
 exact ret_vec2 (fn:=Tryz.f151) (p:=2) (u:=3) rfl _ _ w.heap.size (by rfl) (set8_block HK4.out _ _ _ _ _ _ _ _)
end Go.Proofs.YtbakjaliponbbaaGreatDoor
