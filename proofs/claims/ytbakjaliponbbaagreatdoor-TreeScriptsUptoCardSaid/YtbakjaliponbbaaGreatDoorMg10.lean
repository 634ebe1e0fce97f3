/- Which plain arrays are good; the array that a good one is; the plain array of an array. Plain law. The walk of Count over plain arrays. An array in a .. Conditions: as each theorem says. -/
import Derived.Test.YtbakjaliponbbaaGreatDoorMg09
import Derived.Test.YtbakjaliponbbaaGreatDoorMg08
import Derived.Laws.MakeOwn
import Derived.IntWalk
import Derived.BigQuiet
import Derived.Test.YtbakjaliponbbaaGreatDoorMg06
set_option maxRecDepth 100000
set_option maxHeartbeats 800000
namespace Go.Proofs.YtbakjaliponbbaaGreatDoor
open Go Go.RowKit Go.Proofs Fl
def prodN:List Nat->Nat
 | []=>1
 | d::s=>d*prodN s
def prod1:List Nat->Nat
 | []=>1
 | d::s=>max 1 d*prod1 s
theorem prodN_le (s:List Nat):prodN s<=prod1 s:=by
 induction s with
 | nil=>exact Nat.le_refl _
 | cons d s ih=>exact Nat.mul_le_mul (by omega) ih
def OkSh (s:List Nat) (n:Nat):Prop:=s.length<=8/\prod1 s<=1048576/\prodN s=n
theorem OkSh.le {s:List Nat}{n:Nat} (h:OkSh s n):n<=1048576:=by
 have:=prodN_le s;have:=h.2.1;have:=h.2.2;omega
mutual
def GoodA:Nat->PA->Prop
 | d,.nums s l=>0 < d/\OkSh s l.length/\∀ x∈l,TF x
 | d,.chars s l=>0 < d/\OkSh s l.length
 | d,.boxes s l=>0 < d/\OkSh s l.length/\GoodAs (d - 1) l
def GoodAs:Nat->List PA->Prop
 | _,[]=>True
 | d,a::ar=>GoodA d a/\GoodAs d ar
end
theorem goodAs_at {d:Nat}:∀ {l:List PA}{i:Nat} (hi:i < l.length),GoodAs d l->GoodA d l[i]
 | [],_,hi,_=>by simp at hi
 | a::ar,0,_,h=>by rw [GoodAs] at h;exact h.1
 | a::ar,i+1,hi,h=>by rw [GoodAs] at h;simpa using goodAs_at (l:=ar) (i:=i) (by simpa using hi) h.2
theorem GoodA.nums {d:Nat}{s l:List Nat} (h:GoodA d (.nums s l)):∀ j,j < l.length->TF (l.getD j 0):=by
 rw [GoodA] at h
 intro j hj
 have e:l.getD j 0=l[j]:=by simp [List.getD,hj]
 rw [e]
 exact h.2.2 _ (List.getElem_mem hj)
theorem GoodA.boxes {d:Nat}{s:List Nat}{l:List PA} (h:GoodA d (.boxes s l)):∀ i (hi:i < l.length),GoodA (d - 1) l[i]:=by
 rw [GoodA] at h
 exact fun i hi=>goodAs_at hi h.2.2
mutual
theorem GoodA.up {d d':Nat} (hd:d<=d'):∀ (a:PA),GoodA d a->GoodA d' a
 | .nums s l,h=>by rw [GoodA] at h ⊢;exact ⟨by omega,h.2⟩
 | .chars s l,h=>by rw [GoodA] at h ⊢;exact ⟨by omega,h.2⟩
 | .boxes s l,h=>by rw [GoodA] at h ⊢;exact ⟨by omega,h.2.1,GoodAs.up (by omega) l h.2.2⟩
theorem GoodAs.up {d d':Nat} (hd:d<=d'):∀ (l:List PA),GoodAs d l->GoodAs d' l
 | [],_=>by rw [GoodAs];trivial
 | a::ar,h=>by rw [GoodAs] at h ⊢;exact ⟨GoodA.up hd a h.1,GoodAs.up hd ar h.2⟩
end
theorem at3_new (w:World) (h x:Sl) (f:Int) (e:TypeId):At3 (w.alloc (.cells #[sv h,sv x,.int .i64 f] e)) w.heap.size 0 h x f:=by
 have hc:∀ j u,#[sv h,sv x,Value.int .i64 f][j]?=some u->(w.alloc (.cells #[sv h,sv x,.int .i64 f] e)).cell? ⟨w.heap.size,j,none⟩=some u:=by
  intro j u hu
  rw [cell_of_row _ w.heap.size j _ e (0,0) (heap_alloc_new w _)]
  exact hu
 exact ⟨hc 0 _ rfl,hc 1 _ rfl,hc 2 _ rfl⟩
theorem At9.set {w:World}{G o:Nat}{h:Sl}{p:V8} (g:At9 w G o h p){a:Addr} (ha:a.block≠G) (u:Value):At9 (w.setCell a u) G o h p :=
 g.of fun _=>World.cell?_of_block (w:=w) (Below.heap_setCell w a u G (fun e=>ha e.symm))
end Go.Proofs.YtbakjaliponbbaaGreatDoor
namespace Go.Proofs.YtbakjaliponbbaaGreatDoor
open Go Go.RowKit Go.Proofs Fl Go.Shelf Go.Lib
def ASl (H:Nat->Prop) (w:World) (x:Sl) (l:List PA):Prop:=x.2.1=l.length/\((l=[]/\True)\/∃ b o,x.1=some ⟨b,o,none⟩/\¬ H b/\AVs H w b o l)
theorem ASl.av {H:Nat->Prop}{w:World}{s:List Nat}{l:List PA}{h x:Sl} (g:ASl H w x l) (hs:ShV H w h s):AV H w (.boxes s l) h (boxesP x):=by
 rw [AV]
 exact ⟨hs,x,rfl,g.1,g.2⟩
theorem ASl.lat {H:Nat->Prop}{w w':World}{x:Sl}{l:List PA} (k:Lat H w w') (g:ASl H w x l):ASl H w' x l:=by
 refine ⟨g.1,?_⟩
 rcases g.2 with g4 | ⟨b,o,g5,hn,g6⟩
 ·exact .inl g4
 ·exact .inr ⟨b,o,g5,hn,AVs.lat k hn g6⟩
theorem ASl.step {H:Nat->Prop}{w w':World}{x:Sl}{l:List PA} (g:ASl H w x l) (hb:Below w.heap.size w w'):ASl H w' x l:=g.lat (Lat.below hb)
theorem ASl.nil (H:Nat->Prop) (w:World) (a:Option Addr) (c:Nat):ASl H w (a,0,c) []:=⟨rfl,.inl ⟨rfl,trivial⟩⟩
theorem ASl.at_ {H:Nat->Prop}{w:World}{x:Sl}{l:List PA} (g:ASl H w x l):∀ i (hi:i < l.length),∃ b o h p,x.1=some ⟨b,o,none⟩/\¬ H b/\AV H w l[i] h p/\∀ w1,Lat H w w1->At9 w1 b (o+i*9) h p:=by
 intro i hi
 rcases g.2 with ⟨rfl,_⟩ | ⟨b,o,g5,hb,g6⟩
 ·simp at hi
 ·obtain ⟨h,p,g7,g8⟩:=AVs.at_ hi g6
  exact ⟨b,o,h,p,g5,hb,g8,fun w1 k=>g7.lat hb k⟩
def flatA (n:Nat) (hh:Nat->Sl) (pp:Nat->V8):List Value:=(List.range n).flatMap fun i=>arrL (hh i) (pp i)
theorem flatA_succ (n:Nat) (hh:Nat->Sl) (pp:Nat->V8):flatA (n+1) hh pp=flatA n hh pp++arrL (hh n) (pp n):=by
 unfold flatA
 rw [List.range_succ,List.flatMap_append]
 simp
theorem flatA_len (n:Nat) (hh:Nat->Sl) (pp:Nat->V8):(flatA n hh pp).length=n*9:=by
 induction n with
 | zero=>rfl
 | succ n ih=>rw [flatA_succ,List.length_append,ih];simp;omega
theorem flatA_get (n:Nat) (hh:Nat->Sl) (pp:Nat->V8) (i j:Nat) (hi:i < n) (hj:j < 9):(flatA n hh pp)[i*9+j]?=(arrL (hh i) (pp i))[j]?:=by
 induction n with
 | zero=>omega
 | succ n ih =>
  rw [flatA_succ]
  by_cases h:i < n
  ·rw [List.getElem?_append_left (by rw [flatA_len];omega)]
   exact ih h
  ·obtain rfl:i=n:=by omega
   rw [List.getElem?_append_right (by rw [flatA_len];omega),flatA_len]
   congr 1
   omega
def AOwn (H:Nat->Prop) (w:World) (B:Nat) (v:Value) (l:List PA):Prop :=
 ∃ (hh:Nat->Sl) (pp:Nat->V8),w.ownsRow B 59 9 v l.length (flatA l.length hh pp)/\∀ i (hi:i < l.length),AV (fun b=>H b\/v.ownBlock=some b) w l[i] (hh i) (pp i)
theorem add_zero_off (g j:Nat):(⟨g,0,none⟩:Addr).add j=⟨g,0+j,none⟩:=by
 unfold Addr.add
 split
 ·rename_i h;subst h;rfl
 ·rfl
section
variable {P:Program} {ρ:Ren}
end
theorem AOwn.nil (H:Nat->Prop) (w:World) (B:Nat):AOwn H w B (.slice none 0 0) []:=⟨fun _=>nilS,fun _=>zeroP,World.ownsRow_nil w B _ _,fun i hi=>by simp at hi⟩
theorem AOwn.below {H:Nat->Prop}{w w':World}{B:Nat}{v:Value}{l:List PA} (h:AOwn H w B v l) (hb:Below w.heap.size w w'):AOwn H w' B v l:=by
 obtain ⟨hh,pp,hown,ha⟩:=h
 refine ⟨hh,pp,⟨hown.1,?_⟩,fun i hi=>(ha i hi).step hb⟩
 rcases hown.2 with h2 | ⟨g,cap,cur,hv,hbg,hg,r⟩
 ·exact .inl h2
 ·refine .inr ⟨g,cap,cur,hv,hbg,?_,r⟩
  have hlt:g < w.heap.size:=by
   rcases Nat.lt_or_ge g w.heap.size with hlt | hge
   ·exact hlt
   ·rw [Array.getElem?_eq_none hge] at hg;cases hg
  rw [hb.block g hlt];exact hg
theorem AOwn.len {H:Nat->Prop}{w:World}{B:Nat}{v:Value}{l:List PA} (h:AOwn H w B v l):∃ a c,v= .slice a l.length c:=by
 obtain ⟨hh,pp,hown,ha⟩:=h
 rcases hown.2 with ⟨rfl,h0⟩ | ⟨g,cap,cur,rfl,_⟩
 ·exact ⟨none,0,by rw [h0]⟩
 ·exact ⟨_,_,rfl⟩
theorem AOwn.own_lt {H:Nat->Prop}{w:World}{B:Nat}{v:Value}{l:List PA} (h:AOwn H w B v l){b:Nat} (e:v.ownBlock=some b):B<=b/\b < w.heap.size:=by
 obtain ⟨hh,pp,hown,ha⟩:=h
 exact World.ownsRow.lt hown b e
end Go.Proofs.YtbakjaliponbbaaGreatDoor
namespace Go.Proofs.YtbakjaliponbbaaGreatDoor
open Go Go.RowKit Go.Proofs Fl
structure I4 where
 k:Int
 n:Nat
 c:Int
 x:Sl
instance:Inhabited I4:=⟨⟨0,0,0,nilS⟩⟩
abbrev itL (q:I4):List Value:=[.int .i64 q.k,.float .f64 q.n,.int .i32 q.c,sv q.x]
def flatI (n:Nat) (qq:Nat->I4):List Value:=(List.range n).flatMap fun i=>itL (qq i)
theorem flatI_succ (n:Nat) (qq:Nat->I4):flatI (n+1) qq=flatI n qq++itL (qq n):=by
 unfold flatI
 rw [List.range_succ,List.flatMap_append]
 simp
theorem flatI_len (n:Nat) (qq:Nat->I4):(flatI n qq).length=n*4:=by
 induction n with
 | zero=>rfl
 | succ n ih=>rw [flatI_succ,List.length_append,ih];simp;omega
theorem flatI_get (n:Nat) (qq:Nat->I4) (i j:Nat) (hi:i < n) (hj:j < 4):(flatI n qq)[i*4+j]?=(itL (qq i))[j]?:=by
 induction n with
 | zero=>omega
 | succ n ih =>
  rw [flatI_succ]
  by_cases h:i < n
  ·rw [List.getElem?_append_left (by rw [flatI_len];omega)]
   exact ih h
  ·obtain rfl:i=n:=by omega
   rw [List.getElem?_append_right (by rw [flatI_len];omega),flatI_len]
   congr 1
   omega
theorem flat_at4 {w:World}{b o n:Nat}{qq:Nat->I4} (h:∀ j u,(flatI n qq)[j]?=some u->w.cell? ⟨b,o+j,none⟩=some u) (i:Nat) (hi:i < n):At4 w b (o+i*4) (qq i).k (qq i).n (qq i).c (qq i).x:=by
 have k:∀ j u,j < 4->(itL (qq i))[j]?=some u->w.cell? ⟨b,o+i*4+j,none⟩=some u:=fun j u hj hu=>by
  rw [Nat.add_assoc]
  exact h _ _ (by rw [flatI_get n qq i j hi hj];exact hu)
 exact ⟨k 0 _ (by decide) rfl,k 1 _ (by decide) rfl,k 2 _ (by decide) rfl,k 3 _ (by decide) rfl⟩
def IOwn (H:Nat->Prop) (w:World) (B:Nat) (v:Value) (l:List RI):Prop :=
 ∃ qq:Nat->I4,w.ownsRow B 106 4 v l.length (flatI l.length qq)/\∀ i (hi:i < l.length),IV (fun b=>H b\/v.ownBlock=some b) w l[i] (qq i).k (qq i).n (qq i).c (qq i).x
theorem IOwn.nil (H:Nat->Prop) (w:World) (B:Nat):IOwn H w B (.slice none 0 0) []:=⟨fun _=>default,World.ownsRow_nil w B _ _,fun i hi=>by simp at hi⟩
theorem IOwn.len {H:Nat->Prop}{w:World}{B:Nat}{v:Value}{l:List RI} (h:IOwn H w B v l):∃ a c,v= .slice a l.length c:=by
 obtain ⟨qq,hown,ha⟩:=h
 rcases hown.2 with ⟨rfl,h0⟩ | ⟨g,cap,cur,rfl,_⟩
 ·exact ⟨none,0,by rw [h0]⟩
 ·exact ⟨_,_,rfl⟩
theorem IOwn.own_lt {H:Nat->Prop}{w:World}{B:Nat}{v:Value}{l:List RI} (h:IOwn H w B v l){b:Nat} (e:v.ownBlock=some b):B<=b/\b < w.heap.size:=by
 obtain ⟨qq,hown,ha⟩:=h
 exact World.ownsRow.lt hown b e
theorem IOwn.lat {H:Nat->Prop}{w w':World}{B:Nat}{v:Value}{l:List RI} (h:IOwn H w B v l) (k:Lat (fun b=>H b) w w') (hn:∀ b,v.ownBlock=some b->¬ H b):IOwn H w' B v l:=by
 have h':=fun b e=>h.own_lt (b:=b) e
 obtain ⟨qq,hown,ha⟩:=h
 refine ⟨qq,⟨hown.1,?_⟩,fun i hi=>IV.lat ⟨k.size,fun b hb hn=>k.block b hb fun e=>hn (.inl e)⟩ (ha i hi)⟩
 rcases hown.2 with h2 | ⟨g,cap,cur,hv,hbg,hg,r⟩
 ·exact .inl h2
 ·refine .inr ⟨g,cap,cur,hv,hbg,?_,r⟩
  have e:v.ownBlock=some g:=by rw [hv];rfl
  rw [k.block g (h' g e).2 (hn g e)];exact hg
theorem IOwn.below {H:Nat->Prop}{w w':World}{B:Nat}{v:Value}{l:List RI} (h:IOwn H w B v l) (hb:Below w.heap.size w w'):IOwn H w' B v l:=by
 have h':=fun b e=>h.own_lt (b:=b) e
 obtain ⟨qq,hown,ha⟩:=h
 refine ⟨qq,⟨hown.1,?_⟩,fun i hi=>(ha i hi).step hb⟩
 rcases hown.2 with h2 | ⟨g,cap,cur,hv,hbg,hg,r⟩
 ·exact .inl h2
 ·refine .inr ⟨g,cap,cur,hv,hbg,?_,r⟩
  have e:v.ownBlock=some g:=by rw [hv];rfl
  rw [hb.block g (h' g e).2];exact hg
theorem IOwn.pv {H:Nat->Prop}{w:World}{B:Nat}{v:Value}{items:List RI} (h:IOwn H w B v items) (hH:∀ b,H b->b < B){s:List Int}{hd:Sl} (hs:RdH H w (sv hd) (s.map (Value.int .i64))) (fill:Int):∃ x:Sl,v=sv x/\PV H w (.mk s items fill) hd x fill:=by
 obtain ⟨qq,hown,ha⟩:=h
 have hcell:=fun {g:Nat} (hg:v.ownBlock=some g)=>World.ownsRow.cells hown hg
 rcases hown.2 with ⟨rfl,h0⟩ | ⟨g,cap,cur,rfl,hbg,_⟩
 ·have:items=[]:=List.eq_nil_of_length_eq_zero h0
  subst this
  refine ⟨(none,0,0),rfl,?_⟩
  rw [PV]
  exact ⟨hs,rfl,rfl,.inl ⟨rfl,trivial⟩⟩
 ·refine ⟨(some ⟨g,0,none⟩,items.length,cap),rfl,pv_of hs rfl fun i hi=>⟨g,0,(qq i).k,(qq i).n,(qq i).c,(qq i).x,rfl,fun e=>by have:=hH g e;omega,IV.sub (fun _ _ e => .inl e) (ha i hi),?_⟩⟩
  refine flat_at4 (fun j u hu=>?_) i hi
  have:=hcell (g:=g) rfl j u hu
  rw [add_zero_off] at this
  exact this
abbrev set3 (w:World) (G:Nat) (a0 a1 a2:Value):World:=((w.setCell ⟨G,0,none⟩ a0).setCell ⟨G,1,none⟩ a1).setCell ⟨G,2,none⟩ a2
theorem Lat.set3 {H:Nat->Prop}{w:World}{G:Nat} (hG:H G) (a0 a1 a2:Value):Lat H w (set3 w G a0 a1 a2) :=
 ((Lat.set (a:=⟨G,0,none⟩) hG a0).trans (Lat.set (a:=⟨G,1,none⟩) hG a1)).trans (Lat.set (a:=⟨G,2,none⟩) hG a2)
theorem lt_blk {w:World}{G:Nat}{o:Obj} (h:w.heap[G]?=some o):G < w.heap.size:=by
 rcases Nat.lt_or_ge G w.heap.size with g | g
 ·exact g
 ·rw [Array.getElem?_eq_none g] at h;cases h
structure TdI (H:Nat->Prop) (w:World) (h:Sl) (f:Int) (l:List RI) (v:Value) (W:World):Prop where
 own:IOwn (fun b=>H b\/b=w.heap.size+1\/b=w.heap.size+2) W (w.heap.size+3) v l
 out:W.heap[w.heap.size+2]?=some (.cells #[sv h,v,.int .i64 f] 44)
 res:W.heap[w.heap.size+1]?=some (.cells #[.slice none 0 0,.slice none 0 0,.int .i64 0] 44)
 bel:Below w.heap.size w W
theorem TdI.step {H:Nat->Prop}{w W W':World}{h:Sl}{f:Int}{l:List RI}{v:Value} (g:TdI H w h f l v W) (hb:Below W.heap.size W W'):TdI H w h f l v W' :=
 ⟨g.own.below hb,by rw [hb.block _ (lt_blk g.out)];exact g.out,by rw [hb.block _ (lt_blk g.res)];exact g.res,bel_both g.bel hb⟩
theorem TdI.sz {H:Nat->Prop}{w W:World}{h:Sl}{f:Int}{l:List RI}{v:Value} (g:TdI H w h f l v W):w.heap.size+2 < W.heap.size:=lt_blk g.out
theorem TdI.push {H:Nat->Prop}{w W w':World}{h:Sl}{f:Int}{l:List RI}{v v':Value}{A:RI} (g:TdI H w h f l v W) (hH:∀ b,H b->b < w.heap.size) (hown:IOwn (fun b=>H b\/b=w.heap.size+1\/b=w.heap.size+2) w' (w.heap.size+3) v' (l++[A])) (hb:Below (w.heap.size+3) W w') :
  TdI H w h f (l++[A]) v' (w'.setCell ⟨w.heap.size+2,1,none⟩ v'):=by
 have e2:w'.heap[w.heap.size+2]?=some (.cells #[sv h,v,.int .i64 f] 44):=by rw [hb.block _ (by omega)];exact g.out
 have e1:w'.heap[w.heap.size+1]?=some (.cells #[.slice none 0 0,.slice none 0 0,.int .i64 0] 44):=by rw [hb.block _ (by omega)];exact g.res
 refine ⟨hown.lat (Lat.set (a:=⟨w.heap.size+2,1,none⟩) (.inr (.inr rfl)) v') (fun b e h2=>by
  have:=(hown.own_lt e).1
  rcases h2 with h2 | h2
  ·have:=hH b h2;omega
  ·omega),?_,?_,(g.bel.trans (hb.mono (by omega))).setCell (by show _<=w.heap.size+2;omega) _⟩
 ·have h1:=heap_setCell_same _ (w.heap.size+2) 1 _ _ v' e2
  rw [show (#[sv h,v,.int .i64 f]:Array Value).setIfInBounds 1 v'=#[sv h,v',.int .i64 f] by simp] at h1
  exact h1
 ·rw [Below.heap_setCell _ _ _ _ (by show w.heap.size+1≠w.heap.size+2;omega)]
  exact e1
theorem TdI.done {H:Nat->Prop}{w W:World}{h:Sl}{f:Int}{s:List Int}{l:List RI}{v:Value} (g:TdI H w h f l v W) (hH:∀ b,H b->b < w.heap.size) (hs:RdH H w (sv h) (s.map (Value.int .i64))) (a0 a1 a2:Value) :
  ∃ x:Sl,v=sv x/\PV H (set3 W (w.heap.size+1) a0 a1 a2) (.mk s l f) h x f:=by
 have hs2:RdH (fun b=>H b\/b=w.heap.size+1\/b=w.heap.size+2) W (sv h) (s.map (Value.int .i64)):=(hs.sub (fun b hb e=>by
  rcases e with e | e
  ·exact e
  ·omega)).lat (Lat.below g.bel)
 obtain ⟨x,e,hp⟩:=g.own.pv (fun b e=>by
  rcases e with e | e
  ·have:=hH b e;omega
  ·omega) hs2 f
 exact ⟨x,e,PV.sub (fun _ _ e => .inl e) (PV.lat (Lat.set3 (G:=w.heap.size+1) (.inr (.inl rfl)) a0 a1 a2) hp)⟩
theorem At3.push {W w':World}{B:Nat}{h x:Sl}{f:Int} (g:At3 W B 0 h x f) (hb:Below (B+3) W w') (u:Value):At3 (w'.setCell ⟨B+2,1,none⟩ u) B 0 h x f :=
 g.of fun j=>by
  rw [World.cell?_of_block (w:=w') (Below.heap_setCell _ _ _ _ (by show B≠B+2;omega))]
  exact hb.cell (p:=⟨B,j,none⟩) (by show B < B+3;omega)
abbrev set9o (w:World) (G o:Nat) (a0 a1 a2 a3 a4 a5 a6 a7 a8:Value):World:=((((((((w.setCell ⟨G,o,none⟩ a0).setCell ⟨G,o+1,none⟩ a1).setCell ⟨G,o+2,none⟩ a2).setCell ⟨G,o+3,none⟩ a3).setCell ⟨G,o+4,none⟩ a4).setCell ⟨G,o+5,none⟩ a5).setCell ⟨G,o+6,none⟩ a6).setCell ⟨G,o+7,none⟩ a7).setCell ⟨G,o+8,none⟩ a8
abbrev arr9 (cs:Array Value) (o:Nat) (a0 a1 a2 a3 a4 a5 a6 a7 a8:Value):Array Value:=((((((((cs.setIfInBounds o a0).setIfInBounds (o+1) a1).setIfInBounds (o+2) a2).setIfInBounds (o+3) a3).setIfInBounds (o+4) a4).setIfInBounds (o+5) a5).setIfInBounds (o+6) a6).setIfInBounds (o+7) a7).setIfInBounds (o+8) a8
theorem set9o_block {w:World}{G o:Nat}{cs:Array Value}{e:TypeId} (h:w.heap[G]?=some (.cells cs e)) (a0 a1 a2 a3 a4 a5 a6 a7 a8:Value) :
  (set9o w G o a0 a1 a2 a3 a4 a5 a6 a7 a8).heap[G]?=some (.cells (arr9 cs o a0 a1 a2 a3 a4 a5 a6 a7 a8) e):=heap_setCell_same _ G (o+8) _ e a8 (heap_setCell_same _ G (o+7) _ e a7 (heap_setCell_same _ G (o+6) _ e a6 (heap_setCell_same _ G (o+5) _ e a5 (heap_setCell_same _ G (o+4) _ e a4 (heap_setCell_same _ G (o+3) _ e a3 (heap_setCell_same _ G (o+2) _ e a2 (heap_setCell_same _ G (o+1) _ e a1 (heap_setCell_same _ G (o) _ e a0 h))))))))
theorem arr9_size (cs:Array Value) (o:Nat) (a0 a1 a2 a3 a4 a5 a6 a7 a8:Value):(arr9 cs o a0 a1 a2 a3 a4 a5 a6 a7 a8).size=cs.size:=by simp
theorem arr9_off (cs:Array Value) (o p:Nat) (h:p < o\/o+9<=p) (a0 a1 a2 a3 a4 a5 a6 a7 a8:Value):(arr9 cs o a0 a1 a2 a3 a4 a5 a6 a7 a8)[p]?=cs[p]?:=by
 rw [Array.getElem?_setIfInBounds_ne (by omega),Array.getElem?_setIfInBounds_ne (by omega),Array.getElem?_setIfInBounds_ne (by omega),Array.getElem?_setIfInBounds_ne (by omega),Array.getElem?_setIfInBounds_ne (by omega),Array.getElem?_setIfInBounds_ne (by omega),Array.getElem?_setIfInBounds_ne (by omega),Array.getElem?_setIfInBounds_ne (by omega),Array.getElem?_setIfInBounds_ne (by omega)]
theorem arr9_on (cs:Array Value) (o:Nat) (h:o+9<=cs.size) (a0 a1 a2 a3 a4 a5 a6 a7 a8:Value) :
  (arr9 cs o a0 a1 a2 a3 a4 a5 a6 a7 a8)[o]?=some a0/\(arr9 cs o a0 a1 a2 a3 a4 a5 a6 a7 a8)[o+1]?=some a1/\(arr9 cs o a0 a1 a2 a3 a4 a5 a6 a7 a8)[o+2]?=some a2/\(arr9 cs o a0 a1 a2 a3 a4 a5 a6 a7 a8)[o+3]?=some a3/\(arr9 cs o a0 a1 a2 a3 a4 a5 a6 a7 a8)[o+4]?=some a4/\(arr9 cs o a0 a1 a2 a3 a4 a5 a6 a7 a8)[o+5]?=some a5/\(arr9 cs o a0 a1 a2 a3 a4 a5 a6 a7 a8)[o+6]?=some a6/\(arr9 cs o a0 a1 a2 a3 a4 a5 a6 a7 a8)[o+7]?=some a7/\(arr9 cs o a0 a1 a2 a3 a4 a5 a6 a7 a8)[o+8]?=some a8:=by
 refine ⟨?_,?_,?_,?_,?_,?_,?_,?_,?_⟩ <;>
 ·repeat rw [Array.getElem?_setIfInBounds_ne (by omega)]
  exact Array.getElem?_setIfInBounds_self_of_lt (by first | omega | (simp;omega))
def NIs (cs:Array Value) (o:Nat) (h:Sl) (p:V8):Prop :=
 cs[o]?=some (sv h)/\cs[o+1]?=some (.int .i64 p.k)/\cs[o+2]?=some (sv p.b)/\cs[o+3]?=some (.int .i64 p.bn)/\cs[o+4]?=some (sv p.s)/\cs[o+5]?=some (sv p.i)/\cs[o+6]?=some (sv p.f)/\cs[o+7]?=some (sv p.c)/\cs[o+8]?=some (sv p.x)
def ARow (w:World) (g m:Nat) (hh:Nat->Sl) (pp:Nat->V8):Prop :=
 ∃ cs,w.heap[g]?=some (.cells cs 59)/\m*9<=cs.size/\∀ j,j < m->NIs cs (j*9) (hh j) (pp j)
theorem ARow.lt {w:World}{g m:Nat}{hh:Nat->Sl}{pp:Nat->V8} (h:ARow w g m hh pp):g < w.heap.size:=by
 obtain ⟨cs,hg,_⟩:=h
 rcases Nat.lt_or_ge g w.heap.size with h | h
 ·exact h
 ·rw [Array.getElem?_eq_none h] at hg;cases hg
theorem ARow.at_ {w:World}{g m:Nat}{hh:Nat->Sl}{pp:Nat->V8} (h:ARow w g m hh pp) (i:Nat) (hi:i < m):At9 w g (i*9) (hh i) (pp i)/\∀ j,w.frozen? ⟨g,j,none⟩=false:=by
 obtain ⟨cs,hg,_,h1⟩:=h
 obtain ⟨c0,c1,c2,c3,c4,c5,c6,c7,c8⟩:=h1 i hi
 have k:∀ j u,cs[j]?=some u->w.cell? ⟨g,j,none⟩=some u:=fun j u hu=>by rw [cell_of_row _ g j _ _ (0,0) hg];exact hu
 exact ⟨⟨k _ _ c0,k _ _ c1,k _ _ c2,k _ _ c3,k _ _ c4,k _ _ c5,k _ _ c6,k _ _ c7,k _ _ c8⟩,fun j=>frozen_of_row _ _ j _ _ hg⟩
theorem ARow.below {w w':World}{g m:Nat}{hh:Nat->Sl}{pp:Nat->V8} (h:ARow w g m hh pp) (hb:Below w.heap.size w w'):ARow w' g m hh pp:=by
 have hlt:=h.lt
 obtain ⟨cs,hg,r⟩:=h
 exact ⟨cs,by rw [hb.block _ hlt];exact hg,r⟩
theorem ARow.put {w:World}{g m i:Nat}{hh:Nat->Sl}{pp:Nat->V8} (h:ARow w g m hh pp) (hi:i < m) (h':Sl) (p':V8) :
  ARow (set9o w g (i*9) (sv h') (.int .i64 p'.k) (sv p'.b) (.int .i64 p'.bn) (sv p'.s) (sv p'.i) (sv p'.f) (sv p'.c) (sv p'.x)) g m (fun j=>if j=i then h' else hh j) (fun j=>if j=i then p' else pp j):=by
 obtain ⟨cs,hg,hs,h1⟩:=h
 refine ⟨_,set9o_block hg _ _ _ _ _ _ _ _ _,by rw [arr9_size];exact hs,fun j hj=>?_⟩
 by_cases e:j=i
 ·subst e
  dsimp only
  rw [if_pos rfl,if_pos rfl]
  exact arr9_on cs (j*9) (by omega) _ _ _ _ _ _ _ _ _
 ·obtain ⟨c0,c1,c2,c3,c4,c5,c6,c7,c8⟩:=h1 j hj
  dsimp only
  rw [if_neg e,if_neg e]
  unfold NIs
  rw [arr9_off _ _ _ (by omega),arr9_off _ _ _ (by omega),arr9_off _ _ _ (by omega),arr9_off _ _ _ (by omega),arr9_off _ _ _ (by omega),arr9_off _ _ _ (by omega),arr9_off _ _ _ (by omega),arr9_off _ _ _ (by omega),arr9_off _ _ _ (by omega)]
  exact ⟨c0,c1,c2,c3,c4,c5,c6,c7,c8⟩
theorem ARow.congr {w:World}{g m:Nat}{hh hh':Nat->Sl}{pp pp':Nat->V8} (h:ARow w g m hh pp) (e:∀ j,j < m->hh' j=hh j/\pp' j=pp j):ARow w g m hh' pp':=by
 obtain ⟨cs,hg,hs,h1⟩:=h
 exact ⟨cs,hg,hs,fun j hj=>by rw [(e j hj).1,(e j hj).2];exact h1 j hj⟩
abbrev zeroL:Array Value:=#[.slice none 0 0,.int .i64 0,.slice none 0 0,.int .i64 0,.slice none 0 0,.slice none 0 0,.slice none 0 0,.slice none 0 0,.slice none 0 0]
theorem made_at9 (m j k:Nat) (hj:j < m) (hk:k < 9):(madeCells zeroL (m*9))[j*9+k]?=zeroL[k]?:=by
 have h1:j*9+k < m*9:=by omega
 have h2:(j*9+k) % 9=k:=by omega
 have h3:zeroL.size=9:=rfl
 simp [madeCells,h1,h3,h2]
 match k,hk with
 | 0,_=>rfl
 | 1,_=>rfl
 | 2,_=>rfl
 | 3,_=>rfl
 | 4,_=>rfl
 | 5,_=>rfl
 | 6,_=>rfl
 | 7,_=>rfl
 | 8,_=>rfl
theorem ARow.made (w:World) (m:Nat):ARow (w.alloc (.cells (madeCells zeroL (m*9)) 59)) w.heap.size m (fun _=>nilS) (fun _=>zeroP):=by
 refine ⟨_,heap_alloc_new w _,by rw [size_madeCells];exact Nat.le_refl _,fun j hj=>?_⟩
 have h:=fun k hk=>made_at9 m j k hj hk
 exact ⟨h 0 (by omega),h 1 (by omega),h 2 (by omega),h 3 (by omega),h 4 (by omega),h 5 (by omega),h 6 (by omega),h 7 (by omega),h 8 (by omega)⟩
theorem AOwn.row {H:Nat->Prop}{w:World}{B:Nat}{v:Value}{l:List PA} (h:AOwn H w B v l) (hne:l≠[]) :
  ∃ g c hh pp,v= .slice (some ⟨g,0,none⟩) l.length c/\B<=g/\ARow w g l.length hh pp/\∀ i (hi:i < l.length),AV (fun b=>H b\/g=b) w l[i] (hh i) (pp i):=by
 obtain ⟨hh,pp,hown,ha⟩:=h
 rcases hown.2 with ⟨rfl,h0⟩ | ⟨g,cap,cur,rfl,hbg,hg,hnc,hcm,hcs,htake⟩
 ·exact absurd (List.eq_nil_of_length_eq_zero h0) hne
 ·refine ⟨g,cap,hh,pp,rfl,hbg,⟨cur,hg,?_,fun j hj=>?_⟩,fun i hi=>AV.sub (fun b _ e=>by
   rcases e with e | e
   ·exact .inl e
   ·exact .inr (by rw [<- e];rfl)) (ha i hi)⟩
  ·have:=congrArg List.length htake
   rw [flatA_len,List.length_take] at this
   simp at this
   omega
  ·have hk:∀ k u,k < 9->(arrL (hh j) (pp j))[k]?=some u->cur[j*9+k]?=some u:=fun k u hk hu=>by
    have h1:(flatA l.length hh pp)[j*9+k]?=some u:=by rw [flatA_get _ _ _ _ _ hj hk];exact hu
    rw [<- htake] at h1
    rw [List.getElem?_take] at h1
    split at h1
    ·rw [Array.getElem?_toList] at h1;exact h1
    ·cases h1
   exact ⟨hk 0 _ (by decide) rfl,hk 1 _ (by decide) rfl,hk 2 _ (by decide) rfl,hk 3 _ (by decide) rfl,hk 4 _ (by decide) rfl,hk 5 _ (by decide) rfl,hk 6 _ (by decide) rfl,hk 7 _ (by decide) rfl,hk 8 _ (by decide) rfl⟩
end Go.Proofs.YtbakjaliponbbaaGreatDoor
namespace Go.Proofs.YtbakjaliponbbaaGreatDoor
open Go Go.RowKit Go.Proofs Fl Go.Shelf Go.Lib
structure OfI (w:World) (h x:Sl) (f:Int) (W:World):Prop where
 res:W.heap[w.heap.size+1]?=some (.cells zeroL 59)
 arg:At3 W w.heap.size 0 h x f
 bel:Below w.heap.size w W
theorem OfI.step {w W W':World}{h x:Sl}{f:Int} (g:OfI w h x f W) (hb:Below W.heap.size W W'):OfI w h x f W' :=
 ⟨by rw [hb.block _ (lt_blk g.res)];exact g.res,g.arg.of fun j=>hb.cell (p:=⟨w.heap.size,j,none⟩) g.arg.lt,bel_both g.bel hb⟩
theorem OfI.more {w W W':World}{h x:Sl}{f:Int} (g:OfI w h x f W) (hb:Below (w.heap.size+2) W W'):OfI w h x f W' :=
 ⟨by rw [hb.block _ (by omega)];exact g.res,g.arg.of fun j=>hb.cell (p:=⟨w.heap.size,j,none⟩) (by show w.heap.size < _;omega),g.bel.trans (hb.mono (by omega))⟩
theorem OfI.sz {w W:World}{h x:Sl}{f:Int} (g:OfI w h x f W):w.heap.size+2<=W.heap.size:=lt_blk g.res
theorem OfI.new (w:World) (h x:Sl) (f:Int):OfI w h x f ((w.alloc (.cells #[sv h,sv x,.int .i64 f] 44)).alloc (.cells zeroL 59)):=by
 have h2:=heap_alloc_new (w.alloc (.cells #[sv h,sv x,.int .i64 f] 44)) (.cells zeroL 59)
 have s1:(w.alloc (.cells #[sv h,sv x,.int .i64 f] 44)).heap.size=w.heap.size+1:=by simp
 rw [s1] at h2
 have h3:=at3_new w h x f 44
 exact ⟨h2,h3.of fun j=>(bel1 _ _).cell (p:=⟨w.heap.size,j,none⟩) h3.lt,bel2 w _ _⟩
end Go.Proofs.YtbakjaliponbbaaGreatDoor
namespace Go.Proofs.YtbakjaliponbbaaGreatDoor
open Go Go.RowKit Go.Proofs Fl
theorem ASl.sub {H H':Nat->Prop}{w:World}{x:Sl}{l:List PA} (hs:∀ b,b < w.heap.size->H' b->H b) (g:ASl H w x l):ASl H' w x l:=by
 refine ⟨g.1,?_⟩
 rcases g.2 with g4 | ⟨b,o,g5,hn,g6⟩
 ·exact .inl g4
 ·cases l with
  | nil=>exact .inl ⟨rfl,trivial⟩
  | cons a ar =>
   have hl:b < w.heap.size:=by rw [AVs] at g6;obtain ⟨⟨_,_,h9,_⟩,_⟩:=g6;exact h9.lt
   exact .inr ⟨b,o,g5,fun e=>hn (hs b hl e),AVs.sub hs g6⟩
structure LatW (w:World) where
 W:World
 h:Below w.heap.size w W
instance latW_some (w:World):Nonempty (LatW w):=⟨⟨w,Below.refl _ _⟩⟩
theorem LatW.cell {w:World}{g:Nat} (hg:g < w.heap.size):∀ (n:LatW w) (o:Nat),n.W.cell? ⟨g,o,none⟩=w.cell? ⟨g,o,none⟩:=fun n _=>n.h.cell (p:=⟨g,_,none⟩) hg
theorem joinP_len2 (a b:List Int):a.length+b.length<=(joinP a b).length/\(joinP a b).length<=a.length+2*b.length:=by
 by_cases h:b=[]
 ·subst h;unfold joinP;simp
 ·have:=joinP_len a b
  have:=List.length_pos_iff.2 h
  omega
def wrapT (b:Bool) (s:List Int):List Int:=if b then s else joinP [40] (joinP s [41])
theorem wrapT_len (s:List Int):s.length+2<=(wrapT false s).length:=by
 have h1:=(joinP_len2 [40] (joinP s [41])).1
 have h2:=(joinP_len2 s [41]).1
 have e:wrapT false s=joinP [40] (joinP s [41]):=rfl
 rw [e]
 simp at h1 h2
 omega
theorem d9_start {w0 w:World}{g:Nat}{v:Value}{l:List Int} (hb:Below w0.heap.size w0 w) (hw:WSt w w0.heap.size g v l) (vs:List Value) (T:TypeId):D9 w0 g v l w w.heap.size vs (w.alloc (.cells vs.toArray T)):=by
 have hb1:=bel1 w (.cells vs.toArray T)
 obtain ⟨ha,hg⟩:=hw.below hb1
 exact ⟨v,hb.trans (hb1.mono hb.size),ha,hg,nodeAt_new hw vs T⟩
theorem D9.stepped {w0 wa W:World}{g:Nat}{v:Value}{l:List Int}{b1:Nat}{vs:List Value} (h:D9 w0 g v l wa b1 vs W):Stepped w0 wa g v l W:=by
 obtain ⟨v',h1,h2,h3,_⟩:=h
 exact ⟨v',h2,h3,h1⟩
theorem D9.bel {w0 wa W:World}{g:Nat}{v:Value}{l:List Int}{b1:Nat}{vs:List Value} (h:D9 w0 g v l wa b1 vs W):Below w0.heap.size w0 W:=by
 obtain ⟨v',h1,_⟩:=h
 exact h1
theorem D9.c7 {w0 wa W:World}{g:Nat}{v:Value}{l:List Int}{b1:Nat}{v0 v1 v2 v3 v4 v5 v6:Value} (h:D9 w0 g v l wa b1 [v0,v1,v2,v3,v4,v5,v6] W):W.cell? ⟨b1,0,none⟩=some v0/\W.cell? ⟨b1,1,none⟩=some v1/\W.cell? ⟨b1,2,none⟩=some v2/\W.cell? ⟨b1,3,none⟩=some v3/\W.cell? ⟨b1,4,none⟩=some v4/\W.cell? ⟨b1,5,none⟩=some v5/\W.cell? ⟨b1,6,none⟩=some v6:=by
 obtain ⟨v',_,_,_,hn⟩:=h
 exact hn.c7
theorem D9.bstep {w0 wa W W':World}{g:Nat}{v:Value}{l:List Int}{b1:Nat}{vs:List Value} (h:D9 w0 g v l wa b1 vs W) (hb:Below W.heap.size W W'):D9 w0 g v l wa b1 vs W':=by
 obtain ⟨v',h1,h2,h3,h4⟩:=h
 obtain ⟨k1,k2⟩:=h2.below hb
 exact ⟨v',h1.trans (hb.mono h1.size),k1,h3.trans k2,h4.grew k2⟩
theorem D9.add {w0 wa W W':World}{g:Nat}{v v1:Value}{l':List Int}{b1:Nat}{vs:List Value} (h3:Grew g v wa W v1) (h4:NodeAt W g v1 b1 vs) (k:Stepped w0 W g v1 l' W'):D9 w0 g v l' wa b1 vs W':=by
 obtain ⟨v2,k1,k2,k3⟩:=k
 exact ⟨v2,k3,k1,h3.trans k2,h4.grew k2⟩
theorem d9_put {w0 wa W:World}{g:Nat}{v:Value}{l:List Int}{b1:Nat}{vs:List Value} (c:Int) (G:Nat) (hG:W.heap.size=G) (h:D9 w0 g v l wa b1 vs W) (hl:l.length+1<=1099511627000) :
  Calls Tryz.prog 37 #[.pointer (some ⟨g,0,none⟩),.slice (some ⟨G,0,none⟩) 1 1] (W.alloc (.cells #[.int .i32 c] 21)) fun e w'=>e= .returned (.tuple #[])/\D9 w0 g v (joinP l [c]) wa b1 vs w':=by
 subst hG
 obtain ⟨v1,h1,h2,h3,h4⟩:=h
 exact (put_new1 c W.heap.size rfl h1 h2 hl).mono fun e w' ⟨he,hk⟩=>⟨he,D9.add h3 h4 hk⟩
theorem d9_node {w0 wa W:World}{g:Nat}{v:Value}{l:List Int}{b1:Nat}{vs:List Value}{f:FuncId}{t:RTree}{s:List Int}{u0 u1 u2 u3 u4 u5 u6:Value} (H:NodeP f w0 t s) (ht:TN w0 t [u0,u1,u2,u3,u4,u5,u6]) (h:D9 w0 g v l wa b1 vs W) (hl:l.length+2*s.length<=1099511627000) :
  Calls Tryz.prog f #[.pointer (some ⟨g,0,none⟩),.agg #[u0,u1,u2,u3,u4,u5,u6]] W fun e w'=>e= .returned (.tuple #[])/\D9 w0 g v (joinP l s) wa b1 vs w':=by
 obtain ⟨v1,h1,h2,h3,h4⟩:=h
 exact (H _ _ _ _ _ _ _ W g v1 l ht h1 h2 hl).mono fun e w' ⟨he,hk⟩=>⟨he,D9.add h3 h4 hk⟩
theorem inside_any (w0:World) (t:RTree) (s:List Int) (bb:Bool) (H:Hid (NodeP 38 w0 t s)):∀ v0 v1 v2 v3 v4 v5 v6 w g v l,TN w0 t [v0,v1,v2,v3,v4,v5,v6]->Below w0.heap.size w0 w->WSt w w0.heap.size g v l->l.length+2*(wrapT bb s).length<=1099511627000 ->
  Calls Tryz.prog 76 #[.pointer (some ⟨g,0,none⟩),.agg #[v0,v1,v2,v3,v4,v5,v6],.bool bb] w fun e w'=>e= .returned (.tuple #[])/\Stepped w0 w g v (joinP l (wrapT bb s)) w':=by
 cases bb with
 | true=>exact inside_plain w0 t s H
 | false =>
  intro v0 v1 v2 v3 v4 v5 v6 w g v l ht hb hw hl
  have HD0:=Lib.hid (d9_start hb hw [v0,v1,v2,v3,v4,v5,v6] 31)
  have hs2:=wrapT_len s
  have j1:=joinP_len2 l [40]
  have j2:=joinP_len2 (joinP l [40]) s
  simp only [List.length_singleton] at j1
  have HL0:Hid (l.length+1<=1099511627000):=by unfold Hid;omega
  have HL1:Hid ((joinP l [40]).length+2*s.length<=1099511627000):=by unfold Hid;omega
  have HL2:Hid ((joinP (joinP l [40]) s).length+1<=1099511627000):=by unfold Hid;omega
  have HT:=Lib.hid ht
  clear ht hb hw hl hs2 j1 j2
  go_enter Tryz.func76,Tryz.ntmps76
  go_wp2_with fail
  (with_reducible refine (d9_put 40 (w.heap.size+1) (by simp) HD0.out HL0.out).mono ?_)
  rintro e w1 ⟨rfl,hd⟩
  have HD1:=Lib.hid hd
  clear hd
  obtain ⟨x0,x1,x2,x3,x4,x5,x6⟩:=HD1.out.c7
  go_wp2_with fail
  (with_reducible refine (d9_node H.out HT.out HD1.out HL1.out).mono ?_)
  rintro e w2 ⟨rfl,hd⟩
  have HD2:=Lib.hid hd
  clear hd x0 x1 x2 x3 x4 x5 x6
  go_wp2_with fail
  (with_reducible refine (d9_put 41 w2.heap.size rfl HD2.out HL2.out).mono ?_)
  rintro e w3 ⟨rfl,hd⟩
  have HF:Hid (Stepped w0 w g v (joinP l (wrapT false s)) w3):=by
   have h:=hd.stepped
   rw [joinP_assoc,joinP_assoc] at h
   exact h
  clear hd
  go_wp2
  go_end0
  exact ⟨rfl,HF.out⟩
theorem d9_inside {w0 wa W:World}{g:Nat}{v:Value}{l:List Int}{b1:Nat}{vs:List Value}{t:RTree}{s:List Int} (bb:Bool){u0 u1 u2 u3 u4 u5 u6:Value} (H:Hid (NodeP 38 w0 t s)) (ht:TN w0 t [u0,u1,u2,u3,u4,u5,u6]) (h:D9 w0 g v l wa b1 vs W) (hl:l.length+2*(wrapT bb s).length<=1099511627000) :
  Calls Tryz.prog 76 #[.pointer (some ⟨g,0,none⟩),.agg #[u0,u1,u2,u3,u4,u5,u6],.bool bb] W fun e w'=>e= .returned (.tuple #[])/\D9 w0 g v (joinP l (wrapT bb s)) wa b1 vs w':=by
 obtain ⟨v1,h1,h2,h3,h4⟩:=h
 exact (inside_any w0 t s bb H _ _ _ _ _ _ _ W g v1 l ht h1 h2 hl).mono fun e w' ⟨he,hk⟩=>⟨he,D9.add h3 h4 hk⟩
def bareB (k:Int):Bool:=decide (k=2)||decide (k=3)||decide (k=4)||decide (k=5)||decide (k=6)||decide (k=8)
def leftB (k:Int):Bool:=bareB k||decide (k=1)||decide (k=7)
def singleB (k:Int):Bool:=decide (k=13)||decide (k=14)||decide (k=15)
theorem bare_any (w0:World) (t:RTree):TellsT 77 w0 t (bareB (kindR t)):=by
 rintro v0 v1 v2 v3 v4 v5 v6 w ht hb
 cases t with
 | mk k nums text name c kids =>
 obtain ⟨at1,A1,n1,c1,A2,n2,c2,A,m,cc,rfl,rfl,rfl,rfl,rfl,rfl,rfl,-,-,-⟩:=ht.form
 have HB:Hid (Below w.heap.size w (w.alloc (.cells #[.int .i64 k,.int .i64 at1,.slice A1 n1 c1,.slice A2 n2 c2,.string name,.int .i32 c,.slice A m cc] 31))):=bel1 w _
 obtain ⟨R,hR⟩:∃ R,R=bareB (kindR (.mk k nums text name c kids)):=⟨_,rfl⟩
 have HR:Hid (R=((k==2)||(k==3)||(k==4)||(k==5)||(k==6)||(k==8))):=by unfold Hid;rw [hR];rfl
 rw [<- hR]
 clear ht hb hR
 obtain ⟨a2,h2⟩:∃ a:Bool,(k==2)=a:=⟨_,rfl⟩
 obtain ⟨a3,h3⟩:∃ a:Bool,(k==3)=a:=⟨_,rfl⟩
 obtain ⟨a4,h4⟩:∃ a:Bool,(k==4)=a:=⟨_,rfl⟩
 obtain ⟨a5,h5⟩:∃ a:Bool,(k==5)=a:=⟨_,rfl⟩
 obtain ⟨a6,h6⟩:∃ a:Bool,(k==6)=a:=⟨_,rfl⟩
 obtain ⟨a8,h8⟩:∃ a:Bool,(k==8)=a:=⟨_,rfl⟩
 rw [h2,h3,h4,h5,h6,h8] at HR
 cases a2 <;> cases a3 <;> cases a4 <;> cases a5 <;> cases a6 <;> cases a8
 all_goals go_enter Tryz.func77,Tryz.ntmps77
 all_goals go_wp2
 all_goals go_ret
 all_goals exact ⟨by rw [HR.out];rfl,HB.out⟩
theorem single_any (w0:World) (t:RTree):TellsT 126 w0 t (singleB (kindR t)):=by
 rintro v0 v1 v2 v3 v4 v5 v6 w ht hb
 cases t with
 | mk k nums text name c kids =>
 obtain ⟨at1,A1,n1,c1,A2,n2,c2,A,m,cc,rfl,rfl,rfl,rfl,rfl,rfl,rfl,-,-,-⟩:=ht.form
 have HB:Hid (Below w.heap.size w (w.alloc (.cells #[.int .i64 k,.int .i64 at1,.slice A1 n1 c1,.slice A2 n2 c2,.string name,.int .i32 c,.slice A m cc] 31))):=bel1 w _
 obtain ⟨R,hR⟩:∃ R,R=singleB (kindR (.mk k nums text name c kids)):=⟨_,rfl⟩
 have HR:Hid (R=((k==13)||(k==14)||(k==15))):=by unfold Hid;rw [hR];rfl
 rw [<- hR]
 clear ht hb hR
 obtain ⟨a13,h13⟩:∃ a:Bool,(k==13)=a:=⟨_,rfl⟩
 obtain ⟨a14,h14⟩:∃ a:Bool,(k==14)=a:=⟨_,rfl⟩
 obtain ⟨a15,h15⟩:∃ a:Bool,(k==15)=a:=⟨_,rfl⟩
 rw [h13,h14,h15] at HR
 cases a13 <;> cases a14 <;> cases a15
 all_goals go_enter Tryz.func126,Tryz.ntmps126
 all_goals go_wp2
 all_goals go_ret
 all_goals exact ⟨by rw [HR.out];rfl,HB.out⟩
theorem left_any (w0:World) (t:RTree):TellsT 124 w0 t (leftB (kindR t)):=by
 rintro v0 v1 v2 v3 v4 v5 v6 w ht hb
 have HBA:=Lib.hid (fun W (hb':Below w0.heap.size w0 W)=>bare_any w0 t _ _ _ _ _ _ _ W ht hb')
 cases t with
 | mk k nums text name c kids =>
 obtain ⟨at1,A1,n1,c1,A2,n2,c2,A,m,cc,rfl,rfl,rfl,rfl,rfl,rfl,rfl,-,-,-⟩:=ht.form
 have hbx:=boxedT w [.int .i64 k,.int .i64 at1,.slice A1 n1 c1,.slice A2 n2 c2,.string name,.int .i32 c,.slice A m cc] 31
 have HB:=Lib.hid hbx
 have HBW:Hid (Below w0.heap.size w0 (w.alloc (.cells #[.int .i64 k,.int .i64 at1,.slice A1 n1 c1,.slice A2 n2 c2,.string name,.int .i32 c,.slice A m cc] 31))):=hb.trans (hbx.2.1.mono hb.size)
 obtain ⟨R,hR⟩:∃ R,R=leftB (kindR (.mk k nums text name c kids)):=⟨_,rfl⟩
 have HR:Hid (R=(bareB k||(k==1)||(k==7))):=by unfold Hid;rw [hR];rfl
 rw [<- hR]
 have HBA2:Hid (∀ W,Below w0.heap.size w0 W->Calls Tryz.prog 77 #[.agg #[.int .i64 k,.int .i64 at1,.slice A1 n1 c1,.slice A2 n2 c2,.string name,.int .i32 c,.slice A m cc]] W fun e w'=>e= .returned (.bool (bareB k))/\Below W.heap.size W w'):=HBA.out
 clear ht hb hR hbx HBA
 generalize bareB k=bk at *
 obtain ⟨a1,h1⟩:∃ a:Bool,(k==1)=a:=⟨_,rfl⟩
 obtain ⟨a7,h7⟩:∃ a:Bool,(k==7)=a:=⟨_,rfl⟩
 rw [h1,h7] at HR
 cases bk <;> cases a1 <;> cases a7
 all_goals
  go_enter Tryz.func124,Tryz.ntmps124
  obtain ⟨y0,y1,y2,y3,y4,y5,y6⟩:=HB.out.c7
  go_wp2_with fail
  (with_reducible refine (HBA2.out _ HBW.out).mono ?_)
  rintro e w1 ⟨rfl,hb⟩
  have HB1:=Lib.hid (HB.out.step hb)
  clear hb y0 y1 y2 y3 y4 y5 y6
  obtain ⟨y0,y1,y2,y3,y4,y5,y6⟩:=HB1.out.c7
  go_wp2
  go_ret
  exact ⟨by rw [HR.out];rfl,HB1.out.2.1⟩
end Go.Proofs.YtbakjaliponbbaaGreatDoor
