/- Arrays: a plain word for them, and what it is that memory holds one. Plain arrays as the page keeps them, in memory, whatever they hold. Which plain arrays are .. Conditions: as each theorem says. -/
import Derived.Test.YtbakjaliponbbaaGreatDoorMg06
import Derived.IntWalk
set_option maxRecDepth 100000
set_option maxHeartbeats 2000000
namespace Go.Proofs.YtbakjaliponbbaaGreatDoor
open Go Go.RowKit Go.Proofs Fl
inductive PA where
 | nums (s:List Nat) (l:List Nat)
 | chars (s:List Nat) (l:List Int)
 | boxes (s:List Nat) (l:List PA)
instance:Inhabited PA:=⟨.nums [] []⟩
def PA.shape:PA->List Nat
 | .nums s _=>s | .chars s _=>s | .boxes s _=>s
def PA.len:PA->Nat
 | .nums _ l=>l.length | .chars _ l=>l.length | .boxes _ l=>l.length
def PA.fill:PA->Nat
 | .nums _ _=>0 | .chars _ _=>1 | .boxes _ _=>2
abbrev sv (h:Sl):Value := .slice h.1 h.2.1 h.2.2
abbrev nilS:Sl:=(none,0,0)
abbrev RdH (H:Nat->Prop) (w:World) (v:Value) (xs:List Value):Prop:=Keeps H w fun W=>Reads1 W v xs
structure Lat (H:Nat->Prop) (w w':World):Prop where
 size:w.heap.size<=w'.heap.size
 block:∀ b,b < w.heap.size->¬ H b->w'.heap[b]?=w.heap[b]?
theorem Lat.below {H:Nat->Prop}{w w':World} (h:Below w.heap.size w w'):Lat H w w':=⟨h.size,fun b hb _=>h.block b hb⟩
theorem Lat.set {H:Nat->Prop}{w:World}{a:Addr} (ha:H a.block) (u:Value):Lat H w (w.setCell a u) :=
 ⟨by rw [size_setCell'];exact Nat.le_refl _,fun b _ hn=>Below.heap_setCell _ _ _ _ (fun e=>hn (by rw [e];exact ha))⟩
theorem Lat.trans {H:Nat->Prop}{a b c:World} (h:Lat H a b) (k:Lat H b c):Lat H a c :=
 ⟨Nat.le_trans h.size k.size,fun x hx hn=>by rw [k.block x (Nat.lt_of_lt_of_le hx h.size) hn,h.block x hx hn]⟩
theorem Keeps.lat {H:Nat->Prop}{w w':World}{R:World->Prop} (h:Keeps H w R) (g:Lat H w w'):Keeps H w' R :=
 fun W hz hb=>h W (Nat.le_trans g.size hz) fun b hl hn=>by rw [hb b (Nat.lt_of_lt_of_le hl g.size) hn,g.block b hl hn]
theorem RdH.len {H:Nat->Prop}{w:World}{v:Value}{xs:List Value} (h:RdH H w v xs):∃ a c,v= .slice a xs.length c:=Reads1.len h.now
abbrev ShV (H:Nat->Prop) (w:World) (h:Sl) (s:List Nat):Prop:=RdH H w (sv h) (s.map fun n:Nat => .int .i64 (n:Int))
theorem ShV.len {H:Nat->Prop}{w:World}{h:Sl}{s:List Nat} (g:ShV H w h s):h.2.1=s.length:=by
 obtain ⟨a,c,e⟩:=RdH.len g
 unfold sv at e
 injection e with _ e _
 simpa using e
theorem shV_nil (H:Nat->Prop) (w:World):ShV H w nilS []:=fun _ _ _ => .inl ⟨none,0,rfl,rfl⟩
structure NumS (H:Nat->Prop) (w:World) (p:V8) (l:List Nat):Prop where
 num:Keeps H w (NumV p.v p.k l.length (fun j=>l.getD j 0))
 least:p.k=(leastF (fun j=>l.getD j 0) l.length:Nat)
abbrev zbP:V8:=⟨1,nilS,0,nilS,nilS,nilS,nilS,nilS⟩
def NumA (H:Nat->Prop) (w:World) (p:V8) (l:List Nat):Prop:=NumS H w p l\/(l=[]/\p=zbP)
theorem NumA.lat {H:Nat->Prop}{w w':World}{p:V8}{l:List Nat} (g:NumA H w p l) (k:Lat H w w'):NumA H w' p l:=by
 rcases g with g | g
 ·exact .inl ⟨g.num.lat k,g.least⟩
 ·exact .inr g
theorem NumA.sub {H H':Nat->Prop}{w:World}{p:V8}{l:List Nat} (g:NumA H w p l) (hs:∀ j,j < w.heap.size->H' j->H j):NumA H' w p l:=by
 rcases g with g | g
 ·exact .inl ⟨g.num.sub hs,g.least⟩
 ·exact .inr g
abbrev charsP (c:Sl):V8:=⟨5,nilS,0,nilS,nilS,nilS,c,nilS⟩
abbrev boxesP (x:Sl):V8:=⟨6,nilS,0,nilS,nilS,nilS,nilS,x⟩
abbrev zeroP:V8:=⟨0,nilS,0,nilS,nilS,nilS,nilS,nilS⟩
abbrev arrL (h:Sl) (p:V8):List Value:=[sv h,.int .i64 p.k,sv p.b,.int .i64 p.bn,sv p.s,sv p.i,sv p.f,sv p.c,sv p.x]
abbrev arrV (h:Sl) (p:V8):Value := .agg #[sv h,.int .i64 p.k,sv p.b,.int .i64 p.bn,sv p.s,sv p.i,sv p.f,sv p.c,sv p.x]
def At9 (w:World) (b o:Nat) (h:Sl) (p:V8):Prop :=
 w.cell? ⟨b,o,none⟩=some (sv h)/\w.cell? ⟨b,o+1,none⟩=some (.int .i64 p.k)/\w.cell? ⟨b,o+2,none⟩=some (sv p.b)/\w.cell? ⟨b,o+3,none⟩=some (.int .i64 p.bn)/\w.cell? ⟨b,o+4,none⟩=some (sv p.s) /\
  w.cell? ⟨b,o+5,none⟩=some (sv p.i)/\w.cell? ⟨b,o+6,none⟩=some (sv p.f)/\w.cell? ⟨b,o+7,none⟩=some (sv p.c)/\w.cell? ⟨b,o+8,none⟩=some (sv p.x)
theorem At9.of {w w':World}{b o:Nat}{h:Sl}{p:V8} (g:At9 w b o h p) (e:∀ j,w'.cell? ⟨b,j,none⟩=w.cell? ⟨b,j,none⟩):At9 w' b o h p:=by
 unfold At9
 rw [e,e,e,e,e,e,e,e,e]
 exact g
theorem At9.lt {w:World}{b o:Nat}{h:Sl}{p:V8} (g:At9 w b o h p):b < w.heap.size:=cell_lt g.1
theorem At9.below {w w':World}{b o:Nat}{h:Sl}{p:V8} (g:At9 w b o h p) (hb:Below w.heap.size w w'):At9 w' b o h p:=g.of fun _=>hb.cell g.lt
theorem At9.lat {H:Nat->Prop}{w w':World}{b o:Nat}{h:Sl}{p:V8} (g:At9 w b o h p) (hn:¬ H b) (k:Lat H w w'):At9 w' b o h p:=g.of fun _=>World.cell?_of_block (w:=w) (k.block b g.lt hn)
mutual
def AV (H:Nat->Prop) (w:World):PA->Sl->V8->Prop
 | .nums s l,h,p=>ShV H w h s/\NumA H w p l
 | .chars s l,h,p=>ShV H w h s/\∃ c,p=charsP c/\RdH H w (sv c) (l.map (Value.int .i32))
 | .boxes s l,h,p=>ShV H w h s/\∃ x,p=boxesP x/\x.2.1=l.length/\((l=[]/\True)\/∃ b o,x.1=some ⟨b,o,none⟩/\¬ H b/\AVs H w b o l)
def AVs (H:Nat->Prop) (w:World) (b:Nat):Nat->List PA->Prop
 | _,[]=>True
 | o,a::ar=>(∃ h p,At9 w b o h p/\AV H w a h p)/\AVs H w b (o+9) ar
end
mutual
theorem AV.lat {H:Nat->Prop}{w w':World} (k:Lat H w w'):∀ {a:PA}{h:Sl}{p:V8},AV H w a h p->AV H w' a h p
 | .nums s l,h,p,g=>by
  rw [AV] at g ⊢
  exact ⟨g.1.lat k,g.2.lat k⟩
 | .chars s l,h,p,g=>by
  rw [AV] at g ⊢
  obtain ⟨g1,c,g2,g3⟩:=g
  exact ⟨g1.lat k,c,g2,g3.lat k⟩
 | .boxes s l,h,p,g=>by
  rw [AV] at g ⊢
  obtain ⟨g1,x,g2,g3,g4⟩:=g
  refine ⟨g1.lat k,x,g2,g3,?_⟩
  rcases g4 with g4 | ⟨b,o,g5,hn,g6⟩
  ·exact .inl g4
  ·exact .inr ⟨b,o,g5,hn,AVs.lat k hn g6⟩
theorem AVs.lat {H:Nat->Prop}{w w':World} (k:Lat H w w'){b:Nat} (hn:¬ H b):∀ {o:Nat}{l:List PA},AVs H w b o l->AVs H w' b o l
 | _,[],_=>by rw [AVs];trivial
 | o,a::ar,g=>by
  rw [AVs] at g ⊢
  obtain ⟨⟨h,p,g1,g2⟩,g3⟩:=g
  exact ⟨⟨h,p,g1.lat hn k,AV.lat k g2⟩,AVs.lat k hn g3⟩
end
theorem AV.step {H:Nat->Prop}{w w':World}{a:PA}{h:Sl}{p:V8} (g:AV H w a h p) (hb:Below w.heap.size w w'):AV H w' a h p:=AV.lat (Lat.below hb) g
mutual
theorem AV.sub {H H':Nat->Prop}{w:World} (hs:∀ b,b < w.heap.size->H' b->H b):∀ {a:PA}{h:Sl}{p:V8},AV H w a h p->AV H' w a h p
 | .nums s l,h,p,g=>by
  rw [AV] at g ⊢
  exact ⟨g.1.sub hs,g.2.sub hs⟩
 | .chars s l,h,p,g=>by
  rw [AV] at g ⊢
  obtain ⟨g1,c,g2,g3⟩:=g
  exact ⟨g1.sub hs,c,g2,g3.sub hs⟩
 | .boxes s l,h,p,g=>by
  rw [AV] at g ⊢
  obtain ⟨g1,x,g2,g3,g4⟩:=g
  refine ⟨g1.sub hs,x,g2,g3,?_⟩
  rcases g4 with g4 | ⟨b,o,g5,hn,g6⟩
  ·exact .inl g4
  ·cases l with
   | nil=>exact .inl ⟨rfl,trivial⟩
   | cons a ar =>
    have hl:b < w.heap.size:=by rw [AVs] at g6;obtain ⟨⟨_,_,h9,_⟩,_⟩:=g6;exact h9.lt
    exact .inr ⟨b,o,g5,fun e=>hn (hs b hl e),AVs.sub hs g6⟩
theorem AVs.sub {H H':Nat->Prop}{w:World} (hs:∀ b,b < w.heap.size->H' b->H b){b:Nat}:∀ {o:Nat}{l:List PA},AVs H w b o l->AVs H' w b o l
 | _,[],_=>by rw [AVs];trivial
 | o,a::ar,g=>by
  rw [AVs] at g ⊢
  obtain ⟨⟨h,p,g1,g2⟩,g3⟩:=g
  exact ⟨⟨h,p,g1,AV.sub hs g2⟩,AVs.sub hs g3⟩
end
theorem AV.arg {H:Nat->Prop}{w W:World}{a:PA}{h:Sl}{p:V8} (g:AV H w a h p) (hb:Below w.heap.size w W):AV (Hole H w W) W a h p:=by
 have g2:AV (Hole H w W) w a h p:=AV.sub (fun b hl e=>by
  rcases e with e | ⟨e,_⟩
  ·exact e
  ·omega) g
 exact AV.lat (Lat.below hb) g2
theorem AVs.at_ {H:Nat->Prop}{w:World}{b:Nat}:∀ {l:List PA}{o i:Nat} (hi:i < l.length),AVs H w b o l->∃ h p,At9 w b (o+i*9) h p/\AV H w l[i] h p
 | [],_,_,hi,_=>by simp at hi
 | a::ar,o,0,_,g=>by
  rw [AVs] at g
  simpa using g.1
 | a::ar,o,i+1,hi,g=>by
  rw [AVs] at g
  have:=AVs.at_ (l:=ar) (o:=o+9) (i:=i) (by simpa using hi) g.2
  have e:o+9+i*9=o+(i+1)*9:=by omega
  rw [e] at this
  simpa using this
theorem avs_of {H:Nat->Prop}{w:World}{b:Nat}:∀ (l:List PA) (o:Nat),(∀ i (h:i < l.length),∃ h p,At9 w b (o+i*9) h p/\AV H w l[i] h p)->AVs H w b o l
 | [],_,_=>by rw [AVs];trivial
 | a::ar,o,g=>by
  rw [AVs]
  refine ⟨?_,avs_of ar (o+9) fun i hi=>?_⟩
  ·have:=g 0 (by simp);simpa using this
  ·have:=g (i+1) (by simpa using hi)
   have e:o+(i+1)*9=o+9+i*9:=by omega
   rw [e] at this
   simpa using this
theorem AV.shape {H:Nat->Prop}{w:World}{a:PA}{h:Sl}{p:V8} (g:AV H w a h p):ShV H w h a.shape:=by
 cases a <;> (rw [AV] at g;exact g.1)
theorem AV.nums {H:Nat->Prop}{w:World}{s:List Nat}{l:List Nat}{h:Sl}{p:V8} (g:AV H w (.nums s l) h p):NumA H w p l:=by rw [AV] at g;exact g.2
theorem AV.chars {H:Nat->Prop}{w:World}{s:List Nat}{l:List Int}{h:Sl}{p:V8} (g:AV H w (.chars s l) h p):∃ c,p=charsP c/\RdH H w (sv c) (l.map (Value.int .i32)):=by rw [AV] at g;exact g.2
theorem AV.boxes {H:Nat->Prop}{w:World}{s:List Nat}{l:List PA}{h:Sl}{p:V8} (g:AV H w (.boxes s l) h p) :
  ∃ A n c,p=boxesP (A,n,c)/\n=l.length/\∀ i (hi:i < l.length),∃ b o h p,A=some ⟨b,o,none⟩/\¬ H b/\AV H w l[i] h p/\∀ w1,Lat H w w1->At9 w1 b (o+i*9) h p:=by
 rw [AV] at g
 obtain ⟨_,⟨A,n,c⟩,rfl,hn,g4⟩:=g
 refine ⟨A,n,c,rfl,hn,fun i hi=>?_⟩
 rcases g4 with ⟨rfl,_⟩ | ⟨b,o,g5,hb,g6⟩
 ·simp at hi
 ·obtain ⟨h,p,g7,g8⟩:=AVs.at_ hi g6
  exact ⟨b,o,h,p,g5,hb,g8,fun w1 k=>g7.lat hb k⟩
mutual
inductive RP where
 | mk (s:List Int) (items:List RI) (fill:Int)
inductive RI where
 | mk (kind:Int) (num:Nat) (char:Int) (box:List RP)
end
instance:Inhabited RP:=⟨.mk [] [] 0⟩
instance:Inhabited RI:=⟨.mk 0 0 0 []⟩
def At4 (w:World) (b o:Nat) (k:Int) (n:Nat) (c:Int) (x:Sl):Prop :=
 w.cell? ⟨b,o,none⟩=some (.int .i64 k)/\w.cell? ⟨b,o+1,none⟩=some (.float .f64 n)/\w.cell? ⟨b,o+2,none⟩=some (.int .i32 c)/\w.cell? ⟨b,o+3,none⟩=some (sv x)
def At3 (w:World) (b o:Nat) (h x:Sl) (f:Int):Prop :=
 w.cell? ⟨b,o,none⟩=some (sv h)/\w.cell? ⟨b,o+1,none⟩=some (sv x)/\w.cell? ⟨b,o+2,none⟩=some (.int .i64 f)
theorem At4.of {w w':World}{b o:Nat}{k:Int}{n:Nat}{c:Int}{x:Sl} (g:At4 w b o k n c x) (e:∀ j,w'.cell? ⟨b,j,none⟩=w.cell? ⟨b,j,none⟩):At4 w' b o k n c x:=by
 unfold At4
 rw [e,e,e,e]
 exact g
theorem At4.lt {w:World}{b o:Nat}{k:Int}{n:Nat}{c:Int}{x:Sl} (g:At4 w b o k n c x):b < w.heap.size:=cell_lt g.1
theorem At4.lat {H:Nat->Prop}{w w':World}{b o:Nat}{k:Int}{n:Nat}{c:Int}{x:Sl} (g:At4 w b o k n c x) (hn:¬ H b) (l:Lat H w w'):At4 w' b o k n c x:=g.of fun _=>World.cell?_of_block (w:=w) (l.block b g.lt hn)
theorem At3.of {w w':World}{b o:Nat}{h x:Sl}{f:Int} (g:At3 w b o h x f) (e:∀ j,w'.cell? ⟨b,j,none⟩=w.cell? ⟨b,j,none⟩):At3 w' b o h x f:=by
 unfold At3
 rw [e,e,e]
 exact g
theorem At3.lt {w:World}{b o:Nat}{h x:Sl}{f:Int} (g:At3 w b o h x f):b < w.heap.size:=cell_lt g.1
theorem At3.lat {H:Nat->Prop}{w w':World}{b o:Nat}{h x:Sl}{f:Int} (g:At3 w b o h x f) (hn:¬ H b) (l:Lat H w w'):At3 w' b o h x f:=g.of fun _=>World.cell?_of_block (w:=w) (l.block b g.lt hn)
mutual
def PV (H:Nat->Prop) (w:World):RP->Sl->Sl->Int->Prop
 | .mk s items fill,h,x,f=>RdH H w (sv h) (s.map (Value.int .i64))/\f=fill/\x.2.1=items.length/\((items=[]/\True)\/∃ b o,x.1=some ⟨b,o,none⟩/\¬ H b/\IVs H w b o items)
def IVs (H:Nat->Prop) (w:World) (b:Nat):Nat->List RI->Prop
 | _,[]=>True
 | o,t::ts=>(∃ k n c x,At4 w b o k n c x/\IV H w t k n c x)/\IVs H w b (o+4) ts
def IV (H:Nat->Prop) (w:World):RI->Int->Nat->Int->Sl->Prop
 | .mk kind num char box,k,n,c,x=>k=kind/\n=num/\c=char/\x.2.1=box.length/\((box=[]/\True)\/∃ b o,x.1=some ⟨b,o,none⟩/\¬ H b/\PVs H w b o box)
def PVs (H:Nat->Prop) (w:World) (b:Nat):Nat->List RP->Prop
 | _,[]=>True
 | o,t::ts=>(∃ h x f,At3 w b o h x f/\PV H w t h x f)/\PVs H w b (o+3) ts
end
abbrev plV (h x:Sl) (f:Int):Value := .agg #[sv h,sv x,.int .i64 f]
abbrev itV (k:Int) (n:Nat) (c:Int) (x:Sl):Value := .agg #[.int .i64 k,.float .f64 n,.int .i32 c,sv x]
theorem cell_up {w w':World} (hb:Below w.heap.size w w'){p:Addr}{v:Value} (h:w.cell? p=some v):w'.cell? p=some v:=by rw [hb.cell (cell_lt h)];exact h
mutual
theorem PV.lat {H:Nat->Prop}{w w':World} (l:Lat H w w'):∀ {t:RP}{h x:Sl}{f:Int},PV H w t h x f->PV H w' t h x f
 | .mk s items fill,h,x,f,g=>by
  rw [PV] at g ⊢
  obtain ⟨g1,g2,g3,g4⟩:=g
  refine ⟨g1.lat l,g2,g3,?_⟩
  rcases g4 with g4 | ⟨b,o,g5,hn,g6⟩
  ·exact .inl g4
  ·exact .inr ⟨b,o,g5,hn,IVs.lat l hn g6⟩
theorem IVs.lat {H:Nat->Prop}{w w':World} (l:Lat H w w'){b:Nat} (hn:¬ H b):∀ {o:Nat}{ts:List RI},IVs H w b o ts->IVs H w' b o ts
 | _,[],_=>by rw [IVs];trivial
 | o,t::ts,g=>by
  rw [IVs] at g ⊢
  obtain ⟨⟨k,n,c,x,c0,g1⟩,g2⟩:=g
  exact ⟨⟨k,n,c,x,c0.lat hn l,IV.lat l g1⟩,IVs.lat l hn g2⟩
theorem IV.lat {H:Nat->Prop}{w w':World} (l:Lat H w w'):∀ {t:RI}{k:Int}{n:Nat}{c:Int}{x:Sl},IV H w t k n c x->IV H w' t k n c x
 | .mk kind num char box,k,n,c,x,g=>by
  rw [IV] at g ⊢
  obtain ⟨g1,g2,g3,g4,g5⟩:=g
  refine ⟨g1,g2,g3,g4,?_⟩
  rcases g5 with g5 | ⟨b,o,g5,hn,g6⟩
  ·exact .inl g5
  ·exact .inr ⟨b,o,g5,hn,PVs.lat l hn g6⟩
theorem PVs.lat {H:Nat->Prop}{w w':World} (l:Lat H w w'){b:Nat} (hn:¬ H b):∀ {o:Nat}{ts:List RP},PVs H w b o ts->PVs H w' b o ts
 | _,[],_=>by rw [PVs];trivial
 | o,t::ts,g=>by
  rw [PVs] at g ⊢
  obtain ⟨⟨h,x,f,c0,g1⟩,g2⟩:=g
  exact ⟨⟨h,x,f,c0.lat hn l,PV.lat l g1⟩,PVs.lat l hn g2⟩
end
theorem PV.step {H:Nat->Prop}{w w':World}{t:RP}{h x:Sl}{f:Int} (g:PV H w t h x f) (hb:Below w.heap.size w w'):PV H w' t h x f:=PV.lat (Lat.below hb) g
theorem IV.step {H:Nat->Prop}{w w':World}{t:RI}{k:Int}{n:Nat}{c:Int}{x:Sl} (g:IV H w t k n c x) (hb:Below w.heap.size w w'):IV H w' t k n c x:=IV.lat (Lat.below hb) g
mutual
theorem PV.sub {H H':Nat->Prop}{w:World} (hs:∀ b,b < w.heap.size->H' b->H b):∀ {t:RP}{h x:Sl}{f:Int},PV H w t h x f->PV H' w t h x f
 | .mk s items fill,h,x,f,g=>by
  rw [PV] at g ⊢
  obtain ⟨g1,g2,g3,g4⟩:=g
  refine ⟨g1.sub hs,g2,g3,?_⟩
  rcases g4 with g4 | ⟨b,o,g5,hn,g6⟩
  ·exact .inl g4
  ·cases items with
   | nil=>exact .inl ⟨rfl,trivial⟩
   | cons a ar =>
    have hl:b < w.heap.size:=by rw [IVs] at g6;obtain ⟨⟨_,_,_,_,h9,_⟩,_⟩:=g6;exact h9.lt
    exact .inr ⟨b,o,g5,fun e=>hn (hs b hl e),IVs.sub hs g6⟩
theorem IVs.sub {H H':Nat->Prop}{w:World} (hs:∀ b,b < w.heap.size->H' b->H b){b:Nat}:∀ {o:Nat}{ts:List RI},IVs H w b o ts->IVs H' w b o ts
 | _,[],_=>by rw [IVs];trivial
 | o,t::ts,g=>by
  rw [IVs] at g ⊢
  obtain ⟨⟨k,n,c,x,c0,g1⟩,g2⟩:=g
  exact ⟨⟨k,n,c,x,c0,IV.sub hs g1⟩,IVs.sub hs g2⟩
theorem IV.sub {H H':Nat->Prop}{w:World} (hs:∀ b,b < w.heap.size->H' b->H b):∀ {t:RI}{k:Int}{n:Nat}{c:Int}{x:Sl},IV H w t k n c x->IV H' w t k n c x
 | .mk kind num char box,k,n,c,x,g=>by
  rw [IV] at g ⊢
  obtain ⟨g1,g2,g3,g4,g5⟩:=g
  refine ⟨g1,g2,g3,g4,?_⟩
  rcases g5 with g5 | ⟨b,o,g5,hn,g6⟩
  ·exact .inl g5
  ·cases box with
   | nil=>exact .inl ⟨rfl,trivial⟩
   | cons a ar =>
    have hl:b < w.heap.size:=by rw [PVs] at g6;obtain ⟨⟨_,_,_,h9,_⟩,_⟩:=g6;exact h9.lt
    exact .inr ⟨b,o,g5,fun e=>hn (hs b hl e),PVs.sub hs g6⟩
theorem PVs.sub {H H':Nat->Prop}{w:World} (hs:∀ b,b < w.heap.size->H' b->H b){b:Nat}:∀ {o:Nat}{ts:List RP},PVs H w b o ts->PVs H' w b o ts
 | _,[],_=>by rw [PVs];trivial
 | o,t::ts,g=>by
  rw [PVs] at g ⊢
  obtain ⟨⟨h,x,f,c0,g1⟩,g2⟩:=g
  exact ⟨⟨h,x,f,c0,PV.sub hs g1⟩,PVs.sub hs g2⟩
end
theorem PV.arg {H:Nat->Prop}{w W:World}{t:RP}{h x:Sl}{f:Int} (g:PV H w t h x f) (hb:Below w.heap.size w W):PV (Hole H w W) W t h x f:=by
 have g2:PV (Hole H w W) w t h x f:=PV.sub (fun b hl e=>by
  rcases e with e | ⟨e,_⟩
  ·exact e
  ·omega) g
 exact PV.lat (Lat.below hb) g2
theorem IVs.at_ {H:Nat->Prop}{w:World}{b:Nat}:∀ {ts:List RI}{o i:Nat} (hi:i < ts.length),IVs H w b o ts->∃ k n c x,At4 w b (o+i*4) k n c x/\IV H w ts[i] k n c x
 | [],_,_,hi,_=>by simp at hi
 | t::ts,o,0,_,g=>by
  rw [IVs] at g
  simpa using g.1
 | t::ts,o,i+1,hi,g=>by
  rw [IVs] at g
  have:=IVs.at_ (ts:=ts) (o:=o+4) (i:=i) (by simpa using hi) g.2
  have e:o+4+i*4=o+(i+1)*4:=by omega
  rw [e] at this
  simpa using this
theorem ivs_of {H:Nat->Prop}{w:World}{b:Nat}:∀ (ts:List RI) (o:Nat),(∀ i (h:i < ts.length),∃ k n c x,At4 w b (o+i*4) k n c x/\IV H w ts[i] k n c x)->IVs H w b o ts
 | [],_,_=>by rw [IVs];trivial
 | t::ts,o,g=>by
  rw [IVs]
  refine ⟨?_,ivs_of ts (o+4) fun i hi=>?_⟩
  ·have:=g 0 (by simp);simpa using this
  ·have:=g (i+1) (by simpa using hi)
   have e:o+(i+1)*4=o+4+i*4:=by omega
   rw [e] at this
   simpa using this
theorem PVs.at_ {H:Nat->Prop}{w:World}{b:Nat}:∀ {ts:List RP}{o i:Nat} (hi:i < ts.length),PVs H w b o ts->∃ h x f,At3 w b (o+i*3) h x f/\PV H w ts[i] h x f
 | [],_,_,hi,_=>by simp at hi
 | t::ts,o,0,_,g=>by
  rw [PVs] at g
  simpa using g.1
 | t::ts,o,i+1,hi,g=>by
  rw [PVs] at g
  have:=PVs.at_ (ts:=ts) (o:=o+3) (i:=i) (by simpa using hi) g.2
  have e:o+3+i*3=o+(i+1)*3:=by omega
  rw [e] at this
  simpa using this
theorem pvs_of {H:Nat->Prop}{w:World}{b:Nat}:∀ (ts:List RP) (o:Nat),(∀ i (h:i < ts.length),∃ h x f,At3 w b (o+i*3) h x f/\PV H w ts[i] h x f)->PVs H w b o ts
 | [],_,_=>by rw [PVs];trivial
 | t::ts,o,g=>by
  rw [PVs]
  refine ⟨?_,pvs_of ts (o+3) fun i hi=>?_⟩
  ·have:=g 0 (by simp);simpa using this
  ·have:=g (i+1) (by simpa using hi)
   have e:o+(i+1)*3=o+3+i*3:=by omega
   rw [e] at this
   simpa using this
theorem PV.open_ {H:Nat->Prop}{w:World}{s:List Int}{items:List RI}{fill:Int}{h x:Sl}{f:Int} (g:PV H w (.mk s items fill) h x f) :
  RdH H w (sv h) (s.map (Value.int .i64))/\f=fill/\x.2.1=items.length/\∀ i (hi:i < items.length),∃ b o k n c y,x.1=some ⟨b,o,none⟩/\¬ H b/\IV H w items[i] k n c y/\∀ w1,Lat H w w1->At4 w1 b (o+i*4) k n c y:=by
 rw [PV] at g
 obtain ⟨g1,g2,g3,g4⟩:=g
 refine ⟨g1,g2,g3,fun i hi=>?_⟩
 rcases g4 with ⟨rfl,_⟩ | ⟨b,o,g5,hn,g6⟩
 ·simp at hi
 ·obtain ⟨k,n,c,y,c0,g7⟩:=IVs.at_ hi g6
  exact ⟨b,o,k,n,c,y,g5,hn,g7,fun w1 l=>c0.lat hn l⟩
theorem pv_of {H:Nat->Prop}{w:World}{s:List Int}{items:List RI}{fill:Int}{h x:Sl} (h1:RdH H w (sv h) (s.map (Value.int .i64))) (h2:x.2.1=items.length)
  (h3:∀ i (hi:i < items.length),∃ b o k n c y,x.1=some ⟨b,o,none⟩/\¬ H b/\IV H w items[i] k n c y/\At4 w b (o+i*4) k n c y) :
  PV H w (.mk s items fill) h x fill:=by
 rw [PV]
 refine ⟨h1,rfl,h2,?_⟩
 cases items with
 | nil=>exact .inl ⟨rfl,trivial⟩
 | cons a ar =>
  obtain ⟨b,o,_,_,_,_,e0,hn0,_⟩:=h3 0 (by simp)
  refine .inr ⟨b,o,e0,hn0,ivs_of _ _ fun i hi=>?_⟩
  obtain ⟨b',o',k,n,c,y,e',_,g1,c0⟩:=h3 i hi
  rw [e0] at e'
  injection e' with e'
  injection e' with e1 e2 _
  subst e1;subst e2
  exact ⟨k,n,c,y,c0,g1⟩
theorem IV.open_ {H:Nat->Prop}{w:World}{kind:Int}{num:Nat}{char:Int}{box:List RP}{k:Int}{n:Nat}{c:Int}{x:Sl} (g:IV H w (.mk kind num char box) k n c x) :
  k=kind/\n=num/\c=char/\x.2.1=box.length/\∀ i (hi:i < box.length),∃ b o h y f,x.1=some ⟨b,o,none⟩/\¬ H b/\PV H w box[i] h y f/\∀ w1,Lat H w w1->At3 w1 b (o+i*3) h y f:=by
 rw [IV] at g
 obtain ⟨g1,g2,g3,g4,g5⟩:=g
 refine ⟨g1,g2,g3,g4,fun i hi=>?_⟩
 rcases g5 with ⟨rfl,_⟩ | ⟨b,o,g6,hn,g7⟩
 ·simp at hi
 ·obtain ⟨h,y,f,c0,g8⟩:=PVs.at_ hi g7
  exact ⟨b,o,h,y,f,g6,hn,g8,fun w1 l=>c0.lat hn l⟩
theorem iv_none (H:Nat->Prop) (w:World) (k:Int) (n:Nat) (c:Int) (a:Option Addr) (cc:Nat):IV H w (.mk k n c []) k n c (a,0,cc):=by
 rw [IV];exact ⟨rfl,rfl,rfl,rfl,.inl ⟨rfl,trivial⟩⟩
theorem iv_box {H:Nat->Prop}{w:World}{k:Int}{n:Nat}{c:Int}{t:RP}{b o cc:Nat}{h y:Sl}{f:Int} (hn:¬ H b) (g:PV H w t h y f) (c0:At3 w b o h y f) :
  IV H w (.mk k n c [t]) k n c (some ⟨b,o,none⟩,1,cc):=by
 rw [IV]
 refine ⟨rfl,rfl,rfl,rfl,.inr ⟨b,o,rfl,hn,?_⟩⟩
 rw [PVs,PVs]
 exact ⟨⟨h,y,f,c0,g⟩,trivial⟩
mutual
def cntP:RP->Nat
 | .mk s items _=>items.length+s.length+1+cntIs items
def cntIs:List RI->Nat
 | []=>0
 | t::ts=>cntI t+cntIs ts
def cntI:RI->Nat
 | .mk _ _ _ box=>cntPs box
def cntPs:List RP->Nat
 | []=>0
 | t::ts=>cntP t+cntPs ts
end
theorem cntP_pos (t:RP):1<=cntP t:=by cases t;rw [cntP];omega
theorem cntIs_at:∀ {ts:List RI}{i:Nat} (hi:i < ts.length),cntI ts[i]<=cntIs ts
 | [],_,hi=>by simp at hi
 | t::ts,0,_=>by rw [cntIs];simp
 | t::ts,i+1,hi=>by have:=cntIs_at (ts:=ts) (i:=i) (by simpa using hi);rw [cntIs];simp;omega
theorem cntPs_at:∀ {ts:List RP}{i:Nat} (hi:i < ts.length),cntP ts[i]<=cntPs ts
 | [],_,hi=>by simp at hi
 | t::ts,0,_=>by rw [cntPs];simp
 | t::ts,i+1,hi=>by have:=cntPs_at (ts:=ts) (i:=i) (by simpa using hi);rw [cntPs];simp;omega
theorem cntIs_take:∀ (ts:List RI) (i:Nat) (hi:i < ts.length),cntIs (ts.take (i+1))=cntIs (ts.take i)+cntI ts[i]
 | [],_,hi=>by simp at hi
 | t::ts,0,_=>by simp [cntIs]
 | t::ts,i+1,hi=>by
  have:=cntIs_take ts i (by simpa using hi)
  simp only [List.take_succ_cons,cntIs,List.getElem_cons_succ]
  omega
theorem cntPs_take:∀ (ts:List RP) (i:Nat) (hi:i < ts.length),cntPs (ts.take (i+1))=cntPs (ts.take i)+cntP ts[i]
 | [],_,hi=>by simp at hi
 | t::ts,0,_=>by simp [cntPs]
 | t::ts,i+1,hi=>by
  have:=cntPs_take ts i (by simpa using hi)
  simp only [List.take_succ_cons,cntPs,List.getElem_cons_succ]
  omega
theorem cntIs_le:∀ (ts:List RI) (i:Nat),cntIs (ts.take i)<=cntIs ts
 | [],i=>by simp
 | t::ts,0=>by simp [cntIs]
 | t::ts,i+1=>by have:=cntIs_le ts i;simp only [List.take_succ_cons,cntIs];omega
theorem cntPs_le:∀ (ts:List RP) (i:Nat),cntPs (ts.take i)<=cntPs ts
 | [],i=>by simp
 | t::ts,0=>by simp [cntPs]
 | t::ts,i+1=>by have:=cntPs_le ts i;simp only [List.take_succ_cons,cntPs];omega
def prodN:List Nat->Nat
 | []=>1
 | d::s=>d*prodN s
def prod1:List Nat->Nat
 | []=>1
 | d::s=>max 1 d*prod1 s
theorem prod1_pos (s:List Nat):1<=prod1 s:=by
 induction s with
 | nil=>exact Nat.le_refl _
 | cons d s ih=>exact Nat.mul_pos (by omega) ih
theorem prodN_le (s:List Nat):prodN s<=prod1 s:=by
 induction s with
 | nil=>exact Nat.le_refl _
 | cons d s ih=>exact Nat.mul_le_mul (by omega) ih
theorem prodN_zero {s:List Nat} (h:0∈s):prodN s=0:=by
 induction s with
 | nil=>cases h
 | cons d s ih =>
  cases List.mem_cons.1 h with
  | inl e=>subst e;simp [prodN]
  | inr e=>simp [prodN,ih e]
theorem prodN_eq {s:List Nat} (h:0 ∉ s):prodN s=prod1 s:=by
 induction s with
 | nil=>rfl
 | cons d s ih =>
  have h1:d≠0:=fun e=>h (by simp [e])
  have h2:0 ∉ s:=fun e=>h (by simp [e])
  show d*_=max 1 d*_
  rw [ih h2,Nat.max_eq_right (by omega)]
def OkSh (s:List Nat) (n:Nat):Prop:=s.length<=8/\prod1 s<=1048576/\prodN s=n
theorem OkSh.le {s:List Nat}{n:Nat} (h:OkSh s n):n<=1048576:=by
 have:=prodN_le s;have:=h.2.1;have:=h.2.2;omega
mutual
def OkP:Nat->RP->Prop
 | d,.mk s items fill=>0 < d/\(fill=0\/fill=1\/fill=2)/\(∃ sn:List Nat,s=sn.map Int.ofNat/\OkSh sn items.length)/\OkIs d fill items
def OkIs:Nat->Int->List RI->Prop
 | _,_,[]=>True
 | d,fill,t::ts=>OkI d fill t/\OkIs d fill ts
def OkI:Nat->Int->RI->Prop
 | d,fill,.mk k n _ box=>k=fill/\(k=0->okF n=true/\n < 18446744073709551616)/\(k=2->box.length=1/\OkPs (d - 1) box)
def OkPs:Nat->List RP->Prop
 | _,[]=>True
 | d,t::ts=>OkP d t/\OkPs d ts
end
theorem okIs_at {d:Nat}{fill:Int}:∀ {ts:List RI}{i:Nat} (hi:i < ts.length),OkIs d fill ts->OkI d fill ts[i]
 | [],_,hi,_=>by simp at hi
 | t::ts,0,_,h=>by rw [OkIs] at h;exact h.1
 | t::ts,i+1,hi,h=>by rw [OkIs] at h;simpa using okIs_at (ts:=ts) (i:=i) (by simpa using hi) h.2
theorem okIs_of {d:Nat}{fill:Int}:∀ (ts:List RI),(∀ i (hi:i < ts.length),OkI d fill ts[i])->OkIs d fill ts
 | [],_=>by rw [OkIs];trivial
 | t::ts,h=>by
  rw [OkIs]
  exact ⟨by have:=h 0 (by simp);simpa using this,okIs_of ts fun i hi=>by have:=h (i+1) (by simpa using hi);simpa using this⟩
mutual
def FitP:RP->Prop
 | .mk _ items _=>FitIs items
def FitIs:List RI->Prop
 | []=>True
 | t::ts=>FitI t/\FitIs ts
def FitI:RI->Prop
 | .mk _ n _ box=>n < 18446744073709551616/\FitPs box
def FitPs:List RP->Prop
 | []=>True
 | t::ts=>FitP t/\FitPs ts
end
theorem fitIs_at:∀ {ts:List RI}{i:Nat} (hi:i < ts.length),FitIs ts->FitI ts[i]
 | [],_,hi,_=>by simp at hi
 | t::ts,0,_,h=>by rw [FitIs] at h;exact h.1
 | t::ts,i+1,hi,h=>by rw [FitIs] at h;simpa using fitIs_at (ts:=ts) (i:=i) (by simpa using hi) h.2
theorem fitPs_at:∀ {ts:List RP}{i:Nat} (hi:i < ts.length),FitPs ts->FitP ts[i]
 | [],_,hi,_=>by simp at hi
 | t::ts,0,_,h=>by rw [FitPs] at h;exact h.1
 | t::ts,i+1,hi,h=>by rw [FitPs] at h;simpa using fitPs_at (ts:=ts) (i:=i) (by simpa using hi) h.2
def RI.numOf:RI->Nat | .mk _ n _ _=>n
def RI.charOf:RI->Int | .mk _ _ c _=>c
mutual
def clP:RP->PA
 | .mk s items fill=>if fill=0 then .nums (s.map Int.toNat) (items.map fun t=>tidF t.numOf) else if fill=1 then .chars (s.map Int.toNat) (items.map RI.charOf) else .boxes (s.map Int.toNat) (clIs items)
def clIs:List RI->List PA
 | []=>[]
 | t::ts=>clI t::clIs ts
def clI:RI->PA
 | .mk _ _ _ box=>clPs box
def clPs:List RP->PA
 | [] => .nums [] []
 | t::_=>clP t
end
theorem clIs_len:∀ ts:List RI,(clIs ts).length=ts.length
 | []=>by rw [clIs];rfl
 | t::ts=>by rw [clIs];simp [clIs_len ts]
theorem clIs_at:∀ {ts:List RI}{i:Nat} (hi:i < ts.length) (h2:i < (clIs ts).length),(clIs ts)[i]=clI ts[i]
 | [],_,hi,_=>by simp at hi
 | t::ts,0,_,_=>by simp [clIs]
 | t::ts,i+1,hi,h2=>by
  have:=clIs_at (ts:=ts) (i:=i) (by simpa using hi) (by rw [clIs_len];simpa using hi)
  simp only [clIs,List.getElem_cons_succ]
  exact this
mutual
def rawP:PA->RP
 | .nums s l => .mk (s.map Int.ofNat) (l.map fun x => .mk 0 x 0 []) 0
 | .chars s l => .mk (s.map Int.ofNat) (l.map fun c => .mk 1 0 c []) 1
 | .boxes s l => .mk (s.map Int.ofNat) (rawBs l) 2
def rawBs:List PA->List RI
 | []=>[]
 | a::ar => .mk 2 0 0 [rawP a]::rawBs ar
end
theorem rawBs_len:∀ l:List PA,(rawBs l).length=l.length
 | []=>by rw [rawBs];rfl
 | a::ar=>by rw [rawBs];simp [rawBs_len ar]
theorem rawBs_at:∀ {l:List PA}{i:Nat} (hi:i < l.length) (h2:i < (rawBs l).length),(rawBs l)[i]= .mk 2 0 0 [rawP l[i]]
 | [],_,hi,_=>by simp at hi
 | a::ar,0,_,_=>by simp [rawBs]
 | a::ar,i+1,hi,h2=>by
  have:=rawBs_at (l:=ar) (i:=i) (by simpa using hi) (by rw [rawBs_len];simpa using hi)
  simp only [rawBs,List.getElem_cons_succ]
  exact this
mutual
def GoodA:Nat->PA->Prop
 | d,.nums s l=>0 < d/\OkSh s l.length/\∀ x∈l,TF x
 | d,.chars s l=>0 < d/\OkSh s l.length
 | d,.boxes s l=>0 < d/\OkSh s l.length/\GoodAs (d - 1) l
def GoodAs:Nat->List PA->Prop
 | _,[]=>True
 | d,a::ar=>GoodA d a/\GoodAs d ar
end
theorem goodAs_at {d:Nat}:∀ {l:List PA}{i:Nat} (hi:i < l.length),GoodAs d l->GoodA d l[i]
 | [],_,hi,_=>by simp at hi
 | a::ar,0,_,h=>by rw [GoodAs] at h;exact h.1
 | a::ar,i+1,hi,h=>by rw [GoodAs] at h;simpa using goodAs_at (l:=ar) (i:=i) (by simpa using hi) h.2
theorem GoodA.sh {d:Nat}{a:PA} (h:GoodA d a):0 < d/\OkSh a.shape a.len:=by
 cases a <;> (rw [GoodA] at h;first | exact ⟨h.1,h.2.1⟩ | exact h)
theorem GoodA.nums {d:Nat}{s l:List Nat} (h:GoodA d (.nums s l)):∀ j,j < l.length->TF (l.getD j 0):=by
 rw [GoodA] at h
 intro j hj
 have e:l.getD j 0=l[j]:=by simp [List.getD,hj]
 rw [e]
 exact h.2.2 _ (List.getElem_mem hj)
theorem GoodA.boxes {d:Nat}{s:List Nat}{l:List PA} (h:GoodA d (.boxes s l)):∀ i (hi:i < l.length),GoodA (d - 1) l[i]:=by
 rw [GoodA] at h
 exact fun i hi=>goodAs_at hi h.2.2
mutual
theorem GoodA.up {d d':Nat} (hd:d<=d'):∀ (a:PA),GoodA d a->GoodA d' a
 | .nums s l,h=>by rw [GoodA] at h ⊢;exact ⟨by omega,h.2⟩
 | .chars s l,h=>by rw [GoodA] at h ⊢;exact ⟨by omega,h.2⟩
 | .boxes s l,h=>by rw [GoodA] at h ⊢;exact ⟨by omega,h.2.1,GoodAs.up (by omega) l h.2.2⟩
theorem GoodAs.up {d d':Nat} (hd:d<=d'):∀ (l:List PA),GoodAs d l->GoodAs d' l
 | [],_=>by rw [GoodAs];trivial
 | a::ar,h=>by rw [GoodAs] at h ⊢;exact ⟨GoodA.up hd a h.1,GoodAs.up hd ar h.2⟩
end
theorem toNat_of (sn:List Nat):(sn.map Int.ofNat).map Int.toNat=sn:=by
 rw [List.map_map]
 have:(Int.toNat∘Int.ofNat)=id:=by funext x;rfl
 rw [this,List.map_id]
theorem okF_tf {n:Nat} (h:okF n=true) (hb:n < 18446744073709551616):TF (tidF n):=by
 unfold okF at h
 rcases doneP_cases hb with ⟨c,hc,e4⟩ | e4
 ·unfold tidF;rw [e4];exact hc
 ·rw [e4] at h;exact absurd h (by decide)
mutual
theorem okP_good:∀ (d:Nat) (t:RP),OkP d t->GoodA d (clP t)
 | d,.mk s items fill,h=>by
  rw [OkP] at h
  obtain ⟨hd,hf,⟨sn,rfl,hs⟩,hi⟩:=h
  rw [clP,toNat_of]
  rcases hf with rfl | rfl | rfl
  ·rw [if_pos rfl,GoodA]
   refine ⟨hd,by rw [List.length_map];exact hs,fun x hx=>?_⟩
   obtain ⟨t,ht,rfl⟩:=List.mem_map.1 hx
   obtain ⟨i,hi2,rfl⟩:=List.getElem_of_mem ht
   have hk:=okIs_at hi2 hi
   generalize items[i]=t at hk ⊢
   cases t with
   | mk k n c box =>
    rw [OkI] at hk
    obtain ⟨rfl,h1,_⟩:=hk
    exact okF_tf (h1 rfl).1 (h1 rfl).2
  ·rw [if_neg (by decide),if_pos rfl,GoodA]
   exact ⟨hd,by rw [List.length_map];exact hs⟩
  ·rw [if_neg (by decide),if_neg (by decide),GoodA]
   exact ⟨hd,by rw [clIs_len];exact hs,okIs_good d items hi⟩
theorem okIs_good:∀ (d:Nat) (ts:List RI),OkIs d 2 ts->GoodAs (d - 1) (clIs ts)
 | _,[],_=>by rw [clIs,GoodAs];trivial
 | d,t::ts,h=>by
  rw [OkIs] at h
  rw [clIs,GoodAs]
  exact ⟨okI_good d t h.1,okIs_good d ts h.2⟩
theorem okI_good:∀ (d:Nat) (t:RI),OkI d 2 t->GoodA (d - 1) (clI t)
 | d,.mk k n c box,h=>by
  rw [OkI] at h
  obtain ⟨rfl,_,h2⟩:=h
  rw [clI]
  exact okPs_good (d - 1) box (h2 rfl).1 (h2 rfl).2
theorem okPs_good:∀ (d:Nat) (ts:List RP),ts.length=1->OkPs d ts->GoodA d (clPs ts)
 | _,[],h,_=>by simp at h
 | d,t::ts,_,h=>by
  rw [OkPs] at h
  rw [clPs]
  exact okP_good d t h.1
end
def prodE (s:List Nat) (most:Int):Int×Int :=
 if 8 < s.length then (0,26) else if 1048576 < prod1 s then (0,26) else if most < (prodN s:Int) then (0,26) else ((prodN s:Int),0)
theorem prod1_snoc (s:List Nat) (d:Nat):prod1 (s++[d])=prod1 s*max 1 d:=by
 induction s with
 | nil=>simp [prod1]
 | cons x s ih=>simp only [List.cons_append,prod1,ih,Nat.mul_assoc]
theorem prod1_take (s:List Nat) (k:Nat) (h:k < s.length):prod1 (s.take (k+1))=prod1 (s.take k)*max 1 s[k]:=by
 rw [List.take_succ_eq_append_getElem h,prod1_snoc]
theorem prod1_append (s t:List Nat):prod1 (s++t)=prod1 s*prod1 t:=by
 induction s with
 | nil=>simp [prod1]
 | cons x s ih=>simp only [List.cons_append,prod1,ih,Nat.mul_assoc]
theorem prod1_take_le (s:List Nat) (k:Nat):prod1 (s.take k)<=prod1 s:=by
 have h:=prod1_append (s.take k) (s.drop k)
 rw [List.take_append_drop] at h
 rw [h]
 exact Nat.le_mul_of_pos_right _ (prod1_pos _)
theorem prod1_elem {s:List Nat}{k:Nat} (h:k < s.length):s[k]<=prod1 s:=by
 have h1:=prod1_take s k h
 have h2:=prod1_take_le s (k+1)
 have h3:=prod1_pos (s.take k)
 have h4:s[k]<=prod1 (s.take k)*max 1 s[k]:=Nat.le_trans (Nat.le_max_right 1 _) (Nat.le_mul_of_pos_left _ h3)
 omega
theorem prodE_cases (s:List Nat) (most:Int):(prodE s most=(0,26)/\(8 < s.length\/1048576 < prod1 s\/most < (prodN s:Int))) \/
  (prodE s most=((prodN s:Int),0)/\OkSh s (prodN s)/\(prodN s:Int)<=most):=by
 unfold prodE
 split
 ·rename_i h;exact .inl ⟨rfl,.inl h⟩
 ·split
  ·rename_i h;exact .inl ⟨rfl,.inr (.inl h)⟩
  ·split
   ·rename_i h;exact .inl ⟨rfl,.inr (.inr h)⟩
   ·rename_i h1 h2 h3;exact .inr ⟨rfl,⟨by omega,by omega,rfl⟩,by omega⟩
theorem prodE_ok {s:List Nat}{n:Nat} (h:OkSh s n){most:Int} (hm:(n:Int)<=most):prodE s most=((n:Int),0):=by
 obtain ⟨h1,h2,rfl⟩:=h
 unfold prodE
 rw [if_neg (by omega),if_neg (by omega),if_neg (by omega)]
theorem natL_of {s:List Int} (h:¬ ∃ d∈s,d < 0):s=(s.map Int.toNat).map Int.ofNat:=by
 rw [List.map_map]
 symm
 rw [List.map_congr_left (g:=id),List.map_id]
 intro d hd
 have:0<=d:=by
  by_cases h0:d < 0
  ·exact absurd ⟨d,hd,h0⟩ h
  ·omega
 exact Int.toNat_of_nonneg this
theorem nat_open {w:World}{v:Value}{s:List Nat} (h:Reads1 w v (s.map fun n:Nat => .int .i64 (n:Int))):∃ A n c,v= .slice A n c/\n=s.length /\
  ∀ i (hi:i < s.length),∃ b o,A=some ⟨b,o,none⟩/\w.cell? ⟨b,o+i,none⟩=some (.int .i64 (s[i]:Nat)):=by
 rcases h with ⟨a,c,rfl,h0⟩ | ⟨b,o,n,c,rfl,hn,hc⟩
 ·have:s=[]:=by simpa using h0
  subst this
  exact ⟨a,0,c,rfl,rfl,fun i hi=>by simp at hi⟩
 ·rw [List.length_map] at hn
  refine ⟨_,n,c,rfl,hn,fun i hi=>⟨b,o,rfl,?_⟩⟩
  have:=hc i (by simpa using hi)
  rw [this]
  simp
theorem take_mem {s:List Nat}{k:Nat} (h:k < s.length):(0∈s.take (k+1))↔(0∈s.take k\/s[k]=0):=by
 rw [List.take_succ_eq_append_getElem h,List.mem_append,List.mem_singleton]
 constructor
 ·rintro (h | h)
  ·exact .inl h
  ·exact .inr h.symm
 ·rintro (h | h)
  ·exact .inl h
  ·exact .inr h.symm
theorem prodE_8 {s:List Nat}{most:Int} (h:8 < s.length):prodE s most=(0,26):=if_pos h
theorem prodE_big {s:List Nat}{most:Int} (h:1048576 < prod1 s):prodE s most=(0,26):=by
 unfold prodE
 rw [if_pos h]
 split <;> rfl
theorem prodE_most {s:List Nat}{most:Int} (h:most < (prodN s:Int)):prodE s most=(0,26):=by
 unfold prodE
 rw [if_pos h]
 split
 ·rfl
 ·split <;> rfl
theorem prodE_all {s:List Nat}{most:Int} (h8:¬ 8 < s.length) (h1:prod1 s<=1048576) (hm:¬ most < (prodN s:Int)):prodE s most=((prodN s:Int),0):=by
 unfold prodE
 rw [if_neg h8,if_neg (by omega),if_neg hm]
theorem prod1_lt {s:List Nat}{k:Nat} (h:k < s.length) (hb:1048576 < prod1 (s.take k)*max 1 s[k]):1048576 < prod1 s:=by
 have h1:=prod1_take_le s (k+1)
 rw [prod1_take s k h] at h1
 omega
theorem rprod_nat (v:Value) (s:List Nat) (most:Int) (w:World) (hv:Reads1 w v (s.map fun n:Nat => .int .i64 (n:Int))) (hl:s.length<=1048576) :
  Calls Tryz.prog 130 #[v,.int .i64 most] w fun e w'=>e= .returned (.tuple #[.int .i64 (prodE s most).1,.int .i64 (prodE s most).2])/\w=w':=by
 obtain ⟨A,n,c,rfl,hn,hcell⟩:=nat_open hv
 obtain ⟨R,hR⟩:∃ R,R=prodE s most:=⟨_,rfl⟩
 rw [<- hR]
 have HR:=Lib.hid hR
 have HN:=Lib.hid hn
 have HC:=Lib.hid hcell
 have hnb:n<=1048576:=by omega
 clear hv hl hn hcell hR
 by_cases h8:8 < n
 ·have HE:Hid (R=(0,26)):=by unfold Hid;rw [HR.out];exact prodE_8 (by have:=HN.out;omega)
  have h8':(8:Int) < (n:Int):=by omega
  clear h8
  go_enter Tryz.func130,Tryz.ntmps130
  go_wp2
  go_ret2
  exact ⟨by rw [HE.out];rfl,rfl⟩
 ·have h8':¬ (8:Int) < (n:Int):=by omega
  have HPZ:Hid (∀ k (hk:k < s.length),prod1 (s.take (k+1))=prod1 (s.take k)*max 1 s[k]):=fun k hk=>prod1_take s k hk
  have HTM:Hid (∀ k (hk:k < s.length),(0∈s.take (k+1))↔(0∈s.take k\/s[k]=0)):=fun k hk=>take_mem hk
  have HEL:Hid (∀ k (hk:k < s.length),s[k]<=prod1 s):=fun k hk=>prod1_elem hk
  have HLT:Hid (∀ k (hk:k < s.length),1048576 < prod1 (s.take k)*max 1 s[k]->1048576 < prod1 s):=fun k hk h=>prod1_lt hk h
  have HTK:Hid (s.take n=s):=by unfold Hid;rw [HN.out];exact List.take_length
  go_enter Tryz.func130,Tryz.ntmps130
  go_wp2
  go_loopw [7,8] (fun z i wr=>∃ (k:Nat) (t:Bool),k<=n/\i= .int .i64 (k:Int)/\z= .bool t/\Hid (t=decide (0∈s.take k))/\w=wr) (fun _ i _=>n - (intOf i).toNat)
  case atStart=>exact ⟨0,false,Nat.zero_le _,rfl,rfl,by simp [Hid],rfl⟩
  case round =>
   obtain ⟨k,t,hk,rfl,rfl,ht,rfl⟩:=hrel
   by_cases hlt:k < n
   ·have hks:k < s.length:=by have:=HN.out;omega
    obtain ⟨b,o,rfl,hce⟩:=HC.out k hks
    have HT:=Lib.hid (HTM.out k hks)
    generalize s[k]=d at hce HT
    have hd0:¬ (d:Int) < 0:=by omega
    have hlt2:(k:Int) < (n:Int):=by omega
    cases t with
    | true =>
     have HT2:Hid (true=decide (0∈s.take (k+1))):=by unfold Hid;symm;exact decide_eq_true (HT.out.2 (.inl (of_decide_eq_true ht.out.symm)))
     clear ht HT
     go_wp2
     go_roundw
     case rel=>exact ⟨k+1,true,by omega,by go_num,rfl,HT2.out,by trivial⟩
     case measure=>simp [intOf];omega
    | false =>
     by_cases hz:d=0
     ·have HT2:Hid (true=decide (0∈s.take (k+1))):=by unfold Hid;symm;exact decide_eq_true (HT.out.2 (.inr hz))
      subst hz
      clear ht HT
      go_wp2
      go_roundw
      case rel=>exact ⟨k+1,true,by omega,by go_num,rfl,HT2.out,by trivial⟩
      case measure=>simp [intOf];omega
     ·have HT2:Hid (false=decide (0∈s.take (k+1))):=by
       unfold Hid;symm
       refine decide_eq_false fun h=>?_
       rcases HT.out.1 h with h | h
       ·exact of_decide_eq_false ht.out.symm h
       ·exact hz h
      have hz2:((d:Int)==0)=false:=by simp;omega
      clear ht HT hz
      go_wp2
      go_roundw
      case rel=>exact ⟨k+1,false,by omega,by go_num,rfl,HT2.out,by trivial⟩
      case measure=>simp [intOf];omega
   ·have hge:¬ (k:Int) < (n:Int):=by omega
    have HZ:Hid (t=decide (0∈s)):=by unfold Hid;rw [ht.out,show k=n by omega,HTK.out]
    clear ht HTM hlt
    go_wp2
    go_loopw [6,9] (fun p i wr=>∃ (k q:Nat),k<=n/\i= .int .i64 (k:Int)/\p= .int .i64 (q:Int)/\q<=1048576/\1<=q/\Hid (q=prod1 (s.take k))/\w=wr) (fun _ i _=>n - (intOf i).toNat)
    case atStart=>exact ⟨0,1,Nat.zero_le _,rfl,rfl,by omega,by omega,rfl,rfl⟩
    case round =>
     obtain ⟨k,q,hk,rfl,rfl,hq,hq1,hp,rfl⟩:=hrel
     by_cases hlt:k < n
     ·have hks:k < s.length:=by have:=HN.out;omega
      obtain ⟨b,o,rfl,hce⟩:=HC.out k hks
      have HP:=Lib.hid (HPZ.out k hks)
      have HE:=Lib.hid (HEL.out k hks)
      have HL:=Lib.hid (HLT.out k hks)
      rw [<- hp.out] at HP HL
      generalize s[k]=d at hce HP HE HL
      have hlt2:(k:Int) < (n:Int):=by omega
      by_cases hbig:1048576 < d
      ·have HX:Hid (R=(0,26)):=by unfold Hid;rw [HR.out];exact prodE_big (by have:=HE.out;omega)
       have hbig2:(1048576:Int) < (d:Int):=by omega
       clear hp HP HE HL hbig
       go_wp2
       go_ret2
       exact ⟨by rw [HX.out];rfl,rfl⟩
      ·have hbig2:¬ (1048576:Int) < (d:Int):=by omega
       by_cases hz:d=0
       ·have HQ:Hid (q=prod1 (s.take (k+1))):=by unfold Hid;rw [HP.out,hz];simp
        subst hz
        have hq2:¬ (1048576:Int) < (q:Int):=by omega
        clear hp HP HE HL hbig
        go_wp2
        go_roundw
        case rel=>exact ⟨k+1,q,by omega,by go_num,rfl,hq,hq1,HQ.out,by trivial⟩
        case measure=>simp [intOf];omega
       ·have hz2:0 < (d:Int):=by omega
        obtain ⟨m,hm⟩:∃ m,m=q*d:=⟨_,rfl⟩
        have hm2:(q:Int)*(d:Int)=(m:Int):=by rw [hm];push_cast;rfl
        have hmb:m<=1099511627776:=by rw [hm];exact Nat.le_trans (Nat.mul_le_mul hq (show d<=1048576 by omega)) (by decide)
        have hm1:1<=m:=by rw [hm];exact Nat.mul_pos hq1 (by omega)
        have HQ:Hid (m=prod1 (s.take (k+1))):=by unfold Hid;rw [HP.out,hm,Nat.max_eq_right (by omega)]
        by_cases hmm:1048576 < m
        ·have HX:Hid (R=(0,26)):=by
          unfold Hid;rw [HR.out]
          refine prodE_big (HL.out ?_)
          rw [Nat.max_eq_right (by omega),<- hm];exact hmm
         have hmm2:(1048576:Int) < (m:Int):=by omega
         clear hp HP HE HL hbig hm hz hmm HQ
         go_wp2
         go_ret2
         exact ⟨by rw [HX.out];rfl,rfl⟩
        ·have hmm2:¬ (1048576:Int) < (m:Int):=by omega
         clear hp HP HE HL hbig hm hz
         go_wp2
         go_roundw
         case rel=>exact ⟨k+1,m,by omega,by go_num,rfl,by omega,hm1,HQ.out,by trivial⟩
         case measure=>simp [intOf];omega
     ·have hge:¬ (k:Int) < (n:Int):=by omega
      have HQ:Hid (q=prod1 s):=by unfold Hid;rw [hp.out,show k=n by omega,HTK.out]
      clear hp hlt
      cases t with
      | true =>
       have HP0:Hid (prodN s=0):=by unfold Hid;exact prodN_zero (of_decide_eq_true HZ.out.symm)
       by_cases hmo:most < 0
       ·have HX:Hid (R=(0,26)):=by unfold Hid;rw [HR.out];exact prodE_most (by rw [HP0.out];exact hmo)
        clear HPZ HEL HLT HC
        go_wp2
        go_ret2
        exact ⟨by rw [HX.out];rfl,rfl⟩
       ·have HX:Hid (R=(0,0)):=by
         unfold Hid;rw [HR.out,prodE_all (by have:=HN.out;omega) (by rw [<- HQ.out];exact hq) (by rw [HP0.out];exact hmo),HP0.out];rfl
        clear HPZ HEL HLT HC
        go_wp2
        go_ret2
        exact ⟨by rw [HX.out];rfl,rfl⟩
      | false =>
       have HP0:Hid (prodN s=q):=by unfold Hid;rw [HQ.out];exact prodN_eq (of_decide_eq_false HZ.out.symm)
       by_cases hmo:most < (q:Int)
       ·have HX:Hid (R=(0,26)):=by unfold Hid;rw [HR.out];exact prodE_most (by rw [HP0.out];exact hmo)
        clear HPZ HEL HLT HC
        go_wp2
        go_ret2
        exact ⟨by rw [HX.out];rfl,rfl⟩
       ·have HX:Hid (R=((q:Int),0)):=by
         unfold Hid;rw [HR.out,prodE_all (by have:=HN.out;omega) (by rw [<- HQ.out];exact hq) (by rw [HP0.out];exact hmo),HP0.out]
        clear HPZ HEL HLT HC
        go_wp2
        go_ret2
        exact ⟨by rw [HX.out];rfl,rfl⟩
theorem index_zero (v:Value) (s:List Nat) (w:World) (hv:Reads1 w v (s.map fun n:Nat => .int .i64 (n:Int))) (hl:s.length<=1048576) :
  Calls Tryz.prog 241 #[v,.int .i64 0] w fun e w'=>∃ z:Int,e= .returned (.int .i64 z)/\decide (0<=z)=decide (0∈s)/\w=w':=by
 obtain ⟨A,n,c,rfl,hn,hcell⟩:=nat_open hv
 have HN:=Lib.hid hn
 have HC:=Lib.hid hcell
 have hnb:n<=1048576:=by omega
 have HTM:Hid (∀ k (hk:k < s.length),(0∈s.take (k+1))↔(0∈s.take k\/s[k]=0)):=fun k hk=>take_mem hk
 have HMM:Hid (∀ k (hk:k < s.length),s[k]∈s):=fun k hk=>List.getElem_mem hk
 have HTK:Hid (s.take n=s):=by unfold Hid;rw [hn];exact List.take_length
 clear hv hl hn hcell
 go_enter Tryz.func241,Tryz.ntmps241
 go_wp2
 go_loopw [5,8] (fun _ i wr=>∃ k:Nat,k<=n/\i= .int .i64 (k:Int)/\Hid (¬ 0∈s.take k)/\w=wr) (fun _ i _=>n - (intOf i).toNat)
 case atStart=>exact ⟨0,Nat.zero_le _,rfl,by simp [Hid],rfl⟩
 case round =>
  obtain ⟨k,hk,rfl,hno,rfl⟩:=hrel
  by_cases hlt:k < n
  ·have hks:k < s.length:=by have:=HN.out;omega
   obtain ⟨b,o,rfl,hce⟩:=HC.out k hks
   have HT:=Lib.hid (HTM.out k hks)
   have HM:=Lib.hid (HMM.out k hks)
   generalize s[k]=d at hce HT HM
   have hlt2:(k:Int) < (n:Int):=by omega
   by_cases hz:d=0
   ·have HY:Hid (decide (0<=(k:Int))=decide (0∈s)):=by
     unfold Hid
     have h1:=HM.out
     rw [hz] at h1
     rw [decide_eq_true h1]
     exact decide_eq_true (by omega)
    subst hz
    clear hno HT HM
    go_wp2
    go_ret
    exact ⟨_,rfl,HY.out,rfl⟩
   ·have HT2:Hid (¬ 0∈s.take (k+1)):=fun h=>by
     rcases HT.out.1 h with h | h
     ·exact hno.out h
     ·exact hz h
    have hz2:((0:Int)==(d:Int))=false:=by simp;omega
    clear hno HT HM hz
    go_wp2
    go_roundw
    case rel=>exact ⟨k+1,by omega,by go_num,HT2.out,by trivial⟩
    case measure=>simp [intOf];omega
  ·have hge:¬ (k:Int) < (n:Int):=by omega
   have HZ:Hid (decide ((0:Int)<=-1)=decide (0∈s)):=by
    unfold Hid
    have h1:=hno.out
    rw [show k=n by omega,HTK.out] at h1
    rw [decide_eq_false h1]
    rfl
   clear hno hlt
   go_wp2
   go_ret
   exact ⟨_,rfl,decide_eq_decide.1 HZ.out,rfl⟩
theorem contains_zero (v:Value) (s:List Nat) (w:World) (hv:Reads1 w v (s.map fun n:Nat => .int .i64 (n:Int))) (hl:s.length<=1048576) :
  Calls Tryz.prog 203 #[v,.int .i64 0] w fun e w'=>e= .returned (.bool (decide (0∈s)))/\w=w':=by
 have HI:=Lib.hid (index_zero v s w hv hl)
 clear hv hl
 go_enter Tryz.func203,Tryz.ntmps203
 go_wp2_with fail
 refine HI.out.mono ?_
 rintro e w1 ⟨z,rfl,hz,rfl⟩
 have HZ:=Lib.hid hz
 clear hz
 go_wp2
 go_ret
 exact ⟨by rw [<- HZ.out];rfl,rfl⟩
theorem within_yes (n:Nat) (most:Int) (hn:n<=1048576) (hm:¬ most < (n:Int)) (w:World):Calls Tryz.prog 204 #[.int .i64 (n:Int),.int .i64 most] w fun e w'=>e= .returned (.tuple #[.int .i64 (n:Int),.int .i64 0])/\w=w':=by
 have h1:¬ (1048576:Int) < (n:Int):=by omega
 go_enter Tryz.func204,Tryz.ntmps204
 go_wp2
 go_ret2
 exact ⟨rfl,rfl⟩
theorem within_no (n:Nat) (most:Int) (hm:most < (n:Int)) (w:World):Calls Tryz.prog 204 #[.int .i64 (n:Int),.int .i64 most] w fun e w'=>e= .returned (.tuple #[.int .i64 0,.int .i64 26])/\w=w':=by
 go_enter Tryz.func204,Tryz.ntmps204
 go_wp2
 go_ret2
 exact ⟨rfl,rfl⟩
theorem quo_lt {q d:Nat} (hq:1<=q):1048576 / q < d↔1048576 < q*d:=by
 rw [Nat.div_lt_iff_lt_mul (by omega),Nat.mul_comm]
theorem tdiv_nat (a q:Nat):((a:Nat):Int).tdiv (q:Int)=((a / q:Nat):Int):=by
 rw [Int.tdiv_eq_ediv_of_nonneg (by omega)]
 exact (Int.natCast_ediv a q).symm
theorem ediv_nat (a q:Nat):((a:Nat):Int) / (q:Int)=((a / q:Nat):Int):=(Int.natCast_ediv a q).symm
theorem product_any (v:Value) (s:List Nat) (most:Int) (w:World) (hv:Reads1 w v (s.map fun n:Nat => .int .i64 (n:Int))) (hl:s.length<=1048576) :
  Calls Tryz.prog 150 #[v,.int .i64 most] w fun e w'=>e= .returned (.tuple #[.int .i64 (prodE s most).1,.int .i64 (prodE s most).2])/\w=w':=by
 have HCT:=Lib.hid (contains_zero v s w hv hl)
 obtain ⟨A,n,c,rfl,hn,hcell⟩:=nat_open hv
 obtain ⟨R,hR⟩:∃ R,R=prodE s most:=⟨_,rfl⟩
 rw [<- hR]
 have HR:=Lib.hid hR
 have HN:=Lib.hid hn
 have HC:=Lib.hid hcell
 have hnb:n<=1048576:=by omega
 clear hv hl hn hcell hR
 by_cases h8:8 < n
 ·have HE:Hid (R=(0,26)):=by unfold Hid;rw [HR.out];exact prodE_8 (by have:=HN.out;omega)
  have h8':(8:Int) < (n:Int):=by omega
  clear h8
  go_enter Tryz.func150,Tryz.ntmps150
  go_wp2
  go_ret2
  exact ⟨by rw [HE.out];rfl,rfl⟩
 ·have h8':¬ (8:Int) < (n:Int):=by omega
  have HPZ:Hid (∀ k (hk:k < s.length),prod1 (s.take (k+1))=prod1 (s.take k)*max 1 s[k]):=fun k hk=>prod1_take s k hk
  have HEL:Hid (∀ k (hk:k < s.length),s[k]<=prod1 s):=fun k hk=>prod1_elem hk
  have HLT:Hid (∀ k (hk:k < s.length),1048576 < prod1 (s.take k)*max 1 s[k]->1048576 < prod1 s):=fun k hk h=>prod1_lt hk h
  have HTK:Hid (s.take n=s):=by unfold Hid;rw [HN.out];exact List.take_length
  go_enter Tryz.func150,Tryz.ntmps150
  go_wp2
  go_loopw [7,16] (fun _ i wr=>∃ (k:Nat),k<=n/\i= .int .i64 (k:Int)/\w=wr) (fun _ i _=>n - (intOf i).toNat)
  case atStart=>exact ⟨0,Nat.zero_le _,rfl,rfl⟩
  case round =>
   obtain ⟨k,hk,rfl,rfl⟩:=hrel
   by_cases hlt:k < n
   ·have hks:k < s.length:=by have:=HN.out;omega
    obtain ⟨b,o,rfl,hce⟩:=HC.out k hks
    generalize s[k]=d at hce
    have hd0:¬ (d:Int) < 0:=by omega
    have hlt2:(k:Int) < (n:Int):=by omega
    go_wp2
    go_roundw
    case rel=>exact ⟨k+1,by omega,by go_num,by trivial⟩
    case measure=>simp [intOf];omega
   ·have hge:¬ (k:Int) < (n:Int):=by omega
    clear hlt
    go_wp2
    go_loopw [8,10,25] (fun p _ i wr=>∃ (k q:Nat),k<=n/\i= .int .i64 (k:Int)/\p= .int .i64 (q:Int)/\q<=1048576/\1<=q/\Hid (q=prod1 (s.take k))/\w=wr) (fun _ _ i _=>n - (intOf i).toNat)
    case atStart=>exact ⟨0,1,Nat.zero_le _,rfl,rfl,by omega,by omega,rfl,rfl⟩
    case round =>
     obtain ⟨k,q,hk,rfl,rfl,hq,hq1,hp,rfl⟩:=hrel
     by_cases hlt:k < n
     ·have hks:k < s.length:=by have:=HN.out;omega
      obtain ⟨b,o,rfl,hce⟩:=HC.out k hks
      have HP:=Lib.hid (HPZ.out k hks)
      have HL:=Lib.hid (HLT.out k hks)
      rw [<- hp.out] at HP HL
      generalize s[k]=d at hce HP HL
      have hlt2:(k:Int) < (n:Int):=by omega
      obtain ⟨r,hr⟩:∃ r,r=1048576 / q:=⟨_,rfl⟩
      have hr2:(1048576:Int).tdiv (q:Int)=(r:Int):=by rw [hr];exact tdiv_nat 1048576 q
      have hr3:(1048576:Int) / (q:Int)=(r:Int):=by rw [hr];exact ediv_nat 1048576 q
      have hrb:r<=1048576:=by rw [hr];exact Nat.div_le_self _ _
      have hr1:IntKind.i64.wrap ((1048576:Int).tdiv (q:Int))=(r:Int):=by rw [hr2];exact IntWalk.i64_in _ (by omega)
      have hq0:¬ (q:Int)=0:=by omega
      have hq0':¬ q=0:=by omega
      have hiff:r < d↔1048576 < q*d:=by rw [hr];exact quo_lt hq1
      by_cases hbig:r < d
      ·have HX:Hid (R=(0,26)):=by
        unfold Hid;rw [HR.out]
        refine prodE_big (HL.out ?_)
        have h1:=hiff.1 hbig
        have h2:q*d<=q*max 1 d:=Nat.mul_le_mul_left _ (by omega)
        omega
       have hbig2:(r:Int) < (d:Int):=by omega
       clear hp HP HL hbig hr hiff
       go_wp2
       go_ret2
       exact ⟨by rw [HX.out];rfl,rfl⟩
      ·have hbig2:¬ (r:Int) < (d:Int):=by omega
       obtain ⟨m,hm⟩:∃ m,m=q*max 1 d:=⟨_,rfl⟩
       have hmx:max (1:Int) (d:Int)=((max 1 d:Nat):Int):=by omega
       obtain ⟨x,hx⟩:∃ x,x=max 1 d:=⟨_,rfl⟩
       rw [<- hx] at hmx hm
       have hm2:(q:Int)*(x:Int)=(m:Int):=by rw [hm];push_cast;rfl
       have hmb:m<=1048576:=by
        have h1:¬ 1048576 < q*d:=fun h=>hbig (hiff.2 h)
        rw [hm,hx]
        by_cases hd:d=0
        ·rw [hd];simp;exact hq
        ·rw [Nat.max_eq_right (by omega)];omega
       have hm1:1<=m:=by rw [hm];exact Nat.mul_pos hq1 (by omega)
       have HQ:Hid (m=prod1 (s.take (k+1))):=by unfold Hid;rw [HP.out,hm,hx]
       have hxb:x<=m:=by rw [hm];exact Nat.le_mul_of_pos_left _ hq1
       clear hp HP HL hbig hm hx hr hiff
       go_wp2
       go_roundw
       case rel=>exact ⟨k+1,m,by omega,by go_num,rfl,hmb,hm1,HQ.out,by trivial⟩
       case measure=>simp [intOf];omega
     ·have hge:¬ (k:Int) < (n:Int):=by omega
      have HQ:Hid (q=prod1 s):=by unfold Hid;rw [hp.out,show k=n by omega,HTK.out]
      clear hp hlt HPZ HEL HLT HC
      by_cases hz:0∈s
      ·have HCT2:Hid (Calls Tryz.prog 203 #[.slice A n c,.int .i64 0] w fun e w'=>e= .returned (.bool true)/\w=w'):=by
        have h:=HCT.out
        rw [decide_eq_true hz] at h
        exact h
       have HP0:Hid (prodN s=0):=by unfold Hid;exact prodN_zero hz
       clear hz
       by_cases hmo:most < ((0:Nat):Int)
       ·have HX:Hid (R=(0,26)):=by unfold Hid;rw [HR.out];exact prodE_most (by rw [HP0.out];exact hmo)
        have HW:=Lib.hid (fun W=>within_no 0 most hmo W)
        go_wp2_with fail
        refine HCT2.out.mono ?_
        rintro e w1 ⟨rfl,rfl⟩
        go_wp2_with fail
        refine (HW.out _).mono ?_
        rintro e w1 ⟨rfl,rfl⟩
        go_wp2
        go_ret2
        exact ⟨by rw [HX.out];rfl,rfl⟩
       ·have HX:Hid (R=(0,0)):=by
         unfold Hid;rw [HR.out,prodE_all (by have:=HN.out;omega) (by rw [<- HQ.out];exact hq) (by rw [HP0.out];exact hmo),HP0.out];rfl
        have HW:=Lib.hid (fun W=>within_yes 0 most (by omega) hmo W)
        go_wp2_with fail
        refine HCT2.out.mono ?_
        rintro e w1 ⟨rfl,rfl⟩
        go_wp2_with fail
        refine (HW.out _).mono ?_
        rintro e w1 ⟨rfl,rfl⟩
        go_wp2
        go_ret2
        exact ⟨by rw [HX.out];rfl,rfl⟩
      ·have HCT2:Hid (Calls Tryz.prog 203 #[.slice A n c,.int .i64 0] w fun e w'=>e= .returned (.bool false)/\w=w'):=by
        have h:=HCT.out
        rw [decide_eq_false hz] at h
        exact h
       have HP0:Hid (prodN s=q):=by unfold Hid;rw [HQ.out];exact prodN_eq hz
       clear hz
       by_cases hmo:most < (q:Int)
       ·have HX:Hid (R=(0,26)):=by unfold Hid;rw [HR.out];exact prodE_most (by rw [HP0.out];exact hmo)
        have HW:=Lib.hid (fun W=>within_no q most hmo W)
        go_wp2_with fail
        refine HCT2.out.mono ?_
        rintro e w1 ⟨rfl,rfl⟩
        go_wp2_with fail
        refine (HW.out _).mono ?_
        rintro e w1 ⟨rfl,rfl⟩
        go_wp2
        go_ret2
        exact ⟨by rw [HX.out];rfl,rfl⟩
       ·have HX:Hid (R=((q:Int),0)):=by
         unfold Hid;rw [HR.out,prodE_all (by have:=HN.out;omega) (by rw [<- HQ.out];exact hq) (by rw [HP0.out];exact hmo),HP0.out]
        have HW:=Lib.hid (fun W=>within_yes q most hq hmo W)
        go_wp2_with fail
        refine HCT2.out.mono ?_
        rintro e w1 ⟨rfl,rfl⟩
        go_wp2_with fail
        refine (HW.out _).mono ?_
        rintro e w1 ⟨rfl,rfl⟩
        go_wp2
        go_ret2
        exact ⟨by rw [HX.out];rfl,rfl⟩
end Go.Proofs.YtbakjaliponbbaaGreatDoor
