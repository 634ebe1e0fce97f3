/- Plain arrays as the page keeps them, in memory, whatever they hold. Which plain arrays are good; the array that a good one is; the plain array of an array. .. Conditions: as each theorem says. -/
import Derived.Test.YtbakjaliponbbaaGreatDoorMg13
namespace Go.Proofs.YtbakjaliponbbaaGreatDoor
open Go Go.RowKit Go.Proofs Fl
mutual
inductive RP where
 | mk (s:List Int) (items:List RI) (fill:Int)
inductive RI where
 | mk (kind:Int) (num:Nat) (char:Int) (box:List RP)
end
instance:Inhabited RP:=⟨.mk [] [] 0⟩
instance:Inhabited RI:=⟨.mk 0 0 0 []⟩
def At4 (w:World) (b o:Nat) (k:Int) (n:Nat) (c:Int) (x:Sl):Prop :=
 w.cell? ⟨b,o,none⟩=some (.int .i64 k)/\w.cell? ⟨b,o+1,none⟩=some (.float .f64 n)/\w.cell? ⟨b,o+2,none⟩=some (.int .i32 c)/\w.cell? ⟨b,o+3,none⟩=some (sv x)
def At3 (w:World) (b o:Nat) (h x:Sl) (f:Int):Prop :=
 w.cell? ⟨b,o,none⟩=some (sv h)/\w.cell? ⟨b,o+1,none⟩=some (sv x)/\w.cell? ⟨b,o+2,none⟩=some (.int .i64 f)
theorem At4.of {w w':World}{b o:Nat}{k:Int}{n:Nat}{c:Int}{x:Sl} (g:At4 w b o k n c x) (e:∀ j,w'.cell? ⟨b,j,none⟩=w.cell? ⟨b,j,none⟩):At4 w' b o k n c x:=by
 unfold At4
 rw [e,e,e,e]
 exact g
theorem At4.lt {w:World}{b o:Nat}{k:Int}{n:Nat}{c:Int}{x:Sl} (g:At4 w b o k n c x):b < w.heap.size:=cell_lt g.1
theorem At4.lat {H:Nat->Prop}{w w':World}{b o:Nat}{k:Int}{n:Nat}{c:Int}{x:Sl} (g:At4 w b o k n c x) (hn:¬ H b) (l:Lat H w w'):At4 w' b o k n c x:=g.of fun _=>World.cell?_of_block (w:=w) (l.block b g.lt hn)
theorem At3.of {w w':World}{b o:Nat}{h x:Sl}{f:Int} (g:At3 w b o h x f) (e:∀ j,w'.cell? ⟨b,j,none⟩=w.cell? ⟨b,j,none⟩):At3 w' b o h x f:=by
 unfold At3
 rw [e,e,e]
 exact g
theorem At3.lt {w:World}{b o:Nat}{h x:Sl}{f:Int} (g:At3 w b o h x f):b < w.heap.size:=cell_lt g.1
theorem At3.lat {H:Nat->Prop}{w w':World}{b o:Nat}{h x:Sl}{f:Int} (g:At3 w b o h x f) (hn:¬ H b) (l:Lat H w w'):At3 w' b o h x f:=g.of fun _=>World.cell?_of_block (w:=w) (l.block b g.lt hn)
mutual
def PV (H:Nat->Prop) (w:World):RP->Sl->Sl->Int->Prop
 | .mk s items fill,h,x,f=>RdH H w (sv h) (s.map (Value.int .i64))/\f=fill/\x.2.1=items.length/\((items=[]/\True)\/∃ b o,x.1=some ⟨b,o,none⟩/\¬ H b/\IVs H w b o items)
def IVs (H:Nat->Prop) (w:World) (b:Nat):Nat->List RI->Prop
 | _,[]=>True
 | o,t::ts=>(∃ k n c x,At4 w b o k n c x/\IV H w t k n c x)/\IVs H w b (o+4) ts
def IV (H:Nat->Prop) (w:World):RI->Int->Nat->Int->Sl->Prop
 | .mk kind num char box,k,n,c,x=>k=kind/\n=num/\c=char/\x.2.1=box.length/\((box=[]/\True)\/∃ b o,x.1=some ⟨b,o,none⟩/\¬ H b/\PVs H w b o box)
def PVs (H:Nat->Prop) (w:World) (b:Nat):Nat->List RP->Prop
 | _,[]=>True
 | o,t::ts=>(∃ h x f,At3 w b o h x f/\PV H w t h x f)/\PVs H w b (o+3) ts
end
abbrev plV (h x:Sl) (f:Int):Value := .agg #[sv h,sv x,.int .i64 f]
abbrev itV (k:Int) (n:Nat) (c:Int) (x:Sl):Value := .agg #[.int .i64 k,.float .f64 n,.int .i32 c,sv x]
theorem cell_up {w w':World} (hb:Below w.heap.size w w'){p:Addr}{v:Value} (h:w.cell? p=some v):w'.cell? p=some v:=by rw [hb.cell (cell_lt h)];exact h
mutual
theorem PV.lat {H:Nat->Prop}{w w':World} (l:Lat H w w'):∀ {t:RP}{h x:Sl}{f:Int},PV H w t h x f->PV H w' t h x f
 | .mk s items fill,h,x,f,g=>by
  rw [PV] at g ⊢
  obtain ⟨g1,g2,g3,g4⟩:=g
  refine ⟨g1.lat l,g2,g3,?_⟩
  rcases g4 with g4 | ⟨b,o,g5,hn,g6⟩
  ·exact .inl g4
  ·exact .inr ⟨b,o,g5,hn,IVs.lat l hn g6⟩
theorem IVs.lat {H:Nat->Prop}{w w':World} (l:Lat H w w'){b:Nat} (hn:¬ H b):∀ {o:Nat}{ts:List RI},IVs H w b o ts->IVs H w' b o ts
 | _,[],_=>by rw [IVs];trivial
 | o,t::ts,g=>by
  rw [IVs] at g ⊢
  obtain ⟨⟨k,n,c,x,c0,g1⟩,g2⟩:=g
  exact ⟨⟨k,n,c,x,c0.lat hn l,IV.lat l g1⟩,IVs.lat l hn g2⟩
theorem IV.lat {H:Nat->Prop}{w w':World} (l:Lat H w w'):∀ {t:RI}{k:Int}{n:Nat}{c:Int}{x:Sl},IV H w t k n c x->IV H w' t k n c x
 | .mk kind num char box,k,n,c,x,g=>by
  rw [IV] at g ⊢
  obtain ⟨g1,g2,g3,g4,g5⟩:=g
  refine ⟨g1,g2,g3,g4,?_⟩
  rcases g5 with g5 | ⟨b,o,g5,hn,g6⟩
  ·exact .inl g5
  ·exact .inr ⟨b,o,g5,hn,PVs.lat l hn g6⟩
theorem PVs.lat {H:Nat->Prop}{w w':World} (l:Lat H w w'){b:Nat} (hn:¬ H b):∀ {o:Nat}{ts:List RP},PVs H w b o ts->PVs H w' b o ts
 | _,[],_=>by rw [PVs];trivial
 | o,t::ts,g=>by
  rw [PVs] at g ⊢
  obtain ⟨⟨h,x,f,c0,g1⟩,g2⟩:=g
  exact ⟨⟨h,x,f,c0.lat hn l,PV.lat l g1⟩,PVs.lat l hn g2⟩
end
theorem PV.step {H:Nat->Prop}{w w':World}{t:RP}{h x:Sl}{f:Int} (g:PV H w t h x f) (hb:Below w.heap.size w w'):PV H w' t h x f:=PV.lat (Lat.below hb) g
theorem IV.step {H:Nat->Prop}{w w':World}{t:RI}{k:Int}{n:Nat}{c:Int}{x:Sl} (g:IV H w t k n c x) (hb:Below w.heap.size w w'):IV H w' t k n c x:=IV.lat (Lat.below hb) g
mutual
theorem PV.sub {H H':Nat->Prop}{w:World} (hs:∀ b,b < w.heap.size->H' b->H b):∀ {t:RP}{h x:Sl}{f:Int},PV H w t h x f->PV H' w t h x f
 | .mk s items fill,h,x,f,g=>by
  rw [PV] at g ⊢
  obtain ⟨g1,g2,g3,g4⟩:=g
  refine ⟨g1.sub hs,g2,g3,?_⟩
  rcases g4 with g4 | ⟨b,o,g5,hn,g6⟩
  ·exact .inl g4
  ·cases items with
   | nil=>exact .inl ⟨rfl,trivial⟩
   | cons a ar =>
    have hl:b < w.heap.size:=by rw [IVs] at g6;obtain ⟨⟨_,_,_,_,h9,_⟩,_⟩:=g6;exact h9.lt
    exact .inr ⟨b,o,g5,fun e=>hn (hs b hl e),IVs.sub hs g6⟩
theorem IVs.sub {H H':Nat->Prop}{w:World} (hs:∀ b,b < w.heap.size->H' b->H b){b:Nat}:∀ {o:Nat}{ts:List RI},IVs H w b o ts->IVs H' w b o ts
 | _,[],_=>by rw [IVs];trivial
 | o,t::ts,g=>by
  rw [IVs] at g ⊢
  obtain ⟨⟨k,n,c,x,c0,g1⟩,g2⟩:=g
  exact ⟨⟨k,n,c,x,c0,IV.sub hs g1⟩,IVs.sub hs g2⟩
theorem IV.sub {H H':Nat->Prop}{w:World} (hs:∀ b,b < w.heap.size->H' b->H b):∀ {t:RI}{k:Int}{n:Nat}{c:Int}{x:Sl},IV H w t k n c x->IV H' w t k n c x
 | .mk kind num char box,k,n,c,x,g=>by
  rw [IV] at g ⊢
  obtain ⟨g1,g2,g3,g4,g5⟩:=g
  refine ⟨g1,g2,g3,g4,?_⟩
  rcases g5 with g5 | ⟨b,o,g5,hn,g6⟩
  ·exact .inl g5
  ·cases box with
   | nil=>exact .inl ⟨rfl,trivial⟩
   | cons a ar =>
    have hl:b < w.heap.size:=by rw [PVs] at g6;obtain ⟨⟨_,_,_,h9,_⟩,_⟩:=g6;exact h9.lt
    exact .inr ⟨b,o,g5,fun e=>hn (hs b hl e),PVs.sub hs g6⟩
theorem PVs.sub {H H':Nat->Prop}{w:World} (hs:∀ b,b < w.heap.size->H' b->H b){b:Nat}:∀ {o:Nat}{ts:List RP},PVs H w b o ts->PVs H' w b o ts
 | _,[],_=>by rw [PVs];trivial
 | o,t::ts,g=>by
  rw [PVs] at g ⊢
  obtain ⟨⟨h,x,f,c0,g1⟩,g2⟩:=g
  exact ⟨⟨h,x,f,c0,PV.sub hs g1⟩,PVs.sub hs g2⟩
end
theorem PV.arg {H:Nat->Prop}{w W:World}{t:RP}{h x:Sl}{f:Int} (g:PV H w t h x f) (hb:Below w.heap.size w W):PV (Hole H w W) W t h x f:=by
 have g2:PV (Hole H w W) w t h x f:=PV.sub (fun b hl e=>by
  rcases e with e | ⟨e,_⟩
  ·exact e
  ·omega) g
 exact PV.lat (Lat.below hb) g2
theorem IVs.at_ {H:Nat->Prop}{w:World}{b:Nat}:∀ {ts:List RI}{o i:Nat} (hi:i < ts.length),IVs H w b o ts->∃ k n c x,At4 w b (o+i*4) k n c x/\IV H w ts[i] k n c x
 | [],_,_,hi,_=>by simp at hi
 | t::ts,o,0,_,g=>by
  rw [IVs] at g
  simpa using g.1
 | t::ts,o,i+1,hi,g=>by
  rw [IVs] at g
  have:=IVs.at_ (ts:=ts) (o:=o+4) (i:=i) (by simpa using hi) g.2
  have e:o+4+i*4=o+(i+1)*4:=by omega
  rw [e] at this
  simpa using this
theorem ivs_of {H:Nat->Prop}{w:World}{b:Nat}:∀ (ts:List RI) (o:Nat),(∀ i (h:i < ts.length),∃ k n c x,At4 w b (o+i*4) k n c x/\IV H w ts[i] k n c x)->IVs H w b o ts
 | [],_,_=>by rw [IVs];trivial
 | t::ts,o,g=>by
  rw [IVs]
  refine ⟨?_,ivs_of ts (o+4) fun i hi=>?_⟩
  ·have:=g 0 (by simp);simpa using this
  ·have:=g (i+1) (by simpa using hi)
   have e:o+(i+1)*4=o+4+i*4:=by omega
   rw [e] at this
   simpa using this
theorem PVs.at_ {H:Nat->Prop}{w:World}{b:Nat}:∀ {ts:List RP}{o i:Nat} (hi:i < ts.length),PVs H w b o ts->∃ h x f,At3 w b (o+i*3) h x f/\PV H w ts[i] h x f
 | [],_,_,hi,_=>by simp at hi
 | t::ts,o,0,_,g=>by
  rw [PVs] at g
  simpa using g.1
 | t::ts,o,i+1,hi,g=>by
  rw [PVs] at g
  have:=PVs.at_ (ts:=ts) (o:=o+3) (i:=i) (by simpa using hi) g.2
  have e:o+3+i*3=o+(i+1)*3:=by omega
  rw [e] at this
  simpa using this
theorem PV.open_ {H:Nat->Prop}{w:World}{s:List Int}{items:List RI}{fill:Int}{h x:Sl}{f:Int} (g:PV H w (.mk s items fill) h x f) :
  RdH H w (sv h) (s.map (Value.int .i64))/\f=fill/\x.2.1=items.length/\∀ i (hi:i < items.length),∃ b o k n c y,x.1=some ⟨b,o,none⟩/\¬ H b/\IV H w items[i] k n c y/\∀ w1,Lat H w w1->At4 w1 b (o+i*4) k n c y:=by
 rw [PV] at g
 obtain ⟨g1,g2,g3,g4⟩:=g
 refine ⟨g1,g2,g3,fun i hi=>?_⟩
 rcases g4 with ⟨rfl,_⟩ | ⟨b,o,g5,hn,g6⟩
 ·simp at hi
 ·obtain ⟨k,n,c,y,c0,g7⟩:=IVs.at_ hi g6
  exact ⟨b,o,k,n,c,y,g5,hn,g7,fun w1 l=>c0.lat hn l⟩
theorem pv_of {H:Nat->Prop}{w:World}{s:List Int}{items:List RI}{fill:Int}{h x:Sl} (h1:RdH H w (sv h) (s.map (Value.int .i64))) (h2:x.2.1=items.length)
  (h3:∀ i (hi:i < items.length),∃ b o k n c y,x.1=some ⟨b,o,none⟩/\¬ H b/\IV H w items[i] k n c y/\At4 w b (o+i*4) k n c y) :
  PV H w (.mk s items fill) h x fill:=by
 rw [PV]
 refine ⟨h1,rfl,h2,?_⟩
 cases items with
 | nil=>exact .inl ⟨rfl,trivial⟩
 | cons a ar =>
  obtain ⟨b,o,_,_,_,_,e0,hn0,_⟩:=h3 0 (by simp)
  refine .inr ⟨b,o,e0,hn0,ivs_of _ _ fun i hi=>?_⟩
  obtain ⟨b',o',k,n,c,y,e',_,g1,c0⟩:=h3 i hi
  rw [e0] at e'
  injection e' with e'
  injection e' with e1 e2 _
  subst e1;subst e2
  exact ⟨k,n,c,y,c0,g1⟩
theorem IV.open_ {H:Nat->Prop}{w:World}{kind:Int}{num:Nat}{char:Int}{box:List RP}{k:Int}{n:Nat}{c:Int}{x:Sl} (g:IV H w (.mk kind num char box) k n c x) :
  k=kind/\n=num/\c=char/\x.2.1=box.length/\∀ i (hi:i < box.length),∃ b o h y f,x.1=some ⟨b,o,none⟩/\¬ H b/\PV H w box[i] h y f/\∀ w1,Lat H w w1->At3 w1 b (o+i*3) h y f:=by
 rw [IV] at g
 obtain ⟨g1,g2,g3,g4,g5⟩:=g
 refine ⟨g1,g2,g3,g4,fun i hi=>?_⟩
 rcases g5 with ⟨rfl,_⟩ | ⟨b,o,g6,hn,g7⟩
 ·simp at hi
 ·obtain ⟨h,y,f,c0,g8⟩:=PVs.at_ hi g7
  exact ⟨b,o,h,y,f,g6,hn,g8,fun w1 l=>c0.lat hn l⟩
theorem iv_none (H:Nat->Prop) (w:World) (k:Int) (n:Nat) (c:Int) (a:Option Addr) (cc:Nat):IV H w (.mk k n c []) k n c (a,0,cc):=by
 rw [IV];exact ⟨rfl,rfl,rfl,rfl,.inl ⟨rfl,trivial⟩⟩
theorem iv_box {H:Nat->Prop}{w:World}{k:Int}{n:Nat}{c:Int}{t:RP}{b o cc:Nat}{h y:Sl}{f:Int} (hn:¬ H b) (g:PV H w t h y f) (c0:At3 w b o h y f) :
  IV H w (.mk k n c [t]) k n c (some ⟨b,o,none⟩,1,cc):=by
 rw [IV]
 refine ⟨rfl,rfl,rfl,rfl,.inr ⟨b,o,rfl,hn,?_⟩⟩
 rw [PVs,PVs]
 exact ⟨⟨h,y,f,c0,g⟩,trivial⟩
mutual
def cntP:RP->Nat
 | .mk s items _=>items.length+s.length+1+cntIs items
def cntIs:List RI->Nat
 | []=>0
 | t::ts=>cntI t+cntIs ts
def cntI:RI->Nat
 | .mk _ _ _ box=>cntPs box
def cntPs:List RP->Nat
 | []=>0
 | t::ts=>cntP t+cntPs ts
end
theorem cntP_pos (t:RP):1<=cntP t:=by cases t;rw [cntP];omega
theorem cntIs_at:∀ {ts:List RI}{i:Nat} (hi:i < ts.length),cntI ts[i]<=cntIs ts
 | [],_,hi=>by simp at hi
 | t::ts,0,_=>by rw [cntIs];simp
 | t::ts,i+1,hi=>by have:=cntIs_at (ts:=ts) (i:=i) (by simpa using hi);rw [cntIs];simp;omega
theorem cntPs_at:∀ {ts:List RP}{i:Nat} (hi:i < ts.length),cntP ts[i]<=cntPs ts
 | [],_,hi=>by simp at hi
 | t::ts,0,_=>by rw [cntPs];simp
 | t::ts,i+1,hi=>by have:=cntPs_at (ts:=ts) (i:=i) (by simpa using hi);rw [cntPs];simp;omega
def prodN:List Nat->Nat
 | []=>1
 | d::s=>d*prodN s
def prod1:List Nat->Nat
 | []=>1
 | d::s=>max 1 d*prod1 s
theorem prod1_pos (s:List Nat):1<=prod1 s:=by
 induction s with
 | nil=>exact Nat.le_refl _
 | cons d s ih=>exact Nat.mul_pos (by omega) ih
theorem prodN_le (s:List Nat):prodN s<=prod1 s:=by
 induction s with
 | nil=>exact Nat.le_refl _
 | cons d s ih=>exact Nat.mul_le_mul (by omega) ih
theorem prodN_zero {s:List Nat} (h:0∈s):prodN s=0:=by
 induction s with
 | nil=>cases h
 | cons d s ih =>
  cases List.mem_cons.1 h with
  | inl e=>subst e;simp [prodN]
  | inr e=>simp [prodN,ih e]
theorem prodN_eq {s:List Nat} (h:0 ∉ s):prodN s=prod1 s:=by
 induction s with
 | nil=>rfl
 | cons d s ih =>
  have h1:d≠0:=fun e=>h (by simp [e])
  have h2:0 ∉ s:=fun e=>h (by simp [e])
  show d*_=max 1 d*_
  rw [ih h2,Nat.max_eq_right (by omega)]
def OkSh (s:List Nat) (n:Nat):Prop:=s.length<=8/\prod1 s<=1048576/\prodN s=n
theorem OkSh.le {s:List Nat}{n:Nat} (h:OkSh s n):n<=1048576:=by
 have:=prodN_le s;have:=h.2.1;have:=h.2.2;omega
mutual
def OkP:Nat->RP->Prop
 | d,.mk s items fill=>0 < d/\(fill=0\/fill=1\/fill=2)/\(∃ sn:List Nat,s=sn.map Int.ofNat/\OkSh sn items.length)/\OkIs d fill items
def OkIs:Nat->Int->List RI->Prop
 | _,_,[]=>True
 | d,fill,t::ts=>OkI d fill t/\OkIs d fill ts
def OkI:Nat->Int->RI->Prop
 | d,fill,.mk k n _ box=>k=fill/\(k=0->okF n=true/\n < 18446744073709551616)/\(k=2->box.length=1/\OkPs (d - 1) box)
def OkPs:Nat->List RP->Prop
 | _,[]=>True
 | d,t::ts=>OkP d t/\OkPs d ts
end
theorem okIs_at {d:Nat}{fill:Int}:∀ {ts:List RI}{i:Nat} (hi:i < ts.length),OkIs d fill ts->OkI d fill ts[i]
 | [],_,hi,_=>by simp at hi
 | t::ts,0,_,h=>by rw [OkIs] at h;exact h.1
 | t::ts,i+1,hi,h=>by rw [OkIs] at h;simpa using okIs_at (ts:=ts) (i:=i) (by simpa using hi) h.2
theorem okIs_of {d:Nat}{fill:Int}:∀ (ts:List RI),(∀ i (hi:i < ts.length),OkI d fill ts[i])->OkIs d fill ts
 | [],_=>by rw [OkIs];trivial
 | t::ts,h=>by
  rw [OkIs]
  exact ⟨by have:=h 0 (by simp);simpa using this,okIs_of ts fun i hi=>by have:=h (i+1) (by simpa using hi);simpa using this⟩
def RI.numOf:RI->Nat | .mk _ n _ _=>n
def RI.charOf:RI->Int | .mk _ _ c _=>c
mutual
def clP:RP->PA
 | .mk s items fill=>if fill=0 then .nums (s.map Int.toNat) (items.map fun t=>tidF t.numOf) else if fill=1 then .chars (s.map Int.toNat) (items.map RI.charOf) else .boxes (s.map Int.toNat) (clIs items)
def clIs:List RI->List PA
 | []=>[]
 | t::ts=>clI t::clIs ts
def clI:RI->PA
 | .mk _ _ _ box=>clPs box
def clPs:List RP->PA
 | [] => .nums [] []
 | t::_=>clP t
end
theorem clIs_len:∀ ts:List RI,(clIs ts).length=ts.length
 | []=>by rw [clIs];rfl
 | t::ts=>by rw [clIs];simp [clIs_len ts]
theorem clIs_at:∀ {ts:List RI}{i:Nat} (hi:i < ts.length) (h2:i < (clIs ts).length),(clIs ts)[i]=clI ts[i]
 | [],_,hi,_=>by simp at hi
 | t::ts,0,_,_=>by simp [clIs]
 | t::ts,i+1,hi,h2=>by
  have:=clIs_at (ts:=ts) (i:=i) (by simpa using hi) (by rw [clIs_len];simpa using hi)
  simp only [clIs,List.getElem_cons_succ]
  exact this
mutual
def rawP:PA->RP
 | .nums s l => .mk (s.map Int.ofNat) (l.map fun x => .mk 0 x 0 []) 0
 | .chars s l => .mk (s.map Int.ofNat) (l.map fun c => .mk 1 0 c []) 1
 | .boxes s l => .mk (s.map Int.ofNat) (rawBs l) 2
def rawBs:List PA->List RI
 | []=>[]
 | a::ar => .mk 2 0 0 [rawP a]::rawBs ar
end
theorem rawBs_len:∀ l:List PA,(rawBs l).length=l.length
 | []=>by rw [rawBs];rfl
 | a::ar=>by rw [rawBs];simp [rawBs_len ar]
theorem rawBs_at:∀ {l:List PA}{i:Nat} (hi:i < l.length) (h2:i < (rawBs l).length),(rawBs l)[i]= .mk 2 0 0 [rawP l[i]]
 | [],_,hi,_=>by simp at hi
 | a::ar,0,_,_=>by simp [rawBs]
 | a::ar,i+1,hi,h2=>by
  have:=rawBs_at (l:=ar) (i:=i) (by simpa using hi) (by rw [rawBs_len];simpa using hi)
  simp only [rawBs,List.getElem_cons_succ]
  exact this
mutual
def GoodA:Nat->PA->Prop
 | d,.nums s l=>0 < d/\OkSh s l.length/\∀ x∈l,TF x
 | d,.chars s l=>0 < d/\OkSh s l.length
 | d,.boxes s l=>0 < d/\OkSh s l.length/\GoodAs (d - 1) l
def GoodAs:Nat->List PA->Prop
 | _,[]=>True
 | d,a::ar=>GoodA d a/\GoodAs d ar
end
theorem goodAs_at {d:Nat}:∀ {l:List PA}{i:Nat} (hi:i < l.length),GoodAs d l->GoodA d l[i]
 | [],_,hi,_=>by simp at hi
 | a::ar,0,_,h=>by rw [GoodAs] at h;exact h.1
 | a::ar,i+1,hi,h=>by rw [GoodAs] at h;simpa using goodAs_at (l:=ar) (i:=i) (by simpa using hi) h.2
theorem GoodA.sh {d:Nat}{a:PA} (h:GoodA d a):0 < d/\OkSh a.shape a.len:=by
 cases a <;> (rw [GoodA] at h;first | exact ⟨h.1,h.2.1⟩ | exact h)
theorem GoodA.nums {d:Nat}{s l:List Nat} (h:GoodA d (.nums s l)):∀ j,j < l.length->TF (l.getD j 0):=by
 rw [GoodA] at h
 intro j hj
 have e:l.getD j 0=l[j]:=by simp [List.getD,hj]
 rw [e]
 exact h.2.2 _ (List.getElem_mem hj)
theorem GoodA.boxes {d:Nat}{s:List Nat}{l:List PA} (h:GoodA d (.boxes s l)):∀ i (hi:i < l.length),GoodA (d - 1) l[i]:=by
 rw [GoodA] at h
 exact fun i hi=>goodAs_at hi h.2.2
mutual
theorem GoodA.up {d d':Nat} (hd:d<=d'):∀ (a:PA),GoodA d a->GoodA d' a
 | .nums s l,h=>by rw [GoodA] at h ⊢;exact ⟨by omega,h.2⟩
 | .chars s l,h=>by rw [GoodA] at h ⊢;exact ⟨by omega,h.2⟩
 | .boxes s l,h=>by rw [GoodA] at h ⊢;exact ⟨by omega,h.2.1,GoodAs.up (by omega) l h.2.2⟩
theorem GoodAs.up {d d':Nat} (hd:d<=d'):∀ (l:List PA),GoodAs d l->GoodAs d' l
 | [],_=>by rw [GoodAs];trivial
 | a::ar,h=>by rw [GoodAs] at h ⊢;exact ⟨GoodA.up hd a h.1,GoodAs.up hd ar h.2⟩
end
theorem toNat_of (sn:List Nat):(sn.map Int.ofNat).map Int.toNat=sn:=by
 rw [List.map_map]
 have:(Int.toNat∘Int.ofNat)=id:=by funext x;rfl
 rw [this,List.map_id]
theorem okF_tf {n:Nat} (h:okF n=true) (hb:n < 18446744073709551616):TF (tidF n):=by
 unfold okF at h
 rcases doneP_cases hb with ⟨c,hc,e4⟩ | e4
 ·unfold tidF;rw [e4];exact hc
 ·rw [e4] at h;exact absurd h (by decide)
theorem at3_new (w:World) (h x:Sl) (f:Int) (e:TypeId):At3 (w.alloc (.cells #[sv h,sv x,.int .i64 f] e)) w.heap.size 0 h x f:=by
 have hc:∀ j u,#[sv h,sv x,Value.int .i64 f][j]?=some u->(w.alloc (.cells #[sv h,sv x,.int .i64 f] e)).cell? ⟨w.heap.size,j,none⟩=some u:=by
  intro j u hu
  rw [cell_of_row _ w.heap.size j _ e (0,0) (heap_alloc_new w _)]
  exact hu
 exact ⟨hc 0 _ rfl,hc 1 _ rfl,hc 2 _ rfl⟩
def prodE (s:List Nat) (most:Int):Int×Int :=
 if 8 < s.length then (0,26) else if 1048576 < prod1 s then (0,26) else if most < (prodN s:Int) then (0,26) else ((prodN s:Int),0)
theorem prod1_snoc (s:List Nat) (d:Nat):prod1 (s++[d])=prod1 s*max 1 d:=by
 induction s with
 | nil=>simp [prod1]
 | cons x s ih=>simp only [List.cons_append,prod1,ih,Nat.mul_assoc]
theorem prod1_take (s:List Nat) (k:Nat) (h:k < s.length):prod1 (s.take (k+1))=prod1 (s.take k)*max 1 s[k]:=by
 rw [List.take_succ_eq_append_getElem h,prod1_snoc]
theorem prod1_append (s t:List Nat):prod1 (s++t)=prod1 s*prod1 t:=by
 induction s with
 | nil=>simp [prod1]
 | cons x s ih=>simp only [List.cons_append,prod1,ih,Nat.mul_assoc]
theorem prod1_take_le (s:List Nat) (k:Nat):prod1 (s.take k)<=prod1 s:=by
 have h:=prod1_append (s.take k) (s.drop k)
 rw [List.take_append_drop] at h
 rw [h]
 exact Nat.le_mul_of_pos_right _ (prod1_pos _)
theorem prod1_elem {s:List Nat}{k:Nat} (h:k < s.length):s[k]<=prod1 s:=by
 have h1:=prod1_take s k h
 have h2:=prod1_take_le s (k+1)
 have h3:=prod1_pos (s.take k)
 have h4:s[k]<=prod1 (s.take k)*max 1 s[k]:=Nat.le_trans (Nat.le_max_right 1 _) (Nat.le_mul_of_pos_left _ h3)
 omega
theorem prodE_ok {s:List Nat}{n:Nat} (h:OkSh s n){most:Int} (hm:(n:Int)<=most):prodE s most=((n:Int),0):=by
 obtain ⟨h1,h2,rfl⟩:=h
 unfold prodE
 rw [if_neg (by omega),if_neg (by omega),if_neg (by omega)]
end Go.Proofs.YtbakjaliponbbaaGreatDoor
