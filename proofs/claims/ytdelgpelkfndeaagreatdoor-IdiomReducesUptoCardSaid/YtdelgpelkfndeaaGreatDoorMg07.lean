/- fold.Fold and the reference's Fold at numbers: both tell the same, whatever comes of it. A region that loads a Vec, calls, and puts the Vec that is told into a .. Conditions: as each theorem says. -/
import Derived.Test.YtdelgpelkfndeaaGreatDoorMgA
import Derived.Test.YtdelgpelkfndeaaGreatDoorMg06
import Derived.Test.YtdelgpelkfndeaaGreatDoorMg01
import Derived.Test.YtdelgpelkfndeaaGreatDoorMg02
import Derived.Test.YtdelgpelkfndeaaGreatDoorMg05
import Derived.IntWalk
import Derived.Deep.QuietTactic
import Derived.BigQuiet
set_option maxRecDepth 100000
set_option maxHeartbeats 2000000
namespace Go.Proofs.YtdelgpelkfndeaaGreatDoor
open Go Go.RowKit Go.Proofs Fl
structure NumW (v:Value) (n:Nat) (F:Nat->Nat) (w:World):Prop where
 cls:Calls Tryz.prog 44 #[v] w fun e w2=>e= .returned (.int .i64 0)/\Below w.heap.size w w2
 len:Calls Tryz.prog 23 #[v] w fun e w2=>e= .returned (.int .i64 n)/\Below w.heap.size w w2
 num:∀ j,j < n->Calls Tryz.prog 92 #[v,.int .i64 (j:Nat)] w fun e w2=>e= .returned (.float .f64 (F j))/\Below w.heap.size w w2
theorem NumV.numW {v:Value}{k:Int}{n:Nat}{F:Nat->Nat}{w:World} (h:NumV v k n F w):NumW v n F w:=⟨h.cls,h.len,h.num⟩
theorem Qqj {w1 w2:World}{o:Obj} (hb:Below (w1.alloc o).heap.size (w1.alloc o) w2):w2.heap[w1.heap.size]?=some o:=Qar hb
theorem Qqk {w1 w2:World}{o:Obj} (hb:Below (w1.alloc o).drew.heap.size (w1.alloc o).drew w2):w2.heap[w1.heap.size]?=some o:=by
 rw [hb.block _ (by simp [World.drew])]
 exact heap_alloc_new w1 o
theorem Qa5 (w1:World) (o:Obj):w1.heap.size < (w1.alloc o).heap.size:=by simp
theorem Qa6 (w1:World) (o:Obj):w1.heap.size < (w1.alloc o).drew.heap.size:=by simp [World.drew]
theorem Qtg (w1:World):w1.heap.size<=w1.drew.heap.size:=(show Below w1.heap.size w1 w1.drew from (Below.refl _ _).drew).size
structure V8 where
 k:Int
 b:Sl
 bn:Int
 s:Sl
 i:Sl
 f:Sl
 c:Sl
 x:Sl
abbrev V8.v (p:V8):Value:=vecW p.k p.b p.bn p.s p.i p.f p.c p.x
abbrev BoxP (W:World) (G:Nat) (p:V8):Prop:=Boxed W G p.k (.slice p.b.1 p.b.2.1 p.b.2.2) p.bn (.slice p.s.1 p.s.2.1 p.s.2.2) (.slice p.i.1 p.i.2.1 p.i.2.2) (.slice p.f.1 p.f.2.1 p.f.2.2) (.slice p.c.1 p.c.2.1 p.c.2.2) (.slice p.x.1 p.x.2.1 p.x.2.2)
abbrev V8.o (p:V8):Obj := .cells #[.int .i64 p.k,.slice p.b.1 p.b.2.1 p.b.2.2,.int .i64 p.bn,.slice p.s.1 p.s.2.1 p.s.2.2,.slice p.i.1 p.i.2.1 p.i.2.2,.slice p.f.1 p.f.2.1 p.f.2.2,.slice p.c.1 p.c.2.1 p.c.2.2,.slice p.x.1 p.x.2.1 p.x.2.2] 39
theorem Qb3 (w:World) (p:V8):BoxP (w.alloc p.o) w.heap.size p:=QaF w 39 _ _ _ _ _ _ _ _
structure St2 (w W:World) (p q:V8):Prop where
 one:BoxP W w.heap.size p
 two:BoxP W (w.heap.size+1) q
 res:W.heap[w.heap.size+2]?=some (.cells zcells 39)
 bel:Below w.heap.size w W
abbrev St2C (w W:World) (p q:V8):Prop:=((W.cell? ⟨w.heap.size,0,none⟩=some (.int .i64 p.k)/\W.cell? ⟨w.heap.size,1,none⟩=some (.slice p.b.1 p.b.2.1 p.b.2.2)/\W.cell? ⟨w.heap.size,2,none⟩=some (.int .i64 p.bn)/\W.cell? ⟨w.heap.size,3,none⟩=some (.slice p.s.1 p.s.2.1 p.s.2.2)/\W.cell? ⟨w.heap.size,4,none⟩=some (.slice p.i.1 p.i.2.1 p.i.2.2)/\W.cell? ⟨w.heap.size,5,none⟩=some (.slice p.f.1 p.f.2.1 p.f.2.2)/\W.cell? ⟨w.heap.size,6,none⟩=some (.slice p.c.1 p.c.2.1 p.c.2.2)/\W.cell? ⟨w.heap.size,7,none⟩=some (.slice p.x.1 p.x.2.1 p.x.2.2))/\(W.cell? ⟨w.heap.size+1,0,none⟩=some (.int .i64 q.k)/\W.cell? ⟨w.heap.size+1,1,none⟩=some (.slice q.b.1 q.b.2.1 q.b.2.2)/\W.cell? ⟨w.heap.size+1,2,none⟩=some (.int .i64 q.bn)/\W.cell? ⟨w.heap.size+1,3,none⟩=some (.slice q.s.1 q.s.2.1 q.s.2.2)/\W.cell? ⟨w.heap.size+1,4,none⟩=some (.slice q.i.1 q.i.2.1 q.i.2.2)/\W.cell? ⟨w.heap.size+1,5,none⟩=some (.slice q.f.1 q.f.2.1 q.f.2.2)/\W.cell? ⟨w.heap.size+1,6,none⟩=some (.slice q.c.1 q.c.2.1 q.c.2.2)/\W.cell? ⟨w.heap.size+1,7,none⟩=some (.slice q.x.1 q.x.2.1 q.x.2.2)))
theorem St2.step {w W W':World}{p q:V8} (h:St2 w W p q) (hb:Below W.heap.size W W'):St2 w W' p q :=
 ⟨h.one.below hb,h.two.below hb,by rw [hb.block _ (Qag h.res).1.lt];exact h.res,Qaa h.bel hb⟩
theorem St2.new (w:World) (p q:V8):St2 w (((w.alloc p.o).alloc q.o).alloc (.cells zcells 39)) p q:=by
 have h1:=Qb3 w p
 have h2:=Qb3 (w.alloc p.o) q
 have h3:=heap_alloc_new ((w.alloc p.o).alloc q.o) (.cells zcells 39)
 have e1:(w.alloc p.o).heap.size=w.heap.size+1:=by simp
 have e2:((w.alloc p.o).alloc q.o).heap.size=w.heap.size+2:=by simp
 rw [e1] at h2
 rw [e2] at h3
 exact ⟨(h1.below (bel1 _ _)).below (bel1 _ _),h2.below (bel1 _ _),h3,Qaa (bel2 w _ _) (bel1 _ _)⟩
theorem St2.al {w W:World}{p q:V8} (h:St2 w W p q) (o:Obj):St2 w (W.alloc o) p q:=h.step (bel1 W o)
theorem St2.dr {w W:World}{p q:V8} (h:St2 w W p q):St2 w W.drew p q:=h.step (Below.refl _ W).drew
theorem St2.put {w W:World}{p q:V8} (h:St2 w W p q){g j:Nat} (ha:w.heap.size+3<=g) (u:Value):St2 w (W.setCell ⟨g,j,none⟩ u) p q :=
 ⟨h.one.set (by show g≠_;omega) u,h.two.set (by show g≠_;omega) u,by rw [Below.heap_setCell _ _ _ _ (by show _≠g;omega)];exact h.res,h.bel.setCell (by show _<=g;omega) u⟩
theorem St2.sz {w W:World}{p q:V8} (h:St2 w W p q):w.heap.size+3<=W.heap.size:=(Qag h.res).1.lt
theorem St2.self {w W:World}{p q:V8} (h:St2 w W p q):St2 w W p q:=h
def lenP (m n:Nat):Option Nat:=if m=n then some m else if m=1 then some n else if n=1 then some m else none
def ixP (m i:Nat):Nat:=if m=1 then 0 else i
theorem Qf2 {m n N i:Nat} (h:lenP m n=some N) (hi:i < N):ixP m i < m/\ixP n i < n:=by
 unfold lenP at h
 unfold ixP
 split at h
 ·injection h with h;constructor <;> split <;> omega
 ·split at h
  ·injection h with h;constructor <;> split <;> omega
  ·split at h
   ·injection h with h;constructor <;> split <;> omega
   ·cases h
theorem Qfb {m n N B:Nat} (h:lenP m n=some N) (hm:m<=B) (hn:n<=B):N<=B:=by
 unfold lenP at h
 split at h
 ·injection h with h;omega
 ·split at h
  ·injection h with h;omega
  ·split at h
   ·injection h with h;omega
   ·cases h
theorem QcX (m n:Nat) (w:World):Calls Tryz.prog 60 #[.int .i64 (m:Int),.int .i64 (n:Int)] w fun e w'=>e= .returned (.tuple #[.int .i64 ((lenP m n).getD 0:Nat),.bool (lenP m n).isSome])/\w=w':=by
 by_cases h1:m=n
 ·subst h1
  have e:lenP m m=some m:=if_pos rfl
  rw [e]
  go_enter Tryz.func60,Tryz.ntmps60
  go_wp2
  go_ret2
  exact ⟨rfl,rfl⟩
 ·have f1:((m:Int)==(n:Int))=false:=by simp;omega
  by_cases h2:m=1
  ·have e:lenP m n=some n:=by unfold lenP;rw [if_neg h1,if_pos h2]
   rw [e]
   have f2:((m:Int)==1)=true:=by simp;omega
   clear h1 h2
   go_enter Tryz.func60,Tryz.ntmps60
   go_wp2
   go_ret2
   exact ⟨rfl,rfl⟩
  ·have f2:((m:Int)==1)=false:=by simp;omega
   by_cases h3:n=1
   ·have e:lenP m n=some m:=by unfold lenP;rw [if_neg h1,if_neg h2,if_pos h3]
    rw [e]
    have f3:((n:Int)==1)=true:=by simp;omega
    clear h1 h2 h3
    go_enter Tryz.func60,Tryz.ntmps60
    go_wp2
    go_ret2
    exact ⟨rfl,rfl⟩
   ·have e:lenP m n=none:=by unfold lenP;rw [if_neg h1,if_neg h2,if_neg h3]
    rw [e]
    have f3:((n:Int)==1)=false:=by simp;omega
    clear h1 h2 h3
    go_enter Tryz.func60,Tryz.ntmps60
    go_wp2
    go_ret2
    exact ⟨rfl,rfl⟩
inductive PA where
 | nums (s:List Nat) (l:List Nat)
 | chars (s:List Nat) (l:List Int)
 | boxes (s:List Nat) (l:List PA)
instance:Inhabited PA:=⟨.nums [] []⟩
def PA.shape:PA->List Nat
 | .nums s _=>s | .chars s _=>s | .boxes s _=>s
def PA.len:PA->Nat
 | .nums _ l=>l.length | .chars _ l=>l.length | .boxes _ l=>l.length
def PA.fill:PA->Nat
 | .nums _ _=>0 | .chars _ _=>1 | .boxes _ _=>2
abbrev sv (h:Sl):Value := .slice h.1 h.2.1 h.2.2
abbrev nilS:Sl:=(none,0,0)
abbrev RdH (H:Nat->Prop) (w:World) (v:Value) (xs:List Value):Prop:=Keeps H w fun W=>Reads1 W v xs
structure Lat (H:Nat->Prop) (w w':World):Prop where
 size:w.heap.size<=w'.heap.size
 block:∀ b,b < w.heap.size->¬ H b->w'.heap[b]?=w.heap[b]?
theorem Lat.below {H:Nat->Prop}{w w':World} (h:Below w.heap.size w w'):Lat H w w':=⟨h.size,fun b hb _=>h.block b hb⟩
theorem Lat.set {H:Nat->Prop}{w:World}{a:Addr} (ha:H a.block) (u:Value):Lat H w (w.setCell a u) :=
 ⟨by rw [QaP];exact Nat.le_refl _,fun b _ hn=>Below.heap_setCell _ _ _ _ (fun e=>hn (by rw [e];exact ha))⟩
theorem Lat.trans {H:Nat->Prop}{a b c:World} (h:Lat H a b) (k:Lat H b c):Lat H a c :=
 ⟨Nat.le_trans h.size k.size,fun x hx hn=>by rw [k.block x (Nat.lt_of_lt_of_le hx h.size) hn,h.block x hx hn]⟩
theorem Keeps.lat {H:Nat->Prop}{w w':World}{R:World->Prop} (h:Keeps H w R) (g:Lat H w w'):Keeps H w' R :=
 fun W hz hb=>h W (Nat.le_trans g.size hz) fun b hl hn=>by rw [hb b (Nat.lt_of_lt_of_le hl g.size) hn,g.block b hl hn]
theorem RdH.len {H:Nat->Prop}{w:World}{v:Value}{xs:List Value} (h:RdH H w v xs):∃ a c,v= .slice a xs.length c:=Reads1.len h.now
abbrev ShV (H:Nat->Prop) (w:World) (h:Sl) (s:List Nat):Prop:=RdH H w (sv h) (s.map fun n:Nat => .int .i64 (n:Int))
theorem ShV.len {H:Nat->Prop}{w:World}{h:Sl}{s:List Nat} (g:ShV H w h s):h.2.1=s.length:=by
 obtain ⟨a,c,e⟩:=RdH.len g
 unfold sv at e
 injection e with _ e _
 simpa using e
theorem QiN (H:Nat->Prop) (w:World):ShV H w nilS []:=fun _ _ _ => .inl ⟨none,0,rfl,rfl⟩
structure NumS (H:Nat->Prop) (w:World) (p:V8) (l:List Nat):Prop where
 num:Keeps H w (NumV p.v p.k l.length (fun j=>l.getD j 0))
 least:p.k=(leastF (fun j=>l.getD j 0) l.length:Nat)
abbrev zbP:V8:=⟨1,nilS,0,nilS,nilS,nilS,nilS,nilS⟩
def NumA (H:Nat->Prop) (w:World) (p:V8) (l:List Nat):Prop:=NumS H w p l\/(l=[]/\p=zbP)
theorem NumA.lat {H:Nat->Prop}{w w':World}{p:V8}{l:List Nat} (g:NumA H w p l) (k:Lat H w w'):NumA H w' p l:=by
 rcases g with g | g
 ·exact .inl ⟨g.num.lat k,g.least⟩
 ·exact .inr g
theorem NumA.sub {H H':Nat->Prop}{w:World}{p:V8}{l:List Nat} (g:NumA H w p l) (hs:∀ j,j < w.heap.size->H' j->H j):NumA H' w p l:=by
 rcases g with g | g
 ·exact .inl ⟨g.num.sub hs,g.least⟩
 ·exact .inr g
abbrev Qep (c:Sl):V8:=⟨5,nilS,0,nilS,nilS,nilS,c,nilS⟩
abbrev QdB (x:Sl):V8:=⟨6,nilS,0,nilS,nilS,nilS,nilS,x⟩
abbrev zeroP:V8:=⟨0,nilS,0,nilS,nilS,nilS,nilS,nilS⟩
abbrev arrL (h:Sl) (p:V8):List Value:=[sv h,.int .i64 p.k,sv p.b,.int .i64 p.bn,sv p.s,sv p.i,sv p.f,sv p.c,sv p.x]
abbrev arrV (h:Sl) (p:V8):Value := .agg #[sv h,.int .i64 p.k,sv p.b,.int .i64 p.bn,sv p.s,sv p.i,sv p.f,sv p.c,sv p.x]
def At9 (w:World) (b o:Nat) (h:Sl) (p:V8):Prop :=
 w.cell? ⟨b,o,none⟩=some (sv h)/\w.cell? ⟨b,o+1,none⟩=some (.int .i64 p.k)/\w.cell? ⟨b,o+2,none⟩=some (sv p.b)/\w.cell? ⟨b,o+3,none⟩=some (.int .i64 p.bn)/\w.cell? ⟨b,o+4,none⟩=some (sv p.s) /\
  w.cell? ⟨b,o+5,none⟩=some (sv p.i)/\w.cell? ⟨b,o+6,none⟩=some (sv p.f)/\w.cell? ⟨b,o+7,none⟩=some (sv p.c)/\w.cell? ⟨b,o+8,none⟩=some (sv p.x)
theorem At9.of {w w':World}{b o:Nat}{h:Sl}{p:V8} (g:At9 w b o h p) (e:∀ j,w'.cell? ⟨b,j,none⟩=w.cell? ⟨b,j,none⟩):At9 w' b o h p:=by
 unfold At9
 rw [e,e,e,e,e,e,e,e,e]
 exact g
theorem At9.lt {w:World}{b o:Nat}{h:Sl}{p:V8} (g:At9 w b o h p):b < w.heap.size:=Qav g.1
theorem At9.below {w w':World}{b o:Nat}{h:Sl}{p:V8} (g:At9 w b o h p) (hb:Below w.heap.size w w'):At9 w' b o h p:=g.of fun _=>hb.cell g.lt
theorem At9.lat {H:Nat->Prop}{w w':World}{b o:Nat}{h:Sl}{p:V8} (g:At9 w b o h p) (hn:¬ H b) (k:Lat H w w'):At9 w' b o h p:=g.of fun _=>World.cell?_of_block (w:=w) (k.block b g.lt hn)
mutual
def AV (H:Nat->Prop) (w:World):PA->Sl->V8->Prop
 | .nums s l,h,p=>ShV H w h s/\NumA H w p l
 | .chars s l,h,p=>ShV H w h s/\∃ c,p=Qep c/\RdH H w (sv c) (l.map (Value.int .i32))
 | .boxes s l,h,p=>ShV H w h s/\∃ x,p=QdB x/\x.2.1=l.length/\((l=[]/\True)\/∃ b o,x.1=some ⟨b,o,none⟩/\¬ H b/\AVs H w b o l)
def AVs (H:Nat->Prop) (w:World) (b:Nat):Nat->List PA->Prop
 | _,[]=>True
 | o,a::ar=>(∃ h p,At9 w b o h p/\AV H w a h p)/\AVs H w b (o+9) ar
end
mutual
theorem AV.lat {H:Nat->Prop}{w w':World} (k:Lat H w w'):∀ {a:PA}{h:Sl}{p:V8},AV H w a h p->AV H w' a h p
 | .nums s l,h,p,g=>by
  rw [AV] at g ⊢
  exact ⟨g.1.lat k,g.2.lat k⟩
 | .chars s l,h,p,g=>by
  rw [AV] at g ⊢
  obtain ⟨g1,c,g2,g3⟩:=g
  exact ⟨g1.lat k,c,g2,g3.lat k⟩
 | .boxes s l,h,p,g=>by
  rw [AV] at g ⊢
  obtain ⟨g1,x,g2,g3,g4⟩:=g
  refine ⟨g1.lat k,x,g2,g3,?_⟩
  rcases g4 with g4 | ⟨b,o,g5,hn,g6⟩
  ·exact .inl g4
  ·exact .inr ⟨b,o,g5,hn,AVs.lat k hn g6⟩
theorem AVs.lat {H:Nat->Prop}{w w':World} (k:Lat H w w'){b:Nat} (hn:¬ H b):∀ {o:Nat}{l:List PA},AVs H w b o l->AVs H w' b o l
 | _,[],_=>by rw [AVs];trivial
 | o,a::ar,g=>by
  rw [AVs] at g ⊢
  obtain ⟨⟨h,p,g1,g2⟩,g3⟩:=g
  exact ⟨⟨h,p,g1.lat hn k,AV.lat k g2⟩,AVs.lat k hn g3⟩
end
theorem AV.step {H:Nat->Prop}{w w':World}{a:PA}{h:Sl}{p:V8} (g:AV H w a h p) (hb:Below w.heap.size w w'):AV H w' a h p:=AV.lat (Lat.below hb) g
mutual
theorem AV.sub {H H':Nat->Prop}{w:World} (hs:∀ b,b < w.heap.size->H' b->H b):∀ {a:PA}{h:Sl}{p:V8},AV H w a h p->AV H' w a h p
 | .nums s l,h,p,g=>by
  rw [AV] at g ⊢
  exact ⟨g.1.sub hs,g.2.sub hs⟩
 | .chars s l,h,p,g=>by
  rw [AV] at g ⊢
  obtain ⟨g1,c,g2,g3⟩:=g
  exact ⟨g1.sub hs,c,g2,g3.sub hs⟩
 | .boxes s l,h,p,g=>by
  rw [AV] at g ⊢
  obtain ⟨g1,x,g2,g3,g4⟩:=g
  refine ⟨g1.sub hs,x,g2,g3,?_⟩
  rcases g4 with g4 | ⟨b,o,g5,hn,g6⟩
  ·exact .inl g4
  ·cases l with
   | nil=>exact .inl ⟨rfl,trivial⟩
   | cons a ar =>
    have hl:b < w.heap.size:=by rw [AVs] at g6;obtain ⟨⟨_,_,h9,_⟩,_⟩:=g6;exact h9.lt
    exact .inr ⟨b,o,g5,fun e=>hn (hs b hl e),AVs.sub hs g6⟩
theorem AVs.sub {H H':Nat->Prop}{w:World} (hs:∀ b,b < w.heap.size->H' b->H b){b:Nat}:∀ {o:Nat}{l:List PA},AVs H w b o l->AVs H' w b o l
 | _,[],_=>by rw [AVs];trivial
 | o,a::ar,g=>by
  rw [AVs] at g ⊢
  obtain ⟨⟨h,p,g1,g2⟩,g3⟩:=g
  exact ⟨⟨h,p,g1,AV.sub hs g2⟩,AVs.sub hs g3⟩
end
theorem AV.arg {H:Nat->Prop}{w W:World}{a:PA}{h:Sl}{p:V8} (g:AV H w a h p) (hb:Below w.heap.size w W):AV (Hole H w W) W a h p:=by
 have g2:AV (Hole H w W) w a h p:=AV.sub (fun b hl e=>by
  rcases e with e | ⟨e,_⟩
  ·exact e
  ·omega) g
 exact AV.lat (Lat.below hb) g2
theorem AVs.at_ {H:Nat->Prop}{w:World}{b:Nat}:∀ {l:List PA}{o i:Nat} (hi:i < l.length),AVs H w b o l->∃ h p,At9 w b (o+i*9) h p/\AV H w l[i] h p
 | [],_,_,hi,_=>by simp at hi
 | a::ar,o,0,_,g=>by
  rw [AVs] at g
  simpa using g.1
 | a::ar,o,i+1,hi,g=>by
  rw [AVs] at g
  have:=AVs.at_ (l:=ar) (o:=o+9) (i:=i) (by simpa using hi) g.2
  have e:o+9+i*9=o+(i+1)*9:=by omega
  rw [e] at this
  simpa using this
theorem Qql {H:Nat->Prop}{w:World}{b:Nat}:∀ (l:List PA) (o:Nat),(∀ i (h:i < l.length),∃ h p,At9 w b (o+i*9) h p/\AV H w l[i] h p)->AVs H w b o l
 | [],_,_=>by rw [AVs];trivial
 | a::ar,o,g=>by
  rw [AVs]
  refine ⟨?_,Qql ar (o+9) fun i hi=>?_⟩
  ·have:=g 0 (by simp);simpa using this
  ·have:=g (i+1) (by simpa using hi)
   have e:o+(i+1)*9=o+9+i*9:=by omega
   rw [e] at this
   simpa using this
theorem AV.shape {H:Nat->Prop}{w:World}{a:PA}{h:Sl}{p:V8} (g:AV H w a h p):ShV H w h a.shape:=by
 cases a <;> (rw [AV] at g;exact g.1)
theorem AV.nums {H:Nat->Prop}{w:World}{s:List Nat}{l:List Nat}{h:Sl}{p:V8} (g:AV H w (.nums s l) h p):NumA H w p l:=by rw [AV] at g;exact g.2
theorem AV.chars {H:Nat->Prop}{w:World}{s:List Nat}{l:List Int}{h:Sl}{p:V8} (g:AV H w (.chars s l) h p):∃ c,p=Qep c/\RdH H w (sv c) (l.map (Value.int .i32)):=by rw [AV] at g;exact g.2
theorem AV.boxes {H:Nat->Prop}{w:World}{s:List Nat}{l:List PA}{h:Sl}{p:V8} (g:AV H w (.boxes s l) h p) :
  ∃ A n c,p=QdB (A,n,c)/\n=l.length/\∀ i (hi:i < l.length),∃ b o h p,A=some ⟨b,o,none⟩/\¬ H b/\AV H w l[i] h p/\∀ w1,Lat H w w1->At9 w1 b (o+i*9) h p:=by
 rw [AV] at g
 obtain ⟨_,⟨A,n,c⟩,rfl,hn,g4⟩:=g
 refine ⟨A,n,c,rfl,hn,fun i hi=>?_⟩
 rcases g4 with ⟨rfl,_⟩ | ⟨b,o,g5,hb,g6⟩
 ·simp at hi
 ·obtain ⟨h,p,g7,g8⟩:=AVs.at_ hi g6
  exact ⟨b,o,h,p,g5,hb,g8,fun w1 k=>g7.lat hb k⟩
mutual
inductive RP where
 | mk (s:List Int) (items:List RI) (fill:Int)
inductive RI where
 | mk (kind:Int) (num:Nat) (char:Int) (box:List RP)
end
instance:Inhabited RP:=⟨.mk [] [] 0⟩
instance:Inhabited RI:=⟨.mk 0 0 0 []⟩
def At4 (w:World) (b o:Nat) (k:Int) (n:Nat) (c:Int) (x:Sl):Prop :=
 w.cell? ⟨b,o,none⟩=some (.int .i64 k)/\w.cell? ⟨b,o+1,none⟩=some (.float .f64 n)/\w.cell? ⟨b,o+2,none⟩=some (.int .i32 c)/\w.cell? ⟨b,o+3,none⟩=some (sv x)
def At3 (w:World) (b o:Nat) (h x:Sl) (f:Int):Prop :=
 w.cell? ⟨b,o,none⟩=some (sv h)/\w.cell? ⟨b,o+1,none⟩=some (sv x)/\w.cell? ⟨b,o+2,none⟩=some (.int .i64 f)
theorem At4.of {w w':World}{b o:Nat}{k:Int}{n:Nat}{c:Int}{x:Sl} (g:At4 w b o k n c x) (e:∀ j,w'.cell? ⟨b,j,none⟩=w.cell? ⟨b,j,none⟩):At4 w' b o k n c x:=by
 unfold At4
 rw [e,e,e,e]
 exact g
theorem At4.lt {w:World}{b o:Nat}{k:Int}{n:Nat}{c:Int}{x:Sl} (g:At4 w b o k n c x):b < w.heap.size:=Qav g.1
theorem At4.lat {H:Nat->Prop}{w w':World}{b o:Nat}{k:Int}{n:Nat}{c:Int}{x:Sl} (g:At4 w b o k n c x) (hn:¬ H b) (l:Lat H w w'):At4 w' b o k n c x:=g.of fun _=>World.cell?_of_block (w:=w) (l.block b g.lt hn)
theorem At3.of {w w':World}{b o:Nat}{h x:Sl}{f:Int} (g:At3 w b o h x f) (e:∀ j,w'.cell? ⟨b,j,none⟩=w.cell? ⟨b,j,none⟩):At3 w' b o h x f:=by
 unfold At3
 rw [e,e,e]
 exact g
theorem At3.lt {w:World}{b o:Nat}{h x:Sl}{f:Int} (g:At3 w b o h x f):b < w.heap.size:=Qav g.1
theorem At3.lat {H:Nat->Prop}{w w':World}{b o:Nat}{h x:Sl}{f:Int} (g:At3 w b o h x f) (hn:¬ H b) (l:Lat H w w'):At3 w' b o h x f:=g.of fun _=>World.cell?_of_block (w:=w) (l.block b g.lt hn)
mutual
def PV (H:Nat->Prop) (w:World):RP->Sl->Sl->Int->Prop
 | .mk s items fill,h,x,f=>RdH H w (sv h) (s.map (Value.int .i64))/\f=fill/\x.2.1=items.length/\((items=[]/\True)\/∃ b o,x.1=some ⟨b,o,none⟩/\¬ H b/\IVs H w b o items)
def IVs (H:Nat->Prop) (w:World) (b:Nat):Nat->List RI->Prop
 | _,[]=>True
 | o,t::ts=>(∃ k n c x,At4 w b o k n c x/\IV H w t k n c x)/\IVs H w b (o+4) ts
def IV (H:Nat->Prop) (w:World):RI->Int->Nat->Int->Sl->Prop
 | .mk kind num char box,k,n,c,x=>k=kind/\n=num/\c=char/\x.2.1=box.length/\((box=[]/\True)\/∃ b o,x.1=some ⟨b,o,none⟩/\¬ H b/\PVs H w b o box)
def PVs (H:Nat->Prop) (w:World) (b:Nat):Nat->List RP->Prop
 | _,[]=>True
 | o,t::ts=>(∃ h x f,At3 w b o h x f/\PV H w t h x f)/\PVs H w b (o+3) ts
end
abbrev plV (h x:Sl) (f:Int):Value := .agg #[sv h,sv x,.int .i64 f]
abbrev itV (k:Int) (n:Nat) (c:Int) (x:Sl):Value := .agg #[.int .i64 k,.float .f64 n,.int .i32 c,sv x]
theorem QaB {w w':World} (hb:Below w.heap.size w w'){p:Addr}{v:Value} (h:w.cell? p=some v):w'.cell? p=some v:=by rw [hb.cell (Qav h)];exact h
mutual
theorem PV.lat {H:Nat->Prop}{w w':World} (l:Lat H w w'):∀ {t:RP}{h x:Sl}{f:Int},PV H w t h x f->PV H w' t h x f
 | .mk s items fill,h,x,f,g=>by
  rw [PV] at g ⊢
  obtain ⟨g1,g2,g3,g4⟩:=g
  refine ⟨g1.lat l,g2,g3,?_⟩
  rcases g4 with g4 | ⟨b,o,g5,hn,g6⟩
  ·exact .inl g4
  ·exact .inr ⟨b,o,g5,hn,IVs.lat l hn g6⟩
theorem IVs.lat {H:Nat->Prop}{w w':World} (l:Lat H w w'){b:Nat} (hn:¬ H b):∀ {o:Nat}{ts:List RI},IVs H w b o ts->IVs H w' b o ts
 | _,[],_=>by rw [IVs];trivial
 | o,t::ts,g=>by
  rw [IVs] at g ⊢
  obtain ⟨⟨k,n,c,x,c0,g1⟩,g2⟩:=g
  exact ⟨⟨k,n,c,x,c0.lat hn l,IV.lat l g1⟩,IVs.lat l hn g2⟩
theorem IV.lat {H:Nat->Prop}{w w':World} (l:Lat H w w'):∀ {t:RI}{k:Int}{n:Nat}{c:Int}{x:Sl},IV H w t k n c x->IV H w' t k n c x
 | .mk kind num char box,k,n,c,x,g=>by
  rw [IV] at g ⊢
  obtain ⟨g1,g2,g3,g4,g5⟩:=g
  refine ⟨g1,g2,g3,g4,?_⟩
  rcases g5 with g5 | ⟨b,o,g5,hn,g6⟩
  ·exact .inl g5
  ·exact .inr ⟨b,o,g5,hn,PVs.lat l hn g6⟩
theorem PVs.lat {H:Nat->Prop}{w w':World} (l:Lat H w w'){b:Nat} (hn:¬ H b):∀ {o:Nat}{ts:List RP},PVs H w b o ts->PVs H w' b o ts
 | _,[],_=>by rw [PVs];trivial
 | o,t::ts,g=>by
  rw [PVs] at g ⊢
  obtain ⟨⟨h,x,f,c0,g1⟩,g2⟩:=g
  exact ⟨⟨h,x,f,c0.lat hn l,PV.lat l g1⟩,PVs.lat l hn g2⟩
end
theorem PV.step {H:Nat->Prop}{w w':World}{t:RP}{h x:Sl}{f:Int} (g:PV H w t h x f) (hb:Below w.heap.size w w'):PV H w' t h x f:=PV.lat (Lat.below hb) g
theorem IV.step {H:Nat->Prop}{w w':World}{t:RI}{k:Int}{n:Nat}{c:Int}{x:Sl} (g:IV H w t k n c x) (hb:Below w.heap.size w w'):IV H w' t k n c x:=IV.lat (Lat.below hb) g
mutual
theorem PV.sub {H H':Nat->Prop}{w:World} (hs:∀ b,b < w.heap.size->H' b->H b):∀ {t:RP}{h x:Sl}{f:Int},PV H w t h x f->PV H' w t h x f
 | .mk s items fill,h,x,f,g=>by
  rw [PV] at g ⊢
  obtain ⟨g1,g2,g3,g4⟩:=g
  refine ⟨g1.sub hs,g2,g3,?_⟩
  rcases g4 with g4 | ⟨b,o,g5,hn,g6⟩
  ·exact .inl g4
  ·cases items with
   | nil=>exact .inl ⟨rfl,trivial⟩
   | cons a ar =>
    have hl:b < w.heap.size:=by rw [IVs] at g6;obtain ⟨⟨_,_,_,_,h9,_⟩,_⟩:=g6;exact h9.lt
    exact .inr ⟨b,o,g5,fun e=>hn (hs b hl e),IVs.sub hs g6⟩
theorem IVs.sub {H H':Nat->Prop}{w:World} (hs:∀ b,b < w.heap.size->H' b->H b){b:Nat}:∀ {o:Nat}{ts:List RI},IVs H w b o ts->IVs H' w b o ts
 | _,[],_=>by rw [IVs];trivial
 | o,t::ts,g=>by
  rw [IVs] at g ⊢
  obtain ⟨⟨k,n,c,x,c0,g1⟩,g2⟩:=g
  exact ⟨⟨k,n,c,x,c0,IV.sub hs g1⟩,IVs.sub hs g2⟩
theorem IV.sub {H H':Nat->Prop}{w:World} (hs:∀ b,b < w.heap.size->H' b->H b):∀ {t:RI}{k:Int}{n:Nat}{c:Int}{x:Sl},IV H w t k n c x->IV H' w t k n c x
 | .mk kind num char box,k,n,c,x,g=>by
  rw [IV] at g ⊢
  obtain ⟨g1,g2,g3,g4,g5⟩:=g
  refine ⟨g1,g2,g3,g4,?_⟩
  rcases g5 with g5 | ⟨b,o,g5,hn,g6⟩
  ·exact .inl g5
  ·cases box with
   | nil=>exact .inl ⟨rfl,trivial⟩
   | cons a ar =>
    have hl:b < w.heap.size:=by rw [PVs] at g6;obtain ⟨⟨_,_,_,h9,_⟩,_⟩:=g6;exact h9.lt
    exact .inr ⟨b,o,g5,fun e=>hn (hs b hl e),PVs.sub hs g6⟩
theorem PVs.sub {H H':Nat->Prop}{w:World} (hs:∀ b,b < w.heap.size->H' b->H b){b:Nat}:∀ {o:Nat}{ts:List RP},PVs H w b o ts->PVs H' w b o ts
 | _,[],_=>by rw [PVs];trivial
 | o,t::ts,g=>by
  rw [PVs] at g ⊢
  obtain ⟨⟨h,x,f,c0,g1⟩,g2⟩:=g
  exact ⟨⟨h,x,f,c0,PV.sub hs g1⟩,PVs.sub hs g2⟩
end
theorem PV.arg {H:Nat->Prop}{w W:World}{t:RP}{h x:Sl}{f:Int} (g:PV H w t h x f) (hb:Below w.heap.size w W):PV (Hole H w W) W t h x f:=by
 have g2:PV (Hole H w W) w t h x f:=PV.sub (fun b hl e=>by
  rcases e with e | ⟨e,_⟩
  ·exact e
  ·omega) g
 exact PV.lat (Lat.below hb) g2
theorem IVs.at_ {H:Nat->Prop}{w:World}{b:Nat}:∀ {ts:List RI}{o i:Nat} (hi:i < ts.length),IVs H w b o ts->∃ k n c x,At4 w b (o+i*4) k n c x/\IV H w ts[i] k n c x
 | [],_,_,hi,_=>by simp at hi
 | t::ts,o,0,_,g=>by
  rw [IVs] at g
  simpa using g.1
 | t::ts,o,i+1,hi,g=>by
  rw [IVs] at g
  have:=IVs.at_ (ts:=ts) (o:=o+4) (i:=i) (by simpa using hi) g.2
  have e:o+4+i*4=o+(i+1)*4:=by omega
  rw [e] at this
  simpa using this
theorem Qqm {H:Nat->Prop}{w:World}{b:Nat}:∀ (ts:List RI) (o:Nat),(∀ i (h:i < ts.length),∃ k n c x,At4 w b (o+i*4) k n c x/\IV H w ts[i] k n c x)->IVs H w b o ts
 | [],_,_=>by rw [IVs];trivial
 | t::ts,o,g=>by
  rw [IVs]
  refine ⟨?_,Qqm ts (o+4) fun i hi=>?_⟩
  ·have:=g 0 (by simp);simpa using this
  ·have:=g (i+1) (by simpa using hi)
   have e:o+(i+1)*4=o+4+i*4:=by omega
   rw [e] at this
   simpa using this
theorem PVs.at_ {H:Nat->Prop}{w:World}{b:Nat}:∀ {ts:List RP}{o i:Nat} (hi:i < ts.length),PVs H w b o ts->∃ h x f,At3 w b (o+i*3) h x f/\PV H w ts[i] h x f
 | [],_,_,hi,_=>by simp at hi
 | t::ts,o,0,_,g=>by
  rw [PVs] at g
  simpa using g.1
 | t::ts,o,i+1,hi,g=>by
  rw [PVs] at g
  have:=PVs.at_ (ts:=ts) (o:=o+3) (i:=i) (by simpa using hi) g.2
  have e:o+3+i*3=o+(i+1)*3:=by omega
  rw [e] at this
  simpa using this
theorem Qms {H:Nat->Prop}{w:World}{b:Nat}:∀ (ts:List RP) (o:Nat),(∀ i (h:i < ts.length),∃ h x f,At3 w b (o+i*3) h x f/\PV H w ts[i] h x f)->PVs H w b o ts
 | [],_,_=>by rw [PVs];trivial
 | t::ts,o,g=>by
  rw [PVs]
  refine ⟨?_,Qms ts (o+3) fun i hi=>?_⟩
  ·have:=g 0 (by simp);simpa using this
  ·have:=g (i+1) (by simpa using hi)
   have e:o+(i+1)*3=o+3+i*3:=by omega
   rw [e] at this
   simpa using this
theorem PV.open_ {H:Nat->Prop}{w:World}{s:List Int}{items:List RI}{fill:Int}{h x:Sl}{f:Int} (g:PV H w (.mk s items fill) h x f) :
  RdH H w (sv h) (s.map (Value.int .i64))/\f=fill/\x.2.1=items.length/\∀ i (hi:i < items.length),∃ b o k n c y,x.1=some ⟨b,o,none⟩/\¬ H b/\IV H w items[i] k n c y/\∀ w1,Lat H w w1->At4 w1 b (o+i*4) k n c y:=by
 rw [PV] at g
 obtain ⟨g1,g2,g3,g4⟩:=g
 refine ⟨g1,g2,g3,fun i hi=>?_⟩
 rcases g4 with ⟨rfl,_⟩ | ⟨b,o,g5,hn,g6⟩
 ·simp at hi
 ·obtain ⟨k,n,c,y,c0,g7⟩:=IVs.at_ hi g6
  exact ⟨b,o,k,n,c,y,g5,hn,g7,fun w1 l=>c0.lat hn l⟩
theorem QkN {H:Nat->Prop}{w:World}{s:List Int}{items:List RI}{fill:Int}{h x:Sl} (h1:RdH H w (sv h) (s.map (Value.int .i64))) (h2:x.2.1=items.length)
  (h3:∀ i (hi:i < items.length),∃ b o k n c y,x.1=some ⟨b,o,none⟩/\¬ H b/\IV H w items[i] k n c y/\At4 w b (o+i*4) k n c y) :
  PV H w (.mk s items fill) h x fill:=by
 rw [PV]
 refine ⟨h1,rfl,h2,?_⟩
 cases items with
 | nil=>exact .inl ⟨rfl,trivial⟩
 | cons a ar =>
  obtain ⟨b,o,_,_,_,_,e0,hn0,_⟩:=h3 0 (by simp)
  refine .inr ⟨b,o,e0,hn0,Qqm _ _ fun i hi=>?_⟩
  obtain ⟨b',o',k,n,c,y,e',_,g1,c0⟩:=h3 i hi
  rw [e0] at e'
  injection e' with e'
  injection e' with e1 e2 _
  subst e1;subst e2
  exact ⟨k,n,c,y,c0,g1⟩
theorem IV.open_ {H:Nat->Prop}{w:World}{kind:Int}{num:Nat}{char:Int}{box:List RP}{k:Int}{n:Nat}{c:Int}{x:Sl} (g:IV H w (.mk kind num char box) k n c x) :
  k=kind/\n=num/\c=char/\x.2.1=box.length/\∀ i (hi:i < box.length),∃ b o h y f,x.1=some ⟨b,o,none⟩/\¬ H b/\PV H w box[i] h y f/\∀ w1,Lat H w w1->At3 w1 b (o+i*3) h y f:=by
 rw [IV] at g
 obtain ⟨g1,g2,g3,g4,g5⟩:=g
 refine ⟨g1,g2,g3,g4,fun i hi=>?_⟩
 rcases g5 with ⟨rfl,_⟩ | ⟨b,o,g6,hn,g7⟩
 ·simp at hi
 ·obtain ⟨h,y,f,c0,g8⟩:=PVs.at_ hi g7
  exact ⟨b,o,h,y,f,g6,hn,g8,fun w1 l=>c0.lat hn l⟩
theorem Qbr (H:Nat->Prop) (w:World) (k:Int) (n:Nat) (c:Int) (a:Option Addr) (cc:Nat):IV H w (.mk k n c []) k n c (a,0,cc):=by
 rw [IV];exact ⟨rfl,rfl,rfl,rfl,.inl ⟨rfl,trivial⟩⟩
theorem QjM {H:Nat->Prop}{w:World}{k:Int}{n:Nat}{c:Int}{t:RP}{b o cc:Nat}{h y:Sl}{f:Int} (hn:¬ H b) (g:PV H w t h y f) (c0:At3 w b o h y f) :
  IV H w (.mk k n c [t]) k n c (some ⟨b,o,none⟩,1,cc):=by
 rw [IV]
 refine ⟨rfl,rfl,rfl,rfl,.inr ⟨b,o,rfl,hn,?_⟩⟩
 rw [PVs,PVs]
 exact ⟨⟨h,y,f,c0,g⟩,trivial⟩
mutual
def cntP:RP->Nat
 | .mk s items _=>items.length+s.length+1+QaH items
def QaH:List RI->Nat
 | []=>0
 | t::ts=>cntI t+QaH ts
def cntI:RI->Nat
 | .mk _ _ _ box=>Qa3 box
def Qa3:List RP->Nat
 | []=>0
 | t::ts=>cntP t+Qa3 ts
end
theorem QdC (t:RP):1<=cntP t:=by cases t;rw [cntP];omega
theorem QbF:∀ {ts:List RI}{i:Nat} (hi:i < ts.length),cntI ts[i]<=QaH ts
 | [],_,hi=>by simp at hi
 | t::ts,0,_=>by rw [QaH];simp
 | t::ts,i+1,hi=>by have:=QbF (ts:=ts) (i:=i) (by simpa using hi);rw [QaH];simp;omega
theorem Qcw:∀ {ts:List RP}{i:Nat} (hi:i < ts.length),cntP ts[i]<=Qa3 ts
 | [],_,hi=>by simp at hi
 | t::ts,0,_=>by rw [Qa3];simp
 | t::ts,i+1,hi=>by have:=Qcw (ts:=ts) (i:=i) (by simpa using hi);rw [Qa3];simp;omega
theorem Qf3:∀ (ts:List RI) (i:Nat) (hi:i < ts.length),QaH (ts.take (i+1))=QaH (ts.take i)+cntI ts[i]
 | [],_,hi=>by simp at hi
 | t::ts,0,_=>by simp [QaH]
 | t::ts,i+1,hi=>by
  have:=Qf3 ts i (by simpa using hi)
  simp only [List.take_succ_cons,QaH,List.getElem_cons_succ]
  omega
theorem Qf4:∀ (ts:List RP) (i:Nat) (hi:i < ts.length),Qa3 (ts.take (i+1))=Qa3 (ts.take i)+cntP ts[i]
 | [],_,hi=>by simp at hi
 | t::ts,0,_=>by simp [Qa3]
 | t::ts,i+1,hi=>by
  have:=Qf4 ts i (by simpa using hi)
  simp only [List.take_succ_cons,Qa3,List.getElem_cons_succ]
  omega
theorem QjN:∀ (ts:List RI) (i:Nat),QaH (ts.take i)<=QaH ts
 | [],i=>by simp
 | t::ts,0=>by simp [QaH]
 | t::ts,i+1=>by have:=QjN ts i;simp only [List.take_succ_cons,QaH];omega
theorem QjO:∀ (ts:List RP) (i:Nat),Qa3 (ts.take i)<=Qa3 ts
 | [],i=>by simp
 | t::ts,0=>by simp [Qa3]
 | t::ts,i+1=>by have:=QjO ts i;simp only [List.take_succ_cons,Qa3];omega
def prodN:List Nat->Nat
 | []=>1
 | d::s=>d*prodN s
def prod1:List Nat->Nat
 | []=>1
 | d::s=>max 1 d*prod1 s
theorem QhC (s:List Nat):1<=prod1 s:=by
 induction s with
 | nil=>exact Nat.le_refl _
 | cons d s ih=>exact Nat.mul_pos (by omega) ih
theorem QjP (s:List Nat):prodN s<=prod1 s:=by
 induction s with
 | nil=>exact Nat.le_refl _
 | cons d s ih=>exact Nat.mul_le_mul (by omega) ih
theorem Qf5 {s:List Nat} (h:0∈s):prodN s=0:=by
 induction s with
 | nil=>cases h
 | cons d s ih =>
  cases List.mem_cons.1 h with
  | inl e=>subst e;simp [prodN]
  | inr e=>simp [prodN,ih e]
theorem QjQ {s:List Nat} (h:0 ∉ s):prodN s=prod1 s:=by
 induction s with
 | nil=>rfl
 | cons d s ih =>
  have h1:d≠0:=fun e=>h (by simp [e])
  have h2:0 ∉ s:=fun e=>h (by simp [e])
  show d*_=max 1 d*_
  rw [ih h2,Nat.max_eq_right (by omega)]
def OkSh (s:List Nat) (n:Nat):Prop:=s.length<=8/\prod1 s<=1048576/\prodN s=n
theorem OkSh.le {s:List Nat}{n:Nat} (h:OkSh s n):n<=1048576:=by
 have:=QjP s;have:=h.2.1;have:=h.2.2;omega
mutual
def OkP:Nat->RP->Prop
 | d,.mk s items fill=>0 < d/\(fill=0\/fill=1\/fill=2)/\(∃ sn:List Nat,s=sn.map Int.ofNat/\OkSh sn items.length)/\OkIs d fill items
def OkIs:Nat->Int->List RI->Prop
 | _,_,[]=>True
 | d,fill,t::ts=>OkI d fill t/\OkIs d fill ts
def OkI:Nat->Int->RI->Prop
 | d,fill,.mk k n _ box=>k=fill/\(k=0->okF n=true/\n < 18446744073709551616)/\(k=2->box.length=1/\OkPs (d - 1) box)
def OkPs:Nat->List RP->Prop
 | _,[]=>True
 | d,t::ts=>OkP d t/\OkPs d ts
end
theorem QcK {d:Nat}{fill:Int}:∀ {ts:List RI}{i:Nat} (hi:i < ts.length),OkIs d fill ts->OkI d fill ts[i]
 | [],_,hi,_=>by simp at hi
 | t::ts,0,_,h=>by rw [OkIs] at h;exact h.1
 | t::ts,i+1,hi,h=>by rw [OkIs] at h;simpa using QcK (ts:=ts) (i:=i) (by simpa using hi) h.2
theorem Qfc {d:Nat}{fill:Int}:∀ (ts:List RI),(∀ i (hi:i < ts.length),OkI d fill ts[i])->OkIs d fill ts
 | [],_=>by rw [OkIs];trivial
 | t::ts,h=>by
  rw [OkIs]
  exact ⟨by have:=h 0 (by simp);simpa using this,Qfc ts fun i hi=>by have:=h (i+1) (by simpa using hi);simpa using this⟩
mutual
def FitP:RP->Prop
 | .mk _ items _=>Qev items
def Qev:List RI->Prop
 | []=>True
 | t::ts=>FitI t/\Qev ts
def FitI:RI->Prop
 | .mk _ n _ box=>n < 18446744073709551616/\QgP box
def QgP:List RP->Prop
 | []=>True
 | t::ts=>FitP t/\QgP ts
end
theorem QeI:∀ {ts:List RI}{i:Nat} (hi:i < ts.length),Qev ts->FitI ts[i]
 | [],_,hi,_=>by simp at hi
 | t::ts,0,_,h=>by rw [Qev] at h;exact h.1
 | t::ts,i+1,hi,h=>by rw [Qev] at h;simpa using QeI (ts:=ts) (i:=i) (by simpa using hi) h.2
theorem QjR:∀ {ts:List RP}{i:Nat} (hi:i < ts.length),QgP ts->FitP ts[i]
 | [],_,hi,_=>by simp at hi
 | t::ts,0,_,h=>by rw [QgP] at h;exact h.1
 | t::ts,i+1,hi,h=>by rw [QgP] at h;simpa using QjR (ts:=ts) (i:=i) (by simpa using hi) h.2
def RI.numOf:RI->Nat | .mk _ n _ _=>n
def RI.charOf:RI->Int | .mk _ _ c _=>c
mutual
def clP:RP->PA
 | .mk s items fill=>if fill=0 then .nums (s.map Int.toNat) (items.map fun t=>tidF t.numOf) else if fill=1 then .chars (s.map Int.toNat) (items.map RI.charOf) else .boxes (s.map Int.toNat) (clIs items)
def clIs:List RI->List PA
 | []=>[]
 | t::ts=>clI t::clIs ts
def clI:RI->PA
 | .mk _ _ _ box=>clPs box
def clPs:List RP->PA
 | [] => .nums [] []
 | t::_=>clP t
end
theorem QbM:∀ ts:List RI,(clIs ts).length=ts.length
 | []=>by rw [clIs];rfl
 | t::ts=>by rw [clIs];simp [QbM ts]
theorem QiO:∀ {ts:List RI}{i:Nat} (hi:i < ts.length) (h2:i < (clIs ts).length),(clIs ts)[i]=clI ts[i]
 | [],_,hi,_=>by simp at hi
 | t::ts,0,_,_=>by simp [clIs]
 | t::ts,i+1,hi,h2=>by
  have:=QiO (ts:=ts) (i:=i) (by simpa using hi) (by rw [QbM];simpa using hi)
  simp only [clIs,List.getElem_cons_succ]
  exact this
mutual
def rawP:PA->RP
 | .nums s l => .mk (s.map Int.ofNat) (l.map fun x => .mk 0 x 0 []) 0
 | .chars s l => .mk (s.map Int.ofNat) (l.map fun c => .mk 1 0 c []) 1
 | .boxes s l => .mk (s.map Int.ofNat) (Qbs l) 2
def Qbs:List PA->List RI
 | []=>[]
 | a::ar => .mk 2 0 0 [rawP a]::Qbs ar
end
theorem Qbe:∀ l:List PA,(Qbs l).length=l.length
 | []=>by rw [Qbs];rfl
 | a::ar=>by rw [Qbs];simp [Qbe ar]
theorem QcY:∀ {l:List PA}{i:Nat} (hi:i < l.length) (h2:i < (Qbs l).length),(Qbs l)[i]= .mk 2 0 0 [rawP l[i]]
 | [],_,hi,_=>by simp at hi
 | a::ar,0,_,_=>by simp [Qbs]
 | a::ar,i+1,hi,h2=>by
  have:=QcY (l:=ar) (i:=i) (by simpa using hi) (by rw [Qbe];simpa using hi)
  simp only [Qbs,List.getElem_cons_succ]
  exact this
mutual
def GoodA:Nat->PA->Prop
 | d,.nums s l=>0 < d/\OkSh s l.length/\∀ x∈l,TF x
 | d,.chars s l=>0 < d/\OkSh s l.length
 | d,.boxes s l=>0 < d/\OkSh s l.length/\GoodAs (d - 1) l
def GoodAs:Nat->List PA->Prop
 | _,[]=>True
 | d,a::ar=>GoodA d a/\GoodAs d ar
end
theorem QhD {d:Nat}:∀ {l:List PA}{i:Nat} (hi:i < l.length),GoodAs d l->GoodA d l[i]
 | [],_,hi,_=>by simp at hi
 | a::ar,0,_,h=>by rw [GoodAs] at h;exact h.1
 | a::ar,i+1,hi,h=>by rw [GoodAs] at h;simpa using QhD (l:=ar) (i:=i) (by simpa using hi) h.2
theorem QhE {d:Nat}:∀ (l:List PA),(∀ i (hi:i < l.length),GoodA d l[i])->GoodAs d l
 | [],_=>by rw [GoodAs];trivial
 | a::ar,h=>by
  rw [GoodAs]
  exact ⟨by have:=h 0 (by simp);simpa using this,QhE ar fun i hi=>by have:=h (i+1) (by simpa using hi);simpa using this⟩
theorem GoodA.sh {d:Nat}{a:PA} (h:GoodA d a):0 < d/\OkSh a.shape a.len:=by
 cases a <;> (rw [GoodA] at h;first | exact ⟨h.1,h.2.1⟩ | exact h)
theorem GoodA.nums {d:Nat}{s l:List Nat} (h:GoodA d (.nums s l)):∀ j,j < l.length->TF (l.getD j 0):=by
 rw [GoodA] at h
 intro j hj
 have e:l.getD j 0=l[j]:=by simp [List.getD,hj]
 rw [e]
 exact h.2.2 _ (List.getElem_mem hj)
theorem GoodA.boxes {d:Nat}{s:List Nat}{l:List PA} (h:GoodA d (.boxes s l)):∀ i (hi:i < l.length),GoodA (d - 1) l[i]:=by
 rw [GoodA] at h
 exact fun i hi=>QhD hi h.2.2
mutual
theorem GoodA.up {d d':Nat} (hd:d<=d'):∀ (a:PA),GoodA d a->GoodA d' a
 | .nums s l,h=>by rw [GoodA] at h ⊢;exact ⟨by omega,h.2⟩
 | .chars s l,h=>by rw [GoodA] at h ⊢;exact ⟨by omega,h.2⟩
 | .boxes s l,h=>by rw [GoodA] at h ⊢;exact ⟨by omega,h.2.1,GoodAs.up (by omega) l h.2.2⟩
theorem GoodAs.up {d d':Nat} (hd:d<=d'):∀ (l:List PA),GoodAs d l->GoodAs d' l
 | [],_=>by rw [GoodAs];trivial
 | a::ar,h=>by rw [GoodAs] at h ⊢;exact ⟨GoodA.up hd a h.1,GoodAs.up hd ar h.2⟩
end
theorem Qb4 (sn:List Nat):(sn.map Int.ofNat).map Int.toNat=sn:=by
 rw [List.map_map]
 have:(Int.toNat∘Int.ofNat)=id:=by funext x;rfl
 rw [this,List.map_id]
theorem Qqn {n:Nat} (h:okF n=true) (hb:n < 18446744073709551616):TF (tidF n):=by
 unfold okF at h
 rcases Qa9 hb with ⟨c,hc,e4⟩ | e4
 ·unfold tidF;rw [e4];exact hc
 ·rw [e4] at h;exact absurd h (by decide)
mutual
theorem Qcx:∀ (d:Nat) (t:RP),OkP d t->GoodA d (clP t)
 | d,.mk s items fill,h=>by
  rw [OkP] at h
  obtain ⟨hd,hf,⟨sn,rfl,hs⟩,hi⟩:=h
  rw [clP,Qb4]
  rcases hf with rfl | rfl | rfl
  ·rw [if_pos rfl,GoodA]
   refine ⟨hd,by rw [List.length_map];exact hs,fun x hx=>?_⟩
   obtain ⟨t,ht,rfl⟩:=List.mem_map.1 hx
   obtain ⟨i,hi2,rfl⟩:=List.getElem_of_mem ht
   have hk:=QcK hi2 hi
   generalize items[i]=t at hk ⊢
   cases t with
   | mk k n c box =>
    rw [OkI] at hk
    obtain ⟨rfl,h1,_⟩:=hk
    exact Qqn (h1 rfl).1 (h1 rfl).2
  ·rw [if_neg (by decide),if_pos rfl,GoodA]
   exact ⟨hd,by rw [List.length_map];exact hs⟩
  ·rw [if_neg (by decide),if_neg (by decide),GoodA]
   exact ⟨hd,by rw [QbM];exact hs,QhF d items hi⟩
theorem QhF:∀ (d:Nat) (ts:List RI),OkIs d 2 ts->GoodAs (d - 1) (clIs ts)
 | _,[],_=>by rw [clIs,GoodAs];trivial
 | d,t::ts,h=>by
  rw [OkIs] at h
  rw [clIs,GoodAs]
  exact ⟨Qpa d t h.1,QhF d ts h.2⟩
theorem Qpa:∀ (d:Nat) (t:RI),OkI d 2 t->GoodA (d - 1) (clI t)
 | d,.mk k n c box,h=>by
  rw [OkI] at h
  obtain ⟨rfl,_,h2⟩:=h
  rw [clI]
  exact Qmt (d - 1) box (h2 rfl).1 (h2 rfl).2
theorem Qmt:∀ (d:Nat) (ts:List RP),ts.length=1->OkPs d ts->GoodA d (clPs ts)
 | _,[],h,_=>by simp at h
 | d,t::ts,_,h=>by
  rw [OkPs] at h
  rw [clPs]
  exact Qcx d t h.1
end
def QbX (s:List Nat) (most:Int):Int×Int :=
 if 8 < s.length then (0,26) else if 1048576 < prod1 s then (0,26) else if most < (prodN s:Int) then (0,26) else ((prodN s:Int),0)
theorem QkO (s:List Nat) (d:Nat):prod1 (s++[d])=prod1 s*max 1 d:=by
 induction s with
 | nil=>simp [prod1]
 | cons x s ih=>simp only [List.cons_append,prod1,ih,Nat.mul_assoc]
theorem QcZ (s:List Nat) (k:Nat) (h:k < s.length):prod1 (s.take (k+1))=prod1 (s.take k)*max 1 s[k]:=by
 rw [List.take_succ_eq_append_getElem h,QkO]
theorem QhG (s t:List Nat):prod1 (s++t)=prod1 s*prod1 t:=by
 induction s with
 | nil=>simp [prod1]
 | cons x s ih=>simp only [List.cons_append,prod1,ih,Nat.mul_assoc]
theorem QdD (s:List Nat) (k:Nat):prod1 (s.take k)<=prod1 s:=by
 have h:=QhG (s.take k) (s.drop k)
 rw [List.take_append_drop] at h
 rw [h]
 exact Nat.le_mul_of_pos_right _ (QhC _)
theorem Qc0 {s:List Nat}{k:Nat} (h:k < s.length):s[k]<=prod1 s:=by
 have h1:=QcZ s k h
 have h2:=QdD s (k+1)
 have h3:=QhC (s.take k)
 have h4:s[k]<=prod1 (s.take k)*max 1 s[k]:=Nat.le_trans (Nat.le_max_right 1 _) (Nat.le_mul_of_pos_left _ h3)
 omega
theorem QiP (s:List Nat) (most:Int):(QbX s most=(0,26)/\(8 < s.length\/1048576 < prod1 s\/most < (prodN s:Int))) \/
  (QbX s most=((prodN s:Int),0)/\OkSh s (prodN s)/\(prodN s:Int)<=most):=by
 unfold QbX
 split
 ·rename_i h;exact .inl ⟨rfl,.inl h⟩
 ·split
  ·rename_i h;exact .inl ⟨rfl,.inr (.inl h)⟩
  ·split
   ·rename_i h;exact .inl ⟨rfl,.inr (.inr h)⟩
   ·rename_i h1 h2 h3;exact .inr ⟨rfl,⟨by omega,by omega,rfl⟩,by omega⟩
theorem QdE {s:List Nat}{n:Nat} (h:OkSh s n){most:Int} (hm:(n:Int)<=most):QbX s most=((n:Int),0):=by
 obtain ⟨h1,h2,rfl⟩:=h
 unfold QbX
 rw [if_neg (by omega),if_neg (by omega),if_neg (by omega)]
theorem QrD {s:List Int} (h:¬ ∃ d∈s,d < 0):s=(s.map Int.toNat).map Int.ofNat:=by
 rw [List.map_map]
 symm
 rw [List.map_congr_left (g:=id),List.map_id]
 intro d hd
 have:0<=d:=by
  by_cases h0:d < 0
  ·exact absurd ⟨d,hd,h0⟩ h
  ·omega
 exact Int.toNat_of_nonneg this
theorem QgQ {w:World}{v:Value}{s:List Nat} (h:Reads1 w v (s.map fun n:Nat => .int .i64 (n:Int))):∃ A n c,v= .slice A n c/\n=s.length /\
  ∀ i (hi:i < s.length),∃ b o,A=some ⟨b,o,none⟩/\w.cell? ⟨b,o+i,none⟩=some (.int .i64 (s[i]:Nat)):=by
 rcases h with ⟨a,c,rfl,h0⟩ | ⟨b,o,n,c,rfl,hn,hc⟩
 ·have:s=[]:=by simpa using h0
  subst this
  exact ⟨a,0,c,rfl,rfl,fun i hi=>by simp at hi⟩
 ·rw [List.length_map] at hn
  refine ⟨_,n,c,rfl,hn,fun i hi=>⟨b,o,rfl,?_⟩⟩
  have:=hc i (by simpa using hi)
  rw [this]
  simp
theorem QjS {s:List Nat}{k:Nat} (h:k < s.length):(0∈s.take (k+1))↔(0∈s.take k\/s[k]=0):=by
 rw [List.take_succ_eq_append_getElem h,List.mem_append,List.mem_singleton]
 constructor
 ·rintro (h | h)
  ·exact .inl h
  ·exact .inr h.symm
 ·rintro (h | h)
  ·exact .inl h
  ·exact .inr h.symm
theorem Qmu {s:List Nat}{most:Int} (h:8 < s.length):QbX s most=(0,26):=if_pos h
theorem Qfd {s:List Nat}{most:Int} (h:1048576 < prod1 s):QbX s most=(0,26):=by
 unfold QbX
 rw [if_pos h]
 split <;> rfl
theorem Qc1 {s:List Nat}{most:Int} (h:most < (prodN s:Int)):QbX s most=(0,26):=by
 unfold QbX
 rw [if_pos h]
 split
 ·rfl
 ·split <;> rfl
theorem QdF {s:List Nat}{most:Int} (h8:¬ 8 < s.length) (h1:prod1 s<=1048576) (hm:¬ most < (prodN s:Int)):QbX s most=((prodN s:Int),0):=by
 unfold QbX
 rw [if_neg h8,if_neg (by omega),if_neg hm]
theorem QjT {s:List Nat}{k:Nat} (h:k < s.length) (hb:1048576 < prod1 (s.take k)*max 1 s[k]):1048576 < prod1 s:=by
 have h1:=QdD s (k+1)
 rw [QcZ s k h] at h1
 omega
theorem Qfe (v:Value) (s:List Nat) (most:Int) (w:World) (hv:Reads1 w v (s.map fun n:Nat => .int .i64 (n:Int))) (hl:s.length<=1048576) :
  Calls Tryz.prog 99 #[v,.int .i64 most] w fun e w'=>e= .returned (.tuple #[.int .i64 (QbX s most).1,.int .i64 (QbX s most).2])/\w=w':=by
 obtain ⟨A,n,c,rfl,hn,hcell⟩:=QgQ hv
 obtain ⟨R,hR⟩:∃ R,R=QbX s most:=⟨_,rfl⟩
 rw [<- hR]
 have HR:=hD hR
 have HN:=hD hn
 have HC:=hD hcell
 have hnb:n<=1048576:=by omega
 clear hv hl hn hcell hR
 by_cases h8:8 < n
 ·have HE:Hid (R=(0,26)):=by unfold Hid;rw [HR.out];exact Qmu (by have:=HN.out;omega)
  have h8':(8:Int) < (n:Int):=by omega
  clear h8
  go_enter Tryz.func99,Tryz.ntmps99
  go_wp2
  go_ret2
  exact ⟨by rw [HE.out];rfl,rfl⟩
 ·have h8':¬ (8:Int) < (n:Int):=by omega
  have HPZ:Hid (∀ k (hk:k < s.length),prod1 (s.take (k+1))=prod1 (s.take k)*max 1 s[k]):=fun k hk=>QcZ s k hk
  have HTM:Hid (∀ k (hk:k < s.length),(0∈s.take (k+1))↔(0∈s.take k\/s[k]=0)):=fun k hk=>QjS hk
  have HEL:Hid (∀ k (hk:k < s.length),s[k]<=prod1 s):=fun k hk=>Qc0 hk
  have HLT:Hid (∀ k (hk:k < s.length),1048576 < prod1 (s.take k)*max 1 s[k]->1048576 < prod1 s):=fun k hk h=>QjT hk h
  have HTK:Hid (s.take n=s):=by unfold Hid;rw [HN.out];exact List.take_length
  go_enter Tryz.func99,Tryz.ntmps99
  go_wp2
  go_loopw [7,8] (fun z i wr=>∃ (k:Nat) (t:Bool),k<=n/\i= .int .i64 (k:Int)/\z= .bool t/\Hid (t=decide (0∈s.take k))/\w=wr) (fun _ i _=>n - (intOf i).toNat)
  case atStart=>exact ⟨0,false,Nat.zero_le _,rfl,rfl,by simp [Hid],rfl⟩
  case round =>
   obtain ⟨k,t,hk,rfl,rfl,ht,rfl⟩:=hrel
   by_cases hlt:k < n
   ·have hks:k < s.length:=by have:=HN.out;omega
    obtain ⟨b,o,rfl,hce⟩:=HC.out k hks
    have HT:=hD (HTM.out k hks)
    generalize s[k]=d at hce HT
    have hd0:¬ (d:Int) < 0:=by omega
    have hlt2:(k:Int) < (n:Int):=by omega
    cases t with
    | true =>
     have HT2:Hid (true=decide (0∈s.take (k+1))):=by unfold Hid;symm;exact decide_eq_true (HT.out.2 (.inl (of_decide_eq_true ht.out.symm)))
     clear ht HT
     go_wp2
     go_roundw
     case rel=>exact ⟨k+1,true,by omega,by go_num,rfl,HT2.out,by trivial⟩
     case measure=>simp [intOf];omega
    | false =>
     by_cases hz:d=0
     ·have HT2:Hid (true=decide (0∈s.take (k+1))):=by unfold Hid;symm;exact decide_eq_true (HT.out.2 (.inr hz))
      subst hz
      clear ht HT
      go_wp2
      go_roundw
      case rel=>exact ⟨k+1,true,by omega,by go_num,rfl,HT2.out,by trivial⟩
      case measure=>simp [intOf];omega
     ·have HT2:Hid (false=decide (0∈s.take (k+1))):=by
       unfold Hid;symm
       refine decide_eq_false fun h=>?_
       rcases HT.out.1 h with h | h
       ·exact of_decide_eq_false ht.out.symm h
       ·exact hz h
      have hz2:((d:Int)==0)=false:=by simp;omega
      clear ht HT hz
      go_wp2
      go_roundw
      case rel=>exact ⟨k+1,false,by omega,by go_num,rfl,HT2.out,by trivial⟩
      case measure=>simp [intOf];omega
   ·have hge:¬ (k:Int) < (n:Int):=by omega
    have HZ:Hid (t=decide (0∈s)):=by unfold Hid;rw [ht.out,show k=n by omega,HTK.out]
    clear ht HTM hlt
    go_wp2
    go_loopw [6,9] (fun p i wr=>∃ (k q:Nat),k<=n/\i= .int .i64 (k:Int)/\p= .int .i64 (q:Int)/\q<=1048576/\1<=q/\Hid (q=prod1 (s.take k))/\w=wr) (fun _ i _=>n - (intOf i).toNat)
    case atStart=>exact ⟨0,1,Nat.zero_le _,rfl,rfl,by omega,by omega,rfl,rfl⟩
    case round =>
     obtain ⟨k,q,hk,rfl,rfl,hq,hq1,hp,rfl⟩:=hrel
     by_cases hlt:k < n
     ·have hks:k < s.length:=by have:=HN.out;omega
      obtain ⟨b,o,rfl,hce⟩:=HC.out k hks
      have HP:=hD (HPZ.out k hks)
      have HE:=hD (HEL.out k hks)
      have HL:=hD (HLT.out k hks)
      rw [<- hp.out] at HP HL
      generalize s[k]=d at hce HP HE HL
      have hlt2:(k:Int) < (n:Int):=by omega
      by_cases hbig:1048576 < d
      ·have HX:Hid (R=(0,26)):=by unfold Hid;rw [HR.out];exact Qfd (by have:=HE.out;omega)
       have hbig2:(1048576:Int) < (d:Int):=by omega
       clear hp HP HE HL hbig
       go_wp2
       go_ret2
       exact ⟨by rw [HX.out];rfl,rfl⟩
      ·have hbig2:¬ (1048576:Int) < (d:Int):=by omega
       by_cases hz:d=0
       ·have HQ:Hid (q=prod1 (s.take (k+1))):=by unfold Hid;rw [HP.out,hz];simp
        subst hz
        have hq2:¬ (1048576:Int) < (q:Int):=by omega
        clear hp HP HE HL hbig
        go_wp2
        go_roundw
        case rel=>exact ⟨k+1,q,by omega,by go_num,rfl,hq,hq1,HQ.out,by trivial⟩
        case measure=>simp [intOf];omega
       ·have hz2:0 < (d:Int):=by omega
        obtain ⟨m,hm⟩:∃ m,m=q*d:=⟨_,rfl⟩
        have hm2:(q:Int)*(d:Int)=(m:Int):=by rw [hm];push_cast;rfl
        have hmb:m<=1099511627776:=by rw [hm];exact Nat.le_trans (Nat.mul_le_mul hq (show d<=1048576 by omega)) (by decide)
        have hm1:1<=m:=by rw [hm];exact Nat.mul_pos hq1 (by omega)
        have HQ:Hid (m=prod1 (s.take (k+1))):=by unfold Hid;rw [HP.out,hm,Nat.max_eq_right (by omega)]
        by_cases hmm:1048576 < m
        ·have HX:Hid (R=(0,26)):=by
          unfold Hid;rw [HR.out]
          refine Qfd (HL.out ?_)
          rw [Nat.max_eq_right (by omega),<- hm];exact hmm
         have hmm2:(1048576:Int) < (m:Int):=by omega
         clear hp HP HE HL hbig hm hz hmm HQ
         go_wp2
         go_ret2
         exact ⟨by rw [HX.out];rfl,rfl⟩
        ·have hmm2:¬ (1048576:Int) < (m:Int):=by omega
         clear hp HP HE HL hbig hm hz
         go_wp2
         go_roundw
         case rel=>exact ⟨k+1,m,by omega,by go_num,rfl,by omega,hm1,HQ.out,by trivial⟩
         case measure=>simp [intOf];omega
     ·have hge:¬ (k:Int) < (n:Int):=by omega
      have HQ:Hid (q=prod1 s):=by unfold Hid;rw [hp.out,show k=n by omega,HTK.out]
      clear hp hlt
      cases t with
      | true =>
       have HP0:Hid (prodN s=0):=by unfold Hid;exact Qf5 (of_decide_eq_true HZ.out.symm)
       by_cases hmo:most < 0
       ·have HX:Hid (R=(0,26)):=by unfold Hid;rw [HR.out];exact Qc1 (by rw [HP0.out];exact hmo)
        clear HPZ HEL HLT HC
        go_wp2
        go_ret2
        exact ⟨by rw [HX.out];rfl,rfl⟩
       ·have HX:Hid (R=(0,0)):=by
         unfold Hid;rw [HR.out,QdF (by have:=HN.out;omega) (by rw [<- HQ.out];exact hq) (by rw [HP0.out];exact hmo),HP0.out];rfl
        clear HPZ HEL HLT HC
        go_wp2
        go_ret2
        exact ⟨by rw [HX.out];rfl,rfl⟩
      | false =>
       have HP0:Hid (prodN s=q):=by unfold Hid;rw [HQ.out];exact QjQ (of_decide_eq_false HZ.out.symm)
       by_cases hmo:most < (q:Int)
       ·have HX:Hid (R=(0,26)):=by unfold Hid;rw [HR.out];exact Qc1 (by rw [HP0.out];exact hmo)
        clear HPZ HEL HLT HC
        go_wp2
        go_ret2
        exact ⟨by rw [HX.out];rfl,rfl⟩
       ·have HX:Hid (R=((q:Int),0)):=by
         unfold Hid;rw [HR.out,QdF (by have:=HN.out;omega) (by rw [<- HQ.out];exact hq) (by rw [HP0.out];exact hmo),HP0.out]
        clear HPZ HEL HLT HC
        go_wp2
        go_ret2
        exact ⟨by rw [HX.out];rfl,rfl⟩
theorem QkP (v:Value) (s:List Nat) (w:World) (hv:Reads1 w v (s.map fun n:Nat => .int .i64 (n:Int))) (hl:s.length<=1048576) :
  Calls Tryz.prog 237 #[v,.int .i64 0] w fun e w'=>∃ z:Int,e= .returned (.int .i64 z)/\decide (0<=z)=decide (0∈s)/\w=w':=by
 obtain ⟨A,n,c,rfl,hn,hcell⟩:=QgQ hv
 have HN:=hD hn
 have HC:=hD hcell
 have hnb:n<=1048576:=by omega
 have HTM:Hid (∀ k (hk:k < s.length),(0∈s.take (k+1))↔(0∈s.take k\/s[k]=0)):=fun k hk=>QjS hk
 have HMM:Hid (∀ k (hk:k < s.length),s[k]∈s):=fun k hk=>List.getElem_mem hk
 have HTK:Hid (s.take n=s):=by unfold Hid;rw [hn];exact List.take_length
 clear hv hl hn hcell
 go_enter Tryz.func237,Tryz.ntmps237
 go_wp2
 go_loopw [5,8] (fun _ i wr=>∃ k:Nat,k<=n/\i= .int .i64 (k:Int)/\Hid (¬ 0∈s.take k)/\w=wr) (fun _ i _=>n - (intOf i).toNat)
 case atStart=>exact ⟨0,Nat.zero_le _,rfl,by simp [Hid],rfl⟩
 case round =>
  obtain ⟨k,hk,rfl,hno,rfl⟩:=hrel
  by_cases hlt:k < n
  ·have hks:k < s.length:=by have:=HN.out;omega
   obtain ⟨b,o,rfl,hce⟩:=HC.out k hks
   have HT:=hD (HTM.out k hks)
   have HM:=hD (HMM.out k hks)
   generalize s[k]=d at hce HT HM
   have hlt2:(k:Int) < (n:Int):=by omega
   by_cases hz:d=0
   ·have HY:Hid (decide (0<=(k:Int))=decide (0∈s)):=by
     unfold Hid
     have h1:=HM.out
     rw [hz] at h1
     rw [decide_eq_true h1]
     exact decide_eq_true (by omega)
    subst hz
    clear hno HT HM
    go_wp2
    go_ret
    exact ⟨_,rfl,HY.out,rfl⟩
   ·have HT2:Hid (¬ 0∈s.take (k+1)):=fun h=>by
     rcases HT.out.1 h with h | h
     ·exact hno.out h
     ·exact hz h
    have hz2:((0:Int)==(d:Int))=false:=by simp;omega
    clear hno HT HM hz
    go_wp2
    go_roundw
    case rel=>exact ⟨k+1,by omega,by go_num,HT2.out,by trivial⟩
    case measure=>simp [intOf];omega
  ·have hge:¬ (k:Int) < (n:Int):=by omega
   have HZ:Hid (decide ((0:Int)<=-1)=decide (0∈s)):=by
    unfold Hid
    have h1:=hno.out
    rw [show k=n by omega,HTK.out] at h1
    rw [decide_eq_false h1]
    rfl
   clear hno hlt
   go_wp2
   go_ret
   exact ⟨_,rfl,decide_eq_decide.1 HZ.out,rfl⟩
theorem QgR (v:Value) (s:List Nat) (w:World) (hv:Reads1 w v (s.map fun n:Nat => .int .i64 (n:Int))) (hl:s.length<=1048576) :
  Calls Tryz.prog 175 #[v,.int .i64 0] w fun e w'=>e= .returned (.bool (decide (0∈s)))/\w=w':=by
 have HI:=hD (QkP v s w hv hl)
 clear hv hl
 go_enter Tryz.func175,Tryz.ntmps175
 go_wp2_with fail
 refine HI.out.mono ?_
 rintro e w1 ⟨z,rfl,hz,rfl⟩
 have HZ:=hD hz
 clear hz
 go_wp2
 go_ret
 exact ⟨by rw [<- HZ.out];rfl,rfl⟩
theorem Qf6 (n:Nat) (most:Int) (hn:n<=1048576) (hm:¬ most < (n:Int)) (w:World):Calls Tryz.prog 176 #[.int .i64 (n:Int),.int .i64 most] w fun e w'=>e= .returned (.tuple #[.int .i64 (n:Int),.int .i64 0])/\w=w':=by
 have h1:¬ (1048576:Int) < (n:Int):=by omega
 go_enter Tryz.func176,Tryz.ntmps176
 go_wp2
 go_ret2
 exact ⟨rfl,rfl⟩
theorem QhH (n:Nat) (most:Int) (hm:most < (n:Int)) (w:World):Calls Tryz.prog 176 #[.int .i64 (n:Int),.int .i64 most] w fun e w'=>e= .returned (.tuple #[.int .i64 0,.int .i64 26])/\w=w':=by
 go_enter Tryz.func176,Tryz.ntmps176
 go_wp2
 go_ret2
 exact ⟨rfl,rfl⟩
theorem Qth {q d:Nat} (hq:1<=q):1048576 / q < d↔1048576 < q*d:=by
 rw [Nat.div_lt_iff_lt_mul (by omega),Nat.mul_comm]
theorem Qpb (a q:Nat):((a:Nat):Int).tdiv (q:Int)=((a / q:Nat):Int):=by
 rw [Int.tdiv_eq_ediv_of_nonneg (by omega)]
 exact (Int.natCast_ediv a q).symm
theorem Qpc (a q:Nat):((a:Nat):Int) / (q:Int)=((a / q:Nat):Int):=(Int.natCast_ediv a q).symm
theorem Qcy (v:Value) (s:List Nat) (most:Int) (w:World) (hv:Reads1 w v (s.map fun n:Nat => .int .i64 (n:Int))) (hl:s.length<=1048576) :
  Calls Tryz.prog 119 #[v,.int .i64 most] w fun e w'=>e= .returned (.tuple #[.int .i64 (QbX s most).1,.int .i64 (QbX s most).2])/\w=w':=by
 have HCT:=hD (QgR v s w hv hl)
 obtain ⟨A,n,c,rfl,hn,hcell⟩:=QgQ hv
 obtain ⟨R,hR⟩:∃ R,R=QbX s most:=⟨_,rfl⟩
 rw [<- hR]
 have HR:=hD hR
 have HN:=hD hn
 have HC:=hD hcell
 have hnb:n<=1048576:=by omega
 clear hv hl hn hcell hR
 by_cases h8:8 < n
 ·have HE:Hid (R=(0,26)):=by unfold Hid;rw [HR.out];exact Qmu (by have:=HN.out;omega)
  have h8':(8:Int) < (n:Int):=by omega
  clear h8
  go_enter Tryz.func119,Tryz.ntmps119
  go_wp2
  go_ret2
  exact ⟨by rw [HE.out];rfl,rfl⟩
 ·have h8':¬ (8:Int) < (n:Int):=by omega
  have HPZ:Hid (∀ k (hk:k < s.length),prod1 (s.take (k+1))=prod1 (s.take k)*max 1 s[k]):=fun k hk=>QcZ s k hk
  have HEL:Hid (∀ k (hk:k < s.length),s[k]<=prod1 s):=fun k hk=>Qc0 hk
  have HLT:Hid (∀ k (hk:k < s.length),1048576 < prod1 (s.take k)*max 1 s[k]->1048576 < prod1 s):=fun k hk h=>QjT hk h
  have HTK:Hid (s.take n=s):=by unfold Hid;rw [HN.out];exact List.take_length
  go_enter Tryz.func119,Tryz.ntmps119
  go_wp2
  go_loopw [7,16] (fun _ i wr=>∃ (k:Nat),k<=n/\i= .int .i64 (k:Int)/\w=wr) (fun _ i _=>n - (intOf i).toNat)
  case atStart=>exact ⟨0,Nat.zero_le _,rfl,rfl⟩
  case round =>
   obtain ⟨k,hk,rfl,rfl⟩:=hrel
   by_cases hlt:k < n
   ·have hks:k < s.length:=by have:=HN.out;omega
    obtain ⟨b,o,rfl,hce⟩:=HC.out k hks
    generalize s[k]=d at hce
    have hd0:¬ (d:Int) < 0:=by omega
    have hlt2:(k:Int) < (n:Int):=by omega
    go_wp2
    go_roundw
    case rel=>exact ⟨k+1,by omega,by go_num,by trivial⟩
    case measure=>simp [intOf];omega
   ·have hge:¬ (k:Int) < (n:Int):=by omega
    clear hlt
    go_wp2
    go_loopw [8,10,25] (fun p _ i wr=>∃ (k q:Nat),k<=n/\i= .int .i64 (k:Int)/\p= .int .i64 (q:Int)/\q<=1048576/\1<=q/\Hid (q=prod1 (s.take k))/\w=wr) (fun _ _ i _=>n - (intOf i).toNat)
    case atStart=>exact ⟨0,1,Nat.zero_le _,rfl,rfl,by omega,by omega,rfl,rfl⟩
    case round =>
     obtain ⟨k,q,hk,rfl,rfl,hq,hq1,hp,rfl⟩:=hrel
     by_cases hlt:k < n
     ·have hks:k < s.length:=by have:=HN.out;omega
      obtain ⟨b,o,rfl,hce⟩:=HC.out k hks
      have HP:=hD (HPZ.out k hks)
      have HL:=hD (HLT.out k hks)
      rw [<- hp.out] at HP HL
      generalize s[k]=d at hce HP HL
      have hlt2:(k:Int) < (n:Int):=by omega
      obtain ⟨r,hr⟩:∃ r,r=1048576 / q:=⟨_,rfl⟩
      have hr2:(1048576:Int).tdiv (q:Int)=(r:Int):=by rw [hr];exact Qpb 1048576 q
      have hr3:(1048576:Int) / (q:Int)=(r:Int):=by rw [hr];exact Qpc 1048576 q
      have hrb:r<=1048576:=by rw [hr];exact Nat.div_le_self _ _
      have hr1:IntKind.i64.wrap ((1048576:Int).tdiv (q:Int))=(r:Int):=by rw [hr2];exact IntWalk.i64_in _ (by omega)
      have hq0:¬ (q:Int)=0:=by omega
      have hq0':¬ q=0:=by omega
      have hiff:r < d↔1048576 < q*d:=by rw [hr];exact Qth hq1
      by_cases hbig:r < d
      ·have HX:Hid (R=(0,26)):=by
        unfold Hid;rw [HR.out]
        refine Qfd (HL.out ?_)
        have h1:=hiff.1 hbig
        have h2:q*d<=q*max 1 d:=Nat.mul_le_mul_left _ (by omega)
        omega
       have hbig2:(r:Int) < (d:Int):=by omega
       clear hp HP HL hbig hr hiff
       go_wp2
       go_ret2
       exact ⟨by rw [HX.out];rfl,rfl⟩
      ·have hbig2:¬ (r:Int) < (d:Int):=by omega
       obtain ⟨m,hm⟩:∃ m,m=q*max 1 d:=⟨_,rfl⟩
       have hmx:max (1:Int) (d:Int)=((max 1 d:Nat):Int):=by omega
       obtain ⟨x,hx⟩:∃ x,x=max 1 d:=⟨_,rfl⟩
       rw [<- hx] at hmx hm
       have hm2:(q:Int)*(x:Int)=(m:Int):=by rw [hm];push_cast;rfl
       have hmb:m<=1048576:=by
        have h1:¬ 1048576 < q*d:=fun h=>hbig (hiff.2 h)
        rw [hm,hx]
        by_cases hd:d=0
        ·rw [hd];simp;exact hq
        ·rw [Nat.max_eq_right (by omega)];omega
       have hm1:1<=m:=by rw [hm];exact Nat.mul_pos hq1 (by omega)
       have HQ:Hid (m=prod1 (s.take (k+1))):=by unfold Hid;rw [HP.out,hm,hx]
       have hxb:x<=m:=by rw [hm];exact Nat.le_mul_of_pos_left _ hq1
       clear hp HP HL hbig hm hx hr hiff
       go_wp2
       go_roundw
       case rel=>exact ⟨k+1,m,by omega,by go_num,rfl,hmb,hm1,HQ.out,by trivial⟩
       case measure=>simp [intOf];omega
     ·have hge:¬ (k:Int) < (n:Int):=by omega
      have HQ:Hid (q=prod1 s):=by unfold Hid;rw [hp.out,show k=n by omega,HTK.out]
      clear hp hlt HPZ HEL HLT HC
      by_cases hz:0∈s
      ·have HCT2:Hid (Calls Tryz.prog 175 #[.slice A n c,.int .i64 0] w fun e w'=>e= .returned (.bool true)/\w=w'):=by
        have h:=HCT.out
        rw [decide_eq_true hz] at h
        exact h
       have HP0:Hid (prodN s=0):=by unfold Hid;exact Qf5 hz
       clear hz
       by_cases hmo:most < ((0:Nat):Int)
       ·have HX:Hid (R=(0,26)):=by unfold Hid;rw [HR.out];exact Qc1 (by rw [HP0.out];exact hmo)
        have HW:=hD (fun W=>QhH 0 most hmo W)
        go_wp2_with fail
        refine HCT2.out.mono ?_
        rintro e w1 ⟨rfl,rfl⟩
        go_wp2_with fail
        refine (HW.out _).mono ?_
        rintro e w1 ⟨rfl,rfl⟩
        go_wp2
        go_ret2
        exact ⟨by rw [HX.out];rfl,rfl⟩
       ·have HX:Hid (R=(0,0)):=by
         unfold Hid;rw [HR.out,QdF (by have:=HN.out;omega) (by rw [<- HQ.out];exact hq) (by rw [HP0.out];exact hmo),HP0.out];rfl
        have HW:=hD (fun W=>Qf6 0 most (by omega) hmo W)
        go_wp2_with fail
        refine HCT2.out.mono ?_
        rintro e w1 ⟨rfl,rfl⟩
        go_wp2_with fail
        refine (HW.out _).mono ?_
        rintro e w1 ⟨rfl,rfl⟩
        go_wp2
        go_ret2
        exact ⟨by rw [HX.out];rfl,rfl⟩
      ·have HCT2:Hid (Calls Tryz.prog 175 #[.slice A n c,.int .i64 0] w fun e w'=>e= .returned (.bool false)/\w=w'):=by
        have h:=HCT.out
        rw [decide_eq_false hz] at h
        exact h
       have HP0:Hid (prodN s=q):=by unfold Hid;rw [HQ.out];exact QjQ hz
       clear hz
       by_cases hmo:most < (q:Int)
       ·have HX:Hid (R=(0,26)):=by unfold Hid;rw [HR.out];exact Qc1 (by rw [HP0.out];exact hmo)
        have HW:=hD (fun W=>QhH q most hmo W)
        go_wp2_with fail
        refine HCT2.out.mono ?_
        rintro e w1 ⟨rfl,rfl⟩
        go_wp2_with fail
        refine (HW.out _).mono ?_
        rintro e w1 ⟨rfl,rfl⟩
        go_wp2
        go_ret2
        exact ⟨by rw [HX.out];rfl,rfl⟩
       ·have HX:Hid (R=((q:Int),0)):=by
         unfold Hid;rw [HR.out,QdF (by have:=HN.out;omega) (by rw [<- HQ.out];exact hq) (by rw [HP0.out];exact hmo),HP0.out]
        have HW:=hD (fun W=>Qf6 q most hq hmo W)
        go_wp2_with fail
        refine HCT2.out.mono ?_
        rintro e w1 ⟨rfl,rfl⟩
        go_wp2_with fail
        refine (HW.out _).mono ?_
        rintro e w1 ⟨rfl,rfl⟩
        go_wp2
        go_ret2
        exact ⟨by rw [HX.out];rfl,rfl⟩
theorem Qcz {w:World}{v:Value}{s:List Int} (h:Reads1 w v (s.map (Value.int .i64))):∃ A n c,v= .slice A n c/\n=s.length /\
  ∀ i (hi:i < s.length),∃ b o,A=some ⟨b,o,none⟩/\w.cell? ⟨b,o+i,none⟩=some (.int .i64 s[i]):=by
 rcases h with ⟨a,c,rfl,h0⟩ | ⟨b,o,n,c,rfl,hn,hc⟩
 ·have:s=[]:=by simpa using h0
  subst this
  exact ⟨a,0,c,rfl,rfl,fun i hi=>by simp at hi⟩
 ·rw [List.length_map] at hn
  refine ⟨_,n,c,rfl,hn,fun i hi=>⟨b,o,rfl,?_⟩⟩
  have:=hc i (by simpa using hi)
  rw [this]
  simp
theorem Qmv (v:Value) (s:List Int) (most:Int) (K:Nat) (hK:K < s.length) (hneg:s[K] < 0) (hpos:∀ j (h:j < s.length),j < K->0<=s[j]) (w:World) (hv:Reads1 w v (s.map (Value.int .i64))) (hl:s.length<=1048576) :
  Calls Tryz.prog 99 #[v,.int .i64 most] w fun e w'=>∃ z:Int,e= .returned (.tuple #[.int .i64 0,.int .i64 z])/\z≠0/\w=w':=by
 obtain ⟨A,n,c,rfl,hn,hcell⟩:=Qcz hv
 have HN:=hD hn
 have HC:=hD hcell
 have HNG:=hD (show ∀ (h:K < s.length),s[K] < 0 from fun _=>hneg)
 have HPS:=hD hpos
 have hnb:n<=1048576:=by omega
 have hKn:K < n:=by omega
 clear hv hl hn hcell hpos hneg
 clear hK
 by_cases h8:8 < n
 ·have h8':(8:Int) < (n:Int):=by omega
  clear h8
  go_enter Tryz.func99,Tryz.ntmps99
  go_wp2
  go_ret2
  exact ⟨_,rfl,by decide,rfl⟩
 ·have h8':¬ (8:Int) < (n:Int):=by omega
  go_enter Tryz.func99,Tryz.ntmps99
  go_wp2
  go_loopw [7,8] (fun z i wr=>∃ (k:Nat) (t:Bool),k<=K/\i= .int .i64 (k:Int)/\z= .bool t/\w=wr) (fun _ i _=>n - (intOf i).toNat)
  case atStart=>exact ⟨0,false,Nat.zero_le _,rfl,rfl,rfl⟩
  case round =>
   obtain ⟨k,t,hk,rfl,rfl,rfl⟩:=hrel
   have hks:k < s.length:=by have:=HN.out;omega
   obtain ⟨b,o,rfl,hce⟩:=HC.out k hks
   have hlt2:(k:Int) < (n:Int):=by omega
   by_cases hlt:k < K
   ·have hd0':=HPS.out k hks hlt
    generalize s[k]=d at hce hd0'
    have hd0:¬ d < 0:=by omega
    cases t with
    | true =>
     go_wp2
     go_roundw
     case rel=>exact ⟨k+1,true,by omega,by go_num,rfl,by trivial⟩
     case measure=>simp [intOf];omega
    | false =>
     go_wp2
     go_roundw
     case rel=>exact ⟨k+1,d==0,by omega,by go_num,rfl,by trivial⟩
     case measure=>simp [intOf];omega
   ·obtain rfl:k=K:=by omega
    have hd0:=HNG.out hks
    generalize s[k]=d at hce hd0
    go_wp2
    go_ret2
    exact ⟨_,rfl,by decide,rfl⟩
theorem Qmw (s:List Int):(∀ d∈s,0<=d)\/∃ K,∃ hK:K < s.length,s[K] < 0/\∀ j (h:j < s.length),j < K->0<=s[j]:=by
 induction s with
 | nil=>exact .inl fun d h=>by cases h
 | cons x s ih =>
  by_cases hx:x < 0
  ·exact .inr ⟨0,by simp,by simpa using hx,fun j _ h=>by omega⟩
  ·rcases ih with h | ⟨K,hK,h1,h2⟩
   ·exact .inl fun d hd=>by
     cases List.mem_cons.1 hd with
     | inl e=>omega
     | inr e=>exact h d e
   ·refine .inr ⟨K+1,by simpa using hK,by simpa using h1,fun j hj hjk=>?_⟩
    cases j with
    | zero=>simp;omega
    | succ j=>have:=h2 j (by simpa using hj) (by omega);simpa using this
theorem Qff (v:Value) (s:List Int) (w:World) (hv:Reads1 w v (s.map (Value.int .i64))) (hl:s.length<=1048576) :
  Calls Tryz.prog 99 #[v,.int .i64 1048576] w fun e w'=>(∃ n z:Int,e= .returned (.tuple #[.int .i64 n,.int .i64 z])/\(z=0->∃ (sn:List Nat) (m:Nat),s=sn.map Int.ofNat/\OkSh sn m/\n=(m:Int)))/\w=w':=by
 rcases Qmw s with h | ⟨K,hK,h1,h2⟩
 ·have e:s=(s.map Int.toNat).map Int.ofNat:=QrD (by rintro ⟨d,hd,h0⟩;have:=h d hd;omega)
  have hv2:Reads1 w v ((s.map Int.toNat).map fun n:Nat => .int .i64 (n:Int)):=by
   have e2:((s.map Int.toNat).map fun n:Nat=>Value.int .i64 (n:Int))=s.map (Value.int .i64):=by
    conv=>rhs;rw [e]
    rw [List.map_map (l:=s.map Int.toNat)]
    rfl
   rw [e2];exact hv
  refine (Qfe v (s.map Int.toNat) 1048576 w hv2 (by simpa using hl)).mono ?_
  rintro e' w' ⟨rfl,rfl⟩
  refine ⟨⟨_,_,rfl,fun hz=>?_⟩,rfl⟩
  rcases QiP (s.map Int.toNat) 1048576 with ⟨h3,_⟩ | ⟨h3,h4,_⟩
  ·rw [h3] at hz;cases hz
  ·rw [h3]
   exact ⟨_,_,e,h4,rfl⟩
 ·refine (Qmv v s 1048576 K hK h1 h2 w hv hl).mono ?_
  rintro e' w' ⟨z,rfl,hz,rfl⟩
  exact ⟨⟨_,_,rfl,fun h=>absurd h hz⟩,rfl⟩
theorem Qao {B:Nat}{a w:World} (h:Below B a w) (k:Nat):Below B a (w.drewN k):=⟨h.os,h.tape,h.output,h.size,h.block⟩
theorem Qmx (va vb:Value) (s:List Int) (w:World) (ha:Reads1 w va (s.map (Value.int .i64))) (hb:Reads1 w vb (s.map (Value.int .i64))) (hl:s.length<=1048576) :
  Calls Tryz.prog 105 #[va,vb] w fun e w'=>e= .returned (.bool true)/\Below w.heap.size w w':=by
 obtain ⟨A,n,c,rfl,hn,hcell⟩:=Qcz ha
 obtain ⟨A2,n2,c2,rfl,hn2,hcell2⟩:=Qcz hb
 obtain rfl:n2=n:=by omega
 have HC:=hD hcell
 have HC2:=hD hcell2
 have HN:=hD hn
 have hnb:n2<=1048576:=by omega
 have hne:((n2:Int) != (n2:Int))=false:=by simp
 clear ha hb hl hn hn2 hcell hcell2
 go_enter Tryz.func105,Tryz.ntmps105
 go_wp2
 go_loopw [5] (fun i wr=>∃ k:Nat,k<=n2/\i= .int .i64 (k:Int)/\Below w.heap.size w wr) (fun i _=>n2 - (intOf i).toNat)
 case atStart=>exact ⟨0,Nat.zero_le _,rfl,Below.refl _ _⟩
 case round =>
  obtain ⟨k,hk,rfl,hbl⟩:=hrel
  have HBL:=hD hbl
  by_cases hlt:k < n2
  ·have hks:k < s.length:=by have:=HN.out;omega
   obtain ⟨b,o,rfl,hce⟩:=HC.out k hks
   obtain ⟨b',o',rfl,hce'⟩:=HC2.out k hks
   have c1:=QaB hbl hce
   have c2':=QaB hbl hce'
   generalize s[k]=x at c1 c2'
   have hxe:(x != x)=false:=by simp
   have hlt2:(k:Int) < (n2:Int):=by omega
   clear hce hce' hbl
   go_wp2
   go_quiet (fail)
   go_wp2
   go_roundw
   case rel=>exact ⟨k+1,by omega,by go_num,Qao HBL.out _⟩
   case measure=>simp [intOf];omega
  ·have hge:¬ (k:Int) < (n2:Int):=by omega
   clear hlt hbl
   go_wp2
   go_ret
   exact ⟨rfl,HBL.out⟩
def CntR (t:RP) (most:Int) (e:Ending):Prop:=∃ n:Nat,e= .returned (.int .i64 (n:Int))/\1<=n/\n<=cntP t/\((n:Int)<=most->n=cntP t)
theorem Qb7 (w:World) (h x:Sl) (f:Int) (e:TypeId):At3 (w.alloc (.cells #[sv h,sv x,.int .i64 f] e)) w.heap.size 0 h x f:=by
 have hc:∀ j u,#[sv h,sv x,Value.int .i64 f][j]?=some u->(w.alloc (.cells #[sv h,sv x,.int .i64 f] e)).cell? ⟨w.heap.size,j,none⟩=some u:=by
  intro j u hu
  rw [cell_of_row _ w.heap.size j _ e (0,0) (heap_alloc_new w _)]
  exact hu
 exact ⟨hc 0 _ rfl,hc 1 _ rfl,hc 2 _ rfl⟩
theorem QeJ (most:Int):∀ (N:Nat) (t:RP) (h x:Sl) (f:Int) (w:World),cntP t<=N->cntP t<=1048576->PV (fun _=>False) w t h x f ->
  Calls Tryz.prog 6 #[plV h x f,.int .i64 most] w fun e w'=>CntR t most e/\Below w.heap.size w w'
 | 0,t,_,_,_,_,h,_,_=>by have:=QdC t;omega
 | N+1,.mk s items fill,h,x,f,w,hN,hM,hr=>by
  obtain ⟨hsr,rfl,hx,hit⟩:=hr.open_
  obtain ⟨hA,hn,hc⟩:=h
  obtain ⟨A,m,cc⟩:=x
  obtain ⟨_,_,hse⟩:=RdH.len hsr
  have hn2:hn=s.length:=by
   have h1:Value.slice hA hn hc=_:=hse
   injection h1 with _ h1 _
   simpa using h1
  dsimp only at hx hit
  clear hse hsr hr
  have hsz:cntP (.mk s items f)=items.length+s.length+1+QaH items:=by rw [cntP]
  rw [hsz] at hN hM
  have HSZ:=hD hsz
  have HK:=hD hit
  have HMI:=hD hx
  have HNS:=hD hn2
  have hmb:m<=1048576:=by omega
  have hnb:hn<=1048576:=by omega
  obtain ⟨B,hB⟩:∃ B,B=m+hn+1:=⟨_,rfl⟩
  have hB1:(m:Int)+(hn:Int)+1=(B:Int):=by rw [hB];push_cast;rfl
  have hBb:1<=B/\B<=1048576:=by omega
  have HBB:Hid (B=items.length+s.length+1):=by unfold Hid;omega
  have HIH:Hid (∀ t h x f w,cntP t<=N->cntP t<=1048576->PV (fun _=>False) w t h x f->Calls Tryz.prog 6 #[plV h x f,.int .i64 most] w fun e w'=>CntR t most e/\Below w.heap.size w w'):=QeJ most N
  have HTK:Hid (∀ i (hi:i < items.length),QaH (items.take (i+1))=QaH (items.take i)+cntI items[i]):=fun i hi=>Qf3 items i hi
  have HLE:Hid (∀ i,QaH (items.take i)<=QaH items):=fun i=>QjN items i
  have HN2:Hid (B+QaH items<=N+1/\B+QaH items<=1048576):=by unfold Hid;omega
  have HTL:Hid (QaH (items.take m)=QaH items):=by unfold Hid;rw [hx,List.take_length]
  have HX0:=hD (Qb7 w (hA,hn,hc) (A,m,cc) f 25)
  have HB0:=hD (bel1 w (.cells #[.slice hA hn hc,.slice A m cc,.int .i64 f] 25))
  obtain ⟨hBb1,hBb2⟩:=hBb
  clear hx hn2 hsz hN hM hit hB
  go_enter Tryz.func6,Tryz.ntmps6
  go_wp2
  generalize w.alloc (.cells #[.slice hA hn hc,.slice A m cc,.int .i64 f] 25)=W at *
  go_loopw [5,6,7] (fun nv iv _ wr=>∃ (i n:Nat),i<=m/\iv= .int .i64 (i:Int)/\nv= .int .i64 (n:Int)/\1<=n/\n<=1048576/\Hid (n<=B+QaH (items.take i)/\((n:Int)<=most->n=B+QaH (items.take i)))/\Below W.heap.size W wr) (fun _ iv _ _=>m - (intOf iv).toNat)
  case atStart=>exact ⟨0,B,Nat.zero_le _,rfl,rfl,hBb1,hBb2,by simp [Hid,QaH],Below.refl _ _⟩
  case round =>
   obtain ⟨i,n,hi,rfl,rfl,h1,h2,hq,hbl⟩:=hrel
   have HBL:=hD hbl
   have HBW:=hD (Qaa HB0.out hbl)
   obtain ⟨c0,c1,c2⟩:=HX0.out.of (w':=wr) fun j=>hbl.cell (p:=⟨w.heap.size,j,none⟩) HX0.out.lt
   dsimp only [sv] at c0 c1
   clear hbl
   by_cases him:i < m
   ·have him2:(i:Int) < (m:Int):=by omega
    by_cases hmo:(n:Int)<=most
    ·have hik:i < items.length:=by have:=HMI.out;omega
     obtain ⟨b,o,k',n',c',y,rfl,-,hiv,hat⟩:=HK.out i hik
     have HTN:=hD (HTK.out i hik)
     obtain ⟨kind,num,char,box,hit⟩:∃ kind num char box,items[i]= .mk kind num char box:=by cases items[i];exact ⟨_,_,_,_,rfl⟩
     rw [hit] at hiv
     have hci:cntI items[i]=Qa3 box:=by rw [hit,cntI]
     rw [hci] at HTN
     obtain ⟨rfl,rfl,rfl,hy,hbx⟩:=hiv.open_
     obtain ⟨yA,ym,yc⟩:=y
     dsimp only at hy hbx
     have HY:=hD hy
     have HBX:=hD hbx
     have hbl2:Qa3 box<=1048576:=by have:=HTN.out;have:=HLE.out (i+1);have:=HN2.out;omega
     have hlb:∀ l:List RP,l.length<=Qa3 l:=fun l=>by
      induction l with
      | nil=>simp
      | cons t l ih=>have:=QdC t;rw [Qa3];simp;omega
     have hymb:ym<=1048576:=by have:=hlb box;omega
     have HPT:Hid (∀ i (hi:i < box.length),Qa3 (box.take (i+1))=Qa3 (box.take i)+cntP box[i]):=fun i hi=>Qf4 box i hi
     have HPL:Hid (∀ i,Qa3 (box.take i)<=Qa3 box):=fun i=>QjO box i
     have HPA:Hid (∀ i (hi:i < box.length),cntP box[i]<=Qa3 box):=fun i hi=>Qcw hi
     have HPM:Hid (Qa3 (box.take ym)=Qa3 box):=by unfold Hid;rw [hy,List.take_length]
     have HAT:=hD hat
     have HWW:=hD (show wr.heap.size<=wr.heap.size from Nat.le_refl _)
     have HQ:=hD hq.out
     clear hy hbx hbl2 hlb hat hiv hit hci hq
     obtain ⟨w0,hw0⟩:∃ w0,w0=wr:=⟨_,rfl⟩
     go_wp2
     go_loopw [5,7] (fun nv kv wq=>∃ (k q:Nat),k<=ym/\kv= .int .i64 (k:Int)/\nv= .int .i64 (q:Int)/\1<=q/\q<=1048576/\Hid (q<=B+QaH (items.take i)+Qa3 (box.take k)/\((q:Int)<=most->q=B+QaH (items.take i)+Qa3 (box.take k)))/\Below W.heap.size W wq) (fun _ kv _=>ym - (intOf kv).toNat)
     case atStart=>exact ⟨0,n,Nat.zero_le _,rfl,rfl,h1,h2,by have:=HQ.out;simp [Hid,Qa3];exact this,HBL.out⟩
     case round =>
      clear c0 c1 c2 HBL HBW
      obtain ⟨k,q,hk,rfl,rfl,g1,g2,hq,hbl⟩:=hrel
      have HBL:=hD hbl
      have HBW:=hD (Qaa HB0.out hbl)
      obtain ⟨c0,c1,c2⟩:=HX0.out.of (w':=wr) fun j=>hbl.cell (p:=⟨w.heap.size,j,none⟩) HX0.out.lt
      dsimp only [sv] at c0 c1
      obtain ⟨d0,d1,d2,d3⟩:=HAT.out wr (Lat.below HBW.out)
      dsimp only [sv] at d3
      clear hbl
      by_cases hkm:k < ym
      ·have hkm2:(k:Int) < (ym:Int):=by omega
       by_cases hmo2:(q:Int)<=most
       ·have hkb:k < box.length:=by have:=HY.out;omega
        obtain ⟨b2,o2,h',y',f',rfl,-,hpv,hat3⟩:=HBX.out k hkb
        obtain ⟨e0,e1,e2⟩:=hat3 wr (Lat.below HBW.out)
        have HPN:=hD (HPT.out k hkb)
        have HIC:=hD (HIH.out box[k] h' y' f' wr (by have:=HPA.out k hkb;have:=HTN.out;have:=HLE.out (i+1);have:=HN2.out;omega) (by have:=HPA.out k hkb;have:=HTN.out;have:=HLE.out (i+1);have:=HN2.out;omega) (hpv.step HBW.out))
        clear hpv hat3
        generalize box[k]=z at *
        go_wp2_with fail
        refine HIC.out.mono ?_
        rintro e w2 ⟨⟨r,rfl,r1,r2,r3⟩,hb⟩
        have HB2:=hD (Qaa HBL.out hb)
        have HR3:=hD r3
        have hqr:q+r<=1048576:=by have:=HPN.out;have:=HPL.out (k+1);have:=HTN.out;have:=HLE.out (i+1);have:=HN2.out;have:=hq.out;omega
        have hqr1:1<=q+r:=by omega
        have HQ2:Hid (q+r<=B+QaH (items.take i)+Qa3 (box.take (k+1))/\(((q+r:Nat):Int)<=most->q+r=B+QaH (items.take i)+Qa3 (box.take (k+1)))):=by
         have a1:=HPN.out
         have a2:=hq.out
         refine ⟨by omega,fun h=>?_⟩
         have a3:=HR3.out (by omega)
         have a4:=a2.2 (by omega)
         omega
        clear hb r3 hq
        go_wp2
        go_roundw
        case rel=>exact ⟨k+1,q+r,by omega,by go_num,by go_num,hqr1,hqr,HQ2.out,HB2.out⟩
        case measure=>simp [intOf];omega
       ·have HQ2:Hid (q<=B+QaH (items.take (i+1))/\((q:Int)<=most->q=B+QaH (items.take (i+1)))):=by
         have a1:=HPL.out k
         have a2:=hq.out
         have a3:=HTN.out
         exact ⟨by omega,fun h=>absurd h hmo2⟩
        clear hq
        go_wp2
        go_roundw
        case rel=>exact ⟨i+1,q,by omega,by go_num,rfl,g1,g2,HQ2.out,HBL.out⟩
        case measure=>simp [intOf];omega
      ·have hkm2:¬ (k:Int) < (ym:Int):=by omega
       have HQ2:Hid (q<=B+QaH (items.take (i+1))/\((q:Int)<=most->q=B+QaH (items.take (i+1)))):=by
        have a1:=HPM.out
        have a2:=hq.out
        have a3:=HTN.out
        rw [show k=ym by omega] at a2
        exact ⟨by omega,fun h=>by have:=a2.2 h;omega⟩
       clear hq
       go_wp2
       go_roundw
       case rel=>exact ⟨i+1,q,by omega,by go_num,rfl,g1,g2,HQ2.out,HBL.out⟩
       case measure=>simp [intOf];omega
    ·have HF:Hid (CntR (.mk s items f) most (.returned (.int .i64 (n:Int)))):=⟨n,rfl,h1,by rw [HSZ.out];have:=hq.out;have:=HLE.out i;have:=HBB.out;omega,fun h=>absurd h hmo⟩
     clear hq
     go_wp2
     go_ret
     exact ⟨HF.out,HBW.out⟩
   ·have him2:¬ (i:Int) < (m:Int):=by omega
    have HF:Hid (CntR (.mk s items f) most (.returned (.int .i64 (n:Int)))):=⟨n,rfl,h1,by rw [HSZ.out];have:=hq.out;have:=HLE.out i;have:=HBB.out;omega,fun h=>by
     have a1:=hq.out.2 h
     rw [show i=m by omega,HTL.out] at a1
     rw [HSZ.out];have:=HBB.out;omega⟩
    clear hq
    go_wp2
    go_ret
    exact ⟨HF.out,HBW.out⟩
end Go.Proofs.YtdelgpelkfndeaaGreatDoor
