/- What a function of two numbers makes of two arrays: plain law. How many elements an array and those in its boxes have, at most: plain law. The walk of .. Conditions: as each theorem says. -/
import Derived.Test.YtakgmnafbjdccaaGreatDoorMg18
import Derived.Test.YtakgmnafbjdccaaGreatDoorMg16
import Derived.Test.YtakgmnafbjdccaaGreatDoorMg07
import Derived.Test.YtakgmnafbjdccaaGreatDoorMg04
import Derived.Test.YtakgmnafbjdccaaGreatDoorMg17
import Derived.Test.YtakgmnafbjdccaaGreatDoorMg11
import Derived.Deep.RegionHeld3
import Derived.Deep.CutRange
import Derived.Test.YtakgmnafbjdccaaGreatDoorMg15
import Derived.Test.YtakgmnafbjdccaaGreatDoorMg05
import Derived.Test.YtakgmnafbjdccaaGreatDoorMg13
import Derived.Test.YtakgmnafbjdccaaGreatDoorMg23
import Derived.Test.YtakgmnafbjdccaaGreatDoorMg19
import Derived.Deep.CutBlock
set_option maxRecDepth 100000
set_option maxHeartbeats 1600000
namespace Go.Proofs.YtakgmnafbjdccaaGreatDoor
open Go Go.RowKit Go.Proofs Fl
def partA:PA->Nat->PA
 | .nums _ l,i => .nums [] [l.getD (ixP l.length i) 0]
 | .chars _ l,i => .chars [] [l.getD (ixP l.length i) 0]
 | .boxes _ l,i=>l.getD (ixP l.length i) default
theorem GoodA.nums1 {d:Nat}{s l:List Nat} (h:GoodA d (.nums s l)):GoodA 1 (.nums s l):=by rw [GoodA] at h ⊢;exact ⟨by decide,h.2⟩
theorem GoodA.chars1 {d:Nat}{s:List Nat}{l:List Int} (h:GoodA d (.chars s l)):GoodA 1 (.chars s l):=by rw [GoodA] at h ⊢;exact ⟨by decide,h.2⟩
theorem partA_good {a:PA}{d i:Nat} (ha:GoodA d a) (hi:ixP a.len i < a.len):GoodA d (partA a i):=by
 have h1:OkSh [] 1:=⟨by decide,by decide,rfl⟩
 cases a with
 | nums s l =>
  have h:=ha.nums _ hi
  rw [GoodA] at ha
  show GoodA d (.nums [] [l.getD _ _])
  rw [GoodA]
  refine ⟨ha.1,h1,fun x hx=>?_⟩
  obtain rfl:x=l.getD (ixP l.length i) 0:=by simpa using hx
  exact h
 | chars s l =>
  rw [GoodA] at ha
  show GoodA d (.chars [] [l.getD _ _])
  rw [GoodA]
  exact ⟨ha.1,h1⟩
 | boxes s l =>
  have hi':ixP l.length i < l.length:=hi
  have h:=ha.boxes _ hi'
  show GoodA d (l.getD _ _)
  have e:l.getD (ixP l.length i) default=l[ixP l.length i]:=by simp [List.getD,hi']
  rw [e]
  exact h.up (by omega)
theorem partA_goodB {s:List Nat}{l:List PA}{d i:Nat} (ha:GoodA d (.boxes s l)) (hi:ixP l.length i < l.length):GoodA (d - 1) (partA (.boxes s l) i):=by
 have h:=ha.boxes _ hi
 show GoodA (d - 1) (l.getD _ _)
 have e:l.getD (ixP l.length i) default=l[ixP l.length i]:=by simp [List.getD,hi]
 rw [e]
 exact h
mutual
def SmA (M:Nat):PA->Prop
 | .nums _ l=>l.length<=M
 | .chars _ l=>l.length<=M
 | .boxes _ l=>l.length<=M/\SmAs M l
def SmAs (M:Nat):List PA->Prop
 | []=>True
 | a::ar=>SmA M a/\SmAs M ar
end
theorem smAs_at {M:Nat}:∀ {l:List PA}{i:Nat} (hi:i < l.length),SmAs M l->SmA M l[i]
 | [],_,hi,_=>by simp at hi
 | a::ar,0,_,h=>by rw [SmAs] at h;exact h.1
 | a::ar,i+1,hi,h=>by rw [SmAs] at h;simpa using smAs_at (l:=ar) (i:=i) (by simpa using hi) h.2
theorem smAs_of {M:Nat}:∀ (l:List PA),(∀ i (hi:i < l.length),SmA M l[i])->SmAs M l
 | [],_=>by rw [SmAs];trivial
 | a::ar,h=>by
  rw [SmAs]
  exact ⟨by have:=h 0 (by simp);simpa using this,smAs_of ar fun i hi=>by have:=h (i+1) (by simpa using hi);simpa using this⟩
theorem SmA.len {M:Nat}{a:PA} (h:SmA M a):a.len<=M:=by
 cases a <;> (rw [SmA] at h;first | exact h | exact h.1)
theorem SmA.boxes {M:Nat}{s:List Nat}{l:List PA} (h:SmA M (.boxes s l)):∀ i (hi:i < l.length),SmA M l[i]:=by
 rw [SmA] at h
 exact fun i hi=>smAs_at hi h.2
mutual
theorem SmA.up {M M':Nat} (hm:M<=M'):∀ (a:PA),SmA M a->SmA M' a
 | .nums s l,h=>by rw [SmA] at h ⊢;omega
 | .chars s l,h=>by rw [SmA] at h ⊢;omega
 | .boxes s l,h=>by rw [SmA] at h ⊢;exact ⟨by omega,SmAs.up hm l h.2⟩
theorem SmAs.up {M M':Nat} (hm:M<=M'):∀ (l:List PA),SmAs M l->SmAs M' l
 | [],_=>by rw [SmAs];trivial
 | a::ar,h=>by rw [SmAs] at h ⊢;exact ⟨SmA.up hm a h.1,SmAs.up hm ar h.2⟩
end
theorem smA_one {M:Nat} (hM:1<=M){a:PA} (h:SmA M a) (i:Nat) (hi:ixP a.len i < a.len):SmA M (partA a i):=by
 cases a with
 | nums s l=>show SmA M (.nums [] [l.getD _ _]);rw [SmA];exact hM
 | chars s l=>show SmA M (.chars [] [l.getD _ _]);rw [SmA];exact hM
 | boxes s l =>
  have hi':ixP l.length i < l.length:=hi
  have h2:=h.boxes _ hi'
  show SmA M (l.getD _ _)
  have e:l.getD (ixP l.length i) default=l[ixP l.length i]:=by simp [List.getD,hi']
  rw [e]
  exact h2
mutual
theorem smP {M:Nat}:∀ (t:RP),cntP t<=M->SmA M (clP t)
 | .mk s items fill,h=>by
  rw [cntP] at h
  rw [clP]
  split
  ·rw [SmA,List.length_map];omega
  ·split
   ·rw [SmA,List.length_map];omega
   ·rw [SmA];exact ⟨by rw [clIs_len];omega,smIs items (by omega)⟩
theorem smIs {M:Nat}:∀ (ts:List RI),cntIs ts<=M->SmAs M (clIs ts)
 | [],_=>by rw [clIs,SmAs];trivial
 | t::ts,h=>by rw [cntIs] at h;rw [clIs,SmAs];exact ⟨smI t (by omega),smIs ts (by omega)⟩
theorem smI {M:Nat}:∀ (t:RI),cntI t<=M->SmA M (clI t)
 | .mk _ _ _ box,h=>by rw [cntI] at h;rw [clI];exact smPs box h
theorem smPs {M:Nat}:∀ (ts:List RP),cntPs ts<=M->SmA M (clPs ts)
 | [],_=>by rw [clPs,SmA];exact Nat.zero_le _
 | t::ts,h=>by rw [cntPs] at h;rw [clPs];exact smP t (by omega)
end
def mT (t i:Nat):Nat:=if t.testBit i then 18446744073709551615 else 0
abbrev tabC (t i:Nat):Array Value:=#[.int .u64 (if 0 < i then mT t 0 else 0:Nat),.int .u64 (if 1 < i then mT t 1 else 0:Nat),.int .u64 (if 2 < i then mT t 2 else 0:Nat),.int .u64 (if 3 < i then mT t 3 else 0:Nat)]
structure TrS (w W:World) (o1 o2:Obj) (t i:Nat):Prop where
 one:W.heap[w.heap.size]?=some o1
 two:W.heap[w.heap.size+1]?=some o2
 res:W.heap[w.heap.size+2]?=some (.cells bcells 31)
 tab:W.heap[w.heap.size+3]?=some (.cells (tabC t i) 263)
 bel:Below w.heap.size w W
theorem TrS.sz {w W:World}{o1 o2:Obj}{t i:Nat} (h:TrS w W o1 o2 t i):w.heap.size+4<=W.heap.size:=lt_of_block h.tab
theorem TrS.step {w W W':World}{o1 o2:Obj}{t i:Nat} (h:TrS w W o1 o2 t i) (hb:Below (w.heap.size+4) W W'):TrS w W' o1 o2 t i :=
 ⟨by rw [hb.block _ (by omega)];exact h.one,by rw [hb.block _ (by omega)];exact h.two,by rw [hb.block _ (by omega)];exact h.res,by rw [hb.block _ (by omega)];exact h.tab,h.bel.trans (hb.mono (by omega))⟩
theorem TrS.new (w:World) (o1 o2:Obj) (t:Nat):TrS w ((((w.alloc o1).alloc o2).alloc (.cells bcells 31)).alloc (.cells #[.int .u64 0,.int .u64 0,.int .u64 0,.int .u64 0] 263)) o1 o2 t 0:=by
 have s1:(w.alloc o1).heap.size=w.heap.size+1:=by simp
 have s2:((w.alloc o1).alloc o2).heap.size=w.heap.size+2:=by simp
 have s3:(((w.alloc o1).alloc o2).alloc (.cells bcells 31)).heap.size=w.heap.size+3:=by simp
 refine ⟨block_up (bel3 (w.alloc o1) _ _ _),?_,?_,?_,bel_both (bel3 w _ _ _) (bel1 _ _)⟩
 ·have h:=block_up (bel2 ((w.alloc o1).alloc o2) (.cells bcells 31) (.cells #[.int .u64 0,.int .u64 0,.int .u64 0,.int .u64 0] 263))
  rw [s1] at h
  exact h
 ·have h:=block_up (bel1 (((w.alloc o1).alloc o2).alloc (.cells bcells 31)) (.cells #[.int .u64 0,.int .u64 0,.int .u64 0,.int .u64 0] 263))
  rw [s2] at h
  exact h
 ·have h:=heap_alloc_new (((w.alloc o1).alloc o2).alloc (.cells bcells 31)) (.cells #[.int .u64 0,.int .u64 0,.int .u64 0,.int .u64 0] 263)
  rw [s3] at h
  exact h
structure Only (g:Nat) (w w':World):Prop where
 os:w'.os=w.os
 tape:w'.tape=w.tape
 output:w'.output=w.output
 size:w.heap.size<=w'.heap.size
 block:∀ k,k < w.heap.size->k≠g->w'.heap[k]?=w.heap[k]?
theorem Only.refl (g:Nat) (w:World):Only g w w:=⟨rfl,rfl,rfl,Nat.le_refl _,fun _ _ _=>rfl⟩
theorem Only.trans {g:Nat}{a b c:World} (h:Only g a b) (k:Only g b c):Only g a c :=
 ⟨k.os.trans h.os,k.tape.trans h.tape,k.output.trans h.output,Nat.le_trans h.size k.size,fun i hi hg=>(k.block i (Nat.lt_of_lt_of_le hi h.size) hg).trans (h.block i hi hg)⟩
theorem Only.set {g:Nat}{a b:World} (h:Only g a b) (i:Nat) (u:Value):Only g a (b.setCell ⟨g,i,none⟩ u):=by
 have hb:=(Below.refl g b).setCell (p:=⟨g,i,none⟩) (Nat.le_refl g) u
 exact h.trans ⟨hb.os,hb.tape,hb.output,hb.size,fun k _ hg=>Below.heap_setCell _ _ _ _ hg⟩
theorem Only.below {g B:Nat}{w0 w w':World} (h:Only g w w') (hb:Below B w0 w) (hB:B<=g) (hg:g < w.heap.size):Below B w0 w' :=
 ⟨h.os.trans hb.os,h.tape.trans hb.tape,h.output.trans hb.output,Nat.le_trans hb.size h.size,fun k hk=>(h.block k (by omega) (by omega)).trans (hb.block k hk)⟩
theorem Only.cell {g:Nat}{w w':World} (h:Only g w w'){b i:Nat}{v:Value} (hc:w.cell? ⟨b,i,none⟩=some v) (hg:b≠g):w'.cell? ⟨b,i,none⟩=some v:=by
 rw [World.cell?_of_block (w:=w) (h.block b (cell_lt hc) hg)];exact hc
def Row64 (w:World) (B g T:Nat) (F:Nat->Int):Prop:=Own1 w B 2 (.slice (some ⟨g,0,none⟩) T T) ((List.range T).map fun j => .int .i64 (F j))
theorem set_map_range {T k:Nat}{f:Nat->Value} (hk:k < T) (u:Value):((List.range T).map f).set k u=(List.range T).map fun j=>if j=k then u else f j:=by
 apply List.ext_getElem?
 intro i
 rw [List.getElem?_set]
 by_cases hi:i < T
 ·by_cases e:k=i
  ·subst e;simp [hk]
  ·have e':¬ i=k:=fun h=>e h.symm
   simp [e,e',hi]
 ·have h1:((List.range T).map f)[i]?=none:=by simp;omega
  have h2:((List.range T).map fun j=>if j=k then u else f j)[i]?=none:=by simp;omega
  rw [h2,if_neg (by omega),h1]
theorem Row64.ow {w:World}{B g T:Nat}{F:Nat->Int} (h:Row64 w B g T F):w.ownsRow B 2 1 (.slice (some ⟨g,0,none⟩) T T) T ((List.range T).map fun j => .int .i64 (F j)):=by
 have:=h
 unfold Row64 Own1 at this
 rw [List.length_map,List.length_range] at this
 exact this
theorem Row64.of_ow {w:World}{B g T:Nat}{F:Nat->Int} (h:w.ownsRow B 2 1 (.slice (some ⟨g,0,none⟩) T T) T ((List.range T).map fun j => .int .i64 (F j))):Row64 w B g T F:=by
 unfold Row64 Own1
 rw [List.length_map,List.length_range]
 exact h
theorem Row64.put {w:World}{B g T:Nat}{F:Nat->Int} (h:Row64 w B g T F){k:Nat} (hk:k < T) (z:Int):Row64 (w.setCell ⟨g,k,none⟩ (.int .i64 z)) B g T (fun j=>if j=k then z else F j):=by
 have h2:=(World.ownsRow.stored h.ow k (.int .i64 z)).1
 rw [set_map_range hk] at h2
 refine Row64.of_ow ?_
 have e:((List.range T).map fun j=>Value.int .i64 (if j=k then z else F j))=(List.range T).map fun j=>if j=k then .int .i64 z else .int .i64 (F j):=by
  apply List.map_congr_left
  intro j _
  split <;> rfl
 rw [e]
 exact h2
theorem Row64.cell {w:World}{B g T:Nat}{F:Nat->Int} (h:Row64 w B g T F){k:Nat} (hk:k < T):w.cell? ⟨g,k,none⟩=some (.int .i64 (F k)):=by
 have:=World.ownsRow.cellAt h.ow k (by omega)
 rw [this]
 simp [hk]
theorem Row64.frozen {w:World}{B g T:Nat}{F:Nat->Int} (h:Row64 w B g T F) (k:Nat):w.frozen? ⟨g,k,none⟩=false:=World.ownsRow.frozenAt h.ow k
theorem Row64.low {w:World}{B g T:Nat}{F:Nat->Int} (h:Row64 w B g T F):B<=g/\g < w.heap.size:=World.ownsRow.lt h.ow g rfl
structure Ar2 (w:World) (p q:V8) (e:TypeId) (f:Nat->Value) (z:Value) (N c:Nat) (W:World):Prop where
 st:St2 w W p q
 fill:Fill W (w.heap.size+3) (w.heap.size+3) e f z N c
theorem Ar2.step {w W W':World}{p q:V8}{e:TypeId}{f:Nat->Value}{z:Value}{N c:Nat} (h:Ar2 w p q e f z N c W) (hb:Below W.heap.size W W'):Ar2 w p q e f z N c W':=⟨h.st.step hb,h.fill.below hb⟩
theorem Ar2.dr {w W:World}{p q:V8}{e:TypeId}{f:Nat->Value}{z:Value}{N c:Nat} (h:Ar2 w p q e f z N c W):Ar2 w p q e f z N c W.drew:=h.step (Below.refl _ W).drew
theorem Ar2.self {w W:World}{p q:V8}{e:TypeId}{f:Nat->Value}{z:Value}{N c:Nat} (h:Ar2 w p q e f z N c W):Ar2 w p q e f z N c W:=h
theorem Ar2.new (w:World) (p q:V8) (e:TypeId) (f:Nat->Value) (z:Value) (N:Nat) (hN:N<=maxLen):Ar2 w p q e f z N 0 ((((w.alloc p.o).alloc q.o).alloc (.cells zcells 38)).alloc (.cells (madeCells #[z] N) e)):=by
 have h:=Fill.made (((w.alloc p.o).alloc q.o).alloc (.cells zcells 38)) (w.heap.size+3) (by simp) e f z N hN
 have e3:(((w.alloc p.o).alloc q.o).alloc (.cells zcells 38)).heap.size=w.heap.size+3:=by simp
 rw [e3] at h
 exact ⟨(St2.new w p q).al _,h⟩
theorem Ar2.put {w W:World}{p q:V8}{e:TypeId}{f:Nat->Value}{z:Value}{N c:Nat} (h:Ar2 w p q e f z N c W) (hc:c < N):Ar2 w p q e f z N (c+1) (W.setCell ⟨w.heap.size+3,c,none⟩ (f c)) :=
 ⟨h.st.put (Nat.le_refl _) _,h.fill.put hc⟩
def WhOut (k:Int) (m:Nat) (F:Nat->Nat) (w:World) (e:Ending) (w':World):Prop :=
 ∃ (a:Option Addr) (l c:Nat),e= .returned (.tuple #[.slice a l c,.bool (k != 4)])/\(k≠4->l=m/\Reads1 w' (.slice a l c) ((List.range m).map fun j => .int .i64 (zOf (F j))))/\Below w.heap.size w w'
theorem wholesW_any (p:V8) (m:Nat) (F:Nat->Nat) (w:World) (hm:m<=1000000) (hN:∀ W,Below w.heap.size w W->NumV p.v p.k m F W) :
  Calls Tryz.prog 166 #[p.v] w (WhOut p.k m F w):=by
 have h0:=numX_of (hN w (Below.refl _ _))
 by_cases h4:p.k=4
 ·have e4:p.v=vecV 4 (.slice p.b.1 p.b.2.1 p.b.2.2) p.bn (.slice p.s.1 p.s.2.1 p.s.2.2) (.slice p.i.1 p.i.2.1 p.i.2.2) (.slice p.f.1 p.f.2.1 p.f.2.2) (.slice p.c.1 p.c.2.1 p.c.2.2) (.slice p.x.1 p.x.2.1 p.x.2.2):=by rw [<- h4]
  rw [e4]
  refine (wholes_4 _ _ _ _ _ _ _ w).mono ?_
  rintro e w' ⟨rfl,hb⟩
  exact ⟨none,0,0,by rw [h4];rfl,fun h=>absurd h4 h,hb⟩
 ·have hb4:(p.k != 4)=true:=by simpa using h4
  by_cases h3:p.k=3
  ·have e3:p.v=vecV 3 (.slice p.b.1 p.b.2.1 p.b.2.2) p.bn (.slice p.s.1 p.s.2.1 p.s.2.2) (.slice p.i.1 p.i.2.1 p.i.2.2) (.slice p.f.1 p.f.2.1 p.f.2.2) (.slice p.c.1 p.c.2.1 p.c.2.2) (.slice p.x.1 p.x.2.1 p.x.2.2):=by rw [<- h3]
   rw [e3]
   refine (wholes_3 _ _ _ _ _ _ _ _ w (h0.ints h3) (by simpa using hm) (fun u hu=>by
    obtain ⟨j,_,rfl⟩:=List.mem_map.1 hu
    rfl)).mono ?_
   rintro e w1 ⟨v,rfl,ho,hb⟩
   obtain ⟨a,c2,rfl,_⟩:=reads_at ho.reads
   exact ⟨a,m,c2,by rw [hb4],fun _=>⟨rfl,ho.reads⟩,hb⟩
  ·refine (wholes_any p.k p.b p.bn p.s p.i p.f p.c p.x m F w h4 hm (fun h=>absurd h h3) (fun W hb=>numX_of (hN W hb))).mono ?_
   rintro e w1 ⟨b,o,c,rfl,hc,hb⟩
   exact ⟨some ⟨b,o,none⟩,m,c,by rw [hb4],fun _=>⟨rfl,.inr ⟨b,o,m,c,rfl,by simp,fun i hi=>by rw [hc i (by simpa using hi)];simp⟩⟩,hb⟩
def BitsAt (W:World) (b:Sl) (n:Nat) (L:Nat->Bool):Prop :=
 ∃ g o c,b=(some ⟨g,o,none⟩,(n+63) / 64,c)/\∀ j,j < (n+63) / 64->W.cell? ⟨g,o+j,none⟩=some (.int .u64 (packW L n j:Nat))
theorem BitsAt.below {W W':World}{b:Sl}{n:Nat}{L:Nat->Bool} (h:BitsAt W b n L) (hb:Below W.heap.size W W'):BitsAt W' b n L:=by
 obtain ⟨g,o,c,e,hc⟩:=h
 exact ⟨g,o,c,e,fun j hj=>by rw [hb.cell (cell_lt (hc j hj))];exact hc j hj⟩
theorem BitsAt.row {W:World}{B g n:Nat}{L:Nat->Bool} (h:RowU W B g ((n+63) / 64) (packW L n)):BitsAt W (some ⟨g,0,none⟩,(n+63) / 64,(n+63) / 64) n L :=
 ⟨g,0,_,rfl,fun j hj=>by rw [Nat.zero_add];exact h.cell hj⟩
theorem BitsAt.in {W:World}{b:Sl}{n:Nat}{L:Nat->Bool} (h:BitsAt W b n L):BitsIn W (.agg #[.slice b.1 b.2.1 b.2.2,.int .i64 (n:Int)]) n L:=by
 obtain ⟨g,o,c,rfl,hc⟩:=h
 exact ⟨g,o,c,rfl,hc⟩
theorem NumV.bits {b:Sl}{bn:Int}{s i f g x:Sl}{m:Nat}{F:Nat->Nat}{w:World} (h:NumV (vecW 1 b bn s i f g x) 1 m F w):bn=(m:Int)/\∃ L,BitsAt w b m L/\∀ j,j < m->F j=flagF (L j):=by
 obtain ⟨l,s',e,hb,hf⟩:=h.bitsX rfl
 injection e with e
 have e1:=congrArg (fun a:Array Value=>a.getD 1 undef) e
 have e2:=congrArg (fun a:Array Value=>a.getD 2 undef) e
 have e1':Value.slice b.1 b.2.1 b.2.2=s':=e1
 have e2':Value.int .i64 bn= .int .i64 (m:Int):=e2
 injection e2' with _ e3
 refine ⟨e3,l,?_,hf⟩
 obtain ⟨g2,o,c,ev,hc⟩:=hb
 injection ev with ev
 have e4:=congrArg (fun a:Array Value=>a.getD 0 undef) ev
 have e4':s'= .slice (some ⟨g2,o,none⟩) ((m+63) / 64) c:=e4
 rw [<- e1'] at e4'
 injection e4' with h1 h2 h3
 exact ⟨g2,o,c,by rw [<- h1,<- h2,<- h3],hc⟩
structure Sb (w W:World) (p:V8):Prop where
 one:BoxP W w.heap.size p
 res:W.heap[w.heap.size+1]?=some (.cells bcells 31)
 bel:Below w.heap.size w W
theorem Sb.step {w W W':World}{p:V8} (h:Sb w W p) (hb:Below W.heap.size W W'):Sb w W' p :=
 ⟨h.one.below hb,by rw [hb.block _ (lt_of_block h.res)];exact h.res,bel_both h.bel hb⟩
theorem Sb.new (w:World) (p:V8):Sb w ((w.alloc p.o).alloc (.cells bcells 31)) p:=by
 have h2:=heap_alloc_new (w.alloc p.o) (.cells bcells 31)
 have e1:(w.alloc p.o).heap.size=w.heap.size+1:=by simp
 rw [e1] at h2
 exact ⟨(boxP_new w p).below (bel1 _ _),h2,bel2 w _ _⟩
theorem Sb.sz {w W:World}{p:V8} (h:Sb w W p):w.heap.size+1 < W.heap.size:=lt_of_block h.res
theorem At9.c {w:World}{b:Nat}{h:Sl}{p:V8} (g:At9 w b 0 h p):w.cell? ⟨b,0,none⟩=some (.slice h.1 h.2.1 h.2.2)/\w.cell? ⟨b,1,none⟩=some (.int .i64 p.k)/\w.cell? ⟨b,2,none⟩=some (.slice p.b.1 p.b.2.1 p.b.2.2)/\w.cell? ⟨b,3,none⟩=some (.int .i64 p.bn) /\
  w.cell? ⟨b,4,none⟩=some (.slice p.s.1 p.s.2.1 p.s.2.2)/\w.cell? ⟨b,5,none⟩=some (.slice p.i.1 p.i.2.1 p.i.2.2)/\w.cell? ⟨b,6,none⟩=some (.slice p.f.1 p.f.2.1 p.f.2.2)/\w.cell? ⟨b,7,none⟩=some (.slice p.c.1 p.c.2.1 p.c.2.2)/\w.cell? ⟨b,8,none⟩=some (.slice p.x.1 p.x.2.1 p.x.2.2):=g
theorem arrays_no (k:Int) (hk:k≠6) (b:Value) (bn:Int) (s i f c x:Value) (w:World) :
  Calls Tryz.prog 148 #[vecV k b bn s i f c x] w fun e w'=>e= .returned vnil/\Below w.heap.size w w':=by
 have hk1:(k != 6)=true:=by simpa using hk
 clear hk
 go_enter Tryz.func148,Tryz.ntmps148
 go_wp2
 go_ret
 exact ⟨rfl,bel1 _ _⟩
def AslR (H:Nat->Prop) (w:World) (l:List PA) (e:Ending) (w':World):Prop:=∃ y:Sl,e= .returned (sv y)/\ASl H w' y l/\Below w.heap.size w w'
theorem arrays_yes {H:Nat->Prop}{w:World}{x:Sl}{l:List PA} (g:ASl H w x l) (hl:l.length<=1048576) (hH:∀ b,H b->b < w.heap.size) :
  Calls Tryz.prog 148 #[(boxesP x).v] w (AslR H w l):=by
 have HB:=Lib.hid (bel1 w (boxesP x).o)
 have HC:=Lib.hid (clA_any (g.step HB.out) hl (fun b e=>by have:=hH b e;simp;omega))
 have HH:=Lib.hid hH
 clear g hl hH
 go_enter Tryz.func148,Tryz.ntmps148
 go_wp2_with fail
 refine HC.out.mono ?_
 rintro e w1 ⟨u,rfl,ho,hb1⟩
 obtain ⟨y,rfl,hy⟩:=ho.asl (fun b e=>by have:=HH.out b e;simp;omega)
 have HY:=Lib.hid hy
 have HB1:=Lib.hid (bel_both HB.out hb1)
 clear ho hy hb1
 obtain ⟨yA,yn,yc⟩:=y
 dsimp only [sv]
 go_wp2
 go_ret
 exact ⟨(yA,yn,yc),rfl,HY.out,HB1.out⟩
def arrA:PA->List PA
 | .boxes _ l=>l
 | _=>[]
theorem av_kind {H:Nat->Prop}{w:World}{a:PA}{h:Sl}{p:V8} (g:AV H w a h p):p.k≠0/\(a.fill≠2->p.k≠6)/\(a.fill≠0->p.k≠1):=by
 cases a with
 | nums s l =>
  rcases g.nums with h | ⟨_,rfl⟩
  ·have hk:=h.num.now.kind
   exact ⟨by omega,fun _=>by omega,fun h=>absurd rfl h⟩
  ·exact ⟨show (1:Int)≠0 by decide,fun _=>show (1:Int)≠6 by decide,fun h=>absurd rfl h⟩
 | chars s l =>
  obtain ⟨c,rfl,_⟩:=g.chars
  exact ⟨show (5:Int)≠0 by decide,fun _=>show (5:Int)≠6 by decide,fun _=>show (5:Int)≠1 by decide⟩
 | boxes s l =>
  obtain ⟨x,rfl,_⟩:=g.asl
  exact ⟨show (6:Int)≠0 by decide,fun h=>absurd rfl h,fun _=>show (6:Int)≠1 by decide⟩
theorem av_arrays {H:Nat->Prop}{w:World}{a:PA}{h:Sl}{p:V8} (g:AV H w a h p) (hl:a.len<=1048576) (W:World) (hH:∀ b,H b->b < W.heap.size) (hb:Below w.heap.size w W) :
  Calls Tryz.prog 148 #[p.v] W (AslR H W (arrA a)):=by
 have hno:a.fill≠2->arrA a=[]->Calls Tryz.prog 148 #[p.v] W (AslR H W (arrA a)):=by
  intro h2 h0
  rw [h0]
  refine (arrays_no p.k ((av_kind g).2.1 h2) _ p.bn _ _ _ _ _ W).mono ?_
  rintro e w' ⟨rfl,hb2⟩
  exact ⟨nilS,rfl,ASl.nil _ _ _ _,hb2⟩
 cases a with
 | nums s l=>exact hno (show (0:Nat)≠2 by decide) rfl
 | chars s l=>exact hno (show (1:Nat)≠2 by decide) rfl
 | boxes s l =>
  obtain ⟨x,rfl,hx⟩:=g.asl
  exact arrays_yes (hx.step hb) hl hH
theorem aIndex_walk {H : Nat → Prop} (l : List PA) (x : Sl) (w : World) (q : Addr) (f : FuncId) (fn : Func) (hfn : Tryz.prog.funcs[f]? = some fn) (hnm : (fn.name == "runtime.NumGoroutine") = false) (co : Code) (hco : fn.body = some co)
  (hx:ASl H w x l) (hm2:l.length<=1048576)
  (hf:∀ i (hi:i < l.length) h p w1,Below w.heap.size w w1->AV H w1 l[i] h p->Calls Tryz.prog f #[arrV h p,.pointer (some q)] w1 fun e w'=>e= .returned (.bool false)/\Below w1.heap.size w1 w') :
  Calls Tryz.prog 229 #[sv x,.func (.func f) #[] #[.pointer (some q)]] w fun e w'=>e= .returned (.int .i64 (-1))/\Below w.heap.size w w':=by
 obtain ⟨A,m,cc⟩:=x
 have hm:m=l.length:=hx.1
 have HK:Hid (∀ i (hi:i < l.length),∃ b o h p,A=some ⟨b,o,none⟩/\¬ H b/\AV H w l[i] h p/\∀ w1,Lat H w w1->At9 w1 b (o+i*9) h p):=hx.at_
 have hmb:m<=1048576:=by omega
 have HM:=Lib.hid hm
 have HF:=Lib.hid hf
 have hcf:∀ (args:Array Value) (w:World),(callFunc f args).run Tryz.prog w= .ok (.enter f args) w:=by
  intro args w
  have h1 : fn.name ≠ "runtime.NumGoroutine" := by simpa using hnm
  simp [callFunc,hfn,h1,hco]
 clear hx hm2 hm hf hfn hnm hco
 dsimp only [sv]
 go_enter Tryz.func229,Tryz.ntmps229
 go_wp2
 go_loopw [5,8] (fun _ iv wr=>∃ k:Nat,k<=m/\iv= .int .i64 (k:Int)/\Below w.heap.size w wr) (fun _ iv _=>m - (intOf iv).toNat)
 case atStart=>exact ⟨0,Nat.zero_le _,rfl,Below.refl _ _⟩
 case round =>
  obtain ⟨k,hk,rfl,hbl⟩:=hrel
  have HBL:=Lib.hid hbl
  by_cases hlt:k < m
  ·have hik:k < l.length:=by have:=HM.out;omega
   obtain ⟨b,o,h',p',rfl,-,hav,hce⟩:=HK.out k hik
   obtain ⟨c0,c1,c2,c3,c4,c5,c6,c7,c8⟩:=hce wr (Lat.below hbl)
   dsimp only [sv] at c0 c1 c2 c3 c4 c5 c6 c7 c8
   have HFC:=Lib.hid (HF.out k hik h' p' wr hbl (AV.step hav hbl))
   clear hav hce hbl
   go_wp2_with fail
   refine HFC.out.mono ?_
   rintro e w2 ⟨rfl,hb⟩
   have HB2:=Lib.hid (HBL.out.trans (hb.mono HBL.out.size))
   clear hb c0 c1 c2 c3 c4 c5 c6 c7 c8
   go_wp2
   go_roundw
   case rel=>exact ⟨k+1,by omega,by go_num,HB2.out⟩
   case measure=>simp [intOf];omega
  ·clear hbl
   go_wp2
   go_ret
   exact ⟨rfl,HBL.out⟩
theorem aContains_walk {H : Nat → Prop} (l : List PA) (x : Sl) (w : World) (q : Addr) (f : FuncId) (fn : Func) (hfn : Tryz.prog.funcs[f]? = some fn) (hnm : (fn.name == "runtime.NumGoroutine") = false) (co : Code) (hco : fn.body = some co)
  (hx:ASl H w x l) (hm2:l.length<=1048576)
  (hf:∀ i (hi:i < l.length) h p w1,Below w.heap.size w w1->AV H w1 l[i] h p->Calls Tryz.prog f #[arrV h p,.pointer (some q)] w1 fun e w'=>e= .returned (.bool false)/\Below w1.heap.size w1 w') :
  Calls Tryz.prog 188 #[sv x,.func (.func f) #[] #[.pointer (some q)]] w fun e w'=>e= .returned (.bool false)/\Below w.heap.size w w':=by
 have HI:=Lib.hid (aIndex_walk l x w q f fn hfn hnm co hco hx hm2 hf)
 clear hx hm2 hf hfn hnm hco
 go_enter Tryz.func188,Tryz.ntmps188
 go_wp2_with fail
 refine HI.out.mono ?_
 rintro e w' ⟨rfl,hb⟩
 have HB:=Lib.hid hb
 clear hb
 go_wp2
 go_ret
 exact ⟨rfl,HB.out⟩
theorem av_packed {H:Nat->Prop}{w:World}{a:PA}{h:Sl}{p:V8} (g:AV H w a h p) (hl:a.len<=1000000) (W:World) (hb:Below w.heap.size w W) :
  ∃ (u:Sl) (n:Int) (t:Bool),Calls Tryz.prog 107 #[p.v] W (fun e w'=>e= .returned (.tuple #[.agg #[.slice u.1 u.2.1 u.2.2,.int .i64 n],.bool t])/\Below W.heap.size W w') /\
   (t=true->∀ W',Below W.heap.size W W'->Calls Tryz.prog 187 #[.agg #[.slice u.1 u.2.1 u.2.2,.int .i64 n]] W' (fun e w'=>e= .returned (.bool true)/\Below W'.heap.size W' w')):=by
 by_cases hk:p.k=1
 ·have hf:a.fill=0:=Classical.byContradiction fun h=>(av_kind g).2.2 h hk
  cases a with
  | chars s l=>cases hf
  | boxes s l=>cases hf
  | nums s l =>
   rcases g.nums with h | ⟨_,rfl⟩
   ·have hn:=(Keeps.lat h.num (Lat.below hb)).now
    obtain ⟨k,b,bn,s,i,f,c,x⟩:=p
    obtain rfl:k=1:=hk
    obtain ⟨rfl,L,hat,_⟩:=NumV.bits hn
    exact ⟨b,_,true,packed_yes b _ _ _ _ _ _ W,fun _ W' hb'=>btidy_any (hat.below hb').in hl⟩
   ·exact ⟨nilS,0,true,packed_yes nilS _ _ _ _ _ _ W,fun _ W' _=>btidy_zb W'⟩
 ·exact ⟨nilS,0,false,packed_no p.k hk _ p.bn _ _ _ _ _ W,fun h=>by cases h⟩
theorem good_walk:∀ (d:Nat) (H:Nat->Prop) (a:PA) (h:Sl) (p:V8) (w:World) (z:Int),z=(d:Int)->d<=100->(∀ b,H b->b < w.heap.size)->GoodA d a->SmA 1000000 a->AV H w a h p ->
  Calls Tryz.prog 118 #[arrV h p,.int .i64 z] w fun e w'=>e= .returned (.bool true)/\Below w.heap.size w w'
 | 0,_,a,_,_,_,_,_,_,_,hg,_,_=>absurd hg.sh.1 (Nat.lt_irrefl _)
 | d+1,H,a,h,p,w,z,hz,hd,hH,hg,hs,hav=>by
  have hlen:a.len<=1000000:=hs.len
  obtain ⟨w0,hw0⟩:∃ w0,w0=(w.alloc (arrO h p)).alloc (.cells #[.int .i64 z] 3):=⟨_,rfl⟩
  have hb0:Below w.heap.size w w0:=by rw [hw0];exact bel2 _ _ _
  have hsz:w0.heap.size=w.heap.size+2:=by rw [hw0];simp
  have h9:At9 w0 w.heap.size 0 h p:=by rw [hw0];exact (at9_new w h p).below (bel1 _ _)
  have hq:w0.cell? ⟨w.heap.size+1,0,none⟩=some (.int .i64 z):=by rw [hw0,World.cell?_alloc_at _ _ _ _ (by simp)];rfl
  have HPR:Hid (Calls Tryz.prog 73 #[sv h,.int .i64 1048576] w0 fun e w'=>e= .returned (.tuple #[.int .i64 (a.len:Int),.int .i64 0])/\w0=w'):=by
   have q:=product_any (sv h) a.shape 1048576 w0 (Keeps.lat hav.shape (Lat.below hb0)).now (by have:=hg.sh.2.1;omega)
   rw [prodE_ok hg.sh.2 (by omega)] at q
   exact q
  have HLN:=Lib.hid (fun W (hb:Below w0.heap.size w0 W)=>av_len hav W (bel_both hb0 hb))
  have HTI:=Lib.hid (fun W (hb:Below w0.heap.size w0 W)=>av_tight hav hlen W (bel_both hb0 hb))
  have HKI:=Lib.hid (fun W=>vkind_any p.k (.slice p.b.1 p.b.2.1 p.b.2.2) p.bn (.slice p.s.1 p.s.2.1 p.s.2.2) (.slice p.i.1 p.i.2.1 p.i.2.2) (.slice p.f.1 p.f.2.1 p.f.2.2) (.slice p.c.1 p.c.2.1 p.c.2.2) (.slice p.x.1 p.x.2.1 p.x.2.2) W)
  have hk0:(p.k==0)=false:=by have:=(av_kind hav).1;simpa using this
  have HPK:=Lib.hid (fun W (hb:Below w0.heap.size w0 W)=>av_packed hav hlen W (bel_both hb0 hb))
  have HAR:=Lib.hid (fun W (hb:Below w0.heap.size w0 W)=>av_arrays hav (by omega) W (fun b e=>by have:=hH b e;have:=hb.size;omega) (bel_both hb0 hb))
  have hz0:(z==0)=false:=by simp;omega
  have hcl:∀ i (hi:i < (arrA a).length) h' p' w1,Below w0.heap.size w0 w1->AV H w1 (arrA a)[i] h' p' ->
    Calls Tryz.prog 189 #[arrV h' p',.pointer (some ⟨w.heap.size+1,0,none⟩)] w1 fun e w'=>e= .returned (.bool false)/\Below w1.heap.size w1 w':=by
   intro i hi h' p' w1 hb hav'
   have hga:GoodA d (arrA a)[i]/\SmA 1000000 (arrA a)[i]:=by
    cases a with
    | nums s l=>simp [arrA] at hi
    | chars s l=>simp [arrA] at hi
    | boxes s l=>exact ⟨show GoodA d l[i] by simpa using hg.boxes i hi,hs.boxes i hi⟩
   generalize (arrA a)[i]=a' at hga hav'
   have hqd:w1.cell? ⟨w.heap.size+1,0,none⟩=some (.int .i64 z):=cell_up hb hq
   have hq2:(w1.alloc (arrO h' p')).cell? ⟨w.heap.size+1,0,none⟩=some (.int .i64 z):=cell_up (bel1 w1 (arrO h' p')) hqd
   have HC:=Lib.hid (good_walk d H a' h' p' (w1.alloc (arrO h' p')) (z - 1) (by omega) (by omega) (fun b e=>by have:=hH b e;have:=hb.size;simp;omega) hga.1 hga.2 (AV.step hav' (bel1 w1 (arrO h' p'))))
   have HB1:=Lib.hid (bel1 w1 (arrO h' p'))
   have hz1:0<=z - 1:=by omega
   have hz2:z<=101:=by omega
   clear hqd hb hav' hga hz hg hs hav h9 hq hw0 hb0 hsz HPR HLN HTI HKI HPK HAR hz0 hk0
   go_enter Tryz.func189,Tryz.ntmps189
   go_wp2_with fail
   (with_reducible refine HC.out.mono ?_)
   rintro e w2 ⟨rfl,hb⟩
   have HB2:=Lib.hid (bel_both HB1.out hb)
   clear hb hq2
   go_wp2
   go_ret
   exact ⟨rfl,HB2.out⟩
  have HCT:=Lib.hid (fun W y (hb:Below w0.heap.size w0 W) (hy:ASl H W y (arrA a))=>aContains_walk (arrA a) y W ⟨w.heap.size+1,0,none⟩ 189 _ Tryz.func189 (by kernel_rfl) _ rfl hy (by
   cases a with
   | nums s l=>simp [arrA]
   | chars s l=>simp [arrA]
   | boxes s l=>exact Nat.le_trans (show l.length<=1000000 from hlen) (by decide)) (fun i hi h' p' w1 hb1 hav'=>hcl i hi h' p' w1 (bel_both hb hb1) hav'))
  have H90:=Lib.hid h9
  have HW0:=Lib.hid hw0
  have HB0:=Lib.hid hb0
  have HQ:=Lib.hid hq
  generalize a.len=n at HPR HLN
  have hnn:((n:Int) != (n:Int))=false:=by simp
  clear hcl hlen hw0 hb0 hsz h9 hq hz hd hH hg hs hav
  go_enter Tryz.func118,Tryz.ntmps118
  go_wp2_with fail
  rw [<- HW0.out]
  refine HPR.out.mono ?_
  rintro e w1 ⟨rfl,rfl⟩
  obtain ⟨c0,c1,c2,c3,c4,c5,c6,c7,c8⟩:=H90.out.c
  go_wp2_with fail
  refine (HLN.out _ (Below.refl _ _)).mono ?_
  rintro e w1 ⟨rfl,hb⟩
  have H91:=Lib.hid (H90.out.below hb)
  have HB1:=Lib.hid hb
  clear hb c0 c1 c2 c3 c4 c5 c6 c7 c8
  obtain ⟨c0,c1,c2,c3,c4,c5,c6,c7,c8⟩:=H91.out.c
  go_wp2_with fail
  refine (HKI.out _).mono ?_
  rintro e w2 ⟨rfl,hb⟩
  have H92:=Lib.hid (H91.out.below hb)
  have HB2:=Lib.hid (bel_both HB1.out hb)
  clear hb c0 c1 c2 c3 c4 c5 c6 c7 c8
  obtain ⟨c0,c1,c2,c3,c4,c5,c6,c7,c8⟩:=H92.out.c
  go_wp2_with fail
  refine (HTI.out _ HB2.out).mono ?_
  rintro e w3 ⟨rfl,hb⟩
  have H93:=Lib.hid (H92.out.below hb)
  have HB3:=Lib.hid (bel_both HB2.out hb)
  clear hb c0 c1 c2 c3 c4 c5 c6 c7 c8
  obtain ⟨c0,c1,c2,c3,c4,c5,c6,c7,c8⟩:=H93.out.c
  have q3:=cell_up HB3.out HQ.out
  obtain ⟨u,m,t,hpk,htd⟩:=HPK.out _ HB3.out
  have HTD:=Lib.hid htd
  have HPC:=Lib.hid hpk
  clear htd hpk
  go_wp2_with fail
  refine HPC.out.mono ?_
  rintro e w4 ⟨rfl,hb⟩
  have HP0:=Lib.hid (hb)
  have HB4:=Lib.hid (bel_both HB3.out (bel_both hb (bel1 w4 (.cells #[.slice u.1 u.2.1 u.2.2,.int .i64 m] 31))))
  have H94:=Lib.hid (H93.out.below (bel_both hb (bel1 w4 (.cells #[.slice u.1 u.2.1 u.2.2,.int .i64 m] 31))))
  clear hb c0 c1 c2 c3 c4 c5 c6 c7 c8 q3
  have HTC:Hid (t=true->Calls Tryz.prog 187 #[.agg #[.slice u.1 u.2.1 u.2.2,.int .i64 m]] (w4.alloc (.cells #[.slice u.1 u.2.1 u.2.2,.int .i64 m] 31)) fun e w'=>e= .returned (.bool true)/\Below (w4.alloc (.cells #[.slice u.1 u.2.1 u.2.2,.int .i64 m] 31)).heap.size (w4.alloc (.cells #[.slice u.1 u.2.1 u.2.2,.int .i64 m] 31)) w'):=fun ht=>HTD.out ht _ (bel_both HP0.out (bel1 _ _))
  obtain ⟨c0,c1,c2,c3,c4,c5,c6,c7,c8⟩:=H94.out.c
  have q4:=cell_up HB4.out HQ.out
  cases t with
  | false =>
   go_wp2_with fail
   refine (HAR.out _ HB4.out).mono ?_
   rintro e w6 ⟨y,rfl,hy,hb⟩
   have HB6:=Lib.hid (bel_both HB4.out hb)
   have HCC:=Lib.hid (HCT.out w6 y HB6.out hy)
   clear hb hy c0 c1 c2 c3 c4 c5 c6 c7 c8 q4
   obtain ⟨yA,yn,yc⟩:=y
   go_wp2_with fail
   refine HCC.out.mono ?_
   rintro e w7 ⟨rfl,hb⟩
   have HB7:=Lib.hid (bel_both HB0.out (bel_both HB6.out hb))
   clear hb
   go_wp2
   go_ret
   exact ⟨rfl,HB7.out⟩
  | true =>
   have HT:=Lib.hid (HTC.out rfl)
   go_wp2_with fail
   refine HT.out.mono ?_
   rintro e w5 ⟨rfl,hb⟩
   have HB5:=Lib.hid (bel_both HB4.out hb)
   have H95:=Lib.hid (H94.out.below hb)
   clear hb c0 c1 c2 c3 c4 c5 c6 c7 c8 q4
   obtain ⟨c0,c1,c2,c3,c4,c5,c6,c7,c8⟩:=H95.out.c
   go_wp2_with fail
   refine (HAR.out _ HB5.out).mono ?_
   rintro e w6 ⟨y,rfl,hy,hb⟩
   have HB6:=Lib.hid (bel_both HB5.out hb)
   have HCC:=Lib.hid (HCT.out w6 y HB6.out hy)
   clear hb hy c0 c1 c2 c3 c4 c5 c6 c7 c8
   obtain ⟨yA,yn,yc⟩:=y
   go_wp2_with fail
   refine HCC.out.mono ?_
   rintro e w7 ⟨rfl,hb⟩
   have HB7:=Lib.hid (bel_both HB0.out (bel_both HB6.out hb))
   clear hb
   go_wp2
   go_ret
   exact ⟨rfl,HB7.out⟩
theorem vgood_any {H:Nat->Prop}{w:World}{a:PA}{h:Sl}{p:V8} (hav:AV H w a h p) (hH:∀ b,H b->b < w.heap.size) (hg:GoodA 40 a) (hs:SmA 1000000 a) :
  Calls Tryz.prog 61 #[arrV h p] w fun e w'=>e= .returned (.bool true)/\Below w.heap.size w w':=by
 have HB:=Lib.hid (bel1 w (arrO h p))
 have HC:=Lib.hid (good_walk 40 H a h p _ 40 rfl (by decide) (fun b e=>by have:=hH b e;simp;omega) hg hs (AV.step hav HB.out))
 clear hav hH hg hs
 go_enter Tryz.func61,Tryz.ntmps61
 go_wp2_with fail
 refine HC.out.mono ?_
 rintro e w1 ⟨rfl,hb⟩
 have HB1:=Lib.hid (bel_both HB.out hb)
 clear hb
 go_wp2
 go_ret
 exact ⟨rfl,HB1.out⟩
structure A2 (w W:World) (h1:Sl) (p:V8) (h2:Sl) (q:V8):Prop where
 one:At9 W w.heap.size 0 h1 p
 two:At9 W (w.heap.size+1) 0 h2 q
 bel:Below w.heap.size w W
theorem A2.step {w W W':World}{h1 h2:Sl}{p q:V8} (h:A2 w W h1 p h2 q) (hb:Below W.heap.size W W'):A2 w W' h1 p h2 q:=⟨h.one.below hb,h.two.below hb,bel_both h.bel hb⟩
theorem A2.dr {w W:World}{h1 h2:Sl}{p q:V8} (h:A2 w W h1 p h2 q):A2 w W.drew h1 p h2 q:=h.step (Below.refl _ W).drew
theorem A2.self {w W:World}{h1 h2:Sl}{p q:V8} (h:A2 w W h1 p h2 q):A2 w W h1 p h2 q:=h
theorem A2.new (w:World) (h1 h2:Sl) (p q:V8):A2 w ((w.alloc (arrO h1 p)).alloc (arrO h2 q)) h1 p h2 q:=by
 have h:=at9_new (w.alloc (arrO h1 p)) h2 q
 have e:(w.alloc (arrO h1 p)).heap.size=w.heap.size+1:=by simp
 rw [e] at h
 exact ⟨(at9_new w h1 p).below (bel1 _ _),h,bel2 w _ _⟩
theorem AV.shp {H:Nat->Prop}{w:World}{a:PA}{h:Sl}{p:V8} (g:AV H w a h p):ShV H w h a.shape:=by
 cases a <;> (rw [AV] at g;exact g.1)
theorem store_bool {w:World}{a:Addr}{y:Value} (hc:w.cell? a=some y) (hf:w.frozen? a=false) (x:Bool) (m:Mode):(store a (.bool x) m).run Tryz.prog w= .ok () (w.setCell a (.bool x)):=by
 rw [run_store Tryz.prog w a _ m rfl,hc]
 simp [hf]
end Go.Proofs.YtakgmnafbjdccaaGreatDoor
