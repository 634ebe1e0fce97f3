/- Words for memory: rows of runes that a call owns; slices that read as lists; one more rune appended. Words for memory: slices of one-cell elements of any type .. Conditions: as each theorem says. -/
import Derived.Test.YtdelgpelkfndeaaGreatDoorMgA
import Derived.Test.YtdelgpelkfndeaaGreatDoorProg
import Derived.WalkKit
import Derived.WalkLawsBesides
import Derived.Maps.AppendAt
import Derived.Lib.Hide
import Derived.Outline
import Derived.OwnWalk
import Derived.Laws.OwnMore
import Derived.Deep.OwnRows
import Derived.Test.YtdelgpelkfndeaaGreatDoorMg00
import Derived.Shelf.SlGeneric
import Derived.Shelf.SlicesE.Clone
import Derived.OneCell
import Derived.Laws.ResultCell
import Derived.Laws.Rows
set_option maxRecDepth 100000
set_option maxHeartbeats 1000000
namespace Go.Proofs.YtdelgpelkfndeaaGreatDoor
open Go Go.RowKit Go.Proofs
theorem Qav {w:World}{a:Addr}{v:Value} (h:w.cell? a=some v):a.block < w.heap.size:=by
 unfold World.cell? at h
 rcases Nat.lt_or_ge a.block w.heap.size with hlt | hge
 ·exact hlt
 ·rw [Array.getElem?_eq_none hge] at h;simp at h
def Apart (v d:Value):Prop:=v.ownBlock=none\/d.ownBlock=none\/v.ownBlock≠d.ownBlock
theorem Qov:(Tryz.prog.info? 21).map (fun i=>(i.zero,i.size,i.bytes))=some (some (.int .i32 0),1,4):=by kernel_rfl
def Reads1 (w:World) (v:Value) (xs:List Value):Prop :=
 (∃ a c,v= .slice a 0 c/\xs=[]) \/
 (∃ b o n c,v= .slice (some ⟨b,o,none⟩) n c/\n=xs.length/\∀ i (h:i < xs.length),w.cell? ⟨b,o+i,none⟩=some xs[i])
theorem Reads1.below {w w':World}{v:Value}{xs:List Value} (h:Reads1 w v xs) (hb:Below w.heap.size w w'):Reads1 w' v xs:=by
 rcases h with h | ⟨b,o,n,c,rfl,hn,hc⟩
 ·exact .inl h
 ·exact .inr ⟨b,o,n,c,rfl,hn,fun i hi=>by rw [hb.cell (Qav (hc i hi))];exact hc i hi⟩
theorem Reads1.len {w:World}{v:Value}{xs:List Value} (h:Reads1 w v xs):∃ a c,v= .slice a xs.length c:=by
 rcases h with ⟨a,c,rfl,rfl⟩ | ⟨b,o,n,c,rfl,hn,hc⟩
 ·exact ⟨a,c,rfl⟩
 ·exact ⟨_,c,by rw [hn]⟩
def Own1 (w:World) (B:Nat) (e:TypeId) (v:Value) (xs:List Value):Prop:=w.ownsRow B e 1 v xs.length xs
theorem Own1.nil (w:World) (B:Nat) (e:TypeId):Own1 w B e (.slice none 0 0) []:=World.ownsRow_nil w B _ _
theorem Own1.reads {w:World}{B:Nat}{e:TypeId}{v:Value}{xs:List Value} (h:Own1 w B e v xs):Reads1 w v xs:=by
 have h':=h
 rcases h.2 with ⟨rfl,hn⟩ | ⟨g,cap,cur,rfl,hbg,hg,hnc,hcm,hcs,htake⟩
 ·exact .inl ⟨none,0,rfl,List.eq_nil_of_length_eq_zero hn⟩
 ·refine .inr ⟨g,0,xs.length,cap,rfl,rfl,fun i hi=>?_⟩
  have:=World.ownsRow.cellAt h' i (by omega)
  rw [Nat.zero_add,this]
  simp [hi]
theorem Own1.below {w w':World}{B:Nat}{e:TypeId}{v:Value}{xs:List Value} (h:Own1 w B e v xs) (hb:Below w.heap.size w w'):Own1 w' B e v xs:=by
 refine ⟨h.1,?_⟩
 rcases h.2 with h2 | ⟨g,cap,cur,hv,hbg,hg,r⟩
 ·exact .inl h2
 ·refine .inr ⟨g,cap,cur,hv,hbg,?_,r⟩
  have hlt:g < w.heap.size:=by
   rcases Nat.lt_or_ge g w.heap.size with hlt | hge
   ·exact hlt
   ·rw [Array.getElem?_eq_none hge] at hg;cases hg
  rw [hb.block g hlt];exact hg
theorem Qhl {ops:Array Oper}{rest:List Oper}{o:Oper}{a:Act}{Q:Exit->Act->World->Prop}{w:World} (hgd:o.guard=none) (s x:Operand) (t e:TypeId)
  (ho:o.op= .call { callee := .builtin .append,args:=#[s,x],argTypes:=#[t,t]}) (ht:Tryz.prog.underlying t=some (.slice e)) (z:Value) (bytes:Nat)
  (hinfo:(Tryz.prog.info? e).map (fun i=>(i.zero,i.size,i.bytes))=some (some z,1,bytes)) (hz:z.cells.size=1)
  (B:Nat) (v:Value) (xs:List Value) (hs:a.eval s=v) (hown:Own1 w B e v xs) (c:Value) (hc1:c.oneCell'=true)
  (hx:a.eval x= .slice (some ⟨w.heap.size,0,none⟩) 1 1) (hl:(xs.length+1)*bytes<=140737488355328) (hl2:xs.length+1<=140737488355328) (hB:B<=w.heap.size)
  (h:∀ v' w',Own1 w' B e v' (xs++[c])->(∀ w0,Below B w0 w->Below B w0 w')->(∀ e2 d m,w.ownsRow B e2 1 d m.length m->Apart v d->w'.ownsRow B e2 1 d m.length m/\Apart v' d)->w.heap.size<=w'.heap.size ->
   wpList Tryz.prog ops Q rest (a.put o.dst v') w'):wpList Tryz.prog ops Q (o::rest) a (w.alloc (.cells #[c] e)):=by
 obtain ⟨i0,hi0,hz0,hz1,hz2⟩:=info_parts hinfo
 refine wpList_append_own_at _ hgd s x t ho B e i0 z 1 bytes ht hi0 hz0 hz1 hz2 hz (by omega) v xs.length _ hs
  (World.ownsRow.alloc hown _) ⟨w.heap.size,0,none⟩ 1 1 [c] hx rfl (cell_one_new w _ _) (by simpa using hc1) (by unfold maxLen;omega) hl (by simp;omega) ?_
 intro v' w' hown' hg _ hat
 have hsz:w.heap.size+1<=w'.heap.size:=by have:=hg.size;simpa using this
 refine h v' w' ?_ ?_ ?_ (by omega)
 ·unfold Own1
  rw [List.length_append]
  exact hown'
 ·intro w0 hb
  exact ((hb.alloc hB _).grown hg (by simp;omega) fun k hk=>(World.ownsRow.lt hown k hk).1)
 ·intro e2 d m hd hap
  have hd':(w.alloc (.cells #[c] e)).ownsRow B e2 1 d m.length m:=World.ownsRow.alloc hd _
  refine ⟨World.ownsRow.kept hd' hg ?_,?_⟩
  ·rcases hap with h1 | h1 | h1
   ·cases hdb:d.ownBlock with
    | none=>exact .inl rfl
    | some k=>right;rw [h1];simp
   ·exact .inl h1
   ·exact .inr fun e=>h1 e.symm
  ·rcases hat with e | e
   ·unfold Apart;rw [e];exact hap
   ·refine .inr (.inr ?_)
    rw [e]
    intro he
    have:=(World.ownsRow.lt hd _ he.symm).2
    simp at this
    omega
def Qeu (f:Nat->Value) (z:Value) (n k:Nat):List Value:=(List.range n).map fun i=>if i < k then f i else z
theorem QcE (f:Nat->Value) (z:Value) (n k:Nat):(Qeu f z n k).length=n:=by simp [Qeu]
theorem QcF (f:Nat->Value) (z:Value) (n k i:Nat) (h:i < n):(Qeu f z n k)[i]?=some (if i < k then f i else z):=by simp [Qeu,h]
theorem Qd0 (f:Nat->Value) (z:Value) (n k i:Nat) (h:¬ i < n):(Qeu f z n k)[i]?=none:=by
 rw [List.getElem?_eq_none_iff,QcE];omega
theorem Qkz (f:Nat->Value) (z:Value) (n:Nat):List.replicate n z=Qeu f z n 0:=by
 apply List.ext_getElem?
 intro i
 by_cases h:i < n
 ·rw [QcF _ _ _ _ _ h,List.getElem?_replicate,if_pos h];simp
 ·rw [Qd0 _ _ _ _ _ h,List.getElem?_replicate,if_neg h]
theorem Qhm (f:Nat->Value) (z:Value) (n k:Nat) (h:k < n):(Qeu f z n k).set k (f k)=Qeu f z n (k+1):=by
 apply List.ext_getElem?
 intro i
 rw [List.getElem?_set]
 by_cases hi:i < n
 ·rw [QcF _ _ _ _ _ hi,QcF _ _ _ _ _ hi,QcE]
  by_cases hk:k=i
  ·subst hk;rw [if_pos rfl,if_pos h,if_pos (by omega)]
  ·rw [if_neg hk]
   by_cases h2:i < k
   ·rw [if_pos h2,if_pos (by omega)]
   ·rw [if_neg h2,if_neg (by omega)]
 ·rw [Qd0 _ _ _ _ _ hi,Qd0 _ _ _ _ _ hi,if_neg (by omega)]
theorem QkA (f:Nat->Value) (z:Value) (n:Nat):Qeu f z n n=(List.range n).map f:=by
 unfold Qeu
 apply List.map_congr_left
 intro i hi
 rw [if_pos (List.mem_range.1 hi)]
def Fill (w:World) (B g:Nat) (e:TypeId) (f:Nat->Value) (z:Value) (n k:Nat):Prop:=w.ownsRow B e 1 (.slice (some ⟨g,0,none⟩) n n) n (Qeu f z n k)
theorem Fill.made (w:World) (B:Nat) (hB:B<=w.heap.size) (e:TypeId) (f:Nat->Value) (z:Value) (n:Nat) (hn:n<=maxLen):Fill (w.alloc (.cells (madeCells #[z] n) e)) B w.heap.size e f z n 0:=by
 have h:=World.ownsRow_lit (base:=B) (e:=e) (size:=1) w (madeCells #[z] n) n hB hn (by rw [size_madeCells];omega)
 rw [toList_madeCells_one,Qkz f] at h
 exact h
theorem Fill.cell {w:World}{B g:Nat}{e:TypeId}{f:Nat->Value}{z:Value}{n k:Nat} (h:Fill w B g e f z n k) (hk:k < n):w.cell? ⟨g,k,none⟩=some z:=by
 have:=World.ownsRow.cellAt h k (by omega)
 rw [this,QcF _ _ _ _ _ hk,if_neg (by omega)]
theorem Fill.done {w:World}{B g:Nat}{e:TypeId}{f:Nat->Value}{z:Value}{n k:Nat} (h:Fill w B g e f z n k) (i:Nat) (hi:i < k) (hk:k<=n):w.cell? ⟨g,i,none⟩=some (f i):=by
 have:=World.ownsRow.cellAt h i (by omega)
 rw [this,QcF _ _ _ _ _ (by omega),if_pos hi]
theorem Fill.frozen {w:World}{B g:Nat}{e:TypeId}{f:Nat->Value}{z:Value}{n k:Nat} (h:Fill w B g e f z n k) (i:Nat):w.frozen? ⟨g,i,none⟩=false:=World.ownsRow.frozenAt h i
theorem Fill.put {w:World}{B g:Nat}{e:TypeId}{f:Nat->Value}{z:Value}{n k:Nat} (h:Fill w B g e f z n k) (hk:k < n):Fill (w.setCell ⟨g,k,none⟩ (f k)) B g e f z n (k+1):=by
 have:=(World.ownsRow.stored h k (f k)).1
 rw [Qhm _ _ _ _ hk] at this
 exact this
theorem Fill.low {w:World}{B g:Nat}{e:TypeId}{f:Nat->Value}{z:Value}{n k:Nat} (h:Fill w B g e f z n k):B<=g/\g < w.heap.size:=World.ownsRow.lt h g rfl
theorem Fill.bel {w w0:World}{B g:Nat}{e:TypeId}{f:Nat->Value}{z:Value}{n k:Nat} (h:Fill w B g e f z n k) (hb:Below B w0 w) (i:Nat) (u:Value):Below B w0 (w.setCell ⟨g,i,none⟩ u):=hb.setCell h.low.1 _
theorem Fill.below {w w':World}{B g:Nat}{e:TypeId}{f:Nat->Value}{z:Value}{n k:Nat} (h:Fill w B g e f z n k) (hb:Below w.heap.size w w'):Fill w' B g e f z n k:=by
 have h2:Own1 w B e (.slice (some ⟨g,0,none⟩) n n) (Qeu f z n k):=by unfold Own1;rw [QcE];exact h
 have:=h2.below hb
 unfold Own1 at this
 rw [QcE] at this
 exact this
theorem Fill.own {w:World}{B g:Nat}{e:TypeId}{f:Nat->Value}{z:Value}{n:Nat} (h:Fill w B g e f z n n):Own1 w B e (.slice (some ⟨g,0,none⟩) n n) ((List.range n).map f):=by
 unfold Own1
 rw [<- QkA f z n,QcE]
 exact h
theorem QfM {α:Type} (l:List α) (d:α) (f:α->Value):(List.range l.length).map (fun i=>f (l.getD i d))=l.map f:=by
 apply List.ext_getElem?
 intro i
 by_cases h:i < l.length
 ·simp [h,List.getD]
 ·simp [h]
theorem Reads1.at {w:World}{v:Value}{xs:List Value} (h:Reads1 w v xs):(∃ a c,v= .slice a 0 c/\xs=[])\/∃ b o c,v= .slice (some ⟨b,o,none⟩) xs.length c/\∀ i (h:i < xs.length),w.cell? ⟨b,o+i,none⟩=some xs[i]:=by
 rcases h with h | ⟨b,o,n,c,rfl,hn,hc⟩
 ·exact .inl h
 ·exact .inr ⟨b,o,c,by rw [hn],hc⟩
theorem bel1 (w:World) (a:Obj):Below w.heap.size w (w.alloc a):=(Below.refl _ w).alloc (Nat.le_refl _) a
theorem bel2 (w:World) (a b:Obj):Below w.heap.size w ((w.alloc a).alloc b):=(bel1 w a).alloc (by simp) b
theorem bel3 (w:World) (a b c:Obj):Below w.heap.size w (((w.alloc a).alloc b).alloc c):=(bel2 w a b).alloc (by simp;omega) c
theorem bel4 (w:World) (a b c d:Obj):Below w.heap.size w ((((w.alloc a).alloc b).alloc c).alloc d):=(bel3 w a b c).alloc (by simp;omega) d
theorem Qab {w:World}{p:Addr}{v:Value} (h:w.cell? p=some v) (a:Obj):(w.alloc a).cell? p=some v:=by rw [(bel1 w a).cell (Qav h)];exact h
theorem QaE {w:World}{p:Addr}{v:Value} (h:w.cell? p=some v) (a b:Obj):((w.alloc a).alloc b).cell? p=some v:=Qab (Qab h a) b
theorem Qcg {w:World}{p:Addr}{v:Value} (h:w.cell? p=some v) (a b c:Obj):(((w.alloc a).alloc b).alloc c).cell? p=some v:=Qab (QaE h a b) c
theorem QcG {w:World}{p:Addr}{v:Value} (h:w.cell? p=some v) (a b c d:Obj):((((w.alloc a).alloc b).alloc c).alloc d).cell? p=some v:=Qab (Qcg h a b c) d
abbrev vnil:Value := .slice none 0 0
abbrev vecV (k:Int) (bw:Value) (bn:Int) (s i f c x:Value):Value := .agg #[.int .i64 k,bw,.int .i64 bn,s,i,f,c,x]
end Go.Proofs.YtdelgpelkfndeaaGreatDoor
namespace Go.Proofs.YtdelgpelkfndeaaGreatDoor
open Go Go.RowKit Go.Proofs Fl
theorem QcU (k:Int) (b:Value) (bn:Int) (s i f c x:Value) (w:World) :
  Calls Tryz.prog 43 #[vecV k b bn s i f c x] w fun e w'=>e= .returned (.int .i64 k)/\Below w.heap.size w w':=by
 go_enter Tryz.func43,Tryz.ntmps43
 go_wp2
 all_goals go_ret
 all_goals exact ⟨rfl,by first | exact Below.refl _ _ | exact bel1 _ _ | exact bel2 _ _ _ | exact bel3 _ _ _ _ | exact bel4 _ _ _ _ _⟩
theorem Qgw (b:Value) (bn:Int) (s i f c x:Value) (w:World) :
  Calls Tryz.prog 44 #[vecV 1 b bn s i f c x] w fun e w'=>e= .returned (.int .i64 0)/\Below w.heap.size w w':=by
 go_enter Tryz.func44,Tryz.ntmps44
 go_wp2
 all_goals go_ret
 all_goals exact ⟨rfl,by first | exact Below.refl _ _ | exact bel1 _ _ | exact bel2 _ _ _ | exact bel3 _ _ _ _ | exact bel4 _ _ _ _ _⟩
theorem QqI (b:Value) (bn:Int) (s i f c x:Value) (w:World) :
  Calls Tryz.prog 44 #[vecV 2 b bn s i f c x] w fun e w'=>e= .returned (.int .i64 0)/\Below w.heap.size w w':=by
 go_enter Tryz.func44,Tryz.ntmps44
 go_wp2
 all_goals go_ret
 all_goals exact ⟨rfl,by first | exact Below.refl _ _ | exact bel1 _ _ | exact bel2 _ _ _ | exact bel3 _ _ _ _ | exact bel4 _ _ _ _ _⟩
theorem QqJ (b:Value) (bn:Int) (s i f c x:Value) (w:World) :
  Calls Tryz.prog 44 #[vecV 3 b bn s i f c x] w fun e w'=>e= .returned (.int .i64 0)/\Below w.heap.size w w':=by
 go_enter Tryz.func44,Tryz.ntmps44
 go_wp2
 all_goals go_ret
 all_goals exact ⟨rfl,by first | exact Below.refl _ _ | exact bel1 _ _ | exact bel2 _ _ _ | exact bel3 _ _ _ _ | exact bel4 _ _ _ _ _⟩
theorem QqK (b:Value) (bn:Int) (s i f c x:Value) (w:World) :
  Calls Tryz.prog 44 #[vecV 4 b bn s i f c x] w fun e w'=>e= .returned (.int .i64 0)/\Below w.heap.size w w':=by
 go_enter Tryz.func44,Tryz.ntmps44
 go_wp2
 all_goals go_ret
 all_goals exact ⟨rfl,by first | exact Below.refl _ _ | exact bel1 _ _ | exact bel2 _ _ _ | exact bel3 _ _ _ _ | exact bel4 _ _ _ _ _⟩
theorem QlJ (b:Value) (bn:Int) (s i f c x:Value) (w:World) :
  Calls Tryz.prog 44 #[vecV 5 b bn s i f c x] w fun e w'=>e= .returned (.int .i64 1)/\Below w.heap.size w w':=by
 go_enter Tryz.func44,Tryz.ntmps44
 go_wp2
 all_goals go_ret
 all_goals exact ⟨rfl,by first | exact Below.refl _ _ | exact bel1 _ _ | exact bel2 _ _ _ | exact bel3 _ _ _ _ | exact bel4 _ _ _ _ _⟩
theorem QlK (b:Value) (bn:Int) (s i f c x:Value) (w:World) :
  Calls Tryz.prog 44 #[vecV 6 b bn s i f c x] w fun e w'=>e= .returned (.int .i64 2)/\Below w.heap.size w w':=by
 go_enter Tryz.func44,Tryz.ntmps44
 go_wp2
 all_goals go_ret
 all_goals exact ⟨rfl,by first | exact Below.refl _ _ | exact bel1 _ _ | exact bel2 _ _ _ | exact bel3 _ _ _ _ | exact bel4 _ _ _ _ _⟩
theorem QtP (b:Value) (bn:Int) (i f c x:Value) (p:Option Addr) (n q:Nat) (w:World) :
  Calls Tryz.prog 23 #[vecV 2 b bn (.slice p n q) i f c x] w fun e w'=>e= .returned (.int .i64 n)/\Below w.heap.size w w':=by
 go_enter Tryz.func23,Tryz.ntmps23
 go_wp2
 all_goals go_ret
 all_goals exact ⟨rfl,by first | exact Below.refl _ _ | exact bel1 _ _ | exact bel2 _ _ _ | exact bel3 _ _ _ _ | exact bel4 _ _ _ _ _⟩
theorem QtQ (b:Value) (bn:Int) (s f c x:Value) (p:Option Addr) (n q:Nat) (w:World) :
  Calls Tryz.prog 23 #[vecV 3 b bn s (.slice p n q) f c x] w fun e w'=>e= .returned (.int .i64 n)/\Below w.heap.size w w':=by
 go_enter Tryz.func23,Tryz.ntmps23
 go_wp2
 all_goals go_ret
 all_goals exact ⟨rfl,by first | exact Below.refl _ _ | exact bel1 _ _ | exact bel2 _ _ _ | exact bel3 _ _ _ _ | exact bel4 _ _ _ _ _⟩
theorem QtR (b:Value) (bn:Int) (s i c x:Value) (p:Option Addr) (n q:Nat) (w:World) :
  Calls Tryz.prog 23 #[vecV 4 b bn s i (.slice p n q) c x] w fun e w'=>e= .returned (.int .i64 n)/\Below w.heap.size w w':=by
 go_enter Tryz.func23,Tryz.ntmps23
 go_wp2
 all_goals go_ret
 all_goals exact ⟨rfl,by first | exact Below.refl _ _ | exact bel1 _ _ | exact bel2 _ _ _ | exact bel3 _ _ _ _ | exact bel4 _ _ _ _ _⟩
theorem QsZ (b:Value) (bn:Int) (s i f x:Value) (p:Option Addr) (n q:Nat) (w:World) :
  Calls Tryz.prog 23 #[vecV 5 b bn s i f (.slice p n q) x] w fun e w'=>e= .returned (.int .i64 n)/\Below w.heap.size w w':=by
 go_enter Tryz.func23,Tryz.ntmps23
 go_wp2
 all_goals go_ret
 all_goals exact ⟨rfl,by first | exact Below.refl _ _ | exact bel1 _ _ | exact bel2 _ _ _ | exact bel3 _ _ _ _ | exact bel4 _ _ _ _ _⟩
theorem QtS (b:Value) (bn:Int) (s i f c:Value) (p:Option Addr) (n q:Nat) (w:World) :
  Calls Tryz.prog 23 #[vecV 6 b bn s i f c (.slice p n q)] w fun e w'=>e= .returned (.int .i64 n)/\Below w.heap.size w w':=by
 go_enter Tryz.func23,Tryz.ntmps23
 go_wp2
 all_goals go_ret
 all_goals exact ⟨rfl,by first | exact Below.refl _ _ | exact bel1 _ _ | exact bel2 _ _ _ | exact bel3 _ _ _ _ | exact bel4 _ _ _ _ _⟩
theorem QlL (b:Value) (bn:Int) (s i f c x:Value) (w:World) :
  Calls Tryz.prog 23 #[vecV 1 b bn s i f c x] w fun e w'=>e= .returned (.int .i64 bn)/\Below w.heap.size w w':=by
 go_enter Tryz.func23,Tryz.ntmps23
 go_wp2
 all_goals go_ret
 all_goals exact ⟨rfl,by first | exact Below.refl _ _ | exact bel1 _ _ | exact bel2 _ _ _ | exact bel3 _ _ _ _ | exact bel4 _ _ _ _ _⟩
theorem QtT (b:Value) (bn:Int) (i f c x:Value) (B o n q j:Nat) (hj:j < n) (z:Int) (w:World) (hc:w.cell? ⟨B,o+j,none⟩=some (.int .i8 z)) :
  Calls Tryz.prog 92 #[vecV 2 b bn (.slice (some ⟨B,o,none⟩) n q) i f c x,.int .i64 (j:Int)] w fun e w'=>e= .returned (.float .f64 (floatOfInt .f64 z))/\Below w.heap.size w w':=by
 have h1:=fun a=>Qab hc a
 have h2:=fun a b=>QaE hc a b
 have h3:=fun a b d=>Qcg hc a b d
 have h4:=fun a b d g=>QcG hc a b d g
 go_enter Tryz.func92,Tryz.ntmps92
 go_wp2
 all_goals go_ret
 all_goals exact ⟨rfl,by first | exact Below.refl _ _ | exact bel1 _ _ | exact bel2 _ _ _ | exact bel3 _ _ _ _ | exact bel4 _ _ _ _ _⟩
theorem Qow (b:Value) (bn:Int) (i f c x:Value) (B o n q j:Nat) (hj:j < n) (z:Int) (hz:-128<=z) (hz2:z<=127) (w:World) (hc:w.cell? ⟨B,o+j,none⟩=some (.int .i8 z)) :
  Calls Tryz.prog 132 #[vecV 2 b bn (.slice (some ⟨B,o,none⟩) n q) i f c x,.int .i64 (j:Int)] w fun e w'=>e= .returned (.tuple #[.int .i64 z,.bool true])/\Below w.heap.size w w':=by
 have h1:=fun a=>Qab hc a
 have h2:=fun a b=>QaE hc a b
 have h3:=fun a b d=>Qcg hc a b d
 have h4:=fun a b d g=>QcG hc a b d g
 go_enter Tryz.func132,Tryz.ntmps132
 go_wp2
 all_goals go_ret2
 all_goals exact ⟨rfl,by first | exact Below.refl _ _ | exact bel1 _ _ | exact bel2 _ _ _ | exact bel3 _ _ _ _ | exact bel4 _ _ _ _ _⟩
theorem QtU (b:Value) (bn:Int) (s f c x:Value) (B o n q j:Nat) (hj:j < n) (z:Int) (w:World) (hc:w.cell? ⟨B,o+j,none⟩=some (.int .i64 z)) :
  Calls Tryz.prog 92 #[vecV 3 b bn s (.slice (some ⟨B,o,none⟩) n q) f c x,.int .i64 (j:Int)] w fun e w'=>e= .returned (.float .f64 (floatOfInt .f64 z))/\Below w.heap.size w w':=by
 have h1:=fun a=>Qab hc a
 have h2:=fun a b=>QaE hc a b
 have h3:=fun a b d=>Qcg hc a b d
 have h4:=fun a b d g=>QcG hc a b d g
 go_enter Tryz.func92,Tryz.ntmps92
 go_wp2
 all_goals go_ret
 all_goals exact ⟨rfl,by first | exact Below.refl _ _ | exact bel1 _ _ | exact bel2 _ _ _ | exact bel3 _ _ _ _ | exact bel4 _ _ _ _ _⟩
theorem Qox (b:Value) (bn:Int) (s f c x:Value) (B o n q j:Nat) (hj:j < n) (z:Int) (w:World) (hc:w.cell? ⟨B,o+j,none⟩=some (.int .i64 z)) :
  Calls Tryz.prog 132 #[vecV 3 b bn s (.slice (some ⟨B,o,none⟩) n q) f c x,.int .i64 (j:Int)] w fun e w'=>e= .returned (.tuple #[.int .i64 z,.bool true])/\Below w.heap.size w w':=by
 have h1:=fun a=>Qab hc a
 have h2:=fun a b=>QaE hc a b
 have h3:=fun a b d=>Qcg hc a b d
 have h4:=fun a b d g=>QcG hc a b d g
 go_enter Tryz.func132,Tryz.ntmps132
 go_wp2
 all_goals go_ret2
 all_goals exact ⟨rfl,by first | exact Below.refl _ _ | exact bel1 _ _ | exact bel2 _ _ _ | exact bel3 _ _ _ _ | exact bel4 _ _ _ _ _⟩
theorem QtV (b:Value) (bn:Int) (s i c x:Value) (B o n q j:Nat) (hj:j < n) (y:Nat) (w:World) (hc:w.cell? ⟨B,o+j,none⟩=some (.float .f64 y)) :
  Calls Tryz.prog 92 #[vecV 4 b bn s i (.slice (some ⟨B,o,none⟩) n q) c x,.int .i64 (j:Int)] w fun e w'=>e= .returned (.float .f64 y)/\Below w.heap.size w w':=by
 have h1:=fun a=>Qab hc a
 have h2:=fun a b=>QaE hc a b
 have h3:=fun a b d=>Qcg hc a b d
 have h4:=fun a b d g=>QcG hc a b d g
 go_enter Tryz.func92,Tryz.ntmps92
 go_wp2
 all_goals go_ret
 all_goals exact ⟨rfl,by first | exact Below.refl _ _ | exact bel1 _ _ | exact bel2 _ _ _ | exact bel3 _ _ _ _ | exact bel4 _ _ _ _ _⟩
theorem Qoy (b:Value) (bn:Int) (s i c x:Value) (B o n q j:Nat) (hj:j < n) (w:World) :
  Calls Tryz.prog 132 #[vecV 4 b bn s i (.slice (some ⟨B,o,none⟩) n q) c x,.int .i64 (j:Int)] w fun e w'=>e= .returned (.tuple #[.int .i64 0,.bool false])/\Below w.heap.size w w':=by
 go_enter Tryz.func132,Tryz.ntmps132
 go_wp2
 all_goals go_ret2
 all_goals exact ⟨rfl,by first | exact Below.refl _ _ | exact bel1 _ _ | exact bel2 _ _ _ | exact bel3 _ _ _ _ | exact bel4 _ _ _ _ _⟩
def Boxed (w:World) (G:Nat) (k:Int) (b:Value) (bn:Int) (s i f c x:Value):Prop :=
 w.cell? ⟨G,0,none⟩=some (.int .i64 k)/\w.cell? ⟨G,1,none⟩=some b/\w.cell? ⟨G,2,none⟩=some (.int .i64 bn)/\w.cell? ⟨G,3,none⟩=some s /\
  w.cell? ⟨G,4,none⟩=some i/\w.cell? ⟨G,5,none⟩=some f/\w.cell? ⟨G,6,none⟩=some c/\w.cell? ⟨G,7,none⟩=some x
theorem QaF (w:World) (e:TypeId) (k:Int) (b:Value) (bn:Int) (s i f c x:Value):Boxed (w.alloc (.cells #[.int .i64 k,b,.int .i64 bn,s,i,f,c,x] e)) w.heap.size k b bn s i f c x:=by
 have h:∀ j u,#[.int .i64 k,b,.int .i64 bn,s,i,f,c,x][j]?=some u->(w.alloc (.cells #[.int .i64 k,b,.int .i64 bn,s,i,f,c,x] e)).cell? ⟨w.heap.size,j,none⟩=some u:=by
  intro j u hu
  rw [cell_of_row _ w.heap.size j _ e (0,0) (heap_alloc_new w _)]
  exact hu
 exact ⟨h 0 _ rfl,h 1 _ rfl,h 2 _ rfl,h 3 _ rfl,h 4 _ rfl,h 5 _ rfl,h 6 _ rfl,h 7 _ rfl⟩
theorem Boxed.of {w w':World}{G:Nat}{k:Int}{b:Value}{bn:Int}{s i f c x:Value} (h:Boxed w G k b bn s i f c x) (e:∀ j,w'.cell? ⟨G,j,none⟩=w.cell? ⟨G,j,none⟩):Boxed w' G k b bn s i f c x:=by
 unfold Boxed
 rw [e,e,e,e,e,e,e,e]
 exact h
theorem Boxed.lt {w:World}{G:Nat}{k:Int}{b:Value}{bn:Int}{s i f c x:Value} (h:Boxed w G k b bn s i f c x):G < w.heap.size:=Qav h.1
theorem Boxed.below {w w':World}{G:Nat}{k:Int}{b:Value}{bn:Int}{s i f c x:Value} (h:Boxed w G k b bn s i f c x) (hb:Below w.heap.size w w'):Boxed w' G k b bn s i f c x:=h.of fun _=>hb.cell h.lt
theorem Boxed.set {w:World}{G:Nat}{k:Int}{b:Value}{bn:Int}{s i f c x:Value} (h:Boxed w G k b bn s i f c x){p:Addr} (hp:p.block≠G) (u:Value):Boxed (w.setCell p u) G k b bn s i f c x :=
 h.of fun _=>World.cell?_of_block (w:=w) (Below.heap_setCell w p u G (fun e=>hp e.symm))
theorem Qds:(Tryz.prog.info? 60).map (fun i=>(i.zero,i.size,i.bytes))=some (some (.float .f64 0),1,8):=by kernel_rfl
theorem QaG {w:World}{a:Addr}{y:Value} (hc:w.cell? a=some y) (hf:w.frozen? a=false) (k:FloatKind) (x:Nat) (m:Mode):(store a (.float k x) m).run Tryz.prog w= .ok () (w.setCell a (.float k x)):=by
 rw [run_store Tryz.prog w a _ m rfl,hc]
 simp [hf]
end Go.Proofs.YtdelgpelkfndeaaGreatDoor
namespace Go.Proofs.YtdelgpelkfndeaaGreatDoor
open Go Go.RowKit Go.Proofs Go.Shelf Go.Lib
section
variable {P:Program} {ρ:Ren}
theorem QkB (L:SlLaysE0.n41 P ρ) (i0:TypeInfo) (z:Value) (bytes:Nat) (hi:P.info? (ρ.t 23)=some i0) (hz0:i0.zero=some z) (hz1:i0.size=1) (hz2:i0.bytes=bytes) (hzs:z.cells.size=1)
  (z23:∀ w,(Go.sizeOf (ρ.t 23)).run P w= .ok 1 w) (x:Addr) (c:Nat) (w:World) :
  Calls P (ρ.f 41) #[.slice (some x) 0 c] w fun e w'=>∃ v',e= .returned v'/\w'.ownsRow w.heap.size (ρ.t 23) 1 v' 0 []/\Below w.heap.size w w':=by
 have mixed:=L.mixed;have t4:=L.t4;have a4:=L.a4;have z4:=L.z4;have v4:=L.v4;have t22:=L.t22;have a22:=L.a22;have z22:=L.z22;have v22:=L.v22
 have q22:∀ (w:World) (a:Option Addr) (n c n' c':Nat),(binOp .eql (ρ.t 22) (.slice a n c) (.slice none n' c')).run P w= .ok (.bool a.isNone) w:=fun w a n c n' c'=>Lib.run_eql_slice_nil w _ _ a n c n' c' L.t22
 have u22:∀ w,Sem.run P (underlying (ρ.t 22)) w= .ok (TypeDesc.slice (ρ.t 23)) w:=run_underlying t22
 obtain ⟨_,_,FG⟩:=L.f41
 obtain ⟨n,hn⟩:∃ n:Nat,n=0:=⟨0,rfl⟩
 rw [<- hn]
 have HN:=hD hn
 clear hn
 go_enter FG,SlBodyN.n41_ntmps ρ
 go_wp2_with (at_builtin;refine wpList_append_own _ rfl _ _ (ρ.t 22) rfl w.heap.size (ρ.t 23) i0 z 1 bytes t22 hi hz0 hz1 hz2 hzs (by decide) _ _ _ rfl (World.ownsRow_made w #[] 0 (Nat.le_refl _) (Nat.zero_le _) (by simp)) x n c [] rfl ?qc1 ?qc2 ?qc3 ?qc4 ?qc5 ?qc6 ?_)
 case qc1=>rw [HN.out];rfl
 case qc2 =>
  intro j u hj
  simp at hj
 case qc3=>intro u hu;cases hu
 case qc4=>rw [Nat.zero_add,HN.out];exact Nat.zero_le _
 case qc5=>rw [Nat.zero_add,HN.out,Nat.zero_mul];exact Nat.zero_le _
 case qc6=>simp
 intro v' w1 hown hgrow hnil
 go_wp2
 go_ret
 refine ⟨v',rfl,hown,?_⟩
 exact ((Below.refl _ w).alloc (Nat.le_refl _) _).grown hgrow (by simp) (by intro k hk;simp [Value.ownBlock] at hk;omega)
theorem Qcq (L:SlLaysE0.n41 P ρ) (z:Value) (bytes:Nat) (hinfo:(P.info? (ρ.t 23)).map (fun i=>(i.zero,i.size,i.bytes))=some (some z,1,bytes)) (hzs:z.cells.size=1)
  (z23:∀ w,(Go.sizeOf (ρ.t 23)).run P w= .ok 1 w) {w:World} {v:Value} {xs:List Value} (h:Reads1 w v xs) (hl:xs.length*bytes<=140737488355328) (hl2:xs.length<=140737488355328) (h1:∀ u∈xs,u.oneCell'=true) :
  Calls P (ρ.f 41) #[v] w fun e w'=>∃ v',e= .returned v'/\w'.ownsRow w.heap.size (ρ.t 23) 1 v' xs.length xs/\Below w.heap.size w w':=by
 obtain ⟨i0,hi,hz0,hz1,hz2⟩:=info_parts hinfo
 rcases h with ⟨x,c,rfl,rfl⟩ | ⟨b,o,n,c,rfl,hn,hc⟩
 ·cases x with
  | none =>
   refine (AnyE.slices_Clone_nil L 0 c w).mono ?_
   rintro e w' ⟨rfl,rfl⟩
   exact ⟨_,rfl,World.ownsRow_nil _ _ _ _,Below.refl _ _⟩
  | some x=>exact QkB L i0 z bytes hi hz0 hz1 hz2 hzs z23 x c w
 ·refine (AnyE.slices_Clone L i0 z 1 bytes hi hz0 hz1 hz2 hzs (by decide) z23 b o n c xs w (by omega) (by unfold maxLen;omega) (by rw [hn];exact hl) ?_ h1).mono ?_
  ·intro j u hj
   obtain ⟨hlt,rfl⟩:=List.getElem?_eq_some_iff.1 hj
   exact hc j hlt
  ·rintro e w' ⟨v',rfl,ho,_,hb⟩
   rw [hn] at ho
   exact ⟨v',rfl,ho,hb⟩
end
theorem QlM:(Tryz.prog.info? 2).map (fun i=>(i.zero,i.size,i.bytes))=some (some (.int .i64 0),1,8):=by kernel_rfl
def Qoz:Go.Shelf.Ren:=⟨fun | 41=>143 | n=>n,fun | 22=>35 | 23=>2 | 4=>4 | n=>n,fun n=>n⟩
theorem QlN:SlLaysE0.n41 Tryz.prog Qoz where
 mixed:=by kernel_rfl
 f41 := ⟨"slices.Clone[[]int64,int64]", by decide, Tryz.func143.trans (congrArg some (by kernel_rfl))⟩
 t4:=Tryz.underlying4
 a4:=Tryz.isAgg4
 z4:=Tryz.sizeOf4
 v4:=Tryz.zeroValue4
 t22:=Tryz.underlying35
 a22:=Tryz.isAgg35
 z22:=Tryz.sizeOf35
 v22:=Tryz.zeroValue35
theorem Qjr {w:World}{v:Value}{xs:List Value} (h:Reads1 w v xs) (hl:xs.length*8<=140737488355328) (h1:∀ u∈xs,u.oneCell'=true) :
  Calls Tryz.prog 143 #[v] w fun e w'=>∃ v',e= .returned v'/\Own1 w' w.heap.size 2 v' xs/\Below w.heap.size w w' :=
 Qcq QlN (.int .i64 0) 8 QlM rfl Tryz.sizeOf2 h (by omega) (by omega) h1
theorem QoA:(Tryz.prog.info? 194).map (fun i=>(i.zero,i.size,i.bytes))=some (some (.int .i8 0),1,1):=by kernel_rfl
def QqL:Go.Shelf.Ren:=⟨fun | 41=>263 | n=>n,fun | 22=>34 | 23=>194 | 4=>4 | n=>n,fun n=>n⟩
theorem QoB:SlLaysE0.n41 Tryz.prog QqL where
 mixed:=by kernel_rfl
 f41 := ⟨"slices.Clone[[]int8,int8]", by decide, Tryz.func263.trans (congrArg some (by kernel_rfl))⟩
 t4:=Tryz.underlying4
 a4:=Tryz.isAgg4
 z4:=Tryz.sizeOf4
 v4:=Tryz.zeroValue4
 t22:=Tryz.underlying34
 a22:=Tryz.isAgg34
 z22:=Tryz.sizeOf34
 v22:=Tryz.zeroValue34
theorem QqM {w:World}{v:Value}{xs:List Value} (h:Reads1 w v xs) (hl:xs.length*8<=140737488355328) (h1:∀ u∈xs,u.oneCell'=true) :
  Calls Tryz.prog 263 #[v] w fun e w'=>∃ v',e= .returned v'/\Own1 w' w.heap.size 194 v' xs/\Below w.heap.size w w' :=
 Qcq QoB (.int .i8 0) 1 QoA rfl Tryz.sizeOf194 h (by omega) (by omega) h1
theorem QoC:(Tryz.prog.info? 21).map (fun i=>(i.zero,i.size,i.bytes))=some (some (.int .i32 0),1,4):=by kernel_rfl
def QqN:Go.Shelf.Ren:=⟨fun | 41=>177 | n=>n,fun | 22=>30 | 23=>21 | 4=>4 | n=>n,fun n=>n⟩
theorem QoD:SlLaysE0.n41 Tryz.prog QqN where
 mixed:=by kernel_rfl
 f41 := ⟨"slices.Clone[[]rune,rune]", by decide, Tryz.func177.trans (congrArg some (by kernel_rfl))⟩
 t4:=Tryz.underlying4
 a4:=Tryz.isAgg4
 z4:=Tryz.sizeOf4
 v4:=Tryz.zeroValue4
 t22:=Tryz.underlying30
 a22:=Tryz.isAgg30
 z22:=Tryz.sizeOf30
 v22:=Tryz.zeroValue30
theorem QlO {w:World}{v:Value}{xs:List Value} (h:Reads1 w v xs) (hl:xs.length*8<=140737488355328) (h1:∀ u∈xs,u.oneCell'=true) :
  Calls Tryz.prog 177 #[v] w fun e w'=>∃ v',e= .returned v'/\Own1 w' w.heap.size 21 v' xs/\Below w.heap.size w w' :=
 Qcq QoD (.int .i32 0) 4 QoC rfl Tryz.sizeOf21 h (by omega) (by omega) h1
def QqO:Go.Shelf.Ren:=⟨fun | 41=>178 | n=>n,fun | 22=>37 | 23=>41 | 4=>4 | n=>n,fun n=>n⟩
theorem Qgx:SlLaysE0.n41 Tryz.prog QqO where
 mixed:=by kernel_rfl
 f41 := ⟨"slices.Clone[[]rebus/vec.Array,rebus/vec.Array]", by decide, Tryz.func178.trans (congrArg some (by kernel_rfl))⟩
 t4:=Tryz.underlying4
 a4:=Tryz.isAgg4
 z4:=Tryz.sizeOf4
 v4:=Tryz.zeroValue4
 t22:=Tryz.underlying37
 a22:=Tryz.isAgg37
 z22:=Tryz.sizeOf37
 v22:=Tryz.zeroValue37
end Go.Proofs.YtdelgpelkfndeaaGreatDoor
namespace Go.Proofs.YtdelgpelkfndeaaGreatDoor
open Go Go.RowKit Go.Proofs Fl
abbrev set8 (w:World) (G:Nat) (a0 a1 a2 a3 a4 a5 a6 a7:Value):World :=
 (((((((w.setCell ⟨G,0,none⟩ a0).setCell ⟨G,1,none⟩ a1).setCell ⟨G,2,none⟩ a2).setCell ⟨G,3,none⟩ a3).setCell ⟨G,4,none⟩ a4).setCell ⟨G,5,none⟩ a5).setCell ⟨G,6,none⟩ a6).setCell ⟨G,7,none⟩ a7
theorem Qac {B:Nat}{w0 w:World} (h:Below B w0 w){G:Nat} (hG:B<=G) (a0 a1 a2 a3 a4 a5 a6 a7:Value):Below B w0 (set8 w G a0 a1 a2 a3 a4 a5 a6 a7) :=
 (((((((h.setCell hG _).setCell hG _).setCell hG _).setCell hG _).setCell hG _).setCell hG _).setCell hG _).setCell hG _
theorem Qcr {w:World}{B:Nat}{e:TypeId}{v:Value}{xs:List Value} (h:Own1 w B e v xs){G:Nat} (hG:v.ownBlock≠some G) (a0 a1 a2 a3 a4 a5 a6 a7:Value):Own1 (set8 w G a0 a1 a2 a3 a4 a5 a6 a7) B e v xs:=by
 unfold Own1 at *
 exact ownsRow_setCell_other (ownsRow_setCell_other (ownsRow_setCell_other (ownsRow_setCell_other (ownsRow_setCell_other (ownsRow_setCell_other (ownsRow_setCell_other (ownsRow_setCell_other h hG _) hG _) hG _) hG _) hG _) hG _) hG _) hG _
theorem Own1.lower {w:World}{B B':Nat}{e:TypeId}{v:Value}{xs:List Value} (h:Own1 w B e v xs) (hB:B'<=B):Own1 w B' e v xs:=by
 refine ⟨h.1,?_⟩
 rcases h.2 with h2 | ⟨g,cap,cur,hv,hbg,r⟩
 ·exact .inl h2
 ·exact .inr ⟨g,cap,cur,hv,by omega,r⟩
theorem Qch (w:World) (cs:Array Value) (e:TypeId) (j:Nat):(w.alloc (.cells cs e)).frozen? ⟨w.heap.size,j,none⟩=false:=frozen_of_row _ _ j cs e (heap_alloc_new w _)
theorem Qar {w w1:World}{o:Obj} (hb:Below (w.alloc o).heap.size (w.alloc o) w1):w1.heap[w.heap.size]?=some o:=by
 rw [hb.block _ (by simp)];exact heap_alloc_new w o
theorem Qad {w:World}{G:Nat}{e:TypeId}{z0 z1 z2 z3 z4 z5 z6 z7:Value} (h:w.heap[G]?=some (.cells #[z0,z1,z2,z3,z4,z5,z6,z7] e)) (a0 a1 a2 a3 a4 a5 a6 a7:Value) :
  (set8 w G a0 a1 a2 a3 a4 a5 a6 a7).heap[G]?=some (.cells #[a0,a1,a2,a3,a4,a5,a6,a7] e):=by
 have h0:=heap_setCell_same _ G 0 _ e a0 h
 rw [show (#[z0,z1,z2,z3,z4,z5,z6,z7]:Array Value).setIfInBounds 0 a0=#[a0,z1,z2,z3,z4,z5,z6,z7] by simp] at h0
 have h1:=heap_setCell_same _ G 1 _ e a1 h0
 rw [show (#[a0,z1,z2,z3,z4,z5,z6,z7]:Array Value).setIfInBounds 1 a1=#[a0,a1,z2,z3,z4,z5,z6,z7] by simp] at h1
 have h2:=heap_setCell_same _ G 2 _ e a2 h1
 rw [show (#[a0,a1,z2,z3,z4,z5,z6,z7]:Array Value).setIfInBounds 2 a2=#[a0,a1,a2,z3,z4,z5,z6,z7] by simp] at h2
 have h3:=heap_setCell_same _ G 3 _ e a3 h2
 rw [show (#[a0,a1,a2,z3,z4,z5,z6,z7]:Array Value).setIfInBounds 3 a3=#[a0,a1,a2,a3,z4,z5,z6,z7] by simp] at h3
 have h4:=heap_setCell_same _ G 4 _ e a4 h3
 rw [show (#[a0,a1,a2,a3,z4,z5,z6,z7]:Array Value).setIfInBounds 4 a4=#[a0,a1,a2,a3,a4,z5,z6,z7] by simp] at h4
 have h5:=heap_setCell_same _ G 5 _ e a5 h4
 rw [show (#[a0,a1,a2,a3,a4,z5,z6,z7]:Array Value).setIfInBounds 5 a5=#[a0,a1,a2,a3,a4,a5,z6,z7] by simp] at h5
 have h6:=heap_setCell_same _ G 6 _ e a6 h5
 rw [show (#[a0,a1,a2,a3,a4,a5,z6,z7]:Array Value).setIfInBounds 6 a6=#[a0,a1,a2,a3,a4,a5,a6,z7] by simp] at h6
 have h7:=heap_setCell_same _ G 7 _ e a7 h6
 rw [show (#[a0,a1,a2,a3,a4,a5,a6,z7]:Array Value).setIfInBounds 7 a7=#[a0,a1,a2,a3,a4,a5,a6,a7] by simp] at h7
 exact h7
theorem Qjs:(Tryz.prog.info? 39).map (·.size)=some 8:=by kernel_rfl
theorem Qbp {fn:Func}{p:Tmp} (h:fn.results=#[.cell p 39]) (tmps:Array Value) (w:World) (G:Nat){e:TypeId}{a0 a1 a2 a3 a4 a5 a6 a7:Value}
  (hp:tmps.getD p undef= .pointer (some ⟨G,0,none⟩)) (hg:w.heap[G]?=some (.cells #[a0,a1,a2,a3,a4,a5,a6,a7] e)) :
  (results fn tmps).run Tryz.prog w= .ok (.agg #[a0,a1,a2,a3,a4,a5,a6,a7]) w :=
 results_cell_row h tmps w G e _ (0,0) _ hp hg Tryz.underlying39 rfl Qjs
theorem Qas {fn:Func}{p u:Tmp} (h:fn.results=#[.cell p 39,.tmp u]) (tmps:Array Value) (w:World) (G:Nat){e:TypeId}{a0 a1 a2 a3 a4 a5 a6 a7:Value}
  (hp:tmps.getD p undef= .pointer (some ⟨G,0,none⟩)) (hg:w.heap[G]?=some (.cells #[a0,a1,a2,a3,a4,a5,a6,a7] e)) :
  (results fn tmps).run Tryz.prog w= .ok (.tuple #[.agg #[a0,a1,a2,a3,a4,a5,a6,a7],tmps.getD u undef]) w:=by
 rw [results_cell_tmp h,hp]
 have:=run_loadVar_row (P:=Tryz.prog) w G e 39 _ (0,0) _ hg Tryz.underlying39 rfl Qjs
 simp [asAddr,Result.andThen,this]
theorem QkC {w:World}{v:Value}{l:List Int} (h:Reads1 w v (l.map (.int .i8))) (hl:l.length<=1000000) :
  Calls Tryz.prog 255 #[v] w fun e w'=>∃ u,e= .returned (vecV 2 vnil 0 u vnil vnil vnil vnil)/\Own1 w' w.heap.size 194 u (l.map (.int .i8))/\Below w.heap.size w w':=by
 have HR:=hD h
 have HC:=hD (fun w2 (hb:Below w.heap.size w w2)=>QqM (h.below hb) (by rw [List.length_map];omega) (by intro u hu;obtain ⟨z,_,rfl⟩:=List.mem_map.1 hu;rfl))
 clear h
 go_enter Tryz.func255,Tryz.ntmps255
 go_wp2_with fail
 refine (HC.out _ (bel1 _ _)).mono ?_
 rintro e w1 ⟨u,rfl,ho,hb1⟩
 have HB1:=hD ((bel1 w _).trans (hb1.mono (bel1 w _).size))
 obtain ⟨h0,h1,h2,h3,h4,h5,h6,h7⟩:=(QaF w 39 0 vnil 0 vnil vnil vnil vnil vnil).below hb1
 have HK:=hD (Qar hb1)
 have hz:∀ j,w1.frozen? ⟨w.heap.size,j,none⟩=false:=fun j=>by rw [hb1.frozen (by simp)];exact Qch _ _ _ _
 have HNE:Hid (u.ownBlock≠some w.heap.size):=fun e=>by have:=(World.ownsRow.lt ho _ e).1;simp at this;omega
 have HO:=hD ho
 obtain ⟨a,n,c,hu⟩:∃ a n c,u= .slice a n c:=by obtain ⟨a,c,e⟩:=ho.reads.len;exact ⟨a,_,c,e⟩
 subst hu
 clear hb1 ho
 go_wp2
 exact bodyPost_ret (Qbp rfl _ _ _ rfl (Qad HK.out _ _ _ _ _ _ _ _)) rfl ⟨_,rfl,Qcr (HO.out.lower (by simp)) HNE.out _ _ _ _ _ _ _ _,Qac HB1.out (Nat.le_refl _) _ _ _ _ _ _ _ _⟩
theorem Qhn {w:World}{v:Value}{l:List Int} (h:Reads1 w v (l.map (.int .i32))) (hl:l.length<=1000000) :
  Calls Tryz.prog 120 #[v] w fun e w'=>∃ u,e= .returned (vecV 5 vnil 0 vnil vnil vnil u vnil)/\Own1 w' w.heap.size 21 u (l.map (.int .i32))/\Below w.heap.size w w':=by
 have HR:=hD h
 have HC:=hD (fun w2 (hb:Below w.heap.size w w2)=>QlO (h.below hb) (by rw [List.length_map];omega) (by intro u hu;obtain ⟨z,_,rfl⟩:=List.mem_map.1 hu;rfl))
 clear h
 go_enter Tryz.func120,Tryz.ntmps120
 go_wp2_with fail
 refine (HC.out _ (bel1 _ _)).mono ?_
 rintro e w1 ⟨u,rfl,ho,hb1⟩
 have HB1:=hD ((bel1 w _).trans (hb1.mono (bel1 w _).size))
 obtain ⟨h0,h1,h2,h3,h4,h5,h6,h7⟩:=(QaF w 39 0 vnil 0 vnil vnil vnil vnil vnil).below hb1
 have HK:=hD (Qar hb1)
 have hz:∀ j,w1.frozen? ⟨w.heap.size,j,none⟩=false:=fun j=>by rw [hb1.frozen (by simp)];exact Qch _ _ _ _
 have HNE:Hid (u.ownBlock≠some w.heap.size):=fun e=>by have:=(World.ownsRow.lt ho _ e).1;simp at this;omega
 have HO:=hD ho
 obtain ⟨a,n,c,hu⟩:∃ a n c,u= .slice a n c:=by obtain ⟨a,c,e⟩:=ho.reads.len;exact ⟨a,_,c,e⟩
 subst hu
 clear hb1 ho
 go_wp2
 exact bodyPost_ret (Qbp rfl _ _ _ rfl (Qad HK.out _ _ _ _ _ _ _ _)) rfl ⟨_,rfl,Qcr (HO.out.lower (by simp)) HNE.out _ _ _ _ _ _ _ _,Qac HB1.out (Nat.le_refl _) _ _ _ _ _ _ _ _⟩
theorem QlP (b o n c:Nat) (l:List Int) (hn:n=l.length) (hl:n<=1000000) (w:World) (hc:∀ i (h:i < l.length),w.cell? ⟨b,o+i,none⟩=some (.int .i64 l[i])) (hg:∀ x∈l,-9007199254740992<=x/\x<=9007199254740992) :
  Calls Tryz.prog 133 #[.slice (some ⟨b,o,none⟩) n c] w fun e w'=>∃ u,e= .returned (.tuple #[vecV 3 vnil 0 vnil u vnil vnil vnil,.bool true])/\Own1 w' w.heap.size 2 u (l.map (.int .i64))/\Below w.heap.size w w':=by
 have HR:Hid (Reads1 w (.slice (some ⟨b,o,none⟩) n c) (l.map (.int .i64))) := .inr ⟨b,o,n,c,rfl,by rw [List.length_map];exact hn,fun i hi=>by rw [hc i (by simpa using hi)];simp⟩
 have HC:=hD (fun w2 (hb:Below w.heap.size w w2)=>Qjr (HR.out.below hb) (by rw [List.length_map];omega) (by intro u hu;obtain ⟨z,_,rfl⟩:=List.mem_map.1 hu;rfl))
 have HCC:=hD hc
 have HG:=hD hg
 have HN:=hD hn
 clear hc hg hn
 go_enter Tryz.func133,Tryz.ntmps133
 go_wp2
 go_loopw [8] (fun j wr=>∃ m:Nat,m<=n/\j= .int .i64 m/\wr=w.alloc (.cells #[.int .i64 0,.slice none 0 0,.int .i64 0,.slice none 0 0,.slice none 0 0,.slice none 0 0,.slice none 0 0,.slice none 0 0] 39)) (fun j _=>n - (intOf j).toNat)
 case atStart=>exact ⟨0,Nat.zero_le _,rfl,rfl⟩
 case round =>
  obtain ⟨m,hm,rfl,rfl⟩:=hrel
  by_cases hlt:m < n
  ·have hlt':m < l.length:=by rw [<- HN.out];exact hlt
   have hcell:=fun a=>Qab (HCC.out m hlt') a
   obtain ⟨hx1,hx2⟩:=HG.out l[m] (List.getElem_mem _)
   generalize l[m]=x at *
   go_wp2
   go_roundw
   case rel=>exact ⟨m+1,by omega,by go_num,by first | trivial | rfl⟩
   case measure=>simp [intOf];omega
  ·obtain rfl:m=n:=by omega
   go_wp2_with fail
   refine (HC.out _ (bel1 _ _)).mono ?_
   rintro e w1 ⟨u,rfl,ho,hb1⟩
   have HB1:=hD ((bel1 w _).trans (hb1.mono (bel1 w _).size))
   obtain ⟨h0,h1,h2,h3,h4,h5,h6,h7⟩:=(QaF w 39 0 vnil 0 vnil vnil vnil vnil vnil).below hb1
   have HK:=hD (Qar hb1)
   have hz:∀ j,w1.frozen? ⟨w.heap.size,j,none⟩=false:=fun j=>by rw [hb1.frozen (by simp)];exact Qch _ _ _ _
   have HNE:Hid (u.ownBlock≠some w.heap.size):=fun e=>by have:=(World.ownsRow.lt ho _ e).1;simp at this;omega
   have HO:=hD ho
   obtain ⟨a,n,c,hu⟩:∃ a n c,u= .slice a n c:=by obtain ⟨a,c,e⟩:=ho.reads.len;exact ⟨a,_,c,e⟩
   subst hu
   clear hb1 ho
   go_wp2
   refine bodyPost_ret (v := .tuple #[vecV 3 vnil 0 vnil (.slice a n c) vnil vnil vnil,.bool true]) ?_ rfl ⟨.slice a n c,rfl,Qcr (HO.out.lower (by simp)) HNE.out _ _ _ _ _ _ _ _,Qac HB1.out (Nat.le_refl _) _ _ _ _ _ _ _ _⟩
   exact Qas (fn:=Tryz.f133) (p:=2) (u:=3) rfl _ _ w.heap.size (by rfl) (Qad HK.out _ _ _ _ _ _ _ _)
end Go.Proofs.YtdelgpelkfndeaaGreatDoor
