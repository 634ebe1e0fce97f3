/- Two new variables of seven cells each, filled in a drawn order. Plain laws of 64-bit floats: sums, differences and products of finite floats; where they are .. Conditions: as each theorem says. -/
import Derived.Test.YtbakjaliponbbaaGreatDoorMg07
import Derived.Test.YtbakjaliponbbaaGreatDoorMg02
import Derived.Test.YtbakjaliponbbaaGreatDoorMg00
import Derived.OwnWalk
import Derived.Laws.OwnMore
import Derived.Deep.OwnRows
import Derived.Shelf.SlGeneric
import Derived.Shelf.SlicesE.Clone
import Derived.OneCell
import Derived.Laws.ResultCell
import Derived.Laws.Rows
import Derived.Deep.RegionHeld3
import Derived.Deep.CutRange
import Derived.Deep.QuietTactic
import Derived.BigQuiet
import Derived.Laws.MakeOwn
import Derived.Laws.BitsAllLaws
import Derived.Lib.TrailingZeros
set_option maxRecDepth 100000
set_option maxHeartbeats 1600000
namespace Go.Proofs.YtbakjaliponbbaaGreatDoor
open Go Go.RowKit Go.Proofs Fl
def Seven (w:World) (R:Nat):Prop:=∃ z0 z1 z2 z3 z4 z5 z6,∀ j,w.cell? ⟨R,j,none⟩=[z0,z1,z2,z3,z4,z5,z6][j]?
def SV (w:World) (R:Nat):Prop:=Seven w R/\(∀ j,w.frozen? ⟨R,j,none⟩=false)/\R < w.heap.size
theorem SV.new (X:World) (R:Nat) (h:R=X.heap.size) (z0 z1 z2 z3 z4 z5 z6:Value) (T:TypeId):SV (X.alloc (.cells #[z0,z1,z2,z3,z4,z5,z6] T)) R:=by
 subst h
 exact ⟨⟨z0,z1,z2,z3,z4,z5,z6,fun j=>by rw [World.cell?_alloc_at _ _ _ _ rfl];simp⟩,fun j=>by rw [World.frozen?_alloc_at _ _ _ _ rfl],by simp⟩
theorem SV.below {X W:World}{R:Nat} (h:SV X R) (hb:Below X.heap.size X W):SV W R:=by
 obtain ⟨⟨z0,z1,z2,z3,z4,z5,z6,hz⟩,hf,hlt⟩:=h
 exact ⟨⟨z0,z1,z2,z3,z4,z5,z6,fun j=>by rw [hb.cell (p:=⟨R,j,none⟩) hlt];exact hz j⟩,fun j=>by rw [hb.frozen (p:=⟨R,j,none⟩) hlt];exact hf j,by have:=hb.size;omega⟩
theorem SV.drew {X:World}{R:Nat} (h:SV X R):SV X.drew R:=h.below (Below.refl _ X).drew
end Go.Proofs.YtbakjaliponbbaaGreatDoor
namespace Go.Proofs.YtbakjaliponbbaaGreatDoor.Fl
open Ieee Go
def fi (n:Int):Nat:=floatOfInt .f64 n
end Go.Proofs.YtbakjaliponbbaaGreatDoor.Fl
namespace Go.Proofs.YtbakjaliponbbaaGreatDoor
open Go Go.RowKit Go.Proofs Fl
def TF (b:Nat):Prop:=∃ s Z,Rep Z/\b=W s Z/\(Z=0->s=false)
theorem TF.lt {b:Nat} (h:TF b):b < 18446744073709551616:=by
 obtain ⟨s,Z,hz,rfl,_⟩:=h
 exact W_lt s hz
def opB (op:BinOp) (a b:Nat):Nat:=(floatBits op .f64 a b).getD 0
end Go.Proofs.YtbakjaliponbbaaGreatDoor
namespace Go.Proofs.YtbakjaliponbbaaGreatDoor
open Go Go.RowKit Go.Proofs
def fillL (f:Nat->Value) (z:Value) (n k:Nat):List Value:=(List.range n).map fun i=>if i < k then f i else z
theorem fillL_len (f:Nat->Value) (z:Value) (n k:Nat):(fillL f z n k).length=n:=by simp [fillL]
theorem fillL_get (f:Nat->Value) (z:Value) (n k i:Nat) (h:i < n):(fillL f z n k)[i]?=some (if i < k then f i else z):=by simp [fillL,h]
theorem fillL_none (f:Nat->Value) (z:Value) (n k i:Nat) (h:¬ i < n):(fillL f z n k)[i]?=none:=by
 rw [List.getElem?_eq_none_iff,fillL_len];omega
theorem fillL_zero (f:Nat->Value) (z:Value) (n:Nat):List.replicate n z=fillL f z n 0:=by
 apply List.ext_getElem?
 intro i
 by_cases h:i < n
 ·rw [fillL_get _ _ _ _ _ h,List.getElem?_replicate,if_pos h];simp
 ·rw [fillL_none _ _ _ _ _ h,List.getElem?_replicate,if_neg h]
theorem fillL_set (f:Nat->Value) (z:Value) (n k:Nat) (h:k < n):(fillL f z n k).set k (f k)=fillL f z n (k+1):=by
 apply List.ext_getElem?
 intro i
 rw [List.getElem?_set]
 by_cases hi:i < n
 ·rw [fillL_get _ _ _ _ _ hi,fillL_get _ _ _ _ _ hi,fillL_len]
  by_cases hk:k=i
  ·subst hk;rw [if_pos rfl,if_pos h,if_pos (by omega)]
  ·rw [if_neg hk]
   by_cases h2:i < k
   ·rw [if_pos h2,if_pos (by omega)]
   ·rw [if_neg h2,if_neg (by omega)]
 ·rw [fillL_none _ _ _ _ _ hi,fillL_none _ _ _ _ _ hi,if_neg (by omega)]
theorem fillL_full (f:Nat->Value) (z:Value) (n:Nat):fillL f z n n=(List.range n).map f:=by
 unfold fillL
 apply List.map_congr_left
 intro i hi
 rw [if_pos (List.mem_range.1 hi)]
def Fill (w:World) (B g:Nat) (e:TypeId) (f:Nat->Value) (z:Value) (n k:Nat):Prop:=w.ownsRow B e 1 (.slice (some ⟨g,0,none⟩) n n) n (fillL f z n k)
theorem Fill.made (w:World) (B:Nat) (hB:B<=w.heap.size) (e:TypeId) (f:Nat->Value) (z:Value) (n:Nat) (hn:n<=maxLen):Fill (w.alloc (.cells (madeCells #[z] n) e)) B w.heap.size e f z n 0:=by
 have h:=World.ownsRow_lit (base:=B) (e:=e) (size:=1) w (madeCells #[z] n) n hB hn (by rw [size_madeCells];omega)
 rw [toList_madeCells_one,fillL_zero f] at h
 exact h
theorem Fill.cell {w:World}{B g:Nat}{e:TypeId}{f:Nat->Value}{z:Value}{n k:Nat} (h:Fill w B g e f z n k) (hk:k < n):w.cell? ⟨g,k,none⟩=some z:=by
 have:=World.ownsRow.cellAt h k (by omega)
 rw [this,fillL_get _ _ _ _ _ hk,if_neg (by omega)]
theorem Fill.done {w:World}{B g:Nat}{e:TypeId}{f:Nat->Value}{z:Value}{n k:Nat} (h:Fill w B g e f z n k) (i:Nat) (hi:i < k) (hk:k<=n):w.cell? ⟨g,i,none⟩=some (f i):=by
 have:=World.ownsRow.cellAt h i (by omega)
 rw [this,fillL_get _ _ _ _ _ (by omega),if_pos hi]
theorem Fill.frozen {w:World}{B g:Nat}{e:TypeId}{f:Nat->Value}{z:Value}{n k:Nat} (h:Fill w B g e f z n k) (i:Nat):w.frozen? ⟨g,i,none⟩=false:=World.ownsRow.frozenAt h i
theorem Fill.put {w:World}{B g:Nat}{e:TypeId}{f:Nat->Value}{z:Value}{n k:Nat} (h:Fill w B g e f z n k) (hk:k < n):Fill (w.setCell ⟨g,k,none⟩ (f k)) B g e f z n (k+1):=by
 have:=(World.ownsRow.stored h k (f k)).1
 rw [fillL_set _ _ _ _ hk] at this
 exact this
theorem Fill.low {w:World}{B g:Nat}{e:TypeId}{f:Nat->Value}{z:Value}{n k:Nat} (h:Fill w B g e f z n k):B<=g/\g < w.heap.size:=World.ownsRow.lt h g rfl
theorem Fill.bel {w w0:World}{B g:Nat}{e:TypeId}{f:Nat->Value}{z:Value}{n k:Nat} (h:Fill w B g e f z n k) (hb:Below B w0 w) (i:Nat) (u:Value):Below B w0 (w.setCell ⟨g,i,none⟩ u):=hb.setCell h.low.1 _
theorem Fill.below {w w':World}{B g:Nat}{e:TypeId}{f:Nat->Value}{z:Value}{n k:Nat} (h:Fill w B g e f z n k) (hb:Below w.heap.size w w'):Fill w' B g e f z n k:=by
 have h2:Own1 w B e (.slice (some ⟨g,0,none⟩) n n) (fillL f z n k):=by unfold Own1;rw [fillL_len];exact h
 have:=h2.below hb
 unfold Own1 at this
 rw [fillL_len] at this
 exact this
theorem Fill.own {w:World}{B g:Nat}{e:TypeId}{f:Nat->Value}{z:Value}{n:Nat} (h:Fill w B g e f z n n):Own1 w B e (.slice (some ⟨g,0,none⟩) n n) ((List.range n).map f):=by
 unfold Own1
 rw [<- fillL_full f z n,fillL_len]
 exact h
theorem Reads1.at {w:World}{v:Value}{xs:List Value} (h:Reads1 w v xs):(∃ a c,v= .slice a 0 c/\xs=[])\/∃ b o c,v= .slice (some ⟨b,o,none⟩) xs.length c/\∀ i (h:i < xs.length),w.cell? ⟨b,o+i,none⟩=some xs[i]:=by
 rcases h with h | ⟨b,o,n,c,rfl,hn,hc⟩
 ·exact .inl h
 ·exact .inr ⟨b,o,c,by rw [hn],hc⟩
theorem bel1 (w:World) (a:Obj):Below w.heap.size w (w.alloc a):=(Below.refl _ w).alloc (Nat.le_refl _) a
theorem bel2 (w:World) (a b:Obj):Below w.heap.size w ((w.alloc a).alloc b):=(bel1 w a).alloc (by simp) b
abbrev vnil:Value := .slice none 0 0
abbrev vecV (k:Int) (bw:Value) (bn:Int) (s i f c x:Value):Value := .agg #[.int .i64 k,bw,.int .i64 bn,s,i,f,c,x]
structure BitsOf (ws:List Nat) (l:List Bool):Prop where
 len:ws.length=(l.length+63) / 64
 word:∀ x∈ws,x < 18446744073709551616
 bit:∀ i (h:i < ws.length) j,j < 64->ws[i].testBit j=l.getD (64*i+j) false
inductive VecS where
 | none | bits (l:List Bool) | small (l:List Int) | ints (l:List Int) | floats (l:List Nat) | chars (l:List Int) | boxes (s:Value)
def VecS.kind:VecS->Nat
 | .none=>0 | .bits _=>1 | .small _=>2 | .ints _=>3 | .floats _=>4 | .chars _=>5 | .boxes _=>6
def VR (w:World) (v:Value):VecS->Prop
 | .none=>v=vecV 0 vnil 0 vnil vnil vnil vnil vnil
 | .bits l=>∃ b ws,v=vecV 1 b l.length vnil vnil vnil vnil vnil/\Reads1 w b (ws.map fun x:Nat => .int .u64 x)/\BitsOf ws l
 | .small l=>∃ s,v=vecV 2 vnil 0 s vnil vnil vnil vnil/\Reads1 w s (l.map (.int .i8))/\∀ n∈l,-128<=n/\n<=127
 | .ints l=>∃ s,v=vecV 3 vnil 0 vnil s vnil vnil vnil/\Reads1 w s (l.map (.int .i64))/\∀ n∈l,-9007199254740992<=n/\n<=9007199254740992
 | .floats l=>∃ s,v=vecV 4 vnil 0 vnil vnil s vnil vnil/\Reads1 w s (l.map (.float .f64))
 | .chars l=>∃ s,v=vecV 5 vnil 0 vnil vnil vnil s vnil/\Reads1 w s (l.map (.int .i32))
 | .boxes s=>v=vecV 6 vnil 0 vnil vnil vnil vnil s
theorem VR.below {w w':World}{v:Value}{x:VecS} (h:VR w v x) (hb:Below w.heap.size w w'):VR w' v x:=by
 cases x with
 | none=>exact h
 | bits l=>obtain ⟨b,ws,e,h1,h2⟩:=h;exact ⟨b,ws,e,h1.below hb,h2⟩
 | small l=>obtain ⟨s,e,h1,h2⟩:=h;exact ⟨s,e,h1.below hb,h2⟩
 | ints l=>obtain ⟨s,e,h1,h2⟩:=h;exact ⟨s,e,h1.below hb,h2⟩
 | floats l=>obtain ⟨s,e,h1⟩:=h;exact ⟨s,e,h1.below hb⟩
 | chars l=>obtain ⟨s,e,h1⟩:=h;exact ⟨s,e,h1.below hb⟩
 | boxes s=>exact h
end Go.Proofs.YtbakjaliponbbaaGreatDoor
namespace Go.Proofs.YtbakjaliponbbaaGreatDoor
open Go Go.RowKit Go.Proofs Fl
def Boxed (w:World) (G:Nat) (k:Int) (b:Value) (bn:Int) (s i f c x:Value):Prop :=
 w.cell? ⟨G,0,none⟩=some (.int .i64 k)/\w.cell? ⟨G,1,none⟩=some b/\w.cell? ⟨G,2,none⟩=some (.int .i64 bn)/\w.cell? ⟨G,3,none⟩=some s /\
  w.cell? ⟨G,4,none⟩=some i/\w.cell? ⟨G,5,none⟩=some f/\w.cell? ⟨G,6,none⟩=some c/\w.cell? ⟨G,7,none⟩=some x
theorem boxed_new (w:World) (e:TypeId) (k:Int) (b:Value) (bn:Int) (s i f c x:Value):Boxed (w.alloc (.cells #[.int .i64 k,b,.int .i64 bn,s,i,f,c,x] e)) w.heap.size k b bn s i f c x:=by
 have h:∀ j u,#[.int .i64 k,b,.int .i64 bn,s,i,f,c,x][j]?=some u->(w.alloc (.cells #[.int .i64 k,b,.int .i64 bn,s,i,f,c,x] e)).cell? ⟨w.heap.size,j,none⟩=some u:=by
  intro j u hu
  rw [cell_of_row _ w.heap.size j _ e (0,0) (heap_alloc_new w _)]
  exact hu
 exact ⟨h 0 _ rfl,h 1 _ rfl,h 2 _ rfl,h 3 _ rfl,h 4 _ rfl,h 5 _ rfl,h 6 _ rfl,h 7 _ rfl⟩
theorem Boxed.of {w w':World}{G:Nat}{k:Int}{b:Value}{bn:Int}{s i f c x:Value} (h:Boxed w G k b bn s i f c x) (e:∀ j,w'.cell? ⟨G,j,none⟩=w.cell? ⟨G,j,none⟩):Boxed w' G k b bn s i f c x:=by
 unfold Boxed
 rw [e,e,e,e,e,e,e,e]
 exact h
theorem Boxed.lt {w:World}{G:Nat}{k:Int}{b:Value}{bn:Int}{s i f c x:Value} (h:Boxed w G k b bn s i f c x):G < w.heap.size:=cell_lt h.1
theorem Boxed.below {w w':World}{G:Nat}{k:Int}{b:Value}{bn:Int}{s i f c x:Value} (h:Boxed w G k b bn s i f c x) (hb:Below w.heap.size w w'):Boxed w' G k b bn s i f c x:=h.of fun _=>hb.cell h.lt
theorem Boxed.set {w:World}{G:Nat}{k:Int}{b:Value}{bn:Int}{s i f c x:Value} (h:Boxed w G k b bn s i f c x){p:Addr} (hp:p.block≠G) (u:Value):Boxed (w.setCell p u) G k b bn s i f c x :=
 h.of fun _=>World.cell?_of_block (w:=w) (Below.heap_setCell w p u G (fun e=>hp e.symm))
structure NumsOf (w:World) (v:Value) (n:Nat) (F:Nat->Nat):Prop where
 cls:∀ w',Below w.heap.size w w'->Calls Tryz.prog 135 #[v] w' fun e w2=>e= .returned (.int .i64 0)/\Below w'.heap.size w' w2
 len:∀ w',Below w.heap.size w w'->Calls Tryz.prog 48 #[v] w' fun e w2=>e= .returned (.int .i64 n)/\Below w'.heap.size w' w2
 num:∀ w',Below w.heap.size w w'->∀ j,j < n->Calls Tryz.prog 138 #[v,.int .i64 (j:Nat)] w' fun e w2=>e= .returned (.float .f64 (F j))/\Below w'.heap.size w' w2
theorem Own1.lower {w:World}{B B':Nat}{e:TypeId}{v:Value}{xs:List Value} (h:Own1 w B e v xs) (hB:B'<=B):Own1 w B' e v xs:=by
 refine ⟨h.1,?_⟩
 rcases h.2 with h2 | ⟨g,cap,cur,hv,hbg,r⟩
 ·exact .inl h2
 ·exact .inr ⟨g,cap,cur,hv,by omega,r⟩
theorem boxed_of {w:World}{G:Nat}{e:TypeId}{k:Int}{b:Value}{bn:Int}{s i f c x:Value} (h:w.heap[G]?=some (.cells #[.int .i64 k,b,.int .i64 bn,s,i,f,c,x] e)) :
  Boxed w G k b bn s i f c x/\∀ j,w.frozen? ⟨G,j,none⟩=false:=by
 have h2:∀ j u,#[.int .i64 k,b,.int .i64 bn,s,i,f,c,x][j]?=some u->w.cell? ⟨G,j,none⟩=some u:=by
  intro j u hu
  rw [cell_of_row _ G j _ e (0,0) h]
  exact hu
 exact ⟨⟨h2 0 _ rfl,h2 1 _ rfl,h2 2 _ rfl,h2 3 _ rfl,h2 4 _ rfl,h2 5 _ rfl,h2 6 _ rfl,h2 7 _ rfl⟩,fun j=>frozen_of_row _ _ j _ e h⟩
abbrev zcells:Array Value:=#[.int .i64 0,.slice none 0 0,.int .i64 0,.slice none 0 0,.slice none 0 0,.slice none 0 0,.slice none 0 0,.slice none 0 0]
abbrev Good (n:Int):Prop := -9007199254740992<=n/\n<=9007199254740992
def rankS (n:Int):Nat:=if n=0\/n=1 then 1 else if -128<=n/\n<=127 then 2 else 3
theorem bel_both {w a b:World} (h:Below w.heap.size w a) (k:Below a.heap.size a b):Below w.heap.size w b:=h.trans (k.mono h.size)
structure St (w W:World) (k:Int) (b:Value) (bn:Int) (s i f c x:Value):Prop where
 box:Boxed W w.heap.size k b bn s i f c x
 res:W.heap[w.heap.size+1]?=some (.cells zcells 57)
 bel:Below w.heap.size w W
theorem St.new (w:World) (k:Int) (b:Value) (bn:Int) (s i f c x:Value):St w ((w.alloc (.cells #[.int .i64 k,b,.int .i64 bn,s,i,f,c,x] 57)).alloc (.cells zcells 57)) k b bn s i f c x :=
 ⟨(boxed_new w 57 k b bn s i f c x).below (bel1 _ (.cells zcells 57)),by
  have:=heap_alloc_new (w.alloc (.cells #[.int .i64 k,b,.int .i64 bn,s,i,f,c,x] 57)) (.cells zcells 57)
  simpa using this,bel2 w _ _⟩
theorem St.step {w W W':World}{k:Int}{b:Value}{bn:Int}{s i f c x:Value} (h:St w W k b bn s i f c x) (hb:Below W.heap.size W W'):St w W' k b bn s i f c x :=
 ⟨h.box.below hb,by rw [hb.block _ (boxed_of h.res).1.lt];exact h.res,bel_both h.bel hb⟩
def Keeps (H:Nat->Prop) (w:World) (R:World->Prop):Prop:=∀ w',w.heap.size<=w'.heap.size->(∀ b,b < w.heap.size->¬ H b->w'.heap[b]?=w.heap[b]?)->R w'
theorem Keeps.now {H:Nat->Prop}{w:World}{R:World->Prop} (h:Keeps H w R):R w:=h w (Nat.le_refl _) fun _ _ _=>rfl
theorem Keeps.sub {H H':Nat->Prop}{w:World}{R:World->Prop} (h:Keeps H w R) (hs:∀ b,b < w.heap.size->H' b->H b):Keeps H' w R :=
 fun w' hz hb=>h w' hz fun b hl hn=>hb b hl fun hh=>hn (hs b hl hh)
theorem Keeps.imp {H:Nat->Prop}{w:World}{R R':World->Prop} (h:Keeps H w R) (hi:∀ w',R w'->R' w'):Keeps H w R':=fun w' hz hb=>hi _ (h w' hz hb)
theorem Keeps.and {H:Nat->Prop}{w:World}{R R':World->Prop} (h:Keeps H w R) (h':Keeps H w R'):Keeps H w fun w'=>R w'/\R' w':=fun w' hz hb=>⟨h w' hz hb,h' w' hz hb⟩
theorem Keeps.go {H:Nat->Prop}{w w1:World}{R:World->Prop} (h:Keeps H w R) (H':Nat->Prop) (hs:∀ b,b < w.heap.size->H' b->H b) (hz:w.heap.size<=w1.heap.size) (hb:∀ b,b < w.heap.size->¬ H b->w1.heap[b]?=w.heap[b]?):Keeps (fun b=>H' b\/w.heap.size<=b) w1 R :=
 fun w' hz' hb'=>h w' (Nat.le_trans hz hz') fun b hl hn=>by
  rw [hb' b (Nat.lt_of_lt_of_le hl hz) ?_,hb b hl hn]
  rintro (e | e)
  ·exact hn (hs b hl e)
  ·omega
theorem Keeps.below {H:Nat->Prop}{w w1:World}{R:World->Prop} (h:Keeps H w R) (hb:Below w.heap.size w w1):Keeps (fun b=>H b\/w.heap.size<=b) w1 R:=h.go H (fun _ _ e=>e) hb.size fun b hl _=>hb.block b hl
theorem Keeps.below' {H:Nat->Prop}{w w1:World}{R:World->Prop} (h:Keeps H w R) (hb:Below w.heap.size w w1) (H':Nat->Prop) (hs:∀ b,b < w.heap.size->H' b->H b):Keeps H' w1 R :=
 fun w' hz' hb'=>h w' (Nat.le_trans hb.size hz') fun b hl hn=>by rw [hb' b (Nat.lt_of_lt_of_le hl hb.size) (fun e=>hn (hs b hl e)),hb.block b hl]
theorem Keeps.step {H:Nat->Prop}{w w1:World}{R:World->Prop} (h:Keeps H w R) (hb:Below w.heap.size w w1):Keeps H w1 R:=h.below' hb H fun _ _ e=>e
theorem size_setCell' (w:World) (a:Addr) (u:Value):(w.setCell a u).heap.size=w.heap.size:=by
 have h1:=((Below.refl 0 w).setCell (Nat.zero_le a.block) u).size
 have h2:(w.setCell a u).heap.size<=w.heap.size:=by
  unfold World.setCell
  split <;> simp
 omega
theorem Keeps.set {H:Nat->Prop}{w:World}{R:World->Prop} (h:Keeps H w R){a:Addr} (ha:H a.block) (u:Value):Keeps H (w.setCell a u) R :=
 fun w' hz hb=>h w' (by rw [size_setCell'] at hz;exact hz) fun b hl hn=>by
  rw [hb b (by rw [size_setCell'];exact hl) hn,Below.heap_setCell _ _ _ _ (fun e=>hn (by rw [e];exact ha))]
abbrev Hole (H:Nat->Prop) (w W:World):Nat->Prop:=fun b=>H b\/(w.heap.size<=b/\b < W.heap.size)
theorem Keeps.arg {H:Nat->Prop}{w W:World}{R:World->Prop} (h:Keeps H w R) (hb:Below w.heap.size w W):Keeps (Hole H w W) W R :=
 h.below' hb _ fun b hl e=>by
  rcases e with e | ⟨e,_⟩
  ·exact e
  ·omega
theorem Hole.lt {H:Nat->Prop}{w W:World} (hH:∀ b,H b->b < w.heap.size) (hb:Below w.heap.size w W):∀ b,Hole H w W b->b < W.heap.size:=by
 rintro b (e | ⟨_,e⟩)
 ·exact Nat.lt_of_lt_of_le (hH b e) hb.size
 ·exact e
theorem St.put {w W:World}{k:Int}{b:Value}{bn:Int}{s i f c x:Value} (h:St w W k b bn s i f c x){g j:Nat} (ha:w.heap.size+2<=g) (u:Value):St w (W.setCell ⟨g,j,none⟩ u) k b bn s i f c x :=
 ⟨h.box.set (by show g≠_;omega) u,by rw [Below.heap_setCell _ _ _ _ (by show _≠g;omega)];exact h.res,h.bel.setCell (by show _<=g;omega) u⟩
theorem St.sz {w W:World}{k:Int}{b:Value}{bn:Int}{s i f c x:Value} (h:St w W k b bn s i f c x):w.heap.size+2<=W.heap.size:=(boxed_of h.res).1.lt
abbrev Sl:=Option Addr×Nat×Nat
abbrev vecW (k:Int) (b:Sl) (bn:Int) (s i f c x:Sl):Value:=vecV k (.slice b.1 b.2.1 b.2.2) bn (.slice s.1 s.2.1 s.2.2) (.slice i.1 i.2.1 i.2.2) (.slice f.1 f.2.1 f.2.2) (.slice c.1 c.2.1 c.2.2) (.slice x.1 x.2.1 x.2.2)
theorem drewN1' {B:Nat}{a w:World} (h:Below B a w) (k:Nat):Below B a (w.drewN k):=⟨h.os,h.tape,h.output,h.size,h.block⟩
theorem getD_of' {l:List Int}{i:Nat} (h:i < l.length):l.getD i 0=l[i]:=by simp [List.getD,h]
theorem runes_opn {w:World}{v:Value}{l:List Int} (h:Runes w v l):∃ A cc n,v= .slice A n cc/\n=l.length /\
  ∀ i,i < l.length->∃ b o,A=some ⟨b,o,none⟩/\∀ w1,Below w.heap.size w w1->w1.cell? ⟨b,o+i,none⟩=some (.int .i32 (l.getD i 0)):=by
 rcases h with ⟨a,c,rfl,rfl⟩ | ⟨b,o,n,c,rfl,hn,hc⟩
 ·exact ⟨a,c,0,rfl,rfl,fun i hi=>by simp at hi⟩
 ·refine ⟨_,c,n,rfl,hn,fun i hi=>⟨b,o,rfl,fun w1 hb=>?_⟩⟩
  have:=hc i hi
  rw [hb.cell (cell_lt this),this]
  simp [List.getD,hi]
theorem take_succ_eq1 {sa sb:List Int}{k:Nat} (ha:k < sa.length) (hb:k < sb.length) (h:sa.take k=sb.take k) (he:sa.getD k 0=sb.getD k 0):sa.take (k+1)=sb.take (k+1):=by
 rw [List.take_succ_eq_append_getElem ha,List.take_succ_eq_append_getElem hb,h]
 rw [getD_of' ha,getD_of' hb] at he
 rw [he]
theorem runesEq_walk (va vb:Value) (la lb:List Int) (w:World) (ha:Runes w va la) (hb:Runes w vb lb) (hl:la.length<=1099511627776) (hl2:lb.length<=1099511627776) :
  Calls Tryz.prog 11 #[va,vb] w fun e w'=>e= .returned (.bool (decide (la=lb)))/\Below w.heap.size w w':=by
 obtain ⟨A,cc,n,rfl,hn,hcell⟩:=runes_opn ha
 obtain ⟨A2,cc2,n2,rfl,hn2,hcell2⟩:=runes_opn hb
 have HC:=Lib.hid hcell
 have HC2:=Lib.hid hcell2
 have HN:=Lib.hid hn
 have HN2:=Lib.hid hn2
 have hb1:n<=1099511627776:=by omega
 have hb2:n2<=1099511627776:=by omega
 clear hcell hcell2 hn hn2 ha hb hl hl2
 by_cases hnn:n=n2
 ·subst hnn
  have hne:((n:Int) != (n:Int))=false:=by simp
  go_enter Tryz.func11,Tryz.ntmps11
  go_wp2
  go_loopw [5] (fun i wr=>∃ k:Nat,k<=n/\i= .int .i64 (k:Int)/\Below w.heap.size w wr/\Hid (la.take k=lb.take k)) (fun i _=>n - (intOf i).toNat)
  case atStart=>exact ⟨0,Nat.zero_le _,rfl,Below.refl _ _,by simp [Hid]⟩
  case round =>
   obtain ⟨k,hk,rfl,hbl,heq⟩:=hrel
   have HBL:=Lib.hid hbl
   by_cases hlt:k < n
   ·have h1:k < la.length:=by have:=HN.out;omega
    have h2:k < lb.length:=by have:=HN2.out;omega
    obtain ⟨b,o,rfl,hce⟩:=HC.out k h1
    obtain ⟨b',o',rfl,hce'⟩:=HC2.out k h2
    have c1:=hce _ hbl
    have c2:=hce' _ hbl
    obtain ⟨x,hx⟩:∃ x,x=la.getD k 0:=⟨_,rfl⟩
    obtain ⟨y,hy⟩:∃ y,y=lb.getD k 0:=⟨_,rfl⟩
    rw [<- hx] at c1
    rw [<- hy] at c2
    by_cases hxy:x=y
    ·have HT:Hid (la.take (k+1)=lb.take (k+1)):=take_succ_eq1 h1 h2 heq.out (by rw [<- hx,<- hy];exact hxy)
     have hxx:(x != x)=false:=by simp
     have hlt2:(k:Int) < (n:Int):=by omega
     rw [<- hxy] at c2
     clear hx hy hxy heq hbl hce hce'
     go_wp2
     go_quiet (fail)
     go_wp2
     go_roundw
     case rel=>exact ⟨k+1,by omega,by go_num,drewN1' HBL.out _,HT.out⟩
     case measure=>simp [intOf];omega
    ·have HT:Hid (decide (la=lb)=false):=by
      refine decide_eq_false fun e=>hxy ?_
      rw [hx,hy,e]
     have hxx:(x != y)=true:=by simpa using hxy
     have hlt2:(k:Int) < (n:Int):=by omega
     clear hx hy hxy heq hbl hce hce'
     go_wp2
     go_quiet (fail)
     go_wp2
     go_ret
     exact ⟨by rw [HT.out];rfl,drewN1' HBL.out _⟩
   ·have HT:Hid (decide (la=lb)=true):=by
     have:=heq.out
     rw [List.take_of_length_le (by have:=HN.out;omega),List.take_of_length_le (by have:=HN2.out;omega)] at this
     exact decide_eq_true this
    clear heq hbl
    go_wp2
    go_ret
    exact ⟨by rw [HT.out];rfl,HBL.out⟩
 ·have HT:Hid (decide (la=lb)=false):=decide_eq_false fun e=>hnn (by rw [HN.out,HN2.out,e])
  have hne:((n:Int) != (n2:Int))=true:=by simp;omega
  go_enter Tryz.func11,Tryz.ntmps11
  go_wp2
  go_ret
  exact ⟨by rw [HT.out];rfl,Below.refl _ _⟩
open Classical in
noncomputable def wholeP (b:Nat):Option Int:=if h:∃ n,Good n/\b=fi n then some h.choose else none
abbrev one:Nat:=4607182418800017408
def flagF (t:Bool):Nat:=if t then one else 0
def tv (a:Nat):Bool:=decide (a=one)
def wd (f:Nat->Bool):Nat->Nat
 | 0=>0
 | m+1=>wd f m+(if f m then 2 ^ m else 0)
theorem wd_lt (f:Nat->Bool) (m:Nat):Go.Proofs.YtbakjaliponbbaaGreatDoor.wd f m < 2 ^ m:=by
 induction m with
 | zero=>simp [Go.Proofs.YtbakjaliponbbaaGreatDoor.wd]
 | succ m ih =>
  have:2 ^ (m+1)=2 ^ m+2 ^ m:=by rw [Nat.pow_succ];omega
  unfold Go.Proofs.YtbakjaliponbbaaGreatDoor.wd
  split <;> omega
def packW (l:Nat->Bool) (i j:Nat):Nat:=Go.Proofs.YtbakjaliponbbaaGreatDoor.wd (fun m=>decide (64*j+m < i)&&l (64*j+m)) 64
def RowU (w:World) (B g T:Nat) (F:Nat->Nat):Prop:=Own1 w B 203 (.slice (some ⟨g,0,none⟩) T T) ((List.range T).map fun j => .int .u64 (F j:Nat))
theorem RowU.ow {w:World}{B g T:Nat}{F:Nat->Nat} (h:RowU w B g T F):w.ownsRow B 203 1 (.slice (some ⟨g,0,none⟩) T T) T ((List.range T).map fun j => .int .u64 (F j:Nat)):=by
 have:=h
 unfold RowU Own1 at this
 rw [List.length_map,List.length_range] at this
 exact this
theorem RowU.of_ow {w:World}{B g T:Nat}{F:Nat->Nat} (h:w.ownsRow B 203 1 (.slice (some ⟨g,0,none⟩) T T) T ((List.range T).map fun j => .int .u64 (F j:Nat))):RowU w B g T F:=by
 unfold RowU Own1
 rw [List.length_map,List.length_range]
 exact h
theorem set_map_range' {T k:Nat}{f:Nat->Value} (hk:k < T) (u:Value):((List.range T).map f).set k u=(List.range T).map fun j=>if j=k then u else f j:=by
 apply List.ext_getElem?
 intro i
 rw [List.getElem?_set]
 by_cases hi:i < T
 ·by_cases e:k=i
  ·subst e;simp [hk]
  ·have e':¬ i=k:=fun h=>e h.symm
   simp [e,e',hi]
 ·have h1:((List.range T).map f)[i]?=none:=by simp;omega
  have h2:((List.range T).map fun j=>if j=k then u else f j)[i]?=none:=by simp;omega
  rw [h2,if_neg (by omega),h1]
theorem RowU.put {w:World}{B g T:Nat}{F F':Nat->Nat} (h:RowU w B g T F){k:Nat} (hk:k < T) (z:Nat) (hF:∀ j,j < T->F' j=if j=k then z else F j):RowU (w.setCell ⟨g,k,none⟩ (.int .u64 (z:Nat))) B g T F':=by
 have h2:=(World.ownsRow.stored h.ow k (.int .u64 (z:Nat))).1
 rw [set_map_range' hk] at h2
 refine RowU.of_ow ?_
 have e:((List.range T).map fun j=>Value.int .u64 (F' j:Nat))=(List.range T).map fun j=>if j=k then .int .u64 (z:Nat) else .int .u64 (F j:Nat):=by
  apply List.map_congr_left
  intro j hj
  rw [hF j (List.mem_range.1 hj)]
  split <;> rfl
 rw [e]
 exact h2
theorem RowU.cell {w:World}{B g T:Nat}{F:Nat->Nat} (h:RowU w B g T F){k:Nat} (hk:k < T):w.cell? ⟨g,k,none⟩=some (.int .u64 (F k:Nat)):=by
 have:=World.ownsRow.cellAt h.ow k (by omega)
 rw [this]
 simp [hk]
theorem RowU.frozen {w:World}{B g T:Nat}{F:Nat->Nat} (h:RowU w B g T F) (k:Nat):w.frozen? ⟨g,k,none⟩=false:=World.ownsRow.frozenAt h.ow k
theorem RowU.low {w:World}{B g T:Nat}{F:Nat->Nat} (h:RowU w B g T F):B<=g/\g < w.heap.size:=World.ownsRow.lt h.ow g rfl
theorem RowU.same {w:World}{B g T:Nat}{F F':Nat->Nat} (h:RowU w B g T F) (e:∀ j,j < T->F' j=F j):RowU w B g T F':=by
 have e2:((List.range T).map fun j=>Value.int .u64 (F' j:Nat))=(List.range T).map fun j => .int .u64 (F j:Nat):=by
  apply List.map_congr_left
  intro j hj
  rw [e j (List.mem_range.1 hj)]
 unfold RowU
 rw [e2]
 exact h
theorem RowU.below {w w':World}{B g T:Nat}{F:Nat->Nat} (h:RowU w B g T F) (hb:Below w.heap.size w w'):RowU w' B g T F:=Own1.below h hb
theorem RowU.lower {w:World}{B B' g T:Nat}{F:Nat->Nat} (h:RowU w B g T F) (hB:B'<=B):RowU w B' g T F:=Own1.lower h hB
theorem RowU.made (w:World) (B:Nat) (hB:B<=w.heap.size) (T:Nat) (hT:T<=maxLen):RowU (w.alloc (.cells (madeCells #[.int .u64 0] T) 203)) B w.heap.size T (fun _=>0):=by
 have h:=World.ownsRow_lit (base:=B) (e:=203) (size:=1) w (madeCells #[.int .u64 0] T) T hB hT (by rw [size_madeCells];omega)
 rw [toList_madeCells_one] at h
 refine RowU.of_ow ?_
 have e:((List.range T).map fun _:Nat=>Value.int .u64 ((0:Nat):Int))=List.replicate T (.int .u64 0):=by
  rw [List.map_const',List.length_range]
  rfl
 rw [e]
 exact h
def BitsIn (W:World) (v:Value) (n:Nat) (l:Nat->Bool):Prop :=
 ∃ b o c,v= .agg #[.slice (some ⟨b,o,none⟩) ((n+63) / 64) c,.int .i64 (n:Int)]/\∀ j,j < (n+63) / 64->W.cell? ⟨b,o+j,none⟩=some (.int .u64 (packW l n j:Nat))
theorem BitsIn.below {w w':World}{v:Value}{n:Nat}{l:Nat->Bool} (h:BitsIn w v n l) (hb:Below w.heap.size w w'):BitsIn w' v n l:=by
 obtain ⟨b,o,c,e,hc⟩:=h
 exact ⟨b,o,c,e,fun j hj=>by rw [hb.cell (cell_lt (hc j hj))];exact hc j hj⟩
theorem tz_core (u p i:Nat) (z:Int) (h0:((u:Int)==0)=false) (w:World)
  (hf:bits .and .u64 (u:Int) (IntKind.u64.wrap (-(u:Int)))=(p:Int)) (hi:IntKind.u64.wrap ((p:Int)*285870213051353865) / 288230376151711744=(i:Int)) (h64:i < 64)
  (hc:w.cell? ⟨0,i,none⟩=some (.int .u8 z)) (hz:0<=z) (hz2:z < 64) :
  Calls Tryz.prog 198 #[.int .u64 u] w fun x w'=>x= .returned (.int .i64 z)/\w=w':=by
 go_enter Tryz.func198,Tryz.ntmps198
 go_wp2
 go_ret
 exact ⟨rfl,rfl⟩
def TzTab (w:World):Prop:=∀ i,i < 64->w.cell? ⟨0,i,none⟩=some (.int .u8 ((Lib.deBruijn64tab.getD i 0:Nat):Int))
theorem TzTab.below {w w':World} (h:TzTab w) (hb:Below w.heap.size w w'):TzTab w':=fun i hi=>by rw [hb.cell (cell_lt (h i hi))];exact h i hi
theorem cast3 (p a b c:Nat):((p:Int)*(a:Int)) % (b:Int) / (c:Int)=((p*a % b / c:Nat):Int):=by
 rw [Int.natCast_ediv,Int.natCast_emod,Int.natCast_mul]
theorem tz_any (k m:Nat) (h:2^k*(2*m+1) < 18446744073709551616) (w:World) (ht:TzTab w) :
  Calls Tryz.prog 198 #[.int .u64 ((2^k*(2*m+1):Nat):Int)] w fun x w'=>x= .returned (.int .i64 k)/\w=w':=by
 have hk:k < 64:=by
  have h1:2^k<=2^k*(2*m+1):=Nat.le_mul_of_pos_right _ (by omega)
  have h2:2^k < 2^64:=by omega
  exact (Nat.pow_lt_pow_iff_right (by omega)).1 h2
 have hn:=Lib.and_neg 64 k m (by omega)
 have hp:0 < 2^k*(2*m+1):=Nat.mul_pos (Nat.two_pow_pos k) (by omega)
 obtain ⟨d1,d2⟩:=Lib.deBruijn64_at k hk
 have hp64:2^k < 2^64:=Nat.pow_lt_pow_right (by omega) hk
 generalize 2^k*(2*m+1)=u at *
 generalize 2^k=p at *
 refine tz_core u p (p*285870213051353865 % 18446744073709551616 / 288230376151711744) k (beq_eq_false_iff_ne.2 (by omega)) w ?_ ?_ d1 ?_ (by omega) (by omega)
 ·rw [IntKind.wrap_u64]
  have e:(-(u:Int)) % 18446744073709551616=((2^64 - u:Nat):Int):=by omega
  rw [e,u64_and_nat u (2^64 - u) h (by omega),hn]
 ·rw [IntKind.wrap_u64];exact cast3 p _ _ _
 ·rw [ht _ d1,d2]
structure NumV (v:Value) (k:Int) (n:Nat) (F:Nat->Nat) (w:World):Prop where
 cls:Calls Tryz.prog 135 #[v] w fun e w2=>e= .returned (.int .i64 0)/\Below w.heap.size w w2
 len:Calls Tryz.prog 48 #[v] w fun e w2=>e= .returned (.int .i64 n)/\Below w.heap.size w w2
 num:∀ j,j < n->Calls Tryz.prog 138 #[v,.int .i64 (j:Nat)] w fun e w2=>e= .returned (.float .f64 (F j))/\Below w.heap.size w w2
 wholeI:k≠4->∀ j,j < n->∀ z,Good z->F j=fi z->Calls Tryz.prog 201 #[v,.int .i64 (j:Nat)] w fun e w2=>e= .returned (.tuple #[.int .i64 z,.bool true])/\Below w.heap.size w w2
 wholeF:k=4->∀ j,j < n->Calls Tryz.prog 201 #[v,.int .i64 (j:Nat)] w fun e w2=>e= .returned (.tuple #[.int .i64 0,.bool false])/\Below w.heap.size w w2
 ints:k≠4->∀ j,j < n->∃ z,Good z/\F j=fi z
 tf:∀ j,j < n->TF (F j)
 kind:k=1\/k=2\/k=3\/k=4
 bitsX:k=1->∃ (l:Nat->Bool) (s:Value),v=vecV 1 s n vnil vnil vnil vnil vnil/\BitsIn w (.agg #[s,.int .i64 (n:Int)]) n l/\∀ j,j < n->F j=flagF (l j)
 intsX:k=3->∃ (L:Nat->Int) (s:Value),v=vecV 3 vnil 0 vnil s vnil vnil vnil/\Reads1 w s ((List.range n).map fun j => .int .i64 (L j))/\∀ j,j < n->F j=fi (L j)/\Good (L j)
 shape:∃ (b:Value) (bn:Int) (s i f c x:Value),v=vecV k b bn s i f c x
noncomputable def rankF (b:Nat):Nat:=match wholeP b with
 | some z=>rankS z
 | none=>4
noncomputable def leastF (F:Nat->Nat):Nat->Nat
 | 0=>1
 | k+1=>max (leastF F k) (rankF (F k))
theorem NumV.congr {v:Value}{k:Int}{n:Nat}{F F':Nat->Nat}{w:World} (h:NumV v k n F w) (e:∀ j,j < n->F' j=F j):NumV v k n F' w :=
 ⟨h.cls,h.len,fun j hj=>by rw [e j hj];exact h.num j hj,fun hk j hj z hz hz2=>h.wholeI hk j hj z hz (by rw [<- e j hj];exact hz2),h.wholeF,fun hk j hj=>by rw [e j hj];exact h.ints hk j hj,fun j hj=>by rw [e j hj];exact h.tf j hj,h.kind,fun hk=>by obtain ⟨l,s,h1,h2,h3⟩:=h.bitsX hk;exact ⟨l,s,h1,h2,fun j hj=>by rw [e j hj];exact h3 j hj⟩,fun hk=>by obtain ⟨l,s,h1,h2,h3⟩:=h.intsX hk;exact ⟨l,s,h1,h2,fun j hj=>by rw [e j hj];exact h3 j hj⟩,h.shape⟩
theorem St.two {w W W':World}{k:Int}{b:Value}{bn:Int}{s i f c x:Value} (h:St w W k b bn s i f c x) (hb:Below (w.heap.size+2) W W'):St w W' k b bn s i f c x :=
 ⟨h.box.of fun j=>hb.cell (p:=⟨w.heap.size,j,none⟩) (by show w.heap.size < _;omega),by rw [hb.block _ (by omega)];exact h.res,h.bel.trans (hb.mono (by omega))⟩
end Go.Proofs.YtbakjaliponbbaaGreatDoor
