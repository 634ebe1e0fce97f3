/- The walk of Tidy over good plain arrays. Tidy of a good plain array is the plain array of its array. What a function of two numbers makes of two arrays: plain .. Conditions: as each theorem says. -/
import Derived.Test.YtdelgpelkfndeaaGreatDoorMgA
import Derived.Test.YtdelgpelkfndeaaGreatDoorMg08
import Derived.Test.YtdelgpelkfndeaaGreatDoorMg07
import Derived.Test.YtdelgpelkfndeaaGreatDoorMg06
import Derived.Test.YtdelgpelkfndeaaGreatDoorMg05
import Derived.StillTailTactics
set_option maxRecDepth 100000
set_option maxHeartbeats 2000000
namespace Go.Proofs.YtdelgpelkfndeaaGreatDoor
open Go Go.RowKit Go.Proofs Fl
theorem Qpj {b:Nat} (hb:b < 18446744073709551616) (h:okF b=true) (w:World):Calls Tryz.prog 42 #[.float .f64 b] w fun e w'=>e= .returned (.tuple #[.float .f64 (tidF b),.bool true])/\w=w':=by
 rcases classify b hb with ⟨s,Z,hz,rfl⟩ | h2
 ·have e:tidF (W s Z)=tid s Z:=by unfold tidF;rw [QaX s hz]
  rw [e]
  exact QeS s hz w
 ·have e2:Qau b=(0,24):=by rcases h2 with ⟨s,rfl⟩ | h;exact Qbo s;exact Qcd h
  unfold okF at h;rw [e2] at h;cases h
theorem Qd6:(Tryz.prog.info? 25).map (·.size)=some 3:=by kernel_rfl
theorem QaI {fn:Func}{p:Tmp} (h:fn.results=#[.cell p 25]) (tmps:Array Value) (w:World) (G:Nat){e:TypeId}{a0 a1 a2:Value}
  (hp:tmps.getD p undef= .pointer (some ⟨G,0,none⟩)) (hg:w.heap[G]?=some (.cells #[a0,a1,a2] e)) :
  (results fn tmps).run Tryz.prog w= .ok (.agg #[a0,a1,a2]) w :=
 results_cell_row h tmps w G e _ (0,0) _ hp hg Tryz.underlying25 rfl Qd6
abbrev set3 (w:World) (G:Nat) (a0 a1 a2:Value):World:=((w.setCell ⟨G,0,none⟩ a0).setCell ⟨G,1,none⟩ a1).setCell ⟨G,2,none⟩ a2
theorem Qae {w:World}{G:Nat}{e:TypeId}{z0 z1 z2:Value} (h:w.heap[G]?=some (.cells #[z0,z1,z2] e)) (a0 a1 a2:Value):(set3 w G a0 a1 a2).heap[G]?=some (.cells #[a0,a1,a2] e):=by
 have h0:=heap_setCell_same _ G 0 _ e a0 h
 rw [show (#[z0,z1,z2]:Array Value).setIfInBounds 0 a0=#[a0,z1,z2] by simp] at h0
 have h1:=heap_setCell_same _ G 1 _ e a1 h0
 rw [show (#[a0,z1,z2]:Array Value).setIfInBounds 1 a1=#[a0,a1,z2] by simp] at h1
 have h2:=heap_setCell_same _ G 2 _ e a2 h1
 rw [show (#[a0,a1,z2]:Array Value).setIfInBounds 2 a2=#[a0,a1,a2] by simp] at h2
 exact h2
theorem Qaf {B:Nat}{w0 w:World} (h:Below B w0 w){G:Nat} (hG:B<=G) (a0 a1 a2:Value):Below B w0 (set3 w G a0 a1 a2):=((h.setCell hG _).setCell hG _).setCell hG _
theorem Lat.set3 {H:Nat->Prop}{w:World}{G:Nat} (hG:H G) (a0 a1 a2:Value):Lat H w (set3 w G a0 a1 a2) :=
 ((Lat.set (a:=⟨G,0,none⟩) hG a0).trans (Lat.set (a:=⟨G,1,none⟩) hG a1)).trans (Lat.set (a:=⟨G,2,none⟩) hG a2)
theorem block3 {w:World}{G:Nat}{e:TypeId}{a0 a1 a2:Value} (h:w.heap[G]?=some (.cells #[a0,a1,a2] e)):(w.cell? ⟨G,0,none⟩=some a0/\w.cell? ⟨G,1,none⟩=some a1/\w.cell? ⟨G,2,none⟩=some a2)/\∀ j,w.frozen? ⟨G,j,none⟩=false:=by
 have hc:∀ j u,#[a0,a1,a2][j]?=some u->w.cell? ⟨G,j,none⟩=some u:=by
  intro j u hu
  rw [cell_of_row _ G j _ e (0,0) h]
  exact hu
 exact ⟨⟨hc 0 _ rfl,hc 1 _ rfl,hc 2 _ rfl⟩,fun j=>frozen_of_row _ _ j _ e h⟩
theorem Qti {items:List RI}{L:List RI}{i:Nat} (hik:i < items.length) (hiL:i < L.length) (hL:L=Qbs (clIs items)):L[i]=RI.mk 2 0 0 [rawP (clI items[i])]:=by
 subst hL
 have h1:i < (clIs items).length:=by rw [QbM];exact hik
 rw [QcY h1 hiL,QiO hik h1]
theorem QhM {d:Nat}{box:List RP} (h0:0 < box.length) (h:OkPs d box):OkP d box[0]:=by
 match box,h0 with
 | t::ts,_=>rw [OkPs] at h;exact h.1
theorem QmC {k:Int}{n:Nat}{c:Int}{box:List RP} (h0:0 < box.length):clI (.mk k n c box)=clP box[0]:=by
 match box,h0 with
 | t::ts,_=>rw [clI,clPs];rfl
theorem block4 {w:World}{G:Nat}{e:TypeId}{a0 a1 a2 a3:Value} (h:w.heap[G]?=some (.cells #[a0,a1,a2,a3] e)):(w.cell? ⟨G,0,none⟩=some a0/\w.cell? ⟨G,1,none⟩=some a1/\w.cell? ⟨G,2,none⟩=some a2/\w.cell? ⟨G,3,none⟩=some a3)/\∀ j,w.frozen? ⟨G,j,none⟩=false:=by
 have hc:∀ j u,#[a0,a1,a2,a3][j]?=some u->w.cell? ⟨G,j,none⟩=some u:=by
  intro j u hu
  rw [cell_of_row _ G j _ e (0,0) h]
  exact hu
 exact ⟨⟨hc 0 _ rfl,hc 1 _ rfl,hc 2 _ rfl,hc 3 _ rfl⟩,fun j=>frozen_of_row _ _ j _ e h⟩
theorem QaN {w:World}{G j:Nat}{v:Value} (h:w.cell? ⟨G,j,none⟩=some v) (hz:∀ j,w.frozen? ⟨G,j,none⟩=false) (o:Obj):(w.alloc o).frozen? ⟨G,j,none⟩=false:=by
 rw [World.frozen?_of_block (w:=w) ((bel1 w o).block G (Qav h))]
 exact hz j
theorem lt_blk {w:World}{G:Nat}{o:Obj} (h:w.heap[G]?=some o):G < w.heap.size:=by
 rcases Nat.lt_or_ge G w.heap.size with g | g
 ·exact g
 ·rw [Array.getElem?_eq_none g] at h;cases h
def PlR (H:Nat->Prop) (w:World) (t:RP) (f:Int) (e:Ending) (w':World):Prop:=∃ h' x',e= .returned (plV h' x' f)/\PV H w' t h' x' f/\Below w.heap.size w w'
structure TdI (H:Nat->Prop) (w:World) (h:Sl) (f:Int) (l:List RI) (v:Value) (W:World):Prop where
 own:IOwn (fun b=>H b\/b=w.heap.size+1\/b=w.heap.size+2) W (w.heap.size+3) v l
 out:W.heap[w.heap.size+2]?=some (.cells #[sv h,v,.int .i64 f] 25)
 res:W.heap[w.heap.size+1]?=some (.cells #[.slice none 0 0,.slice none 0 0,.int .i64 0] 25)
 bel:Below w.heap.size w W
theorem TdI.step {H:Nat->Prop}{w W W':World}{h:Sl}{f:Int}{l:List RI}{v:Value} (g:TdI H w h f l v W) (hb:Below W.heap.size W W'):TdI H w h f l v W' :=
 ⟨g.own.below hb,by rw [hb.block _ (lt_blk g.out)];exact g.out,by rw [hb.block _ (lt_blk g.res)];exact g.res,Qaa g.bel hb⟩
theorem TdI.sz {H:Nat->Prop}{w W:World}{h:Sl}{f:Int}{l:List RI}{v:Value} (g:TdI H w h f l v W):w.heap.size+2 < W.heap.size:=lt_blk g.out
theorem TdI.push {H:Nat->Prop}{w W w':World}{h:Sl}{f:Int}{l:List RI}{v v':Value}{A:RI} (g:TdI H w h f l v W) (hH:∀ b,H b->b < w.heap.size) (hown:IOwn (fun b=>H b\/b=w.heap.size+1\/b=w.heap.size+2) w' (w.heap.size+3) v' (l++[A])) (hb:Below (w.heap.size+3) W w') :
  TdI H w h f (l++[A]) v' (w'.setCell ⟨w.heap.size+2,1,none⟩ v'):=by
 have e2:w'.heap[w.heap.size+2]?=some (.cells #[sv h,v,.int .i64 f] 25):=by rw [hb.block _ (by omega)];exact g.out
 have e1:w'.heap[w.heap.size+1]?=some (.cells #[.slice none 0 0,.slice none 0 0,.int .i64 0] 25):=by rw [hb.block _ (by omega)];exact g.res
 refine ⟨hown.lat (Lat.set (a:=⟨w.heap.size+2,1,none⟩) (.inr (.inr rfl)) v') (fun b e h2=>by
  have:=(hown.own_lt e).1
  rcases h2 with h2 | h2
  ·have:=hH b h2;omega
  ·omega),?_,?_,(g.bel.trans (hb.mono (by omega))).setCell (by show _<=w.heap.size+2;omega) _⟩
 ·have h1:=heap_setCell_same _ (w.heap.size+2) 1 _ _ v' e2
  rw [show (#[sv h,v,.int .i64 f]:Array Value).setIfInBounds 1 v'=#[sv h,v',.int .i64 f] by simp] at h1
  exact h1
 ·rw [Below.heap_setCell _ _ _ _ (by show w.heap.size+1≠w.heap.size+2;omega)]
  exact e1
theorem TdI.done {H:Nat->Prop}{w W:World}{h:Sl}{f:Int}{s:List Int}{l:List RI}{v:Value} (g:TdI H w h f l v W) (hH:∀ b,H b->b < w.heap.size) (hs:RdH H w (sv h) (s.map (Value.int .i64))) (a0 a1 a2:Value) :
  ∃ x:Sl,v=sv x/\PV H (set3 W (w.heap.size+1) a0 a1 a2) (.mk s l f) h x f:=by
 have hs2:RdH (fun b=>H b\/b=w.heap.size+1\/b=w.heap.size+2) W (sv h) (s.map (Value.int .i64)):=(hs.sub (fun b hb e=>by
  rcases e with e | e
  ·exact e
  ·omega)).lat (Lat.below g.bel)
 obtain ⟨x,e,hp⟩:=g.own.pv (fun b e=>by
  rcases e with e | e
  ·have:=hH b e;omega
  ·omega) hs2 f
 exact ⟨x,e,PV.sub (fun _ _ e => .inl e) (PV.lat (Lat.set3 (G:=w.heap.size+1) (.inr (.inl rfl)) a0 a1 a2) hp)⟩
theorem At3.push {W w':World}{B:Nat}{h x:Sl}{f:Int} (g:At3 W B 0 h x f) (hb:Below (B+3) W w') (u:Value):At3 (w'.setCell ⟨B+2,1,none⟩ u) B 0 h x f :=
 g.of fun j=>by
  rw [World.cell?_of_block (w:=w') (Below.heap_setCell _ _ _ _ (by show B≠B+2;omega))]
  exact hb.cell (p:=⟨B,j,none⟩) (by show B < B+3;omega)
theorem QaD {ops:Array Oper}{rest:List Oper}{o:Oper}{a:Act}{Q:Exit->Act->World->Prop}{w:World} (hgd:o.guard=none) (s x:Operand)
  (ho:o.op= .call { callee := .builtin .append,args:=#[s,x],argTypes:=#[23,23]})
  (H:Nat->Prop) (B:Nat) (v:Value) (l:List RI) (hs:a.eval s=v) (hown:IOwn H w B v l) (q:I4) (A:RI) (hA:IV (fun b=>H b\/v.ownBlock=some b) w A q.k q.n q.c q.x)
  (G:Nat) (hG:G=w.heap.size) (hx:a.eval x= .slice (some ⟨G,0,none⟩) 1 1) (hl:l.length<=1048576) (hB:B<=w.heap.size)
  (k:∀ v' w',IOwn H w' B v' (l++[A])->(∀ w0,Below B w0 w->Below B w0 w')->Lat (fun b=>v.ownBlock=some b) w w'->(v'.ownBlock=v.ownBlock\/∃ g,v'.ownBlock=some g/\w.heap.size<=g)->wpList Tryz.prog ops Q rest (a.put o.dst v') w') :
  wpList Tryz.prog ops Q (o::rest) a (w.alloc (.cells #[.int .i64 q.k,.float .f64 q.n,.int .i32 q.c,sv q.x] 63)):=by
 subst hG
 exact QhL hgd s x ho H B v l hs hown q A hA hx hl hB k
def PlRh (H:Nat->Prop) (w:World) (h:Sl) (t:RP) (f:Int) (e:Ending) (w':World):Prop:=∃ x',e= .returned (plV h x' f)/\PV H w' t h x' f/\Below w.heap.size w w'
theorem PlRh.pl {H:Nat->Prop}{w:World}{h:Sl}{t:RP}{f:Int}{e:Ending}{w':World} (g:PlRh H w h t f e w'):PlR H w t f e w':=g.elim fun x' g=>⟨h,x',g⟩
theorem Qt5 (H:Nat->Prop) (d:Nat) (s:List Int) (items:List RI) (h x:Sl) (w:World) (hH:∀ b,H b->b < w.heap.size) (hok:OkIs (d+1) 0 items) (hM:cntP (.mk s items 0)<=1048576) (hr:PV H w (.mk s items 0) h x 0) :
  Calls Tryz.prog 11 #[plV h x 0] w (PlRh H w h (.mk s (items.map fun t=>RI.mk 0 (tidF t.numOf) 0 []) 0) 0):=by
 obtain ⟨hsr,_,hx,hit⟩:=hr.open_
 obtain ⟨A,m,cc⟩:=x
 dsimp only at hx hit
 have hsz:cntP (.mk s items 0)=items.length+s.length+1+QaH items:=by rw [cntP]
 rw [hsz] at hM
 obtain ⟨L,hL⟩:∃ L,L=(items.map fun t=>RI.mk 0 (tidF t.numOf) 0 []):=⟨_,rfl⟩
 have hLl:L.length=m:=by rw [hL];simp;exact hx.symm
 rw [<- hL]
 have HL:=hD hL
 have HLL:=hD hLl
 have HK:=hD hit
 have HMI:=hD hx
 have HSR:=hD hsr
 have hmb:m<=1048576:=by omega
 have HOKI:Hid (∀ i (hi:i < items.length),OkI (d+1) 0 items[i]):=fun i hi=>QcK hi hok
 have HCN:Hid (∀ i (hi:i < items.length),cntI items[i]<=1048576):=fun i hi=>by have:=QbF hi;omega
 have HX0:=hD (Qb7 w h (A,m,cc) 0 25)
 obtain ⟨w0,hw0⟩:∃ w0,w0=((w.alloc (.cells #[sv h,.slice A m cc,.int .i64 0] 25)).alloc (.cells #[.slice none 0 0,.slice none 0 0,.int .i64 0] 25)).alloc (.cells #[sv h,.slice none 0 0,.int .i64 0] 25):=⟨_,rfl⟩
 have HI0:Hid (TdI H w h 0 (L.take 0) (.slice none 0 0) w0/\At3 w0 w.heap.size 0 h (A,m,cc) 0):=by
  rw [hw0]
  have h2:=heap_alloc_new ((w.alloc (.cells #[sv h,.slice A m cc,.int .i64 0] 25)).alloc (.cells #[.slice none 0 0,.slice none 0 0,.int .i64 0] 25)) (.cells #[sv h,.slice none 0 0,.int .i64 0] 25)
  have h1:=Qar (bel1 ((w.alloc (.cells #[sv h,.slice A m cc,.int .i64 0] 25)).alloc (.cells #[.slice none 0 0,.slice none 0 0,.int .i64 0] 25)) (.cells #[sv h,.slice none 0 0,.int .i64 0] 25))
  have s1:(w.alloc (.cells #[sv h,.slice A m cc,.int .i64 0] 25)).heap.size=w.heap.size+1:=by simp
  have s2:((w.alloc (.cells #[sv h,.slice A m cc,.int .i64 0] 25)).alloc (.cells #[.slice none 0 0,.slice none 0 0,.int .i64 0] 25)).heap.size=w.heap.size+2:=by simp
  rw [s2] at h2
  rw [s1] at h1
  exact ⟨⟨IOwn.nil _ _ _,h2,h1,bel3 w _ _ _⟩,HX0.out.of fun _=>(bel2 _ _ _).cell HX0.out.lt⟩
 clear hx hsz hM hit hok hsr hr hL hLl
 go_enter Tryz.func11,Tryz.ntmps11
 obtain ⟨c0,c1,c2⟩:=HX0.out
 go_wp2
 rw [<- hw0]
 clear c0 c1 c2 hw0
 go_loopw [4,5] (fun iv _ wr=>∃ (i:Nat) (v:Value),i<=m/\iv= .int .i64 (i:Int)/\TdI H w h 0 (L.take i) v wr/\At3 wr w.heap.size 0 h (A,m,cc) 0) (fun iv _ _=>m - (intOf iv).toNat)
 case atStart=>exact ⟨0,_,Nat.zero_le _,rfl,HI0.out.1,HI0.out.2⟩
 case round =>
  obtain ⟨i,v,hi,rfl,hti,hat0⟩:=hrel
  have HTI:=hD hti
  have HA0:=hD hat0
  obtain ⟨c0,c1,c2⟩:=hat0
  clear hti
  obtain ⟨vA,vn,vc,hvn⟩:∃ A n c,v= .slice A n c:=by obtain ⟨a,c,e⟩:=HTI.out.own.len;exact ⟨a,_,c,e⟩
  subst hvn
  dsimp only [sv] at c1
  obtain ⟨⟨e0,e1,e2⟩,ez⟩:=block3 HTI.out.out
  by_cases him:i < m
  ·have him2:(i:Int) < (m:Int):=by omega
   have hik:i < items.length:=by have:=HMI.out;omega
   have hiL:i < L.length:=by have:=HLL.out;omega
   obtain ⟨b,o,k',n',c',y,rfl,-,hiv,hat⟩:=HK.out i hik
   have HTK:Hid (L.take (i+1)=L.take i++[L[i]]):=List.take_succ_eq_append_getElem hiL
   have HLI:Hid (L[i]=RI.mk 0 (tidF items[i].numOf) 0 []):=by unfold Hid;simp [HL.out]
   have HOI:=hD (HOKI.out i hik)
   have HCI:=hD (HCN.out i hik)
   have hlb:(L.take i).length<=1048576:=by rw [List.length_take];omega
   have HLB:=hD hlb
   clear hlb
   generalize items[i]=it at hiv HLI HOI HCI
   generalize L[i]=li at HTK HLI
   cases it with
   | mk kind num char box =>
   obtain ⟨rfl,rfl,rfl,hy,hbx⟩:=hiv.open_
   obtain ⟨yA,ym,yc⟩:=y
   dsimp only at hy hbx
   have HYL:=hD hy
   have HBX:=hD hbx
   obtain ⟨d0,d1,d2,d3⟩:=hat wr (Lat.below HTI.out.bel)
   dsimp only [sv] at d3
   have hst0:=fun md=>QaK wr 0 0 0 0 (.slice none 0 0) 63 md
   have hk0:=HOI.out
   rw [OkI] at hk0
   obtain ⟨rfl,hkn,hkb⟩:=hk0
   have g0:=fun o=>Qab c0 o
   have g1:=fun o=>Qab c1 o
   have e1':wr.cell? ⟨w.heap.size+1+1,1,none⟩=some (.slice vA vn vc):=e1
   have g2:=fun o=>Qab e1' o
   have f0:=fun o=>Qab d0 o
   have f1:=fun o=>Qab d1 o
   have f2:=fun o=>Qab d2 o
   have f3:=fun o=>Qab d3 o
   clear hy hbx hat hiv
   obtain ⟨hok,hnum⟩:=hkn rfl
   have HTD:=hD (fun W=>Qpj hnum hok W)
   have hst:=fun md=>QaK wr 0 0 (tidF n') 0 (.slice none 0 0) 63 md
   have HTW:=hD (HTI.out.step (bel1 wr (.cells #[.int .i64 0,.float .f64 (tidF n'),.int .i32 0,.slice none 0 0] 63)))
   have HAW:=hD (HA0.out.of fun j=>(bel1 wr (.cells #[.int .i64 0,.float .f64 (tidF n'),.int .i32 0,.slice none 0 0] 63)).cell (p:=⟨w.heap.size,j,none⟩) HA0.out.lt)
   have HAV:Hid (IV (fun b=>(H b\/b=w.heap.size+1\/b=w.heap.size+2)\/(Value.slice vA vn vc).ownBlock=some b) (wr.alloc (.cells #[.int .i64 0,.float .f64 (tidF n'),.int .i32 0,.slice none 0 0] 63)) li 0 (tidF n') 0 nilS):=by unfold Hid;rw [HLI.out];exact Qbr _ _ _ _ _ _ _
   have HGG:Hid (wr.heap.size+1=(wr.alloc (.cells #[.int .i64 0,.float .f64 (tidF n'),.int .i32 0,.slice none 0 0] 63)).heap.size):=by unfold Hid;simp
   have HSZ:Hid (w.heap.size+3<=(wr.alloc (.cells #[.int .i64 0,.float .f64 (tidF n'),.int .i32 0,.slice none 0 0] 63)).heap.size):=by unfold Hid;have:=HTI.out.sz;simp;omega
   clear hkn hkb hok hnum
   go_wp2_with fail
   refine (HTD.out _).mono ?_
   rintro e w2 ⟨rfl,rfl⟩
   go_wp2_with (at_builtin;refine QaD rfl (.tmp 64) (.tmp 66) rfl (fun b=>H b\/b=w.heap.size+1\/b=w.heap.size+2) (w.heap.size+3) (.slice vA vn vc) (L.take i) rfl HTW.out.own ⟨0,tidF n',0,nilS⟩ li HAV.out (wr.heap.size+1) HGG.out rfl HLB.out HSZ.out ?_;intro v' w' hown' hbw hlat hat2;(obtain ⟨vA',vn',vc',hvn'⟩:∃ A n c,v'= .slice A n c:=by (obtain ⟨a,c,e⟩:=hown'.len;exact ⟨a,_,c,e⟩));subst hvn';have HBW:=hD (hbw _ (Below.refl _ _));have HP:=hD (HTW.out.push hH hown' HBW.out);have HA1:=hD (At3.push HAW.out HBW.out (.slice vA' vn' vc'));(obtain ⟨⟨q0,q1,q2⟩,qz⟩:=block3 (show w'.heap[w.heap.size+1+1]?=_ from (HBW.out.block _ (by omega)).trans HTW.out.out));clear hown' hbw hlat hat2)
   go_roundw
   case rel=>exact ⟨i+1,_,by omega,by go_num,by rw [HTK.out];exact HP.out,HA1.out⟩
   case measure=>simp [intOf];omega
  ·have hge:¬ (i:Int) < (m:Int):=by omega
   obtain rfl:i=m:=by omega
   have HTL:Hid (L.take i=L):=by unfold Hid;rw [<- HLL.out];exact List.take_length
   obtain ⟨x',hx',hpv⟩:=HTI.out.done hH HSR.out (sv h) (.slice vA vn vc) (.int .i64 0)
   obtain ⟨xA,xn,xc⟩:=x'
   have h9:Value.slice vA vn vc= .slice xA xn xc:=hx'
   injection h9 with h10 h11 h12
   subst h10;subst h11;subst h12
   rw [HTL.out] at hpv
   have HPV:=hD hpv
   obtain ⟨⟨z0,z1,z2⟩,zz⟩:=block3 HTI.out.res
   obtain ⟨⟨y0,y1,y2⟩,yz⟩:=block3 (show wr.heap[w.heap.size+1+1]?=_ from HTI.out.out)
   have HRB:=hD (Qae HTI.out.res (sv h) (.slice vA vn vc) (.int .i64 0))
   have HBB:=hD (Qaf HTI.out.bel (G:=w.heap.size+1) (by omega) (sv h) (.slice vA vn vc) (.int .i64 0))
   clear hpv hx'
   go_wp2
   refine bodyPost_ret (v:=plV h (vA,vn,vc) 0) ?_ rfl ⟨(vA,vn,vc),rfl,HPV.out,HBB.out⟩
   exact QaI (fn:=Tryz.f11) (p:=2) rfl _ _ (w.heap.size+1) (by rfl) HRB.out
theorem Qt6 (H:Nat->Prop) (d:Nat) (s:List Int) (items:List RI) (h x:Sl) (w:World) (hH:∀ b,H b->b < w.heap.size) (hok:OkIs (d+1) 1 items) (hM:cntP (.mk s items 1)<=1048576) (hr:PV H w (.mk s items 1) h x 1) :
  Calls Tryz.prog 11 #[plV h x 1] w (PlRh H w h (.mk s (items.map fun t=>RI.mk 1 0 t.charOf []) 1) 1):=by
 obtain ⟨hsr,_,hx,hit⟩:=hr.open_
 obtain ⟨A,m,cc⟩:=x
 dsimp only at hx hit
 have hsz:cntP (.mk s items 1)=items.length+s.length+1+QaH items:=by rw [cntP]
 rw [hsz] at hM
 obtain ⟨L,hL⟩:∃ L,L=(items.map fun t=>RI.mk 1 0 t.charOf []):=⟨_,rfl⟩
 have hLl:L.length=m:=by rw [hL];simp;exact hx.symm
 rw [<- hL]
 have HL:=hD hL
 have HLL:=hD hLl
 have HK:=hD hit
 have HMI:=hD hx
 have HSR:=hD hsr
 have hmb:m<=1048576:=by omega
 have HOKI:Hid (∀ i (hi:i < items.length),OkI (d+1) 1 items[i]):=fun i hi=>QcK hi hok
 have HCN:Hid (∀ i (hi:i < items.length),cntI items[i]<=1048576):=fun i hi=>by have:=QbF hi;omega
 have HX0:=hD (Qb7 w h (A,m,cc) 1 25)
 obtain ⟨w0,hw0⟩:∃ w0,w0=((w.alloc (.cells #[sv h,.slice A m cc,.int .i64 1] 25)).alloc (.cells #[.slice none 0 0,.slice none 0 0,.int .i64 0] 25)).alloc (.cells #[sv h,.slice none 0 0,.int .i64 1] 25):=⟨_,rfl⟩
 have HI0:Hid (TdI H w h 1 (L.take 0) (.slice none 0 0) w0/\At3 w0 w.heap.size 0 h (A,m,cc) 1):=by
  rw [hw0]
  have h2:=heap_alloc_new ((w.alloc (.cells #[sv h,.slice A m cc,.int .i64 1] 25)).alloc (.cells #[.slice none 0 0,.slice none 0 0,.int .i64 0] 25)) (.cells #[sv h,.slice none 0 0,.int .i64 1] 25)
  have h1:=Qar (bel1 ((w.alloc (.cells #[sv h,.slice A m cc,.int .i64 1] 25)).alloc (.cells #[.slice none 0 0,.slice none 0 0,.int .i64 0] 25)) (.cells #[sv h,.slice none 0 0,.int .i64 1] 25))
  have s1:(w.alloc (.cells #[sv h,.slice A m cc,.int .i64 1] 25)).heap.size=w.heap.size+1:=by simp
  have s2:((w.alloc (.cells #[sv h,.slice A m cc,.int .i64 1] 25)).alloc (.cells #[.slice none 0 0,.slice none 0 0,.int .i64 0] 25)).heap.size=w.heap.size+2:=by simp
  rw [s2] at h2
  rw [s1] at h1
  exact ⟨⟨IOwn.nil _ _ _,h2,h1,bel3 w _ _ _⟩,HX0.out.of fun _=>(bel2 _ _ _).cell HX0.out.lt⟩
 clear hx hsz hM hit hok hsr hr hL hLl
 go_enter Tryz.func11,Tryz.ntmps11
 obtain ⟨c0,c1,c2⟩:=HX0.out
 go_wp2
 rw [<- hw0]
 clear c0 c1 c2 hw0
 go_loopw [4,5] (fun iv _ wr=>∃ (i:Nat) (v:Value),i<=m/\iv= .int .i64 (i:Int)/\TdI H w h 1 (L.take i) v wr/\At3 wr w.heap.size 0 h (A,m,cc) 1) (fun iv _ _=>m - (intOf iv).toNat)
 case atStart=>exact ⟨0,_,Nat.zero_le _,rfl,HI0.out.1,HI0.out.2⟩
 case round =>
  obtain ⟨i,v,hi,rfl,hti,hat0⟩:=hrel
  have HTI:=hD hti
  have HA0:=hD hat0
  obtain ⟨c0,c1,c2⟩:=hat0
  clear hti
  obtain ⟨vA,vn,vc,hvn⟩:∃ A n c,v= .slice A n c:=by obtain ⟨a,c,e⟩:=HTI.out.own.len;exact ⟨a,_,c,e⟩
  subst hvn
  dsimp only [sv] at c1
  obtain ⟨⟨e0,e1,e2⟩,ez⟩:=block3 HTI.out.out
  by_cases him:i < m
  ·have him2:(i:Int) < (m:Int):=by omega
   have hik:i < items.length:=by have:=HMI.out;omega
   have hiL:i < L.length:=by have:=HLL.out;omega
   obtain ⟨b,o,k',n',c',y,rfl,-,hiv,hat⟩:=HK.out i hik
   have HTK:Hid (L.take (i+1)=L.take i++[L[i]]):=List.take_succ_eq_append_getElem hiL
   have HLI:Hid (L[i]=RI.mk 1 0 items[i].charOf []):=by unfold Hid;simp [HL.out]
   have HOI:=hD (HOKI.out i hik)
   have HCI:=hD (HCN.out i hik)
   have hlb:(L.take i).length<=1048576:=by rw [List.length_take];omega
   have HLB:=hD hlb
   clear hlb
   generalize items[i]=it at hiv HLI HOI HCI
   generalize L[i]=li at HTK HLI
   cases it with
   | mk kind num char box =>
   obtain ⟨rfl,rfl,rfl,hy,hbx⟩:=hiv.open_
   obtain ⟨yA,ym,yc⟩:=y
   dsimp only at hy hbx
   have HYL:=hD hy
   have HBX:=hD hbx
   obtain ⟨d0,d1,d2,d3⟩:=hat wr (Lat.below HTI.out.bel)
   dsimp only [sv] at d3
   have hst0:=fun md=>QaK wr 1 0 0 0 (.slice none 0 0) 63 md
   have hk0:=HOI.out
   rw [OkI] at hk0
   obtain ⟨rfl,hkn,hkb⟩:=hk0
   have g0:=fun o=>Qab c0 o
   have g1:=fun o=>Qab c1 o
   have e1':wr.cell? ⟨w.heap.size+1+1,1,none⟩=some (.slice vA vn vc):=e1
   have g2:=fun o=>Qab e1' o
   have f0:=fun o=>Qab d0 o
   have f1:=fun o=>Qab d1 o
   have f2:=fun o=>Qab d2 o
   have f3:=fun o=>Qab d3 o
   clear hy hbx hat hiv
   have HTW:=hD (HTI.out.step (bel1 wr (.cells #[.int .i64 1,.float .f64 0,.int .i32 c',.slice none 0 0] 63)))
   have HAW:=hD (HA0.out.of fun j=>(bel1 wr (.cells #[.int .i64 1,.float .f64 0,.int .i32 c',.slice none 0 0] 63)).cell (p:=⟨w.heap.size,j,none⟩) HA0.out.lt)
   have HAV:Hid (IV (fun b=>(H b\/b=w.heap.size+1\/b=w.heap.size+2)\/(Value.slice vA vn vc).ownBlock=some b) (wr.alloc (.cells #[.int .i64 1,.float .f64 0,.int .i32 c',.slice none 0 0] 63)) li 1 0 c' nilS):=by unfold Hid;rw [HLI.out];exact Qbr _ _ _ _ _ _ _
   have HGG:Hid (wr.heap.size+1=(wr.alloc (.cells #[.int .i64 1,.float .f64 0,.int .i32 c',.slice none 0 0] 63)).heap.size):=by unfold Hid;simp
   have HSZ:Hid (w.heap.size+3<=(wr.alloc (.cells #[.int .i64 1,.float .f64 0,.int .i32 c',.slice none 0 0] 63)).heap.size):=by unfold Hid;have:=HTI.out.sz;simp;omega
   clear hkn hkb
   go_wp2_with (at_builtin;refine QaD rfl (.tmp 64) (.tmp 66) rfl (fun b=>H b\/b=w.heap.size+1\/b=w.heap.size+2) (w.heap.size+3) (.slice vA vn vc) (L.take i) rfl HTW.out.own ⟨1,0,c',nilS⟩ li HAV.out (wr.heap.size+1) HGG.out rfl HLB.out HSZ.out ?_;intro v' w' hown' hbw hlat hat2;(obtain ⟨vA',vn',vc',hvn'⟩:∃ A n c,v'= .slice A n c:=by (obtain ⟨a,c,e⟩:=hown'.len;exact ⟨a,_,c,e⟩));subst hvn';have HBW:=hD (hbw _ (Below.refl _ _));have HP:=hD (HTW.out.push hH hown' HBW.out);have HA1:=hD (At3.push HAW.out HBW.out (.slice vA' vn' vc'));(obtain ⟨⟨q0,q1,q2⟩,qz⟩:=block3 (show w'.heap[w.heap.size+1+1]?=_ from (HBW.out.block _ (by omega)).trans HTW.out.out));clear hown' hbw hlat hat2)
   go_roundw
   case rel=>exact ⟨i+1,_,by omega,by go_num,by rw [HTK.out];exact HP.out,HA1.out⟩
   case measure=>simp [intOf];omega
  ·have hge:¬ (i:Int) < (m:Int):=by omega
   obtain rfl:i=m:=by omega
   have HTL:Hid (L.take i=L):=by unfold Hid;rw [<- HLL.out];exact List.take_length
   obtain ⟨x',hx',hpv⟩:=HTI.out.done hH HSR.out (sv h) (.slice vA vn vc) (.int .i64 1)
   obtain ⟨xA,xn,xc⟩:=x'
   have h9:Value.slice vA vn vc= .slice xA xn xc:=hx'
   injection h9 with h10 h11 h12
   subst h10;subst h11;subst h12
   rw [HTL.out] at hpv
   have HPV:=hD hpv
   obtain ⟨⟨z0,z1,z2⟩,zz⟩:=block3 HTI.out.res
   obtain ⟨⟨y0,y1,y2⟩,yz⟩:=block3 (show wr.heap[w.heap.size+1+1]?=_ from HTI.out.out)
   have HRB:=hD (Qae HTI.out.res (sv h) (.slice vA vn vc) (.int .i64 1))
   have HBB:=hD (Qaf HTI.out.bel (G:=w.heap.size+1) (by omega) (sv h) (.slice vA vn vc) (.int .i64 1))
   clear hpv hx'
   go_wp2
   refine bodyPost_ret (v:=plV h (vA,vn,vc) 1) ?_ rfl ⟨(vA,vn,vc),rfl,HPV.out,HBB.out⟩
   exact QaI (fn:=Tryz.f11) (p:=2) rfl _ _ (w.heap.size+1) (by rfl) HRB.out
theorem Qt7 (H:Nat->Prop) (d:Nat) (hIH:∀ (H:Nat->Prop) (t:RP) (h x:Sl) (f:Int) (w:World),(∀ b,H b->b < w.heap.size)->OkP d t->cntP t<=1048576->PV H w t h x f->Calls Tryz.prog 11 #[plV h x f] w (PlR H w (rawP (clP t)) f)) (s:List Int) (items:List RI) (h x:Sl) (w:World) (hH:∀ b,H b->b < w.heap.size) (hok:OkIs (d+1) 2 items) (hM:cntP (.mk s items 2)<=1048576) (hr:PV H w (.mk s items 2) h x 2) :
  Calls Tryz.prog 11 #[plV h x 2] w (PlRh H w h (.mk s (Qbs (clIs items)) 2) 2):=by
 obtain ⟨hsr,_,hx,hit⟩:=hr.open_
 obtain ⟨A,m,cc⟩:=x
 dsimp only at hx hit
 have hsz:cntP (.mk s items 2)=items.length+s.length+1+QaH items:=by rw [cntP]
 rw [hsz] at hM
 obtain ⟨L,hL⟩:∃ L,L=(Qbs (clIs items)):=⟨_,rfl⟩
 have hLl:L.length=m:=by rw [hL];simp [Qbe,QbM];exact hx.symm
 rw [<- hL]
 have HL:=hD hL
 have HLL:=hD hLl
 have HK:=hD hit
 have HMI:=hD hx
 have HSR:=hD hsr
 have hmb:m<=1048576:=by omega
 have HOKI:Hid (∀ i (hi:i < items.length),OkI (d+1) 2 items[i]):=fun i hi=>QcK hi hok
 have HCN:Hid (∀ i (hi:i < items.length),cntI items[i]<=1048576):=fun i hi=>by have:=QbF hi;omega
 have HX0:=hD (Qb7 w h (A,m,cc) 2 25)
 have HIH:=hD hIH
 clear hIH
 obtain ⟨w0,hw0⟩:∃ w0,w0=((w.alloc (.cells #[sv h,.slice A m cc,.int .i64 2] 25)).alloc (.cells #[.slice none 0 0,.slice none 0 0,.int .i64 0] 25)).alloc (.cells #[sv h,.slice none 0 0,.int .i64 2] 25):=⟨_,rfl⟩
 have HI0:Hid (TdI H w h 2 (L.take 0) (.slice none 0 0) w0/\At3 w0 w.heap.size 0 h (A,m,cc) 2):=by
  rw [hw0]
  have h2:=heap_alloc_new ((w.alloc (.cells #[sv h,.slice A m cc,.int .i64 2] 25)).alloc (.cells #[.slice none 0 0,.slice none 0 0,.int .i64 0] 25)) (.cells #[sv h,.slice none 0 0,.int .i64 2] 25)
  have h1:=Qar (bel1 ((w.alloc (.cells #[sv h,.slice A m cc,.int .i64 2] 25)).alloc (.cells #[.slice none 0 0,.slice none 0 0,.int .i64 0] 25)) (.cells #[sv h,.slice none 0 0,.int .i64 2] 25))
  have s1:(w.alloc (.cells #[sv h,.slice A m cc,.int .i64 2] 25)).heap.size=w.heap.size+1:=by simp
  have s2:((w.alloc (.cells #[sv h,.slice A m cc,.int .i64 2] 25)).alloc (.cells #[.slice none 0 0,.slice none 0 0,.int .i64 0] 25)).heap.size=w.heap.size+2:=by simp
  rw [s2] at h2
  rw [s1] at h1
  exact ⟨⟨IOwn.nil _ _ _,h2,h1,bel3 w _ _ _⟩,HX0.out.of fun _=>(bel2 _ _ _).cell HX0.out.lt⟩
 clear hx hsz hM hit hok hsr hr hL hLl
 go_enter Tryz.func11,Tryz.ntmps11
 obtain ⟨c0,c1,c2⟩:=HX0.out
 go_wp2
 rw [<- hw0]
 clear c0 c1 c2 hw0
 go_loopw [4,5] (fun iv _ wr=>∃ (i:Nat) (v:Value),i<=m/\iv= .int .i64 (i:Int)/\TdI H w h 2 (L.take i) v wr/\At3 wr w.heap.size 0 h (A,m,cc) 2) (fun iv _ _=>m - (intOf iv).toNat)
 case atStart=>exact ⟨0,_,Nat.zero_le _,rfl,HI0.out.1,HI0.out.2⟩
 case round =>
  obtain ⟨i,v,hi,rfl,hti,hat0⟩:=hrel
  have HTI:=hD hti
  have HA0:=hD hat0
  obtain ⟨c0,c1,c2⟩:=hat0
  clear hti
  obtain ⟨vA,vn,vc,hvn⟩:∃ A n c,v= .slice A n c:=by obtain ⟨a,c,e⟩:=HTI.out.own.len;exact ⟨a,_,c,e⟩
  subst hvn
  dsimp only [sv] at c1
  obtain ⟨⟨e0,e1,e2⟩,ez⟩:=block3 HTI.out.out
  by_cases him:i < m
  ·have him2:(i:Int) < (m:Int):=by omega
   have hik:i < items.length:=by have:=HMI.out;omega
   have hiL:i < L.length:=by have:=HLL.out;omega
   obtain ⟨b,o,k',n',c',y,rfl,-,hiv,hat⟩:=HK.out i hik
   have HTK:Hid (L.take (i+1)=L.take i++[L[i]]):=List.take_succ_eq_append_getElem hiL
   have HLI:Hid (L[i]=RI.mk 2 0 0 [rawP (clI items[i])]):=Qti hik hiL HL.out
   have HOI:=hD (HOKI.out i hik)
   have HCI:=hD (HCN.out i hik)
   have hlb:(L.take i).length<=1048576:=by rw [List.length_take];omega
   have HLB:=hD hlb
   clear hlb
   generalize items[i]=it at hiv HLI HOI HCI
   generalize L[i]=li at HTK HLI
   cases it with
   | mk kind num char box =>
   obtain ⟨rfl,rfl,rfl,hy,hbx⟩:=hiv.open_
   obtain ⟨yA,ym,yc⟩:=y
   dsimp only at hy hbx
   have HYL:=hD hy
   have HBX:=hD hbx
   obtain ⟨d0,d1,d2,d3⟩:=hat wr (Lat.below HTI.out.bel)
   dsimp only [sv] at d3
   have hst0:=fun md=>QaK wr 2 0 0 0 (.slice none 0 0) 63 md
   have hk0:=HOI.out
   rw [OkI] at hk0
   obtain ⟨rfl,hkn,hkb⟩:=hk0
   have g0:=fun o=>Qab c0 o
   have g1:=fun o=>Qab c1 o
   have e1':wr.cell? ⟨w.heap.size+1+1,1,none⟩=some (.slice vA vn vc):=e1
   have g2:=fun o=>Qab e1' o
   have f0:=fun o=>Qab d0 o
   have f1:=fun o=>Qab d1 o
   have f2:=fun o=>Qab d2 o
   have f3:=fun o=>Qab d3 o
   clear hy hbx hat hiv
   obtain ⟨hb1,hbo⟩:=hkb rfl
   have hb0:0 < box.length:=by omega
   obtain ⟨bb,o2,h',y',f',hyA,hnH,hpv,hat3⟩:=HBX.out 0 hb0
   subst hyA
   obtain rfl:ym=1:=by have:=HYL.out;omega
   have hop:=QhM hb0 hbo
   have hcl:clI (.mk 2 n' c' box)=clP box[0]:=QmC hb0
   have hct:cntP box[0]<=1048576:=by have:=HCI.out;rw [cntI] at this;have:=Qcw hb0;omega
   rw [hcl] at HLI
   have HB1:=hD (Qaa HTI.out.bel (bel1 wr (.cells #[.int .i64 2,.float .f64 0,.int .i32 0,.slice none 0 0] 63)))
   obtain ⟨t0,t1,t2⟩:=hat3 _ (Lat.below HB1.out)
   simp only [Nat.zero_mul,Nat.add_zero] at t0 t1 t2
   have HIC:=hD (HIH.out (Hole H w (wr.alloc (.cells #[.int .i64 2,.float .f64 0,.int .i32 0,.slice none 0 0] 63))) box[0] h' y' f' (wr.alloc (.cells #[.int .i64 2,.float .f64 0,.int .i32 0,.slice none 0 0] 63)) (Hole.lt hH HB1.out) hop hct (hpv.arg HB1.out))
   unfold PlR at HIC
   clear hkn hkb hbo hpv hat3 hop hct hcl hb1 hnH
   generalize box[0]=zt at HIC HLI
   go_wp2_with fail
   refine HIC.out.mono ?_
   rintro e w2 ⟨h2,x2,rfl,hpv2,hb2⟩
   have hxb:=Qar hb2
   have HLT:=hD (lt_blk hxb)
   have hwl:wr.heap.size < w2.heap.size:=HLT.out
   have HBW2:=hD (Qaa (bel1 wr (.cells #[.int .i64 2,.float .f64 0,.int .i32 0,.slice none 0 0] 63)) hb2)
   have HBW3:=hD ((HBW2.out.setCell (p:=⟨wr.heap.size,3,none⟩) (Nat.le_refl _) (.slice (some ⟨w2.heap.size,0,none⟩) 1 1)))
   have hz3:(w2.setCell ⟨wr.heap.size,3,none⟩ (.slice (some ⟨w2.heap.size,0,none⟩) 1 1)).heap.size=w2.heap.size:=QaP _ _ _
   have HZ3:=hD hz3
   have HBW4:=hD (HBW3.out.alloc HBW3.out.size (.cells #[sv h2,sv x2,.int .i64 f'] 25))
   have HTW:=hD (HTI.out.step HBW4.out)
   have HAW:=hD (HA0.out.of fun j=>HBW4.out.cell (p:=⟨w.heap.size,j,none⟩) HA0.out.lt)
   have hwsz:w.heap.size+3<=wr.heap.size:=by have:=HTI.out.sz;omega
   have HAV:Hid (IV (fun b=>(H b\/b=w.heap.size+1\/b=w.heap.size+2)\/(Value.slice vA vn vc).ownBlock=some b) ((w2.setCell ⟨wr.heap.size,3,none⟩ (.slice (some ⟨w2.heap.size,0,none⟩) 1 1)).alloc (.cells #[sv h2,sv x2,.int .i64 f'] 25)) li 2 0 0 (some ⟨w2.heap.size,0,none⟩,1,1)):=by
    unfold Hid
    rw [HLI.out]
    have hl1:Lat (Hole H w (wr.alloc (.cells #[.int .i64 2,.float .f64 0,.int .i32 0,.slice none 0 0] 63))) w2 ((w2.setCell ⟨wr.heap.size,3,none⟩ (.slice (some ⟨w2.heap.size,0,none⟩) 1 1)).alloc (.cells #[sv h2,sv x2,.int .i64 f'] 25)):=(Lat.set (a:=⟨wr.heap.size,3,none⟩) (.inr ⟨by show w.heap.size<=wr.heap.size;omega,by show wr.heap.size < _;simp⟩) _).trans (Lat.below (bel1 _ _))
    have hp1:=PV.lat hl1 hpv2
    have hnew:=Qb7 (w2.setCell ⟨wr.heap.size,3,none⟩ (.slice (some ⟨w2.heap.size,0,none⟩) 1 1)) h2 x2 f' 25
    rw [HZ3.out] at hnew
    refine QjM ?_ (PV.sub (fun b hb e=>?_) hp1) hnew
    ·rintro ((e | e) | e)
     ·have:=hH _ e;omega
     ·omega
     ·have:=(HTI.out.own.own_lt e).2;omega
    ·rcases e with (e | e) | e
     ·exact .inl e
     ·exact .inr ⟨by omega,by simp;omega⟩
     ·have h9:=HTI.out.own.own_lt e
      exact .inr ⟨by omega,by simp;omega⟩
   have HGG:Hid (w2.heap.size+1=((w2.setCell ⟨wr.heap.size,3,none⟩ (.slice (some ⟨w2.heap.size,0,none⟩) 1 1)).alloc (.cells #[sv h2,sv x2,.int .i64 f'] 25)).heap.size):=by unfold Hid;rw [show ((w2.setCell ⟨wr.heap.size,3,none⟩ (.slice (some ⟨w2.heap.size,0,none⟩) 1 1)).alloc (.cells #[sv h2,sv x2,.int .i64 f'] 25)).heap.size=(w2.setCell ⟨wr.heap.size,3,none⟩ (.slice (some ⟨w2.heap.size,0,none⟩) 1 1)).heap.size+1 by simp,HZ3.out]
   have HSZ:Hid (w.heap.size+3<=((w2.setCell ⟨wr.heap.size,3,none⟩ (.slice (some ⟨w2.heap.size,0,none⟩) 1 1)).alloc (.cells #[sv h2,sv x2,.int .i64 f'] 25)).heap.size):=by unfold Hid;rw [<- HGG.out];omega
   obtain ⟨xx,xz⟩:=block4 hxb
   obtain ⟨x0,x1,x2',x3⟩:=xx
   have u3:=fun o=>Qab x3 o
   have uz:=fun o=>QaN x3 xz o
   have hxb3:(w2.setCell ⟨wr.heap.size,3,none⟩ (.slice (some ⟨w2.heap.size,0,none⟩) 1 1)).heap[wr.heap.size]?=some (.cells #[.int .i64 2,.float .f64 0,.int .i32 0,(.slice (some ⟨w2.heap.size,0,none⟩) 1 1)] 63):=heap_setCell_same _ wr.heap.size 3 _ _ (.slice (some ⟨w2.heap.size,0,none⟩) 1 1) hxb
   obtain ⟨⟨v0,v1,v2,v3⟩,vz⟩:=block4 hxb3
   have r0:=fun o=>Qab v0 o
   have r1:=fun o=>Qab v1 o
   have r2:=fun o=>Qab v2 o
   have r3:=fun o=>Qab v3 o
   have g2b:(w2.setCell ⟨wr.heap.size,3,none⟩ (.slice (some ⟨w2.heap.size,0,none⟩) 1 1)).cell? ⟨w.heap.size+1+1,1,none⟩=some (.slice vA vn vc):=by rw [HBW3.out.cell (Qav e1')];exact e1'
   have g2c:=fun o=>Qab g2b o
   clear hpv2 hb2 hxb hxb3 HIC
   go_wp2_with (at_builtin;refine QaD rfl (.tmp 64) (.tmp 66) rfl (fun b=>H b\/b=w.heap.size+1\/b=w.heap.size+2) (w.heap.size+3) (.slice vA vn vc) (L.take i) rfl HTW.out.own ⟨2,0,0,(some ⟨w2.heap.size,0,none⟩,1,1)⟩ li HAV.out (w2.heap.size+1) HGG.out rfl HLB.out HSZ.out ?_;intro v' w' hown' hbw hlat hat2;(obtain ⟨vA',vn',vc',hvn'⟩:∃ A n c,v'= .slice A n c:=by (obtain ⟨a,c,e⟩:=hown'.len;exact ⟨a,_,c,e⟩));subst hvn';have HBW:=hD (hbw _ (Below.refl _ _));have HP:=hD (HTW.out.push hH hown' HBW.out);have HA1:=hD (At3.push HAW.out HBW.out (.slice vA' vn' vc'));(obtain ⟨⟨q0,q1,q2⟩,qz⟩:=block3 (show w'.heap[w.heap.size+1+1]?=_ from (HBW.out.block _ (by omega)).trans HTW.out.out));clear hown' hbw hlat hat2)
   go_roundw
   case rel=>exact ⟨i+1,_,by omega,by go_num,by rw [HTK.out];exact HP.out,HA1.out⟩
   case measure=>simp [intOf];omega
  ·have hge:¬ (i:Int) < (m:Int):=by omega
   obtain rfl:i=m:=by omega
   have HTL:Hid (L.take i=L):=by unfold Hid;rw [<- HLL.out];exact List.take_length
   obtain ⟨x',hx',hpv⟩:=HTI.out.done hH HSR.out (sv h) (.slice vA vn vc) (.int .i64 2)
   obtain ⟨xA,xn,xc⟩:=x'
   have h9:Value.slice vA vn vc= .slice xA xn xc:=hx'
   injection h9 with h10 h11 h12
   subst h10;subst h11;subst h12
   rw [HTL.out] at hpv
   have HPV:=hD hpv
   obtain ⟨⟨z0,z1,z2⟩,zz⟩:=block3 HTI.out.res
   obtain ⟨⟨y0,y1,y2⟩,yz⟩:=block3 (show wr.heap[w.heap.size+1+1]?=_ from HTI.out.out)
   have HRB:=hD (Qae HTI.out.res (sv h) (.slice vA vn vc) (.int .i64 2))
   have HBB:=hD (Qaf HTI.out.bel (G:=w.heap.size+1) (by omega) (sv h) (.slice vA vn vc) (.int .i64 2))
   clear hpv hx'
   go_wp2
   refine bodyPost_ret (v:=plV h (vA,vn,vc) 2) ?_ rfl ⟨(vA,vn,vc),rfl,HPV.out,HBB.out⟩
   exact QaI (fn:=Tryz.f11) (p:=2) rfl _ _ (w.heap.size+1) (by rfl) HRB.out
theorem td_0 (H:Nat->Prop) (d:Nat) (s:List Int) (items:List RI) (h x:Sl) (w:World) (hH:∀ b,H b->b < w.heap.size) (hok:OkIs (d+1) 0 items) (hM:cntP (.mk s items 0)<=1048576) (hr:PV H w (.mk s items 0) h x 0) :
  Calls Tryz.prog 11 #[plV h x 0] w (PlR H w (.mk s (items.map fun t=>RI.mk 0 (tidF t.numOf) 0 []) 0) 0):=(Qt5 H d s items h x w hH hok hM hr).mono fun _ _ g=>g.pl
theorem td_1 (H:Nat->Prop) (d:Nat) (s:List Int) (items:List RI) (h x:Sl) (w:World) (hH:∀ b,H b->b < w.heap.size) (hok:OkIs (d+1) 1 items) (hM:cntP (.mk s items 1)<=1048576) (hr:PV H w (.mk s items 1) h x 1) :
  Calls Tryz.prog 11 #[plV h x 1] w (PlR H w (.mk s (items.map fun t=>RI.mk 1 0 t.charOf []) 1) 1):=(Qt6 H d s items h x w hH hok hM hr).mono fun _ _ g=>g.pl
theorem td_2 (H:Nat->Prop) (d:Nat) (hIH:∀ (H:Nat->Prop) (t:RP) (h x:Sl) (f:Int) (w:World),(∀ b,H b->b < w.heap.size)->OkP d t->cntP t<=1048576->PV H w t h x f->Calls Tryz.prog 11 #[plV h x f] w (PlR H w (rawP (clP t)) f)) (s:List Int) (items:List RI) (h x:Sl) (w:World) (hH:∀ b,H b->b < w.heap.size) (hok:OkIs (d+1) 2 items) (hM:cntP (.mk s items 2)<=1048576) (hr:PV H w (.mk s items 2) h x 2) :
  Calls Tryz.prog 11 #[plV h x 2] w (PlR H w (.mk s (Qbs (clIs items)) 2) 2):=(Qt7 H d hIH s items h x w hH hok hM hr).mono fun _ _ g=>g.pl
theorem Qt8 (sn:List Nat) (items:List RI):rawP (clP (.mk (sn.map Int.ofNat) items 0))= .mk (sn.map Int.ofNat) (items.map fun t=>RI.mk 0 (tidF t.numOf) 0 []) 0:=by
 rw [clP,Qb4,if_pos rfl,rawP,List.map_map]
 rfl
theorem Qt9 (sn:List Nat) (items:List RI):rawP (clP (.mk (sn.map Int.ofNat) items 1))= .mk (sn.map Int.ofNat) (items.map fun t=>RI.mk 1 0 t.charOf []) 1:=by
 rw [clP,Qb4,if_neg (by decide),if_pos rfl,rawP,List.map_map]
 rfl
theorem Qua (sn:List Nat) (items:List RI):rawP (clP (.mk (sn.map Int.ofNat) items 2))= .mk (sn.map Int.ofNat) (Qbs (clIs items)) 2:=by
 rw [clP,Qb4,if_neg (by decide),if_neg (by decide),rawP]
theorem QhN:∀ (d:Nat) (H:Nat->Prop) (t:RP) (h x:Sl) (f:Int) (w:World),(∀ b,H b->b < w.heap.size)->OkP d t->cntP t<=1048576->PV H w t h x f ->
  Calls Tryz.prog 11 #[plV h x f] w (PlR H w (rawP (clP t)) f)
 | 0,_,.mk s items fill,_,_,_,_,_,hok,_,_=>by rw [OkP] at hok;exact absurd hok.1 (Nat.lt_irrefl _)
 | d+1,H,.mk s items fill,h,x,f,w,hH,hok,hM,hr=>by
  obtain ⟨_,rfl,_,_⟩:=hr.open_
  rw [OkP] at hok
  obtain ⟨_,hf,⟨sn,rfl,_⟩,hi⟩:=hok
  rcases hf with rfl | rfl | rfl
  ·rw [Qt8];exact td_0 H d _ items h x w hH hi hM hr
  ·rw [Qt9];exact td_1 H d _ items h x w hH hi hM hr
  ·rw [Qua];exact td_2 H d (fun H t h x f w h0 h1 h2 h3=>QhN d H t h x f w h0 h1 h2 h3) _ items h x w hH hi hM hr
def Qaq (a b:PA):Int×List Nat :=
 if a.len=1/\b.len=1/\b.shape.length<=a.shape.length then (0,a.shape)
 else if a.len=1 then (0,b.shape)
 else if b.len=1 then (0,a.shape)
 else if a.shape.length≠b.shape.length then (22,[])
 else if a.shape≠b.shape then (23,[])
 else (0,a.shape)
def lenE (a b:PA):Nat:=if a.len=1 then b.len else a.len
def Qak:PA->Nat->PA
 | .nums _ l,i => .nums [] [l.getD (ixP l.length i) 0]
 | .chars _ l,i => .chars [] [l.getD (ixP l.length i) 0]
 | .boxes _ l,i=>l.getD (ixP l.length i) default
def seqE:List (Int×PA)->Int×List PA
 | []=>(0,[])
 | r::rs=>if r.1≠0 then (r.1,[]) else if (seqE rs).1≠0 then ((seqE rs).1,[]) else (0,r.2::(seqE rs).2)
noncomputable def QkR (N:Nat) (G:Nat->Nat×Int):Int×List Nat :=
 @ite _ (∃ c,c < N/\(G c).2≠0) (Classical.propDecidable _) (24,[]) (0,(List.range N).map fun c=>(G c).1)
def Qew:PA->PA->Nat->Bool
 | .chars _ l,.chars _ m,i=>decide (l.getD (ixP l.length i) 0=m.getD (ixP m.length i) 0)
 | _,_,_=>false
noncomputable def Qdh (f:Int) (a b:PA):Int×List Nat :=
 match a,b with
 | .nums _ l,.nums _ m=>QkR (lenE a b) fun c=>oneP pwP f (l.getD (ixP l.length c) 0) (m.getD (ixP m.length c) 0)
 | _,_=>if f=13\/f=16 then (0,(List.range (lenE a b)).map fun c=>Qai (Qew a b c==decide (f=13))) else (24,[])
theorem QbR (f:Int) (sa la sb lb:List Nat):Qdh f (.nums sa la) (.nums sb lb)=QkR (lenE (.nums sa la) (.nums sb lb)) fun c=>oneP pwP f (la.getD (ixP la.length c) 0) (lb.getD (ixP lb.length c) 0):=rfl
noncomputable def twoE:Nat->Int->PA->PA->Int×PA
 | 0,_,_,_=>(1,default)
 | N+1,f,a,b =>
  if Qaz f=false then (1,default)
  else if (Qaq a b).1≠0 then ((Qaq a b).1,default)
  else if a.fill=2\/b.fill=2 then
   let q:=seqE ((List.range (lenE a b)).map fun i=>twoE N f (Qak a i) (Qak b i))
   if q.1≠0 then (q.1,default) else (0,.boxes (Qaq a b).2 q.2)
  else if (Qdh f a b).1≠0 then ((Qdh f a b).1,default) else (0,.nums (Qaq a b).2 (Qdh f a b).2)
mutual
def depA:PA->Nat
 | .nums _ _=>0
 | .chars _ _=>0
 | .boxes _ l=>QiU l+1
def QiU:List PA->Nat
 | []=>0
 | a::ar=>max (depA a) (QiU ar)
end
theorem QjX:∀ {l:List PA}{i:Nat} (hi:i < l.length),depA l[i]<=QiU l
 | [],_,hi=>by simp at hi
 | a::ar,0,_=>by rw [QiU];exact Nat.le_max_left _ _
 | a::ar,i+1,hi=>by
  have:=QjX (l:=ar) (i:=i) (by simpa using hi)
  rw [QiU]
  exact Nat.le_trans (by simpa using this) (Nat.le_max_right _ _)
theorem QdH {a:PA}{i:Nat} (hi:ixP a.len i < a.len):depA (Qak a i)<=depA a/\(a.fill=2->depA (Qak a i) < depA a):=by
 cases a with
 | nums s l=>exact ⟨Nat.le_refl _,fun h=>by cases h⟩
 | chars s l=>exact ⟨Nat.le_refl _,fun h=>by cases h⟩
 | boxes s l =>
  have hi':ixP l.length i < l.length:=hi
  have h:depA (Qak (.boxes s l) i)<=QiU l:=by
   show depA (l.getD _ _)<=_
   have e:l.getD (ixP l.length i) default=l[ixP l.length i]:=by simp [List.getD,hi']
   rw [e]
   exact QjX hi'
  have e2:depA (.boxes s l)=QiU l+1:=by rw [depA]
  exact ⟨by omega,fun _=>by omega⟩
theorem QmD {rs:List (Int×PA)} (h:∀ i (hi:i < rs.length),rs[i].1=0):seqE rs=(0,rs.map (·.2)):=by
 induction rs with
 | nil=>rfl
 | cons r rs ih =>
  have h0:=h 0 (by simp)
  have h1:=ih fun i hi=>by have:=h (i+1) (by simpa using hi);simpa using this
  unfold seqE
  rw [if_neg (by simpa using h0),h1,if_neg (by simp)]
  rfl
theorem QjY {rs:List (Int×PA)}{k:Nat} (hk:k < rs.length) (h:∀ i (hi:i < k),(rs[i]'(by omega)).1=0) (hb:rs[k].1≠0):seqE rs=(rs[k].1,[]):=by
 induction rs generalizing k with
 | nil=>simp at hk
 | cons r rs ih =>
  unfold seqE
  cases k with
  | zero=>rw [if_pos (by simpa using hb)];rfl
  | succ k =>
   have h0:=h 0 (by omega)
   have h1:=ih (k:=k) (by simpa using hk) (fun i hi=>by have:=h (i+1) (by omega);simpa using this) (by simpa using hb)
   rw [if_neg (by simpa using h0),h1,if_pos (by simpa using hb)]
   rfl
theorem QdI {a b:PA}{d e:Nat} (ha:GoodA d a) (hb:GoodA e b) (h:(Qaq a b).1=0):OkSh (Qaq a b).2 (lenE a b)/\lenP a.len b.len=some (lenE a b):=by
 have h1:=ha.sh.2
 have h2:=hb.sh.2
 unfold Qaq at h ⊢
 unfold lenE lenP
 split
 ·rename_i hc
  obtain ⟨c1,c2,_⟩:=hc
  rw [if_pos c1,if_pos (by rw [c1,c2])]
  exact ⟨by rw [c2,<- c1];exact h1,by rw [c1,c2]⟩
 ·split
  ·rename_i hc
   refine ⟨h2,?_⟩
   split
   ·rename_i e;rw [e]
   ·rfl
  ·split
   ·rename_i hc hc2
    refine ⟨h1,?_⟩
    split
    ·rfl
    ·rfl
   ·split
    ·rename_i g;rw [if_neg (by assumption),if_neg (by assumption),if_neg (by assumption),if_pos g] at h;cases h
    ·split
     ·rename_i g1 g;rw [if_neg (by assumption),if_neg (by assumption),if_neg (by assumption),if_neg g1,if_pos g] at h;cases h
     ·rename_i hc hc2 hc3 hc4 hc5
      have e:a.shape=b.shape:=Classical.not_not.1 hc5
      have e2:a.len=b.len:=by rw [<- h1.2.2,<- h2.2.2,e]
      exact ⟨h1,if_pos e2⟩
theorem GoodA.nums1 {d:Nat}{s l:List Nat} (h:GoodA d (.nums s l)):GoodA 1 (.nums s l):=by rw [GoodA] at h ⊢;exact ⟨by decide,h.2⟩
theorem GoodA.chars1 {d:Nat}{s:List Nat}{l:List Int} (h:GoodA d (.chars s l)):GoodA 1 (.chars s l):=by rw [GoodA] at h ⊢;exact ⟨by decide,h.2⟩
theorem QaO {a:PA}{d i:Nat} (ha:GoodA d a) (hi:ixP a.len i < a.len):GoodA d (Qak a i):=by
 have h1:OkSh [] 1:=⟨by decide,by decide,rfl⟩
 cases a with
 | nums s l =>
  have h:=ha.nums _ hi
  rw [GoodA] at ha
  show GoodA d (.nums [] [l.getD _ _])
  rw [GoodA]
  refine ⟨ha.1,h1,fun x hx=>?_⟩
  obtain rfl:x=l.getD (ixP l.length i) 0:=by simpa using hx
  exact h
 | chars s l =>
  rw [GoodA] at ha
  show GoodA d (.chars [] [l.getD _ _])
  rw [GoodA]
  exact ⟨ha.1,h1⟩
 | boxes s l =>
  have hi':ixP l.length i < l.length:=hi
  have h:=ha.boxes _ hi'
  show GoodA d (l.getD _ _)
  have e:l.getD (ixP l.length i) default=l[ixP l.length i]:=by simp [List.getD,hi']
  rw [e]
  exact h.up (by omega)
theorem QbY {s:List Nat}{l:List PA}{d i:Nat} (ha:GoodA d (.boxes s l)) (hi:ixP l.length i < l.length):GoodA (d - 1) (Qak (.boxes s l) i):=by
 have h:=ha.boxes _ hi
 show GoodA (d - 1) (l.getD _ _)
 have e:l.getD (ixP l.length i) default=l[ixP l.length i]:=by simp [List.getD,hi]
 rw [e]
 exact h
theorem QjZ {rs:List (Int×PA)} (h:(seqE rs).1=0):(seqE rs).2=rs.map (·.2)/\∀ i (hi:i < rs.length),rs[i].1=0:=by
 induction rs with
 | nil=>exact ⟨rfl,fun i hi=>by simp at hi⟩
 | cons r rs ih =>
  unfold seqE at h ⊢
  split at h
  ·rename_i h0;exact absurd h h0
  ·rename_i h0
   split at h
   ·rename_i h1;exact absurd h h1
   ·rename_i h1
    have h1':(seqE rs).1=0:=Classical.not_not.1 h1
    have:=ih h1'
    rw [if_neg h0,if_neg h1]
    refine ⟨by rw [this.1];rfl,fun i hi=>?_⟩
    cases i with
    | zero=>exact Classical.not_not.1 h0
    | succ i=>simpa using this.2 i (by simpa using hi)
theorem QbB (N:Nat) (G:Nat->Nat×Int):((∃ c,c < N/\(G c).2≠0)/\QkR N G=(24,[]))\/((∀ c,c < N->(G c).2=0)/\QkR N G=(0,(List.range N).map fun c=>(G c).1)):=by
 unfold QkR
 split
 ·rename_i h;exact .inl ⟨h,rfl⟩
 ·rename_i h
  exact .inr ⟨fun c hc=>Classical.byContradiction fun e=>h ⟨c,hc,e⟩,rfl⟩
theorem Qb5 {a b:PA}{d e:Nat} (ha:GoodA d a) (hb:GoodA e b) (h:(Qaq a b).1=0){i:Nat} (hi:i < lenE a b):ixP a.len i < a.len/\ixP b.len i < b.len:=Qf2 (QdI ha hb h).2 hi
theorem Qck:∀ (N:Nat) (f:Int) (a b:PA) (d e:Nat),GoodA d a->GoodA e b->depA a+depA b < N->(twoE N f a b).1=0->GoodA (max d e) (twoE N f a b).2
 | 0,_,_,_,_,_,_,_,h,_=>by omega
 | N+1,f,a,b,d,e,ha,hb,hN,h0=>by
  have hd:=ha.sh.1
  rw [twoE] at h0 ⊢
  split at h0
  ·cases h0
  ·rename_i hk
   rw [if_neg hk]
   split at h0
   ·rename_i hf;exact absurd h0 hf
   ·rename_i hf
    have hf0:(Qaq a b).1=0:=Classical.not_not.1 hf
    have hsh:=(QdI ha hb hf0).1
    rw [if_neg hf]
    split at h0
    ·rename_i hx
     rw [if_pos hx]
     dsimp only at h0 ⊢
     split at h0
     ·rename_i hq;exact absurd h0 hq
     ·rename_i hq
      rw [if_neg hq]
      have hm:=QjZ (Classical.not_not.1 hq)
      rw [hm.1]
      show GoodA _ (.boxes _ _)
      rw [GoodA]
      refine ⟨by omega,?_,QhE _ fun i hi=>?_⟩
      ·simpa using hsh
      ·have hi':i < lenE a b:=by simpa using hi
       have hij:=Qb5 ha hb hf0 hi'
       have h1:=hm.2 i (by simpa using hi')
       simp only [List.getElem_map,List.getElem_range] at h1 ⊢
       have ga:=QaO ha hij.1
       have gb:=QaO hb hij.2
       have da:=QdH hij.1
       have db:=QdH hij.2
       have hlt:depA (Qak a i)+depA (Qak b i) < N:=by
        rcases hx with hx | hx
        ·have:=da.2 hx;omega
        ·have:=db.2 hx;omega
       cases a with
       | boxes sa la =>
        have ga':=QbY ha hij.1
        cases b with
        | boxes sb lb =>
         have gb':=QbY hb hij.2
         exact (Qck N f _ _ _ _ ga' gb' hlt h1).up (by omega)
        | nums sb lb =>
         have gb':GoodA 1 (Qak (.nums sb lb) i):=by
          have:=QaO (GoodA.nums1 hb) hij.2;exact this
         have hd2:1<=d - 1:=by have:=ga'.sh.1;omega
         exact (Qck N f _ _ _ _ ga' gb' hlt h1).up (by omega)
        | chars sb lb =>
         have gb':GoodA 1 (Qak (.chars sb lb) i):=by
          have:=QaO (GoodA.chars1 hb) hij.2;exact this
         have hd2:1<=d - 1:=by have:=ga'.sh.1;omega
         exact (Qck N f _ _ _ _ ga' gb' hlt h1).up (by omega)
       | nums sa la =>
        have ga':GoodA 1 (Qak (.nums sa la) i):=QaO (GoodA.nums1 ha) hij.1
        cases b with
        | boxes sb lb =>
         have gb':=QbY hb hij.2
         have hd2:1<=e - 1:=by have:=gb'.sh.1;omega
         exact (Qck N f _ _ _ _ ga' gb' hlt h1).up (by omega)
        | nums sb lb=>rcases hx with hx | hx <;> cases hx
        | chars sb lb=>rcases hx with hx | hx <;> cases hx
       | chars sa la =>
        have ga':GoodA 1 (Qak (.chars sa la) i):=QaO (GoodA.chars1 ha) hij.1
        cases b with
        | boxes sb lb =>
         have gb':=QbY hb hij.2
         have hd2:1<=e - 1:=by have:=gb'.sh.1;omega
         exact (Qck N f _ _ _ _ ga' gb' hlt h1).up (by omega)
        | nums sb lb=>rcases hx with hx | hx <;> cases hx
        | chars sb lb=>rcases hx with hx | hx <;> cases hx
    ·rename_i hx
     rw [if_neg hx]
     have hne:∀ s l,a≠.boxes s l:=fun s l he=>hx (.inl (by rw [he];rfl))
     have hne2:∀ s l,b≠.boxes s l:=fun s l he=>hx (.inr (by rw [he];rfl))
     split at h0
     ·rename_i hq;exact absurd h0 hq
     ·rename_i hq
      rw [if_neg hq]
      have hq0:(Qdh f a b).1=0:=Classical.not_not.1 hq
      have hgo:(Qdh f a b).2.length=lenE a b/\∀ x∈(Qdh f a b).2,TF x:=by
       have hfl:∀ (R:Nat->Bool),((List.range (lenE a b)).map fun c=>Qai (R c)).length=lenE a b/\∀ x∈((List.range (lenE a b)).map fun c=>Qai (R c)),TF x:=by
        intro R
        refine ⟨by simp,fun x hx=>?_⟩
        obtain ⟨c,_,rfl⟩:=List.mem_map.1 hx
        exact Qcs _
       have hel:(f=13\/f=16)->∀ (R:Nat->Bool),((if f=13\/f=16 then ((0:Int),(List.range (lenE a b)).map fun c=>Qai (R c)) else (24,[])).2.length=lenE a b/\∀ x∈(if f=13\/f=16 then ((0:Int),(List.range (lenE a b)).map fun c=>Qai (R c)) else (24,[])).2,TF x):=by
        intro h13 R
        rw [if_pos h13]
        exact hfl R
       have h13:∀ (R:List Nat),(if f=13\/f=16 then ((0:Int),R) else (24,[])).1=0->f=13\/f=16:=by
        intro R h
        by_cases g:f=13\/f=16
        ·exact g
        ·rw [if_neg g] at h;cases h
       cases a with
       | boxes s l=>exact absurd rfl (hne s l)
       | nums sa la =>
        cases b with
        | boxes s l=>exact absurd rfl (hne2 s l)
        | nums sb lb =>
         rw [QbR] at hq0 ⊢
         rcases QbB (lenE (.nums sa la) (.nums sb lb)) (fun c=>oneP pwP f (la.getD (ixP la.length c) 0) (lb.getD (ixP lb.length c) 0)) with ⟨_,hq⟩ | ⟨hall,hq⟩
         ·rw [hq] at hq0;cases hq0
         ·rw [hq]
          refine ⟨by simp,fun x hx=>?_⟩
          obtain ⟨c,hc,rfl⟩:=List.mem_map.1 hx
          have hc':=List.mem_range.1 hc
          have hij:=Qb5 ha hb hf0 hc'
          rcases QfZ QrC f (show TF (la.getD (ixP la.length c) 0) from ha.nums _ hij.1) (show TF (lb.getD (ixP lb.length c) 0) from hb.nums _ hij.2) with ⟨y,hy,e1⟩ | e1
          ·rw [e1];exact hy
          ·have:=hall c hc';rw [e1] at this;cases this
        | chars sb lb=>exact hel (h13 _ hq0) _
       | chars sa la =>
        cases b with
        | boxes s l=>exact absurd rfl (hne2 s l)
        | nums sb lb=>exact hel (h13 _ hq0) _
        | chars sb lb=>exact hel (h13 _ hq0) _
      show GoodA _ (.nums _ _)
      rw [GoodA]
      exact ⟨by omega,by rw [hgo.1];exact hsh,hgo.2⟩
mutual
def SmA (M:Nat):PA->Prop
 | .nums _ l=>l.length<=M
 | .chars _ l=>l.length<=M
 | .boxes _ l=>l.length<=M/\SmAs M l
def SmAs (M:Nat):List PA->Prop
 | []=>True
 | a::ar=>SmA M a/\SmAs M ar
end
theorem QmE {M:Nat}:∀ {l:List PA}{i:Nat} (hi:i < l.length),SmAs M l->SmA M l[i]
 | [],_,hi,_=>by simp at hi
 | a::ar,0,_,h=>by rw [SmAs] at h;exact h.1
 | a::ar,i+1,hi,h=>by rw [SmAs] at h;simpa using QmE (l:=ar) (i:=i) (by simpa using hi) h.2
theorem QmF {M:Nat}:∀ (l:List PA),(∀ i (hi:i < l.length),SmA M l[i])->SmAs M l
 | [],_=>by rw [SmAs];trivial
 | a::ar,h=>by
  rw [SmAs]
  exact ⟨by have:=h 0 (by simp);simpa using this,QmF ar fun i hi=>by have:=h (i+1) (by simpa using hi);simpa using this⟩
theorem SmA.len {M:Nat}{a:PA} (h:SmA M a):a.len<=M:=by
 cases a <;> (rw [SmA] at h;first | exact h | exact h.1)
theorem SmA.boxes {M:Nat}{s:List Nat}{l:List PA} (h:SmA M (.boxes s l)):∀ i (hi:i < l.length),SmA M l[i]:=by
 rw [SmA] at h
 exact fun i hi=>QmE hi h.2
mutual
theorem SmA.up {M M':Nat} (hm:M<=M'):∀ (a:PA),SmA M a->SmA M' a
 | .nums s l,h=>by rw [SmA] at h ⊢;omega
 | .chars s l,h=>by rw [SmA] at h ⊢;omega
 | .boxes s l,h=>by rw [SmA] at h ⊢;exact ⟨by omega,SmAs.up hm l h.2⟩
theorem SmAs.up {M M':Nat} (hm:M<=M'):∀ (l:List PA),SmAs M l->SmAs M' l
 | [],_=>by rw [SmAs];trivial
 | a::ar,h=>by rw [SmAs] at h ⊢;exact ⟨SmA.up hm a h.1,SmAs.up hm ar h.2⟩
end
theorem Qd7 {M:Nat} (hM:1<=M){a:PA} (h:SmA M a) (i:Nat) (hi:ixP a.len i < a.len):SmA M (Qak a i):=by
 cases a with
 | nums s l=>show SmA M (.nums [] [l.getD _ _]);rw [SmA];exact hM
 | chars s l=>show SmA M (.chars [] [l.getD _ _]);rw [SmA];exact hM
 | boxes s l =>
  have hi':ixP l.length i < l.length:=hi
  have h2:=h.boxes _ hi'
  show SmA M (l.getD _ _)
  have e:l.getD (ixP l.length i) default=l[ixP l.length i]:=by simp [List.getD,hi']
  rw [e]
  exact h2
theorem QgT {M:Nat}{a b:PA} (ha:SmA M a) (hb:SmA M b):lenE a b<=M:=by
 unfold lenE
 split
 ·exact hb.len
 ·exact ha.len
theorem Qpk (N:Nat) (G:Nat->Nat×Int):(QkR N G).2.length<=N:=by
 rcases QbB N G with ⟨_,h⟩ | ⟨_,h⟩
 ·rw [h];exact Nat.zero_le _
 ·rw [h];simp
theorem Qpl (f:Int) (a b:PA):(Qdh f a b).2.length<=lenE a b:=by
 have hel:∀ (R:Nat->Bool),(if f=13\/f=16 then ((0:Int),(List.range (lenE a b)).map fun c=>Qai (R c)) else (24,[])).2.length<=lenE a b:=by
  intro R
  split
  ·simp
  ·exact Nat.zero_le _
 cases a with
 | nums sa la =>
  cases b with
  | nums sb lb=>rw [QbR];exact Qpk _ _
  | chars sb lb=>exact hel _
  | boxes sb lb=>exact hel _
 | chars sa la=>exact hel _
 | boxes sa la=>exact hel _
theorem Qf7 {M:Nat} (hM:1<=M):∀ (N:Nat) (f:Int) (a b:PA) (d e:Nat),GoodA d a->GoodA e b->SmA M a->SmA M b->SmA M (twoE N f a b).2
 | 0,_,_,_,_,_,_,_,_,_=>by rw [twoE];show SmA M (.nums [] []);rw [SmA];exact Nat.zero_le _
 | N+1,f,a,b,d,e,ga,gb,ha,hb=>by
  have hz:SmA M (default:PA):=by show SmA M (.nums [] []);rw [SmA];exact Nat.zero_le _
  rw [twoE]
  split
  ·exact hz
  ·split
   ·exact hz
   ·rename_i hk hf
    have hf0:(Qaq a b).1=0:=Classical.not_not.1 hf
    split
    ·dsimp only
     split
     ·exact hz
     ·rename_i hq
      have hm:=QjZ (Classical.not_not.1 hq)
      show SmA M (.boxes _ _)
      rw [hm.1,SmA]
      refine ⟨by simpa using QgT ha hb,QmF _ fun i hi=>?_⟩
      have hi':i < lenE a b:=by simpa using hi
      have hij:=Qb5 ga gb hf0 hi'
      simp only [List.getElem_map,List.getElem_range]
      exact Qf7 hM N f _ _ d e (QaO ga hij.1) (QaO gb hij.2) (Qd7 hM ha i hij.1) (Qd7 hM hb i hij.2)
    ·split
     ·exact hz
     ·show SmA M (.nums _ _)
      rw [SmA]
      exact Nat.le_trans (Qpl f a b) (QgT ha hb)
mutual
theorem smP {M:Nat}:∀ (t:RP),cntP t<=M->SmA M (clP t)
 | .mk s items fill,h=>by
  rw [cntP] at h
  rw [clP]
  split
  ·rw [SmA,List.length_map];omega
  ·split
   ·rw [SmA,List.length_map];omega
   ·rw [SmA];exact ⟨by rw [QbM];omega,smIs items (by omega)⟩
theorem smIs {M:Nat}:∀ (ts:List RI),QaH ts<=M->SmAs M (clIs ts)
 | [],_=>by rw [clIs,SmAs];trivial
 | t::ts,h=>by rw [QaH] at h;rw [clIs,SmAs];exact ⟨smI t (by omega),smIs ts (by omega)⟩
theorem smI {M:Nat}:∀ (t:RI),cntI t<=M->SmA M (clI t)
 | .mk _ _ _ box,h=>by rw [cntI] at h;rw [clI];exact smPs box h
theorem smPs {M:Nat}:∀ (ts:List RP),Qa3 ts<=M->SmA M (clPs ts)
 | [],_=>by rw [clPs,SmA];exact Nat.zero_le _
 | t::ts,h=>by rw [Qa3] at h;rw [clPs];exact smP t (by omega)
end
mutual
def TfP:RP->Prop
 | .mk _ items _=>TfIs items
def TfIs:List RI->Prop
 | []=>True
 | t::ts=>TfI t/\TfIs ts
def TfI:RI->Prop
 | .mk _ n _ box=>TF n/\TfPs box
def TfPs:List RP->Prop
 | []=>True
 | t::ts=>TfP t/\TfPs ts
end
theorem Qd8:∀ {ts:List RI}{i:Nat} (hi:i < ts.length),TfIs ts->TfI ts[i]
 | [],_,hi,_=>by simp at hi
 | t::ts,0,_,h=>by rw [TfIs] at h;exact h.1
 | t::ts,i+1,hi,h=>by rw [TfIs] at h;simpa using Qd8 (ts:=ts) (i:=i) (by simpa using hi) h.2
theorem QiV:∀ (ts:List RI),(∀ i (hi:i < ts.length),TfI ts[i])->TfIs ts
 | [],_=>by rw [TfIs];trivial
 | t::ts,h=>by
  rw [TfIs]
  exact ⟨by have:=h 0 (by simp);simpa using this,QiV ts fun i hi=>by have:=h (i+1) (by simpa using hi);simpa using this⟩
theorem Qd9:∀ {ts:List RP}{i:Nat} (hi:i < ts.length),TfPs ts->TfP ts[i]
 | [],_,hi,_=>by simp at hi
 | t::ts,0,_,h=>by rw [TfPs] at h;exact h.1
 | t::ts,i+1,hi,h=>by rw [TfPs] at h;simpa using Qd9 (ts:=ts) (i:=i) (by simpa using hi) h.2
mutual
theorem Qj0:∀ (d:Nat) (a:PA),GoodA d a->TfP (rawP a)
 | d,.nums s l,h=>by
  rw [rawP,TfP]
  rw [GoodA] at h
  refine QiV _ fun i hi=>?_
  rw [List.getElem_map,TfI,TfPs]
  exact ⟨h.2.2 _ (List.getElem_mem _),trivial⟩
 | d,.chars s l,h=>by
  rw [rawP,TfP]
  refine QiV _ fun i hi=>?_
  rw [List.getElem_map,TfI,TfPs]
  exact ⟨Qa8,trivial⟩
 | d,.boxes s l,h=>by
  rw [GoodA] at h
  rw [rawP,TfP]
  exact Qj1 (d - 1) l h.2.2
theorem Qj1:∀ (d:Nat) (l:List PA),GoodAs d l->TfIs (Qbs l)
 | _,[],_=>by rw [Qbs,TfIs];trivial
 | d,a::ar,h=>by
  rw [GoodAs] at h
  rw [Qbs,TfIs,TfI,TfPs,TfPs]
  exact ⟨⟨Qa8,Qj0 d a h.1,trivial⟩,Qj1 d ar h.2⟩
end
mutual
def LnP:RP->Prop
 | .mk s items _=>s.length<=1048576/\items.length<=1048576/\LnIs items
def LnIs:List RI->Prop
 | []=>True
 | t::ts=>LnI t/\LnIs ts
def LnI:RI->Prop
 | .mk _ _ _ box=>box.length<=1048576/\LnPs box
def LnPs:List RP->Prop
 | []=>True
 | t::ts=>LnP t/\LnPs ts
end
theorem Qea:∀ {ts:List RI}{i:Nat} (hi:i < ts.length),LnIs ts->LnI ts[i]
 | [],_,hi,_=>by simp at hi
 | t::ts,0,_,h=>by rw [LnIs] at h;exact h.1
 | t::ts,i+1,hi,h=>by rw [LnIs] at h;simpa using Qea (ts:=ts) (i:=i) (by simpa using hi) h.2
theorem QiW:∀ (ts:List RI),(∀ i (hi:i < ts.length),LnI ts[i])->LnIs ts
 | [],_=>by rw [LnIs];trivial
 | t::ts,h=>by
  rw [LnIs]
  exact ⟨by have:=h 0 (by simp);simpa using this,QiW ts fun i hi=>by have:=h (i+1) (by simpa using hi);simpa using this⟩
theorem Qeb:∀ {ts:List RP}{i:Nat} (hi:i < ts.length),LnPs ts->LnP ts[i]
 | [],_,hi,_=>by simp at hi
 | t::ts,0,_,h=>by rw [LnPs] at h;exact h.1
 | t::ts,i+1,hi,h=>by rw [LnPs] at h;simpa using Qeb (ts:=ts) (i:=i) (by simpa using hi) h.2
mutual
theorem Qj2:∀ (d:Nat) (a:PA),GoodA d a->SmA 1000000 a->LnP (rawP a)
 | d,.nums s l,h,hs=>by
  have h8:s.length<=8:=h.sh.2.1
  have hl:l.length<=1000000:=hs.len
  rw [rawP,LnP,List.length_map,List.length_map]
  refine ⟨by omega,by omega,QiW _ fun i hi=>?_⟩
  rw [List.getElem_map,LnI,LnPs]
  exact ⟨by simp,trivial⟩
 | d,.chars s l,h,hs=>by
  have h8:s.length<=8:=h.sh.2.1
  have hl:l.length<=1000000:=hs.len
  rw [rawP,LnP,List.length_map,List.length_map]
  refine ⟨by omega,by omega,QiW _ fun i hi=>?_⟩
  rw [List.getElem_map,LnI,LnPs]
  exact ⟨by simp,trivial⟩
 | d,.boxes s l,h,hs=>by
  have h8:s.length<=8:=h.sh.2.1
  have hl:l.length<=1000000:=hs.len
  rw [GoodA] at h
  rw [SmA] at hs
  rw [rawP,LnP,List.length_map,Qbe]
  exact ⟨by omega,by omega,Qj3 (d - 1) l h.2.2 hs.2⟩
theorem Qj3:∀ (d:Nat) (l:List PA),GoodAs d l->SmAs 1000000 l->LnIs (Qbs l)
 | _,[],_,_=>by rw [Qbs,LnIs];trivial
 | d,a::ar,h,hs=>by
  rw [GoodAs] at h
  rw [SmAs] at hs
  rw [Qbs,LnIs,LnI,LnPs,LnPs]
  exact ⟨⟨by simp,Qj2 d a h.1 hs.1,trivial⟩,Qj3 d ar h.2 hs.2⟩
end
abbrev itO (k:Int) (n:Nat) (c:Int) (x:Sl):Obj := .cells #[.int .i64 k,.float .f64 n,.int .i32 c,.slice x.1 x.2.1 x.2.2] 63
abbrev plO (h x:Sl) (f:Int):Obj := .cells #[.slice h.1 h.2.1 h.2.2,.slice x.1 x.2.1 x.2.2,.int .i64 f] 25
theorem Qfj {w:World}{b:Nat}{k:Int}{n:Nat}{c:Int}{x:Sl} (g:At4 w b 0 k n c x):w.cell? ⟨b,0,none⟩=some (.int .i64 k)/\w.cell? ⟨b,1,none⟩=some (.float .f64 n)/\w.cell? ⟨b,2,none⟩=some (.int .i32 c)/\w.cell? ⟨b,3,none⟩=some (.slice x.1 x.2.1 x.2.2):=g
theorem Qax {w:World}{b:Nat}{h x:Sl}{f:Int} (g:At3 w b 0 h x f):w.cell? ⟨b,0,none⟩=some (.slice h.1 h.2.1 h.2.2)/\w.cell? ⟨b,1,none⟩=some (.slice x.1 x.2.1 x.2.2)/\w.cell? ⟨b,2,none⟩=some (.int .i64 f):=g
theorem QbC (w:World) (k:Int) (n:Nat) (c:Int) (x:Sl):At4 (w.alloc (itO k n c x)) w.heap.size 0 k n c x:=by
 have h:=block4 (heap_alloc_new w (itO k n c x))
 exact h.1
theorem Qbd (w:World) (h x:Sl) (f:Int):At3 (w.alloc (plO h x f)) w.heap.size 0 h x f:=by
 have g:=block3 (heap_alloc_new w (plO h x f))
 exact g.1
structure Two3 (w:World) (h x h' x':Sl) (f:Int) (W:World):Prop where
 one:At3 W w.heap.size 0 h x f
 two:At3 W (w.heap.size+1) 0 h' x' f
 bel:Below w.heap.size w W
theorem Two3.new (w:World) (h x h' x':Sl) (f:Int):Two3 w h x h' x' f ((w.alloc (plO h x f)).alloc (plO h' x' f)):=by
 have g:=Qbd (w.alloc (plO h x f)) h' x' f
 have e:(w.alloc (plO h x f)).heap.size=w.heap.size+1:=by simp
 rw [e] at g
 exact ⟨(Qbd w h x f).of fun j=>(bel1 _ _).cell (p:=⟨w.heap.size,j,none⟩) (by simp),g,bel2 _ _ _⟩
theorem Two3.step {w W W':World}{h x h' x':Sl}{f:Int} (g:Two3 w h x h' x' f W) (hb:Below W.heap.size W W'):Two3 w h x h' x' f W' :=
 ⟨g.one.of fun j=>hb.cell (p:=⟨w.heap.size,j,none⟩) g.one.lt,g.two.of fun j=>hb.cell (p:=⟨w.heap.size+1,j,none⟩) g.two.lt,Qaa g.bel hb⟩
structure Two4 (w:World) (k:Int) (n:Nat) (c:Int) (x x':Sl) (W:World):Prop where
 one:At4 W w.heap.size 0 k n c x
 two:At4 W (w.heap.size+1) 0 k n c x'
 bel:Below w.heap.size w W
theorem Two4.new (w:World) (k:Int) (n:Nat) (c:Int) (x x':Sl):Two4 w k n c x x' ((w.alloc (itO k n c x)).alloc (itO k n c x')):=by
 have g:=QbC (w.alloc (itO k n c x)) k n c x'
 have e:(w.alloc (itO k n c x)).heap.size=w.heap.size+1:=by simp
 rw [e] at g
 exact ⟨(QbC w k n c x).of fun j=>(bel1 _ _).cell (p:=⟨w.heap.size,j,none⟩) (by simp),g,bel2 _ _ _⟩
theorem Two4.step {w W W':World}{k:Int}{n:Nat}{c:Int}{x x':Sl} (g:Two4 w k n c x x' W) (hb:Below W.heap.size W W'):Two4 w k n c x x' W' :=
 ⟨g.one.of fun j=>hb.cell (p:=⟨w.heap.size,j,none⟩) g.one.lt,g.two.of fun j=>hb.cell (p:=⟨w.heap.size+1,j,none⟩) g.two.lt,Qaa g.bel hb⟩
def QkS (t:RP):Prop:=∀ (H H':Nat->Prop) (h x h' x':Sl) (f f':Int) (w:World),PV H w t h x f->PV H' w t h' x' f' ->
  Calls Tryz.prog 55 #[plV h x f,plV h' x' f'] w fun e w'=>e= .returned (.bool true)/\Below w.heap.size w w'
theorem QmG (kind:Int) (num:Nat) (char:Int) (box:List RP) (hnum:TF num) (hl:box.length<=1048576) (hih:∀ i (hi:i < box.length),QkS box[i]) (H H':Nat->Prop) (k:Int) (n:Nat) (c:Int) (x:Sl) (k':Int) (n':Nat) (c':Int) (x':Sl) (w:World)
  (hp:IV H w (.mk kind num char box) k n c x) (hq:IV H' w (.mk kind num char box) k' n' c' x') :
  Calls Tryz.prog 106 #[itV k n c x,itV k' n' c' x'] w fun e w'=>e= .returned (.bool true)/\Below w.heap.size w w':=by
 obtain ⟨rfl,rfl,rfl,hx,hk⟩:=hp.open_
 obtain ⟨rfl,rfl,rfl,hx',hk'⟩:=hq.open_
 obtain ⟨A,m,cc⟩:=x
 obtain ⟨A',m',cc'⟩:=x'
 dsimp only at hx hx' hk hk'
 obtain rfl:m'=m:=by omega
 have hmb:m'<=1048576:=by omega
 have HM:=hD hx
 have HK:=hD hk
 have HK':=hD hk'
 have HIH:=hD hih
 unfold QkS at HIH
 have HBT:=hD (fun W=>Qme hnum W)
 have HT0:=hD (Two4.new w k' n' c' (A,m',cc) (A',m',cc'))
 have e1:(k' != k')=false:=by simp
 have e2:(c' != c')=false:=by simp
 have e3:((m':Int) != (m':Int))=false:=by simp
 obtain ⟨W,hW⟩:∃ W,W=(w.alloc (itO k' n' c' (A,m',cc))).alloc (itO k' n' c' (A',m',cc')):=⟨_,rfl⟩
 have HW:=hD hW
 rw [<- hW] at HT0
 clear hp hq hx hx' hk hk' hih hnum hl hW
 go_enter Tryz.func106,Tryz.ntmps106
 go_wp2_with fail
 rw [<- HW.out]
 refine (HBT.out _).mono ?_
 rintro e w' ⟨rfl,rfl⟩
 obtain ⟨a0,a1,a2,a3⟩:=Qfj HT0.out.one
 obtain ⟨b0,b1,b2,b3⟩:=Qfj HT0.out.two
 dsimp only at a3 b3
 go_wp2
 clear a0 a1 a2 a3 b0 b1 b2 b3
 go_loopw [5,5] (fun _ iv wr=>∃ i:Nat,i<=m'/\iv= .int .i64 (i:Int)/\Below W.heap.size W wr) (fun _ iv _=>m' - (intOf iv).toNat)
 case atStart=>exact ⟨0,Nat.zero_le _,rfl,Below.refl _ _⟩
 case round =>
  obtain ⟨i,hi,rfl,hbl⟩:=hrel
  have HTR:=hD (HT0.out.step hbl)
  obtain ⟨a0,a1,a2,a3⟩:=Qfj HTR.out.one
  obtain ⟨b0,b1,b2,b3⟩:=Qfj HTR.out.two
  dsimp only at a3 b3
  have HBL:=hD hbl
  by_cases hlt:i < m'
  ·have h1:i < box.length:=by have:=HM.out;omega
   obtain ⟨b,o,p0,p1,p2,rfl,-,hpv,hce⟩:=HK.out i h1
   obtain ⟨b',o',r0,r1,r2,rfl,-,hpv',hce'⟩:=HK'.out i h1
   obtain ⟨c0,c1,c2⟩:=hce _ (Lat.below HTR.out.bel)
   obtain ⟨d0,d1,d2⟩:=hce' _ (Lat.below HTR.out.bel)
   dsimp only [sv] at c0 c1 c2 d0 d1 d2
   have HIC:=hD (HIH.out i h1 _ _ p0 p1 r0 r1 p2 r2 _ (hpv.step (Qaa HTR.out.bel (Qao (Below.refl wr.heap.size wr) 1))) (hpv'.step (Qaa HTR.out.bel (Qao (Below.refl wr.heap.size wr) 1))))
   have hlt2:(i:Int) < (m':Int):=by omega
   clear hbl hce hce' hpv hpv'
   go_wp2
   go_still_tail 10,(by kernel_rfl)
   change wpList _ _ _ _ _ (wr.drewN 1)
   have HB1:=hD (Qaa HBL.out (Qao (Below.refl wr.heap.size wr) 1))
   clear a0 a1 a2 a3 b0 b1 b2 b3 c0 c1 c2 d0 d1 d2
   generalize wr.drewN 1=wd at *
   go_wp2_with fail
   refine HIC.out.mono ?_
   rintro e w2 ⟨rfl,hb⟩
   have HB2:=hD (Qaa HB1.out hb)
   clear hb
   go_wp2
   go_roundw
   case rel=>exact ⟨i+1,by omega,by go_num,HB2.out⟩
   case measure=>simp [intOf];omega
  ·have hlt2:¬ (i:Int) < (m':Int):=by omega
   clear hbl
   go_wp2
   go_ret
   exact ⟨rfl,HTR.out.bel⟩
theorem QkT (s:List Int) (items:List RI) (fill:Int) (hs:s.length<=1048576) (hl:items.length<=1048576)
  (hih:∀ i (hi:i < items.length) (H H':Nat->Prop) (k:Int) (n:Nat) (c:Int) (x:Sl) (k':Int) (n':Nat) (c':Int) (x':Sl) (w:World),IV H w items[i] k n c x->IV H' w items[i] k' n' c' x' ->
   Calls Tryz.prog 106 #[itV k n c x,itV k' n' c' x'] w fun e w'=>e= .returned (.bool true)/\Below w.heap.size w w') :
  QkS (.mk s items fill):=by
 intro H H' h x h' x' f f' w hp hq
 obtain ⟨hsr,rfl,hx,hk⟩:=hp.open_
 obtain ⟨hsr',rfl,hx',hk'⟩:=hq.open_
 obtain ⟨A,m,cc⟩:=x
 obtain ⟨A',m',cc'⟩:=x'
 dsimp only at hx hx' hk hk'
 obtain rfl:m'=m:=by omega
 have hmb:m'<=1048576:=by omega
 have HM:=hD hx
 have HK:=hD hk
 have HK':=hD hk'
 have HIH:=hD hih
 have HT0:=hD (Two3.new w h (A,m',cc) h' (A',m',cc') f')
 have e1:(f' != f')=false:=by simp
 have e3:((m':Int) != (m':Int))=false:=by simp
 obtain ⟨W,hW⟩:∃ W,W=(w.alloc (plO h (A,m',cc) f')).alloc (plO h' (A',m',cc') f'):=⟨_,rfl⟩
 have HW:=hD hW
 rw [<- hW] at HT0
 have HIN:=hD (Qmx (sv h) (sv h') s W (Keeps.lat hsr (Lat.below HT0.out.bel)).now (Keeps.lat hsr' (Lat.below HT0.out.bel)).now hs)
 clear hp hq hx hx' hk hk' hih hl hW hsr hsr' hs
 go_enter Tryz.func55,Tryz.ntmps55
 go_wp2_with fail
 rw [<- HW.out]
 refine HIN.out.mono ?_
 rintro e w1 ⟨rfl,hb⟩
 have HT1:=hD (HT0.out.step hb)
 clear hb HT0 HIN
 obtain ⟨a0,a1,a2⟩:=Qax HT1.out.one
 obtain ⟨b0,b1,b2⟩:=Qax HT1.out.two
 dsimp only at a1 b1
 go_wp2
 clear a0 a1 a2 b0 b1 b2
 go_loopw [5,5] (fun _ iv wr=>∃ i:Nat,i<=m'/\iv= .int .i64 (i:Int)/\Below w1.heap.size w1 wr) (fun _ iv _=>m' - (intOf iv).toNat)
 case atStart=>exact ⟨0,Nat.zero_le _,rfl,Below.refl _ _⟩
 case round =>
  obtain ⟨i,hi,rfl,hbl⟩:=hrel
  have HTR:=hD (HT1.out.step hbl)
  obtain ⟨a0,a1,a2⟩:=Qax HTR.out.one
  obtain ⟨b0,b1,b2⟩:=Qax HTR.out.two
  dsimp only at a1 b1
  have HBL:=hD hbl
  by_cases hlt:i < m'
  ·have h1:i < items.length:=by have:=HM.out;omega
   obtain ⟨b,o,p0,p1,p2,p3,rfl,-,hpv,hce⟩:=HK.out i h1
   obtain ⟨b',o',r0,r1,r2,r3,rfl,-,hpv',hce'⟩:=HK'.out i h1
   obtain ⟨c0,c1,c2,c3⟩:=hce _ (Lat.below HTR.out.bel)
   obtain ⟨d0,d1,d2,d3⟩:=hce' _ (Lat.below HTR.out.bel)
   dsimp only [sv] at c0 c1 c2 c3 d0 d1 d2 d3
   have HIC:=hD (HIH.out i h1 _ _ p0 p1 p2 p3 r0 r1 r2 r3 _ (hpv.step (Qaa HTR.out.bel (Qao (Below.refl wr.heap.size wr) 1))) (hpv'.step (Qaa HTR.out.bel (Qao (Below.refl wr.heap.size wr) 1))))
   have hlt2:(i:Int) < (m':Int):=by omega
   clear hbl hce hce' hpv hpv'
   go_wp2
   go_still_tail 10,(by kernel_rfl)
   change wpList _ _ _ _ _ (wr.drewN 1)
   have HB1:=hD (Qaa HBL.out (Qao (Below.refl wr.heap.size wr) 1))
   clear a0 a1 a2 b0 b1 b2 c0 c1 c2 c3 d0 d1 d2 d3
   generalize wr.drewN 1=wd at *
   go_wp2_with fail
   refine HIC.out.mono ?_
   rintro e w2 ⟨rfl,hb⟩
   have HB2:=hD (Qaa HB1.out hb)
   clear hb
   go_wp2
   go_roundw
   case rel=>exact ⟨i+1,by omega,by go_num,HB2.out⟩
   case measure=>simp [intOf];omega
  ·have hlt2:¬ (i:Int) < (m':Int):=by omega
   clear hbl
   go_wp2
   go_ret
   exact ⟨rfl,HTR.out.bel⟩
theorem QhO:∀ (N:Nat) (t:RP),cntP t<=N->LnP t->TfP t->QkS t
 | 0,t,h,_,_=>by have:=QdC t;omega
 | N+1,.mk s items fill,h,hN,ht=>by
  rw [cntP] at h
  rw [TfP] at ht
  rw [LnP] at hN
  refine QkT s items fill hN.1 hN.2.1 fun i hi=>?_
  have hc:=QbF hi
  have htf:=Qd8 hi ht
  have hln:=Qea hi hN.2.2
  generalize items[i]=it at hc htf hln
  cases it with
  | mk kind num char box =>
   rw [cntI] at hc
   rw [TfI] at htf
   rw [LnI] at hln
   exact QmG kind num char box htf.1 hln.1 fun j hj=>QhO N box[j] (by have:=Qcw hj;omega) (Qeb hj hln.2) (Qd9 hj htf.2)
theorem QmH {a:PA} (d:Nat) (hg:GoodA d a) (hs:SmA 1000000 a):QkS (rawP a):=QhO (cntP (rawP a)) _ (Nat.le_refl _) (Qj2 d a hg hs) (Qj0 d a hg)
end Go.Proofs.YtdelgpelkfndeaaGreatDoor
