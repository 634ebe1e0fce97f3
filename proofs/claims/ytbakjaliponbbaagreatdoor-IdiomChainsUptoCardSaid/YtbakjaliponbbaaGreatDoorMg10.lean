/- The walk of Tidy over good plain .. Conditions: as each theorem says. -/
import Derived.Test.YtbakjaliponbbaaGreatDoorMg08
import Derived.Test.YtbakjaliponbbaaGreatDoorMg09
set_option maxRecDepth 100000
set_option maxHeartbeats 2000000
namespace Go.Proofs.YtbakjaliponbbaaGreatDoor
open Go Go.RowKit Go.Proofs Fl
theorem tidy_any {b:Nat} (hb:b < 18446744073709551616) (h:okF b=true) (w:World):Calls Tryz.prog 51 #[.float .f64 b] w fun e w'=>e= .returned (.tuple #[.float .f64 (tidF b),.bool true])/\w=w':=by
 rcases classify b hb with ⟨s,Z,hz,rfl⟩ | h2
 ·have e:tidF (W s Z)=tid s Z:=by unfold tidF;rw [doneP_num s hz]
  rw [e]
  exact rtidy_num s hz w
 ·have e2:doneP b=(0,24):=by rcases h2 with ⟨s,rfl⟩ | h;exact doneP_inf s;exact doneP_nan h
  unfold okF at h;rw [e2] at h;cases h
theorem plain_size:(Tryz.prog.info? 44).map (·.size)=some 3:=by kernel_rfl
theorem ret_plain {fn:Func}{p:Tmp} (h:fn.results=#[.cell p 44]) (tmps:Array Value) (w:World) (G:Nat){e:TypeId}{a0 a1 a2:Value}
  (hp:tmps.getD p undef= .pointer (some ⟨G,0,none⟩)) (hg:w.heap[G]?=some (.cells #[a0,a1,a2] e)) :
  (results fn tmps).run Tryz.prog w= .ok (.agg #[a0,a1,a2]) w :=
 results_cell_row h tmps w G e _ (0,0) _ hp hg Tryz.underlying44 rfl plain_size
abbrev set3 (w:World) (G:Nat) (a0 a1 a2:Value):World:=((w.setCell ⟨G,0,none⟩ a0).setCell ⟨G,1,none⟩ a1).setCell ⟨G,2,none⟩ a2
theorem set3_block {w:World}{G:Nat}{e:TypeId}{z0 z1 z2:Value} (h:w.heap[G]?=some (.cells #[z0,z1,z2] e)) (a0 a1 a2:Value):(set3 w G a0 a1 a2).heap[G]?=some (.cells #[a0,a1,a2] e):=by
 have h0:=heap_setCell_same _ G 0 _ e a0 h
 rw [show (#[z0,z1,z2]:Array Value).setIfInBounds 0 a0=#[a0,z1,z2] by simp] at h0
 have h1:=heap_setCell_same _ G 1 _ e a1 h0
 rw [show (#[a0,z1,z2]:Array Value).setIfInBounds 1 a1=#[a0,a1,z2] by simp] at h1
 have h2:=heap_setCell_same _ G 2 _ e a2 h1
 rw [show (#[a0,a1,z2]:Array Value).setIfInBounds 2 a2=#[a0,a1,a2] by simp] at h2
 exact h2
theorem below_set3 {B:Nat}{w0 w:World} (h:Below B w0 w){G:Nat} (hG:B<=G) (a0 a1 a2:Value):Below B w0 (set3 w G a0 a1 a2):=((h.setCell hG _).setCell hG _).setCell hG _
theorem Lat.set3 {H:Nat->Prop}{w:World}{G:Nat} (hG:H G) (a0 a1 a2:Value):Lat H w (set3 w G a0 a1 a2) :=
 ((Lat.set (a:=⟨G,0,none⟩) hG a0).trans (Lat.set (a:=⟨G,1,none⟩) hG a1)).trans (Lat.set (a:=⟨G,2,none⟩) hG a2)
theorem block3 {w:World}{G:Nat}{e:TypeId}{a0 a1 a2:Value} (h:w.heap[G]?=some (.cells #[a0,a1,a2] e)):(w.cell? ⟨G,0,none⟩=some a0/\w.cell? ⟨G,1,none⟩=some a1/\w.cell? ⟨G,2,none⟩=some a2)/\∀ j,w.frozen? ⟨G,j,none⟩=false:=by
 have hc:∀ j u,#[a0,a1,a2][j]?=some u->w.cell? ⟨G,j,none⟩=some u:=by
  intro j u hu
  rw [cell_of_row _ G j _ e (0,0) h]
  exact hu
 exact ⟨⟨hc 0 _ rfl,hc 1 _ rfl,hc 2 _ rfl⟩,fun j=>frozen_of_row _ _ j _ e h⟩
theorem raw_at {items:List RI}{L:List RI}{i:Nat} (hik:i < items.length) (hiL:i < L.length) (hL:L=rawBs (clIs items)):L[i]=RI.mk 2 0 0 [rawP (clI items[i])]:=by
 subst hL
 have h1:i < (clIs items).length:=by rw [clIs_len];exact hik
 rw [rawBs_at h1 hiL,clIs_at hik h1]
theorem okPs_head {d:Nat}{box:List RP} (h0:0 < box.length) (h:OkPs d box):OkP d box[0]:=by
 match box,h0 with
 | t::ts,_=>rw [OkPs] at h;exact h.1
theorem clI_one {k:Int}{n:Nat}{c:Int}{box:List RP} (h0:0 < box.length):clI (.mk k n c box)=clP box[0]:=by
 match box,h0 with
 | t::ts,_=>rw [clI,clPs];rfl
theorem block4 {w:World}{G:Nat}{e:TypeId}{a0 a1 a2 a3:Value} (h:w.heap[G]?=some (.cells #[a0,a1,a2,a3] e)):(w.cell? ⟨G,0,none⟩=some a0/\w.cell? ⟨G,1,none⟩=some a1/\w.cell? ⟨G,2,none⟩=some a2/\w.cell? ⟨G,3,none⟩=some a3)/\∀ j,w.frozen? ⟨G,j,none⟩=false:=by
 have hc:∀ j u,#[a0,a1,a2,a3][j]?=some u->w.cell? ⟨G,j,none⟩=some u:=by
  intro j u hu
  rw [cell_of_row _ G j _ e (0,0) h]
  exact hu
 exact ⟨⟨hc 0 _ rfl,hc 1 _ rfl,hc 2 _ rfl,hc 3 _ rfl⟩,fun j=>frozen_of_row _ _ j _ e h⟩
theorem frozen_box {w:World}{G j:Nat}{v:Value} (h:w.cell? ⟨G,j,none⟩=some v) (hz:∀ j,w.frozen? ⟨G,j,none⟩=false) (o:Obj):(w.alloc o).frozen? ⟨G,j,none⟩=false:=by
 rw [World.frozen?_of_block (w:=w) ((bel1 w o).block G (cell_lt h))]
 exact hz j
theorem lt_blk {w:World}{G:Nat}{o:Obj} (h:w.heap[G]?=some o):G < w.heap.size:=by
 rcases Nat.lt_or_ge G w.heap.size with g | g
 ·exact g
 ·rw [Array.getElem?_eq_none g] at h;cases h
def PlR (H:Nat->Prop) (w:World) (t:RP) (f:Int) (e:Ending) (w':World):Prop:=∃ h' x',e= .returned (plV h' x' f)/\PV H w' t h' x' f/\Below w.heap.size w w'
structure TdI (H:Nat->Prop) (w:World) (h:Sl) (f:Int) (l:List RI) (v:Value) (W:World):Prop where
 own:IOwn (fun b=>H b\/b=w.heap.size+1\/b=w.heap.size+2) W (w.heap.size+3) v l
 out:W.heap[w.heap.size+2]?=some (.cells #[sv h,v,.int .i64 f] 44)
 res:W.heap[w.heap.size+1]?=some (.cells #[.slice none 0 0,.slice none 0 0,.int .i64 0] 44)
 bel:Below w.heap.size w W
theorem TdI.step {H:Nat->Prop}{w W W':World}{h:Sl}{f:Int}{l:List RI}{v:Value} (g:TdI H w h f l v W) (hb:Below W.heap.size W W'):TdI H w h f l v W' :=
 ⟨g.own.below hb,by rw [hb.block _ (lt_blk g.out)];exact g.out,by rw [hb.block _ (lt_blk g.res)];exact g.res,bel_both g.bel hb⟩
theorem TdI.sz {H:Nat->Prop}{w W:World}{h:Sl}{f:Int}{l:List RI}{v:Value} (g:TdI H w h f l v W):w.heap.size+2 < W.heap.size:=lt_blk g.out
theorem TdI.push {H:Nat->Prop}{w W w':World}{h:Sl}{f:Int}{l:List RI}{v v':Value}{A:RI} (g:TdI H w h f l v W) (hH:∀ b,H b->b < w.heap.size) (hown:IOwn (fun b=>H b\/b=w.heap.size+1\/b=w.heap.size+2) w' (w.heap.size+3) v' (l++[A])) (hb:Below (w.heap.size+3) W w') :
  TdI H w h f (l++[A]) v' (w'.setCell ⟨w.heap.size+2,1,none⟩ v'):=by
 have e2:w'.heap[w.heap.size+2]?=some (.cells #[sv h,v,.int .i64 f] 44):=by rw [hb.block _ (by omega)];exact g.out
 have e1:w'.heap[w.heap.size+1]?=some (.cells #[.slice none 0 0,.slice none 0 0,.int .i64 0] 44):=by rw [hb.block _ (by omega)];exact g.res
 refine ⟨hown.lat (Lat.set (a:=⟨w.heap.size+2,1,none⟩) (.inr (.inr rfl)) v') (fun b e h2=>by
  have:=(hown.own_lt e).1
  rcases h2 with h2 | h2
  ·have:=hH b h2;omega
  ·omega),?_,?_,(g.bel.trans (hb.mono (by omega))).setCell (by show _<=w.heap.size+2;omega) _⟩
 ·have h1:=heap_setCell_same _ (w.heap.size+2) 1 _ _ v' e2
  rw [show (#[sv h,v,.int .i64 f]:Array Value).setIfInBounds 1 v'=#[sv h,v',.int .i64 f] by simp] at h1
  exact h1
 ·rw [Below.heap_setCell _ _ _ _ (by show w.heap.size+1≠w.heap.size+2;omega)]
  exact e1
theorem TdI.done {H:Nat->Prop}{w W:World}{h:Sl}{f:Int}{s:List Int}{l:List RI}{v:Value} (g:TdI H w h f l v W) (hH:∀ b,H b->b < w.heap.size) (hs:RdH H w (sv h) (s.map (Value.int .i64))) (a0 a1 a2:Value) :
  ∃ x:Sl,v=sv x/\PV H (set3 W (w.heap.size+1) a0 a1 a2) (.mk s l f) h x f:=by
 have hs2:RdH (fun b=>H b\/b=w.heap.size+1\/b=w.heap.size+2) W (sv h) (s.map (Value.int .i64)):=(hs.sub (fun b hb e=>by
  rcases e with e | e
  ·exact e
  ·omega)).lat (Lat.below g.bel)
 obtain ⟨x,e,hp⟩:=g.own.pv (fun b e=>by
  rcases e with e | e
  ·have:=hH b e;omega
  ·omega) hs2 f
 exact ⟨x,e,PV.sub (fun _ _ e => .inl e) (PV.lat (Lat.set3 (G:=w.heap.size+1) (.inr (.inl rfl)) a0 a1 a2) hp)⟩
theorem At3.push {W w':World}{B:Nat}{h x:Sl}{f:Int} (g:At3 W B 0 h x f) (hb:Below (B+3) W w') (u:Value):At3 (w'.setCell ⟨B+2,1,none⟩ u) B 0 h x f :=
 g.of fun j=>by
  rw [World.cell?_of_block (w:=w') (Below.heap_setCell _ _ _ _ (by show B≠B+2;omega))]
  exact hb.cell (p:=⟨B,j,none⟩) (by show B < B+3;omega)
theorem wpList_pushI' {ops:Array Oper}{rest:List Oper}{o:Oper}{a:Act}{Q:Exit->Act->World->Prop}{w:World} (hgd:o.guard=none) (s x:Operand)
  (ho:o.op= .call { callee := .builtin .append,args:=#[s,x],argTypes:=#[42,42]})
  (H:Nat->Prop) (B:Nat) (v:Value) (l:List RI) (hs:a.eval s=v) (hown:IOwn H w B v l) (q:I4) (A:RI) (hA:IV (fun b=>H b\/v.ownBlock=some b) w A q.k q.n q.c q.x)
  (G:Nat) (hG:G=w.heap.size) (hx:a.eval x= .slice (some ⟨G,0,none⟩) 1 1) (hl:l.length<=1048576) (hB:B<=w.heap.size)
  (k:∀ v' w',IOwn H w' B v' (l++[A])->(∀ w0,Below B w0 w->Below B w0 w')->Lat (fun b=>v.ownBlock=some b) w w'->(v'.ownBlock=v.ownBlock\/∃ g,v'.ownBlock=some g/\w.heap.size<=g)->wpList Tryz.prog ops Q rest (a.put o.dst v') w') :
  wpList Tryz.prog ops Q (o::rest) a (w.alloc (.cells #[.int .i64 q.k,.float .f64 q.n,.int .i32 q.c,sv q.x] 106)):=by
 subst hG
 exact wpList_pushI hgd s x ho H B v l hs hown q A hA hx hl hB k
def PlRh (H:Nat->Prop) (w:World) (h:Sl) (t:RP) (f:Int) (e:Ending) (w':World):Prop:=∃ x',e= .returned (plV h x' f)/\PV H w' t h x' f/\Below w.heap.size w w'
theorem PlRh.pl {H:Nat->Prop}{w:World}{h:Sl}{t:RP}{f:Int}{e:Ending}{w':World} (g:PlRh H w h t f e w'):PlR H w t f e w':=g.elim fun x' g=>⟨h,x',g⟩
theorem tdh_0 (H:Nat->Prop) (d:Nat) (s:List Int) (items:List RI) (h x:Sl) (w:World) (hH:∀ b,H b->b < w.heap.size) (hok:OkIs (d+1) 0 items) (hM:cntP (.mk s items 0)<=1048576) (hr:PV H w (.mk s items 0) h x 0) :
  Calls Tryz.prog 20 #[plV h x 0] w (PlRh H w h (.mk s (items.map fun t=>RI.mk 0 (tidF t.numOf) 0 []) 0) 0):=by
 obtain ⟨hsr,_,hx,hit⟩:=hr.open_
 obtain ⟨A,m,cc⟩:=x
 dsimp only at hx hit
 have hsz:cntP (.mk s items 0)=items.length+s.length+1+cntIs items:=by rw [cntP]
 rw [hsz] at hM
 obtain ⟨L,hL⟩:∃ L,L=(items.map fun t=>RI.mk 0 (tidF t.numOf) 0 []):=⟨_,rfl⟩
 have hLl:L.length=m:=by rw [hL];simp;exact hx.symm
 rw [<- hL]
 have HL:=Lib.hid hL
 have HLL:=Lib.hid hLl
 have HK:=Lib.hid hit
 have HMI:=Lib.hid hx
 have HSR:=Lib.hid hsr
 have hmb:m<=1048576:=by omega
 have HOKI:Hid (∀ i (hi:i < items.length),OkI (d+1) 0 items[i]):=fun i hi=>okIs_at hi hok
 have HCN:Hid (∀ i (hi:i < items.length),cntI items[i]<=1048576):=fun i hi=>by have:=cntIs_at hi;omega
 have HX0:=Lib.hid (at3_new w h (A,m,cc) 0 44)
 obtain ⟨w0,hw0⟩:∃ w0,w0=((w.alloc (.cells #[sv h,.slice A m cc,.int .i64 0] 44)).alloc (.cells #[.slice none 0 0,.slice none 0 0,.int .i64 0] 44)).alloc (.cells #[sv h,.slice none 0 0,.int .i64 0] 44):=⟨_,rfl⟩
 have HI0:Hid (TdI H w h 0 (L.take 0) (.slice none 0 0) w0/\At3 w0 w.heap.size 0 h (A,m,cc) 0):=by
  rw [hw0]
  have h2:=heap_alloc_new ((w.alloc (.cells #[sv h,.slice A m cc,.int .i64 0] 44)).alloc (.cells #[.slice none 0 0,.slice none 0 0,.int .i64 0] 44)) (.cells #[sv h,.slice none 0 0,.int .i64 0] 44)
  have h1:=block_up (bel1 ((w.alloc (.cells #[sv h,.slice A m cc,.int .i64 0] 44)).alloc (.cells #[.slice none 0 0,.slice none 0 0,.int .i64 0] 44)) (.cells #[sv h,.slice none 0 0,.int .i64 0] 44))
  have s1:(w.alloc (.cells #[sv h,.slice A m cc,.int .i64 0] 44)).heap.size=w.heap.size+1:=by simp
  have s2:((w.alloc (.cells #[sv h,.slice A m cc,.int .i64 0] 44)).alloc (.cells #[.slice none 0 0,.slice none 0 0,.int .i64 0] 44)).heap.size=w.heap.size+2:=by simp
  rw [s2] at h2
  rw [s1] at h1
  exact ⟨⟨IOwn.nil _ _ _,h2,h1,bel3 w _ _ _⟩,HX0.out.of fun _=>(bel2 _ _ _).cell HX0.out.lt⟩
 clear hx hsz hM hit hok hsr hr hL hLl
 go_enter Tryz.func20,Tryz.ntmps20
 obtain ⟨c0,c1,c2⟩:=HX0.out
 go_wp2
 rw [<- hw0]
 clear c0 c1 c2 hw0
 go_loopw [4,5] (fun iv _ wr=>∃ (i:Nat) (v:Value),i<=m/\iv= .int .i64 (i:Int)/\TdI H w h 0 (L.take i) v wr/\At3 wr w.heap.size 0 h (A,m,cc) 0) (fun iv _ _=>m - (intOf iv).toNat)
 case atStart=>exact ⟨0,_,Nat.zero_le _,rfl,HI0.out.1,HI0.out.2⟩
 case round =>
  obtain ⟨i,v,hi,rfl,hti,hat0⟩:=hrel
  have HTI:=Lib.hid hti
  have HA0:=Lib.hid hat0
  obtain ⟨c0,c1,c2⟩:=hat0
  clear hti
  obtain ⟨vA,vn,vc,hvn⟩:∃ A n c,v= .slice A n c:=by obtain ⟨a,c,e⟩:=HTI.out.own.len;exact ⟨a,_,c,e⟩
  subst hvn
  dsimp only [sv] at c1
  obtain ⟨⟨e0,e1,e2⟩,ez⟩:=block3 HTI.out.out
  by_cases him:i < m
  ·have him2:(i:Int) < (m:Int):=by omega
   have hik:i < items.length:=by have:=HMI.out;omega
   have hiL:i < L.length:=by have:=HLL.out;omega
   obtain ⟨b,o,k',n',c',y,rfl,-,hiv,hat⟩:=HK.out i hik
   have HTK:Hid (L.take (i+1)=L.take i++[L[i]]):=List.take_succ_eq_append_getElem hiL
   have HLI:Hid (L[i]=RI.mk 0 (tidF items[i].numOf) 0 []):=by unfold Hid;simp [HL.out]
   have HOI:=Lib.hid (HOKI.out i hik)
   have HCI:=Lib.hid (HCN.out i hik)
   have hlb:(L.take i).length<=1048576:=by rw [List.length_take];omega
   have HLB:=Lib.hid hlb
   clear hlb
   generalize items[i]=it at hiv HLI HOI HCI
   generalize L[i]=li at HTK HLI
   cases it with
   | mk kind num char box =>
   obtain ⟨rfl,rfl,rfl,hy,hbx⟩:=hiv.open_
   obtain ⟨yA,ym,yc⟩:=y
   dsimp only at hy hbx
   have HYL:=Lib.hid hy
   have HBX:=Lib.hid hbx
   obtain ⟨d0,d1,d2,d3⟩:=hat wr (Lat.below HTI.out.bel)
   dsimp only [sv] at d3
   have hst0:=fun md=>st_item wr 0 0 0 0 (.slice none 0 0) 106 md
   have hk0:=HOI.out
   rw [OkI] at hk0
   obtain ⟨rfl,hkn,hkb⟩:=hk0
   have g0:=fun o=>cell_box1 c0 o
   have g1:=fun o=>cell_box1 c1 o
   have e1':wr.cell? ⟨w.heap.size+1+1,1,none⟩=some (.slice vA vn vc):=e1
   have g2:=fun o=>cell_box1 e1' o
   have f0:=fun o=>cell_box1 d0 o
   have f1:=fun o=>cell_box1 d1 o
   have f2:=fun o=>cell_box1 d2 o
   have f3:=fun o=>cell_box1 d3 o
   clear hy hbx hat hiv
   obtain ⟨hok,hnum⟩:=hkn rfl
   have HTD:=Lib.hid (fun W=>tidy_any hnum hok W)
   have hst:=fun md=>st_item wr 0 0 (tidF n') 0 (.slice none 0 0) 106 md
   have HTW:=Lib.hid (HTI.out.step (bel1 wr (.cells #[.int .i64 0,.float .f64 (tidF n'),.int .i32 0,.slice none 0 0] 106)))
   have HAW:=Lib.hid (HA0.out.of fun j=>(bel1 wr (.cells #[.int .i64 0,.float .f64 (tidF n'),.int .i32 0,.slice none 0 0] 106)).cell (p:=⟨w.heap.size,j,none⟩) HA0.out.lt)
   have HAV:Hid (IV (fun b=>(H b\/b=w.heap.size+1\/b=w.heap.size+2)\/(Value.slice vA vn vc).ownBlock=some b) (wr.alloc (.cells #[.int .i64 0,.float .f64 (tidF n'),.int .i32 0,.slice none 0 0] 106)) li 0 (tidF n') 0 nilS):=by unfold Hid;rw [HLI.out];exact iv_none _ _ _ _ _ _ _
   have HGG:Hid (wr.heap.size+1=(wr.alloc (.cells #[.int .i64 0,.float .f64 (tidF n'),.int .i32 0,.slice none 0 0] 106)).heap.size):=by unfold Hid;simp
   have HSZ:Hid (w.heap.size+3<=(wr.alloc (.cells #[.int .i64 0,.float .f64 (tidF n'),.int .i32 0,.slice none 0 0] 106)).heap.size):=by unfold Hid;have:=HTI.out.sz;simp;omega
   clear hkn hkb hok hnum
   go_wp2_with fail
   refine (HTD.out _).mono ?_
   rintro e w2 ⟨rfl,rfl⟩
   go_wp2_with (at_builtin;refine wpList_pushI' rfl (.tmp 64) (.tmp 66) rfl (fun b=>H b\/b=w.heap.size+1\/b=w.heap.size+2) (w.heap.size+3) (.slice vA vn vc) (L.take i) rfl HTW.out.own ⟨0,tidF n',0,nilS⟩ li HAV.out (wr.heap.size+1) HGG.out rfl HLB.out HSZ.out ?_;intro v' w' hown' hbw hlat hat2;(obtain ⟨vA',vn',vc',hvn'⟩:∃ A n c,v'= .slice A n c:=by (obtain ⟨a,c,e⟩:=hown'.len;exact ⟨a,_,c,e⟩));subst hvn';have HBW:=Lib.hid (hbw _ (Below.refl _ _));have HP:=Lib.hid (HTW.out.push hH hown' HBW.out);have HA1:=Lib.hid (At3.push HAW.out HBW.out (.slice vA' vn' vc'));(obtain ⟨⟨q0,q1,q2⟩,qz⟩:=block3 (show w'.heap[w.heap.size+1+1]?=_ from (HBW.out.block _ (by omega)).trans HTW.out.out));clear hown' hbw hlat hat2)
   go_roundw
   case rel=>exact ⟨i+1,_,by omega,by go_num,by rw [HTK.out];exact HP.out,HA1.out⟩
   case measure=>simp [intOf];omega
  ·have hge:¬ (i:Int) < (m:Int):=by omega
   obtain rfl:i=m:=by omega
   have HTL:Hid (L.take i=L):=by unfold Hid;rw [<- HLL.out];exact List.take_length
   obtain ⟨x',hx',hpv⟩:=HTI.out.done hH HSR.out (sv h) (.slice vA vn vc) (.int .i64 0)
   obtain ⟨xA,xn,xc⟩:=x'
   have h9:Value.slice vA vn vc= .slice xA xn xc:=hx'
   injection h9 with h10 h11 h12
   subst h10;subst h11;subst h12
   rw [HTL.out] at hpv
   have HPV:=Lib.hid hpv
   obtain ⟨⟨z0,z1,z2⟩,zz⟩:=block3 HTI.out.res
   obtain ⟨⟨y0,y1,y2⟩,yz⟩:=block3 (show wr.heap[w.heap.size+1+1]?=_ from HTI.out.out)
   have HRB:=Lib.hid (set3_block HTI.out.res (sv h) (.slice vA vn vc) (.int .i64 0))
   have HBB:=Lib.hid (below_set3 HTI.out.bel (G:=w.heap.size+1) (by omega) (sv h) (.slice vA vn vc) (.int .i64 0))
   clear hpv hx'
   go_wp2
   refine bodyPost_ret (v:=plV h (vA,vn,vc) 0) ?_ rfl ⟨(vA,vn,vc),rfl,HPV.out,HBB.out⟩
   exact ret_plain (fn:=Tryz.f20) (p:=2) rfl _ _ (w.heap.size+1) (by rfl) HRB.out
theorem tdh_1 (H:Nat->Prop) (d:Nat) (s:List Int) (items:List RI) (h x:Sl) (w:World) (hH:∀ b,H b->b < w.heap.size) (hok:OkIs (d+1) 1 items) (hM:cntP (.mk s items 1)<=1048576) (hr:PV H w (.mk s items 1) h x 1) :
  Calls Tryz.prog 20 #[plV h x 1] w (PlRh H w h (.mk s (items.map fun t=>RI.mk 1 0 t.charOf []) 1) 1):=by
 obtain ⟨hsr,_,hx,hit⟩:=hr.open_
 obtain ⟨A,m,cc⟩:=x
 dsimp only at hx hit
 have hsz:cntP (.mk s items 1)=items.length+s.length+1+cntIs items:=by rw [cntP]
 rw [hsz] at hM
 obtain ⟨L,hL⟩:∃ L,L=(items.map fun t=>RI.mk 1 0 t.charOf []):=⟨_,rfl⟩
 have hLl:L.length=m:=by rw [hL];simp;exact hx.symm
 rw [<- hL]
 have HL:=Lib.hid hL
 have HLL:=Lib.hid hLl
 have HK:=Lib.hid hit
 have HMI:=Lib.hid hx
 have HSR:=Lib.hid hsr
 have hmb:m<=1048576:=by omega
 have HOKI:Hid (∀ i (hi:i < items.length),OkI (d+1) 1 items[i]):=fun i hi=>okIs_at hi hok
 have HCN:Hid (∀ i (hi:i < items.length),cntI items[i]<=1048576):=fun i hi=>by have:=cntIs_at hi;omega
 have HX0:=Lib.hid (at3_new w h (A,m,cc) 1 44)
 obtain ⟨w0,hw0⟩:∃ w0,w0=((w.alloc (.cells #[sv h,.slice A m cc,.int .i64 1] 44)).alloc (.cells #[.slice none 0 0,.slice none 0 0,.int .i64 0] 44)).alloc (.cells #[sv h,.slice none 0 0,.int .i64 1] 44):=⟨_,rfl⟩
 have HI0:Hid (TdI H w h 1 (L.take 0) (.slice none 0 0) w0/\At3 w0 w.heap.size 0 h (A,m,cc) 1):=by
  rw [hw0]
  have h2:=heap_alloc_new ((w.alloc (.cells #[sv h,.slice A m cc,.int .i64 1] 44)).alloc (.cells #[.slice none 0 0,.slice none 0 0,.int .i64 0] 44)) (.cells #[sv h,.slice none 0 0,.int .i64 1] 44)
  have h1:=block_up (bel1 ((w.alloc (.cells #[sv h,.slice A m cc,.int .i64 1] 44)).alloc (.cells #[.slice none 0 0,.slice none 0 0,.int .i64 0] 44)) (.cells #[sv h,.slice none 0 0,.int .i64 1] 44))
  have s1:(w.alloc (.cells #[sv h,.slice A m cc,.int .i64 1] 44)).heap.size=w.heap.size+1:=by simp
  have s2:((w.alloc (.cells #[sv h,.slice A m cc,.int .i64 1] 44)).alloc (.cells #[.slice none 0 0,.slice none 0 0,.int .i64 0] 44)).heap.size=w.heap.size+2:=by simp
  rw [s2] at h2
  rw [s1] at h1
  exact ⟨⟨IOwn.nil _ _ _,h2,h1,bel3 w _ _ _⟩,HX0.out.of fun _=>(bel2 _ _ _).cell HX0.out.lt⟩
 clear hx hsz hM hit hok hsr hr hL hLl
 go_enter Tryz.func20,Tryz.ntmps20
 obtain ⟨c0,c1,c2⟩:=HX0.out
 go_wp2
 rw [<- hw0]
 clear c0 c1 c2 hw0
 go_loopw [4,5] (fun iv _ wr=>∃ (i:Nat) (v:Value),i<=m/\iv= .int .i64 (i:Int)/\TdI H w h 1 (L.take i) v wr/\At3 wr w.heap.size 0 h (A,m,cc) 1) (fun iv _ _=>m - (intOf iv).toNat)
 case atStart=>exact ⟨0,_,Nat.zero_le _,rfl,HI0.out.1,HI0.out.2⟩
 case round =>
  obtain ⟨i,v,hi,rfl,hti,hat0⟩:=hrel
  have HTI:=Lib.hid hti
  have HA0:=Lib.hid hat0
  obtain ⟨c0,c1,c2⟩:=hat0
  clear hti
  obtain ⟨vA,vn,vc,hvn⟩:∃ A n c,v= .slice A n c:=by obtain ⟨a,c,e⟩:=HTI.out.own.len;exact ⟨a,_,c,e⟩
  subst hvn
  dsimp only [sv] at c1
  obtain ⟨⟨e0,e1,e2⟩,ez⟩:=block3 HTI.out.out
  by_cases him:i < m
  ·have him2:(i:Int) < (m:Int):=by omega
   have hik:i < items.length:=by have:=HMI.out;omega
   have hiL:i < L.length:=by have:=HLL.out;omega
   obtain ⟨b,o,k',n',c',y,rfl,-,hiv,hat⟩:=HK.out i hik
   have HTK:Hid (L.take (i+1)=L.take i++[L[i]]):=List.take_succ_eq_append_getElem hiL
   have HLI:Hid (L[i]=RI.mk 1 0 items[i].charOf []):=by unfold Hid;simp [HL.out]
   have HOI:=Lib.hid (HOKI.out i hik)
   have HCI:=Lib.hid (HCN.out i hik)
   have hlb:(L.take i).length<=1048576:=by rw [List.length_take];omega
   have HLB:=Lib.hid hlb
   clear hlb
   generalize items[i]=it at hiv HLI HOI HCI
   generalize L[i]=li at HTK HLI
   cases it with
   | mk kind num char box =>
   obtain ⟨rfl,rfl,rfl,hy,hbx⟩:=hiv.open_
   obtain ⟨yA,ym,yc⟩:=y
   dsimp only at hy hbx
   have HYL:=Lib.hid hy
   have HBX:=Lib.hid hbx
   obtain ⟨d0,d1,d2,d3⟩:=hat wr (Lat.below HTI.out.bel)
   dsimp only [sv] at d3
   have hst0:=fun md=>st_item wr 1 0 0 0 (.slice none 0 0) 106 md
   have hk0:=HOI.out
   rw [OkI] at hk0
   obtain ⟨rfl,hkn,hkb⟩:=hk0
   have g0:=fun o=>cell_box1 c0 o
   have g1:=fun o=>cell_box1 c1 o
   have e1':wr.cell? ⟨w.heap.size+1+1,1,none⟩=some (.slice vA vn vc):=e1
   have g2:=fun o=>cell_box1 e1' o
   have f0:=fun o=>cell_box1 d0 o
   have f1:=fun o=>cell_box1 d1 o
   have f2:=fun o=>cell_box1 d2 o
   have f3:=fun o=>cell_box1 d3 o
   clear hy hbx hat hiv
   have HTW:=Lib.hid (HTI.out.step (bel1 wr (.cells #[.int .i64 1,.float .f64 0,.int .i32 c',.slice none 0 0] 106)))
   have HAW:=Lib.hid (HA0.out.of fun j=>(bel1 wr (.cells #[.int .i64 1,.float .f64 0,.int .i32 c',.slice none 0 0] 106)).cell (p:=⟨w.heap.size,j,none⟩) HA0.out.lt)
   have HAV:Hid (IV (fun b=>(H b\/b=w.heap.size+1\/b=w.heap.size+2)\/(Value.slice vA vn vc).ownBlock=some b) (wr.alloc (.cells #[.int .i64 1,.float .f64 0,.int .i32 c',.slice none 0 0] 106)) li 1 0 c' nilS):=by unfold Hid;rw [HLI.out];exact iv_none _ _ _ _ _ _ _
   have HGG:Hid (wr.heap.size+1=(wr.alloc (.cells #[.int .i64 1,.float .f64 0,.int .i32 c',.slice none 0 0] 106)).heap.size):=by unfold Hid;simp
   have HSZ:Hid (w.heap.size+3<=(wr.alloc (.cells #[.int .i64 1,.float .f64 0,.int .i32 c',.slice none 0 0] 106)).heap.size):=by unfold Hid;have:=HTI.out.sz;simp;omega
   clear hkn hkb
   go_wp2_with (at_builtin;refine wpList_pushI' rfl (.tmp 64) (.tmp 66) rfl (fun b=>H b\/b=w.heap.size+1\/b=w.heap.size+2) (w.heap.size+3) (.slice vA vn vc) (L.take i) rfl HTW.out.own ⟨1,0,c',nilS⟩ li HAV.out (wr.heap.size+1) HGG.out rfl HLB.out HSZ.out ?_;intro v' w' hown' hbw hlat hat2;(obtain ⟨vA',vn',vc',hvn'⟩:∃ A n c,v'= .slice A n c:=by (obtain ⟨a,c,e⟩:=hown'.len;exact ⟨a,_,c,e⟩));subst hvn';have HBW:=Lib.hid (hbw _ (Below.refl _ _));have HP:=Lib.hid (HTW.out.push hH hown' HBW.out);have HA1:=Lib.hid (At3.push HAW.out HBW.out (.slice vA' vn' vc'));(obtain ⟨⟨q0,q1,q2⟩,qz⟩:=block3 (show w'.heap[w.heap.size+1+1]?=_ from (HBW.out.block _ (by omega)).trans HTW.out.out));clear hown' hbw hlat hat2)
   go_roundw
   case rel=>exact ⟨i+1,_,by omega,by go_num,by rw [HTK.out];exact HP.out,HA1.out⟩
   case measure=>simp [intOf];omega
  ·have hge:¬ (i:Int) < (m:Int):=by omega
   obtain rfl:i=m:=by omega
   have HTL:Hid (L.take i=L):=by unfold Hid;rw [<- HLL.out];exact List.take_length
   obtain ⟨x',hx',hpv⟩:=HTI.out.done hH HSR.out (sv h) (.slice vA vn vc) (.int .i64 1)
   obtain ⟨xA,xn,xc⟩:=x'
   have h9:Value.slice vA vn vc= .slice xA xn xc:=hx'
   injection h9 with h10 h11 h12
   subst h10;subst h11;subst h12
   rw [HTL.out] at hpv
   have HPV:=Lib.hid hpv
   obtain ⟨⟨z0,z1,z2⟩,zz⟩:=block3 HTI.out.res
   obtain ⟨⟨y0,y1,y2⟩,yz⟩:=block3 (show wr.heap[w.heap.size+1+1]?=_ from HTI.out.out)
   have HRB:=Lib.hid (set3_block HTI.out.res (sv h) (.slice vA vn vc) (.int .i64 1))
   have HBB:=Lib.hid (below_set3 HTI.out.bel (G:=w.heap.size+1) (by omega) (sv h) (.slice vA vn vc) (.int .i64 1))
   clear hpv hx'
   go_wp2
   refine bodyPost_ret (v:=plV h (vA,vn,vc) 1) ?_ rfl ⟨(vA,vn,vc),rfl,HPV.out,HBB.out⟩
   exact ret_plain (fn:=Tryz.f20) (p:=2) rfl _ _ (w.heap.size+1) (by rfl) HRB.out
theorem tdh_2 (H:Nat->Prop) (d:Nat) (hIH:∀ (H:Nat->Prop) (t:RP) (h x:Sl) (f:Int) (w:World),(∀ b,H b->b < w.heap.size)->OkP d t->cntP t<=1048576->PV H w t h x f->Calls Tryz.prog 20 #[plV h x f] w (PlR H w (rawP (clP t)) f)) (s:List Int) (items:List RI) (h x:Sl) (w:World) (hH:∀ b,H b->b < w.heap.size) (hok:OkIs (d+1) 2 items) (hM:cntP (.mk s items 2)<=1048576) (hr:PV H w (.mk s items 2) h x 2) :
  Calls Tryz.prog 20 #[plV h x 2] w (PlRh H w h (.mk s (rawBs (clIs items)) 2) 2):=by
 obtain ⟨hsr,_,hx,hit⟩:=hr.open_
 obtain ⟨A,m,cc⟩:=x
 dsimp only at hx hit
 have hsz:cntP (.mk s items 2)=items.length+s.length+1+cntIs items:=by rw [cntP]
 rw [hsz] at hM
 obtain ⟨L,hL⟩:∃ L,L=(rawBs (clIs items)):=⟨_,rfl⟩
 have hLl:L.length=m:=by rw [hL];simp [rawBs_len,clIs_len];exact hx.symm
 rw [<- hL]
 have HL:=Lib.hid hL
 have HLL:=Lib.hid hLl
 have HK:=Lib.hid hit
 have HMI:=Lib.hid hx
 have HSR:=Lib.hid hsr
 have hmb:m<=1048576:=by omega
 have HOKI:Hid (∀ i (hi:i < items.length),OkI (d+1) 2 items[i]):=fun i hi=>okIs_at hi hok
 have HCN:Hid (∀ i (hi:i < items.length),cntI items[i]<=1048576):=fun i hi=>by have:=cntIs_at hi;omega
 have HX0:=Lib.hid (at3_new w h (A,m,cc) 2 44)
 have HIH:=Lib.hid hIH
 clear hIH
 obtain ⟨w0,hw0⟩:∃ w0,w0=((w.alloc (.cells #[sv h,.slice A m cc,.int .i64 2] 44)).alloc (.cells #[.slice none 0 0,.slice none 0 0,.int .i64 0] 44)).alloc (.cells #[sv h,.slice none 0 0,.int .i64 2] 44):=⟨_,rfl⟩
 have HI0:Hid (TdI H w h 2 (L.take 0) (.slice none 0 0) w0/\At3 w0 w.heap.size 0 h (A,m,cc) 2):=by
  rw [hw0]
  have h2:=heap_alloc_new ((w.alloc (.cells #[sv h,.slice A m cc,.int .i64 2] 44)).alloc (.cells #[.slice none 0 0,.slice none 0 0,.int .i64 0] 44)) (.cells #[sv h,.slice none 0 0,.int .i64 2] 44)
  have h1:=block_up (bel1 ((w.alloc (.cells #[sv h,.slice A m cc,.int .i64 2] 44)).alloc (.cells #[.slice none 0 0,.slice none 0 0,.int .i64 0] 44)) (.cells #[sv h,.slice none 0 0,.int .i64 2] 44))
  have s1:(w.alloc (.cells #[sv h,.slice A m cc,.int .i64 2] 44)).heap.size=w.heap.size+1:=by simp
  have s2:((w.alloc (.cells #[sv h,.slice A m cc,.int .i64 2] 44)).alloc (.cells #[.slice none 0 0,.slice none 0 0,.int .i64 0] 44)).heap.size=w.heap.size+2:=by simp
  rw [s2] at h2
  rw [s1] at h1
  exact ⟨⟨IOwn.nil _ _ _,h2,h1,bel3 w _ _ _⟩,HX0.out.of fun _=>(bel2 _ _ _).cell HX0.out.lt⟩
 clear hx hsz hM hit hok hsr hr hL hLl
 go_enter Tryz.func20,Tryz.ntmps20
 obtain ⟨c0,c1,c2⟩:=HX0.out
 go_wp2
 rw [<- hw0]
 clear c0 c1 c2 hw0
 go_loopw [4,5] (fun iv _ wr=>∃ (i:Nat) (v:Value),i<=m/\iv= .int .i64 (i:Int)/\TdI H w h 2 (L.take i) v wr/\At3 wr w.heap.size 0 h (A,m,cc) 2) (fun iv _ _=>m - (intOf iv).toNat)
 case atStart=>exact ⟨0,_,Nat.zero_le _,rfl,HI0.out.1,HI0.out.2⟩
 case round =>
  obtain ⟨i,v,hi,rfl,hti,hat0⟩:=hrel
  have HTI:=Lib.hid hti
  have HA0:=Lib.hid hat0
  obtain ⟨c0,c1,c2⟩:=hat0
  clear hti
  obtain ⟨vA,vn,vc,hvn⟩:∃ A n c,v= .slice A n c:=by obtain ⟨a,c,e⟩:=HTI.out.own.len;exact ⟨a,_,c,e⟩
  subst hvn
  dsimp only [sv] at c1
  obtain ⟨⟨e0,e1,e2⟩,ez⟩:=block3 HTI.out.out
  by_cases him:i < m
  ·have him2:(i:Int) < (m:Int):=by omega
   have hik:i < items.length:=by have:=HMI.out;omega
   have hiL:i < L.length:=by have:=HLL.out;omega
   obtain ⟨b,o,k',n',c',y,rfl,-,hiv,hat⟩:=HK.out i hik
   have HTK:Hid (L.take (i+1)=L.take i++[L[i]]):=List.take_succ_eq_append_getElem hiL
   have HLI:Hid (L[i]=RI.mk 2 0 0 [rawP (clI items[i])]):=raw_at hik hiL HL.out
   have HOI:=Lib.hid (HOKI.out i hik)
   have HCI:=Lib.hid (HCN.out i hik)
   have hlb:(L.take i).length<=1048576:=by rw [List.length_take];omega
   have HLB:=Lib.hid hlb
   clear hlb
   generalize items[i]=it at hiv HLI HOI HCI
   generalize L[i]=li at HTK HLI
   cases it with
   | mk kind num char box =>
   obtain ⟨rfl,rfl,rfl,hy,hbx⟩:=hiv.open_
   obtain ⟨yA,ym,yc⟩:=y
   dsimp only at hy hbx
   have HYL:=Lib.hid hy
   have HBX:=Lib.hid hbx
   obtain ⟨d0,d1,d2,d3⟩:=hat wr (Lat.below HTI.out.bel)
   dsimp only [sv] at d3
   have hst0:=fun md=>st_item wr 2 0 0 0 (.slice none 0 0) 106 md
   have hk0:=HOI.out
   rw [OkI] at hk0
   obtain ⟨rfl,hkn,hkb⟩:=hk0
   have g0:=fun o=>cell_box1 c0 o
   have g1:=fun o=>cell_box1 c1 o
   have e1':wr.cell? ⟨w.heap.size+1+1,1,none⟩=some (.slice vA vn vc):=e1
   have g2:=fun o=>cell_box1 e1' o
   have f0:=fun o=>cell_box1 d0 o
   have f1:=fun o=>cell_box1 d1 o
   have f2:=fun o=>cell_box1 d2 o
   have f3:=fun o=>cell_box1 d3 o
   clear hy hbx hat hiv
   obtain ⟨hb1,hbo⟩:=hkb rfl
   have hb0:0 < box.length:=by omega
   obtain ⟨bb,o2,h',y',f',hyA,hnH,hpv,hat3⟩:=HBX.out 0 hb0
   subst hyA
   obtain rfl:ym=1:=by have:=HYL.out;omega
   have hop:=okPs_head hb0 hbo
   have hcl:clI (.mk 2 n' c' box)=clP box[0]:=clI_one hb0
   have hct:cntP box[0]<=1048576:=by have:=HCI.out;rw [cntI] at this;have:=cntPs_at hb0;omega
   rw [hcl] at HLI
   have HB1:=Lib.hid (bel_both HTI.out.bel (bel1 wr (.cells #[.int .i64 2,.float .f64 0,.int .i32 0,.slice none 0 0] 106)))
   obtain ⟨t0,t1,t2⟩:=hat3 _ (Lat.below HB1.out)
   simp only [Nat.zero_mul,Nat.add_zero] at t0 t1 t2
   have HIC:=Lib.hid (HIH.out (Hole H w (wr.alloc (.cells #[.int .i64 2,.float .f64 0,.int .i32 0,.slice none 0 0] 106))) box[0] h' y' f' (wr.alloc (.cells #[.int .i64 2,.float .f64 0,.int .i32 0,.slice none 0 0] 106)) (Hole.lt hH HB1.out) hop hct (hpv.arg HB1.out))
   unfold PlR at HIC
   clear hkn hkb hbo hpv hat3 hop hct hcl hb1 hnH
   generalize box[0]=zt at HIC HLI
   go_wp2_with fail
   refine HIC.out.mono ?_
   rintro e w2 ⟨h2,x2,rfl,hpv2,hb2⟩
   have hxb:=block_up hb2
   have HLT:=Lib.hid (lt_blk hxb)
   have hwl:wr.heap.size < w2.heap.size:=HLT.out
   have HBW2:=Lib.hid (bel_both (bel1 wr (.cells #[.int .i64 2,.float .f64 0,.int .i32 0,.slice none 0 0] 106)) hb2)
   have HBW3:=Lib.hid ((HBW2.out.setCell (p:=⟨wr.heap.size,3,none⟩) (Nat.le_refl _) (.slice (some ⟨w2.heap.size,0,none⟩) 1 1)))
   have hz3:(w2.setCell ⟨wr.heap.size,3,none⟩ (.slice (some ⟨w2.heap.size,0,none⟩) 1 1)).heap.size=w2.heap.size:=size_setCell' _ _ _
   have HZ3:=Lib.hid hz3
   have HBW4:=Lib.hid (HBW3.out.alloc HBW3.out.size (.cells #[sv h2,sv x2,.int .i64 f'] 44))
   have HTW:=Lib.hid (HTI.out.step HBW4.out)
   have HAW:=Lib.hid (HA0.out.of fun j=>HBW4.out.cell (p:=⟨w.heap.size,j,none⟩) HA0.out.lt)
   have hwsz:w.heap.size+3<=wr.heap.size:=by have:=HTI.out.sz;omega
   have HAV:Hid (IV (fun b=>(H b\/b=w.heap.size+1\/b=w.heap.size+2)\/(Value.slice vA vn vc).ownBlock=some b) ((w2.setCell ⟨wr.heap.size,3,none⟩ (.slice (some ⟨w2.heap.size,0,none⟩) 1 1)).alloc (.cells #[sv h2,sv x2,.int .i64 f'] 44)) li 2 0 0 (some ⟨w2.heap.size,0,none⟩,1,1)):=by
    unfold Hid
    rw [HLI.out]
    have hl1:Lat (Hole H w (wr.alloc (.cells #[.int .i64 2,.float .f64 0,.int .i32 0,.slice none 0 0] 106))) w2 ((w2.setCell ⟨wr.heap.size,3,none⟩ (.slice (some ⟨w2.heap.size,0,none⟩) 1 1)).alloc (.cells #[sv h2,sv x2,.int .i64 f'] 44)):=(Lat.set (a:=⟨wr.heap.size,3,none⟩) (.inr ⟨by show w.heap.size<=wr.heap.size;omega,by show wr.heap.size < _;simp⟩) _).trans (Lat.below (bel1 _ _))
    have hp1:=PV.lat hl1 hpv2
    have hnew:=at3_new (w2.setCell ⟨wr.heap.size,3,none⟩ (.slice (some ⟨w2.heap.size,0,none⟩) 1 1)) h2 x2 f' 44
    rw [HZ3.out] at hnew
    refine iv_box ?_ (PV.sub (fun b hb e=>?_) hp1) hnew
    ·rintro ((e | e) | e)
     ·have:=hH _ e;omega
     ·omega
     ·have:=(HTI.out.own.own_lt e).2;omega
    ·rcases e with (e | e) | e
     ·exact .inl e
     ·exact .inr ⟨by omega,by simp;omega⟩
     ·have h9:=HTI.out.own.own_lt e
      exact .inr ⟨by omega,by simp;omega⟩
   have HGG:Hid (w2.heap.size+1=((w2.setCell ⟨wr.heap.size,3,none⟩ (.slice (some ⟨w2.heap.size,0,none⟩) 1 1)).alloc (.cells #[sv h2,sv x2,.int .i64 f'] 44)).heap.size):=by unfold Hid;rw [show ((w2.setCell ⟨wr.heap.size,3,none⟩ (.slice (some ⟨w2.heap.size,0,none⟩) 1 1)).alloc (.cells #[sv h2,sv x2,.int .i64 f'] 44)).heap.size=(w2.setCell ⟨wr.heap.size,3,none⟩ (.slice (some ⟨w2.heap.size,0,none⟩) 1 1)).heap.size+1 by simp,HZ3.out]
   have HSZ:Hid (w.heap.size+3<=((w2.setCell ⟨wr.heap.size,3,none⟩ (.slice (some ⟨w2.heap.size,0,none⟩) 1 1)).alloc (.cells #[sv h2,sv x2,.int .i64 f'] 44)).heap.size):=by unfold Hid;rw [<- HGG.out];omega
   obtain ⟨xx,xz⟩:=block4 hxb
   obtain ⟨x0,x1,x2',x3⟩:=xx
   have u3:=fun o=>cell_box1 x3 o
   have uz:=fun o=>frozen_box x3 xz o
   have hxb3:(w2.setCell ⟨wr.heap.size,3,none⟩ (.slice (some ⟨w2.heap.size,0,none⟩) 1 1)).heap[wr.heap.size]?=some (.cells #[.int .i64 2,.float .f64 0,.int .i32 0,(.slice (some ⟨w2.heap.size,0,none⟩) 1 1)] 106):=heap_setCell_same _ wr.heap.size 3 _ _ (.slice (some ⟨w2.heap.size,0,none⟩) 1 1) hxb
   obtain ⟨⟨v0,v1,v2,v3⟩,vz⟩:=block4 hxb3
   have r0:=fun o=>cell_box1 v0 o
   have r1:=fun o=>cell_box1 v1 o
   have r2:=fun o=>cell_box1 v2 o
   have r3:=fun o=>cell_box1 v3 o
   have g2b:(w2.setCell ⟨wr.heap.size,3,none⟩ (.slice (some ⟨w2.heap.size,0,none⟩) 1 1)).cell? ⟨w.heap.size+1+1,1,none⟩=some (.slice vA vn vc):=by rw [HBW3.out.cell (cell_lt e1')];exact e1'
   have g2c:=fun o=>cell_box1 g2b o
   clear hpv2 hb2 hxb hxb3 HIC
   go_wp2_with (at_builtin;refine wpList_pushI' rfl (.tmp 64) (.tmp 66) rfl (fun b=>H b\/b=w.heap.size+1\/b=w.heap.size+2) (w.heap.size+3) (.slice vA vn vc) (L.take i) rfl HTW.out.own ⟨2,0,0,(some ⟨w2.heap.size,0,none⟩,1,1)⟩ li HAV.out (w2.heap.size+1) HGG.out rfl HLB.out HSZ.out ?_;intro v' w' hown' hbw hlat hat2;(obtain ⟨vA',vn',vc',hvn'⟩:∃ A n c,v'= .slice A n c:=by (obtain ⟨a,c,e⟩:=hown'.len;exact ⟨a,_,c,e⟩));subst hvn';have HBW:=Lib.hid (hbw _ (Below.refl _ _));have HP:=Lib.hid (HTW.out.push hH hown' HBW.out);have HA1:=Lib.hid (At3.push HAW.out HBW.out (.slice vA' vn' vc'));(obtain ⟨⟨q0,q1,q2⟩,qz⟩:=block3 (show w'.heap[w.heap.size+1+1]?=_ from (HBW.out.block _ (by omega)).trans HTW.out.out));clear hown' hbw hlat hat2)
   go_roundw
   case rel=>exact ⟨i+1,_,by omega,by go_num,by rw [HTK.out];exact HP.out,HA1.out⟩
   case measure=>simp [intOf];omega
  ·have hge:¬ (i:Int) < (m:Int):=by omega
   obtain rfl:i=m:=by omega
   have HTL:Hid (L.take i=L):=by unfold Hid;rw [<- HLL.out];exact List.take_length
   obtain ⟨x',hx',hpv⟩:=HTI.out.done hH HSR.out (sv h) (.slice vA vn vc) (.int .i64 2)
   obtain ⟨xA,xn,xc⟩:=x'
   have h9:Value.slice vA vn vc= .slice xA xn xc:=hx'
   injection h9 with h10 h11 h12
   subst h10;subst h11;subst h12
   rw [HTL.out] at hpv
   have HPV:=Lib.hid hpv
   obtain ⟨⟨z0,z1,z2⟩,zz⟩:=block3 HTI.out.res
   obtain ⟨⟨y0,y1,y2⟩,yz⟩:=block3 (show wr.heap[w.heap.size+1+1]?=_ from HTI.out.out)
   have HRB:=Lib.hid (set3_block HTI.out.res (sv h) (.slice vA vn vc) (.int .i64 2))
   have HBB:=Lib.hid (below_set3 HTI.out.bel (G:=w.heap.size+1) (by omega) (sv h) (.slice vA vn vc) (.int .i64 2))
   clear hpv hx'
   go_wp2
   refine bodyPost_ret (v:=plV h (vA,vn,vc) 2) ?_ rfl ⟨(vA,vn,vc),rfl,HPV.out,HBB.out⟩
   exact ret_plain (fn:=Tryz.f20) (p:=2) rfl _ _ (w.heap.size+1) (by rfl) HRB.out
theorem td_0 (H:Nat->Prop) (d:Nat) (s:List Int) (items:List RI) (h x:Sl) (w:World) (hH:∀ b,H b->b < w.heap.size) (hok:OkIs (d+1) 0 items) (hM:cntP (.mk s items 0)<=1048576) (hr:PV H w (.mk s items 0) h x 0) :
  Calls Tryz.prog 20 #[plV h x 0] w (PlR H w (.mk s (items.map fun t=>RI.mk 0 (tidF t.numOf) 0 []) 0) 0):=(tdh_0 H d s items h x w hH hok hM hr).mono fun _ _ g=>g.pl
theorem td_1 (H:Nat->Prop) (d:Nat) (s:List Int) (items:List RI) (h x:Sl) (w:World) (hH:∀ b,H b->b < w.heap.size) (hok:OkIs (d+1) 1 items) (hM:cntP (.mk s items 1)<=1048576) (hr:PV H w (.mk s items 1) h x 1) :
  Calls Tryz.prog 20 #[plV h x 1] w (PlR H w (.mk s (items.map fun t=>RI.mk 1 0 t.charOf []) 1) 1):=(tdh_1 H d s items h x w hH hok hM hr).mono fun _ _ g=>g.pl
theorem td_2 (H:Nat->Prop) (d:Nat) (hIH:∀ (H:Nat->Prop) (t:RP) (h x:Sl) (f:Int) (w:World),(∀ b,H b->b < w.heap.size)->OkP d t->cntP t<=1048576->PV H w t h x f->Calls Tryz.prog 20 #[plV h x f] w (PlR H w (rawP (clP t)) f)) (s:List Int) (items:List RI) (h x:Sl) (w:World) (hH:∀ b,H b->b < w.heap.size) (hok:OkIs (d+1) 2 items) (hM:cntP (.mk s items 2)<=1048576) (hr:PV H w (.mk s items 2) h x 2) :
  Calls Tryz.prog 20 #[plV h x 2] w (PlR H w (.mk s (rawBs (clIs items)) 2) 2):=(tdh_2 H d hIH s items h x w hH hok hM hr).mono fun _ _ g=>g.pl
end Go.Proofs.YtbakjaliponbbaaGreatDoor
