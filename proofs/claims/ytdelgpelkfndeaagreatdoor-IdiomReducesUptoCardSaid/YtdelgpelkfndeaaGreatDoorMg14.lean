/- The walk of value.Plain of any good .. Conditions: as each theorem says. -/
import Derived.Test.YtdelgpelkfndeaaGreatDoorMgA
import Derived.Test.YtdelgpelkfndeaaGreatDoorMg12
import Derived.Test.YtdelgpelkfndeaaGreatDoorMg09
import Derived.Test.YtdelgpelkfndeaaGreatDoorMg11
set_option maxRecDepth 100000
set_option maxHeartbeats 2000000
namespace Go.Proofs.YtdelgpelkfndeaaGreatDoor
open Go Go.RowKit Go.Proofs Fl
theorem Keeps.up {K J:Nat->Prop}{w1 w3:World}{R:World->Prop} (g:Keeps K w1 R) (k:Lat K w1 w3) (hs:∀ b,b < w1.heap.size->J b->K b):Keeps J w3 R :=
 fun W hz hb=>g W (Nat.le_trans k.size hz) fun b hl hn=>by rw [hb b (Nat.lt_of_lt_of_le hl k.size) (fun e=>hn (hs b hl e)),k.block b hl hn]
theorem Lat.setU {K:Nat->Prop}{w1 w2:World} (h:Lat K w1 w2){a:Addr} (hz:K a.block\/w1.heap.size<=a.block) (u:Value):Lat K w1 (w2.setCell a u) :=
 ⟨by rw [QaP];exact h.size,fun b hb hn=>by
  rw [Below.heap_setCell _ _ _ _ (fun e=>by
   rcases hz with hz | hz
   ·exact hn (by rw [e];exact hz)
   ·omega)]
  exact h.block b hb hn⟩
theorem QhU {K:Nat->Prop}{w1 w2:World} (h:Lat K w1 w2){G:Nat} (hz:K G\/w1.heap.size<=G) (a0 a1 a2:Value):Lat K w1 (set3 w2 G a0 a1 a2):=((h.setU (a:=⟨G,0,none⟩) hz _).setU (a:=⟨G,1,none⟩) hz _).setU (a:=⟨G,2,none⟩) hz _
structure LdA (w0:World) (G:Nat) (h:Sl) (p:V8) (W:World):Prop where
 box:At9 W G 0 h p
 bel:Below w0.heap.size w0 W
 old:G < w0.heap.size
theorem LdA.new {w0:World}{G:Nat}{h:Sl}{p:V8} (g:At9 w0 G 0 h p):LdA w0 G h p w0:=⟨g,Below.refl _ _,g.lt⟩
theorem LdA.step {w0 W W':World}{G:Nat}{h:Sl}{p:V8} (g:LdA w0 G h p W) (hb:Below W.heap.size W W'):LdA w0 G h p W':=⟨g.box.below hb,Qaa g.bel hb,g.old⟩
theorem LdA.al {w0 W:World}{G:Nat}{h:Sl}{p:V8} (g:LdA w0 G h p W) (o:Obj):LdA w0 G h p (W.alloc o):=g.step (bel1 W o)
theorem LdA.dr {w0 W:World}{G:Nat}{h:Sl}{p:V8} (g:LdA w0 G h p W):LdA w0 G h p W.drew:=g.step (Below.refl _ W).drew
theorem LdA.put {w0 W:World}{G:Nat}{h:Sl}{p:V8} (g:LdA w0 G h p W){b j:Nat} (ha:w0.heap.size<=b) (u:Value):LdA w0 G h p (W.setCell ⟨b,j,none⟩ u) :=
 ⟨g.box.set (by show b≠_;have:=g.old;omega) u,g.bel.setCell (by show _<=b;omega) u,g.old⟩
theorem LdA.put3 {w0 W:World}{G:Nat}{h:Sl}{p:V8} (g:LdA w0 G h p W){b:Nat} (ha:w0.heap.size<=b) (a0 a1 a2:Value):LdA w0 G h p (set3 W b a0 a1 a2):=((g.put ha _).put ha _).put ha _
theorem LdA.self {w0 W:World}{G:Nat}{h:Sl}{p:V8} (g:LdA w0 G h p W):LdA w0 G h p W:=g
theorem LdA.sz {w0 W:World}{G:Nat}{h:Sl}{p:V8} (g:LdA w0 G h p W):w0.heap.size<=W.heap.size:=g.bel.size
theorem QpC {w0 W:World}{G:Nat}{h:Sl}{p:V8} (g:LdA w0 G h p W):(W.cell? ⟨G,0,none⟩=some (.slice h.1 h.2.1 h.2.2)/\W.cell? ⟨G,1,none⟩=some (.int .i64 p.k)/\W.cell? ⟨G,2,none⟩=some (.slice p.b.1 p.b.2.1 p.b.2.2)/\W.cell? ⟨G,3,none⟩=some (.int .i64 p.bn) /\
  W.cell? ⟨G,4,none⟩=some (.slice p.s.1 p.s.2.1 p.s.2.2)/\W.cell? ⟨G,5,none⟩=some (.slice p.i.1 p.i.2.1 p.i.2.2)/\W.cell? ⟨G,6,none⟩=some (.slice p.f.1 p.f.2.1 p.f.2.2)/\W.cell? ⟨G,7,none⟩=some (.slice p.c.1 p.c.2.1 p.c.2.2)/\W.cell? ⟨G,8,none⟩=some (.slice p.x.1 p.x.2.1 p.x.2.2))/\LdA w0 G h p W:=⟨g.box.c,g⟩
def ClR (H:Nat->Prop) (w0 W:World) (s:List Nat) (e:Ending) (w':World):Prop:=∃ A n c,e= .returned (.slice A n c)/\ShV (Hole H w0 W) w' (A,n,c) s/\Below W.heap.size W w'
def Qk2 (H:Nat->Prop) (w0:World) (B:Nat) (h:Sl) (p:V8) (s:List Nat) (f:Int) (v:Value) (wx:World):Prop :=
 ∃ (G:Nat) (cl:Sl),v= .pointer (some ⟨G,0,none⟩)/\w0.heap.size<=G/\wx.heap[G]?=some (.cells #[sv cl,vnil,.int .i64 f] 25)/\ShV (fun b=>H b\/b=G) wx cl s/\LdA w0 B h p wx
abbrev Qa4:Array Value:=#[.slice none 0 0,.slice none 0 0,.int .i64 0]
theorem Qfo {H:Nat->Prop}{w0 X w1 w2:World}{B:Nat}{h:Sl}{p:V8}{s:List Nat}{f:Int}{cl:Sl} (hcl:ShV (Hole H w0 X) w1 cl s) (hb2:Below w1.heap.size w1 w2) (hs:LdA w0 B h p w2) :
  Qk2 H w0 B h p s f (.pointer (some ⟨w2.heap.size,0,none⟩)) (w2.alloc (.cells #[sv cl,vnil,.int .i64 f] 25)) :=
 ⟨w2.heap.size,cl,rfl,hs.sz,heap_alloc_new w2 _,Keeps.up hcl ((Lat.below hb2).trans (Lat.below (bel1 w2 _))) (fun b hl e=>by
  rcases e with e | e
  ·exact .inl e
  ·have:=hb2.size;omega),hs.al _⟩
theorem Qcn {H:Nat->Prop}{w0 X w1 w2:World}{B Z:Nat}{h:Sl}{p:V8}{s:List Nat}{f:Int}{cl:Sl} (hZ:w0.heap.size<=Z) (hZX:Z < X.heap.size) (hX:X.heap[Z]?=some (.cells Qa4 25)) (hb1:Below X.heap.size X w1) (hcl:ShV (Hole H w0 X) w1 cl s) (hb2:Below w1.heap.size w1 w2) (hs:LdA w0 B h p w2) :
  Qk2 H w0 B h p s f (.pointer (some ⟨Z,0,none⟩)) (set3 w2 Z (sv cl) vnil (.int .i64 f)) :=
 ⟨Z,cl,rfl,hZ,Qae (by rw [hb2.block _ (Nat.lt_of_lt_of_le hZX hb1.size),hb1.block _ hZX];exact hX) _ _ _,Keeps.up hcl (QhU (Lat.below hb2) (.inl (.inr ⟨hZ,hZX⟩)) _ _ _) (fun b hl e=>by
  rcases e with e | e
  ·exact .inl e
  ·exact .inr ⟨by omega,by omega⟩),hs.put3 hZ _ _ _⟩
theorem Qco {H:Nat->Prop}{w0 X Y w1 w2:World}{B Z:Nat}{h:Sl}{p:V8}{s:List Nat}{f:Int}{cl:Sl} (hZ:w0.heap.size<=Z) (hZ1:w1.heap.size<=Z) (hb1:Below w1.heap.size w1 Y) (hZY:Z < Y.heap.size) (hY:Y.heap[Z]?=some (.cells Qa4 25)) (hcl:ShV (Hole H w0 X) w1 cl s) (hb2:Below Y.heap.size Y w2) (hs:LdA w0 B h p w2) :
  Qk2 H w0 B h p s f (.pointer (some ⟨Z,0,none⟩)) (set3 w2 Z (sv cl) vnil (.int .i64 f)) :=
 ⟨Z,cl,rfl,hZ,Qae (by rw [hb2.block _ hZY];exact hY) _ _ _,Keeps.up hcl (QhU ((Lat.below hb1).trans (Lat.below hb2)) (.inr hZ1) _ _ _) (fun b hl e=>by
  rcases e with e | e
  ·exact .inl e
  ·omega),hs.put3 hZ _ _ _⟩
theorem Qef {w0:World}{o:Obj}:(w0.alloc o).drew.heap[w0.heap.size]?=some o:=heap_alloc_new w0 o
theorem QgY (w1:World) (o:Obj):Below w1.heap.size w1 (w1.alloc o).drew:=(bel1 w1 o).drew
theorem Lat.wide {K H:Nat->Prop}{w w':World} (h:Lat K w w') (hs:∀ b,K b->H b):Lat H w w':=⟨h.size,fun b hb hn=>h.block b hb fun e=>hn (hs b e)⟩
structure VpI (H:Nat->Prop) (w U:World) (G:Nat) (h:Sl) (p:V8) (cl:Sl) (f:Int) (l:List RI) (v:Value) (W:World):Prop where
 own:IOwn (fun b=>H b\/b=w.heap.size+1\/b=G) W U.heap.size v l
 out:W.heap[G]?=some (.cells #[sv cl,v,.int .i64 f] 25)
 res:W.heap[w.heap.size+1]?=some (.cells Qa4 25)
 box:At9 W w.heap.size 0 h p
 bel:Below w.heap.size w W
 lat:Lat (fun b=>b=G) U W
 big:w.heap.size+2<=G
 old:G < U.heap.size
theorem VpI.step {H:Nat->Prop}{w U W W':World}{G:Nat}{h:Sl}{p:V8}{cl:Sl}{f:Int}{l:List RI}{v:Value} (g:VpI H w U G h p cl f l v W) (hb:Below W.heap.size W W'):VpI H w U G h p cl f l v W' :=
 ⟨g.own.below hb,by rw [hb.block _ (lt_blk g.out)];exact g.out,by rw [hb.block _ (lt_blk g.res)];exact g.res,g.box.below hb,Qaa g.bel hb,g.lat.trans (Lat.below hb),g.big,g.old⟩
theorem VpI.sz {H:Nat->Prop}{w U W:World}{G:Nat}{h:Sl}{p:V8}{cl:Sl}{f:Int}{l:List RI}{v:Value} (g:VpI H w U G h p cl f l v W):U.heap.size<=W.heap.size:=g.lat.size
theorem VpI.push {H:Nat->Prop}{w U W w':World}{G:Nat}{h:Sl}{p:V8}{cl:Sl}{f:Int}{l:List RI}{v v':Value}{A:RI} (g:VpI H w U G h p cl f l v W) (hH:∀ b,H b->b < w.heap.size) (hown:IOwn (fun b=>H b\/b=w.heap.size+1\/b=G) w' U.heap.size v' (l++[A])) (hb:Below U.heap.size W w') :
  VpI H w U G h p cl f (l++[A]) v' (w'.setCell ⟨G,1,none⟩ v'):=by
 have hbig:=g.big
 have hold:=g.old
 have e2:w'.heap[G]?=some (.cells #[sv cl,v,.int .i64 f] 25):=by rw [hb.block _ (by omega)];exact g.out
 have e1:w'.heap[w.heap.size+1]?=some (.cells Qa4 25):=by rw [hb.block _ (by omega)];exact g.res
 have l1:Lat (fun b=>b=G) U w':=⟨Nat.le_trans g.lat.size hb.size,fun b hl hn=>by rw [hb.block b hl,g.lat.block b hl hn]⟩
 refine ⟨hown.lat (Lat.set (a:=⟨G,1,none⟩) (.inr (.inr rfl)) v') (fun b e h2=>by
  have:=(hown.own_lt e).1
  rcases h2 with h2 | h2
  ·have:=hH b h2;omega
  ·omega),?_,?_,?_,(g.bel.trans (hb.mono (by omega))).setCell (by show _<=G;omega) _,l1.setU (.inl rfl) _,hbig,hold⟩
 ·have h1:=heap_setCell_same _ G 1 _ _ v' e2
  rw [show (#[sv cl,v,.int .i64 f]:Array Value).setIfInBounds 1 v'=#[sv cl,v',.int .i64 f] by simp] at h1
  exact h1
 ·rw [Below.heap_setCell _ _ _ _ (by show w.heap.size+1≠G;omega)]
  exact e1
 ·exact (g.box.of fun j=>hb.cell (p:=⟨w.heap.size,j,none⟩) (by show w.heap.size < _;omega)).set (by show G≠_;omega) _
theorem Qk3 {H:Nat->Prop}{w:World}{h:Sl}{s:List Nat} (g:ShV H w h s):RdH H w (sv h) ((s.map Int.ofNat).map (Value.int .i64)):=by
 rw [List.map_map]
 exact g
theorem VpI.done {H:Nat->Prop}{w U W:World}{G:Nat}{h:Sl}{p:V8}{cl:Sl}{f:Int}{s:List Nat}{l:List RI}{v:Value} (g:VpI H w U G h p cl f l v W) (hH:∀ b,H b->b < w.heap.size) (hs:ShV (fun b=>H b\/b=w.heap.size+1\/b=G) U cl s) (a0 a1 a2:Value) :
  ∃ x:Sl,v=sv x/\PV H (set3 W (w.heap.size+1) a0 a1 a2) (.mk (s.map Int.ofNat) l f) cl x f:=by
 have hbig:=g.big
 have hold:=g.old
 obtain ⟨x,e,hp⟩:=g.own.pv (fun b e=>by
  rcases e with e | e
  ·have:=hH b e;omega
  ·omega) (Qk3 (Keeps.lat hs (g.lat.wide fun b e => .inr (.inr e)))) f
 exact ⟨x,e,PV.sub (fun _ _ e => .inl e) (PV.lat (Lat.set3 (G:=w.heap.size+1) (.inr (.inl rfl)) a0 a1 a2) hp)⟩
theorem Qfp {H:Nat->Prop}{w w0:World}{a:PA}{h:Sl}{p:V8} (hav:AV H w a h p) (hs:a.shape.length<=1048576) (hH:∀ b,H b->b < w.heap.size) (hb0:Below w.heap.size w w0) (hz:w0.heap.size=w.heap.size+2) :
  (∀ W,LdA w0 w.heap.size h p W->Calls Tryz.prog 107 #[sv h] W (ClR (fun b=>H b\/b=w.heap.size+1) w0 W a.shape)) /\
  (∀ W,LdA w0 w.heap.size h p W->Calls Tryz.prog 44 #[p.v] W fun e w'=>e= .returned (.int .i64 (a.fill:Nat))/\Below W.heap.size W w'):=by
 refine ⟨fun W hW=>?_,fun W hW=>QaC hav W (Qaa hb0 hW.bel)⟩
 have h1:ShV (fun b=>H b\/b=w.heap.size+1) w0 h a.shape:=(Keeps.sub hav.shape (H':=fun b=>H b\/b=w.heap.size+1) (fun b hb e=>by
  rcases e with e | e
  ·exact e
  ·omega)).lat (Lat.below hb0)
 exact QeK (Keeps.arg h1 hW.bel) hs (Hole.lt (fun b e=>by
  rcases e with e | e
  ·have:=hH b e;omega
  ·omega) hW.bel)
theorem Qub (H:Nat->Prop) (s:List Nat) (l:List Nat) (h:Sl) (p:V8) (w:World) (hH:∀ b,H b->b < w.heap.size) (hl:l.length<=1000000) (hs:s.length<=1048576) (hav:AV H w (.nums s l) h p) :
  Calls Tryz.prog 56 #[arrV h p] w (PlR H w (rawP (.nums s l)) 0):=by
 have hraw:rawP (.nums s l)= .mk (s.map Int.ofNat) (l.map fun x=>RI.mk 0 x 0 []) 0:=by rw [rawP]
 rw [hraw]
 obtain ⟨m,hm⟩:∃ m,m=l.length:=⟨_,rfl⟩
 obtain ⟨L,hL⟩:∃ L,L=(l.map fun x=>RI.mk 0 x 0 []):=⟨_,rfl⟩
 have hLl:L.length=m:=by rw [hL,hm];simp
 rw [<- hL]
 obtain ⟨w0,hw0⟩:∃ w0,w0=(w.alloc (arrO h p)).alloc (.cells Qa4 25):=⟨_,rfl⟩
 have hb0:Below w.heap.size w w0:=by rw [hw0];exact bel2 _ _ _
 have hsz:w0.heap.size=w.heap.size+2:=by rw [hw0];simp
 have h9:At9 w0 w.heap.size 0 h p:=by rw [hw0];exact (QaV w h p).below (bel1 _ _)
 have hres:w0.heap[w.heap.size+1]?=some (.cells Qa4 25):=by
  rw [hw0]
  have h1:=heap_alloc_new (w.alloc (arrO h p)) (.cells Qa4 25)
  simpa using h1
 obtain ⟨hcl,hcs⟩:=Qfp hav hs hH hb0 hsz
 have HCL:Hid (∀ W,LdA w0 w.heap.size h p W->Calls Tryz.prog 107 #[sv h] W (ClR (fun b=>H b\/b=w.heap.size+1) w0 W s)):=hcl
 have HCS:Hid (∀ W,LdA w0 w.heap.size h p W->Calls Tryz.prog 44 #[p.v] W fun e w'=>e= .returned (.int .i64 0)/\Below W.heap.size W w'):=hcs
 have HLN:=hD (fun W (hb:Below w.heap.size w W)=>Qbj hav W hb)
 have HLI:Hid (∀ i (hi:i < L.length) (h2:i < l.length),L[i]=RI.mk 0 (l.getD i 0) 0 []):=by
  intro i hi h2
  subst hL
  simp [List.getD,h2]
 have HE:=hD (fun W (hb:Below w.heap.size w W) i (hi:i < l.length)=>Qj7 hav W hb i hi)
 have HAVV:=hD hav
 have HW0:=hD hw0
 have HB0:=hD hb0
 have HRES:=hD hres
 have HLL:=hD hLl
 have HM:=hD hm
 have HSZ0:=hD hsz
 have hmb:m<=1000000:=by omega
 have HS0:=hD (LdA.new h9)
 have hz0:w.heap.size+2<=w0.heap.size:=by omega
 clear hraw hw0 hb0 hres hLl hL hcl hcs hav hl hs hsz h9
 go_enter Tryz.func56,Tryz.ntmps56
 go_wp2_with fail
 rw [<- HW0.out]
 go_cut [3] from 6 (fun v wx=>Qk2 (fun b=>H b\/b=w.heap.size+1) w0 w.heap.size h p s 0 v wx)
 case first =>
  have hs0:=HS0.out.dr
  have hs00:=HS0.out
  go_region_held3 (fun W=>(W.cell? ⟨w.heap.size,0,none⟩=some (.slice h.1 h.2.1 h.2.2)/\W.cell? ⟨w.heap.size,1,none⟩=some (.int .i64 p.k)/\W.cell? ⟨w.heap.size,2,none⟩=some (.slice p.b.1 p.b.2.1 p.b.2.2)/\W.cell? ⟨w.heap.size,3,none⟩=some (.int .i64 p.bn)/\W.cell? ⟨w.heap.size,4,none⟩=some (.slice p.s.1 p.s.2.1 p.s.2.2)/\W.cell? ⟨w.heap.size,5,none⟩=some (.slice p.i.1 p.i.2.1 p.i.2.2)/\W.cell? ⟨w.heap.size,6,none⟩=some (.slice p.f.1 p.f.2.1 p.f.2.2)/\W.cell? ⟨w.heap.size,7,none⟩=some (.slice p.c.1 p.c.2.1 p.c.2.2)/\W.cell? ⟨w.heap.size,8,none⟩=some (.slice p.x.1 p.x.2.1 p.x.2.2))/\LdA w0 w.heap.size h p W)
   (first | with_reducible assumption | (with_reducible (refine QpC ?_);repeat (first | with_reducible assumption | with_reducible refine LdA.dr ?_ | (with_reducible refine LdA.put ?_ (by first | assumption | omega | (simp;omega)) _) | with_reducible refine LdA.al ?_ _)))
   (first
    | (go_at_call 107;(with_reducible refine (HCL.out _ ?_).mono ?_);exact LdA.self (by repeat (first | with_reducible assumption | with_reducible refine LdA.dr ?_ | (with_reducible refine LdA.put ?_ (by first | assumption | omega | (simp;omega)) _) | with_reducible refine LdA.al ?_ _));rintro e w1 ⟨cA,cn,cc,rfl,hcl,hb1⟩;obtain ⟨hc1,hf1⟩:=bcell2 hb1;have hz1:=hb1.size;have hst1:LdA w0 w.heap.size h p w1:=LdA.step (by repeat (first | with_reducible assumption | with_reducible refine LdA.dr ?_ | (with_reducible refine LdA.put ?_ (by first | assumption | omega | (simp;omega)) _) | with_reducible refine LdA.al ?_ _)) hb1;have hs1z:=hst1.sz;(first | (have hsq:w0.heap.size < w1.heap.size:=Nat.lt_of_lt_of_le (Qa5 _ _) hz1) | (have hsq:w0.heap.size < w1.heap.size:=Nat.lt_of_lt_of_le (Qa6 _ _) hz1) | skip);have HB1:=hD hb1;have HCC:=hD hcl;clear hb1 hcl)
    | (go_at_call 44;(with_reducible refine (HCS.out _ ?_).mono ?_);exact LdA.self (by repeat (first | with_reducible assumption | with_reducible refine LdA.dr ?_ | (with_reducible refine LdA.put ?_ (by first | assumption | omega | (simp;omega)) _) | with_reducible refine LdA.al ?_ _));rintro e w2 ⟨rfl,hb2⟩;obtain ⟨hc2,hf2⟩:=bcell2 hb2;have hz2:=hb2.size;have hst2:LdA w0 w.heap.size h p w2:=LdA.step (by repeat (first | with_reducible assumption | with_reducible refine LdA.dr ?_ | (with_reducible refine LdA.put ?_ (by first | assumption | omega | (simp;omega)) _) | with_reducible refine LdA.al ?_ _)) hb2;have hs2z:=hst2.sz;have HB2:=hD hb2;clear hb2))
  all_goals
   go_wp2
   go_meet
   first
    | with_reducible exact Qfo HCC.out HB2.out hst2
    | (with_reducible exact Qcn (Nat.le_refl _) (Qa5 _ _) (heap_alloc_new _ _) HB1.out HCC.out HB2.out hst2)
    | (with_reducible exact Qcn (Nat.le_refl _) (Qa6 _ _) Qef HB1.out HCC.out HB2.out hst2)
    | (with_reducible exact Qco (LdA.sz hst1) (Nat.le_refl _) (bel1 _ _) (Qa5 _ _) (heap_alloc_new _ _) HCC.out HB2.out hst2)
    | (with_reducible exact Qco (LdA.sz hst1) (Nat.le_refl _) (QgY _ _) (Qa6 _ _) Qef HCC.out HB2.out hst2)
 case rest =>
  obtain ⟨G,cl,rfl,hG,hblk,hsh,hld⟩:=hcut
  obtain ⟨w4,hw4⟩:∃ w4,w4=wc:=⟨_,rfl⟩
  subst hw4
  have hgb:w.heap.size+2<=G:=by omega
  have HV0:Hid (VpI H w w4 G h p cl 0 (L.take 0) (.slice none 0 0) w4):=⟨IOwn.nil _ _ _,hblk,by rw [hld.bel.block _ (lt_blk HRES.out)];exact HRES.out,hld.box,Qaa HB0.out hld.bel,Lat.below (Below.refl _ _),hgb,lt_blk hblk⟩
  have HSH:Hid (ShV (fun b=>H b\/b=w.heap.size+1\/b=G) w4 cl s):=Keeps.sub hsh (fun b _ e=>by
   rcases e with e | e | e
   ·exact .inl (.inl e)
   ·exact .inl (.inr e)
   ·exact .inr e)
  clear hG hblk hsh hld HCL HCS HRES HS0 HB0 hz0
  obtain ⟨c0,c1,c2,c3,c4,c5,c6,c7,c8⟩:=HV0.out.box.c
  go_wp2_with fail
  refine (HLN.out _ HV0.out.bel).mono ?_
  rintro e w5 ⟨rfl,hb⟩
  have HV5:=hD (HV0.out.step hb)
  clear hb c0 c1 c2 c3 c4 c5 c6 c7 c8
  rw [show PA.len (.nums s l)=m from HM.out.symm]
  go_wp2
  go_loopw [4,5,16] (fun _ _ iv wr=>∃ (i:Nat) (v:Value),i<=m/\iv= .int .i64 (i:Int)/\VpI H w w4 G h p cl 0 (L.take i) v wr) (fun _ _ iv _=>m - (intOf iv).toNat)
  case atStart=>exact ⟨0,_,Nat.zero_le _,rfl,HV5.out⟩
  case round =>
   obtain ⟨i,v,hi,rfl,hti⟩:=hrel
   have HTI:=hD hti
   clear hti
   obtain ⟨vA,vn,vc,hvn⟩:∃ A n c,v= .slice A n c:=by obtain ⟨a,c,e⟩:=HTI.out.own.len;exact ⟨a,_,c,e⟩
   subst hvn
   obtain ⟨⟨e0,e1,e2⟩,ez⟩:=block3 HTI.out.out
   obtain ⟨c0,c1,c2,c3,c4,c5,c6,c7,c8⟩:=HTI.out.box.c
   have hGs:=HTI.out.sz
   by_cases him:i < m
   ·have him2:(i:Int) < (m:Int):=by omega
    have hik:i < l.length:=by have:=HM.out;omega
    have hiL:i < L.length:=by have:=HLL.out;omega
    have HTK:Hid (L.take (i+1)=L.take i++[L[i]]):=List.take_succ_eq_append_getElem hiL
    have HLX:=hD (HLI.out i hiL hik)
    have hlb:(L.take i).length<=1048576:=by rw [List.length_take];omega
    have HLB:=hD hlb
    clear hlb
    have hst0:=fun md=>QaK wr 0 0 0 0 (.slice none 0 0) 63 md
    have g0:=fun o=>Qab c0 o
    have g1:=fun o=>Qab c1 o
    have g2:=fun o=>Qab c2 o
    have g3:=fun o=>Qab c3 o
    have g4:=fun o=>Qab c4 o
    have g5:=fun o=>Qab c5 o
    have g6:=fun o=>Qab c6 o
    have g7:=fun o=>Qab c7 o
    have g8:=fun o=>Qab c8 o
    have g9:=fun o=>Qab e1 o
    have g10:=fun o=>Qab e2 o
    have HBX:=hD (bel1 wr (itO 0 0 0 nilS))
    have HEI:=hD (HE.out (wr.alloc (itO 0 0 0 nilS)) (Qaa HTI.out.bel HBX.out) i hik)
    generalize l.getD i 0=y at HEI HLX
    generalize L[i]=li at HTK HLX
    clear c0 c1 c2 c3 c4 c5 c6 c7 c8
    go_wp2_with fail
    refine HEI.out.mono ?_
    rintro e w2 ⟨rfl,hb2⟩
    have hxb:=Qar hb2
    have HLT:=hD (lt_blk hxb)
    have HBW2:=hD (Qaa HBX.out hb2)
    have HBW3:=hD (HBW2.out.setCell (p:=⟨wr.heap.size,1,none⟩) (Nat.le_refl _) (.float .f64 y))
    have HZ3:Hid ((w2.setCell ⟨wr.heap.size,1,none⟩ (.float .f64 y)).heap.size=w2.heap.size):=QaP _ _ _
    have HBW4:=hD (HBW3.out.alloc HBW3.out.size (itO 0 y 0 nilS))
    have HTW:=hD (HTI.out.step HBW3.out)
    have HAV:Hid (IV (fun b=>(H b\/b=w.heap.size+1\/b=G)\/(Value.slice vA vn vc).ownBlock=some b) (w2.setCell ⟨wr.heap.size,1,none⟩ (.float .f64 y)) li 0 y 0 nilS):=by unfold Hid;rw [HLX.out];exact Qbr _ _ _ _ _ _ _
    have HGG:Hid (w2.heap.size=(w2.setCell ⟨wr.heap.size,1,none⟩ (.float .f64 y)).heap.size):=HZ3.out.symm
    have HSZ:Hid (w4.heap.size<=(w2.setCell ⟨wr.heap.size,1,none⟩ (.float .f64 y)).heap.size):=by unfold Hid;have:=HLT.out;rw [HZ3.out];omega
    obtain ⟨⟨x0,x1,x2,x3⟩,xz⟩:=block4 hxb
    have hstf:=fun md=>QaG x1 (xz 1) .f64 y md
    have hxb3:(w2.setCell ⟨wr.heap.size,1,none⟩ (.float .f64 y)).heap[wr.heap.size]?=some (itO 0 y 0 nilS):=heap_setCell_same _ wr.heap.size 1 _ _ (.float .f64 y) hxb
    obtain ⟨⟨v0,v1,v2,v3⟩,vz⟩:=block4 hxb3
    have g2b:(w2.setCell ⟨wr.heap.size,1,none⟩ (.float .f64 y)).cell? ⟨G,1,none⟩=some (.slice vA vn vc):=by rw [HBW3.out.cell (Qav e1)];exact e1
    clear hb2 hxb hxb3 HEI
    go_wp2_with (at_builtin;refine QaD rfl (.tmp 46) (.tmp 48) rfl (fun b=>H b\/b=w.heap.size+1\/b=G) w4.heap.size (.slice vA vn vc) (L.take i) rfl HTW.out.own ⟨0,y,0,nilS⟩ li HAV.out w2.heap.size HGG.out rfl HLB.out HSZ.out ?_;intro v' w' hown' hbw hlat hat2;(obtain ⟨vA',vn',vc',hvn'⟩:∃ A n c,v'= .slice A n c:=by (obtain ⟨a,c,e⟩:=hown'.len;exact ⟨a,_,c,e⟩));subst hvn';have HBW:=hD (hbw _ (Below.refl _ _));have HP:=hD (HTW.out.push hH hown' HBW.out);(obtain ⟨⟨q0,q1,q2⟩,qz⟩:=block3 (show w'.heap[G]?=_ from (HBW.out.block _ HTW.out.old).trans HTW.out.out));clear hown' hbw hlat hat2)
    go_roundw
    case rel=>exact ⟨i+1,_,by omega,by go_num,by rw [HTK.out];exact HP.out⟩
    case measure=>simp [intOf];omega
   ·have hge:¬ (i:Int) < (m:Int):=by omega
    obtain rfl:i=m:=by omega
    have HTL:Hid (L.take i=L):=by unfold Hid;rw [<- HLL.out];exact List.take_length
    obtain ⟨x',hx',hpv⟩:=HTI.out.done hH HSH.out (sv cl) (.slice vA vn vc) (.int .i64 0)
    obtain ⟨xA,xn,xc⟩:=x'
    have h9:Value.slice vA vn vc= .slice xA xn xc:=hx'
    injection h9 with h10 h11 h12
    subst h10;subst h11;subst h12
    rw [HTL.out] at hpv
    have HPV:=hD hpv
    obtain ⟨⟨z0,z1,z2⟩,zz⟩:=block3 HTI.out.res
    have HRB:=hD (Qae HTI.out.res (sv cl) (.slice vA vn vc) (.int .i64 0))
    have HBB:=hD (Qaf HTI.out.bel (G:=w.heap.size+1) (by omega) (sv cl) (.slice vA vn vc) (.int .i64 0))
    clear hpv hx' c0 c1 c2 c3 c4 c5 c6 c7 c8
    go_wp2
    refine bodyPost_ret (v:=plV cl (vA,vn,vc) 0) ?_ rfl ⟨cl,(vA,vn,vc),rfl,HPV.out,HBB.out⟩
    exact QaI (fn:=Tryz.f56) (p:=2) rfl _ _ (w.heap.size+1) (by rfl) HRB.out
theorem Quc (H:Nat->Prop) (s:List Nat) (l:List Int) (h:Sl) (p:V8) (w:World) (hH:∀ b,H b->b < w.heap.size) (hl:l.length<=1000000) (hs:s.length<=1048576) (hav:AV H w (.chars s l) h p) :
  Calls Tryz.prog 56 #[arrV h p] w (PlR H w (rawP (.chars s l)) 1):=by
 have hraw:rawP (.chars s l)= .mk (s.map Int.ofNat) (l.map fun c=>RI.mk 1 0 c []) 1:=by rw [rawP]
 rw [hraw]
 obtain ⟨m,hm⟩:∃ m,m=l.length:=⟨_,rfl⟩
 obtain ⟨L,hL⟩:∃ L,L=(l.map fun c=>RI.mk 1 0 c []):=⟨_,rfl⟩
 have hLl:L.length=m:=by rw [hL,hm];simp
 rw [<- hL]
 obtain ⟨w0,hw0⟩:∃ w0,w0=(w.alloc (arrO h p)).alloc (.cells Qa4 25):=⟨_,rfl⟩
 have hb0:Below w.heap.size w w0:=by rw [hw0];exact bel2 _ _ _
 have hsz:w0.heap.size=w.heap.size+2:=by rw [hw0];simp
 have h9:At9 w0 w.heap.size 0 h p:=by rw [hw0];exact (QaV w h p).below (bel1 _ _)
 have hres:w0.heap[w.heap.size+1]?=some (.cells Qa4 25):=by
  rw [hw0]
  have h1:=heap_alloc_new (w.alloc (arrO h p)) (.cells Qa4 25)
  simpa using h1
 obtain ⟨hcl,hcs⟩:=Qfp hav hs hH hb0 hsz
 have HCL:Hid (∀ W,LdA w0 w.heap.size h p W->Calls Tryz.prog 107 #[sv h] W (ClR (fun b=>H b\/b=w.heap.size+1) w0 W s)):=hcl
 have HCS:Hid (∀ W,LdA w0 w.heap.size h p W->Calls Tryz.prog 44 #[p.v] W fun e w'=>e= .returned (.int .i64 1)/\Below W.heap.size W w'):=hcs
 have HLN:=hD (fun W (hb:Below w.heap.size w W)=>Qbj hav W hb)
 have HLI:Hid (∀ i (hi:i < L.length) (h2:i < l.length),L[i]=RI.mk 1 0 l[i] []):=by
  intro i hi h2
  subst hL
  simp
 have HE:=hD (fun W (hb:Below w.heap.size w W) i (hi:i < l.length)=>Qcm hav i hi W hb)
 have HAVV:=hD hav
 have HW0:=hD hw0
 have HB0:=hD hb0
 have HRES:=hD hres
 have HLL:=hD hLl
 have HM:=hD hm
 have HSZ0:=hD hsz
 have hmb:m<=1000000:=by omega
 have HS0:=hD (LdA.new h9)
 have hz0:w.heap.size+2<=w0.heap.size:=by omega
 clear hraw hw0 hb0 hres hLl hL hcl hcs hav hl hs hsz h9
 go_enter Tryz.func56,Tryz.ntmps56
 go_wp2_with fail
 rw [<- HW0.out]
 go_cut [3] from 6 (fun v wx=>Qk2 (fun b=>H b\/b=w.heap.size+1) w0 w.heap.size h p s 1 v wx)
 case first =>
  have hs0:=HS0.out.dr
  have hs00:=HS0.out
  go_region_held3 (fun W=>(W.cell? ⟨w.heap.size,0,none⟩=some (.slice h.1 h.2.1 h.2.2)/\W.cell? ⟨w.heap.size,1,none⟩=some (.int .i64 p.k)/\W.cell? ⟨w.heap.size,2,none⟩=some (.slice p.b.1 p.b.2.1 p.b.2.2)/\W.cell? ⟨w.heap.size,3,none⟩=some (.int .i64 p.bn)/\W.cell? ⟨w.heap.size,4,none⟩=some (.slice p.s.1 p.s.2.1 p.s.2.2)/\W.cell? ⟨w.heap.size,5,none⟩=some (.slice p.i.1 p.i.2.1 p.i.2.2)/\W.cell? ⟨w.heap.size,6,none⟩=some (.slice p.f.1 p.f.2.1 p.f.2.2)/\W.cell? ⟨w.heap.size,7,none⟩=some (.slice p.c.1 p.c.2.1 p.c.2.2)/\W.cell? ⟨w.heap.size,8,none⟩=some (.slice p.x.1 p.x.2.1 p.x.2.2))/\LdA w0 w.heap.size h p W)
   (first | with_reducible assumption | (with_reducible (refine QpC ?_);repeat (first | with_reducible assumption | with_reducible refine LdA.dr ?_ | (with_reducible refine LdA.put ?_ (by first | assumption | omega | (simp;omega)) _) | with_reducible refine LdA.al ?_ _)))
   (first
    | (go_at_call 107;(with_reducible refine (HCL.out _ ?_).mono ?_);exact LdA.self (by repeat (first | with_reducible assumption | with_reducible refine LdA.dr ?_ | (with_reducible refine LdA.put ?_ (by first | assumption | omega | (simp;omega)) _) | with_reducible refine LdA.al ?_ _));rintro e w1 ⟨cA,cn,cc,rfl,hcl,hb1⟩;obtain ⟨hc1,hf1⟩:=bcell2 hb1;have hz1:=hb1.size;have hst1:LdA w0 w.heap.size h p w1:=LdA.step (by repeat (first | with_reducible assumption | with_reducible refine LdA.dr ?_ | (with_reducible refine LdA.put ?_ (by first | assumption | omega | (simp;omega)) _) | with_reducible refine LdA.al ?_ _)) hb1;have hs1z:=hst1.sz;(first | (have hsq:w0.heap.size < w1.heap.size:=Nat.lt_of_lt_of_le (Qa5 _ _) hz1) | (have hsq:w0.heap.size < w1.heap.size:=Nat.lt_of_lt_of_le (Qa6 _ _) hz1) | skip);have HB1:=hD hb1;have HCC:=hD hcl;clear hb1 hcl)
    | (go_at_call 44;(with_reducible refine (HCS.out _ ?_).mono ?_);exact LdA.self (by repeat (first | with_reducible assumption | with_reducible refine LdA.dr ?_ | (with_reducible refine LdA.put ?_ (by first | assumption | omega | (simp;omega)) _) | with_reducible refine LdA.al ?_ _));rintro e w2 ⟨rfl,hb2⟩;obtain ⟨hc2,hf2⟩:=bcell2 hb2;have hz2:=hb2.size;have hst2:LdA w0 w.heap.size h p w2:=LdA.step (by repeat (first | with_reducible assumption | with_reducible refine LdA.dr ?_ | (with_reducible refine LdA.put ?_ (by first | assumption | omega | (simp;omega)) _) | with_reducible refine LdA.al ?_ _)) hb2;have hs2z:=hst2.sz;have HB2:=hD hb2;clear hb2))
  all_goals
   go_wp2
   go_meet
   first
    | with_reducible exact Qfo HCC.out HB2.out hst2
    | (with_reducible exact Qcn (Nat.le_refl _) (Qa5 _ _) (heap_alloc_new _ _) HB1.out HCC.out HB2.out hst2)
    | (with_reducible exact Qcn (Nat.le_refl _) (Qa6 _ _) Qef HB1.out HCC.out HB2.out hst2)
    | (with_reducible exact Qco (LdA.sz hst1) (Nat.le_refl _) (bel1 _ _) (Qa5 _ _) (heap_alloc_new _ _) HCC.out HB2.out hst2)
    | (with_reducible exact Qco (LdA.sz hst1) (Nat.le_refl _) (QgY _ _) (Qa6 _ _) Qef HCC.out HB2.out hst2)
 case rest =>
  obtain ⟨G,cl,rfl,hG,hblk,hsh,hld⟩:=hcut
  obtain ⟨w4,hw4⟩:∃ w4,w4=wc:=⟨_,rfl⟩
  subst hw4
  have hgb:w.heap.size+2<=G:=by omega
  have HV0:Hid (VpI H w w4 G h p cl 1 (L.take 0) (.slice none 0 0) w4):=⟨IOwn.nil _ _ _,hblk,by rw [hld.bel.block _ (lt_blk HRES.out)];exact HRES.out,hld.box,Qaa HB0.out hld.bel,Lat.below (Below.refl _ _),hgb,lt_blk hblk⟩
  have HSH:Hid (ShV (fun b=>H b\/b=w.heap.size+1\/b=G) w4 cl s):=Keeps.sub hsh (fun b _ e=>by
   rcases e with e | e | e
   ·exact .inl (.inl e)
   ·exact .inl (.inr e)
   ·exact .inr e)
  clear hG hblk hsh hld HCL HCS HRES HS0 HB0 hz0
  obtain ⟨c0,c1,c2,c3,c4,c5,c6,c7,c8⟩:=HV0.out.box.c
  go_wp2_with fail
  refine (HLN.out _ HV0.out.bel).mono ?_
  rintro e w5 ⟨rfl,hb⟩
  have HV5:=hD (HV0.out.step hb)
  clear hb c0 c1 c2 c3 c4 c5 c6 c7 c8
  rw [show PA.len (.chars s l)=m from HM.out.symm]
  go_wp2
  go_loopw [4,5,16] (fun _ _ iv wr=>∃ (i:Nat) (v:Value),i<=m/\iv= .int .i64 (i:Int)/\VpI H w w4 G h p cl 1 (L.take i) v wr) (fun _ _ iv _=>m - (intOf iv).toNat)
  case atStart=>exact ⟨0,_,Nat.zero_le _,rfl,HV5.out⟩
  case round =>
   obtain ⟨i,v,hi,rfl,hti⟩:=hrel
   have HTI:=hD hti
   clear hti
   obtain ⟨vA,vn,vc,hvn⟩:∃ A n c,v= .slice A n c:=by obtain ⟨a,c,e⟩:=HTI.out.own.len;exact ⟨a,_,c,e⟩
   subst hvn
   obtain ⟨⟨e0,e1,e2⟩,ez⟩:=block3 HTI.out.out
   obtain ⟨c0,c1,c2,c3,c4,c5,c6,c7,c8⟩:=HTI.out.box.c
   have hGs:=HTI.out.sz
   by_cases him:i < m
   ·have him2:(i:Int) < (m:Int):=by omega
    have hik:i < l.length:=by have:=HM.out;omega
    have hiL:i < L.length:=by have:=HLL.out;omega
    have HTK:Hid (L.take (i+1)=L.take i++[L[i]]):=List.take_succ_eq_append_getElem hiL
    have HLX:=hD (HLI.out i hiL hik)
    have hlb:(L.take i).length<=1048576:=by rw [List.length_take];omega
    have HLB:=hD hlb
    clear hlb
    have hst0:=fun md=>QaK wr 1 0 0 0 (.slice none 0 0) 63 md
    have g0:=fun o=>Qab c0 o
    have g1:=fun o=>Qab c1 o
    have g2:=fun o=>Qab c2 o
    have g3:=fun o=>Qab c3 o
    have g4:=fun o=>Qab c4 o
    have g5:=fun o=>Qab c5 o
    have g6:=fun o=>Qab c6 o
    have g7:=fun o=>Qab c7 o
    have g8:=fun o=>Qab c8 o
    have g9:=fun o=>Qab e1 o
    have g10:=fun o=>Qab e2 o
    have HBX:=hD (bel1 wr (itO 1 0 0 nilS))
    have HEI:=hD (HE.out (wr.alloc (itO 1 0 0 nilS)) (Qaa HTI.out.bel HBX.out) i hik)
    generalize l[i]=y at HEI HLX
    generalize L[i]=li at HTK HLX
    clear c0 c1 c2 c3 c4 c5 c6 c7 c8
    go_wp2_with fail
    refine HEI.out.mono ?_
    rintro e w2 ⟨rfl,hb2⟩
    have hxb:=Qar hb2
    have HLT:=hD (lt_blk hxb)
    have HBW2:=hD (Qaa HBX.out hb2)
    have HBW3:=hD (HBW2.out.setCell (p:=⟨wr.heap.size,2,none⟩) (Nat.le_refl _) (.int .i32 y))
    have HZ3:Hid ((w2.setCell ⟨wr.heap.size,2,none⟩ (.int .i32 y)).heap.size=w2.heap.size):=QaP _ _ _
    have HBW4:=hD (HBW3.out.alloc HBW3.out.size (itO 1 0 y nilS))
    have HTW:=hD (HTI.out.step HBW3.out)
    have HAV:Hid (IV (fun b=>(H b\/b=w.heap.size+1\/b=G)\/(Value.slice vA vn vc).ownBlock=some b) (w2.setCell ⟨wr.heap.size,2,none⟩ (.int .i32 y)) li 1 0 y nilS):=by unfold Hid;rw [HLX.out];exact Qbr _ _ _ _ _ _ _
    have HGG:Hid (w2.heap.size=(w2.setCell ⟨wr.heap.size,2,none⟩ (.int .i32 y)).heap.size):=HZ3.out.symm
    have HSZ:Hid (w4.heap.size<=(w2.setCell ⟨wr.heap.size,2,none⟩ (.int .i32 y)).heap.size):=by unfold Hid;have:=HLT.out;rw [HZ3.out];omega
    obtain ⟨⟨x0,x1,x2,x3⟩,xz⟩:=block4 hxb
    skip
    have hxb3:(w2.setCell ⟨wr.heap.size,2,none⟩ (.int .i32 y)).heap[wr.heap.size]?=some (itO 1 0 y nilS):=heap_setCell_same _ wr.heap.size 2 _ _ (.int .i32 y) hxb
    obtain ⟨⟨v0,v1,v2,v3⟩,vz⟩:=block4 hxb3
    have g2b:(w2.setCell ⟨wr.heap.size,2,none⟩ (.int .i32 y)).cell? ⟨G,1,none⟩=some (.slice vA vn vc):=by rw [HBW3.out.cell (Qav e1)];exact e1
    clear hb2 hxb hxb3 HEI
    go_wp2_with (at_builtin;refine QaD rfl (.tmp 46) (.tmp 48) rfl (fun b=>H b\/b=w.heap.size+1\/b=G) w4.heap.size (.slice vA vn vc) (L.take i) rfl HTW.out.own ⟨1,0,y,nilS⟩ li HAV.out w2.heap.size HGG.out rfl HLB.out HSZ.out ?_;intro v' w' hown' hbw hlat hat2;(obtain ⟨vA',vn',vc',hvn'⟩:∃ A n c,v'= .slice A n c:=by (obtain ⟨a,c,e⟩:=hown'.len;exact ⟨a,_,c,e⟩));subst hvn';have HBW:=hD (hbw _ (Below.refl _ _));have HP:=hD (HTW.out.push hH hown' HBW.out);(obtain ⟨⟨q0,q1,q2⟩,qz⟩:=block3 (show w'.heap[G]?=_ from (HBW.out.block _ HTW.out.old).trans HTW.out.out));clear hown' hbw hlat hat2)
    go_roundw
    case rel=>exact ⟨i+1,_,by omega,by go_num,by rw [HTK.out];exact HP.out⟩
    case measure=>simp [intOf];omega
   ·have hge:¬ (i:Int) < (m:Int):=by omega
    obtain rfl:i=m:=by omega
    have HTL:Hid (L.take i=L):=by unfold Hid;rw [<- HLL.out];exact List.take_length
    obtain ⟨x',hx',hpv⟩:=HTI.out.done hH HSH.out (sv cl) (.slice vA vn vc) (.int .i64 1)
    obtain ⟨xA,xn,xc⟩:=x'
    have h9:Value.slice vA vn vc= .slice xA xn xc:=hx'
    injection h9 with h10 h11 h12
    subst h10;subst h11;subst h12
    rw [HTL.out] at hpv
    have HPV:=hD hpv
    obtain ⟨⟨z0,z1,z2⟩,zz⟩:=block3 HTI.out.res
    have HRB:=hD (Qae HTI.out.res (sv cl) (.slice vA vn vc) (.int .i64 1))
    have HBB:=hD (Qaf HTI.out.bel (G:=w.heap.size+1) (by omega) (sv cl) (.slice vA vn vc) (.int .i64 1))
    clear hpv hx' c0 c1 c2 c3 c4 c5 c6 c7 c8
    go_wp2
    refine bodyPost_ret (v:=plV cl (vA,vn,vc) 1) ?_ rfl ⟨cl,(vA,vn,vc),rfl,HPV.out,HBB.out⟩
    exact QaI (fn:=Tryz.f56) (p:=2) rfl _ _ (w.heap.size+1) (by rfl) HRB.out
theorem Qud (H:Nat->Prop) (s:List Nat) (l:List PA) (h:Sl) (p:V8) (w:World) (hH:∀ b,H b->b < w.heap.size) (hl:l.length<=1000000) (hs:s.length<=1048576) (hIH:∀ (i:Nat) (hi:i < l.length) (H:Nat->Prop) (h:Sl) (p:V8) (w:World),(∀ b,H b->b < w.heap.size)->AV H w l[i] h p->Calls Tryz.prog 56 #[arrV h p] w (PlR H w (rawP l[i]) (l[i].fill:Nat))) (hav:AV H w (.boxes s l) h p) :
  Calls Tryz.prog 56 #[arrV h p] w (PlR H w (rawP (.boxes s l)) 2):=by
 have hraw:rawP (.boxes s l)= .mk (s.map Int.ofNat) (Qbs l) 2:=by rw [rawP]
 rw [hraw]
 obtain ⟨m,hm⟩:∃ m,m=l.length:=⟨_,rfl⟩
 obtain ⟨L,hL⟩:∃ L,L=(Qbs l):=⟨_,rfl⟩
 have hLl:L.length=m:=by rw [hL,hm];exact Qbe l
 rw [<- hL]
 obtain ⟨w0,hw0⟩:∃ w0,w0=(w.alloc (arrO h p)).alloc (.cells Qa4 25):=⟨_,rfl⟩
 have hb0:Below w.heap.size w w0:=by rw [hw0];exact bel2 _ _ _
 have hsz:w0.heap.size=w.heap.size+2:=by rw [hw0];simp
 have h9:At9 w0 w.heap.size 0 h p:=by rw [hw0];exact (QaV w h p).below (bel1 _ _)
 have hres:w0.heap[w.heap.size+1]?=some (.cells Qa4 25):=by
  rw [hw0]
  have h1:=heap_alloc_new (w.alloc (arrO h p)) (.cells Qa4 25)
  simpa using h1
 obtain ⟨hcl,hcs⟩:=Qfp hav hs hH hb0 hsz
 have HCL:Hid (∀ W,LdA w0 w.heap.size h p W->Calls Tryz.prog 107 #[sv h] W (ClR (fun b=>H b\/b=w.heap.size+1) w0 W s)):=hcl
 have HCS:Hid (∀ W,LdA w0 w.heap.size h p W->Calls Tryz.prog 44 #[p.v] W fun e w'=>e= .returned (.int .i64 2)/\Below W.heap.size W w'):=hcs
 have HLN:=hD (fun W (hb:Below w.heap.size w W)=>Qbj hav W hb)
 have HLI:Hid (∀ i (hi:i < L.length) (h2:i < l.length),L[i]=RI.mk 2 0 0 [rawP l[i]]):=by
  intro i hi h2
  subst hL
  exact QcY h2 hi
 have HE:=hD (fun W (hb:Below w.heap.size w W) i (hi:i < l.length)=>QdL hav i hi W hb)
 have HIH:=hD hIH
 clear hIH
 have HAVV:=hD hav
 have HW0:=hD hw0
 have HB0:=hD hb0
 have HRES:=hD hres
 have HLL:=hD hLl
 have HM:=hD hm
 have HSZ0:=hD hsz
 have hmb:m<=1000000:=by omega
 have HS0:=hD (LdA.new h9)
 have hz0:w.heap.size+2<=w0.heap.size:=by omega
 clear hraw hw0 hb0 hres hLl hL hcl hcs hav hl hs hsz h9
 go_enter Tryz.func56,Tryz.ntmps56
 go_wp2_with fail
 rw [<- HW0.out]
 go_cut [3] from 6 (fun v wx=>Qk2 (fun b=>H b\/b=w.heap.size+1) w0 w.heap.size h p s 2 v wx)
 case first =>
  have hs0:=HS0.out.dr
  have hs00:=HS0.out
  go_region_held3 (fun W=>(W.cell? ⟨w.heap.size,0,none⟩=some (.slice h.1 h.2.1 h.2.2)/\W.cell? ⟨w.heap.size,1,none⟩=some (.int .i64 p.k)/\W.cell? ⟨w.heap.size,2,none⟩=some (.slice p.b.1 p.b.2.1 p.b.2.2)/\W.cell? ⟨w.heap.size,3,none⟩=some (.int .i64 p.bn)/\W.cell? ⟨w.heap.size,4,none⟩=some (.slice p.s.1 p.s.2.1 p.s.2.2)/\W.cell? ⟨w.heap.size,5,none⟩=some (.slice p.i.1 p.i.2.1 p.i.2.2)/\W.cell? ⟨w.heap.size,6,none⟩=some (.slice p.f.1 p.f.2.1 p.f.2.2)/\W.cell? ⟨w.heap.size,7,none⟩=some (.slice p.c.1 p.c.2.1 p.c.2.2)/\W.cell? ⟨w.heap.size,8,none⟩=some (.slice p.x.1 p.x.2.1 p.x.2.2))/\LdA w0 w.heap.size h p W)
   (first | with_reducible assumption | (with_reducible (refine QpC ?_);repeat (first | with_reducible assumption | with_reducible refine LdA.dr ?_ | (with_reducible refine LdA.put ?_ (by first | assumption | omega | (simp;omega)) _) | with_reducible refine LdA.al ?_ _)))
   (first
    | (go_at_call 107;(with_reducible refine (HCL.out _ ?_).mono ?_);exact LdA.self (by repeat (first | with_reducible assumption | with_reducible refine LdA.dr ?_ | (with_reducible refine LdA.put ?_ (by first | assumption | omega | (simp;omega)) _) | with_reducible refine LdA.al ?_ _));rintro e w1 ⟨cA,cn,cc,rfl,hcl,hb1⟩;obtain ⟨hc1,hf1⟩:=bcell2 hb1;have hz1:=hb1.size;have hst1:LdA w0 w.heap.size h p w1:=LdA.step (by repeat (first | with_reducible assumption | with_reducible refine LdA.dr ?_ | (with_reducible refine LdA.put ?_ (by first | assumption | omega | (simp;omega)) _) | with_reducible refine LdA.al ?_ _)) hb1;have hs1z:=hst1.sz;(first | (have hsq:w0.heap.size < w1.heap.size:=Nat.lt_of_lt_of_le (Qa5 _ _) hz1) | (have hsq:w0.heap.size < w1.heap.size:=Nat.lt_of_lt_of_le (Qa6 _ _) hz1) | skip);have HB1:=hD hb1;have HCC:=hD hcl;clear hb1 hcl)
    | (go_at_call 44;(with_reducible refine (HCS.out _ ?_).mono ?_);exact LdA.self (by repeat (first | with_reducible assumption | with_reducible refine LdA.dr ?_ | (with_reducible refine LdA.put ?_ (by first | assumption | omega | (simp;omega)) _) | with_reducible refine LdA.al ?_ _));rintro e w2 ⟨rfl,hb2⟩;obtain ⟨hc2,hf2⟩:=bcell2 hb2;have hz2:=hb2.size;have hst2:LdA w0 w.heap.size h p w2:=LdA.step (by repeat (first | with_reducible assumption | with_reducible refine LdA.dr ?_ | (with_reducible refine LdA.put ?_ (by first | assumption | omega | (simp;omega)) _) | with_reducible refine LdA.al ?_ _)) hb2;have hs2z:=hst2.sz;have HB2:=hD hb2;clear hb2))
  all_goals
   go_wp2
   go_meet
   first
    | with_reducible exact Qfo HCC.out HB2.out hst2
    | (with_reducible exact Qcn (Nat.le_refl _) (Qa5 _ _) (heap_alloc_new _ _) HB1.out HCC.out HB2.out hst2)
    | (with_reducible exact Qcn (Nat.le_refl _) (Qa6 _ _) Qef HB1.out HCC.out HB2.out hst2)
    | (with_reducible exact Qco (LdA.sz hst1) (Nat.le_refl _) (bel1 _ _) (Qa5 _ _) (heap_alloc_new _ _) HCC.out HB2.out hst2)
    | (with_reducible exact Qco (LdA.sz hst1) (Nat.le_refl _) (QgY _ _) (Qa6 _ _) Qef HCC.out HB2.out hst2)
 case rest =>
  obtain ⟨G,cl,rfl,hG,hblk,hsh,hld⟩:=hcut
  obtain ⟨w4,hw4⟩:∃ w4,w4=wc:=⟨_,rfl⟩
  subst hw4
  have hgb:w.heap.size+2<=G:=by omega
  have HV0:Hid (VpI H w w4 G h p cl 2 (L.take 0) (.slice none 0 0) w4):=⟨IOwn.nil _ _ _,hblk,by rw [hld.bel.block _ (lt_blk HRES.out)];exact HRES.out,hld.box,Qaa HB0.out hld.bel,Lat.below (Below.refl _ _),hgb,lt_blk hblk⟩
  have HSH:Hid (ShV (fun b=>H b\/b=w.heap.size+1\/b=G) w4 cl s):=Keeps.sub hsh (fun b _ e=>by
   rcases e with e | e | e
   ·exact .inl (.inl e)
   ·exact .inl (.inr e)
   ·exact .inr e)
  clear hG hblk hsh hld HCL HCS HRES HS0 HB0 hz0
  obtain ⟨c0,c1,c2,c3,c4,c5,c6,c7,c8⟩:=HV0.out.box.c
  go_wp2_with fail
  refine (HLN.out _ HV0.out.bel).mono ?_
  rintro e w5 ⟨rfl,hb⟩
  have HV5:=hD (HV0.out.step hb)
  clear hb c0 c1 c2 c3 c4 c5 c6 c7 c8
  rw [show PA.len (.boxes s l)=m from HM.out.symm]
  go_wp2
  go_loopw [4,5,16] (fun _ _ iv wr=>∃ (i:Nat) (v:Value),i<=m/\iv= .int .i64 (i:Int)/\VpI H w w4 G h p cl 2 (L.take i) v wr) (fun _ _ iv _=>m - (intOf iv).toNat)
  case atStart=>exact ⟨0,_,Nat.zero_le _,rfl,HV5.out⟩
  case round =>
   obtain ⟨i,v,hi,rfl,hti⟩:=hrel
   have HTI:=hD hti
   clear hti
   obtain ⟨vA,vn,vc,hvn⟩:∃ A n c,v= .slice A n c:=by obtain ⟨a,c,e⟩:=HTI.out.own.len;exact ⟨a,_,c,e⟩
   subst hvn
   obtain ⟨⟨e0,e1,e2⟩,ez⟩:=block3 HTI.out.out
   obtain ⟨c0,c1,c2,c3,c4,c5,c6,c7,c8⟩:=HTI.out.box.c
   have hGs:=HTI.out.sz
   by_cases him:i < m
   ·have him2:(i:Int) < (m:Int):=by omega
    have hik:i < l.length:=by have:=HM.out;omega
    have hiL:i < L.length:=by have:=HLL.out;omega
    have HTK:Hid (L.take (i+1)=L.take i++[L[i]]):=List.take_succ_eq_append_getElem hiL
    have HLX:=hD (HLI.out i hiL hik)
    have hlb:(L.take i).length<=1048576:=by rw [List.length_take];omega
    have HLB:=hD hlb
    clear hlb
    have hst0:=fun md=>QaK wr 2 0 0 0 (.slice none 0 0) 63 md
    have g0:=fun o=>Qab c0 o
    have g1:=fun o=>Qab c1 o
    have g2:=fun o=>Qab c2 o
    have g3:=fun o=>Qab c3 o
    have g4:=fun o=>Qab c4 o
    have g5:=fun o=>Qab c5 o
    have g6:=fun o=>Qab c6 o
    have g7:=fun o=>Qab c7 o
    have g8:=fun o=>Qab c8 o
    have g9:=fun o=>Qab e1 o
    have g10:=fun o=>Qab e2 o
    have HBX:=hD (bel1 wr (itO 2 0 0 nilS))
    have HEI:=hD (HE.out (wr.alloc (itO 2 0 0 nilS)) (Qaa HTI.out.bel HBX.out) i hik)
    have HII:=hD (HIH.out i hik)
    generalize l[i]=z at HEI HLX HII
    generalize L[i]=li at HTK HLX
    unfold BoxR at HEI
    unfold PlR at HII
    clear c0 c1 c2 c3 c4 c5 c6 c7 c8
    go_wp2_with fail
    refine HEI.out.mono ?_
    rintro e w2 ⟨h1,p1,rfl,hav1,hb2⟩
    have HXB:=hD (Qar hb2)
    have HBW2:=hD (Qaa HBX.out hb2)
    have HB2:=hD (Qaa HTI.out.bel HBW2.out)
    have HIC:=hD (HII.out (Hole H w w2) h1 p1 w2 (Hole.lt hH HB2.out) (AV.arg hav1 HB2.out))
    clear hb2 hav1 HEI HII
    clear g0 g1 g2 g3 g4 g5 g6 g7 g8 g9 g10
    go_wp2_with fail
    refine HIC.out.mono ?_
    rintro e w3 ⟨h2,x2,rfl,hpv2,hb3⟩
    have hxb:w3.heap[wr.heap.size]?=some (itO 2 0 0 nilS):=by rw [hb3.block _ (lt_blk HXB.out)];exact HXB.out
    have HLT:=hD (lt_blk HXB.out)
    have HBW3:=hD (Qaa HBW2.out hb3)
    have HBW5:=hD (HBW3.out.alloc HBW3.out.size (plO h2 x2 (z.fill:Nat)))
    have HZ3:Hid (((w3.alloc (plO h2 x2 (z.fill:Nat))).setCell ⟨wr.heap.size,3,none⟩ (.slice (some ⟨w3.heap.size,0,none⟩) 1 1)).heap.size=w3.heap.size+1):=by unfold Hid;rw [QaP];simp
    have HBW4:=hD (HBW5.out.setCell (p:=⟨wr.heap.size,3,none⟩) (Nat.le_refl _) (.slice (some ⟨w3.heap.size,0,none⟩) 1 1))
    have HTW:=hD (HTI.out.step HBW4.out)
    have HAV:Hid (IV (fun b=>(H b\/b=w.heap.size+1\/b=G)\/(Value.slice vA vn vc).ownBlock=some b) ((w3.alloc (plO h2 x2 (z.fill:Nat))).setCell ⟨wr.heap.size,3,none⟩ (.slice (some ⟨w3.heap.size,0,none⟩) 1 1)) li 2 0 0 (some ⟨w3.heap.size,0,none⟩,1,1)):=by
     unfold Hid
     rw [HLX.out]
     have hw1:=HTI.out.bel.size
     have hw2:=HLT.out
     have hw3:=hb3.size
     have hw4:=HTI.out.old
     have hw5:=HTI.out.sz
     have hw6:=HTI.out.big
     have hl1:Lat (Hole H w w2) w3 ((w3.alloc (plO h2 x2 (z.fill:Nat))).setCell ⟨wr.heap.size,3,none⟩ (.slice (some ⟨w3.heap.size,0,none⟩) 1 1)):=(Lat.below (bel1 _ _)).trans (Lat.set (a:=⟨wr.heap.size,3,none⟩) (.inr ⟨by show w.heap.size<=wr.heap.size;omega,by show wr.heap.size < _;omega⟩) _)
     have hp1:=PV.lat hl1 hpv2
     have hnew:=(Qbd w3 h2 x2 (z.fill:Nat)).of (w':=((w3.alloc (plO h2 x2 (z.fill:Nat))).setCell ⟨wr.heap.size,3,none⟩ (.slice (some ⟨w3.heap.size,0,none⟩) 1 1))) fun j=>World.cell?_of_block (w:=(w3.alloc (plO h2 x2 (z.fill:Nat)))) (Below.heap_setCell _ _ _ _ (by show w3.heap.size≠wr.heap.size;omega))
     refine QjM ?_ (PV.sub (fun b hb e=>?_) hp1) hnew
     ·rintro ((e | e) | e)
      ·have:=hH _ e;omega
      ·omega
      ·have:=(HTI.out.own.own_lt e).2;omega
     ·rcases e with (e | e) | e
      ·exact .inl e
      ·exact .inr ⟨by omega,by omega⟩
      ·have h9:=HTI.out.own.own_lt e
       exact .inr ⟨by omega,by omega⟩
    have HGG:Hid (w3.heap.size+1=((w3.alloc (plO h2 x2 (z.fill:Nat))).setCell ⟨wr.heap.size,3,none⟩ (.slice (some ⟨w3.heap.size,0,none⟩) 1 1)).heap.size):=HZ3.out.symm
    have HSZ:Hid (w4.heap.size<=((w3.alloc (plO h2 x2 (z.fill:Nat))).setCell ⟨wr.heap.size,3,none⟩ (.slice (some ⟨w3.heap.size,0,none⟩) 1 1)).heap.size):=by unfold Hid;have:=HLT.out;have:=hb3.size;rw [<- HGG.out];omega
    obtain ⟨⟨x0,x1,x2',x3⟩,xz⟩:=block4 hxb
    have u3:=fun o=>Qab x3 o
    have uz:=fun o=>QaN x3 xz o
    have hxb3:((w3.alloc (plO h2 x2 (z.fill:Nat))).setCell ⟨wr.heap.size,3,none⟩ (.slice (some ⟨w3.heap.size,0,none⟩) 1 1)).heap[wr.heap.size]?=some (.cells #[.int .i64 2,.float .f64 0,.int .i32 0,(.slice (some ⟨w3.heap.size,0,none⟩) 1 1)] 63):=heap_setCell_same _ wr.heap.size 3 _ _ (.slice (some ⟨w3.heap.size,0,none⟩) 1 1) (QaJ hxb _)
    obtain ⟨⟨v0,v1,v2,v3⟩,vz⟩:=block4 hxb3
    have g2b:((w3.alloc (plO h2 x2 (z.fill:Nat))).setCell ⟨wr.heap.size,3,none⟩ (.slice (some ⟨w3.heap.size,0,none⟩) 1 1)).cell? ⟨G,1,none⟩=some (.slice vA vn vc):=by rw [HBW4.out.cell (Qav e1)];exact e1
    clear hpv2 hb3 hxb hxb3 HIC HXB
    go_wp2_with (at_builtin;refine QaD rfl (.tmp 46) (.tmp 48) rfl (fun b=>H b\/b=w.heap.size+1\/b=G) w4.heap.size (.slice vA vn vc) (L.take i) rfl HTW.out.own ⟨2,0,0,(some ⟨w3.heap.size,0,none⟩,1,1)⟩ li HAV.out (w3.heap.size+1) HGG.out rfl HLB.out HSZ.out ?_;intro v' w' hown' hbw hlat hat2;(obtain ⟨vA',vn',vc',hvn'⟩:∃ A n c,v'= .slice A n c:=by (obtain ⟨a,c,e⟩:=hown'.len;exact ⟨a,_,c,e⟩));subst hvn';have HBW:=hD (hbw _ (Below.refl _ _));have HP:=hD (HTW.out.push hH hown' HBW.out);(obtain ⟨⟨q0,q1,q2⟩,qz⟩:=block3 (show w'.heap[G]?=_ from (HBW.out.block _ HTW.out.old).trans HTW.out.out));clear hown' hbw hlat hat2)
    go_roundw
    case rel=>exact ⟨i+1,_,by omega,by go_num,by rw [HTK.out];exact HP.out⟩
    case measure=>simp [intOf];omega
   ·have hge:¬ (i:Int) < (m:Int):=by omega
    obtain rfl:i=m:=by omega
    have HTL:Hid (L.take i=L):=by unfold Hid;rw [<- HLL.out];exact List.take_length
    obtain ⟨x',hx',hpv⟩:=HTI.out.done hH HSH.out (sv cl) (.slice vA vn vc) (.int .i64 2)
    obtain ⟨xA,xn,xc⟩:=x'
    have h9:Value.slice vA vn vc= .slice xA xn xc:=hx'
    injection h9 with h10 h11 h12
    subst h10;subst h11;subst h12
    rw [HTL.out] at hpv
    have HPV:=hD hpv
    obtain ⟨⟨z0,z1,z2⟩,zz⟩:=block3 HTI.out.res
    have HRB:=hD (Qae HTI.out.res (sv cl) (.slice vA vn vc) (.int .i64 2))
    have HBB:=hD (Qaf HTI.out.bel (G:=w.heap.size+1) (by omega) (sv cl) (.slice vA vn vc) (.int .i64 2))
    clear hpv hx' c0 c1 c2 c3 c4 c5 c6 c7 c8
    go_wp2
    refine bodyPost_ret (v:=plV cl (vA,vn,vc) 2) ?_ rfl ⟨cl,(vA,vn,vc),rfl,HPV.out,HBB.out⟩
    exact QaI (fn:=Tryz.f56) (p:=2) rfl _ _ (w.heap.size+1) (by rfl) HRB.out
theorem Qgg:∀ (d:Nat) (H:Nat->Prop) (a:PA) (h:Sl) (p:V8) (w:World),(∀ b,H b->b < w.heap.size)->GoodA d a->SmA 1000000 a->AV H w a h p ->
  Calls Tryz.prog 56 #[arrV h p] w (PlR H w (rawP a) (a.fill:Nat))
 | 0,_,a,_,_,_,_,hg,_,_=>absurd hg.sh.1 (Nat.lt_irrefl _)
 | d+1,H,.nums s l,h,p,w,hH,hg,hs,hav=>Qub H s l h p w hH hs.len (by have:s.length<=8:=hg.sh.2.1;omega) hav
 | d+1,H,.chars s l,h,p,w,hH,hg,hs,hav=>Quc H s l h p w hH hs.len (by have:s.length<=8:=hg.sh.2.1;omega) hav
 | d+1,H,.boxes s l,h,p,w,hH,hg,hs,hav=>Qud H s l h p w hH hs.len (by have:s.length<=8:=hg.sh.2.1;omega) (fun i hi H' h' p' w' hH' hav'=>Qgg d H' l[i] h' p' w' hH' (by simpa using hg.boxes i hi) (hs.boxes i hi) hav') hav
end Go.Proofs.YtdelgpelkfndeaaGreatDoor
