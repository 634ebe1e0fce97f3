/- The walk of pervade.boxes over a contract of Two at the parts. pervade.Two of any two good arrays tells twoE. What a function of one number makes of an array: .. Conditions: as each theorem says. -/
import Derived.Test.YtiahegjdkejjpaaGreatDoorMg35
import Derived.Test.YtiahegjdkejjpaaGreatDoorMg36
import Derived.Test.YtiahegjdkejjpaaGreatDoorMg28
import Derived.Test.YtiahegjdkejjpaaGreatDoorMg31
set_option maxRecDepth 100000
set_option maxHeartbeats 4000000
namespace Go.Proofs.YtiahegjdkejjpaaGreatDoor
open Go Go.RowKit Go.Proofs Fl
theorem A3.more {w W W':World}{h1 h2:Sl}{p q:V8} (g:A3 w W h1 p h2 q) (hb:Below (w.heap.size+3) W W'):A3 w W' h1 p h2 q :=
 ⟨g.one.of fun j=>hb.cell (p:=⟨w.heap.size,j,none⟩) (by show w.heap.size < _;omega),g.two.of fun j=>hb.cell (p:=⟨w.heap.size+1,j,none⟩) (by show w.heap.size+1 < _;omega),by rw [hb.block _ (by omega)];exact g.res,g.bel.trans (hb.mono (by omega))⟩
structure BxS (w wr:World) (h1:Sl) (p:V8) (h2:Sl) (q:V8) (W:World):Prop where
 a3:A3 w W h1 p h2 q
 bel:Below wr.heap.size wr W
 lo:w.heap.size+3<=wr.heap.size
theorem BxS.step {w wr W W':World}{h1 h2:Sl}{p q:V8} (g:BxS w wr h1 p h2 q W) (hb:Below W.heap.size W W'):BxS w wr h1 p h2 q W':=⟨g.a3.step hb,bel_both g.bel hb,g.lo⟩
theorem BxS.put {w wr W:World}{h1 h2:Sl}{p q:V8} (g:BxS w wr h1 p h2 q W){b j:Nat} (hb:wr.heap.size<=b) (u:Value):BxS w wr h1 p h2 q (W.setCell ⟨b,j,none⟩ u):=⟨g.a3.more ((Below.refl _ W).setCell (by show _<=b;have:=g.lo;omega) u),g.bel.setCell (by show _<=b;exact hb) u,g.lo⟩
theorem BxS.dr {w wr W:World}{h1 h2:Sl}{p q:V8} (g:BxS w wr h1 p h2 q W):BxS w wr h1 p h2 q W.drew:=g.step (Below.refl _ W).drew
theorem BxS.al {w wr W:World}{h1 h2:Sl}{p q:V8} (g:BxS w wr h1 p h2 q W) (o:Obj):BxS w wr h1 p h2 q (W.alloc o):=g.step (bel1 W o)
theorem BxS.self {w wr W:World}{h1 h2:Sl}{p q:V8} (g:BxS w wr h1 p h2 q W):BxS w wr h1 p h2 q W:=g
theorem bxs_s {w wr W:World}{h1 h2:Sl}{p q:V8} (g:BxS w wr h1 p h2 q W):((W.cell? ⟨w.heap.size,0,none⟩=some (.slice h1.1 h1.2.1 h1.2.2)/\W.cell? ⟨w.heap.size,1,none⟩=some (.int .i64 p.k)/\W.cell? ⟨w.heap.size,2,none⟩=some (.slice p.b.1 p.b.2.1 p.b.2.2)/\W.cell? ⟨w.heap.size,3,none⟩=some (.int .i64 p.bn)/\W.cell? ⟨w.heap.size,4,none⟩=some (.slice p.s.1 p.s.2.1 p.s.2.2)/\W.cell? ⟨w.heap.size,5,none⟩=some (.slice p.i.1 p.i.2.1 p.i.2.2)/\W.cell? ⟨w.heap.size,6,none⟩=some (.slice p.f.1 p.f.2.1 p.f.2.2)/\W.cell? ⟨w.heap.size,7,none⟩=some (.slice p.c.1 p.c.2.1 p.c.2.2)/\W.cell? ⟨w.heap.size,8,none⟩=some (.slice p.x.1 p.x.2.1 p.x.2.2))/\(W.cell? ⟨w.heap.size+1,0,none⟩=some (.slice h2.1 h2.2.1 h2.2.2)/\W.cell? ⟨w.heap.size+1,1,none⟩=some (.int .i64 q.k)/\W.cell? ⟨w.heap.size+1,2,none⟩=some (.slice q.b.1 q.b.2.1 q.b.2.2)/\W.cell? ⟨w.heap.size+1,3,none⟩=some (.int .i64 q.bn)/\W.cell? ⟨w.heap.size+1,4,none⟩=some (.slice q.s.1 q.s.2.1 q.s.2.2)/\W.cell? ⟨w.heap.size+1,5,none⟩=some (.slice q.i.1 q.i.2.1 q.i.2.2)/\W.cell? ⟨w.heap.size+1,6,none⟩=some (.slice q.f.1 q.f.2.1 q.f.2.2)/\W.cell? ⟨w.heap.size+1,7,none⟩=some (.slice q.c.1 q.c.2.1 q.c.2.2)/\W.cell? ⟨w.heap.size+1,8,none⟩=some (.slice q.x.1 q.x.2.1 q.x.2.2)))/\BxS w wr h1 p h2 q W:=⟨⟨g.a3.one.c,g.a3.two.c⟩,g⟩
def AvAt (H:Nat->Prop) (a:PA) (h:Sl) (p:V8) (W:World):Prop:=AV H W a h p
theorem AvAt.step {H:Nat->Prop}{a:PA}{h:Sl}{p:V8}{W W':World} (g:AvAt H a h p W) (hb:Below W.heap.size W W'):AvAt H a h p W':=AV.step g hb
theorem AvAt.dr {H:Nat->Prop}{a:PA}{h:Sl}{p:V8}{W:World} (g:AvAt H a h p W):AvAt H a h p W.drew:=g.step (Below.refl _ W).drew
theorem AvAt.al {H:Nat->Prop}{a:PA}{h:Sl}{p:V8}{W:World} (g:AvAt H a h p W) (o:Obj):AvAt H a h p (W.alloc o):=g.step (bel1 W o)
theorem AvAt.self {H:Nat->Prop}{a:PA}{h:Sl}{p:V8}{W:World} (g:AvAt H a h p W):AvAt H a h p W:=g
def AvIf (H:Nat->Prop) (r:Int×PA) (h:Sl) (u:V8) (W:World):Prop:=(r.1=0->AV H W r.2 h u)/\(r.1≠0->h=nilS/\u=zeroP)
def TwU (H:Nat->Prop) (w:World) (r:Int×PA) (e:Ending) (w':World):Prop:=∃ (h:Sl) (u:V8),e= .returned (.tuple #[arrV h u,.int .i64 r.1])/\AvIf H r h u w'/\Below w.heap.size w w'
theorem TwR.u {H:Nat->Prop}{w w':World}{r:Int×PA}{e:Ending} (g:TwR H w r e w'):TwU H w r e w':=by
 rcases g with ⟨h0,h,u,rfl,ha,hb⟩ | ⟨h0,rfl,hb⟩
 ·exact ⟨h,u,by rw [h0],⟨fun _=>ha,fun e=>absurd h0 e⟩,hb⟩
 ·exact ⟨nilS,zeroP,rfl,⟨fun e=>absurd e h0,fun _=>⟨rfl,rfl⟩⟩,hb⟩
def ZB (Z:Nat) (W:World):Prop:=W.heap[Z]?=some zeroO
theorem ZB.new (W:World):ZB W.heap.size (W.alloc zeroO):=heap_alloc_new W _
theorem ZB.dr {Z:Nat}{W:World} (g:ZB Z W):ZB Z W.drew:=g
theorem ZB.step {Z:Nat}{W W':World} (g:ZB Z W) (hb:Below W.heap.size W W'):ZB Z W':=by
 unfold ZB at g ⊢
 rw [hb.block _ (lt_blk g)]
 exact g
def BxMid (K:Nat->Prop) (w wr:World) (h1:Sl) (p:V8) (h2:Sl) (q:V8) (r:Int×PA) (v e:Value) (wx:World):Prop :=
 ∃ (V:Nat) (h:Sl) (u:V8),v= .pointer (some ⟨V,0,none⟩)/\e= .int .i64 r.1/\wr.heap.size<=V/\wx.heap[V]?=some (arrO h u)/\AvIf (fun b=>K b\/b=V) r h u wx/\BxS w wr h1 p h2 q wx
theorem bxMid_new {K:Nat->Prop}{w wr W5 w5:World}{h1 h2:Sl}{p q:V8}{r:Int×PA}{h:Sl}{u:V8} (hav:AvIf (Hole K wr W5) r h u w5) (hst:BxS w wr h1 p h2 q w5) :
  BxMid K w wr h1 p h2 q r (.pointer (some ⟨w5.heap.size,0,none⟩)) (.int .i64 r.1) (w5.alloc (arrO h u)) :=
 ⟨w5.heap.size,h,u,rfl,rfl,hst.bel.size,heap_alloc_new w5 _,⟨fun h0=>(AV.sub (fun b hb e=>by
  rcases e with e | e
  ·exact .inl e
  ·omega) (hav.1 h0)).step (bel1 w5 _),hav.2⟩,hst.al _⟩
theorem bxMid_old {K:Nat->Prop}{w wr W5 w5:World}{h1 h2:Sl}{p q:V8}{r:Int×PA}{h:Sl}{u:V8}{Z:Nat} (hav:AvIf (Hole K wr W5) r h u w5) (hst:BxS w wr h1 p h2 q w5) (hz:ZB Z w5) (h5:ZB Z W5) (hZ:wr.heap.size<=Z) :
  BxMid K w wr h1 p h2 q r (.pointer (some ⟨Z,0,none⟩)) (.int .i64 r.1) (set9 w5 Z (sv h) (.int .i64 u.k) (sv u.b) (.int .i64 u.bn) (sv u.s) (sv u.i) (sv u.f) (sv u.c) (sv u.x)):=by
 have hzw:=lt_blk h5
 have hwr:=hst.lo
 refine ⟨Z,h,u,rfl,rfl,hZ,set9_block hz _ _ _ _ _ _ _ _ _,⟨fun h0=>AV.lat (Lat.set9 (H:=fun b=>K b\/b=Z) (G:=Z) (.inr rfl) _ _ _ _ _ _ _ _ _) (AV.sub (fun b hb e=>?_) (hav.1 h0)),hav.2⟩,⟨hst.a3.more (below_set9 (Below.refl _ w5) (by omega) _ _ _ _ _ _ _ _ _),below_set9 hst.bel hZ _ _ _ _ _ _ _ _ _,hwr⟩⟩
 rcases e with e | e
 ·exact .inl e
 ·exact .inr ⟨by omega,by omega⟩
structure BxI (H:Nat->Prop) (w:World) (h1:Sl) (p:V8) (h2:Sl) (q:V8) (R:Nat->Int×PA) (n c G:Nat) (hh:Nat->Sl) (pp:Nat->V8) (W:World):Prop where
 a3:A3 w W h1 p h2 q
 row:ARow W G n hh pp
 ok:∀ j,j < c->(R j).1=0/\AV (fun b=>H b\/b=w.heap.size+2\/b=G) W (R j).2 (hh j) (pp j)
theorem BxI.step {H:Nat->Prop}{w W W':World}{h1 h2:Sl}{p q:V8}{R:Nat->Int×PA}{n c G:Nat}{hh:Nat->Sl}{pp:Nat->V8} (g:BxI H w h1 p h2 q R n c G hh pp W) (hb:Below W.heap.size W W'):BxI H w h1 p h2 q R n c G hh pp W' :=
 ⟨g.a3.step hb,g.row.below hb,fun j hj=>⟨(g.ok j hj).1,(g.ok j hj).2.step hb⟩⟩
theorem BxI.put {H:Nat->Prop}{w W:World}{h1 h2:Sl}{p q:V8}{R:Nat->Int×PA}{n c G:Nat}{hh:Nat->Sl}{pp:Nat->V8} (g:BxI H w h1 p h2 q R n c G hh pp W) (hG:w.heap.size+3<=G) (hc:c < n){h:Sl}{u:V8} (h0:(R c).1=0) (hav:AV (fun b=>H b\/b=w.heap.size+2\/b=G) W (R c).2 h u) :
  BxI H w h1 p h2 q R n (c+1) G (fun j=>if j=c then h else hh j) (fun j=>if j=c then u else pp j) (set9o W G (c*9) (sv h) (.int .i64 u.k) (sv u.b) (.int .i64 u.bn) (sv u.s) (sv u.i) (sv u.f) (sv u.c) (sv u.x)):=by
 have hB:Below (w.heap.size+3) W (set9o W G (c*9) (sv h) (.int .i64 u.k) (sv u.b) (.int .i64 u.bn) (sv u.s) (sv u.i) (sv u.f) (sv u.c) (sv u.x)):=below_set9o (Below.refl _ W) hG _ _ _ _ _ _ _ _ _ _
 have hL:Lat (fun b=>H b\/b=w.heap.size+2\/b=G) W (set9o W G (c*9) (sv h) (.int .i64 u.k) (sv u.b) (.int .i64 u.bn) (sv u.s) (sv u.i) (sv u.f) (sv u.c) (sv u.x)) :=
  ⟨by rw [set9o_size];exact Nat.le_refl _,fun b _ hn=>set9o_other (fun e=>hn (.inr (.inr e))) _ _ _ _ _ _ _ _ _⟩
 refine ⟨g.a3.more hB,g.row.put hc h u,fun j hj=>?_⟩
 by_cases e:j=c
 ·subst e
  rw [if_pos rfl,if_pos rfl]
  exact ⟨h0,AV.lat hL hav⟩
 ·rw [if_neg e,if_neg e]
  have:=g.ok j (by omega)
  exact ⟨this.1,AV.lat hL this.2⟩
def bxE (n:Nat) (R:Nat->Int×PA) (sh:List Nat):Int×PA:=if (seqE ((List.range n).map R)).1≠0 then ((seqE ((List.range n).map R)).1,default) else (0,.boxes sh (seqE ((List.range n).map R)).2)
theorem bxE_ok {n:Nat}{R:Nat->Int×PA} (sh:List Nat) (h:∀ j,j < n->(R j).1=0):bxE n R sh=(0,.boxes sh ((List.range n).map fun j=>(R j).2)):=by
 have e:=seqE_ok (rs:=(List.range n).map R) (fun i hi=>by simp at hi ⊢;exact h i hi)
 unfold bxE
 rw [e]
 simp
theorem bxE_bad {n c:Nat}{R:Nat->Int×PA} (sh:List Nat) (hc:c < n) (h:∀ j,j < c->(R j).1=0) (hb:(R c).1≠0):(bxE n R sh).1=(R c).1:=by
 have e:=seqE_bad (rs:=(List.range n).map R) (k:=c) (by simpa using hc) (fun i hi=>by simp;exact h i hi) (by simpa using hb)
 simp only [List.getElem_map,List.getElem_range] at e
 unfold bxE
 rw [e,if_pos (by simpa using hb)]
theorem boxes24_any {H Ha Hb Hs:Nat->Prop} (f:Int) (R:Nat->Int×PA) (n:Nat){a b:PA}{h1 h2:Sl}{p q:V8} (s:Sl) (sh:List Nat) (w:World) (hH:∀ b,H b->b < w.heap.size) (hHa:∀ b,Ha b->b < w.heap.size) (hHb:∀ b,Hb b->b < w.heap.size)
  (ga:AV Ha w a h1 p) (gb:AV Hb w b h2 q) (gs:ShV Hs w s sh) (hsh:OkSh sh n) (hn:n<=1000000) (hla:a.len<=1000000) (hlb:b.len<=1000000) (hix:∀ i,i < n->ixP a.len i < a.len/\ixP b.len i < b.len)
  (hIH:∀ i,i < n->∀ (H':Nat->Prop) (W:World) (u1 u2:Sl) (v1 v2:V8),(∀ b,H' b->b < W.heap.size)->AV Ha W (partA a i) u1 v1->AV Hb W (partA b i) u2 v2->w.heap.size<=W.heap.size->Calls Tryz.prog 55 #[.int .i64 f,arrV u1 v1,arrV u2 v2] W (TwR H' W (R i))) :
  Calls Tryz.prog 119 #[.int .i64 f,arrV h1 p,arrV h2 q,sv s] w (TwR H w (bxE n R sh)):=by
 have HPR:=Lib.hid (fun W (hb:Below w.heap.size w W)=>product_any (sv s) sh 1048576 W (Keeps.lat gs (Lat.below hb)).now (by have:=hsh.1;omega))
 rw [prodE_ok hsh (most:=1048576) (by omega)] at HPR
 have HPA:=Lib.hid (fun i (hi:i < n) W (hs:A3 w W h1 p h2 q)=>part_any W (AV.step ga hs.bel) (fun b e=>by have:=hHa b e;have:=hs.sz;omega) i (by omega) (hix i hi).1 hla)
 have HPB:=Lib.hid (fun i (hi:i < n) W (hs:A3 w W h1 p h2 q)=>part_any W (AV.step gb hs.bel) (fun b e=>by have:=hHb b e;have:=hs.sz;omega) i (by omega) (hix i hi).2 hlb)
 unfold AaR at HPA HPB
 have HII:=Lib.hid (fun i (hi:i < n) (H':Nat->Prop) (W:World) (hH':∀ b,H' b->b < W.heap.size) (u1 u2:Sl) (v1 v2:V8) (hs:A3 w W h1 p h2 q) (g1:AvAt Ha (partA a i) u1 v1 W) (g2:AvAt Hb (partA b i) u2 v2 W)=>(hIH i hi H' W u1 u2 v1 v2 hH' g1 g2 hs.bel.size).mono fun _ _ t=>TwR.u t)
 unfold TwU at HII
 have HGS:=Lib.hid gs
 have HH:=Lib.hid hH
 have HSL:Hid (sh.length<=1048576):=by have:=hsh.1;unfold Hid;omega
 have HS0:=Lib.hid (A3.new w h1 h2 p q)
 have HR:=Lib.hid (fun h=>bxE_ok (R:=R) (n:=n) sh h)
 have HRB:=Lib.hid (fun c (hc:c < n) h hb=>bxE_bad (R:=R) (n:=n) (c:=c) sh hc h hb)
 have hmk:=run_make_arrs n (by omega)
 generalize bxE n R sh=r at HR HRB ⊢
 clear ga gb gs hsh hla hlb hix hIH hH hHa hHb
 go_enter Tryz.func119,Tryz.ntmps119
 go_wp2_with fail
 refine (HPR.out _ HS0.out.bel).mono ?_
 rintro e w1 ⟨rfl,hw1⟩
 rw [hw1] at HS0
 clear hw1 HPR
 go_wp2
 have HB1:=Lib.hid (bel1 w1 (.cells (madeCells zeroL (n*9)) 39))
 have HG:Hid (w.heap.size+3<=w1.heap.size):=HS0.out.sz
 have HI0:Hid (BxI H w h1 p h2 q R n 0 w1.heap.size (fun _=>nilS) (fun _=>zeroP) (w1.alloc (.cells (madeCells zeroL (n*9)) 39))):=⟨HS0.out.step HB1.out,ARow.made w1 n,fun j hj=>absurd hj (Nat.not_lt_zero _)⟩
 generalize w1.alloc (.cells (madeCells zeroL (n*9)) 39)=w2 at HI0 HB1 ⊢
 generalize w1.heap.size=G at HI0 HG ⊢
 clear HS0 HB1
 go_loopw [29] (fun iv wr=>∃ (c:Nat) (hh:Nat->Sl) (pp:Nat->V8),c<=n/\iv= .int .i64 (c:Int)/\BxI H w h1 p h2 q R n c G hh pp wr) (fun iv _=>n - (intOf iv).toNat)
 case atStart=>exact ⟨0,_,_,Nat.zero_le _,rfl,HI0.out⟩
 case round =>
  obtain ⟨c,hh,pp,hc,rfl,hti⟩:=hrel
  have HTI:=Lib.hid hti
  clear hti HI0
  by_cases hlt:c < n
  ·have hlt2:(c:Int) < (n:Int):=by omega
   have HA:=Lib.hid (fun W (hs:BxS w wr h1 p h2 q W)=>HPA.out c hlt W hs.a3)
   have HBB:=Lib.hid (fun W (hs:BxS w wr h1 p h2 q W)=>HPB.out c hlt W hs.a3)
   have hwr:w.heap.size+3<=wr.heap.size:=HTI.out.a3.sz
   have HST0:Hid (BxS w wr h1 p h2 q wr):=⟨HTI.out.a3,Below.refl _ _,hwr⟩
   have HKK:Hid (∀ b,(H b\/b=w.heap.size+2\/b=G)->b < wr.heap.size):=fun b e=>by
    have h9:=HTI.out.row.lt
    rcases e with e | e | e
    ·have:=HH.out b e;omega
    ·omega
    ·omega
   have HTW:=Lib.hid (fun W (u1 u2:Sl) (v1 v2:V8) (hs:BxS w wr h1 p h2 q W)=>HII.out c hlt (Hole (fun b=>H b\/b=w.heap.size+2\/b=G) wr W) W (Hole.lt HKK.out hs.bel) u1 u2 v1 v2 hs.a3)
   obtain ⟨rc,hrc⟩:∃ rc,rc=R c:=⟨_,rfl⟩
   rw [<- hrc] at HTW
   obtain ⟨pa,hpa⟩:∃ pa,pa=partA a c:=⟨_,rfl⟩
   obtain ⟨pb,hpb⟩:∃ pb,pb=partA b c:=⟨_,rfl⟩
   rw [<- hpa] at HA HTW
   rw [<- hpb] at HBB HTW
   have HRCE:=Lib.hid hrc
   clear hrc hpa hpb
   go_upto_region 8 with fail
   go_cut [29,14,15] from 29 to 51 (fun i v e wx=>i= .int .i64 (c:Int)/\BxMid (fun b=>H b\/b=w.heap.size+2\/b=G) w wr h1 p h2 q rc v e wx)
   case first =>
    have hs0:=HST0.out.dr
    have hs00:=HST0.out
    go_region_held3 (fun W=>((W.cell? ⟨w.heap.size,0,none⟩=some (.slice h1.1 h1.2.1 h1.2.2)/\W.cell? ⟨w.heap.size,1,none⟩=some (.int .i64 p.k)/\W.cell? ⟨w.heap.size,2,none⟩=some (.slice p.b.1 p.b.2.1 p.b.2.2)/\W.cell? ⟨w.heap.size,3,none⟩=some (.int .i64 p.bn)/\W.cell? ⟨w.heap.size,4,none⟩=some (.slice p.s.1 p.s.2.1 p.s.2.2)/\W.cell? ⟨w.heap.size,5,none⟩=some (.slice p.i.1 p.i.2.1 p.i.2.2)/\W.cell? ⟨w.heap.size,6,none⟩=some (.slice p.f.1 p.f.2.1 p.f.2.2)/\W.cell? ⟨w.heap.size,7,none⟩=some (.slice p.c.1 p.c.2.1 p.c.2.2)/\W.cell? ⟨w.heap.size,8,none⟩=some (.slice p.x.1 p.x.2.1 p.x.2.2))/\(W.cell? ⟨w.heap.size+1,0,none⟩=some (.slice h2.1 h2.2.1 h2.2.2)/\W.cell? ⟨w.heap.size+1,1,none⟩=some (.int .i64 q.k)/\W.cell? ⟨w.heap.size+1,2,none⟩=some (.slice q.b.1 q.b.2.1 q.b.2.2)/\W.cell? ⟨w.heap.size+1,3,none⟩=some (.int .i64 q.bn)/\W.cell? ⟨w.heap.size+1,4,none⟩=some (.slice q.s.1 q.s.2.1 q.s.2.2)/\W.cell? ⟨w.heap.size+1,5,none⟩=some (.slice q.i.1 q.i.2.1 q.i.2.2)/\W.cell? ⟨w.heap.size+1,6,none⟩=some (.slice q.f.1 q.f.2.1 q.f.2.2)/\W.cell? ⟨w.heap.size+1,7,none⟩=some (.slice q.c.1 q.c.2.1 q.c.2.2)/\W.cell? ⟨w.heap.size+1,8,none⟩=some (.slice q.x.1 q.x.2.1 q.x.2.2)))/\BxS w wr h1 p h2 q W)
     (first | (with_reducible assumption) | (with_reducible (refine bxs_s ?_);repeat (first | (with_reducible assumption) | (with_reducible refine BxS.dr ?_) | (with_reducible refine BxS.put ?_ (by first | assumption | omega | (simp;omega)) _) | (with_reducible refine BxS.al ?_ _))))
     (first
      | (go_at_call 189;(with_reducible refine (HA.out _ ?_).mono ?_);exact BxS.self (by repeat (first | (with_reducible assumption) | (with_reducible refine BxS.dr ?_) | (with_reducible refine BxS.al ?_ _)));rintro e w1 ⟨ha1,pa1,rfl,hav1,hb1⟩;have hst1:BxS w wr h1 p h2 q w1:=BxS.step (by repeat (first | (with_reducible assumption) | (with_reducible refine BxS.dr ?_) | (with_reducible refine BxS.al ?_ _))) hb1;have hat1:AvAt Ha pa ha1 pa1 w1:=hav1;obtain ⟨hc1,hf1⟩:=bcell2 hb1;have hz1:=hb1.size;have hs1z:=hst1.bel.size;(first | (have hsq1:wr.heap.size < w1.heap.size:=Nat.lt_of_lt_of_le (lt_al _ _) hz1) | (have hsq1:wr.heap.size < w1.heap.size:=Nat.lt_of_lt_of_le (lt_dr _ _) hz1) | skip);have HB1:=Lib.hid hb1;clear hb1 hav1)
      | (go_at_call 189;(with_reducible refine (HBB.out _ ?_).mono ?_);exact BxS.self (by repeat (first | (with_reducible assumption) | (with_reducible refine BxS.dr ?_) | (with_reducible refine BxS.al ?_ _)));rintro e w2 ⟨ha2,pa2,rfl,hav2,hb2⟩;have hst2:BxS w wr h1 p h2 q w2:=BxS.step (by repeat (first | (with_reducible assumption) | (with_reducible refine BxS.dr ?_) | (with_reducible refine BxS.al ?_ _))) hb2;have hat2:AvAt Hb pb ha2 pa2 w2:=hav2;have hat1':AvAt Ha pa ha1 pa1 w2:=AvAt.step (by repeat (first | (with_reducible assumption) | (with_reducible refine AvAt.dr ?_) | (with_reducible refine AvAt.al ?_ _))) hb2;obtain ⟨hc2,hf2⟩:=bcell2 hb2;have hz2:=hb2.size;have hs2z:=hst2.bel.size;(first | (have hsq2:w1.heap.size < w2.heap.size:=Nat.lt_of_lt_of_le (lt_al _ _) hz2) | (have hsq2:w1.heap.size < w2.heap.size:=Nat.lt_of_lt_of_le (lt_dr _ _) hz2) | (have hsq2:w1.heap.size<=w2.heap.size:=hz2) | skip);(first | (have hsr2:wr.heap.size < w2.heap.size:=Nat.lt_of_lt_of_le hsq1 (Nat.le_of_lt hsq2)) | (have hsr2:wr.heap.size < w2.heap.size:=Nat.lt_of_lt_of_le hsq1 hsq2) | skip);have HB2:=Lib.hid hb2;clear hb2 hav2)
      | (go_at_call 55;(with_reducible refine (HTW.out _ _ _ _ _ ?_ ?_ ?_).mono ?_);exact BxS.self (by repeat (first | (with_reducible assumption) | (with_reducible refine BxS.dr ?_) | (with_reducible refine BxS.al ?_ _)));exact AvAt.self (by repeat (first | (with_reducible assumption) | (with_reducible refine AvAt.dr ?_) | (with_reducible refine AvAt.al ?_ _)));exact AvAt.self (by repeat (first | (with_reducible assumption) | (with_reducible refine AvAt.dr ?_) | (with_reducible refine AvAt.al ?_ _)));rintro e w5 ⟨h5,u5,rfl,hav5,hb5⟩;have hst5:BxS w wr h1 p h2 q w5:=BxS.step (by repeat (first | (with_reducible assumption) | (with_reducible refine BxS.dr ?_) | (with_reducible refine BxS.al ?_ _))) hb5;obtain ⟨hc5,hf5⟩:=bcell2 hb5;have hz5:=hb5.size;have hs5z:=hst5.bel.size;(first | (have hsq5:w2.heap.size < w5.heap.size:=Nat.lt_of_lt_of_le (lt_al _ _) hz5) | (have hsq5:w2.heap.size < w5.heap.size:=Nat.lt_of_lt_of_le (lt_dr _ _) hz5) | (have hsq5:w2.heap.size<=w5.heap.size:=hz5) | skip);(first | (have hsr5:wr.heap.size < w5.heap.size:=Nat.lt_of_lt_of_le hsr2 hsq5) | skip);(first | (have hsr6:w1.heap.size < w5.heap.size:=Nat.lt_of_lt_of_le hsq2 hsq5) | skip);have HB5:=Lib.hid hb5;have HAV5:=Lib.hid hav5;clear hb5 hav5))
    all_goals
     go_wp2
     go_meet
     first
      | (with_reducible refine ⟨rfl,bxMid_new HAV5.out hst5⟩)
      | (with_reducible refine ⟨rfl,bxMid_old HAV5.out hst5 (ZB.step ?_ HB5.out) ?_ ?_⟩;all_goals (first | (with_reducible exact Nat.le_refl _) | exact hst1.bel.size | exact hst2.bel.size | (repeat (first | (with_reducible exact ZB.new _) | (with_reducible refine ZB.dr ?_) | (with_reducible refine ZB.step ?_ HB2.out) | (with_reducible refine ZB.step ?_ HB1.out)))))
   case rest =>
    obtain ⟨rfl,V,h5,u5,rfl,rfl,hVz,hVb,hav,hst⟩:=hcut
    have HTI2:=Lib.hid (HTI.out.step hst.bel)
    have HAV:=Lib.hid hav
    have HVB:=Lib.hid hVb
    have hVG:w.heap.size+3<=V:=by omega
    clear hst hav HA HBB HTW HST0 HKK HPA HPB HII HTI hVb
    obtain ⟨w4,hw4⟩:∃ w4,w4=wc:=⟨_,rfl⟩
    subst hw4
    by_cases h0:rc.1=0
    ·have ne:(rc.1 != 0)=false:=by simpa using h0
     have hR0:(R c).1=0:=by rw [<- HRCE.out];exact h0
     have HP:=Lib.hid (HTI2.out.put HG.out hlt hR0 (h:=h5) (u:=u5) (by
      rw [<- HRCE.out]
      exact AV.sub (fun b _ e => .inl e) (HAV.out.1 h0)))
     obtain ⟨⟨y0,y1,y2,y3,y4,y5,y6,y7,y8⟩,yz⟩:=at9_of HVB.out
     obtain ⟨⟨c0,c1,c2,c3,c4,c5,c6,c7,c8⟩,cz⟩:=HTI2.out.row.at_ c hlt
     clear h0 hR0 HAV HRB
     go_wp2
     go_roundw
     case rel=>exact ⟨c+1,_,_,by omega,by go_num,HP.out⟩
     case measure=>simp [intOf];omega
    ·have ne:(rc.1 != 0)=true:=by simpa using h0
     have HE:Hid (r.1=rc.1):=by
      unfold Hid
      rw [HRCE.out]
      exact HRB.out c hlt (fun j hj=>(HTI2.out.ok j hj).1) (by rw [<- HRCE.out];exact h0)
     have HN:=Lib.hid h0
     clear h0 HRB
     obtain ⟨⟨y0,y1,y2,y3,y4,y5,y6,y7,y8⟩,yz⟩:=zero_block HTI2.out.a3.res
     go_wp2
     refine bodyPost_ret (v := .tuple #[arrV nilS zeroP,.int .i64 rc.1]) ?_ rfl (twR_err HE.out HN.out (below_set9 HTI2.out.a3.bel (Nat.le_add_right _ 2) _ _ _ _ _ _ _ _ _))
     exact ret_arr2 (fn:=Tryz.f119) (p:=8) (u:=9) rfl _ _ (w.heap.size+2) (by rfl) (set9_block HTI2.out.a3.res _ _ _ _ _ _ _ _ _)
  ·obtain rfl:c=n:=by omega
   have hge:¬ (c:Int) < (c:Int):=by omega
   have HCL:=Lib.hid (fun W (hb:Below wr.heap.size wr W)=>clSh_now (fun b=>H b\/b=w.heap.size+2) (w:=W) (h:=s) (s:=sh) ((HGS.out.lat (Lat.below (bel_both HTI.out.a3.bel hb))).now) HSL.out (fun b e=>by
    have h9:=HTI.out.a3.sz
    have h10:=hb.size
    rcases e with e | e
    ·have:=HH.out b e;omega
    ·omega))
   have HASL:Hid (ASl (fun b=>H b\/b=w.heap.size+2) wr (some ⟨G,0,none⟩,c,c) ((List.range c).map fun j=>(R j).2)):=by
    refine ARow.asl HTI.out.row (fun e=>?_) _ (by simp) (fun i hi=>?_) c
    ·rcases e with e | e
     ·have:=HH.out _ e;have:=HG.out;omega
     ·have:=HG.out;omega
    ·have hi2:i < c:=by simpa using hi
     simp only [List.getElem_map,List.getElem_range]
     exact AV.sub (fun b _ e=>by
      rcases e with e | e
      ·exact .inl e
      ·exact .inr (.inl e)) (HTI.out.ok i hi2).2
   have HRR:=Lib.hid (HR.out fun j hj=>(HTI.out.ok j hj).1)
   have hcl:=HCL.out _ (Below.refl _ wr)
   clear HPA HPB HII HR HRB
   go_wp2_with fail
   refine hcl.mono ?_
   rintro e w5 ⟨A5,n5,c5,rfl,hsv,hb5⟩
   have HSV:=Lib.hid hsv
   have HB5:=Lib.hid hb5
   have HA5:=Lib.hid (HTI.out.a3.step hb5)
   have HBX:=Lib.hid (boxes_any (H:=fun b=>H b\/b=w.heap.size+2) (HASL.out.step hb5) (by simp;omega) (fun b e=>by
    have h9:=HA5.out.sz
    rcases e with e | e
    ·have:=HH.out b e;omega
    ·omega))
   unfold BxR at HBX
   clear hsv hb5 hcl HCL
   go_wp2_with fail
   refine HBX.out.mono ?_
   rintro e w6 ⟨x6,rfl,hx6,hb6⟩
   have HA6:=Lib.hid (HA5.out.step hb6)
   obtain ⟨xA,xn,xc⟩:=x6
   have HAV:Hid (AV H (set9 w6 (w.heap.size+2) (sv (A5,n5,c5)) (.int .i64 6) (sv nilS) (.int .i64 0) (sv nilS) (sv nilS) (sv nilS) (sv nilS) (sv (xA,xn,xc))) (.boxes sh ((List.range c).map fun j=>(R j).2)) (A5,n5,c5) (boxesP (xA,xn,xc))) :=
    AV.sub (fun b _ e => .inl e) (AV.lat (Lat.set9 (G:=w.heap.size+2) (.inr rfl) _ _ _ _ _ _ _ _ _) (ASl.av hx6 (HSV.out.lat (Lat.below hb6))))
   clear hx6 hb6
   obtain ⟨⟨y0,y1,y2,y3,y4,y5,y6,y7,y8⟩,yz⟩:=zero_block HA6.out.res
   go_wp2
   refine bodyPost_ret (v := .tuple #[arrV (A5,n5,c5) (boxesP (xA,xn,xc)),.int .i64 0]) ?_ rfl (twR_ok (by rw [HRR.out]) (by rw [HRR.out];exact HAV.out) (below_set9 HA6.out.bel (Nat.le_add_right _ 2) _ _ _ _ _ _ _ _ _))
   exact ret_arr2 (fn:=Tryz.f119) (p:=8) (u:=9) rfl _ _ (w.heap.size+2) (by rfl) (set9_block HA6.out.res _ _ _ _ _ _ _ _ _)
theorem twoE_unknown {N:Nat}{f:Int}{a b:PA} (h:knownB f=false):(twoE (N+1) f a b).1=1:=by rw [twoE,if_pos h]
theorem twoE_frame {N:Nat}{f:Int}{a b:PA} (h:knownB f=true) (hf:(frameE a b).1≠0):(twoE (N+1) f a b).1=(frameE a b).1:=by rw [twoE,if_neg (by rw [h];decide),if_pos hf]
theorem twoE_box {N:Nat}{f:Int}{a b:PA} (h:knownB f=true) (hf:(frameE a b).1=0) (hx:a.fill=2\/b.fill=2):twoE (N+1) f a b=bxE (lenE a b) (fun i=>twoE N f (partA a i) (partA b i)) (frameE a b).2:=by
 rw [twoE,if_neg (by rw [h];decide),if_neg (fun e=>e hf),if_pos hx]
 rfl
theorem twoE_flat {N:Nat}{f:Int}{a b:PA} (h:knownB f=true) (hf:(frameE a b).1=0) (hx:¬ (a.fill=2\/b.fill=2)):twoE (N+1) f a b=flatR f a b:=by
 rw [twoE,if_neg (by rw [h];decide),if_neg (fun e=>e hf),if_neg hx]
 rfl
theorem ptwo_any:∀ (N:Nat) (H Ha Hb:Nat->Prop) (f:Int) (a b:PA) (d e:Nat) (h1 h2:Sl) (p q:V8) (w:World),(∀ b,H b->b < w.heap.size)->(∀ b,Ha b->b < w.heap.size)->(∀ b,Hb b->b < w.heap.size) ->
  GoodA d a->GoodA e b->SmA 1000000 a->SmA 1000000 b->depA a+depA b < N->AV Ha w a h1 p->AV Hb w b h2 q ->
  Calls Tryz.prog 55 #[.int .i64 f,arrV h1 p,arrV h2 q] w (TwR H w (twoE N f a b))
 | 0,_,_,_,_,_,_,_,_,_,_,_,_,_,_,_,_,_,_,_,_,hN,_,_=>absurd hN (Nat.not_lt_zero _)
 | N+1,H,Ha,Hb,f,a,b,d,e,h1,h2,p,q,w,hH,hHa,hHb,ga,gb,sa,sb,hN,va,vb=>by
  have la:a.shape.length<=1048576:=by have:a.shape.length<=8:=ga.sh.2.1;omega
  have lb:b.shape.length<=1048576:=by have:b.shape.length<=8:=gb.sh.2.1;omega
  cases hk:knownB f with
  | false=>exact two_unknown H f hk h1 h2 p q _ (twoE_unknown hk) w
  | true =>
   by_cases hf:(frameE a b).1=0
   ·have hfo:=frameE_ok ga gb hf
    by_cases hx:a.fill=2\/b.fill=2
    ·refine two_box f hk _ w hH va vb la lb hf (by
      by_cases h2:a.fill=2
      ·exact .inl h2
      ·exact .inr ⟨h2,hx.resolve_left h2⟩) ?_
     intro W H' s hb hH' hs
     rw [twoE_box hk hf hx]
     have hsz:=hb.size
     have key:∀ (Hs:Nat->Prop),ShV Hs W s (frameE a b).2->Calls Tryz.prog 119 #[.int .i64 f,arrV h1 p,arrV h2 q,sv s] W (TwR H' W (bxE (lenE a b) (fun i=>twoE N f (partA a i) (partA b i)) (frameE a b).2)):=by
      intro Hs gs
      refine boxes24_any (H:=H') (Ha:=Ha) (Hb:=Hb) (Hs:=Hs) f (fun i=>twoE N f (partA a i) (partA b i)) (lenE a b) s (frameE a b).2 W hH' (fun b e=>by have:=hHa b e;omega) (fun b e=>by have:=hHb b e;omega) (AV.step va hb) (AV.step vb hb) gs hfo.1 (lenE_le sa sb) sa.len sb.len (fun i hi=>ixP_both ga gb hf hi) ?_
      intro i hi H2 W2 u1 u2 v1 v2 hH2 g1 g2 hs2
      have hij:=ixP_both ga gb hf hi
      have da:=partA_dep hij.1
      have db:=partA_dep hij.2
      refine ptwo_any N H2 Ha Hb f (partA a i) (partA b i) d e u1 u2 v1 v2 W2 hH2 (fun b e=>by have:=hHa b e;omega) (fun b e=>by have:=hHb b e;omega) (partA_good ga hij.1) (partA_good gb hij.2) (smA_one (by decide) sa i hij.1) (smA_one (by decide) sb i hij.2) ?_ g1 g2
      rcases hx with hx | hx
      ·have:=da.2 hx;omega
      ·have:=db.2 hx;omega
     rcases hs with ⟨rfl,h⟩ | ⟨rfl,h⟩
     ·exact key Ha (by rw [h];exact (va.shape).lat (Lat.below hb))
     ·exact key Hb (by rw [h];exact (vb.shape).lat (Lat.below hb))
    ·rw [twoE_flat hk hf hx]
     exact two_flat f hk w hH hHa hHb va vb la lb (fun h=>hx (.inl h)) (fun h=>hx (.inr h)) hf hfo.2 sa.len sb.len
   ·exact two_frame f hk _ (twoE_frame hk hf) w va vb la lb hf
noncomputable abbrev monL (f:Int) (l:List Nat):Int×List Nat:=numsE l.length fun c=>monP f (l.getD c 0)
noncomputable def oneN (f:Int) (s l:List Nat):Int×PA:=if (monL f l).1≠0 then ((monL f l).1,default) else (0,.nums s (monL f l).2)
noncomputable def oneE:Nat->Int->PA->Int×PA
 | 0,_,_=>(1,default)
 | N+1,f,a =>
  if 1<=f/\f<=8 then
   match a with
   | .nums s l=>oneN f s l
   | .chars _ _=>(24,default)
   | .boxes s l=>bxE l.length (fun i=>oneE N f (l.getD i default)) s
  else (1,default)
theorem oneE_unknown {N:Nat}{f:Int}{a:PA} (h:¬ (1<=f/\f<=8)):(oneE (N+1) f a).1=1:=by unfold oneE;rw [if_neg h]
theorem oneE_nums {N:Nat}{f:Int}{s l:List Nat} (h:1<=f/\f<=8):oneE (N+1) f (.nums s l)=oneN f s l:=by rw [oneE,if_pos h]
theorem oneE_chars {N:Nat}{f:Int}{s:List Nat}{l:List Int} (h:1<=f/\f<=8):(oneE (N+1) f (.chars s l)).1=24:=by rw [oneE,if_pos h]
theorem oneE_box {N:Nat}{f:Int}{s:List Nat}{l:List PA} (h:1<=f/\f<=8):oneE (N+1) f (.boxes s l)=bxE l.length (fun i=>oneE N f (l.getD i default)) s:=by rw [oneE,if_pos h]
theorem depA_at {s:List Nat}{l:List PA}{i:Nat} (hi:i < l.length):depA (l.getD i default) < depA (.boxes s l):=by
 have e:l.getD i default=l[i]:=by simp [List.getD,hi]
 have h:=depAs_at hi
 rw [e,depA]
 omega
theorem good_at {d:Nat}{s:List Nat}{l:List PA} (h:GoodA d (.boxes s l)){i:Nat} (hi:i < l.length):GoodA (d - 1) (l.getD i default):=by
 have e:l.getD i default=l[i]:=by simp [List.getD,hi]
 rw [e]
 exact h.boxes _ hi
theorem oneE_good:∀ (N:Nat) (f:Int) (a:PA) (d:Nat),GoodA d a->depA a < N->(oneE N f a).1=0->GoodA d (oneE N f a).2
 | 0,_,_,_,_,h,_=>absurd h (Nat.not_lt_zero _)
 | N+1,f,a,d,ga,hN,h0=>by
  by_cases hf:1<=f/\f<=8
  ·cases a with
   | nums s l =>
    rw [oneE_nums hf] at h0 ⊢
    unfold oneN at h0 ⊢
    rcases numsE_cases l.length (fun c=>monP f (l.getD c 0)) with ⟨_,hq⟩ | ⟨hall,hq⟩
    ·rw [show monL f l=(24,[]) from hq] at h0;cases h0
    ·rw [show monL f l=(0,(List.range l.length).map fun c=>(monP f (l.getD c 0)).1) from hq,if_neg (by simp)]
     have hs:=ga.sh
     rw [GoodA]
     refine ⟨hs.1,by simp only [List.length_map,List.length_range];exact hs.2,fun x hx=>?_⟩
     obtain ⟨c,hc,rfl⟩:=List.mem_map.1 hx
     have hc':=List.mem_range.1 hc
     rcases monP_cases hf.1 hf.2 (show TF (l.getD c 0) from ga.nums _ hc') with ⟨y,hy,e1⟩ | e1
     ·rw [e1];exact hy
     ·have:=hall c hc';rw [e1] at this;cases this
   | chars s l=>rw [oneE_chars hf] at h0;cases h0
   | boxes s l =>
    rw [oneE_box hf] at h0 ⊢
    unfold bxE at h0 ⊢
    split at h0
    ·rename_i hq;exact absurd h0 hq
    ·rename_i hq
     rw [if_neg hq]
     have hm:=seqE_mem (Classical.not_not.1 hq)
     have hs:=ga.sh
     show GoodA _ (.boxes _ _)
     rw [GoodA,hm.1]
     refine ⟨hs.1,by simp only [List.length_map,List.length_range];exact hs.2,goodAs_of _ fun i hi=>?_⟩
     have hi':i < l.length:=by simpa using hi
     have h1:=hm.2 i (by simpa using hi')
     simp only [List.getElem_map,List.getElem_range] at h1 ⊢
     exact oneE_good N f _ _ (good_at ga hi') (by have:=depA_at (s:=s) hi';omega) h1
  ·rw [oneE_unknown hf] at h0;cases h0
theorem oneE_small {M:Nat}:∀ (N:Nat) (f:Int) (a:PA),SmA M a->depA a < N->(oneE N f a).1=0->SmA M (oneE N f a).2
 | 0,_,_,_,h,_=>absurd h (Nat.not_lt_zero _)
 | N+1,f,a,sa,hN,h0=>by
  by_cases hf:1<=f/\f<=8
  ·cases a with
   | nums s l =>
    rw [oneE_nums hf] at h0 ⊢
    unfold oneN at h0 ⊢
    split at h0
    ·rename_i hq;exact absurd h0 hq
    ·rename_i hq
     rw [if_neg hq,SmA]
     exact Nat.le_trans (numsE_le _ _) sa.len
   | chars s l=>rw [oneE_chars hf] at h0;cases h0
   | boxes s l =>
    rw [oneE_box hf] at h0 ⊢
    unfold bxE at h0 ⊢
    split at h0
    ·rename_i hq;exact absurd h0 hq
    ·rename_i hq
     rw [if_neg hq]
     have hm:=seqE_mem (Classical.not_not.1 hq)
     show SmA _ (.boxes _ _)
     rw [SmA,hm.1]
     refine ⟨by simp only [List.length_map,List.length_range];exact sa.len,smAs_of _ fun i hi=>?_⟩
     have hi':i < l.length:=by simpa using hi
     have h1:=hm.2 i (by simpa using hi')
     simp only [List.getElem_map,List.getElem_range] at h1 ⊢
     have hsm:SmA M (l.getD i default):=by
      have e:l.getD i default=l[i]:=by simp [List.getD,hi']
      rw [e]
      exact sa.boxes _ hi'
     exact oneE_small N f _ hsm (by have:=depA_at (s:=s) hi';omega) h1
  ·rw [oneE_unknown hf] at h0;cases h0
theorem A1.dr {w W:World}{h:Sl}{p:V8} (g:A1 w W h p):A1 w W.drew h p:=g.step (Below.refl _ W).drew
theorem A1.self {w W:World}{h:Sl}{p:V8} (g:A1 w W h p):A1 w W h p:=g
structure OV (w:World) (h1:Sl) (V:Nat) (u:V8) (W:World):Prop where
 sh:W.cell? ⟨w.heap.size,0,none⟩=some (.slice h1.1 h1.2.1 h1.2.2)
 v:BV V u W
 lo:w.heap.size < W.heap.size
theorem OV.dr {w W:World}{h1:Sl}{V:Nat}{u:V8} (g:OV w h1 V u W):OV w h1 V u W.drew:=⟨g.sh,g.v.dr,g.lo⟩
theorem OV.put {w W:World}{h1:Sl}{V:Nat}{u:V8} (g:OV w h1 V u W){b j:Nat} (hb:b≠w.heap.size) (hv:b≠V) (x:Value):OV w h1 V u (W.setCell ⟨b,j,none⟩ x) :=
 ⟨by rw [World.cell?_of_block (w:=W) (Below.heap_setCell _ _ _ _ (by show w.heap.size≠b;omega))];exact g.sh,g.v.put hv x,by rw [size_setCell'];exact g.lo⟩
theorem ov_s {w W:World}{h1:Sl}{u:V8}{w5:World} (g:OV w h1 w5.heap.size u W):(W.cell? ⟨w.heap.size,0,none⟩=some (.slice h1.1 h1.2.1 h1.2.2)/\W.cell? ⟨w5.heap.size,0,none⟩=some (.int .i64 u.k)/\W.cell? ⟨w5.heap.size,1,none⟩=some (.slice u.b.1 u.b.2.1 u.b.2.2)/\W.cell? ⟨w5.heap.size,2,none⟩=some (.int .i64 u.bn)/\W.cell? ⟨w5.heap.size,3,none⟩=some (.slice u.s.1 u.s.2.1 u.s.2.2)/\W.cell? ⟨w5.heap.size,4,none⟩=some (.slice u.i.1 u.i.2.1 u.i.2.2)/\W.cell? ⟨w5.heap.size,5,none⟩=some (.slice u.f.1 u.f.2.1 u.f.2.2)/\W.cell? ⟨w5.heap.size,6,none⟩=some (.slice u.c.1 u.c.2.1 u.c.2.2)/\W.cell? ⟨w5.heap.size,7,none⟩=some (.slice u.x.1 u.x.2.1 u.x.2.2))/\OV w h1 w5.heap.size u W:=⟨⟨g.sh,g.v⟩,g⟩
noncomputable def oneR (s:List Nat) (q:Int×List Nat):Int×PA:=if q.1≠0 then (q.1,default) else (0,.nums s q.2)
theorem one_flat {H:Nat->Prop} (f:Int) (hf:1<=f/\f<=8){a:PA}{h1:Sl}{p:V8} (q:Int×List Nat) (w:World) (hH:∀ b,H b->b < w.heap.size) (ga:AV H w a h1 p) (sa:a.shape.length<=1048576) (fa:a.fill≠2)
  (hap:∀ W,Below w.heap.size w W->∀ K:Nat->Prop,(∀ b,b < w.heap.size->K b->H b)->(∀ b,K b->b < W.heap.size)->Calls Tryz.prog 59 #[.int .i64 f,p.v] W (FltOut K W q)) :
  Calls Tryz.prog 13 #[.int .i64 f,arrV h1 p] w (TwR H w (oneR a.shape q)):=by
 have hf1:¬ f < 1:=by omega
 have hf8:¬ 8 < f:=by omega
 have hd1:=decide_eq_false hf1
 have hd8:=decide_eq_false hf8
 have HCA:=Lib.hid (fun W (hs:A1 w W h1 p)=>av_class ga W hs.bel)
 have HAP:=Lib.hid (fun W K (hs:A1 w W h1 p)=>hap W hs.bel K)
 have HSA:=Lib.hid ga.shp
 have HLA:=Lib.hid sa
 have HH:=Lib.hid hH
 have HS0:=Lib.hid (A1.new w h1 p)
 have xa:((a.fill:Int) != 2)=true:=by simp;omega
 unfold FltOut ZeroE at HAP
 have HR:=Lib.hid (show oneR a.shape q=if q.1≠0 then (q.1,default) else (0,.nums a.shape q.2) from rfl)
 generalize oneR a.shape q=r at HR ⊢
 generalize a.shape=sh at *
 generalize a.fill=za at HCA xa
 clear ga hH fa hf hap sa
 go_enter Tryz.func13,Tryz.ntmps13
 obtain ⟨c0,c1,c2,c3,c4,c5,c6,c7,c8⟩:=HS0.out.one.c
 go_wp2_with fail
 refine (HCA.out _ HS0.out).mono ?_
 rintro e w3 ⟨rfl,hb⟩
 have HS3:=Lib.hid (HS0.out.step hb)
 clear hb c0 c1 c2 c3 c4 c5 c6 c7 c8 HS0
 obtain ⟨c0,c1,c2,c3,c4,c5,c6,c7,c8⟩:=HS3.out.one.c
 go_wp2_with fail
 refine (HAP.out _ (fun b=>H b\/b=w.heap.size+1) HS3.out (fun b hb e=>by
  rcases e with e | e
  ·exact e
  ·omega) (fun b e=>by
  have h9:=HS3.out.sz
  rcases e with e | e
  ·have:=HH.out b e;omega
  ·omega)).mono ?_
 clear c0 c1 c2 c3 c4 c5 c6 c7 c8
 rintro e w5 (⟨he,u,rfl,hu,hb⟩ | ⟨he,rfl,hb⟩)
 ·have HS5:=Lib.hid (HS3.out.step hb)
  have HE:=Lib.hid he
  have HS6:=Lib.hid (HS5.out.step (bel1 w5 u.o))
  have HV:=Lib.hid (boxP_new w5 u)
  obtain ⟨w6,hw6⟩:∃ w6,w6=w5.alloc u.o:=⟨_,rfl⟩
  have HW6:=Lib.hid hw6
  rw [<- hw6] at HS6 HV
  have HLD:Hid (LdV w6 w5.heap.size (w.heap.size+1) u w6):=⟨HV.out,HS6.out.res,Below.refl _ _⟩
  have HUN:Hid (NumA (fun b=>H b\/b=w.heap.size+1) w6 u q.2):=by
   rw [hw6]
   exact hu.lat (Lat.below (bel1 w5 _))
  clear hb hu he hw6 HS3
  have HCL:=Lib.hid (fun W (hs:LdV w6 w5.heap.size (w.heap.size+1) u W)=>clSh_now (fun b=>H b\/b=w.heap.size+1) (w:=W) (h:=h1) (s:=sh) ((HSA.out.lat (Lat.below (bel_both HS6.out.bel hs.bel))).now) HLA.out (fun b e=>by
   have h9:=HS6.out.sz
   have h10:=hs.bel.size
   rcases e with e | e
   ·have:=HH.out b e;omega
   ·omega))
  have HFL:Hid (r.1=0/\r.2= .nums sh q.2):=by unfold Hid;rw [HR.out,if_neg (by simpa using HE.out)];exact ⟨rfl,rfl⟩
  have ne:(q.1 != 0)=false:=by simpa using HE.out
  have HGV:Hid (w.heap.size+1≠w5.heap.size):=by have h9:=HS5.out.sz;unfold Hid;omega
  have HGW:Hid (w.heap.size+1≠w.heap.size):=by unfold Hid;omega
  have HOV:Hid (OV w h1 w5.heap.size u w6):=⟨HS6.out.one.c.1,HLD.out.one,by have:=HS6.out.sz;omega⟩
  clear HR HS5 HAP HCA HSA HLA
  obtain ⟨c0,c1,c2,c3,c4,c5,c6,c7,c8⟩:=HS6.out.one.c
  go_wp2_with fail
  rw [<- HW6.out]
  have hs0:=HLD.out.dr
  have hs00:=HLD.out
  have hv0:=HOV.out.dr
  have hv00:=HOV.out
  have hGV:w.heap.size+1≠w5.heap.size:=HGV.out
  have hGW:w.heap.size+1≠w.heap.size:=HGW.out
  go_region_held3 (fun W=>(W.cell? ⟨w.heap.size,0,none⟩=some (.slice h1.1 h1.2.1 h1.2.2)/\W.cell? ⟨w5.heap.size,0,none⟩=some (.int .i64 u.k)/\W.cell? ⟨w5.heap.size,1,none⟩=some (.slice u.b.1 u.b.2.1 u.b.2.2)/\W.cell? ⟨w5.heap.size,2,none⟩=some (.int .i64 u.bn)/\W.cell? ⟨w5.heap.size,3,none⟩=some (.slice u.s.1 u.s.2.1 u.s.2.2)/\W.cell? ⟨w5.heap.size,4,none⟩=some (.slice u.i.1 u.i.2.1 u.i.2.2)/\W.cell? ⟨w5.heap.size,5,none⟩=some (.slice u.f.1 u.f.2.1 u.f.2.2)/\W.cell? ⟨w5.heap.size,6,none⟩=some (.slice u.c.1 u.c.2.1 u.c.2.2)/\W.cell? ⟨w5.heap.size,7,none⟩=some (.slice u.x.1 u.x.2.1 u.x.2.2))/\OV w h1 w5.heap.size u W)
   (first | (with_reducible assumption) | (with_reducible (refine ov_s ?_);repeat (first | (with_reducible assumption) | (with_reducible refine OV.dr ?_) | (with_reducible refine OV.put ?_ (by first | assumption | omega) (by first | assumption | omega) _))))
   (first
    | (go_at_call 60;(with_reducible refine (HCL.out _ ?_).mono ?_);exact LdV.self (by repeat (first | (with_reducible assumption) | (with_reducible refine LdV.dr ?_)));rintro e w7 ⟨A7,n7,c7',rfl,hsh7,hb7⟩;have hst7:LdV w6 w5.heap.size (w.heap.size+1) u w7:=LdV.step (by repeat (first | (with_reducible assumption) | (with_reducible refine LdV.dr ?_))) hb7;have hbv7:OV w h1 w5.heap.size u w7:=⟨by rw [hst7.bel.cell (p:=⟨w.heap.size,0,none⟩) (by show w.heap.size < _;exact hv00.lo)];exact hv00.sh,hst7.one,Nat.lt_of_lt_of_le hv00.lo hst7.bel.size⟩;have HST7:=Lib.hid hst7;have HSH7:=Lib.hid hsh7;obtain ⟨⟨y0,y1,y2,y3,y4,y5,y6,y7,y8⟩,yz⟩:=zero_block hst7.res;clear hb7 hsh7))
  all_goals
   go_wp2
   refine bodyPost_ret (v := .tuple #[arrV (A7,n7,c7') u,.int .i64 0]) ?_ rfl (twR_ok HFL.out.1 ?_ (below_set9 (bel_both HS6.out.bel HST7.out.bel) (Nat.le_add_right _ 1) _ _ _ _ _ _ _ _ _))
   ·exact ret_arr2 (fn:=Tryz.f13) (p:=4) (u:=5) rfl _ _ (w.heap.size+1) (by rfl) (set9_block HST7.out.res _ _ _ _ _ _ _ _ _)
   ·rw [HFL.out.2]
    refine AV.sub (fun b _ e => .inl e) (AV.lat (H:=fun b=>H b\/b=w.heap.size+1) (Lat.set9 (G:=w.heap.size+1) (.inr rfl) _ _ _ _ _ _ _ _ _) (w:=w7) ?_)
    rw [AV]
    exact ⟨HSH7.out,HUN.out.lat (Lat.below HST7.out.bel)⟩
 ·have HS5:=Lib.hid (HS3.out.step hb)
  have HE:=Lib.hid he
  have HS6:=Lib.hid (HS5.out.step (bel1 w5 (.cells zcells 37)))
  have ne:(q.1 != 0)=true:=by simpa using he
  have HFL:Hid (r.1=q.1):=by unfold Hid;rw [HR.out,if_pos he]
  clear hb he HS3 HS5 HAP HCA HSA HLA HR
  obtain ⟨⟨y0,y1,y2,y3,y4,y5,y6,y7,y8⟩,yz⟩:=zero_block HS6.out.res
  go_wp2
  refine bodyPost_ret (v := .tuple #[arrV nilS zeroP,.int .i64 q.1]) ?_ rfl (twR_err HFL.out HE.out (below_set9 HS6.out.bel (Nat.le_add_right _ 1) _ _ _ _ _ _ _ _ _))
  exact ret_arr2 (fn:=Tryz.f13) (p:=4) (u:=5) rfl _ _ (w.heap.size+1) (by rfl) (set9_block HS6.out.res _ _ _ _ _ _ _ _ _)
theorem one_unknown (H:Nat->Prop) (f:Int) (hf:¬ (1<=f/\f<=8)) (h1:Sl) (p:V8) (r:Int×PA) (hr:r.1=1) (w:World) :
  Calls Tryz.prog 13 #[.int .i64 f,arrV h1 p] w (TwR H w r):=by
 have HS0:=Lib.hid (A1.new w h1 p)
 have HE:=Lib.hid hr
 clear hr
 have hc:f < 1\/(¬ f < 1/\8 < f):=by omega
 clear hf
 rcases hc with h | ⟨h,h8⟩
 ·have hd1:=decide_eq_true h
  obtain ⟨⟨y0,y1,y2,y3,y4,y5,y6,y7,y8⟩,yz⟩:=zero_block HS0.out.res
  go_enter Tryz.func13,Tryz.ntmps13
  go_wp2
  refine bodyPost_ret (v := .tuple #[arrV nilS zeroP,.int .i64 1]) ?_ rfl (twR_err HE.out (by decide) HS0.out.bel)
  exact ret_arr2 (fn:=Tryz.f13) (p:=4) (u:=5) rfl _ _ (w.heap.size+1) (by rfl) HS0.out.res
 ·have hd1:=decide_eq_false h
  have hd8:=decide_eq_true h8
  obtain ⟨⟨y0,y1,y2,y3,y4,y5,y6,y7,y8⟩,yz⟩:=zero_block HS0.out.res
  go_enter Tryz.func13,Tryz.ntmps13
  go_wp2
  refine bodyPost_ret (v := .tuple #[arrV nilS zeroP,.int .i64 1]) ?_ rfl (twR_err HE.out (by decide) HS0.out.bel)
  exact ret_arr2 (fn:=Tryz.f13) (p:=4) (u:=5) rfl _ _ (w.heap.size+1) (by rfl) HS0.out.res
end Go.Proofs.YtiahegjdkejjpaaGreatDoor
