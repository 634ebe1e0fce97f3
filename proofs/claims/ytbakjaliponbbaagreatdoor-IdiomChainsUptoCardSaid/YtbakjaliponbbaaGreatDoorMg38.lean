/- The walk of the law IdiomChains. Printed by gen_lc4.py. Plain arrays that came in: what their reading says of memory. What came in has room for its shape, and .. Conditions: as each theorem says. -/
import Derived.Test.YtbakjaliponbbaaGreatDoorMg37
import Derived.Test.YtbakjaliponbbaaGreatDoorMg34
import Derived.Test.YtbakjaliponbbaaGreatDoorRows
import Derived.Test.YtbakjaliponbbaaGreatDoorMg07
import Derived.ProofKit
import Derived.Deep.Slices
import Derived.Deep.Fields
import Derived.ChangeSame
import Derived.Test.YtbakjaliponbbaaGreatDoorMg25
import Derived.Test.YtbakjaliponbbaaGreatDoorMg11
set_option maxRecDepth 100000
set_option maxHeartbeats 2000000
namespace Go.Proofs.YtbakjaliponbbaaGreatDoor
open Go Go.RowKit Go.Proofs Fl
theorem pair_at {w:World}{j:Nat} (hj:j < 12){W:World} (hb:Below (w.alloc (.cells pairV 49)).heap.size (w.alloc (.cells pairV 49)) W):W.cell? ⟨w.heap.size,j*2,none⟩=some (.int .i32 (sgF j))/\W.cell? ⟨w.heap.size,j*2+1,none⟩=some (.int .i32 (sgG j)):=by
 have h9:=heap_alloc_new w (.cells pairV 49)
 have h8:W.heap[w.heap.size]?=some (.cells pairV 49):=by rw [hb.block _ (lt_blk h9)];exact h9
 rw [cell_of_row _ w.heap.size (j*2) _ _ (0,0) h8,cell_of_row _ w.heap.size (j*2+1) _ _ (0,0) h8]
 have:∀ j,j < 12->pairV[j*2]?=some (.int .i32 (sgF j))/\pairV[j*2+1]?=some (.int .i32 (sgG j)):=by
  intro j hj
  match j,hj with
  | 0,_=>exact ⟨rfl,rfl⟩
  | 1,_=>exact ⟨rfl,rfl⟩
  | 2,_=>exact ⟨rfl,rfl⟩
  | 3,_=>exact ⟨rfl,rfl⟩
  | 4,_=>exact ⟨rfl,rfl⟩
  | 5,_=>exact ⟨rfl,rfl⟩
  | 6,_=>exact ⟨rfl,rfl⟩
  | 7,_=>exact ⟨rfl,rfl⟩
  | 8,_=>exact ⟨rfl,rfl⟩
  | 9,_=>exact ⟨rfl,rfl⟩
  | 10,_=>exact ⟨rfl,rfl⟩
  | 11,_=>exact ⟨rfl,rfl⟩
  | n+12,h=>omega
 exact this j hj
structure LcS (w wr:World) (C:Nat) (F G:Int) (h x:Sl) (f:Int) (W:World):Prop where
 eg:EgS w wr h x f W
 lt:C < wr.heap.size
 pr:W.heap[C]?=some (.cells #[.int .i32 F,.int .i32 G] 49)
theorem LcS.step {w wr W W':World}{C:Nat}{F G:Int}{h x:Sl}{f:Int} (g:LcS w wr C F G h x f W) (hb:Below W.heap.size W W'):LcS w wr C F G h x f W':=⟨g.eg.step hb,g.lt,by rw [hb.block _ (lt_blk g.pr)];exact g.pr⟩
theorem LcS.dr {w wr W:World}{C:Nat}{F G:Int}{h x:Sl}{f:Int} (g:LcS w wr C F G h x f W):LcS w wr C F G h x f W.drew:=g.step (Below.refl _ W).drew
theorem LcS.al {w wr W:World}{C:Nat}{F G:Int}{h x:Sl}{f:Int} (g:LcS w wr C F G h x f W) (o:Obj):LcS w wr C F G h x f (W.alloc o):=g.step (bel1 W o)
theorem LcS.put {w wr W:World}{C:Nat}{F G:Int}{h x:Sl}{f:Int} (g:LcS w wr C F G h x f W){b j:Nat} (hb:wr.heap.size<=b) (u:Value):LcS w wr C F G h x f (W.setCell ⟨b,j,none⟩ u):=⟨g.eg.put hb u,g.lt,by rw [Below.heap_setCell _ _ _ _ (by have:=g.lt;show C≠b;omega)];exact g.pr⟩
theorem LcS.self {w wr W:World}{C:Nat}{F G:Int}{h x:Sl}{f:Int} (g:LcS w wr C F G h x f W):LcS w wr C F G h x f W:=g
theorem lcs_s {w wr W:World}{C:Nat}{F G:Int}{h x:Sl}{f:Int} (g:LcS w wr C F G h x f W):(W.cell? ⟨w.heap.size,0,none⟩=some (.slice h.1 h.2.1 h.2.2)/\W.cell? ⟨w.heap.size,1,none⟩=some (.slice x.1 x.2.1 x.2.2)/\W.cell? ⟨w.heap.size,2,none⟩=some (.int .i64 f))/\(W.cell? ⟨C,0,none⟩=some (.int .i32 F)/\W.cell? ⟨C,1,none⟩=some (.int .i32 G))/\LcS w wr C F G h x f W :=
 ⟨at3_c g.eg.one,⟨by rw [cell_of_row _ C 0 _ _ (0,0) g.pr];rfl,by rw [cell_of_row _ C 1 _ _ (0,0) g.pr];rfl⟩,g⟩
def OaU (H:Nat->Prop) (w:World) (r:Option PA) (e:Ending) (w':World):Prop :=
 ∃ (h:Sl) (p:V8) (ok:Bool),e= .returned (.tuple #[arrV h p,.bool ok])/\(∀ a,r=some a->ok=true/\AV H w' a h p)/\(r=none->ok=false/\h=nilS/\p=zeroP)/\Below w.heap.size w w'
theorem OaR.u {H:Nat->Prop}{w:World}{r:Option PA}{e:Ending}{w':World} (g:OaR H w r e w'):OaU H w r e w':=by
 cases r with
 | some a =>
  obtain ⟨h,p,e1,h1,h2⟩:=g
  exact ⟨h,p,true,e1,(fun b hb=>by injection hb with hb;subst hb;exact ⟨rfl,h1⟩),(fun hn=>by cases hn),h2⟩
 | none =>
  obtain ⟨e1,h2⟩:=g
  exact ⟨nilS,zeroP,false,e1,(fun b hb=>by cases hb),(fun _=>⟨rfl,rfl,rfl⟩),h2⟩
def LcM (w wr:World) (C:Nat) (F G:Int) (h x:Sl) (f:Int) (r:Option PA) (va vo:Value) (wx:World):Prop :=
 ∃ (A:Nat) (u:Sl) (p:V8) (ok:Bool),va= .pointer (some ⟨A,0,none⟩)/\vo= .bool ok/\wr.heap.size<=A/\wx.heap[A]?=some (arrO u p)/\(∀ a,r=some a->ok=true/\AV (fun b=>b=A) wx a u p)/\(r=none->ok=false/\u=nilS/\p=zeroP)/\LcS w wr C F G h x f wx
abbrev HoD (wr W2 w2 W:World):Nat->Prop:=fun b=>Out wr W2 w2 b/\b < W.heap.size
theorem lcM_new {w wr W2 w2 W w4:World}{C:Nat}{F G:Int}{h x:Sl}{f:Int}{r:Option PA}{u:Sl}{p:V8}{ok:Bool} (h1:∀ a,r=some a->ok=true/\AV (HoD wr W2 w2 W) w4 a u p) (h2:r=none->ok=false/\u=nilS/\p=zeroP) (hs:LcS w wr C F G h x f w4) :
  LcM w wr C F G h x f r (.pointer (some ⟨w4.heap.size,0,none⟩)) (.bool ok) (w4.alloc (arrO u p)) :=
 ⟨w4.heap.size,u,p,ok,rfl,rfl,hs.eg.bel.size,heap_alloc_new w4 _,fun a ha=>⟨(h1 a ha).1,AV.step (AV.sub (fun b hb e=>by omega) (h1 a ha).2) (bel1 w4 _)⟩,h2,hs.al _⟩
theorem lcM_old {w wr W2 w2 W w4:World}{A C:Nat}{F G:Int}{h x:Sl}{f:Int}{r:Option PA}{u:Sl}{p:V8}{ok:Bool} (h1:∀ a,r=some a->ok=true/\AV (HoD wr W2 w2 W) w4 a u p) (h2:r=none->ok=false/\u=nilS/\p=zeroP) (hs:LcS w wr C F G h x f w4) (hA:HoD wr W2 w2 W A) (hz:ZB A w4) :
  LcM w wr C F G h x f r (.pointer (some ⟨A,0,none⟩)) (.bool ok) (set9 w4 A (sv u) (.int .i64 p.k) (sv p.b) (.int .i64 p.bn) (sv p.s) (sv p.i) (sv p.f) (sv p.c) (sv p.x)):=by
 have l1:=Lat.set9 (w:=w4) (H:=fun b=>b=A) (G:=A) rfl (sv u) (.int .i64 p.k) (sv p.b) (.int .i64 p.bn) (sv p.s) (sv p.i) (sv p.f) (sv p.c) (sv p.x)
 have ha:=hA.1.1
 refine ⟨A,u,p,ok,rfl,rfl,ha,set9_block hz _ _ _ _ _ _ _ _ _,fun a h9=>⟨(h1 a h9).1,AV.lat l1 (AV.sub (fun b hb e=>by subst e;exact hA) (h1 a h9).2)⟩,h2,?_⟩
 unfold set9
 exact ((((((((hs.put ha _).put ha _).put ha _).put ha _).put ha _).put ha _).put ha _).put ha _).put ha _
def PoU (H:Nat->Prop) (w:World) (r:Option PA) (e:Ending) (w':World):Prop :=
 ∃ (h x:Sl) (f z:Int),e= .returned (.tuple #[plV h x f,.int .i64 z])/\(∀ a,r=some a->z=0/\PV H w' (rawP a) h x f)/\Below w.heap.size w w'
theorem PoR.u {H:Nat->Prop}{w:World}{r:Option PA}{e:Ending}{w':World} (g:PoR H w r e w'):PoU H w r e w':=by
 cases r with
 | some a =>
  obtain ⟨h,x,e1,h1,h2⟩:=g
  exact ⟨h,x,_,0,e1,(fun b hb=>by injection hb with hb;subst hb;exact ⟨rfl,h1⟩),h2⟩
 | none =>
  obtain ⟨z,hz,e1,h2⟩:=g
  exact ⟨nilS,nilS,0,z,e1,(fun b hb=>by cases hb),h2⟩
def LcN (w wr:World) (C:Nat) (F G:Int) (h x:Sl) (f:Int) (r:Option PA) (vt vz:Value) (wx:World):Prop :=
 ∃ (T:Nat) (u y:Sl) (g z:Int),vt= .pointer (some ⟨T,0,none⟩)/\vz= .int .i64 z/\wr.heap.size<=T/\wx.heap[T]?=some (plO u y g)/\(∀ a,r=some a->z=0/\PV (fun b=>b=T) wx (rawP a) u y g)/\LcS w wr C F G h x f wx
theorem lcN_new {w wr W2 w2 W w4:World}{C:Nat}{F G:Int}{h x:Sl}{f:Int}{r:Option PA}{u y:Sl}{g z:Int} (h1:∀ a,r=some a->z=0/\PV (HoD wr W2 w2 W) w4 (rawP a) u y g) (hs:LcS w wr C F G h x f w4) :
  LcN w wr C F G h x f r (.pointer (some ⟨w4.heap.size,0,none⟩)) (.int .i64 z) (w4.alloc (plO u y g)) :=
 ⟨w4.heap.size,u,y,g,z,rfl,rfl,hs.eg.bel.size,heap_alloc_new w4 _,fun a ha=>⟨(h1 a ha).1,PV.step (PV.sub (fun b hb e=>by omega) (h1 a ha).2) (bel1 w4 _)⟩,hs.al _⟩
theorem lcN_old {w wr W2 w2 W w4:World}{A C:Nat}{F G:Int}{h x:Sl}{f:Int}{r:Option PA}{u y:Sl}{g z:Int} (h1:∀ a,r=some a->z=0/\PV (HoD wr W2 w2 W) w4 (rawP a) u y g) (hs:LcS w wr C F G h x f w4) (hA:HoD wr W2 w2 W A) (hz:ZP A w4) :
  LcN w wr C F G h x f r (.pointer (some ⟨A,0,none⟩)) (.int .i64 z) (set3 w4 A (sv u) (sv y) (.int .i64 g)):=by
 have l1:=Lat.set3 (w:=w4) (H:=fun b=>b=A) (G:=A) rfl (sv u) (sv y) (.int .i64 g)
 have ha:=hA.1.1
 refine ⟨A,u,y,g,z,rfl,rfl,ha,set3_block hz _ _ _,fun a h9=>⟨(h1 a h9).1,PV.lat l1 (PV.sub (fun b hb e=>by subst e;exact hA) (h1 a h9).2)⟩,?_⟩
 exact ((hs.put ha _).put ha _).put ha _
theorem clP_nums {w:World}{t:RP}{h x:Sl}{f:Int} (g:PV (fun _=>False) w t h x f) (hf:f=0):(clP t).shape.length=h.2.1/\(clP t).fill=0/\(clP t).len=x.2.1:=by
 cases t with
 | mk s items fl =>
  obtain ⟨hsr,hff,hx,-⟩:=g.open_
  obtain ⟨A,c,e⟩:=hsr.len
  injection e with _ e _
  rw [List.length_map] at e
  subst hf
  have hfl:fl=0:=by first | exact hff | exact hff.symm
  subst hfl
  rw [clP,if_pos rfl]
  refine ⟨?_,rfl,?_⟩
  ·show (List.map _ s).length=_
   rw [List.length_map]
   exact e.symm
  ·show (List.map _ items).length=_
   rw [List.length_map]
   omega
theorem chains_any (k:Int) (hk0:0<=k) (hk1:k<=255) (t:RP) (h x:Sl) (f:Int) (one:Bool) (n:Int) (hn0:0<=n) (w:World) (i1:FitP t) (m1:cntP t<=1048576) (tz:TzTab w) (r1:PV (fun _=>False) w t h x f) (hcap:h.2.1<=h.2.2) (hch:ChA (clP t)) :
  Calls Tryz.prog 4 #[.int .u8 k,plV h x f,.bool one,.int .u16 n] w fun e w'=>e= .returned (.bool true)/\Below w.heap.size w w':=by
 have HFA:=Lib.hid (fun W (hb:Below w.heap.size w W)=>fine34_any t h x f W i1 m1 (r1.step hb))
 have HR1:=Lib.hid r1
 have HTZ:=Lib.hid tz
 have HCAP:=Lib.hid hcap
 have HCH:=Lib.hid hch
 have HX0:=Lib.hid (at3_box w h x f)
 have HB0:=Lib.hid (bel1 w (plO h x f))
 obtain ⟨j,hj12,hjk⟩:∃ j:Nat,j < 12/\k.tmod 12=(j:Int):=⟨(k % 12).toNat,by omega,by rw [Int.tmod_eq_emod_of_nonneg hk0];omega⟩
 obtain ⟨most,hm1,hmn⟩:∃ m:Nat,m < 2000/\n.tmod 2000=(m:Int):=⟨(n % 2000).toNat,by omega,by rw [Int.tmod_eq_emod_of_nonneg hn0];omega⟩
 have HJK:=Lib.hid hjk
 have HMN:=Lib.hid hmn
 unfold FineR at HFA
 clear i1 m1 r1 tz hcap hch hjk hmn
 go_enter Tryz.func4,Tryz.ntmps4
 obtain ⟨c0,c1,c2⟩:=at3_c HX0.out
 go_wp2_with fail
 refine (HFA.out _ HB0.out).mono ?_
 rintro e w1 ⟨b1,rfl,hg1,hb⟩
 have HX1:=Lib.hid (At3.belowP HX0.out hb)
 have HB1:=Lib.hid (bel_both HB0.out hb)
 clear hb c0 c1 c2 HX0 HB0 HFA
 cases b1 with
 | false =>
  go_wp2_with fail
  refine (awake34_any _).mono ?_
  rintro e w2 ⟨rfl,hb⟩
  have HB:=Lib.hid (bel_both HB1.out hb)
  clear hb
  go_wp2
  go_ret
  exact ⟨rfl,HB.out⟩
 | true =>
  obtain ⟨o1,n1⟩:=hg1 rfl
  go_wp2_with fail
  refine (pairs_any _).mono ?_
  rintro e w2 ⟨rfl,rfl⟩
  have HPA:=Lib.hid (fun W hb=>pair_at (w:=w1) hj12 (W:=W) hb)
  obtain ⟨w2,hw2⟩:∃ w2,w2=w1.alloc (.cells pairV 49):=⟨_,rfl⟩
  have HB2:Hid (Below w1.heap.size w1 w2):=by unfold Hid;rw [hw2];exact bel1 w1 _
  rw [<- hw2] at HPA ⊢
  have HZ2:Hid (w2.heap.size=w1.heap.size+1):=by unfold Hid;rw [hw2];simp
  obtain ⟨q0,q1⟩:=HPA.out w2 (Below.refl _ _)
  have hk12:k.tmod 12=(j:Int):=HJK.out
  have hj0:(0:Int)<=(j:Int):=by omega
  have hj1:(j:Int) < 12:=by omega
  have hmm:n.tmod 2000=(most:Int):=HMN.out
  clear hw2
  obtain ⟨oo,hoo,hoo1⟩:∃ oo:Nat,oo=(if one then 1 else 0)/\oo<=1:=⟨_,rfl,by split <;> decide⟩
  have HOO:=Lib.hid hoo
  have hgd:=okP_good 40 t o1
  have hsm:SmA 1000000 (clP t):=SmA.up (by decide) _ (smP t n1)
  have hlen:(clP t).len<=1000000:=hsm.len
  obtain ⟨wr,hwr⟩:∃ wr,wr=w2.alloc (.cells #[.int .i32 (sgF j),.int .i32 (sgG j)] 49):=⟨_,rfl⟩
  have HWR:=Lib.hid hwr
  have HBR:Hid (Below w1.heap.size w1 wr):=by unfold Hid;rw [hwr];exact bel_both HB2.out (bel1 w2 _)
  have HLO:Hid (w.heap.size+1<=wr.heap.size):=by unfold Hid;have:=HBR.out.size;have:=HX1.out.lt;omega
  have HST:Hid (LcS w wr w2.heap.size (sgF j) (sgG j) h x f wr):=by
   refine ⟨⟨At3.belowP HX1.out HBR.out,Below.refl _ _,HLO.out⟩,by rw [hwr];simp,by rw [hwr];exact heap_alloc_new w2 _⟩
  have HOF:=Lib.hid (fun W (hs:LcS w wr w2.heap.size (sgF j) (sgG j) h x f W)=>lawOf_any (Fre wr W) t h x f W (fun b e=>e.2) o1 (by omega) (PV.sub (fun b hl e=>by have:=e.1;have:=HLO.out;omega) (HR1.out) |>.step (bel_both (bel_both HB1.out HBR.out) hs.eg.bel)))
  have HDC:Hid (∀ W2 w4 u2 p2,AV (Fre wr W2) w4 (clP t) u2 p2->LcS w wr w2.heap.size (sgF j) (sgG j) h x f w4->∀ W',Below w4.heap.size w4 W'->Calls Tryz.prog 16 #[.agg #[.int .i64 1,.int .i32 (sgF j),.int .i32 (sgG j)],arrV u2 p2,.int .i64 (oo:Int),.int .i64 (most:Int)] W' (OaU (HoD wr W2 w4 W') W' (dE j (clP t) oo most))):=fun W2 w4 u2 p2 ha hs W' hb=>(dochain_any W' (AV.sub (fun b hb e=>e.1) (av_out ha hb)) (fun b e=>e.2) oo most j hj12 (HTZ.out.below (bel_both (bel_both (bel_both HB1.out HBR.out) hs.eg.bel) hb)) 39 hgd hsm HCH.out hlen hoo1 (by omega)).mono fun e w' h=>OaR.u h
  have HOG:Hid (∀ W,Calls Tryz.prog 18 #[.bool one] W fun e w'=>e= .returned (.int .i64 (oo:Int))/\W=w'):=fun W=>by rw [hoo];exact (origin_any one W).mono fun e w' h=>⟨h.1,h.2.symm⟩
  have HRC:Hid (∀ wc,Below w.heap.size w wc->∀ W2 w4 x2,PV (Fre wc W2) w4 (rawP (clP t)) h x2 f->∀ W',Below w4.heap.size w4 W'->Calls Tryz.prog 19 #[.agg #[.int .i64 1,.int .i32 (sgF j),.int .i32 (sgG j)],plV h x2 f,.int .i64 (oo:Int),.int .i64 (most:Int)] W' (PoU (HoD wc W2 w4 W') W' (rchE j (clP t) oo most))):=fun wc hbc W2 w4 x2 hp W' hb=>by
   have hf:=pv_fil hp
   rw [<- hf] at hp ⊢
   exact (rdochain_any (PV.sub (fun b hb e=>e.1) (pv_out hp hb)) (fun b e=>e.2) HCAP.out 40 hgd hsm hlen oo most hoo1 (by omega) j hj12 W' (Below.refl _ _)).mono fun e w' h=>PoR.u h
  have HTD:Hid (∀ wc,w.heap.size+1<=wc.heap.size->Below w.heap.size w wc->∀ W,LcS w wc w2.heap.size (sgF j) (sgG j) h x f W->Calls Tryz.prog 20 #[plV h x f] W (PlRh (Fre wc W) W h (rawP (clP t)) f)):=fun wc hwc hbc W hs=>tidyh_walk 40 (Fre wc W) t h x f W (fun b e=>e.2) o1 (by omega) (PV.sub (fun b hl e=>by have:=e.1;omega) (HR1.out) |>.step (bel_both hbc hs.eg.bel))
  have HRR:Hid (∀ a,dE j (clP t) oo most=some a->rchE j (clP t) oo most=some a):=fun a ha=>chain_law hgd hj12 ha
  have HGD:Hid (∀ a,dE j (clP t) oo most=some a->GoodA 40 a/\SmA 1000000 a):=fun a ha=>chain_good hgd hsm hlen hoo1 (by omega) hj12 ha
  have HMU:Hid (dE j (clP t) oo most=none->(j=0\/j=5)->f=0->h.2.1=1->0 < x.2.1->x.2.1<=most->False):=fun hr hj hf hs hn hm=>by
   obtain ⟨k1,k2,k3⟩:=clP_nums HR1.out hf
   obtain ⟨y,hy⟩:=chain_must (a:=clP t) (o:=oo) (most:=most) hj (by omega) k2 (by omega) (by omega)
   rw [hr] at hy
   cases hy
  generalize rchE j (clP t) oo most=r2 at *
  generalize dE j (clP t) oo most=r at *
  unfold PoU at HRC
  unfold PlRh at HTD
  unfold AaR at HOF
  unfold OaU at HDC
  clear hwr hoo hgd hsm hlen
  go_upto_region 6 with fail
  rw [<- HWR.out]
  go_cut [12,13] from 17 (fun va vo wx=>LcM w wr w2.heap.size (sgF j) (sgG j) h x f r va vo wx)
  case first =>
   have hs0:=HST.out.dr
   have hs00:=HST.out
   generalize sgF j=sF at *
   generalize sgG j=sG at *
   clear q0 q1
   go_region_held3 (fun W=>(W.cell? ⟨w.heap.size,0,none⟩=some (.slice h.1 h.2.1 h.2.2)/\W.cell? ⟨w.heap.size,1,none⟩=some (.slice x.1 x.2.1 x.2.2)/\W.cell? ⟨w.heap.size,2,none⟩=some (.int .i64 f))/\(W.cell? ⟨w2.heap.size,0,none⟩=some (.int .i32 sF)/\W.cell? ⟨w2.heap.size,1,none⟩=some (.int .i32 sG))/\LcS w wr w2.heap.size sF sG h x f W)
    (first | (with_reducible assumption) | (with_reducible (refine lcs_s ?_);repeat (first | (with_reducible assumption) | (with_reducible refine LcS.dr ?_) | (with_reducible refine LcS.put ?_ (by first | assumption | omega | (simp;omega)) _) | (with_reducible refine LcS.al ?_ _))))
    (first
     | (go_at_call 17;(with_reducible refine (HOF.out _ ?_).mono ?_);exact LcS.self (by repeat (first | (with_reducible assumption) | (with_reducible refine LcS.dr ?_) | (with_reducible refine LcS.al ?_ _)));rintro e w4 ⟨u2,p2,rfl,hav2,hb2⟩;have hst4:LcS w wr w2.heap.size sF sG h x f w4:=LcS.step (by repeat (first | (with_reducible assumption) | (with_reducible refine LcS.dr ?_) | (with_reducible refine LcS.al ?_ _))) hb2;obtain ⟨hc4,hf4⟩:=bcell2 hb2;have HB4:=Lib.hid hb2;have hz4:=hb2.size;(first | (have hy41:wr.heap.size < w4.heap.size:=sz1a hz4) | skip);have hs4z:=hst4.eg.bel.size;have HAV2:=Lib.hid hav2;clear hb2 hav2)
     | (go_at_call 18;(with_reducible refine (HOG.out _).mono ?_);rintro e w5 ⟨rfl,rfl⟩)
     | (go_at_call 16;(with_reducible refine (HDC.out _ _ _ _ HAV2.out hst4 _ ?_).mono ?_);(first | exact Below.refl _ _ | exact bel1 _ _);rintro e w6 ⟨h3,p3,ok,rfl,hq1,hq2,hb6⟩;have hst6:LcS w wr w2.heap.size sF sG h x f w6:=LcS.step (by repeat (first | (with_reducible assumption) | (with_reducible refine LcS.dr ?_) | (with_reducible refine LcS.al ?_ _))) hb6;obtain ⟨hc6,hf6⟩:=bcell2 hb6;have hz6:=hb6.size;have hz46:w4.heap.size<=w6.heap.size:=(by first | exact hz6 | exact Nat.le_of_lt (sz1a hz6));(first | have hy61:=Nat.lt_of_lt_of_le hy41 hz46 | skip);(first | (have hy62:w4.heap.size < w6.heap.size:=sz1a hz6) | skip);have hs6z:=hst6.eg.bel.size;have HQ1:=Lib.hid hq1;have HQ2:=Lib.hid hq2;have HB6:=Lib.hid hb6;clear hq1 hq2 hb6))
   all_goals
    go_wp2
    go_meet
    first
     | (with_reducible exact lcM_new HQ1.out HQ2.out hst6)
     | (with_reducible refine lcM_old HQ1.out HQ2.out hst6 ⟨⟨by first | omega | (simp <;> omega),by first | omega | (simp <;> omega)⟩,by first | omega | (simp <;> omega)⟩ ?_;(repeat (first | (with_reducible exact ZB.new _) | (with_reducible refine ZB.dr ?_) | (with_reducible refine ZB.al ?_ _) | (with_reducible refine ZB.step ?_ HB6.out) | (with_reducible refine ZB.step ?_ HB4.out))))
  case rest =>
   obtain ⟨A,u,p,ok,rfl,rfl,hlA,hA,hav,hno,hst⟩:=hcut
   obtain ⟨wb,hwb⟩:∃ wb,wb=wc:=⟨_,rfl⟩
   subst hwb
   have HAV:=Lib.hid hav
   have HNO:=Lib.hid hno
   have HHA:=Lib.hid hA
   have hAl:=lt_blk hA
   have hC:=lt_blk hst.pr
   have HBC:Hid (Below w.heap.size w wb):=bel_both (bel_both HB1.out HBR.out) hst.eg.bel
   have hwl:w.heap.size+1<=wb.heap.size:=by have:=hst.eg.bel.size;have:=HLO.out;omega
   have HST2:Hid (LcS w wb w2.heap.size (sgF j) (sgG j) h x f wb):=⟨⟨hst.eg.one,Below.refl _ _,hwl⟩,hC,hst.pr⟩
   have HRC2:=Lib.hid (HRC.out wb HBC.out)
   have HTD2:=Lib.hid (HTD.out wb hwl HBC.out)
   clear hav hno hA hst HOF HDC HRC HTD HST q0 q1
   go_upto_region 7 with fail
   go_cut [14,15] from 17 (fun va vo wx=>LcN w wb w2.heap.size (sgF j) (sgG j) h x f r2 va vo wx)
   case first =>
    have hs0:=HST2.out.dr
    have hs00:=HST2.out
    generalize sgF j=sF at *
    generalize sgG j=sG at *
    go_region_held3 (fun W=>(W.cell? ⟨w.heap.size,0,none⟩=some (.slice h.1 h.2.1 h.2.2)/\W.cell? ⟨w.heap.size,1,none⟩=some (.slice x.1 x.2.1 x.2.2)/\W.cell? ⟨w.heap.size,2,none⟩=some (.int .i64 f))/\(W.cell? ⟨w2.heap.size,0,none⟩=some (.int .i32 sF)/\W.cell? ⟨w2.heap.size,1,none⟩=some (.int .i32 sG))/\LcS w wb w2.heap.size sF sG h x f W)
     (first | (with_reducible assumption) | (with_reducible (refine lcs_s ?_);repeat (first | (with_reducible assumption) | (with_reducible refine LcS.dr ?_) | (with_reducible refine LcS.put ?_ (by first | assumption | omega | (simp;omega)) _) | (with_reducible refine LcS.al ?_ _))))
     (first
      | (go_at_call 20;(with_reducible refine (HTD2.out _ ?_).mono ?_);exact LcS.self (by repeat (first | (with_reducible assumption) | (with_reducible refine LcS.dr ?_) | (with_reducible refine LcS.al ?_ _)));rintro e w4 ⟨x2,rfl,hpv2,hb2⟩;have hst4:LcS w wb w2.heap.size sF sG h x f w4:=LcS.step (by repeat (first | (with_reducible assumption) | (with_reducible refine LcS.dr ?_) | (with_reducible refine LcS.al ?_ _))) hb2;obtain ⟨hc4,hf4⟩:=bcell2 hb2;have HB4:=Lib.hid hb2;have hz4:=hb2.size;(first | (have hy41:wb.heap.size < w4.heap.size:=sz1a hz4) | skip);have hs4z:=hst4.eg.bel.size;have HPV2:=Lib.hid hpv2;clear hb2 hpv2)
      | (go_at_call 18;(with_reducible refine (HOG.out _).mono ?_);rintro e w5 ⟨rfl,rfl⟩)
      | (go_at_call 19;(with_reducible refine (HRC2.out _ _ _ HPV2.out _ ?_).mono ?_);(first | exact Below.refl _ _ | exact bel1 _ _);rintro e w6 ⟨h3,x3,f3,z3,rfl,hq1,hb6⟩;have hst6:LcS w wb w2.heap.size sF sG h x f w6:=LcS.step (by repeat (first | (with_reducible assumption) | (with_reducible refine LcS.dr ?_) | (with_reducible refine LcS.al ?_ _))) hb6;obtain ⟨hc6,hf6⟩:=bcell2 hb6;have hz6:=hb6.size;have hz46:w4.heap.size<=w6.heap.size:=(by first | exact hz6 | exact Nat.le_of_lt (sz1a hz6));(first | have hy61:=Nat.lt_of_lt_of_le hy41 hz46 | skip);(first | (have hy62:w4.heap.size < w6.heap.size:=sz1a hz6) | skip);have hs6z:=hst6.eg.bel.size;have HQ1:=Lib.hid hq1;have HB6:=Lib.hid hb6;clear hq1 hb6))
    all_goals
     go_wp2
     go_meet
     first
      | (with_reducible exact lcN_new HQ1.out hst6)
      | (with_reducible refine lcN_old HQ1.out hst6 ⟨⟨by first | omega | (simp <;> omega),by first | omega | (simp <;> omega)⟩,by first | omega | (simp <;> omega)⟩ ?_;(repeat (first | (with_reducible exact ZP.new _) | (with_reducible refine ZP.dr ?_) | (with_reducible refine ZP.al ?_ _) | (with_reducible refine ZP.step ?_ HB6.out) | (with_reducible refine ZP.step ?_ HB4.out))))
   case rest =>
    obtain ⟨T,u4,y4,g4,z4,rfl,rfl,hlT,hT,hpv,hst⟩:=hcut
    obtain ⟨wd,hwd⟩:∃ wd,wd=wc:=⟨_,rfl⟩
    subst hwd
    have HBW:Hid (Below w.heap.size w wd):=bel_both HBC.out hst.eg.bel
    have HAD:Hid (wd.heap[A]?=some (arrO u p)):=(hst.eg.bel.block _ hAl).trans HHA.out
    have HTD9:=Lib.hid hT
    have hAd:=lt_blk HAD.out
    have hTd:=lt_blk hT
    have HDN:Hid (∀ W,Below wd.heap.size wd W->Calls Tryz.prog 22 #[arrV u p,.bool ok,plV u4 y4 g4,.int .i64 z4] W fun e w'=>e= .returned (.bool true)/\Below W.heap.size W w'):=fun W hb=>by
     rcases hr:r with _ | a
     ·obtain ⟨rfl,rfl,rfl⟩:=HNO.out hr
      exact done_no u4 y4 g4 z4 W
     ·obtain ⟨rfl,ha⟩:=HAV.out a hr
      obtain ⟨rfl,hp⟩:=hpv a (HRR.out a hr)
      have hbW:Below wb.heap.size wb W:=bel_both hst.eg.bel hb
      exact done_ok (fun b e=>by subst e;have:=hbW.size;omega) (HGD.out a hr).1 (HGD.out a hr).2 (AV.step ha hbW) (PV.step hp hb)
    obtain ⟨c0,c1,c2⟩:=at3_c hst.eg.one
    have hj0':(0:Int)<=(j:Int):=by omega
    clear hT hpv hst HTD2 HRC2 HST2
    by_cases e0:j=0
    ·subst e0
     go_wp2_with fail
     refine (plain34_any h x f most _).mono ?_
     rintro e w9 ⟨b9,rfl,hb9,hb⟩
     have HB9:=Lib.hid hb
     have HA9:=Lib.hid (show w9.heap[A]?=some (arrO u p) from (hb.block _ hAd).trans HAD.out)
     have HT9:=Lib.hid (show w9.heap[T]?=some (plO u4 y4 g4) from (hb.block _ hTd).trans HTD9.out)
     have hbf:ok=false->b9=false:=fun hok=>by
      cases b9 with
      | false=>rfl
      | true =>
       obtain ⟨m1,m2,m3,m4⟩:=hb9 rfl
       rcases hr:r with _ | a
       ·exact (HMU.out hr (by simp) m1 m2 m3 m4).elim
       ·have:=(HAV.out a hr).1
        rw [hok] at this
        cases this
     clear hb hb9
     cases ok with
     | true =>
      have HQ:=HDN
      clear c0 c1 c2
      obtain ⟨⟨d0,d1,d2,d3,d4,d5,d6,d7,d8⟩,dz⟩:=at9_of (HA9.out)
      obtain ⟨⟨t0,t1,t2⟩,tz9⟩:=block3 (HT9.out)
      go_wp2_with fail
      refine (HDN.out _ HB9.out).mono ?_
      rintro e x1 ⟨rfl,hb⟩
      have HE1:=Lib.hid (bel_both HB9.out hb)
      clear hb d0 d1 d2 d3 d4 d5 d6 d7 d8 dz t0 t1 t2 tz9
      go_wp2_with fail
      refine (awake34_any _).mono ?_
      rintro e x2 ⟨rfl,hb⟩
      have HE2:=Lib.hid (bel_both HE1.out hb)
      clear hb
      go_wp2
      go_ret
      exact ⟨rfl,bel_both HBW.out HE2.out⟩
     | false =>
      obtain rfl:b9=false:=hbf rfl
      have HQ:=HDN
      clear c0 c1 c2
      obtain ⟨⟨d0,d1,d2,d3,d4,d5,d6,d7,d8⟩,dz⟩:=at9_of (HA9.out)
      obtain ⟨⟨t0,t1,t2⟩,tz9⟩:=block3 (HT9.out)
      go_wp2_with fail
      refine (HDN.out _ HB9.out).mono ?_
      rintro e x1 ⟨rfl,hb⟩
      have HE1:=Lib.hid (bel_both HB9.out hb)
      clear hb d0 d1 d2 d3 d4 d5 d6 d7 d8 dz t0 t1 t2 tz9
      go_wp2_with fail
      refine (awake34_any _).mono ?_
      rintro e x2 ⟨rfl,hb⟩
      have HE2:=Lib.hid (bel_both HE1.out hb)
      clear hb
      go_wp2
      go_ret
      exact ⟨rfl,bel_both HBW.out HE2.out⟩
    ·have e0b:(((j:Nat):Int)==0)=false:=by rw [beq_eq_false_iff_ne];omega
     by_cases e5:j=5
     ·subst e5
      go_wp2_with fail
      refine (plain34_any h x f most _).mono ?_
      rintro e w9 ⟨b9,rfl,hb9,hb⟩
      have HB9:=Lib.hid hb
      have HA9:=Lib.hid (show w9.heap[A]?=some (arrO u p) from (hb.block _ hAd).trans HAD.out)
      have HT9:=Lib.hid (show w9.heap[T]?=some (plO u4 y4 g4) from (hb.block _ hTd).trans HTD9.out)
      have hbf:ok=false->b9=false:=fun hok=>by
       cases b9 with
       | false=>rfl
       | true =>
        obtain ⟨m1,m2,m3,m4⟩:=hb9 rfl
        rcases hr:r with _ | a
        ·exact (HMU.out hr (by simp) m1 m2 m3 m4).elim
        ·have:=(HAV.out a hr).1
         rw [hok] at this
         cases this
      clear hb hb9
      cases ok with
      | true =>
       have HQ:=HDN
       clear c0 c1 c2
       obtain ⟨⟨d0,d1,d2,d3,d4,d5,d6,d7,d8⟩,dz⟩:=at9_of (HA9.out)
       obtain ⟨⟨t0,t1,t2⟩,tz9⟩:=block3 (HT9.out)
       go_wp2_with fail
       refine (HDN.out _ HB9.out).mono ?_
       rintro e x1 ⟨rfl,hb⟩
       have HE1:=Lib.hid (bel_both HB9.out hb)
       clear hb d0 d1 d2 d3 d4 d5 d6 d7 d8 dz t0 t1 t2 tz9
       go_wp2_with fail
       refine (awake34_any _).mono ?_
       rintro e x2 ⟨rfl,hb⟩
       have HE2:=Lib.hid (bel_both HE1.out hb)
       clear hb
       go_wp2
       go_ret
       exact ⟨rfl,bel_both HBW.out HE2.out⟩
      | false =>
       obtain rfl:b9=false:=hbf rfl
       have HQ:=HDN
       clear c0 c1 c2
       obtain ⟨⟨d0,d1,d2,d3,d4,d5,d6,d7,d8⟩,dz⟩:=at9_of (HA9.out)
       obtain ⟨⟨t0,t1,t2⟩,tz9⟩:=block3 (HT9.out)
       go_wp2_with fail
       refine (HDN.out _ HB9.out).mono ?_
       rintro e x1 ⟨rfl,hb⟩
       have HE1:=Lib.hid (bel_both HB9.out hb)
       clear hb d0 d1 d2 d3 d4 d5 d6 d7 d8 dz t0 t1 t2 tz9
       go_wp2_with fail
       refine (awake34_any _).mono ?_
       rintro e x2 ⟨rfl,hb⟩
       have HE2:=Lib.hid (bel_both HE1.out hb)
       clear hb
       go_wp2
       go_ret
       exact ⟨rfl,bel_both HBW.out HE2.out⟩
     ·have e5b:(((j:Nat):Int)==5)=false:=by rw [beq_eq_false_iff_ne];omega
      have HB9:=Lib.hid (Below.refl wd.heap.size wd)
      have HA9:=HAD
      have HT9:=HTD9
      cases ok with
      | true =>
       have HQ:=HDN
       clear c0 c1 c2
       obtain ⟨⟨d0,d1,d2,d3,d4,d5,d6,d7,d8⟩,dz⟩:=at9_of (HA9.out)
       obtain ⟨⟨t0,t1,t2⟩,tz9⟩:=block3 (HT9.out)
       go_wp2_with fail
       refine (HDN.out _ HB9.out).mono ?_
       rintro e x1 ⟨rfl,hb⟩
       have HE1:=Lib.hid (bel_both HB9.out hb)
       clear hb d0 d1 d2 d3 d4 d5 d6 d7 d8 dz t0 t1 t2 tz9
       go_wp2_with fail
       refine (awake34_any _).mono ?_
       rintro e x2 ⟨rfl,hb⟩
       have HE2:=Lib.hid (bel_both HE1.out hb)
       clear hb
       go_wp2
       go_ret
       exact ⟨rfl,bel_both HBW.out HE2.out⟩
      | false =>
       have HQ:=HDN
       clear c0 c1 c2
       obtain ⟨⟨d0,d1,d2,d3,d4,d5,d6,d7,d8⟩,dz⟩:=at9_of (HA9.out)
       obtain ⟨⟨t0,t1,t2⟩,tz9⟩:=block3 (HT9.out)
       go_wp2_with fail
       refine (HDN.out _ HB9.out).mono ?_
       rintro e x1 ⟨rfl,hb⟩
       have HE1:=Lib.hid (bel_both HB9.out hb)
       clear hb d0 d1 d2 d3 d4 d5 d6 d7 d8 dz t0 t1 t2 tz9
       go_wp2_with fail
       refine (awake34_any _).mono ?_
       rintro e x2 ⟨rfl,hb⟩
       have HE2:=Lib.hid (bel_both HE1.out hb)
       clear hb
       go_wp2
       go_ret
       exact ⟨rfl,bel_both HBW.out HE2.out⟩
theorem chains_c (k:Int) (t:RP) (h x:Sl) (f:Int) (one:Bool) (n:Int) (w:World) (i1:FitP t) (m1:cntP t<=1048576) (tz:TzTab w) (r1:PV (fun _=>False) w t h x f) (wk:(Lit.int .u8 k).wf=true) (wn:(Lit.int .u16 n).wf=true) (hp:h.2.1<=h.2.2/\ChA (clP t)) :
  Calls Tryz.prog 4 #[.int .u8 k,plV h x f,.bool one,.int .u16 n] w fun e w'=>e= .returned (.bool true)/\Below w.heap.size w w':=by
 have hk:(decide (IntKind.min .u8<=k)&&decide (k<=IntKind.max .u8))=true:=wk
 have hn:(decide (IntKind.min .u16<=n)&&decide (n<=IntKind.max .u16))=true:=wn
 rw [Bool.and_eq_true,decide_eq_true_eq,decide_eq_true_eq] at hk hn
 exact chains_any k hk.1 hk.2 t h x f one n hn.1 w i1 m1 tz r1 hp.1 hp.2
end Go.Proofs.YtbakjaliponbbaaGreatDoor
namespace Go.Proofs.YtbakjaliponbbaaGreatDoor
open Go Go.RowKit Go.Proofs Go.ChangeShapes Go.WideShapes Go.Deep
theorem one_le {H:Type} (d:DataW H):1<=Rows.uptoBulk d:=by
 cases d with
 | lit l=>cases l <;> simp [Rows.uptoBulk]
 | nil=>simp [Rows.uptoBulk]
 | ptr d=>simp [Rows.uptoBulk]
 | slice elems spare=>simp [Rows.uptoBulk]
 | agg parts=>simp [Rows.uptoBulk]
 | iface t d=>simp [Rows.uptoBulk]
 | map entries=>simp [Rows.uptoBulk]
 | held h=>simp [Rows.uptoBulk]
theorem bulk_len {H:Type} (l:List (DataW H)):l.length<=Rows.uptoBulkAll l:=by
 induction l with
 | nil=>simp [Rows.uptoBulkAll]
 | cons x r ih=>have:=one_le x;simp only [Rows.uptoBulkAll,List.length_cons];omega
theorem trodF {H:Type}{enc:TypeId×Value->H}{W:World}{sp:Nat->Bool}{held:Bool}{base n:Nat}{v:Value}{d:DataW H×List MemPlace}
  (h:DataW.trod enc Tryz.prog W base sp held n 96 [v]=some d):∃ b,v= .float .f64 b/\b < 18446744073709551616:=by
 cases n with
 | zero=>simp [DataW.trod] at h
 | succ n =>
  cases v <;> simp [DataW.trod,Tryz.underlying96] at h
  rename_i k b
  obtain ⟨h1,_⟩:=h
  obtain ⟨rfl,h2⟩:=h1
  exact ⟨b,rfl,by simpa [Lit.wf] using h2⟩
theorem slice_reads {H:Type}{enc:TypeId×Value->H}{W:World}{sp:Nat->Bool}{held:Bool}{base fuel:Nat}{t e:TypeId}{v:Value}{x:DataW H×List MemPlace}{α:Type} (g:α->Value) (z:α) (ht:Tryz.prog.underlying t=some (.slice e)) (hc:Tryz.prog.cellsOf e=1)
  (hg:∀ {n:Nat} {v:Value} {y:DataW H×List MemPlace},DataW.trod enc Tryz.prog W base sp held n e [v]=some y->∃ b,v=g b)
  (h:DataW.trod enc Tryz.prog W base sp held fuel t [v]=some x):∃ (l:List α) (s:Sl),v=sv s/\RdH (fun _=>False) W (sv s) (l.map g)/\l.length+1<=Rows.uptoBulk x.1:=by
 rcases open_slice1 ht hc h with ⟨hcs,rfl⟩ | ⟨a,n,c',m,k,V,D,Pl,hcs,_,hl,hm,hmm,rfl,hcell⟩
 ·obtain rfl:v= .slice none 0 0:=by simpa using hcs
  exact ⟨[],(none,0,0),rfl,fun _ _ _ => .inl ⟨none,0,rfl,rfl⟩,by simp [Rows.uptoBulk]⟩
 ·obtain rfl:v= .slice (some a) n c':=by simpa using hcs
  have hnm:n<=m:=by rw [hmm];split <;> omega
  by_cases h0:n=0
  ·subst h0;exact ⟨[],(some a,0,c'),rfl,fun _ _ _ => .inl ⟨_,_,rfl,rfl⟩,by simp only [List.length_nil];exact one_le _⟩
  have hfl:∀ i,∃ b,i < m->V i=g b:=fun i=>by
   by_cases hi:i < m
   ·obtain ⟨b,hb⟩:=hg (hcell i hi).2;exact ⟨b,fun _=>hb⟩
   ·exact ⟨z,fun h=>absurd h hi⟩
  obtain ⟨b,hb⟩:=Classical.axiomOfChoice hfl
  obtain ⟨bl,off,spot⟩:=a
  have hspot:spot=none:=by simpa [Addr.add] using World.cell?_spot (hcell 0 (by omega)).1
  subst hspot
  refine ⟨(List.range n).map b,(some ⟨bl,off,none⟩,n,c'),rfl,fun W' _ hb' => .inr ⟨bl,off,n,c',rfl,by simp,fun i hi=>?_⟩,?_⟩
  ·have hi':i < n:=by simpa using hi
   have:=(hcell i (by omega)).1
   have e:(⟨bl,off,none⟩:Addr).add i=⟨bl,off+i,none⟩:=by
    unfold Addr.add;split
    ·rename_i h0;subst h0;rfl
    ·rfl
   rw [e] at this
   rw [World.cell?_of_block (w:=W) (hb' bl (cell_lt this) (fun h=>h)),this,hb i (by omega)]
   simp
  ·have:=bulk_len ((List.range n).map D)
   simp only [Rows.uptoBulk]
   simp at this ⊢
   omega
theorem sum_bulk {H α:Type} (c:α->Nat):∀ (ts:List α) (ds:List (DataW H)),ts.length=ds.length->(∀ i (h:i < ts.length) (h2:i < ds.length),c ts[i]+1<=Rows.uptoBulk ds[i])->(ts.map c).sum+ts.length<=Rows.uptoBulkAll ds
 | [],_,_,_=>by simp
 | _::_,[],h,_=>by simp at h
 | t::ts,d::ds,hl,h=>by
  have h0:=h 0 (by simp) (by simp)
  have:=sum_bulk c ts ds (by simpa using hl) (fun i h1 h2=>by have:=h (i+1) (by simpa using h1) (by simpa using h2);simpa using this)
  simp only [List.map_cons,List.sum_cons,List.length_cons,Rows.uptoBulkAll]
  simp at h0
  omega
theorem cntIs_sum:∀ ts:List RI,cntIs ts=(ts.map cntI).sum
 | []=>by rw [cntIs];rfl
 | t::ts=>by rw [cntIs,cntIs_sum ts];simp
theorem cntPs_sum:∀ ts:List RP,cntPs ts=(ts.map cntP).sum
 | []=>by rw [cntPs];rfl
 | t::ts=>by rw [cntPs,cntPs_sum ts];simp
theorem fitIs_of:∀ (ts:List RI),(∀ i (h:i < ts.length),FitI ts[i])->FitIs ts
 | [],_=>by rw [FitIs];trivial
 | t::ts,h=>by
  rw [FitIs]
  exact ⟨by have:=h 0 (by simp);simpa using this,fitIs_of ts fun i hi=>by have:=h (i+1) (by simpa using hi);simpa using this⟩
theorem fitPs_of:∀ (ts:List RP),(∀ i (h:i < ts.length),FitP ts[i])->FitPs ts
 | [],_=>by rw [FitPs];trivial
 | t::ts,h=>by
  rw [FitPs]
  exact ⟨by have:=h 0 (by simp);simpa using this,fitPs_of ts fun i hi=>by have:=h (i+1) (by simpa using hi);simpa using this⟩
theorem c_int:Tryz.prog.cellsOf 3=1:=by kernel_rfl
theorem c_ints:Tryz.prog.cellsOf 41=1:=by kernel_rfl
theorem c_f64:Tryz.prog.cellsOf 96=1:=by kernel_rfl
theorem c_i32:Tryz.prog.cellsOf 21=1:=by kernel_rfl
theorem c_items:Tryz.prog.cellsOf 42=1:=by kernel_rfl
theorem c_plains:Tryz.prog.cellsOf 104=1:=by kernel_rfl
theorem c_plain:Tryz.prog.cellsOf 44=3:=by kernel_rfl
theorem c_item:Tryz.prog.cellsOf 106=4:=by kernel_rfl
theorem add_off (b o j:Nat):(⟨b,o,none⟩:Addr).add j=⟨b,o+j,none⟩:=by
 unfold Addr.add;split
 ·rename_i h0;subst h0;rfl
 ·rfl
mutual
theorem plain_open {H:Type}{enc:TypeId×Value->H}{W:World}{sp:Nat->Bool}{held:Bool}{base:Nat}:∀ (N fuel:Nat) (cs:List Value) (x:DataW H×List MemPlace),fuel<=N->DataW.trod enc Tryz.prog W base sp held fuel 44 cs=some x ->
  ∃ t h y f,cs=[sv h,sv y,.int .i64 f]/\PV (fun _=>False) W t h y f/\FitP t/\cntP t<=Rows.uptoBulk x.1
 | N,fuel,cs,x,hN,h=>by
  obtain ⟨xs,n,hfuel,rfl,hcl,hxl,hf⟩:=DataW.trod_struct Tryz.underlying44 h
  rw [c_plain] at hcl
  match cs,hcl,xs,hxl with
  | [v0,v1,v2],_,[y0,y1,y2],_ =>
   have h0:=hf 0 _ rfl
   have h1:=hf 1 _ rfl
   have h2:=hf 2 _ rfl
   simp only [List.getElem_toArray,List.getElem_cons_zero,List.getElem_cons_succ] at h0 h1 h2
   rw [c_ints] at h0
   rw [c_items] at h1
   rw [c_int] at h2
   simp at h0 h1 h2
   obtain ⟨k,e2,rfl,w2⟩:=DataW.trod_int Tryz.underlying3 h2
   obtain rfl:v2= .int .i64 k:=by simpa using e2
   obtain ⟨s,hs,rfl,rs,bs⟩:=slice_reads (Value.int .i64) 0 Tryz.underlying41 c_int (fun h=>by obtain ⟨b,hb,_⟩:=DataW.trod_int Tryz.underlying3 h;exact ⟨b,by simpa using hb⟩) h0
   rcases DataW.trod_slice Tryz.underlying42 h1 with ⟨hcs,rfl⟩ | ⟨a,len,cap,elems,rest,n',hn',hcs,rfl,_,hle,_,hel,hcell,_,_⟩
   ·obtain rfl:v1= .slice none 0 0:=by simpa using hcs
    refine ⟨.mk s [] k,hs,nilS,k,rfl,?_,?_,?_⟩
    ·rw [PV];exact ⟨rs,rfl,rfl,.inl ⟨rfl,trivial⟩⟩
    ·rw [FitP,FitIs];trivial
    ·simp only [cntP,cntIs,Rows.uptoBulk,List.map_cons,Rows.uptoBulkAll,List.length_nil];omega
   ·obtain rfl:v1= .slice (some a) len cap:=by simpa using hcs
    have hk:∀ i,∃ t,i < len->∃ k n c y d,elems[i]?=some d/\(∀ j,j < 4->W.cell? (a.add (i*4+j))=[Value.int .i64 k,.float .f64 n,.int .i32 c,sv y][j]?)/\IV (fun _=>False) W t k n c y/\FitI t/\cntI t+1<=Rows.uptoBulk d.1:=by
     intro i
     by_cases hi:i < len
     ·have:=hcell i hi
      have he:elems[i]?=some (elems[i]'(by omega)):=List.getElem?_eq_getElem (by omega)
      rw [he,c_item,Option.bind_eq_some_iff] at this
      obtain ⟨cs',hc1,hc2⟩:=this
      obtain ⟨t,k,n,c,y,rfl,q1,q2,q3⟩:=item_open (N - 1) n' cs' _ (by omega) hc2
      obtain ⟨_,_,hat⟩:=World.cells?_some hc1
      exact ⟨t,fun _=>⟨k,n,c,y,_,he,fun j hj=>by rw [<- Go.Deep.add_add];exact hat j hj,q1,q2,q3⟩⟩
     ·exact ⟨default,fun h=>absurd h hi⟩
    obtain ⟨T,hT⟩:=Classical.axiomOfChoice hk
    have hts:((List.range len).map T).length=len:=by simp
    have hsum:=sum_bulk cntI ((List.range len).map T) (elems.map (·.1)) (by simp [hel]) fun i h1 h2=>by
     have hi:i < len:=by simpa using h1
     obtain ⟨_,_,_,_,d,he,_,_,_,hs⟩:=hT i hi
     have he':elems[i]'(by omega)=d:=by rw [List.getElem?_eq_getElem (by omega)] at he;exact Option.some.inj he
     simp [he'];exact hs
    refine ⟨.mk s ((List.range len).map T) k,hs,(some a,len,cap),k,rfl,?_,?_,?_⟩
    ·by_cases h0:len=0
     ·subst h0
      rw [PV];exact ⟨rs,rfl,rfl,.inl ⟨rfl,trivial⟩⟩
     ·obtain ⟨_,_,_,_,_,_,hc0,_⟩:=hT 0 (by omega)
      obtain ⟨bl,off,spot⟩:=a
      have hspot:spot=none:=by have:=hc0 0 (by omega);simpa [Addr.add] using World.cell?_spot this
      subst hspot
      refine pv_of rs (by simp) fun i hi=>?_
      have hi':i < len:=by simpa using hi
      obtain ⟨k,n,c,y,d,_,hc,hr,_,_⟩:=hT i hi'
      refine ⟨bl,off,k,n,c,y,rfl,fun h=>h,by simpa using hr,?_,?_,?_,?_⟩
      ·have:=hc 0 (by omega);rw [add_off] at this;simpa using this
      ·have:=hc 1 (by omega);rw [add_off] at this;simpa [Nat.add_assoc] using this
      ·have:=hc 2 (by omega);rw [add_off] at this;simpa [Nat.add_assoc] using this
      ·have:=hc 3 (by omega);rw [add_off] at this;simpa [Nat.add_assoc] using this
    ·rw [FitP]
     refine fitIs_of _ fun i hi=>?_
     have hi':i < len:=by simpa using hi
     obtain ⟨_,_,_,_,_,_,_,_,hft,_⟩:=hT i hi'
     simpa using hft
    ·rw [hts,<- cntIs_sum] at hsum
     simp only [cntP,Rows.uptoBulk,List.map_cons,List.map_nil,Rows.uptoBulkAll,hts]
     omega
 termination_by N=>N
 decreasing_by omega
theorem item_open {H:Type}{enc:TypeId×Value->H}{W:World}{sp:Nat->Bool}{held:Bool}{base:Nat}:∀ (N fuel:Nat) (cs:List Value) (x:DataW H×List MemPlace),fuel<=N->DataW.trod enc Tryz.prog W base sp held fuel 106 cs=some x ->
  ∃ t k n c y,cs=[.int .i64 k,.float .f64 n,.int .i32 c,sv y]/\IV (fun _=>False) W t k n c y/\FitI t/\cntI t+1<=Rows.uptoBulk x.1
 | N,fuel,cs,x,hN,h=>by
  obtain ⟨xs,n,hfuel,rfl,hcl,hxl,hf⟩:=DataW.trod_struct Tryz.underlying106 h
  rw [c_item] at hcl
  match cs,hcl,xs,hxl with
  | [v0,v1,v2,v3],_,[y0,y1,y2,y3],_ =>
   have h0:=hf 0 _ rfl
   have h1:=hf 1 _ rfl
   have h2:=hf 2 _ rfl
   have h3:=hf 3 _ rfl
   simp only [List.getElem_toArray,List.getElem_cons_zero,List.getElem_cons_succ] at h0 h1 h2 h3
   rw [c_int] at h0
   rw [c_f64] at h1
   rw [c_i32] at h2
   rw [c_plains] at h3
   simp at h0 h1 h2 h3
   obtain ⟨k,e0,rfl,w0⟩:=DataW.trod_int Tryz.underlying3 h0
   obtain rfl:v0= .int .i64 k:=by simpa using e0
   obtain ⟨m,rfl,hm⟩:=trodF h1
   obtain ⟨c,e2,rfl,w2⟩:=DataW.trod_int Tryz.underlying21 h2
   obtain rfl:v2= .int .i32 c:=by simpa using e2
   rcases DataW.trod_slice Tryz.underlying104 h3 with ⟨hcs,rfl⟩ | ⟨a,len,cap,elems,rest,n',hn',hcs,rfl,_,hle,_,hel,hcell,_,_⟩
   ·obtain rfl:v3= .slice none 0 0:=by simpa using hcs
    refine ⟨.mk k m c [],k,m,c,nilS,rfl,iv_none _ W _ _ _ _ _,?_,?_⟩
    ·rw [FitI,FitPs];exact ⟨hm,trivial⟩
    ·simp only [cntI,cntPs,Rows.uptoBulk,List.map_cons,Rows.uptoBulkAll];omega
   ·obtain rfl:v3= .slice (some a) len cap:=by simpa using hcs
    have hk:∀ i,∃ t,i < len->∃ h y f d,elems[i]?=some d/\(∀ j,j < 3->W.cell? (a.add (i*3+j))=[sv h,sv y,Value.int .i64 f][j]?)/\PV (fun _=>False) W t h y f/\FitP t/\cntP t<=Rows.uptoBulk d.1:=by
     intro i
     by_cases hi:i < len
     ·have:=hcell i hi
      have he:elems[i]?=some (elems[i]'(by omega)):=List.getElem?_eq_getElem (by omega)
      rw [he,c_plain,Option.bind_eq_some_iff] at this
      obtain ⟨cs',hc1,hc2⟩:=this
      obtain ⟨t,h,y,f,rfl,q1,q2,q3⟩:=plain_open (N - 1) n' cs' _ (by omega) hc2
      obtain ⟨_,_,hat⟩:=World.cells?_some hc1
      exact ⟨t,fun _=>⟨h,y,f,_,he,fun j hj=>by rw [<- Go.Deep.add_add];exact hat j hj,q1,q2,q3⟩⟩
     ·exact ⟨default,fun h=>absurd h hi⟩
    obtain ⟨T,hT⟩:=Classical.axiomOfChoice hk
    have hts:((List.range len).map T).length=len:=by simp
    have hsum:=sum_bulk (fun t=>cntP t - 1) ((List.range len).map T) (elems.map (·.1)) (by simp [hel]) fun i h1 h2=>by
     have hi:i < len:=by simpa using h1
     obtain ⟨_,_,_,d,he,_,_,_,hs⟩:=hT i hi
     have he':elems[i]'(by omega)=d:=by rw [List.getElem?_eq_getElem (by omega)] at he;exact Option.some.inj he
     have:=cntP_pos (T i)
     simp [he'];omega
    have hsum2:cntPs ((List.range len).map T)<=Rows.uptoBulkAll (elems.map (·.1)):=by
     rw [cntPs_sum]
     refine Nat.le_trans ?_ hsum
     generalize (List.range len).map T=ts
     induction ts with
     | nil=>simp
     | cons t ts ih=>simp only [List.map_cons,List.sum_cons,List.length_cons];omega
    refine ⟨.mk k m c ((List.range len).map T),k,m,c,(some a,len,cap),rfl,?_,?_,?_⟩
    ·by_cases h0:len=0
     ·subst h0;exact iv_none _ W _ _ _ _ _
     ·obtain ⟨_,_,_,_,_,hc0,_⟩:=hT 0 (by omega)
      obtain ⟨bl,off,spot⟩:=a
      have hspot:spot=none:=by have:=hc0 0 (by omega);simpa [Addr.add] using World.cell?_spot this
      subst hspot
      rw [IV]
      refine ⟨rfl,rfl,rfl,by simp,.inr ⟨bl,off,rfl,fun h=>h,pvs_of _ _ fun i hi=>?_⟩⟩
      have hi':i < len:=by simpa using hi
      obtain ⟨h,y,f,d,_,hc,hr,_,_⟩:=hT i hi'
      refine ⟨h,y,f,⟨?_,?_,?_⟩,by simpa using hr⟩
      ·have:=hc 0 (by omega);rw [add_off] at this;simpa using this
      ·have:=hc 1 (by omega);rw [add_off] at this;simpa [Nat.add_assoc] using this
      ·have:=hc 2 (by omega);rw [add_off] at this;simpa [Nat.add_assoc] using this
    ·rw [FitI]
     refine ⟨hm,fitPs_of _ fun i hi=>?_⟩
     have hi':i < len:=by simpa using hi
     obtain ⟨_,_,_,_,_,_,_,hft,_⟩:=hT i hi'
     simpa using hft
    ·simp only [cntI,Rows.uptoBulk,List.map_cons,List.map_nil,Rows.uptoBulkAll]
     omega
 termination_by N=>N
 decreasing_by omega
end
theorem iv_char {H:Nat->Prop}{w:World}{A:RI}{k:Int}{n:Nat}{c:Int}{y:Sl} (g:IV H w A k n c y):A.charOf=c:=by
 cases A with
 | mk k9 n9 c9 box =>
  rw [IV] at g
  exact g.2.2.1.symm
theorem plain_top {H:Type}{enc:TypeId×Value->H}{W:World}{sp:Nat->Bool}{held:Bool}{base:Nat}{fuel:Nat}{cs:List Value}{x:DataW H×List MemPlace} (h:DataW.trod enc Tryz.prog W base sp held fuel 44 cs=some x)
  {s:List Int} {l:List RI} {fl:Int} {hd y:Sl} {f:Int} (e:cs=[sv hd,sv y,.int .i64 f]) (g:PV (fun _=>False) W (.mk s l fl) hd y f):hd.2.1<=hd.2.2/\∀ i (hi:i < l.length),-2147483648<=l[i].charOf/\l[i].charOf<=2147483647:=by
 obtain ⟨xs,n,hfuel,rfl,hcl,hxl,hf⟩:=DataW.trod_struct Tryz.underlying44 h
 rw [c_plain] at hcl
 subst e
 match xs,hxl with
 | [y0,y1,y2],_ =>
  have h0:=hf 0 _ rfl
  have h1:=hf 1 _ rfl
  simp only [List.getElem_toArray,List.getElem_cons_zero,List.getElem_cons_succ] at h0 h1
  rw [c_ints] at h0
  rw [c_items] at h1
  simp at h0 h1
  refine ⟨?_,fun i hi=>?_⟩
  ·rcases DataW.trod_slice Tryz.underlying41 h0 with ⟨hcs,_⟩ | ⟨a,len,cap,elems,rest,n',hn',hcs,_,_,hle,_⟩
   ·injection hcs with hcs _
    injection hcs with e1 e2 e3
    omega
   ·injection hcs with hcs _
    injection hcs with e1 e2 e3
    omega
  ·obtain ⟨-,-,hx,hit⟩:=g.open_
   obtain ⟨b,o,k,n9,c,y9,hy,-,hiv,hat⟩:=hit i hi
   rw [iv_char hiv]
   rcases DataW.trod_slice Tryz.underlying42 h1 with ⟨hcs,_⟩ | ⟨a,len,cap,elems,rest,n',hn',hcs,_,_,hle,_,hel,hcell,_,_⟩
   ·injection hcs with hcs _
    injection hcs with e1 e2 e3
    omega
   ·injection hcs with hcs _
    injection hcs with e1 e2 e3
    have hil:i < len:=by omega
    have h9:=hcell i hil
    rw [List.getElem?_eq_getElem (show i < elems.length by omega),c_item,Option.bind_eq_some_iff] at h9
    obtain ⟨cs',hc1,hc2⟩:=h9
    obtain ⟨hln,_,hat2⟩:=World.cells?_some hc1
    obtain ⟨xs2,n2,_,_,hcl2,hxl2,hf2⟩:=DataW.trod_struct Tryz.underlying106 hc2
    rw [c_item] at hcl2
    match cs',hcl2,xs2,hxl2 with
    | [v0,v1,v2,v3],_,[z0,z1,z2,z3],_ =>
     have k2:=hf2 2 _ rfl
     simp only [List.getElem_toArray,List.getElem_cons_zero,List.getElem_cons_succ] at k2
     rw [c_i32] at k2
     simp at k2
     obtain ⟨c9,e9,_,w9⟩:=DataW.trod_int Tryz.underlying21 k2
     obtain rfl:v2= .int .i32 c9:=by simpa using e9
     have hm:=hat2 2 (by omega)
     rw [hy] at e1
     injection e1 with e1
     subst e1
     have q:=(hat W ⟨Nat.le_refl _,fun _ _ _=>rfl⟩).2.2.1
     rw [add_off,add_off,q] at hm
     have e7:c=c9:=by simpa using hm
     subst e7
     have h8:(decide (IntKind.min .i32<=c)&&decide (c<=IntKind.max .i32))=true:=w9
     rw [Bool.and_eq_true,decide_eq_true_eq,decide_eq_true_eq] at h8
     exact h8
theorem charsA_of {s:List Int}{l:List RI}{fl:Int} (h:∀ i (hi:i < l.length),-2147483648<=l[i].charOf/\l[i].charOf<=2147483647):ChA (clP (.mk s l fl)):=by
 rw [clP]
 split
 ·trivial
 ·split
  ·intro c hc
   obtain ⟨t,ht,rfl⟩:=List.mem_map.1 hc
   obtain ⟨i,hi,rfl⟩:=List.getElem_of_mem ht
   exact h i hi
  ·trivial
end Go.Proofs.YtbakjaliponbbaaGreatDoor
