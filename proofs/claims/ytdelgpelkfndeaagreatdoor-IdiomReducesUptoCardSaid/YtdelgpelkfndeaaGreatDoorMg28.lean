/- The walks of rebusref21.each (turning back along the last axis) and Reverse. Printed by gen_rrd.py. The walk of rebusref21.Reverse. Printed by gen_rre.py. .. Conditions: as each theorem says. -/
import Derived.Test.YtdelgpelkfndeaaGreatDoorMgA
import Derived.Test.YtdelgpelkfndeaaGreatDoorMg20
import Derived.Test.YtdelgpelkfndeaaGreatDoorMg18
import Derived.Test.YtdelgpelkfndeaaGreatDoorMg17
import Derived.Test.YtdelgpelkfndeaaGreatDoorMg11
import Derived.Test.YtdelgpelkfndeaaGreatDoorMg16
import Derived.Test.YtdelgpelkfndeaaGreatDoorMg19
import Derived.Test.YtdelgpelkfndeaaGreatDoorMg06
import Derived.Test.YtdelgpelkfndeaaGreatDoorMg04
import Derived.Test.YtdelgpelkfndeaaGreatDoorMg22
import Derived.Test.YtdelgpelkfndeaaGreatDoorMg07
import Derived.Test.YtdelgpelkfndeaaGreatDoorMg21
import Derived.Test.YtdelgpelkfndeaaGreatDoorMg14
import Derived.Test.YtdelgpelkfndeaaGreatDoorMg24
import Derived.Test.YtdelgpelkfndeaaGreatDoorMg23
import Derived.Test.YtdelgpelkfndeaaGreatDoorMg27
import Derived.Deep.RegionWith
import Derived.Test.YtdelgpelkfndeaaGreatDoorRows
import Derived.ProofKit
import Derived.Deep.Slices
import Derived.Deep.Fields
import Derived.ChangeSame
set_option maxRecDepth 100000
set_option maxHeartbeats 4000000
namespace Go.Proofs.YtdelgpelkfndeaaGreatDoor
open Go Go.RowKit Go.Proofs Fl
def Quq (s r:List Nat):List Nat:=r.set (s.length - 1) (s.getD (s.length - 1) 0 - 1 - r.getD (s.length - 1) 0)
def revK (a:PA):List Nat:=((allL a.shape a.len).take a.len).map fun r=>plcN a.shape (Quq a.shape r)
def revA (a:PA):PA:=if a.len=0\/a.shape.length=0 then a else pkA a.shape a (revK a)
def shpA (a:PA):PA := .nums [a.shape.length] (a.shape.map fun d:Nat=>fi (d:Int))
def talN (a:PA):Nat:=match a.shape with | []=>1 | d::_=>d
noncomputable def rF (j:Nat) (a:PA):PA :=
 match j with
 | 5=>oneA (talN a:Int) | 6=>oneA (talN a:Int) | 7=>oneA (talN a:Int) | 8=>shpA a | 9=>oneA (talN a:Int) | 10=>revA a | _=>firE a
theorem QsF (h1 x1:Sl) (f z:Int) (w:World) :
  Calls Tryz.prog 12 #[arrV nilS zeroP,.bool false,plV h1 x1 f,.int .i64 z] w fun e w'=>e= .returned (.bool true)/\Below w.heap.size w w':=by
 have HB:=hD (bel2 w QbN (plO h1 x1 f))
 go_enter Tryz.func12,Tryz.ntmps12
 go_wp2_with fail
 refine (QaY 0 vnil 0 vnil vnil vnil vnil vnil _).mono ?_
 rintro e w1 ⟨rfl,hb⟩
 have HB1:=hD (Qaa HB.out hb)
 clear hb
 go_wp2
 go_ret
 exact ⟨rfl,HB1.out⟩
theorem QsG {H H':Nat->Prop}{a:PA}{h:Sl}{p:V8}{h1 x1:Sl}{f:Int}{w:World} (hH:∀ b,H b->b < w.heap.size) (hg:GoodA 40 a) (hs:SmA 1000000 a) (hav:AV H w a h p) (hpv:PV H' w (rawP a) h1 x1 f) :
  Calls Tryz.prog 12 #[arrV h p,.bool true,plV h1 x1 f,.int .i64 0] w fun e w'=>e= .returned (.bool true)/\Below w.heap.size w w':=by
 obtain ⟨w0,hw0⟩:∃ w0,w0=(w.alloc (arrO h p)).alloc (plO h1 x1 f):=⟨_,rfl⟩
 have HW0:=hD hw0
 have HB0:Hid (Below w.heap.size w w0):=by unfold Hid;rw [hw0];exact bel2 _ _ _
 have HSH:=hD (Qgr (w:=w0) (fun b e=>by have:=hH b e;have:=HB0.out.size;omega) hg hs (AV.step hav HB0.out) (hpv.step HB0.out))
 have HQ:Hid (w0.heap[w.heap.size+1]?=some (plO h1 x1 f)):=by
  have h9:=heap_alloc_new (w.alloc (arrO h p)) (plO h1 x1 f)
  rw [show (w.alloc (arrO h p)).heap.size=w.heap.size+1 by simp] at h9
  unfold Hid
  rw [hw0]
  exact h9
 have HV:Hid (w0.heap[w.heap.size]?=some (arrO h p)):=by
  have h9:=heap_alloc_new w (arrO h p)
  unfold Hid
  rw [hw0]
  exact (Below.heap_alloc _ _ _ (lt_blk h9)).trans h9
 clear hH hg hs hav hpv hw0
 go_enter Tryz.func12,Tryz.ntmps12
 go_upto_region 1 with fail
 rw [<- HW0.out]
 obtain ⟨⟨c0,c1,c2,c3,c4,c5,c6,c7,c8⟩,cz⟩:=QjV HV.out
 obtain ⟨⟨d0,d1,d2⟩,dz⟩:=block3 HQ.out
 go_wp2_with fail
 refine HSH.out.mono ?_
 rintro e w7 ⟨rfl,hb⟩
 have HB7:=hD (Qaa HB0.out hb)
 clear hb c0 c1 c2 c3 c4 c5 c6 c7 c8 d0 d1 d2 cz dz
 go_wp2
 go_ret
 exact ⟨rfl,HB7.out⟩
structure LwS (w wr:World) (h1 x1:Sl) (f1:Int) (h2 x2:Sl) (f2:Int) (W:World):Prop where
 p2:P2 w W h1 x1 f1 h2 x2 f2
 bel:Below wr.heap.size wr W
 lo:w.heap.size+2<=wr.heap.size
theorem LwS.step {w wr W W':World}{h1 x1 h2 x2:Sl}{f1 f2:Int} (g:LwS w wr h1 x1 f1 h2 x2 f2 W) (hb:Below W.heap.size W W'):LwS w wr h1 x1 f1 h2 x2 f2 W':=⟨g.p2.step hb,Qaa g.bel hb,g.lo⟩
theorem LwS.put {w wr W:World}{h1 x1 h2 x2:Sl}{f1 f2:Int} (g:LwS w wr h1 x1 f1 h2 x2 f2 W){b j:Nat} (hb:wr.heap.size<=b) (u:Value):LwS w wr h1 x1 f1 h2 x2 f2 (W.setCell ⟨b,j,none⟩ u):=⟨g.p2.more ((Below.refl _ W).setCell (by show _<=b;have:=g.lo;omega) u),g.bel.setCell (by show _<=b;exact hb) u,g.lo⟩
theorem LwS.dr {w wr W:World}{h1 x1 h2 x2:Sl}{f1 f2:Int} (g:LwS w wr h1 x1 f1 h2 x2 f2 W):LwS w wr h1 x1 f1 h2 x2 f2 W.drew:=g.step (Below.refl _ W).drew
theorem LwS.al {w wr W:World}{h1 x1 h2 x2:Sl}{f1 f2:Int} (g:LwS w wr h1 x1 f1 h2 x2 f2 W) (o:Obj):LwS w wr h1 x1 f1 h2 x2 f2 (W.alloc o):=g.step (bel1 W o)
theorem LwS.self {w wr W:World}{h1 x1 h2 x2:Sl}{f1 f2:Int} (g:LwS w wr h1 x1 f1 h2 x2 f2 W):LwS w wr h1 x1 f1 h2 x2 f2 W:=g
theorem QtJ {w wr W:World}{h1 x1 h2 x2:Sl}{f1 f2:Int} (g:LwS w wr h1 x1 f1 h2 x2 f2 W):((W.cell? ⟨w.heap.size,0,none⟩=some (.slice h1.1 h1.2.1 h1.2.2)/\W.cell? ⟨w.heap.size,1,none⟩=some (.slice x1.1 x1.2.1 x1.2.2)/\W.cell? ⟨w.heap.size,2,none⟩=some (.int .i64 f1)) /\
  (W.cell? ⟨w.heap.size+1,0,none⟩=some (.slice h2.1 h2.2.1 h2.2.2)/\W.cell? ⟨w.heap.size+1,1,none⟩=some (.slice x2.1 x2.2.1 x2.2.2)/\W.cell? ⟨w.heap.size+1,2,none⟩=some (.int .i64 f2)))/\LwS w wr h1 x1 f1 h2 x2 f2 W:=⟨⟨Qax g.p2.one,Qax g.p2.two⟩,g⟩
abbrev Fresh (wr W:World):Nat->Prop:=fun b=>wr.heap.size<=b/\b < W.heap.size
def QsH (t1 t2:RP) (w:World) (h1 x1:Sl) (f1:Int) (h2 x2:Sl) (f2:Int) (v:Value) (wx:World):Prop :=
 ∃ b:Bool,v= .bool b/\(b=false->(OkP 40 t1/\cntP t1<=1500)/\(OkP 40 t2/\cntP t2<=1500))/\P2 w wx h1 x1 f1 h2 x2 f2
theorem Qg9 {t1 t2:RP}{w wx:World}{h1 x1:Sl}{f1:Int}{h2 x2:Sl}{f2:Int} (h:P2 w wx h1 x1 f1 h2 x2 f2):QsH t1 t2 w h1 x1 f1 h2 x2 f2 (.bool true) wx:=⟨true,rfl,(fun e=>by cases e),h⟩
theorem Qqb {t1 t2:RP}{w wx:World}{h1 x1:Sl}{f1:Int}{h2 x2:Sl}{f2:Int}{b:Bool} (g1:OkP 40 t1/\cntP t1<=1500) (g2:OkP 40 t2/\cntP t2<=1500) (h:P2 w wx h1 x1 f1 h2 x2 f2):QsH t1 t2 w h1 x1 f1 h2 x2 f2 (.bool b) wx:=⟨b,rfl,fun _=>⟨g1,g2⟩,h⟩
theorem Qqc {t:RP} (h:cntP t<=1500):SmA 1000000 (clP t):=SmA.up (by decide) _ (smP t h)
def PvK (K:Nat->Prop) (w1:World) (t:RP) (h x:Sl) (f:Int):Prop:=PV K w1 t h x f/\∀ b,K b->b < w1.heap.size
theorem QfL {t:RP} (o:OkP 40 t) (c:cntP t<=1500){h x:Sl}{f:Int} (K:Nat->Prop) (W:World) (hK:∀ b,K b->b < W.heap.size) (g:∀ W',Below W.heap.size W W'->PV K W' t h x f) :
  Calls Tryz.prog 11 #[plV h x f] W fun e w'=>∃ h' x',e= .returned (plV h' x' f)/\PvK K w' (rawP (clP t)) h' x' f/\Below W.heap.size W w':=by
 refine (QhN 40 K t h x f W hK o (by omega) (g W (Below.refl _ _))).mono ?_
 rintro e w' ⟨h',x',rfl,hp,hb⟩
 exact ⟨h',x',rfl,⟨hp,fun b e=>by have:=hK b e;have:=hb.size;omega⟩,hb⟩
theorem BelT.self2 {w1 W:World} (g:BelT w1 W):BelT w1 W:=g
theorem Qn8 {wr W w1:World}{t:RP}{h x:Sl}{f:Int} (_:PvK (Fresh wr W) w1 t h x f):∀ b,Fresh wr W b->wr.heap.size<=b:=fun _ e=>e.1
theorem Qly {K1:Nat->Prop}{w1 W w2:World}{t:RP}{h x:Sl}{f:Int} (_:PvK (fun b=>K1 b\/Fresh w1 W b) w2 t h x f):∀ b,(K1 b\/Fresh w1 W b)->b < w1.heap.size->K1 b:=fun b e h=>by
 rcases e with e | e
 ·exact e
 ·have:=e.1;omega
theorem Qn9 {w wr:World}{t:RP}{h x:Sl}{f:Int} (g:PV (fun _=>False) w t h x f) (hw:w.heap.size<=wr.heap.size) (K:Nat->Prop) (hK:∀ b,K b->wr.heap.size<=b) (W:World) (hb:Below w.heap.size w W):PV K W t h x f :=
 PV.lat (Lat.below hb) (PV.sub (fun b hb e=>by have:=hK b e;omega) g)
def redFL:List Int:=[43,8743,8744,8968,8970]
def redGL:List Int:=[60,8804,61,8805,62,8800,8714]
def redF (j:Nat):Int:=redFL.getD j 0
def redG (k:Nat):Int:=redGL.getD k 0
abbrev QsI:Obj := .cells #[.int .i32 43,.int .i32 8743,.int .i32 8744,.int .i32 8968,.int .i32 8970] 21
abbrev QsJ:Obj := .cells #[.int .i32 60,.int .i32 8804,.int .i32 61,.int .i32 8805,.int .i32 62,.int .i32 8800,.int .i32 8714] 21
theorem Qoa (W:World) (j:Nat) (h:j < 5):(W.alloc QsI).cell? ⟨W.heap.size,j,none⟩=some (.int .i32 (redF j)):=by
 rw [cell_of_row _ W.heap.size j _ _ (0,0) (heap_alloc_new W QsI)]
 match j,h with
 | 0,_=>rfl
 | 1,_=>rfl
 | 2,_=>rfl
 | 3,_=>rfl
 | 4,_=>rfl
theorem Qob (W:World) (j:Nat) (h:j < 7):(W.alloc QsJ).cell? ⟨W.heap.size,j,none⟩=some (.int .i32 (redG j)):=by
 rw [cell_of_row _ W.heap.size j _ _ (0,0) (heap_alloc_new W QsJ)]
 match j,h with
 | 0,_=>rfl
 | 1,_=>rfl
 | 2,_=>rfl
 | 3,_=>rfl
 | 4,_=>rfl
 | 5,_=>rfl
 | 6,_=>rfl
theorem Qoc (j:Nat) (h:j < 5):Qan (redF j)=1\/Qan (redF j)=21\/Qan (redF j)=22\/Qan (redF j)=5\/Qan (redF j)=6:=by
 match j,h with
 | 0,_=>decide+kernel
 | 1,_=>decide+kernel
 | 2,_=>decide+kernel
 | 3,_=>decide+kernel
 | 4,_=>decide+kernel
theorem Qha (k:Nat) (h:k < 7):(Qan (redG k)=0↔redG k=8714)/\(Qan (redG k)=0\/(11<=Qan (redG k)/\Qan (redG k)<=16)):=by
 match k,h with
 | 0,_=>decide+kernel
 | 1,_=>decide+kernel
 | 2,_=>decide+kernel
 | 3,_=>decide+kernel
 | 4,_=>decide+kernel
 | 5,_=>decide+kernel
 | 6,_=>decide+kernel
theorem Qod {d:Nat} (hd:0 < d){z:Int} (h:Good z):GoodA d (oneA z)/\SmA 1000000 (oneA z):=by
 unfold oneA
 rw [GoodA,SmA]
 refine ⟨⟨hd,⟨by decide,by decide,rfl⟩,fun y hy=>?_⟩,by simp⟩
 obtain rfl:y=fi z:=by simpa using hy
 exact QgC h
def AvO (H:Nat->Prop) (r:Option PA) (h:Sl) (u:V8) (ok:Bool) (W:World):Prop:=(∀ a,r=some a->ok=true/\AV H W a h u)/\(r=none->ok=false/\h=nilS/\u=zeroP)
def OaV (H:Nat->Prop) (w:World) (r:Option PA) (e:Ending) (w':World):Prop:=∃ (h:Sl) (u:V8) (ok:Bool),e= .returned (.tuple #[arrV h u,.bool ok])/\AvO H r h u ok w'/\Below w.heap.size w w'
theorem OaR.v {H:Nat->Prop}{w:World}{r:Option PA}{e:Ending}{w':World} (g:OaR H w r e w'):OaV H w r e w':=by
 cases r with
 | some a =>
  obtain ⟨h,p,e1,h1,h2⟩:=g
  exact ⟨h,p,true,e1,⟨(fun b hb=>by injection hb with hb;subst hb;exact ⟨rfl,h1⟩),(fun hn=>by cases hn)⟩,h2⟩
 | none =>
  obtain ⟨e1,h2⟩:=g
  exact ⟨nilS,zeroP,false,e1,⟨(fun b hb=>by cases hb),(fun _=>⟨rfl,rfl,rfl⟩)⟩,h2⟩
def PvO (H:Nat->Prop) (r:Option PA) (h x:Sl) (f z:Int) (W:World):Prop:=∀ a,r=some a->z=0/\PV H W (rawP a) h x f
def PoO (H:Nat->Prop) (w:World) (r:Option PA) (e:Ending) (w':World):Prop:=∃ (h x:Sl) (f z:Int),e= .returned (.tuple #[plV h x f,.int .i64 z])/\PvO H r h x f z w'/\Below w.heap.size w w'
def QsK (w wr:World) (h1 x1:Sl) (f1:Int) (h2 x2:Sl) (f2:Int) (r:Option PA) (v e:Value) (wx:World):Prop :=
 ∃ (V:Nat) (h:Sl) (u:V8) (ok:Bool),v= .pointer (some ⟨V,0,none⟩)/\e= .bool ok/\wr.heap.size<=V/\wx.heap[V]?=some (arrO h u)/\AvO (fun b=>b=V) r h u ok wx/\LwS w wr h1 x1 f1 h2 x2 f2 wx
theorem Qoe {W5 w5:World}{w wr:World}{h1 x1:Sl}{f1:Int}{h2 x2:Sl}{f2:Int}{r:Option PA}{h:Sl}{u:V8}{ok:Bool} (hav:AvO (Fresh wr W5) r h u ok w5) (hst:LwS w wr h1 x1 f1 h2 x2 f2 w5) :
  QsK w wr h1 x1 f1 h2 x2 f2 r (.pointer (some ⟨w5.heap.size,0,none⟩)) (.bool ok) (w5.alloc (arrO h u)) :=
 ⟨w5.heap.size,h,u,ok,rfl,rfl,hst.bel.size,heap_alloc_new w5 _,⟨fun a ha=>⟨(hav.1 a ha).1,(AV.sub (fun b hb e=>by omega) (hav.1 a ha).2).step (bel1 w5 _)⟩,hav.2⟩,hst.al _⟩
theorem Qof {W5 w5:World}{w wr:World}{h1 x1:Sl}{f1:Int}{h2 x2:Sl}{f2:Int}{r:Option PA}{h:Sl}{u:V8}{ok:Bool}{Z:Nat} (hav:AvO (Fresh wr W5) r h u ok w5) (hst:LwS w wr h1 x1 f1 h2 x2 f2 w5) (hz:ZB Z w5) (h5:ZB Z W5) (hZ:wr.heap.size<=Z) :
  QsK w wr h1 x1 f1 h2 x2 f2 r (.pointer (some ⟨Z,0,none⟩)) (.bool ok) (set9 w5 Z (sv h) (.int .i64 u.k) (sv u.b) (.int .i64 u.bn) (sv u.s) (sv u.i) (sv u.f) (sv u.c) (sv u.x)):=by
 have hzw:=lt_blk h5
 have hwr:=hst.lo
 refine ⟨Z,h,u,ok,rfl,rfl,hZ,Qat hz _ _ _ _ _ _ _ _ _,⟨fun a ha=>⟨(hav.1 a ha).1,AV.lat (Lat.set9 (H:=fun b=>b=Z) (G:=Z) rfl _ _ _ _ _ _ _ _ _) (AV.sub (fun b hb e=>?_) (hav.1 a ha).2)⟩,hav.2⟩,⟨hst.p2.more (Qal (Below.refl _ w5) (by omega) _ _ _ _ _ _ _ _ _),Qal hst.bel hZ _ _ _ _ _ _ _ _ _,hwr⟩⟩
 exact ⟨by omega,by omega⟩
def Qog (w wr:World) (h1 x1:Sl) (f1:Int) (h2 x2:Sl) (f2:Int) (r:Option PA) (v e:Value) (wx:World):Prop :=
 ∃ (V:Nat) (h x:Sl) (fo z:Int),v= .pointer (some ⟨V,0,none⟩)/\e= .int .i64 z/\wr.heap.size<=V/\wx.heap[V]?=some (plO h x fo)/\PvO (fun b=>b=V) r h x fo z wx/\LwS w wr h1 x1 f1 h2 x2 f2 wx
theorem Qlz {w5:World}{K:Nat->Prop}{w wr:World}{h1 x1:Sl}{f1:Int}{h2 x2:Sl}{f2:Int}{r:Option PA}{h x:Sl}{fo z:Int} (hp:PvO K r h x fo z w5) (hst:LwS w wr h1 x1 f1 h2 x2 f2 w5) :
  Qog w wr h1 x1 f1 h2 x2 f2 r (.pointer (some ⟨w5.heap.size,0,none⟩)) (.int .i64 z) (w5.alloc (plO h x fo)) :=
 ⟨w5.heap.size,h,x,fo,z,rfl,rfl,hst.bel.size,heap_alloc_new w5 _,fun a ha=>⟨(hp a ha).1,(PV.sub (fun b hb e=>by omega) (hp a ha).2).step (bel1 w5 _)⟩,hst.al _⟩
theorem QlA {w5:World}{K:Nat->Prop}{w wr:World}{h1 x1:Sl}{f1:Int}{h2 x2:Sl}{f2:Int}{r:Option PA}{h x:Sl}{fo z:Int}{Z:Nat} (hp:PvO K r h x fo z w5) (hst:LwS w wr h1 x1 f1 h2 x2 f2 w5) (hz:ZO (plO nilS nilS 0) Z w5) (hK:K Z) (hZ:wr.heap.size<=Z) :
  Qog w wr h1 x1 f1 h2 x2 f2 r (.pointer (some ⟨Z,0,none⟩)) (.int .i64 z) (set3 w5 Z (sv h) (sv x) (.int .i64 fo)) :=
 ⟨Z,h,x,fo,z,rfl,rfl,hZ,Qae hz _ _ _,fun a ha=>⟨(hp a ha).1,PV.lat (Lat.set3 (H:=fun b=>b=Z) (G:=Z) rfl _ _ _) (PV.sub (fun b _ e=>by subst e;exact hK) (hp a ha).2)⟩,((hst.put hZ _).put hZ _).put hZ _⟩
theorem QlB (j k:Nat) (hj:j < 5) (hk:k < 7) (most:Nat){t1 t2:RP} (o1:OkP 40 t1) (o2:OkP 40 t2) (c1:cntP t1<=1500) (c2:cntP t2<=1500) (H:Nat->Prop) (W:World) (tz:TzTab W) (hH:∀ b,H b->b < W.heap.size) (u1 u2:Sl) (v1 v2:V8) (g1:AvAt noH (clP t1) u1 v1 W) (g2:AvAt noH (clP t2) u2 v2 W) :
  Calls Tryz.prog 8 #[.agg #[.int .i64 2,.int .i32 (redF j),.int .i32 (redG k)],arrV u1 v1,arrV u2 v2,.int .i64 (most:Int)] W (OaV H W (redE (Qan (redF j)) (Qan (redG k)) (clP t1) (clP t2) most)) :=
 (Qif (redF j) (redG k) most (Qha k hk).1 (Qoc j hj) (Qha k hk).2 W hH g1 g2 39 (Qcx 40 t1 o1) (Qqc c1) (Qcx 40 t2 o2) (Qqc c2) tz).mono fun _ _ t=>OaR.v t
theorem Qjn (j k:Nat) (hk:k < 7) (most:Nat){t1 t2:RP} (o1:OkP 40 t1) (o2:OkP 40 t2) (c1:cntP t1<=1500) (c2:cntP t2<=1500) (K1 K2:Nat->Prop) (w1 w2 W:World){u1 y1 u2 y2:Sl}{f1 f2:Int} (k12:∀ b,K2 b->b < w1.heap.size->K1 b) (hb1:BelT w1 W) (hb2:BelT w2 W) (h12:w1.heap.size<=w2.heap.size)
  (g1:PvK K1 w1 (rawP (clP t1)) u1 y1 f1) (g2:PvK K2 w2 (rawP (clP t2)) u2 y2 f2) :
  Calls Tryz.prog 10 #[.agg #[.int .i64 2,.int .i32 (redF j),.int .i32 (redG k)],plV u1 y1 f1,plV u2 y2 f2,.int .i64 (most:Int)] W (PoO (fun b=>K2 b\/Fresh w2 W b) W (QfC (Qan (redF j)) (Qan (redG k)) (clP t1) (clP t2) most)):=by
 have hz2:=hb2.size
 refine (Qg8 (H:=fun b=>K2 b\/Fresh w2 W b) (redF j) (redG k) most (Qha k hk).1 W (fun b e=>?_) ?_ ?_ 39 (by decide) (Qcx 40 t1 o1) (Qqc c1) (Qcx 40 t2 o2) (Qqc c2)).mono fun _ _ t=>t
 ·rcases e with e | e
  ·have:=g2.2 b e;omega
  ·exact e.2
 ·exact PV.lat (Lat.below hb1) (PV.sub (fun b hb e=>by
   rcases e with e | e
   ·exact k12 b e hb
   ·have:=e.1;omega) g1.1)
 ·exact PV.lat (Lat.below hb2) (PV.sub (fun b hb e=>by
   rcases e with e | e
   ·exact e
   ·have:=e.1;omega) g2.1)
theorem Qjo (fk gk:Int) (hf0:0<=fk) (hg0:0<=gk) (t1 t2:RP) (h1 x1 h2 x2:Sl) (f1 f2:Int) (n:Int) (hn0:0<=n) (w:World) (i1:FitP t1) (i2:FitP t2) (m1:cntP t1<=1048576) (m2:cntP t2<=1048576) (tz:TzTab w) (r1:PV (fun _=>False) w t1 h1 x1 f1) (r2:PV (fun _=>False) w t2 h2 x2 f2) :
  Calls Tryz.prog 3 #[.int .u8 fk,.int .u8 gk,plV h1 x1 f1,plV h2 x2 f2,.int .u16 n] w fun e w'=>e= .returned (.bool true)/\Below w.heap.size w w':=by
 have HFA:=hD (fun W (hs:P2 w W h1 x1 f1 h2 x2 f2)=>Qgq t1 h1 x1 f1 W i1 m1 (r1.step hs.bel))
 have HFB:=hD (fun W (hs:P2 w W h1 x1 f1 h2 x2 f2)=>Qgq t2 h2 x2 f2 W i2 m2 (r2.step hs.bel))
 have HCA:=hD (fun W (hs:P2 w W h1 x1 f1 h2 x2 f2)=>QeJ 500 (cntP t1) t1 h1 x1 f1 W (Nat.le_refl _) m1 (r1.step hs.bel))
 have HCB:=hD (fun W (hs:P2 w W h1 x1 f1 h2 x2 f2)=>QeJ 500 (cntP t2) t2 h2 x2 f2 W (Nat.le_refl _) m2 (r2.step hs.bel))
 have HR1:=hD r1
 have HR2:=hD r2
 have HTZ:=hD tz
 have HS0:=hD (P2.new w h1 x1 f1 h2 x2 f2)
 obtain ⟨j,hj5,hjk⟩:∃ j:Nat,j < 5/\fk.tmod 5=(j:Int):=⟨(fk % 5).toNat,by omega,by rw [Int.tmod_eq_emod_of_nonneg hf0];omega⟩
 obtain ⟨k,hk7,hkk⟩:∃ k:Nat,k < 7/\gk.tmod 7=(k:Int):=⟨(gk % 7).toNat,by omega,by rw [Int.tmod_eq_emod_of_nonneg hg0];omega⟩
 obtain ⟨most,hm1,hmn⟩:∃ m:Nat,m < 2000/\n.tmod 2000=(m:Int):=⟨(n % 2000).toNat,by omega,by rw [Int.tmod_eq_emod_of_nonneg hn0];omega⟩
 have HJK:=hD hjk
 have HKK:=hD hkk
 have HMN:=hD hmn
 unfold QtE at HFA HFB
 unfold CntR at HCA HCB
 clear i1 i2 m1 m2 r1 r2 tz hjk hkk hmn
 go_enter Tryz.func3,Tryz.ntmps3
 obtain ⟨w0,hw0⟩:∃ w0,w0=(w.alloc (plO h1 x1 f1)).alloc (plO h2 x2 f2):=⟨_,rfl⟩
 rw [<- hw0] at HS0
 have HW0:=hD hw0
 clear hw0
 go_upto_region 1 with fail
 rw [<- HW0.out]
 go_cut [35] from 18 (fun v wx=>QsH t1 t2 w h1 x1 f1 h2 x2 f2 v wx)
 case first =>
  obtain ⟨⟨p0,p1,p2⟩,⟨q0,q1,q2⟩⟩:=(p2_s HS0.out).1
  go_wp2_with fail
  refine (HFA.out _ HS0.out).mono ?_
  rintro e w1 ⟨b1,rfl,hg1,hb⟩
  have HS1:=hD (HS0.out.step hb)
  have HG1:=hD hg1
  clear hb hg1 p0 p1 p2 q0 q1 q2
  cases b1 with
  | false =>
   go_wp2
   go_meet
   exact Qg9 HS1.out
  | true =>
   obtain ⟨⟨p0,p1,p2⟩,⟨q0,q1,q2⟩⟩:=(p2_s HS1.out).1
   go_wp2_with fail
   refine (HFB.out _ HS1.out).mono ?_
   rintro e w2 ⟨b2,rfl,hg2,hb⟩
   have HS2:=hD (HS1.out.step hb)
   have HG2:=hD hg2
   clear hb hg2 p0 p1 p2 q0 q1 q2
   cases b2 with
   | false =>
    go_wp2
    go_meet
    exact Qg9 HS2.out
   | true =>
    obtain ⟨⟨p0,p1,p2⟩,⟨q0,q1,q2⟩⟩:=(p2_s HS2.out).1
    go_wp2_with fail
    refine (HCA.out _ HS2.out).mono ?_
    rintro e w3 ⟨⟨n3,rfl,-⟩,hb⟩
    have HS3:=hD (HS2.out.step hb)
    clear hb p0 p1 p2 q0 q1 q2
    by_cases g3:((n3:Nat):Int) > 300
    ·go_wp2
     go_meet
     exact Qg9 HS3.out
    ·obtain ⟨⟨p0,p1,p2⟩,⟨q0,q1,q2⟩⟩:=(p2_s HS3.out).1
     go_wp2_with fail
     refine (HCB.out _ HS3.out).mono ?_
     rintro e w4 ⟨⟨n4,rfl,-⟩,hb⟩
     have HS4:=hD (HS3.out.step hb)
     clear hb p0 p1 p2 q0 q1 q2
     go_wp2
     go_meet
     exact Qqb (HG1.out (by trivial)) (HG2.out (by trivial)) HS4.out
 obtain ⟨b,rfl,hok,hst⟩:=hcut
 have HST:=hD hst
 clear hst HS0 HW0 HFA HFB HCA HCB
 cases b with
 | true =>
  go_wp2_with fail
  refine (QfF _).mono ?_
  rintro e w1 ⟨rfl,hb⟩
  have HB:=hD (Qaa HST.out.bel hb)
  clear hb
  go_wp2
  go_ret
  exact ⟨rfl,HB.out⟩
 | false =>
  obtain ⟨⟨o1,c1⟩,⟨o2,c2⟩⟩:=hok rfl
  have hjj:fk.tmod 5=(j:Int):=HJK.out
  have hj0:(0:Int)<=(j:Int):=by omega
  have hj5':(j:Int) < 5:=by omega
  have hkg:gk.tmod 7=(k:Int):=HKK.out
  have hk0:(0:Int)<=(k:Int):=by omega
  have hk7':(k:Int) < 7:=by omega
  have hmm:n.tmod 2000=(most:Int):=HMN.out
  have hcl:=Qoa wc j hj5
  obtain ⟨w1,hw1⟩:∃ w1,w1=wc.alloc QsI:=⟨_,rfl⟩
  have HS1:Hid (P2 w w1 h1 x1 f1 h2 x2 f2):=by unfold Hid;rw [hw1];exact HST.out.step (bel1 _ _)
  have HW1:=hD hw1
  have hcl2:=Qob w1 k hk7
  obtain ⟨wr,hwr⟩:∃ wr,wr=w1.alloc QsJ:=⟨_,rfl⟩
  have HSV:Hid (P2 w wr h1 x1 f1 h2 x2 f2):=by unfold Hid;rw [hwr];exact HS1.out.step (bel1 _ _)
  have HWR:=hD hwr
  clear hw1 hwr HS1 HST
  go_upto_region 4 with fail
  rw [<- HW1.out]
  clear hcl
  go_upto_region 6 with fail
  rw [<- HWR.out]
  clear hcl2
  have HST:Hid (LwS w wr h1 x1 f1 h2 x2 f2 wr):=⟨HSV.out,Below.refl _ _,HSV.out.sz⟩
  have HO1:Hid (∀ W,LwS w wr h1 x1 f1 h2 x2 f2 W->Calls Tryz.prog 9 #[plV h1 x1 f1] W (AaR noH W (clP t1))):=fun W hs=>Qfm noH t1 h1 x1 f1 W (Qfr W) o1 (by omega) (HR1.out.step hs.p2.bel)
  have HO2:Hid (∀ W,LwS w wr h1 x1 f1 h2 x2 f2 W->Calls Tryz.prog 9 #[plV h2 x2 f2] W (AaR noH W (clP t2))):=fun W hs=>Qfm noH t2 h2 x2 f2 W (Qfr W) o2 (by omega) (HR2.out.step hs.p2.bel)
  have HTW:=hD (fun (W:World) (u1 u2:Sl) (v1 v2:V8) (hs:LwS w wr h1 x1 f1 h2 x2 f2 W)=>QlB j k hj5 hk7 most o1 o2 c1 c2 (Fresh wr W) W (HTZ.out.below hs.p2.bel) (fun b e=>e.2) u1 u2 v1 v2)
  have HTT:=hD (fun (K1 K2:Nat->Prop) (w1 w2 W:World) (u1 y1 u2 y2:Sl) (g1 g2:Int)=>Qjn j k hk7 most o1 o2 c1 c2 K1 K2 w1 w2 W (u1:=u1) (y1:=y1) (u2:=u2) (y2:=y2) (f1:=g1) (f2:=g2))
  have HTYA:=hD (fun (ws W:World) (hw:w.heap.size<=ws.heap.size) (hs:LwS w ws h1 x1 f1 h2 x2 f2 W)=>QfL o1 c1 (Fresh ws W) W (fun b e=>e.2) (fun W' hb'=>Qn9 HR1.out hw (Fresh ws W) (fun b e=>e.1) W' (Qaa hs.p2.bel hb')))
  have HTYB:=hD (fun (ws:World) (hw:w.heap.size<=ws.heap.size) (K1:Nat->Prop) (w1 W:World) (t:RP) (u y:Sl) (g:Int) (hp:PvK K1 w1 t u y g) (hl:∀ b,K1 b->ws.heap.size<=b) (hz:ws.heap.size<=w1.heap.size) (hb:BelT w1 W) (hs:LwS w ws h1 x1 f1 h2 x2 f2 W)=>QfL o2 c2 (fun b=>K1 b\/Fresh w1 W b) W (fun b e=>by
   rcases e with e | e
   ·have:=hp.2 b e;have:=hb.size;omega
   ·exact e.2) (fun W' hb'=>Qn9 HR2.out hw (fun b=>K1 b\/Fresh w1 W b) (fun b e=>by
   rcases e with e | e
   ·exact hl b e
   ·have:=e.1;omega) W' (Qaa hs.p2.bel hb')))
  have HLAW:Hid (∀ a,redE (Qan (redF j)) (Qan (redG k)) (clP t1) (clP t2) most=some a->QfC (Qan (redF j)) (Qan (redG k)) (clP t1) (clP t2) most=some a/\GoodA 40 a/\SmA 1000000 a):=fun a ha=>by
   obtain ⟨h9,z,rfl,hz⟩:=Qsc (Qoc j hj5) (Qha k hk7).2 (Qcx 40 t1 o1) (Qcx 40 t2 o2) (by omega) ha
   exact ⟨h9,Qod (by decide) hz⟩
  generalize redE (Qan (redF j)) (Qan (redG k)) (clP t1) (clP t2) most=r1 at *
  generalize QfC (Qan (redF j)) (Qan (redG k)) (clP t1) (clP t2) most=r2 at *
  generalize redF j=sF at *
  generalize redG k=sG at *
  unfold AaR at HO1 HO2
  unfold OaV at HTW
  unfold PoO at HTT
  clear hok o1 o2 c1 c2 HR1 HR2 hjj hj0 hj5' hkg hk0 hk7' hmm
  go_cut [14,15] from 18 (fun v e wx=>QsK w wr h1 x1 f1 h2 x2 f2 r1 v e wx)
  case first =>
   have hs0:=HST.out.dr
   have hs00:=HST.out
   go_region_held3 (fun W=>((W.cell? ⟨w.heap.size,0,none⟩=some (.slice h1.1 h1.2.1 h1.2.2)/\W.cell? ⟨w.heap.size,1,none⟩=some (.slice x1.1 x1.2.1 x1.2.2)/\W.cell? ⟨w.heap.size,2,none⟩=some (.int .i64 f1))/\(W.cell? ⟨w.heap.size+1,0,none⟩=some (.slice h2.1 h2.2.1 h2.2.2)/\W.cell? ⟨w.heap.size+1,1,none⟩=some (.slice x2.1 x2.2.1 x2.2.2)/\W.cell? ⟨w.heap.size+1,2,none⟩=some (.int .i64 f2)))/\LwS w wr h1 x1 f1 h2 x2 f2 W)
    (first | with_reducible assumption | (with_reducible (refine QtJ ?_);repeat (first | with_reducible assumption | with_reducible refine LwS.dr ?_ | (with_reducible refine LwS.put ?_ (by first | assumption | omega | (simp;omega)) _) | with_reducible refine LwS.al ?_ _)))
    (first
     | (go_at_call 9;(with_reducible refine (HO1.out _ ?_).mono ?_);exact LwS.self (by repeat (first | with_reducible assumption | with_reducible refine LwS.dr ?_ | with_reducible refine LwS.al ?_ _));rintro e w1 ⟨ha1,pa1,rfl,hav1,hb1⟩;have hst1:LwS w wr h1 x1 f1 h2 x2 f2 w1:=LwS.step (by repeat (first | with_reducible assumption | with_reducible refine LwS.dr ?_ | with_reducible refine LwS.al ?_ _)) hb1;have hat1:AvAt noH (clP t1) ha1 pa1 w1:=hav1;obtain ⟨hc1,hf1⟩:=bcell2 hb1;have hz1:=hb1.size;have hs1z:=hst1.bel.size;(first | (have hsq1:wr.heap.size < w1.heap.size:=Nat.lt_of_lt_of_le (Qa5 _ _) hz1) | (have hsq1:wr.heap.size < w1.heap.size:=Nat.lt_of_lt_of_le (Qa6 _ _) hz1) | skip);have HB1:=hD hb1;clear hb1 hav1)
     | (go_at_call 9;(with_reducible refine (HO2.out _ ?_).mono ?_);exact LwS.self (by repeat (first | with_reducible assumption | with_reducible refine LwS.dr ?_ | with_reducible refine LwS.al ?_ _));rintro e w2 ⟨ha2,pa2,rfl,hav2,hb2⟩;have hst2:LwS w wr h1 x1 f1 h2 x2 f2 w2:=LwS.step (by repeat (first | with_reducible assumption | with_reducible refine LwS.dr ?_ | with_reducible refine LwS.al ?_ _)) hb2;have hat2:AvAt noH (clP t2) ha2 pa2 w2:=hav2;have hat1':AvAt noH (clP t1) ha1 pa1 w2:=AvAt.step (by repeat (first | with_reducible assumption | with_reducible refine AvAt.dr ?_ | with_reducible refine AvAt.al ?_ _)) hb2;obtain ⟨hc2,hf2⟩:=bcell2 hb2;have hz2:=hb2.size;have hs2z:=hst2.bel.size;(first | (have hsq2:w1.heap.size < w2.heap.size:=Nat.lt_of_lt_of_le (Qa5 _ _) hz2) | (have hsq2:w1.heap.size < w2.heap.size:=Nat.lt_of_lt_of_le (Qa6 _ _) hz2) | (have hsq2:w1.heap.size<=w2.heap.size:=hz2) | skip);(first | (have hsr2:wr.heap.size < w2.heap.size:=Nat.lt_of_lt_of_le hsq1 (Nat.le_of_lt hsq2)) | (have hsr2:wr.heap.size < w2.heap.size:=Nat.lt_of_lt_of_le hsq1 hsq2) | skip);have HB2:=hD hb2;clear hb2 hav2)
     | (go_at_call 8;(with_reducible refine (HTW.out _ _ _ _ _ ?_ ?_ ?_).mono ?_);exact LwS.self (by repeat (first | with_reducible assumption | with_reducible refine LwS.dr ?_ | with_reducible refine LwS.al ?_ _));exact AvAt.self (by repeat (first | with_reducible assumption | with_reducible refine AvAt.dr ?_ | with_reducible refine AvAt.al ?_ _));exact AvAt.self (by repeat (first | with_reducible assumption | with_reducible refine AvAt.dr ?_ | with_reducible refine AvAt.al ?_ _));rintro e w5 ⟨h5,u5,ok5,rfl,hav5,hb5⟩;have hst5:LwS w wr h1 x1 f1 h2 x2 f2 w5:=LwS.step (by repeat (first | with_reducible assumption | with_reducible refine LwS.dr ?_ | with_reducible refine LwS.al ?_ _)) hb5;obtain ⟨hc5,hf5⟩:=bcell2 hb5;have hz5:=hb5.size;have hs5z:=hst5.bel.size;(first | (have hsq5:w2.heap.size < w5.heap.size:=Nat.lt_of_lt_of_le (Qa5 _ _) hz5) | (have hsq5:w2.heap.size < w5.heap.size:=Nat.lt_of_lt_of_le (Qa6 _ _) hz5) | (have hsq5:w2.heap.size<=w5.heap.size:=hz5) | skip);(first | (have hsr5:wr.heap.size < w5.heap.size:=Nat.lt_of_lt_of_le hsr2 hsq5) | skip);(first | (have hsr6:w1.heap.size < w5.heap.size:=Nat.lt_of_lt_of_le hsq2 hsq5) | skip);have HB5:=hD hb5;have HAV5:=hD hav5;clear hb5 hav5))
   all_goals
    go_wp2
    go_meet
    first
     | with_reducible exact Qoe HAV5.out hst5
     | (with_reducible refine Qof HAV5.out hst5 (ZB.step ?_ HB5.out) ?_ ?_;all_goals (first | with_reducible exact Nat.le_refl _ | exact hst1.bel.size | exact hst2.bel.size | (repeat (first | with_reducible exact ZB.new _ | with_reducible refine ZB.dr ?_ | with_reducible refine ZB.step ?_ HB2.out | with_reducible refine ZB.step ?_ HB1.out))))
  obtain ⟨V,h3,p3,ok,rfl,rfl,hVz,hVb,hav,hst⟩:=hcut
  have HV3:=hD hVb
  have HA3:=hD hav
  obtain ⟨ws,hws⟩:∃ ws,ws=wc:=⟨_,rfl⟩
  subst hws
  have HSW:=hD hst.p2
  clear hst hVb hav hVz HST HO1 HO2 HTW HSV HWR
  have HST:Hid (LwS w ws h1 x1 f1 h2 x2 f2 ws):=⟨HSW.out,Below.refl _ _,HSW.out.sz⟩
  have hwz:w.heap.size<=ws.heap.size:=HSW.out.bel.size
  have HTA:=hD (fun W=>HTYA.out ws W hwz)
  have HTB:=hD (HTYB.out ws hwz)
  have HTW:=hD HTT.out
  clear HTYA HTYB HTT
  go_upto_region 7 with fail
  go_cut [16,17] from 18 (fun v e wx=>Qog w ws h1 x1 f1 h2 x2 f2 r2 v e wx)
  case first =>
   have hs0:=HST.out.dr
   have hs00:=HST.out
   go_region_held3 (fun W=>((W.cell? ⟨w.heap.size,0,none⟩=some (.slice h1.1 h1.2.1 h1.2.2)/\W.cell? ⟨w.heap.size,1,none⟩=some (.slice x1.1 x1.2.1 x1.2.2)/\W.cell? ⟨w.heap.size,2,none⟩=some (.int .i64 f1))/\(W.cell? ⟨w.heap.size+1,0,none⟩=some (.slice h2.1 h2.2.1 h2.2.2)/\W.cell? ⟨w.heap.size+1,1,none⟩=some (.slice x2.1 x2.2.1 x2.2.2)/\W.cell? ⟨w.heap.size+1,2,none⟩=some (.int .i64 f2)))/\LwS w ws h1 x1 f1 h2 x2 f2 W)
    (first | with_reducible assumption | (with_reducible (refine QtJ ?_);repeat (first | with_reducible assumption | with_reducible refine LwS.dr ?_ | (with_reducible refine LwS.put ?_ (by first | assumption | omega | (simp;omega)) _) | with_reducible refine LwS.al ?_ _)))
    (first
     | (go_at_call 11;(with_reducible refine (HTA.out _ ?_).mono ?_);exact LwS.self (by repeat (first | with_reducible assumption | with_reducible refine LwS.dr ?_ | with_reducible refine LwS.al ?_ _));rintro e w1 ⟨u1,y1,rfl,hpv1,hb1⟩;have hst1:LwS w ws h1 x1 f1 h2 x2 f2 w1:=LwS.step (by repeat (first | with_reducible assumption | with_reducible refine LwS.dr ?_ | with_reducible refine LwS.al ?_ _)) hb1;have hl1:=fun b e=>Qn8 hpv1 b e;obtain ⟨hc1,hfz1⟩:=bcell2 hb1;have hz1:=hb1.size;have hs1z:=hst1.bel.size;(first | (have hsq1:ws.heap.size < w1.heap.size:=Nat.lt_of_lt_of_le (Qa5 _ _) hz1) | (have hsq1:ws.heap.size < w1.heap.size:=Nat.lt_of_lt_of_le (Qa6 _ _) hz1) | skip);have HB1:=hD hb1;clear hb1)
     | (go_at_call 11;(with_reducible refine (HTB.out _ w1 _ _ _ _ _ hpv1 hl1 hs1z ?_ ?_).mono ?_);exact BelT.self2 (by repeat (first | with_reducible assumption | with_reducible exact BelT.refl _ | with_reducible refine BelT.dr ?_ | with_reducible refine BelT.al ?_ _));exact LwS.self (by repeat (first | with_reducible assumption | with_reducible refine LwS.dr ?_ | with_reducible refine LwS.al ?_ _));rintro e w2 ⟨u2,y2,rfl,hpv2,hb2⟩;have hst2:LwS w ws h1 x1 f1 h2 x2 f2 w2:=LwS.step (by repeat (first | with_reducible assumption | with_reducible refine LwS.dr ?_ | with_reducible refine LwS.al ?_ _)) hb2;have hbl2:BelT w1 w2:=BelT.step (by repeat (first | with_reducible assumption | with_reducible exact BelT.refl _ | with_reducible refine BelT.dr ?_ | with_reducible refine BelT.al ?_ _)) hb2;have hk12:=fun b e h=>Qly hpv2 b e h;obtain ⟨hc2,hfz2⟩:=bcell2 hb2;have hz2:=hb2.size;have hs2z:=hst2.bel.size;(first | (have hsq2:w1.heap.size < w2.heap.size:=Nat.lt_of_lt_of_le (Qa5 _ _) hz2) | (have hsq2:w1.heap.size < w2.heap.size:=Nat.lt_of_lt_of_le (Qa6 _ _) hz2) | (have hsq2:w1.heap.size<=w2.heap.size:=hz2) | skip);(first | (have hsr2:ws.heap.size < w2.heap.size:=Nat.lt_of_lt_of_le hsq1 (Nat.le_of_lt hsq2)) | (have hsr2:ws.heap.size < w2.heap.size:=Nat.lt_of_lt_of_le hsq1 hsq2) | skip);have HB2:=hD hb2;clear hb2)
     | (go_at_call 10;(with_reducible refine (HTW.out _ _ w1 w2 _ _ _ _ _ _ _ hk12 ?_ ?_ (Below.size (BelT.self hbl2)) hpv1 hpv2).mono ?_);exact BelT.self2 (by repeat (first | with_reducible assumption | with_reducible exact BelT.refl _ | with_reducible refine BelT.dr ?_ | with_reducible refine BelT.al ?_ _));exact BelT.self2 (by repeat (first | with_reducible assumption | with_reducible exact BelT.refl _ | with_reducible refine BelT.dr ?_ | with_reducible refine BelT.al ?_ _));rintro e w5 ⟨h5,x5,g5,z5,rfl,hpv5,hb5⟩;have hst5:LwS w ws h1 x1 f1 h2 x2 f2 w5:=LwS.step (by repeat (first | with_reducible assumption | with_reducible refine LwS.dr ?_ | with_reducible refine LwS.al ?_ _)) hb5;obtain ⟨hc5,hfz5⟩:=bcell2 hb5;have hz5:=hb5.size;have hs5z:=hst5.bel.size;(first | (have hsq5:w2.heap.size < w5.heap.size:=Nat.lt_of_lt_of_le (Qa5 _ _) hz5) | (have hsq5:w2.heap.size < w5.heap.size:=Nat.lt_of_lt_of_le (Qa6 _ _) hz5) | (have hsq5:w2.heap.size<=w5.heap.size:=hz5) | skip);(first | (have hsr5:ws.heap.size < w5.heap.size:=Nat.lt_of_lt_of_le hsr2 hsq5) | skip);(first | (have hsr6:w1.heap.size < w5.heap.size:=Nat.lt_of_lt_of_le hsq2 hsq5) | skip);have HB5:=hD hb5;have HPV5:=hD hpv5;clear hb5 hpv5))
   all_goals
    go_wp2
    go_meet
    first
     | with_reducible exact Qlz HPV5.out hst5
     | (with_reducible refine QlA HPV5.out hst5 (ZO.step ?_ HB5.out) ?_ ?_;all_goals (first | with_reducible exact Nat.le_refl _ | exact hst1.bel.size | exact hst2.bel.size | (with_reducible exact .inl (.inl ⟨Nat.le_refl _,Qa5 _ _⟩)) | (with_reducible exact .inl (.inl ⟨Nat.le_refl _,Qa6 _ _⟩)) | (with_reducible exact .inl (.inr ⟨Nat.le_refl _,Qa5 _ _⟩)) | (with_reducible exact .inl (.inr ⟨Nat.le_refl _,Qa6 _ _⟩)) | with_reducible exact .inr ⟨Nat.le_refl _,Qa5 _ _⟩ | with_reducible exact .inr ⟨Nat.le_refl _,Qa6 _ _⟩ | (repeat (first | with_reducible exact ZO.new _ _ | with_reducible refine ZO.dr ?_ | with_reducible refine ZO.step ?_ HB2.out | with_reducible refine ZO.step ?_ HB1.out))))
  obtain ⟨V4,h4,x4,g4,z4,rfl,rfl,hVz,hVb,hpv,hst⟩:=hcut
  have HV4:=hD hVb
  have HP4:=hD hpv
  have HB4:=hD hst.bel
  have HBW:=hD hst.p2.bel
  obtain ⟨wu,hwu⟩:∃ wu,wu=wc:=⟨_,rfl⟩
  subst hwu
  clear hst hVb hpv hVz HST HTA HTB HTW HSW
  have hv3:wu.heap[V]?=some (arrO h3 p3):=by rw [HB4.out.block _ (lt_blk HV3.out)];exact HV3.out
  obtain ⟨⟨c0,c1,c2,c3,c4,c5,c6,c7,c8⟩,cz⟩:=QjV hv3
  obtain ⟨⟨d0,d1,d2⟩,dz⟩:=block3 HV4.out
  have HDN:Hid (Calls Tryz.prog 12 #[arrV h3 p3,.bool ok,plV h4 x4 g4,.int .i64 z4] wu fun e w'=>e= .returned (.bool true)/\Below wu.heap.size wu w'):=by
   rcases hr:r1 with _ | a
   ·obtain ⟨rfl,rfl,rfl⟩:=HA3.out.2 hr
    exact QsF h4 x4 g4 z4 wu
   ·obtain ⟨rfl,ha⟩:=HA3.out.1 a hr
    obtain ⟨q1,q2,q3⟩:=HLAW.out a hr
    obtain ⟨rfl,hp⟩:=HP4.out a q1
    exact QsG (fun b e=>by subst e;exact lt_blk hv3) q2 q3 (AV.step ha HB4.out) hp
  clear hv3 HA3 HP4
  go_wp2_with fail
  refine HDN.out.mono ?_
  rintro e w7 ⟨rfl,hb⟩
  have HB7:=hD (Qaa HBW.out hb)
  clear hb c0 c1 c2 c3 c4 c5 c6 c7 c8 d0 d1 d2 cz dz
  go_wp2_with fail
  refine (QfF _).mono ?_
  rintro e w8 ⟨rfl,hb⟩
  have HB8:=hD (Qaa HB7.out hb)
  clear hb
  go_wp2
  go_ret
  exact ⟨rfl,HB8.out⟩
theorem Qoh (fk gk:Int) (t1:RP) (h1 x1:Sl) (f1:Int) (t2:RP) (h2 x2:Sl) (f2:Int) (n:Int) (w:World) (i1:FitP t1) (m1:cntP t1<=1048576) (i2:FitP t2) (m2:cntP t2<=1048576) (tz:TzTab w) (r1:PV (fun _=>False) w t1 h1 x1 f1) (r2:PV (fun _=>False) w t2 h2 x2 f2) (wf:(Lit.int .u8 fk).wf=true) (wg:(Lit.int .u8 gk).wf=true) (wn:(Lit.int .u16 n).wf=true) :
  Calls Tryz.prog 3 #[.int .u8 fk,.int .u8 gk,plV h1 x1 f1,plV h2 x2 f2,.int .u16 n] w fun e w'=>e= .returned (.bool true)/\Below w.heap.size w w':=by
 have hf:(decide (IntKind.min .u8<=fk)&&decide (fk<=IntKind.max .u8))=true:=wf
 have hg:(decide (IntKind.min .u8<=gk)&&decide (gk<=IntKind.max .u8))=true:=wg
 have hn:(decide (IntKind.min .u16<=n)&&decide (n<=IntKind.max .u16))=true:=wn
 rw [Bool.and_eq_true,decide_eq_true_eq,decide_eq_true_eq] at hf hg hn
 exact Qjo fk gk hf.1 hg.1 t1 t2 h1 x1 h2 x2 f1 f2 n hn.1 w i1 i2 m1 m2 tz r1 r2
end Go.Proofs.YtdelgpelkfndeaaGreatDoor
namespace Go.Proofs.YtdelgpelkfndeaaGreatDoor
open Go Go.RowKit Go.Proofs Go.ChangeShapes Go.WideShapes Go.Deep
theorem QqB {H:Type} (d:DataW H):1<=Rows.uptoBulk d:=by
 cases d with
 | lit l=>cases l <;> simp [Rows.uptoBulk]
 | nil=>simp [Rows.uptoBulk]
 | ptr d=>simp [Rows.uptoBulk]
 | slice elems spare=>simp [Rows.uptoBulk]
 | agg parts=>simp [Rows.uptoBulk]
 | iface t d=>simp [Rows.uptoBulk]
 | map entries=>simp [Rows.uptoBulk]
 | held h=>simp [Rows.uptoBulk]
theorem Qqd {H:Type} (l:List (DataW H)):l.length<=Rows.uptoBulkAll l:=by
 induction l with
 | nil=>simp [Rows.uptoBulkAll]
 | cons x r ih=>have:=QqB x;simp only [Rows.uptoBulkAll,List.length_cons];omega
theorem Qur {H:Type}{enc:TypeId×Value->H}{W:World}{sp:Nat->Bool}{held:Bool}{base n:Nat}{v:Value}{d:DataW H×List MemPlace}
  (h:DataW.trod enc Tryz.prog W base sp held n 60 [v]=some d):∃ b,v= .float .f64 b/\b < 18446744073709551616:=by
 cases n with
 | zero=>simp [DataW.trod] at h
 | succ n =>
  cases v <;> simp [DataW.trod,Tryz.underlying60] at h
  rename_i k b
  obtain ⟨h1,_⟩:=h
  obtain ⟨rfl,h2⟩:=h1
  exact ⟨b,rfl,by simpa [Lit.wf] using h2⟩
theorem Qjp {H:Type}{enc:TypeId×Value->H}{W:World}{sp:Nat->Bool}{held:Bool}{base fuel:Nat}{t e:TypeId}{v:Value}{x:DataW H×List MemPlace}{α:Type} (g:α->Value) (z:α) (ht:Tryz.prog.underlying t=some (.slice e)) (hc:Tryz.prog.cellsOf e=1)
  (hg:∀ {n:Nat} {v:Value} {y:DataW H×List MemPlace},DataW.trod enc Tryz.prog W base sp held n e [v]=some y->∃ b,v=g b)
  (h:DataW.trod enc Tryz.prog W base sp held fuel t [v]=some x):∃ (l:List α) (s:Sl),v=sv s/\RdH (fun _=>False) W (sv s) (l.map g)/\l.length+1<=Rows.uptoBulk x.1:=by
 rcases open_slice1 ht hc h with ⟨hcs,rfl⟩ | ⟨a,n,c',m,k,V,D,Pl,hcs,_,hl,hm,hmm,rfl,hcell⟩
 ·obtain rfl:v= .slice none 0 0:=by simpa using hcs
  exact ⟨[],(none,0,0),rfl,fun _ _ _ => .inl ⟨none,0,rfl,rfl⟩,by simp [Rows.uptoBulk]⟩
 ·obtain rfl:v= .slice (some a) n c':=by simpa using hcs
  have hnm:n<=m:=by rw [hmm];split <;> omega
  by_cases h0:n=0
  ·subst h0;exact ⟨[],(some a,0,c'),rfl,fun _ _ _ => .inl ⟨_,_,rfl,rfl⟩,by simp only [List.length_nil];exact QqB _⟩
  have hfl:∀ i,∃ b,i < m->V i=g b:=fun i=>by
   by_cases hi:i < m
   ·obtain ⟨b,hb⟩:=hg (hcell i hi).2;exact ⟨b,fun _=>hb⟩
   ·exact ⟨z,fun h=>absurd h hi⟩
  obtain ⟨b,hb⟩:=Classical.axiomOfChoice hfl
  obtain ⟨bl,off,spot⟩:=a
  have hspot:spot=none:=by simpa [Addr.add] using World.cell?_spot (hcell 0 (by omega)).1
  subst hspot
  refine ⟨(List.range n).map b,(some ⟨bl,off,none⟩,n,c'),rfl,fun W' _ hb' => .inr ⟨bl,off,n,c',rfl,by simp,fun i hi=>?_⟩,?_⟩
  ·have hi':i < n:=by simpa using hi
   have:=(hcell i (by omega)).1
   have e:(⟨bl,off,none⟩:Addr).add i=⟨bl,off+i,none⟩:=by
    unfold Addr.add;split
    ·rename_i h0;subst h0;rfl
    ·rfl
   rw [e] at this
   rw [World.cell?_of_block (w:=W) (hb' bl (Qav this) (fun h=>h)),this,hb i (by omega)]
   simp
  ·have:=Qqd ((List.range n).map D)
   simp only [Rows.uptoBulk]
   simp at this ⊢
   omega
theorem Qhb {H α:Type} (c:α->Nat):∀ (ts:List α) (ds:List (DataW H)),ts.length=ds.length->(∀ i (h:i < ts.length) (h2:i < ds.length),c ts[i]+1<=Rows.uptoBulk ds[i])->(ts.map c).sum+ts.length<=Rows.uptoBulkAll ds
 | [],_,_,_=>by simp
 | _::_,[],h,_=>by simp at h
 | t::ts,d::ds,hl,h=>by
  have h0:=h 0 (by simp) (by simp)
  have:=Qhb c ts ds (by simpa using hl) (fun i h1 h2=>by have:=h (i+1) (by simpa using h1) (by simpa using h2);simpa using this)
  simp only [List.map_cons,List.sum_cons,List.length_cons,Rows.uptoBulkAll]
  simp at h0
  omega
theorem Qio:∀ ts:List RI,QaH ts=(ts.map cntI).sum
 | []=>by rw [QaH];rfl
 | t::ts=>by rw [QaH,Qio ts];simp
theorem Qip:∀ ts:List RP,Qa3 ts=(ts.map cntP).sum
 | []=>by rw [Qa3];rfl
 | t::ts=>by rw [Qa3,Qip ts];simp
theorem Qkm:∀ (ts:List RI),(∀ i (h:i < ts.length),FitI ts[i])->Qev ts
 | [],_=>by rw [Qev];trivial
 | t::ts,h=>by
  rw [Qev]
  exact ⟨by have:=h 0 (by simp);simpa using this,Qkm ts fun i hi=>by have:=h (i+1) (by simpa using hi);simpa using this⟩
theorem Qkn:∀ (ts:List RP),(∀ i (h:i < ts.length),FitP ts[i])->QgP ts
 | [],_=>by rw [QgP];trivial
 | t::ts,h=>by
  rw [QgP]
  exact ⟨by have:=h 0 (by simp);simpa using this,Qkn ts fun i hi=>by have:=h (i+1) (by simpa using hi);simpa using this⟩
theorem QsL:Tryz.prog.cellsOf 3=1:=by kernel_rfl
theorem QtK:Tryz.prog.cellsOf 22=1:=by kernel_rfl
theorem Qus:Tryz.prog.cellsOf 60=1:=by kernel_rfl
theorem Qut:Tryz.prog.cellsOf 21=1:=by kernel_rfl
theorem QsM:Tryz.prog.cellsOf 23=1:=by kernel_rfl
theorem Qqe:Tryz.prog.cellsOf 61=1:=by kernel_rfl
theorem Qjq:Tryz.prog.cellsOf 25=3:=by kernel_rfl
theorem QqC:Tryz.prog.cellsOf 63=4:=by kernel_rfl
theorem Qdo (b o j:Nat):(⟨b,o,none⟩:Addr).add j=⟨b,o+j,none⟩:=by
 unfold Addr.add;split
 ·rename_i h0;subst h0;rfl
 ·rfl
mutual
theorem Qgu {H:Type}{enc:TypeId×Value->H}{W:World}{sp:Nat->Bool}{held:Bool}{base:Nat}:∀ (N fuel:Nat) (cs:List Value) (x:DataW H×List MemPlace),fuel<=N->DataW.trod enc Tryz.prog W base sp held fuel 25 cs=some x ->
  ∃ t h y f,cs=[sv h,sv y,.int .i64 f]/\PV (fun _=>False) W t h y f/\FitP t/\cntP t<=Rows.uptoBulk x.1
 | N,fuel,cs,x,hN,h=>by
  obtain ⟨xs,n,hfuel,rfl,hcl,hxl,hf⟩:=DataW.trod_struct Tryz.underlying25 h
  rw [Qjq] at hcl
  match cs,hcl,xs,hxl with
  | [v0,v1,v2],_,[y0,y1,y2],_ =>
   have h0:=hf 0 _ rfl
   have h1:=hf 1 _ rfl
   have h2:=hf 2 _ rfl
   simp only [List.getElem_toArray,List.getElem_cons_zero,List.getElem_cons_succ] at h0 h1 h2
   rw [QtK] at h0
   rw [QsM] at h1
   rw [QsL] at h2
   simp at h0 h1 h2
   obtain ⟨k,e2,rfl,w2⟩:=DataW.trod_int Tryz.underlying3 h2
   obtain rfl:v2= .int .i64 k:=by simpa using e2
   obtain ⟨s,hs,rfl,rs,bs⟩:=Qjp (Value.int .i64) 0 Tryz.underlying22 QsL (fun h=>by obtain ⟨b,hb,_⟩:=DataW.trod_int Tryz.underlying3 h;exact ⟨b,by simpa using hb⟩) h0
   rcases DataW.trod_slice Tryz.underlying23 h1 with ⟨hcs,rfl⟩ | ⟨a,len,cap,elems,rest,n',hn',hcs,rfl,_,hle,_,hel,hcell,_,_⟩
   ·obtain rfl:v1= .slice none 0 0:=by simpa using hcs
    refine ⟨.mk s [] k,hs,nilS,k,rfl,?_,?_,?_⟩
    ·rw [PV];exact ⟨rs,rfl,rfl,.inl ⟨rfl,trivial⟩⟩
    ·rw [FitP,Qev];trivial
    ·simp only [cntP,QaH,Rows.uptoBulk,List.map_cons,Rows.uptoBulkAll,List.length_nil];omega
   ·obtain rfl:v1= .slice (some a) len cap:=by simpa using hcs
    have hk:∀ i,∃ t,i < len->∃ k n c y d,elems[i]?=some d/\(∀ j,j < 4->W.cell? (a.add (i*4+j))=[Value.int .i64 k,.float .f64 n,.int .i32 c,sv y][j]?)/\IV (fun _=>False) W t k n c y/\FitI t/\cntI t+1<=Rows.uptoBulk d.1:=by
     intro i
     by_cases hi:i < len
     ·have:=hcell i hi
      have he:elems[i]?=some (elems[i]'(by omega)):=List.getElem?_eq_getElem (by omega)
      rw [he,QqC,Option.bind_eq_some_iff] at this
      obtain ⟨cs',hc1,hc2⟩:=this
      obtain ⟨t,k,n,c,y,rfl,q1,q2,q3⟩:=Qoi (N - 1) n' cs' _ (by omega) hc2
      obtain ⟨_,_,hat⟩:=World.cells?_some hc1
      exact ⟨t,fun _=>⟨k,n,c,y,_,he,fun j hj=>by rw [<- Go.Deep.add_add];exact hat j hj,q1,q2,q3⟩⟩
     ·exact ⟨default,fun h=>absurd h hi⟩
    obtain ⟨T,hT⟩:=Classical.axiomOfChoice hk
    have hts:((List.range len).map T).length=len:=by simp
    have hsum:=Qhb cntI ((List.range len).map T) (elems.map (·.1)) (by simp [hel]) fun i h1 h2=>by
     have hi:i < len:=by simpa using h1
     obtain ⟨_,_,_,_,d,he,_,_,_,hs⟩:=hT i hi
     have he':elems[i]'(by omega)=d:=by rw [List.getElem?_eq_getElem (by omega)] at he;exact Option.some.inj he
     simp [he'];exact hs
    refine ⟨.mk s ((List.range len).map T) k,hs,(some a,len,cap),k,rfl,?_,?_,?_⟩
    ·by_cases h0:len=0
     ·subst h0
      rw [PV];exact ⟨rs,rfl,rfl,.inl ⟨rfl,trivial⟩⟩
     ·obtain ⟨_,_,_,_,_,_,hc0,_⟩:=hT 0 (by omega)
      obtain ⟨bl,off,spot⟩:=a
      have hspot:spot=none:=by have:=hc0 0 (by omega);simpa [Addr.add] using World.cell?_spot this
      subst hspot
      refine QkN rs (by simp) fun i hi=>?_
      have hi':i < len:=by simpa using hi
      obtain ⟨k,n,c,y,d,_,hc,hr,_,_⟩:=hT i hi'
      refine ⟨bl,off,k,n,c,y,rfl,fun h=>h,by simpa using hr,?_,?_,?_,?_⟩
      ·have:=hc 0 (by omega);rw [Qdo] at this;simpa using this
      ·have:=hc 1 (by omega);rw [Qdo] at this;simpa [Nat.add_assoc] using this
      ·have:=hc 2 (by omega);rw [Qdo] at this;simpa [Nat.add_assoc] using this
      ·have:=hc 3 (by omega);rw [Qdo] at this;simpa [Nat.add_assoc] using this
    ·rw [FitP]
     refine Qkm _ fun i hi=>?_
     have hi':i < len:=by simpa using hi
     obtain ⟨_,_,_,_,_,_,_,_,hft,_⟩:=hT i hi'
     simpa using hft
    ·rw [hts,<- Qio] at hsum
     simp only [cntP,Rows.uptoBulk,List.map_cons,List.map_nil,Rows.uptoBulkAll,hts]
     omega
 termination_by N=>N
 decreasing_by omega
theorem Qoi {H:Type}{enc:TypeId×Value->H}{W:World}{sp:Nat->Bool}{held:Bool}{base:Nat}:∀ (N fuel:Nat) (cs:List Value) (x:DataW H×List MemPlace),fuel<=N->DataW.trod enc Tryz.prog W base sp held fuel 63 cs=some x ->
  ∃ t k n c y,cs=[.int .i64 k,.float .f64 n,.int .i32 c,sv y]/\IV (fun _=>False) W t k n c y/\FitI t/\cntI t+1<=Rows.uptoBulk x.1
 | N,fuel,cs,x,hN,h=>by
  obtain ⟨xs,n,hfuel,rfl,hcl,hxl,hf⟩:=DataW.trod_struct Tryz.underlying63 h
  rw [QqC] at hcl
  match cs,hcl,xs,hxl with
  | [v0,v1,v2,v3],_,[y0,y1,y2,y3],_ =>
   have h0:=hf 0 _ rfl
   have h1:=hf 1 _ rfl
   have h2:=hf 2 _ rfl
   have h3:=hf 3 _ rfl
   simp only [List.getElem_toArray,List.getElem_cons_zero,List.getElem_cons_succ] at h0 h1 h2 h3
   rw [QsL] at h0
   rw [Qus] at h1
   rw [Qut] at h2
   rw [Qqe] at h3
   simp at h0 h1 h2 h3
   obtain ⟨k,e0,rfl,w0⟩:=DataW.trod_int Tryz.underlying3 h0
   obtain rfl:v0= .int .i64 k:=by simpa using e0
   obtain ⟨m,rfl,hm⟩:=Qur h1
   obtain ⟨c,e2,rfl,w2⟩:=DataW.trod_int Tryz.underlying21 h2
   obtain rfl:v2= .int .i32 c:=by simpa using e2
   rcases DataW.trod_slice Tryz.underlying61 h3 with ⟨hcs,rfl⟩ | ⟨a,len,cap,elems,rest,n',hn',hcs,rfl,_,hle,_,hel,hcell,_,_⟩
   ·obtain rfl:v3= .slice none 0 0:=by simpa using hcs
    refine ⟨.mk k m c [],k,m,c,nilS,rfl,Qbr _ W _ _ _ _ _,?_,?_⟩
    ·rw [FitI,QgP];exact ⟨hm,trivial⟩
    ·simp only [cntI,Qa3,Rows.uptoBulk,List.map_cons,Rows.uptoBulkAll];omega
   ·obtain rfl:v3= .slice (some a) len cap:=by simpa using hcs
    have hk:∀ i,∃ t,i < len->∃ h y f d,elems[i]?=some d/\(∀ j,j < 3->W.cell? (a.add (i*3+j))=[sv h,sv y,Value.int .i64 f][j]?)/\PV (fun _=>False) W t h y f/\FitP t/\cntP t<=Rows.uptoBulk d.1:=by
     intro i
     by_cases hi:i < len
     ·have:=hcell i hi
      have he:elems[i]?=some (elems[i]'(by omega)):=List.getElem?_eq_getElem (by omega)
      rw [he,Qjq,Option.bind_eq_some_iff] at this
      obtain ⟨cs',hc1,hc2⟩:=this
      obtain ⟨t,h,y,f,rfl,q1,q2,q3⟩:=Qgu (N - 1) n' cs' _ (by omega) hc2
      obtain ⟨_,_,hat⟩:=World.cells?_some hc1
      exact ⟨t,fun _=>⟨h,y,f,_,he,fun j hj=>by rw [<- Go.Deep.add_add];exact hat j hj,q1,q2,q3⟩⟩
     ·exact ⟨default,fun h=>absurd h hi⟩
    obtain ⟨T,hT⟩:=Classical.axiomOfChoice hk
    have hts:((List.range len).map T).length=len:=by simp
    have hsum:=Qhb (fun t=>cntP t - 1) ((List.range len).map T) (elems.map (·.1)) (by simp [hel]) fun i h1 h2=>by
     have hi:i < len:=by simpa using h1
     obtain ⟨_,_,_,d,he,_,_,_,hs⟩:=hT i hi
     have he':elems[i]'(by omega)=d:=by rw [List.getElem?_eq_getElem (by omega)] at he;exact Option.some.inj he
     have:=QdC (T i)
     simp [he'];omega
    have hsum2:Qa3 ((List.range len).map T)<=Rows.uptoBulkAll (elems.map (·.1)):=by
     rw [Qip]
     refine Nat.le_trans ?_ hsum
     generalize (List.range len).map T=ts
     induction ts with
     | nil=>simp
     | cons t ts ih=>simp only [List.map_cons,List.sum_cons,List.length_cons];omega
    refine ⟨.mk k m c ((List.range len).map T),k,m,c,(some a,len,cap),rfl,?_,?_,?_⟩
    ·by_cases h0:len=0
     ·subst h0;exact Qbr _ W _ _ _ _ _
     ·obtain ⟨_,_,_,_,_,hc0,_⟩:=hT 0 (by omega)
      obtain ⟨bl,off,spot⟩:=a
      have hspot:spot=none:=by have:=hc0 0 (by omega);simpa [Addr.add] using World.cell?_spot this
      subst hspot
      rw [IV]
      refine ⟨rfl,rfl,rfl,by simp,.inr ⟨bl,off,rfl,fun h=>h,Qms _ _ fun i hi=>?_⟩⟩
      have hi':i < len:=by simpa using hi
      obtain ⟨h,y,f,d,_,hc,hr,_,_⟩:=hT i hi'
      refine ⟨h,y,f,⟨?_,?_,?_⟩,by simpa using hr⟩
      ·have:=hc 0 (by omega);rw [Qdo] at this;simpa using this
      ·have:=hc 1 (by omega);rw [Qdo] at this;simpa [Nat.add_assoc] using this
      ·have:=hc 2 (by omega);rw [Qdo] at this;simpa [Nat.add_assoc] using this
    ·rw [FitI]
     refine ⟨hm,Qkn _ fun i hi=>?_⟩
     have hi':i < len:=by simpa using hi
     obtain ⟨_,_,_,_,_,_,_,hft,_⟩:=hT i hi'
     simpa using hft
    ·simp only [cntI,Rows.uptoBulk,List.map_cons,List.map_nil,Rows.uptoBulkAll]
     omega
 termination_by N=>N
 decreasing_by omega
end
end Go.Proofs.YtdelgpelkfndeaaGreatDoor
