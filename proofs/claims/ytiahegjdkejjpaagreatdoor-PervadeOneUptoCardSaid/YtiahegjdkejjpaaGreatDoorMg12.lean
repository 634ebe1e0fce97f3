/- fold.Fold and the reference's Fold at numbers: both tell the same, whatever comes of it. A region that loads a Vec, calls, and puts the Vec that is told into a .. Conditions: as each theorem says. -/
import Derived.Test.YtiahegjdkejjpaaGreatDoorMg10
import Derived.Test.YtiahegjdkejjpaaGreatDoorMg01
import Derived.Test.YtiahegjdkejjpaaGreatDoorMg11
import Derived.Test.YtiahegjdkejjpaaGreatDoorMg03
import Derived.Test.YtiahegjdkejjpaaGreatDoorMg02
import Derived.Test.YtiahegjdkejjpaaGreatDoorMg09
import Derived.Deep.RegionHeld3
import Derived.Deep.CutRange
import Derived.Test.YtiahegjdkejjpaaGreatDoorMg05
import Derived.Test.YtiahegjdkejjpaaGreatDoorMg07
set_option maxRecDepth 100000
set_option maxHeartbeats 4000000
namespace Go.Proofs.YtiahegjdkejjpaaGreatDoor
open Go Go.RowKit Go.Proofs Fl
structure NumW (v:Value) (n:Nat) (F:Nat->Nat) (w:World):Prop where
 cls:Calls Tryz.prog 58 #[v] w fun e w2=>e= .returned (.int .i64 0)/\Below w.heap.size w w2
 len:Calls Tryz.prog 85 #[v] w fun e w2=>e= .returned (.int .i64 n)/\Below w.heap.size w w2
 num:∀ j,j < n->Calls Tryz.prog 136 #[v,.int .i64 (j:Nat)] w fun e w2=>e= .returned (.float .f64 (F j))/\Below w.heap.size w w2
theorem NumV.numW {v:Value}{k:Int}{n:Nat}{F:Nat->Nat}{w:World} (h:NumV v k n F w):NumW v n F w:=⟨h.cls,h.len,h.num⟩
theorem NumW.of {v:Value}{n:Nat}{F:Nat->Nat}{w:World}{H:Nat->Prop} (h:Keeps H w (NumW v n F)):NumsOf w v n F :=
 ⟨fun _ hb=>(h.step hb).now.cls,fun _ hb=>(h.step hb).now.len,fun _ hb j hj=>(h.step hb).now.num j hj⟩
structure LdS (w0:World) (G:Nat) (k:Int) (b:Value) (bn:Int) (s i f c x:Value) (W:World):Prop where
 box:Boxed W G k b bn s i f c x
 bel:Below w0.heap.size w0 W
 old:G < w0.heap.size
theorem LdS.new {w0:World}{G:Nat}{k:Int}{b:Value}{bn:Int}{s i f c x:Value} (h:Boxed w0 G k b bn s i f c x):LdS w0 G k b bn s i f c x w0:=⟨h,Below.refl _ _,h.lt⟩
theorem LdS.step {w0 W W':World}{G:Nat}{k:Int}{b:Value}{bn:Int}{s i f c x:Value} (h:LdS w0 G k b bn s i f c x W) (hb:Below W.heap.size W W'):LdS w0 G k b bn s i f c x W':=⟨h.box.below hb,bel_both h.bel hb,h.old⟩
theorem LdS.al {w0 W:World}{G:Nat}{k:Int}{b:Value}{bn:Int}{s i f c x:Value} (h:LdS w0 G k b bn s i f c x W) (o:Obj):LdS w0 G k b bn s i f c x (W.alloc o):=h.step (bel1 W o)
theorem LdS.dr {w0 W:World}{G:Nat}{k:Int}{b:Value}{bn:Int}{s i f c x:Value} (h:LdS w0 G k b bn s i f c x W):LdS w0 G k b bn s i f c x W.drew:=h.step (Below.refl _ W).drew
theorem LdS.put {w0 W:World}{G:Nat}{k:Int}{b:Value}{bn:Int}{s i f c x:Value} (h:LdS w0 G k b bn s i f c x W){g j:Nat} (ha:w0.heap.size<=g) (u:Value):LdS w0 G k b bn s i f c x (W.setCell ⟨g,j,none⟩ u) :=
 ⟨h.box.set (by show g≠_;have:=h.old;omega) u,h.bel.setCell (by show _<=g;omega) u,h.old⟩
theorem LdS.put8 {w0 W:World}{G:Nat}{k:Int}{b:Value}{bn:Int}{s i f c x:Value} (h:LdS w0 G k b bn s i f c x W){g:Nat} (ha:w0.heap.size<=g) (a0 a1 a2 a3 a4 a5 a6 a7:Value):LdS w0 G k b bn s i f c x (set8 W g a0 a1 a2 a3 a4 a5 a6 a7) :=
 (((((((h.put ha _).put ha _).put ha _).put ha _).put ha _).put ha _).put ha _).put ha _
theorem LdS.self {w0 W:World}{G:Nat}{k:Int}{b:Value}{bn:Int}{s i f c x:Value} (h:LdS w0 G k b bn s i f c x W):LdS w0 G k b bn s i f c x W:=h
theorem LdS.sz {w0 W:World}{G:Nat}{k:Int}{b:Value}{bn:Int}{s i f c x:Value} (h:LdS w0 G k b bn s i f c x W):w0.heap.size<=W.heap.size:=h.bel.size
theorem blk_al {w1 w2:World}{o:Obj} (hb:Below (w1.alloc o).heap.size (w1.alloc o) w2):w2.heap[w1.heap.size]?=some o:=block_up hb
theorem blk_dr {w1 w2:World}{o:Obj} (hb:Below (w1.alloc o).drew.heap.size (w1.alloc o).drew w2):w2.heap[w1.heap.size]?=some o:=by
 rw [hb.block _ (by simp [World.drew])]
 exact heap_alloc_new w1 o
theorem lt_al (w1:World) (o:Obj):w1.heap.size < (w1.alloc o).heap.size:=by simp
theorem lt_dr (w1:World) (o:Obj):w1.heap.size < (w1.alloc o).drew.heap.size:=by simp [World.drew]
theorem le_dr (w1:World):w1.heap.size<=w1.drew.heap.size:=(show Below w1.heap.size w1 w1.drew from (Below.refl _ _).drew).size
structure V8 where
 k:Int
 b:Sl
 bn:Int
 s:Sl
 i:Sl
 f:Sl
 c:Sl
 x:Sl
abbrev V8.v (p:V8):Value:=vecW p.k p.b p.bn p.s p.i p.f p.c p.x
abbrev BoxP (W:World) (G:Nat) (p:V8):Prop:=Boxed W G p.k (.slice p.b.1 p.b.2.1 p.b.2.2) p.bn (.slice p.s.1 p.s.2.1 p.s.2.2) (.slice p.i.1 p.i.2.1 p.i.2.2) (.slice p.f.1 p.f.2.1 p.f.2.2) (.slice p.c.1 p.c.2.1 p.c.2.2) (.slice p.x.1 p.x.2.1 p.x.2.2)
abbrev V8.o (p:V8):Obj := .cells #[.int .i64 p.k,.slice p.b.1 p.b.2.1 p.b.2.2,.int .i64 p.bn,.slice p.s.1 p.s.2.1 p.s.2.2,.slice p.i.1 p.i.2.1 p.i.2.2,.slice p.f.1 p.f.2.1 p.f.2.2,.slice p.c.1 p.c.2.1 p.c.2.2,.slice p.x.1 p.x.2.1 p.x.2.2] 37
theorem boxP_new (w:World) (p:V8):BoxP (w.alloc p.o) w.heap.size p:=boxed_new w 37 _ _ _ _ _ _ _ _
structure St2 (w W:World) (p q:V8):Prop where
 one:BoxP W w.heap.size p
 two:BoxP W (w.heap.size+1) q
 res:W.heap[w.heap.size+2]?=some (.cells zcells 37)
 bel:Below w.heap.size w W
theorem St2.step {w W W':World}{p q:V8} (h:St2 w W p q) (hb:Below W.heap.size W W'):St2 w W' p q :=
 ⟨h.one.below hb,h.two.below hb,by rw [hb.block _ (boxed_of h.res).1.lt];exact h.res,bel_both h.bel hb⟩
theorem St2.new (w:World) (p q:V8):St2 w (((w.alloc p.o).alloc q.o).alloc (.cells zcells 37)) p q:=by
 have h1:=boxP_new w p
 have h2:=boxP_new (w.alloc p.o) q
 have h3:=heap_alloc_new ((w.alloc p.o).alloc q.o) (.cells zcells 37)
 have e1:(w.alloc p.o).heap.size=w.heap.size+1:=by simp
 have e2:((w.alloc p.o).alloc q.o).heap.size=w.heap.size+2:=by simp
 rw [e1] at h2
 rw [e2] at h3
 exact ⟨(h1.below (bel1 _ _)).below (bel1 _ _),h2.below (bel1 _ _),h3,bel_both (bel2 w _ _) (bel1 _ _)⟩
theorem St2.al {w W:World}{p q:V8} (h:St2 w W p q) (o:Obj):St2 w (W.alloc o) p q:=h.step (bel1 W o)
theorem St2.dr {w W:World}{p q:V8} (h:St2 w W p q):St2 w W.drew p q:=h.step (Below.refl _ W).drew
theorem St2.put {w W:World}{p q:V8} (h:St2 w W p q){g j:Nat} (ha:w.heap.size+3<=g) (u:Value):St2 w (W.setCell ⟨g,j,none⟩ u) p q :=
 ⟨h.one.set (by show g≠_;omega) u,h.two.set (by show g≠_;omega) u,by rw [Below.heap_setCell _ _ _ _ (by show _≠g;omega)];exact h.res,h.bel.setCell (by show _<=g;omega) u⟩
theorem St2.sz {w W:World}{p q:V8} (h:St2 w W p q):w.heap.size+3<=W.heap.size:=(boxed_of h.res).1.lt
theorem St2.self {w W:World}{p q:V8} (h:St2 w W p q):St2 w W p q:=h
theorem St2.more {w W W':World}{p q:V8} (h:St2 w W p q) (hb:Below (w.heap.size+3) W W'):St2 w W' p q :=
 ⟨h.one.of fun j=>hb.cell (p:=⟨w.heap.size,j,none⟩) (by show w.heap.size < _;omega),h.two.of fun j=>hb.cell (p:=⟨w.heap.size+1,j,none⟩) (by show w.heap.size+1 < _;omega),by rw [hb.block _ (by omega)];exact h.res,h.bel.trans (hb.mono (by omega))⟩
def lenP (m n:Nat):Option Nat:=if m=n then some m else if m=1 then some n else if n=1 then some m else none
def ixP (m i:Nat):Nat:=if m=1 then 0 else i
theorem ixP_lt {m n N i:Nat} (h:lenP m n=some N) (hi:i < N):ixP m i < m/\ixP n i < n:=by
 unfold lenP at h
 unfold ixP
 split at h
 ·injection h with h;constructor <;> split <;> omega
 ·split at h
  ·injection h with h;constructor <;> split <;> omega
  ·split at h
   ·injection h with h;constructor <;> split <;> omega
   ·cases h
theorem lenP_le {m n N B:Nat} (h:lenP m n=some N) (hm:m<=B) (hn:n<=B):N<=B:=by
 unfold lenP at h
 split at h
 ·injection h with h;omega
 ·split at h
  ·injection h with h;omega
  ·split at h
   ·injection h with h;omega
   ·cases h
theorem lenP_comm (m n:Nat):lenP m n=lenP n m:=by
 unfold lenP
 by_cases h1:m=n
 ·subst h1;rfl
 ·have h1':¬ n=m:=fun e=>h1 e.symm
  simp only [if_neg h1,if_neg h1']
  split <;> split <;> first | rfl | omega | (congr 1;omega)
theorem length_any (m n:Nat) (w:World):Calls Tryz.prog 211 #[.int .i64 (m:Int),.int .i64 (n:Int)] w fun e w'=>e= .returned (.tuple #[.int .i64 ((lenP m n).getD 0:Nat),.bool (lenP m n).isSome])/\w=w':=by
 by_cases h1:m=n
 ·subst h1
  have e:lenP m m=some m:=if_pos rfl
  rw [e]
  go_enter Tryz.func211,Tryz.ntmps211
  go_wp2
  go_ret2
  exact ⟨rfl,rfl⟩
 ·have f1:((m:Int)==(n:Int))=false:=by simp;omega
  by_cases h2:m=1
  ·have e:lenP m n=some n:=by unfold lenP;rw [if_neg h1,if_pos h2]
   rw [e]
   have f2:((m:Int)==1)=true:=by simp;omega
   clear h1 h2
   go_enter Tryz.func211,Tryz.ntmps211
   go_wp2
   go_ret2
   exact ⟨rfl,rfl⟩
  ·have f2:((m:Int)==1)=false:=by simp;omega
   by_cases h3:n=1
   ·have e:lenP m n=some m:=by unfold lenP;rw [if_neg h1,if_neg h2,if_pos h3]
    rw [e]
    have f3:((n:Int)==1)=true:=by simp;omega
    clear h1 h2 h3
    go_enter Tryz.func211,Tryz.ntmps211
    go_wp2
    go_ret2
    exact ⟨rfl,rfl⟩
   ·have e:lenP m n=none:=by unfold lenP;rw [if_neg h1,if_neg h2,if_neg h3]
    rw [e]
    have f3:((n:Int)==1)=false:=by simp;omega
    clear h1 h2 h3
    go_enter Tryz.func211,Tryz.ntmps211
    go_wp2
    go_ret2
    exact ⟨rfl,rfl⟩
theorem at_any (p:V8) (m i:Nat) (w:World) (hL:∀ W,Below w.heap.size w W->Calls Tryz.prog 85 #[p.v] W fun e w2=>e= .returned (.int .i64 (m:Nat))/\Below W.heap.size W w2) :
  Calls Tryz.prog 270 #[p.v,.int .i64 (i:Int)] w fun e w'=>e= .returned (.int .i64 (ixP m i:Nat))/\Below w.heap.size w w':=by
 have HL:=Lib.hid hL
 clear hL
 by_cases h:m=1
 ·have HX:Hid (ixP m i=0):=if_pos h
  have e1:((m:Int)==1)=true:=by simp;omega
  clear h
  go_enter Tryz.func270,Tryz.ntmps270
  go_wp2_with fail
  refine (HL.out _ (bel1 w _)).mono ?_
  rintro e w1 ⟨rfl,hb1⟩
  have HB:=Lib.hid (bel_both (bel1 w _) hb1)
  clear hb1
  go_wp2
  go_ret
  exact ⟨by rw [HX.out];rfl,HB.out⟩
 ·have HX:Hid (ixP m i=i):=if_neg h
  have e1:((m:Int)==1)=false:=by simp;omega
  clear h
  go_enter Tryz.func270,Tryz.ntmps270
  go_wp2_with fail
  refine (HL.out _ (bel1 w _)).mono ?_
  rintro e w1 ⟨rfl,hb1⟩
  have HB:=Lib.hid (bel_both (bel1 w _) hb1)
  clear hb1
  go_wp2
  go_ret
  exact ⟨by rw [HX.out];rfl,HB.out⟩
def ArOut (H:Nat->Prop) (w:World) (R:Nat->Nat×Int) (N:Nat) (e:Ending) (w':World):Prop :=
 ((∀ c,c < N->(R c).2=0)/\VecOk H w (fun u W=>NumV u (leastF (fun c=>(R c).1) N:Nat) N (fun c=>(R c).1) W) e w') \/
 ((∃ c,c < N/\(R c).2≠0)/\e= .returned (.tuple #[vecV 0 vnil 0 vnil vnil vnil vnil vnil,.int .i64 24])/\Below w.heap.size w w')
structure Ar2 (w:World) (p q:V8) (e:TypeId) (f:Nat->Value) (z:Value) (N c:Nat) (W:World):Prop where
 st:St2 w W p q
 fill:Fill W (w.heap.size+3) (w.heap.size+3) e f z N c
theorem Ar2.step {w W W':World}{p q:V8}{e:TypeId}{f:Nat->Value}{z:Value}{N c:Nat} (h:Ar2 w p q e f z N c W) (hb:Below W.heap.size W W'):Ar2 w p q e f z N c W':=⟨h.st.step hb,h.fill.below hb⟩
theorem Ar2.dr {w W:World}{p q:V8}{e:TypeId}{f:Nat->Value}{z:Value}{N c:Nat} (h:Ar2 w p q e f z N c W):Ar2 w p q e f z N c W.drew:=h.step (Below.refl _ W).drew
theorem Ar2.self {w W:World}{p q:V8}{e:TypeId}{f:Nat->Value}{z:Value}{N c:Nat} (h:Ar2 w p q e f z N c W):Ar2 w p q e f z N c W:=h
theorem ar2_s {w W:World}{p q:V8}{e:TypeId}{f:Nat->Value}{z:Value}{N c:Nat} (h:Ar2 w p q e f z N c W):((W.cell? ⟨w.heap.size,0,none⟩=some (.int .i64 p.k)/\W.cell? ⟨w.heap.size,1,none⟩=some (.slice p.b.1 p.b.2.1 p.b.2.2)/\W.cell? ⟨w.heap.size,2,none⟩=some (.int .i64 p.bn)/\W.cell? ⟨w.heap.size,3,none⟩=some (.slice p.s.1 p.s.2.1 p.s.2.2)/\W.cell? ⟨w.heap.size,4,none⟩=some (.slice p.i.1 p.i.2.1 p.i.2.2)/\W.cell? ⟨w.heap.size,5,none⟩=some (.slice p.f.1 p.f.2.1 p.f.2.2)/\W.cell? ⟨w.heap.size,6,none⟩=some (.slice p.c.1 p.c.2.1 p.c.2.2)/\W.cell? ⟨w.heap.size,7,none⟩=some (.slice p.x.1 p.x.2.1 p.x.2.2))/\(W.cell? ⟨w.heap.size+1,0,none⟩=some (.int .i64 q.k)/\W.cell? ⟨w.heap.size+1,1,none⟩=some (.slice q.b.1 q.b.2.1 q.b.2.2)/\W.cell? ⟨w.heap.size+1,2,none⟩=some (.int .i64 q.bn)/\W.cell? ⟨w.heap.size+1,3,none⟩=some (.slice q.s.1 q.s.2.1 q.s.2.2)/\W.cell? ⟨w.heap.size+1,4,none⟩=some (.slice q.i.1 q.i.2.1 q.i.2.2)/\W.cell? ⟨w.heap.size+1,5,none⟩=some (.slice q.f.1 q.f.2.1 q.f.2.2)/\W.cell? ⟨w.heap.size+1,6,none⟩=some (.slice q.c.1 q.c.2.1 q.c.2.2)/\W.cell? ⟨w.heap.size+1,7,none⟩=some (.slice q.x.1 q.x.2.1 q.x.2.2)))/\Ar2 w p q e f z N c W:=⟨⟨h.st.one,h.st.two⟩,h⟩
theorem Ar2.new (w:World) (p q:V8) (e:TypeId) (f:Nat->Value) (z:Value) (N:Nat) (hN:N<=maxLen):Ar2 w p q e f z N 0 ((((w.alloc p.o).alloc q.o).alloc (.cells zcells 37)).alloc (.cells (madeCells #[z] N) e)):=by
 have h:=Fill.made (((w.alloc p.o).alloc q.o).alloc (.cells zcells 37)) (w.heap.size+3) (by simp) e f z N hN
 have e3:(((w.alloc p.o).alloc q.o).alloc (.cells zcells 37)).heap.size=w.heap.size+3:=by simp
 rw [e3] at h
 exact ⟨(St2.new w p q).al _,h⟩
theorem Ar2.put {w W:World}{p q:V8}{e:TypeId}{f:Nat->Value}{z:Value}{N c:Nat} (h:Ar2 w p q e f z N c W) (hc:c < N):Ar2 w p q e f z N (c+1) (W.setCell ⟨w.heap.size+3,c,none⟩ (f c)) :=
 ⟨h.st.put (Nat.le_refl _) _,h.fill.put hc⟩
def ArMid (w:World) (p q:V8) (e:TypeId) (f:Nat->Value) (z:Value) (N c:Nat) (y:Nat) (E:Int) (x er:Value) (W:World):Prop:=x= .float .f64 y/\er= .int .i64 E/\Ar2 w p q e f z N c W
theorem arMid_of {w W:World}{p q:V8}{e:TypeId}{f:Nat->Value}{z:Value}{N c y:Nat}{E:Int} (h:Ar2 w p q e f z N c W):ArMid w p q e f z N c y E (.float .f64 y) (.int .i64 E) W:=⟨rfl,rfl,h⟩
theorem afloats_any (H:Nat->Prop) (f:Int) (R:Nat->Nat×Int) (p q:V8) (m n N:Nat) (F G:Nat->Nat) (w:World) (hH:∀ b,H b->b < w.heap.size) (hL:lenP m n=some N) (hm:m<=1000000) (hn:n<=1000000)
  (hP:∀ W,Below w.heap.size w W->NumW p.v m F W) (hQ:∀ W,Below w.heap.size w W->NumW q.v n G W)
  (hone:∀ c,c < N->∀ W,Calls Tryz.prog 269 #[.int .i64 f,.float .f64 (F (ixP m c)),.float .f64 (G (ixP n c))] W fun e w'=>e= .returned (.tuple #[.float .f64 (R c).1,.int .i64 (R c).2])/\W=w')
  (hR:∀ c,c < N->∃ y E,R c=(y,E)/\((TF y/\E=0)\/(y=0/\E=24))) :
  Calls Tryz.prog 232 #[.int .i64 f,.int .i64 (N:Int),p.v,q.v] w (ArOut H w R N):=by
 have hNb:N<=1000000:=lenP_le hL hm hn
 have HP:=Lib.hid hP
 have HQ:=Lib.hid hQ
 have HONE:=Lib.hid hone
 have HR:=Lib.hid hR
 have HH:=Lib.hid hH
 have HIX:=Lib.hid (fun c (hc:c < N)=>ixP_lt hL hc)
 have hmk:=run_make_row' (P:=Tryz.prog) 33 55 (.float .f64 0) 8 Tryz.underlying33 info_f64 rfl .i64 .i64 N (by omega) (by omega)
 obtain ⟨ff,hff⟩:∃ ff:Nat->Value,ff=fun c => .float .f64 (R c).1:=⟨_,rfl⟩
 have HFF:Hid (∀ c,ff c= .float .f64 (R c).1):=fun c=>by rw [hff]
 clear hff
 have HA0:=Lib.hid (Ar2.new w p q 55 ff (.float .f64 0) N (by unfold maxLen;omega))
 clear hP hQ hone hR hH hL
 go_enter Tryz.func232,Tryz.ntmps232
 go_wp2
 go_loopw [20] (fun j wr=>∃ c:Nat,c<=N/\j= .int .i64 c/\Ar2 w p q 55 ff (.float .f64 0) N c wr/\∀ cc,cc < c->(R cc).2=0) (fun j _=>N - (intOf j).toNat)
 case atStart=>exact ⟨0,Nat.zero_le _,rfl,HA0.out,fun cc h=>absurd h (Nat.not_lt_zero _)⟩
 case round =>
  clear HA0
  obtain ⟨c,hc,rfl,har,hall⟩:=hrel
  have HAR:=Lib.hid har
  have HALL:=Lib.hid hall
  clear har hall
  by_cases hlt:c < N
  ·obtain ⟨hi1,hi2⟩:=HIX.out c hlt
   have HAP:=Lib.hid (fun W (hs:Ar2 w p q 55 ff (.float .f64 0) N c W)=>at_any p m c W (fun W' hb=>(HP.out W' (bel_both hs.st.bel hb)).len))
   have HAQ:=Lib.hid (fun W (hs:Ar2 w p q 55 ff (.float .f64 0) N c W)=>at_any q n c W (fun W' hb=>(HQ.out W' (bel_both hs.st.bel hb)).len))
   have HNP:=Lib.hid (fun W (hs:Ar2 w p q 55 ff (.float .f64 0) N c W)=>(HP.out W hs.st.bel).num (ixP m c) hi1)
   have HNQ:=Lib.hid (fun W (hs:Ar2 w p q 55 ff (.float .f64 0) N c W)=>(HQ.out W hs.st.bel).num (ixP n c) hi2)
   obtain ⟨y,E,hrc,hcase⟩:=HR.out c hlt
   have HO:Hid (∀ W,Calls Tryz.prog 269 #[.int .i64 f,.float .f64 (F (ixP m c)),.float .f64 (G (ixP n c))] W fun e w'=>e= .returned (.tuple #[.float .f64 y,.int .i64 E])/\W=w'):=by
    have h:=HONE.out c hlt
    rw [hrc] at h
    exact h
   have HRC:=Lib.hid hrc
   have HCASE:=Lib.hid hcase
   have HFC:Hid (ff c= .float .f64 y):=by
    show _=_
    rw [HFF.out,HRC.out]
   clear hrc hcase hi1 hi2
   generalize F (ixP m c)=xa at *
   generalize G (ixP n c)=xb at *
   generalize ixP m c=ia at *
   generalize ixP n c=ib at *
   go_wp2_with fail
   go_cut [12,13] from 23 to 46 (fun x er wx=>ArMid w p q 55 ff (.float .f64 0) N c y E x er wx)
   case first =>
    have hs0:=HAR.out.dr
    have hs00:=HAR.out
    go_region_held3 (fun W=>((W.cell? ⟨w.heap.size,0,none⟩=some (.int .i64 p.k)/\W.cell? ⟨w.heap.size,1,none⟩=some (.slice p.b.1 p.b.2.1 p.b.2.2)/\W.cell? ⟨w.heap.size,2,none⟩=some (.int .i64 p.bn)/\W.cell? ⟨w.heap.size,3,none⟩=some (.slice p.s.1 p.s.2.1 p.s.2.2)/\W.cell? ⟨w.heap.size,4,none⟩=some (.slice p.i.1 p.i.2.1 p.i.2.2)/\W.cell? ⟨w.heap.size,5,none⟩=some (.slice p.f.1 p.f.2.1 p.f.2.2)/\W.cell? ⟨w.heap.size,6,none⟩=some (.slice p.c.1 p.c.2.1 p.c.2.2)/\W.cell? ⟨w.heap.size,7,none⟩=some (.slice p.x.1 p.x.2.1 p.x.2.2))/\(W.cell? ⟨w.heap.size+1,0,none⟩=some (.int .i64 q.k)/\W.cell? ⟨w.heap.size+1,1,none⟩=some (.slice q.b.1 q.b.2.1 q.b.2.2)/\W.cell? ⟨w.heap.size+1,2,none⟩=some (.int .i64 q.bn)/\W.cell? ⟨w.heap.size+1,3,none⟩=some (.slice q.s.1 q.s.2.1 q.s.2.2)/\W.cell? ⟨w.heap.size+1,4,none⟩=some (.slice q.i.1 q.i.2.1 q.i.2.2)/\W.cell? ⟨w.heap.size+1,5,none⟩=some (.slice q.f.1 q.f.2.1 q.f.2.2)/\W.cell? ⟨w.heap.size+1,6,none⟩=some (.slice q.c.1 q.c.2.1 q.c.2.2)/\W.cell? ⟨w.heap.size+1,7,none⟩=some (.slice q.x.1 q.x.2.1 q.x.2.2)))/\Ar2 w p q 55 ff (.float .f64 0) N c W)
     (first | (with_reducible assumption) | (with_reducible (refine ar2_s ?_);repeat (first | (with_reducible assumption) | (with_reducible refine Ar2.dr ?_))))
     (first
      | (go_at_call 269;(with_reducible refine (HO.out _).mono ?_);rintro e w5 ⟨rfl,rfl⟩)
      | (go_at_call 270;(with_reducible refine (HAP.out _ ?_).mono ?_);exact Ar2.self (by repeat (first | (with_reducible assumption) | (with_reducible refine Ar2.dr ?_)));rintro e w1 ⟨rfl,hb1⟩;obtain ⟨hc1,hf1⟩:=bcell2 hb1;have hz1:=hb1.size;have hst1:Ar2 w p q 55 ff (.float .f64 0) N c w1:=Ar2.step (by repeat (first | (with_reducible assumption) | (with_reducible refine Ar2.dr ?_))) hb1;clear hb1)
      | (go_at_call 270;(with_reducible refine (HAQ.out _ ?_).mono ?_);exact Ar2.self (by repeat (first | (with_reducible assumption) | (with_reducible refine Ar2.dr ?_)));rintro e w2 ⟨rfl,hb2⟩;obtain ⟨hc2,hf2⟩:=bcell2 hb2;have hz2:=hb2.size;have hst2:Ar2 w p q 55 ff (.float .f64 0) N c w2:=Ar2.step (by repeat (first | (with_reducible assumption) | (with_reducible refine Ar2.dr ?_))) hb2;clear hb2)
      | (go_at_call 136;(with_reducible refine (HNP.out _ ?_).mono ?_);exact Ar2.self (by repeat (first | (with_reducible assumption) | (with_reducible refine Ar2.dr ?_)));rintro e w3 ⟨rfl,hb3⟩;obtain ⟨hc3,hf3⟩:=bcell2 hb3;have hz3:=hb3.size;have hst3:Ar2 w p q 55 ff (.float .f64 0) N c w3:=Ar2.step (by repeat (first | (with_reducible assumption) | (with_reducible refine Ar2.dr ?_))) hb3;clear hb3)
      | (go_at_call 136;(with_reducible refine (HNQ.out _ ?_).mono ?_);exact Ar2.self (by repeat (first | (with_reducible assumption) | (with_reducible refine Ar2.dr ?_)));rintro e w4 ⟨rfl,hb4⟩;obtain ⟨hc4,hf4⟩:=bcell2 hb4;have hz4:=hb4.size;have hst4:Ar2 w p q 55 ff (.float .f64 0) N c w4:=Ar2.step (by repeat (first | (with_reducible assumption) | (with_reducible refine Ar2.dr ?_))) hb4;clear hb4))
    all_goals
     go_wp2
     go_meet
     first
      | (with_reducible exact arMid_of hst4)
      | (with_reducible exact arMid_of hst3)
      | (with_reducible exact arMid_of hst2)
      | (with_reducible exact arMid_of hst1)
   case rest =>
    obtain ⟨rfl,rfl,har⟩:=hcut
    have HAR2:=Lib.hid har
    clear har HAR HAP HAQ HNP HNQ HO
    rcases HCASE.out with ⟨htf,rfl⟩ | ⟨rfl,rfl⟩
    ·have hc3:=HAR2.out.fill.cell hlt
     have hz3:=HAR2.out.fill.frozen c
     have hst:=fun md=>store_float hc3 hz3 .f64 y md
     have HPUT:Hid (Ar2 w p q 55 ff (.float .f64 0) N (c+1) (wc.setCell ⟨w.heap.size+3,c,none⟩ (.float .f64 y))):=by
      have h:=HAR2.out.put hlt
      rw [HFC.out] at h
      exact h
     have HALL2:Hid (∀ cc,cc < c+1->(R cc).2=0):=fun cc hcc=>by
      by_cases e:cc=c
      ·rw [e,HRC.out]
      ·exact HALL.out cc (by omega)
     clear htf
     go_wp2
     go_roundw
     case rel=>exact ⟨c+1,by omega,by go_num,HPUT.out,HALL2.out⟩
     case measure=>simp [intOf];omega
    ·have HBAD:Hid (∃ c,c < N/\(R c).2≠0):=⟨c,hlt,by rw [HRC.out];decide⟩
     obtain ⟨⟨h0,h1,h2,h3,h4,h5,h6,h7⟩,hz⟩:=boxed_of HAR2.out.st.res
     go_wp2
     refine bodyPost_ret (v := .tuple #[vecV 0 vnil 0 vnil vnil vnil vnil vnil,.int .i64 24]) ?_ rfl (.inr ⟨HBAD.out,rfl,below_set8 HAR2.out.st.bel (by omega) _ _ _ _ _ _ _ _⟩)
     exact ret_vec2 (fn:=Tryz.f232) (p:=8) (u:=9) rfl _ _ (w.heap.size+2) (by rfl) (set8_block HAR2.out.st.res _ _ _ _ _ _ _ _)
  ·obtain rfl:c=N:=by omega
   have HTFO:Hid (∀ j,j < c->TF (R j).1):=fun j hj=>by
    obtain ⟨y,E,hrc,hcase⟩:=HR.out j hj
    have h0:=HALL.out j hj
    rw [hrc] at h0 ⊢
    rcases hcase with ⟨h,_⟩ | ⟨_,h⟩
    ·exact h
    ·rw [h] at h0;cases h0
   have HRD:Hid (Reads1 wr (.slice (some ⟨w.heap.size+3,0,none⟩) c c) ((List.range c).map fun j => .float .f64 (R j).1)):=by
    have h:=HAR.out.fill.own.reads
    have e:(List.range c).map ff=(List.range c).map fun j => .float .f64 (R j).1:=List.map_congr_left fun j _=>HFF.out j
    rw [e] at h
    exact h
   have HNUMS:=Lib.hid (numbers_any (fun j=>H j\/j=w.heap.size+2) _ c (fun c=>(R c).1) wr (fun j e=>by
    have h1:=HAR.out.st.sz
    rcases e with e | e
    ·have:=HH.out j e;omega
    ·omega) HRD.out hNb HTFO.out)
   go_wp2_with fail
   refine HNUMS.out.mono ?_
   rintro e w5 ⟨k5,b5,bn5,s5,i5,f5,c5,x5,rfl,hk5,hb5⟩
   have HS5:=Lib.hid (HAR.out.st.step hb5)
   have HK5:=Lib.hid hk5
   clear hb5 hk5
   have z5:w.heap.size < w5.heap.size:=HS5.out.one.lt
   have z5':w.heap.size+2 < w5.heap.size:=HS5.out.sz
   have HKE:=Lib.hid ((HK5.out.set8 (.inr rfl) (.int .i64 k5) (.slice b5.1 b5.2.1 b5.2.2) (.int .i64 bn5) (.slice s5.1 s5.2.1 s5.2.2) (.slice i5.1 i5.2.1 i5.2.2) (.slice f5.1 f5.2.1 f5.2.2) (.slice c5.1 c5.2.1 c5.2.2) (.slice x5.1 x5.2.1 x5.2.2)).sub (H':=H) fun _ _ e => .inl e)
   have HBE:=Lib.hid (below_set8 HS5.out.bel (Nat.le_add_right _ 2) (.int .i64 k5) (.slice b5.1 b5.2.1 b5.2.2) (.int .i64 bn5) (.slice s5.1 s5.2.1 s5.2.2) (.slice i5.1 i5.2.1 i5.2.2) (.slice f5.1 f5.2.1 f5.2.2) (.slice c5.1 c5.2.1 c5.2.2) (.slice x5.1 x5.2.1 x5.2.2))
   have HRE:=Lib.hid (set8_block HS5.out.res (.int .i64 k5) (.slice b5.1 b5.2.1 b5.2.2) (.int .i64 bn5) (.slice s5.1 s5.2.1 s5.2.2) (.slice i5.1 i5.2.1 i5.2.2) (.slice f5.1 f5.2.1 f5.2.2) (.slice c5.1 c5.2.1 c5.2.2) (.slice x5.1 x5.2.1 x5.2.2))
   obtain ⟨⟨h0,h1,h2,h3,h4,h5,h6,h7⟩,hz⟩:=boxed_of HS5.out.res
   go_wp2
   refine bodyPost_ret (v := .tuple #[vecW k5 b5 bn5 s5 i5 f5 c5 x5,.int .i64 0]) ?_ rfl (.inl ⟨HALL.out,k5,b5,bn5,s5,i5,f5,c5,x5,rfl,HKE.out.step (bel1 _ _),bel_both HBE.out (bel1 _ _)⟩)
   exact ret_vec2 (fn:=Tryz.f232) (p:=8) (u:=9) rfl _ _ (w.heap.size+2) (by rfl) ((Below.heap_alloc _ _ _ (lt_of_block HRE.out)).trans HRE.out)
theorem monP_cases {f:Int} (h1:1<=f) (h2:f<=8){b:Nat} (hb:TF b):(∃ y,TF y/\monP f b=(y,0))\/monP f b=(0,24):=by
 have hfl:∀ s Z,Rep Z->TF (flT s Z):=fun s Z hz=>tf_tid s (rep_cut s hz)
 have hce:∀ s Z,Rep Z->TF (ceT s Z):=fun s Z hz=>tf_tid s (rep_cut (!s) hz)
 have hm:TF 13830554455654793216:=by
  have:=tf_fi (n := -1) ⟨by decide,by decide⟩
  exact this
 obtain ⟨s,Z,hz,rfl,h0⟩:=hb
 have hb:TF (W s Z):=⟨s,Z,hz,rfl,h0⟩
 have hneg:opB .sub 0 (W s Z)=tid (!s) Z:=by unfold opB;rw [zero_less s hz];rfl
 refine int8 (P:=fun f=>(∃ y,TF y/\monP f (W s Z)=(y,0))\/monP f (W s Z)=(0,24)) f h1 h2 ?_ ?_ ?_ ?_ ?_ ?_ ?_ ?_
 all_goals unfold monP
 ·exact .inl ⟨_,hb,rfl⟩
 ·exact .inl ⟨_,tf_tid (!s) hz,by rw [hneg];exact doneP_tf (tf_tid (!s) hz)⟩
 ·refine .inl ⟨_,?_,rfl⟩
  unfold sgnF
  split
  ·exact tf_one
  ·split
   ·exact hm
   ·exact tf_zero
 ·show (∃ y,TF y/\divP 4607182418800017408 (W s Z)=(y,0))\/divP 4607182418800017408 (W s Z)=(0,24)
  unfold divP
  by_cases hb0:W s Z=0
  ·rw [if_pos hb0,if_neg (by decide)];exact .inr rfl
  ·rw [if_neg hb0];exact doneP_cases (div_tot tf_one hb hb0).2
 ·exact .inl ⟨_,by rw [ceF_W s hz];exact hce s Z hz,rfl⟩
 ·exact .inl ⟨_,by rw [flF_W s hz];exact hfl s Z hz,rfl⟩
 ·refine .inl ⟨_,?_,rfl⟩
  unfold absF
  split
  ·rw [hneg];exact tf_tid (!s) hz
  ·exact hb
 ·show (∃ y,TF y/\(if isT (W s Z)=true then (flagF (!tv (W s Z)),(0:Int)) else (0,24))=(y,0))\/(if isT (W s Z)=true then (flagF (!tv (W s Z)),(0:Int)) else (0,24))=(0,24)
  split
  ·exact .inl ⟨_,tf_flag _,rfl⟩
  ·exact .inr rfl
theorem kept_any (H:Nat->Prop) (v:Value) (n:Nat) (F:Nat->Nat) (w:World) (hH:∀ b,H b->b < w.heap.size) (hr:Reads1 w v ((List.range n).map fun j => .float .f64 (F j))) (hn:n<=1000000) (ht:∀ j,j < n->TF (F j)) :
  Calls Tryz.prog 126 #[v] w (VecOk H w (fun u W=>NumV u (leastF F n:Nat) n F W)):=by
 have HN:=Lib.hid (numbers_any (fun j=>H j\/j=w.heap.size) v n F (w.alloc (.cells zcells 37)) (fun j e=>by
  have h1:(w.alloc (.cells zcells 37)).heap.size=w.heap.size+1:=by simp
  rcases e with e | e
  ·have:=hH j e;omega
  ·omega) (hr.below (bel1 w _)) hn ht)
 obtain ⟨v1,v2,v3,rfl⟩:∃ a m c,v= .slice a m c:=by obtain ⟨a,c,e⟩:=hr.len;exact ⟨a,_,c,e⟩
 clear hr ht hH
 go_enter Tryz.func126,Tryz.ntmps126
 go_wp2_with fail
 refine HN.out.mono ?_
 rintro e w5 ⟨k5,b5,bn5,s5,i5,f5,c5,x5,rfl,hk5,hb5⟩
 have HK1:=Lib.hid (block_up hb5)
 have HB1:=Lib.hid (bel_both (bel1 w _) hb5)
 have HK5:=Lib.hid hk5
 clear hb5 hk5
 have z5:w.heap.size < w5.heap.size:=lt_of_block HK1.out
 have HKE:=Lib.hid ((HK5.out.set8 (.inr rfl) (.int .i64 k5) (.slice b5.1 b5.2.1 b5.2.2) (.int .i64 bn5) (.slice s5.1 s5.2.1 s5.2.2) (.slice i5.1 i5.2.1 i5.2.2) (.slice f5.1 f5.2.1 f5.2.2) (.slice c5.1 c5.2.1 c5.2.2) (.slice x5.1 x5.2.1 x5.2.2)).sub (H':=H) fun _ _ e => .inl e)
 have HBE:=Lib.hid (below_set8 HB1.out (Nat.le_refl _) (.int .i64 k5) (.slice b5.1 b5.2.1 b5.2.2) (.int .i64 bn5) (.slice s5.1 s5.2.1 s5.2.2) (.slice i5.1 i5.2.1 i5.2.2) (.slice f5.1 f5.2.1 f5.2.2) (.slice c5.1 c5.2.1 c5.2.2) (.slice x5.1 x5.2.1 x5.2.2))
 have HRE:=Lib.hid (set8_block HK1.out (.int .i64 k5) (.slice b5.1 b5.2.1 b5.2.2) (.int .i64 bn5) (.slice s5.1 s5.2.1 s5.2.2) (.slice i5.1 i5.2.1 i5.2.2) (.slice f5.1 f5.2.1 f5.2.2) (.slice c5.1 c5.2.1 c5.2.2) (.slice x5.1 x5.2.1 x5.2.2))
 obtain ⟨⟨h0,h1,h2,h3,h4,h5,h6,h7⟩,hz⟩:=boxed_of HK1.out
 go_wp2
 refine bodyPost_ret (v := .tuple #[vecW k5 b5 bn5 s5 i5 f5 c5 x5,.int .i64 0]) ?_ rfl ⟨k5,b5,bn5,s5,i5,f5,c5,x5,rfl,HKE.out.step (bel1 _ _),bel_both HBE.out (bel1 _ _)⟩
 exact ret_vec2 (fn:=Tryz.f126) (p:=2) (u:=3) rfl _ _ w.heap.size (by rfl) ((Below.heap_alloc _ _ _ (lt_of_block HRE.out)).trans HRE.out)
theorem ceF_flag (t:Bool):ceF (flagF t)=flagF t:=by cases t <;> decide+kernel
theorem flF_flag (t:Bool):flF (flagF t)=flagF t:=by cases t <;> decide+kernel
theorem sgnF_flag (t:Bool):sgnF (flagF t)=flagF t:=by cases t <;> decide+kernel
theorem absF_flag (t:Bool):absF (flagF t)=flagF t:=by cases t <;> decide+kernel
theorem neg_flag (t:Bool):doneP (opB .sub 0 (flagF t))=(fi (if t then -1 else 0),0):=by cases t <;> decide+kernel
theorem turn_flag (t:Bool):divP 4607182418800017408 (flagF t)=if t then (flagF true,0) else (0,24):=by cases t <;> decide+kernel
theorem monP_stay {f:Int} (h:f=1\/f=3\/f=5\/f=6\/f=7) (t:Bool):monP f (flagF t)=(flagF t,0):=by
 rcases h with rfl | rfl | rfl | rfl | rfl
 ·rfl
 ·exact congrArg (·,(0:Int)) (sgnF_flag t)
 ·exact congrArg (·,(0:Int)) (ceF_flag t)
 ·exact congrArg (·,(0:Int)) (flF_flag t)
 ·exact congrArg (·,(0:Int)) (absF_flag t)
theorem monP_less (t:Bool):monP 2 (flagF t)=(fi (if t then -1 else 0),0):=neg_flag t
theorem monP_turn (t:Bool):monP 4 (flagF t)=if t then (flagF true,0) else (0,24):=turn_flag t
theorem monP_not (t:Bool):monP 8 (flagF t)=(flagF (!t),0):=by
 show (if isT (flagF t)=true then (flagF (!tv (flagF t)),(0:Int)) else (0,24))=_
 have h1:isT (flagF t)=true:=by unfold isT;cases t <;> simp [flagF]
 have h2:tv (flagF t)=t:=by cases t <;> decide
 rw [if_pos h1,h2]
theorem make_true (n:Nat) (hn:n<=1048576) (w:World) :
  Calls Tryz.prog 208 #[.int .i64 (n:Int),.bool true] w fun e w'=>∃ g,e= .returned (.agg #[.slice (some ⟨g,0,none⟩) ((n+63) / 64) ((n+63) / 64),.int .i64 (n:Int)])/\RowU w' w.heap.size g ((n+63) / 64) (packW (fun _=>true) n)/\Below w.heap.size w w':=by
 obtain ⟨M,hM⟩:∃ M,M=(n+63) / 64:=⟨_,rfl⟩
 have hMi:((n:Int)+63) / 64=(M:Int):=by omega
 have hmm:max (0:Int) (min (n:Int) 1048576)=(n:Int):=by omega
 have hmk:=run_make_row' (P:=Tryz.prog) 28 232 (.int .u64 0) 8 Tryz.underlying28 info_u64 rfl .i64 .i64 M (by omega) (by omega)
 rw [<- hM]
 have HM:=Lib.hid hM
 have hMb:M<=16384:=by omega
 clear hM
 have hs1:(w.alloc (.cells bcells 30)).heap.size=w.heap.size+1:=by simp
 have hs2:((w.alloc (.cells bcells 30)).alloc (.cells (madeCells #[.int .u64 0] M) 232)).heap.size=w.heap.size+2:=by simp
 have HR0:Hid (RowU (((w.alloc (.cells bcells 30)).alloc (.cells (madeCells #[.int .u64 0] M) 232)).alloc (.cells #[.slice (some ⟨w.heap.size+1,0,none⟩) M M,.int .i64 (n:Int)] 30)) (w.heap.size+1) (w.heap.size+1) M (fun _=>0)):=by
  have h:=(RowU.made (w.alloc (.cells bcells 30)) (w.heap.size+1) (by rw [hs1];omega) M (by unfold maxLen;omega)).below (bel1 _ (.cells #[.slice (some ⟨w.heap.size+1,0,none⟩) M M,.int .i64 (n:Int)] 30))
  rw [hs1] at h
  exact h
 have HB0:=Lib.hid (bel3 w (.cells bcells 30) (.cells (madeCells #[.int .u64 0] M) 232) (.cells #[.slice (some ⟨w.heap.size+1,0,none⟩) M M,.int .i64 (n:Int)] 30))
 have HK10:=Lib.hid (block_up (bel2 (w.alloc (.cells bcells 30)) (.cells (madeCells #[.int .u64 0] M) 232) (.cells #[.slice (some ⟨w.heap.size+1,0,none⟩) M M,.int .i64 (n:Int)] 30)))
 have HK20:Hid ((((w.alloc (.cells bcells 30)).alloc (.cells (madeCells #[.int .u64 0] M) 232)).alloc (.cells #[.slice (some ⟨w.heap.size+1,0,none⟩) M M,.int .i64 (n:Int)] 30)).heap[w.heap.size+2]?=some (.cells #[.slice (some ⟨w.heap.size+1,0,none⟩) M M,.int .i64 (n:Int)] 30)):=by
  have h:=heap_alloc_new ((w.alloc (.cells bcells 30)).alloc (.cells (madeCells #[.int .u64 0] M) 232)) (.cells #[.slice (some ⟨w.heap.size+1,0,none⟩) M M,.int .i64 (n:Int)] 30)
  rw [hs2] at h
  exact h
 clear hs1 hs2
 go_enter Tryz.func208,Tryz.ntmps208
 go_wp2_with fail
 go_loopw [20] (fun ii wr=>∃ i:Nat,i<=M/\ii= .int .i64 i/\RowU wr (w.heap.size+1) (w.heap.size+1) M (fun j=>if j < i then 18446744073709551615 else 0)/\Below w.heap.size w wr/\wr.heap[w.heap.size]?=some (.cells bcells 30)/\wr.heap[w.heap.size+2]?=some (.cells #[.slice (some ⟨w.heap.size+1,0,none⟩) M M,.int .i64 (n:Int)] 30)) (fun ii _=>M - (intOf ii).toNat)
 case atStart=>exact ⟨0,Nat.zero_le _,rfl,HR0.out.same (fun j _=>by rw [if_neg (Nat.not_lt_zero _)]),HB0.out,HK10.out,HK20.out⟩
 case round =>
  clear HR0 HB0 HK10 HK20 hmk
  obtain ⟨i,hi,rfl,hrow,hbl,hk1,hk2⟩:=hrel
  have HROW:=Lib.hid hrow
  have HBL:=Lib.hid hbl
  have HK1:=Lib.hid hk1
  have HK2:=Lib.hid hk2
  clear hrow hbl hk1 hk2
  by_cases hlt:i < M
  ·obtain ⟨hv0,hv1,hvf⟩:=pair_of HK2.out
   have hcw:=HROW.out.cell hlt
   have hfw:=HROW.out.frozen i
   have HPUT:=Lib.hid (HROW.out.put hlt 18446744073709551615 (F':=fun j=>if j < i+1 then 18446744073709551615 else 0) (fun j _=>by
    by_cases e:j=i
    ·rw [if_pos e,if_pos (by omega)]
    ·rw [if_neg e]
     by_cases h2:j < i
     ·rw [if_pos h2,if_pos (by omega)]
     ·rw [if_neg h2,if_neg (by omega)]))
   have HB3:=Lib.hid (HBL.out.setCell (p:=⟨w.heap.size+1,i,none⟩) (by show _<=w.heap.size+1;omega) (.int .u64 18446744073709551615))
   have HK13:=Lib.hid ((Below.heap_setCell wr ⟨w.heap.size+1,i,none⟩ (.int .u64 18446744073709551615) w.heap.size (by show _≠w.heap.size+1;omega)).trans HK1.out)
   have HK23:=Lib.hid ((Below.heap_setCell wr ⟨w.heap.size+1,i,none⟩ (.int .u64 18446744073709551615) (w.heap.size+2) (by show _≠w.heap.size+1;omega)).trans HK2.out)
   go_wp2
   exact ⟨⟨i+1,by omega,by go_num,HPUT.out,HB3.out,HK13.out,HK23.out⟩,by simp [intOf];omega⟩
  ·obtain rfl:i=M:=by omega
   have HT:=Lib.hid (trim_any (w.heap.size+1) (w.heap.size+1) n i _ wr hn HM.out HROW.out (fun j hj=>by
    show (if j < i then _ else _) < _
    rw [if_pos hj]
    decide))
   have HF:Hid (∀ j,j < i->trimF n i (fun j=>if j < i then 18446744073709551615 else 0) j=packW (fun _=>true) n j):=by
    refine trimF_pack n i _ (fun _=>true) HM.out (fun j hj=>?_) (fun j hj m hm hin=>?_)
    ·show (if j < i then _ else _) < _
     rw [if_pos hj]
     decide
    ·show Nat.testBit (if j < i then _ else _) m=_
     rw [if_pos hj]
     have:=not_bit 0 m hm (by decide)
     rw [show 18446744073709551615 - 0=18446744073709551615 from rfl] at this
     rw [this]
     simp
   obtain ⟨hv0,hv1,hvf⟩:=pair_of HK2.out
   go_wp2_with fail
   refine HT.out.mono ?_
   rintro e w5 ⟨rfl,hr5,hb5,ho5⟩
   have HR5:=Lib.hid (hr5.same (F':=packW (fun _=>true) n) (fun j hj=>(HF.out j hj).symm))
   have HB5:=Lib.hid (HBL.out.trans (hb5.mono (by omega)))
   have HK5:=Lib.hid (show w5.heap[w.heap.size]?=some (.cells bcells 30) by rw [hb5.block _ (by omega)];exact HK1.out)
   have hVl:w.heap.size+2 < wr.heap.size:=lt_of_block HK2.out
   have HKV:=Lib.hid (show w5.heap[w.heap.size+2]?=some (.cells #[.slice (some ⟨w.heap.size+1,0,none⟩) i i,.int .i64 (n:Int)] 30) by rw [ho5 (w.heap.size+2) hVl (by omega)];exact HK2.out)
   clear hr5 hb5 ho5 hv0 hv1 hvf
   obtain ⟨hv0,hv1,hvf⟩:=pair_of HKV.out
   obtain ⟨hk0,hk1,hkf⟩:=pair_of HK5.out
   go_wp2
   refine bodyPost_ret (ret_bits rfl _ _ _ rfl (set2_block HK5.out _ _)) rfl ⟨w.heap.size+1,rfl,?_,below_set2 HB5.out (Nat.le_refl _) _ _⟩
   exact own_set2 (HR5.out.lower (by omega)) (by show some (w.heap.size+1)≠_;intro e;injection e;omega) _ _
theorem packW_false (n j:Nat):packW (fun _=>false) n j=0:=by
 apply Nat.eq_of_testBit_eq
 intro m
 rw [Nat.zero_testBit]
 by_cases hm:m < 64
 ·rw [packW_bit _ _ _ _ hm];simp
 ·exact packW_high _ _ _ _ hm
theorem make_any (n:Nat) (t:Bool) (hn:n<=1048576) (w:World) :
  Calls Tryz.prog 208 #[.int .i64 (n:Int),.bool t] w fun e w'=>∃ g,e= .returned (.agg #[.slice (some ⟨g,0,none⟩) ((n+63) / 64) ((n+63) / 64),.int .i64 (n:Int)])/\RowU w' w.heap.size g ((n+63) / 64) (packW (fun _=>t) n)/\Below w.heap.size w w':=by
 cases t
 ·refine (make_false n hn w).mono ?_
  rintro e w' ⟨g,rfl,hr,hb⟩
  exact ⟨g,rfl,hr.same fun j _=>packW_false n j,hb⟩
 ·exact make_true n hn w
end Go.Proofs.YtiahegjdkejjpaaGreatDoor
