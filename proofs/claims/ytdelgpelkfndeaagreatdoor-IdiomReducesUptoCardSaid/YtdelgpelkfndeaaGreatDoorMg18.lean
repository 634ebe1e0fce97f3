/- The walks of rebusref10.Length and rebusref24.at. The walk of rebusref24.part. The walks of each.Part and of rebusref25.Part. The walks of value.Num, .. Conditions: as each theorem says. -/
import Derived.Test.YtdelgpelkfndeaaGreatDoorMgA
import Derived.Test.YtdelgpelkfndeaaGreatDoorMg17
import Derived.Deep.CutBlock
import Derived.Test.YtdelgpelkfndeaaGreatDoorMg11
import Derived.Test.YtdelgpelkfndeaaGreatDoorMg03
import Derived.Test.YtdelgpelkfndeaaGreatDoorMg05
set_option maxRecDepth 100000
set_option maxHeartbeats 2000000
namespace Go.Proofs.YtdelgpelkfndeaaGreatDoor
open Go Go.RowKit Go.Proofs Fl
theorem QeL (m n N:Nat) (hL:lenP m n=some N) (w:World):Calls Tryz.prog 73 #[.int .i64 (m:Int),.int .i64 (n:Int)] w fun e w'=>e= .returned (.int .i64 (N:Nat))/\w=w':=by
 unfold lenP at hL
 by_cases h1:m=n
 ·subst h1
  rw [if_pos rfl] at hL
  injection hL with hL
  subst hL
  have e1:((m:Int)==(m:Int))=true:=by simp
  go_enter Tryz.func73,Tryz.ntmps73
  go_wp2
  go_ret
  exact ⟨rfl,rfl⟩
 ·rw [if_neg h1] at hL
  have e1:((m:Int)==(n:Int))=false:=by simp;omega
  by_cases h2:m=1
  ·subst h2
   rw [if_pos rfl] at hL
   injection hL with hL
   subst hL
   have e2:((n:Int)==1)=false:=by simp;omega
   have e3:(((1:Nat):Int)==1)=true:=rfl
   go_enter Tryz.func73,Tryz.ntmps73
   go_wp2
   go_ret
   exact ⟨rfl,rfl⟩
  ·rw [if_neg h2] at hL
   by_cases h3:n=1
   ·rw [if_pos h3] at hL
    injection hL with hL
    subst hL
    have e2:((n:Int)==1)=true:=by subst h3;rfl
    go_enter Tryz.func73,Tryz.ntmps73
    go_wp2
    go_ret
    exact ⟨rfl,rfl⟩
   ·rw [if_neg h3] at hL;cases hL
theorem QhY:(Tryz.prog.info? 63).map (·.size)=some 4:=by kernel_rfl
theorem QpT {fn:Func}{p:Tmp} (h:fn.results=#[.cell p 63]) (tmps:Array Value) (w:World) (G:Nat){e:TypeId}{a0 a1 a2 a3:Value}
  (hp:tmps.getD p undef= .pointer (some ⟨G,0,none⟩)) (hg:w.heap[G]?=some (.cells #[a0,a1,a2,a3] e)) :
  (results fn tmps).run Tryz.prog w= .ok (.agg #[a0,a1,a2,a3]) w :=
 results_cell_row h tmps w G e _ (0,0) _ hp hg Tryz.underlying63 rfl QhY
abbrev set4 (w:World) (G:Nat) (a0 a1 a2 a3:Value):World:=(((w.setCell ⟨G,0,none⟩ a0).setCell ⟨G,1,none⟩ a1).setCell ⟨G,2,none⟩ a2).setCell ⟨G,3,none⟩ a3
theorem Qc5 {w:World}{G:Nat}{e:TypeId}{z0 z1 z2 z3:Value} (h:w.heap[G]?=some (.cells #[z0,z1,z2,z3] e)) (a0 a1 a2 a3:Value):(set4 w G a0 a1 a2 a3).heap[G]?=some (.cells #[a0,a1,a2,a3] e):=by
 have h0:=heap_setCell_same _ G 0 _ e a0 h
 rw [show (#[z0,z1,z2,z3]:Array Value).setIfInBounds 0 a0=#[a0,z1,z2,z3] by simp] at h0
 have h1:=heap_setCell_same _ G 1 _ e a1 h0
 rw [show (#[a0,z1,z2,z3]:Array Value).setIfInBounds 1 a1=#[a0,a1,z2,z3] by simp] at h1
 have h2:=heap_setCell_same _ G 2 _ e a2 h1
 rw [show (#[a0,a1,z2,z3]:Array Value).setIfInBounds 2 a2=#[a0,a1,a2,z3] by simp] at h2
 have h3:=heap_setCell_same _ G 3 _ e a3 h2
 rw [show (#[a0,a1,a2,z3]:Array Value).setIfInBounds 3 a3=#[a0,a1,a2,a3] by simp] at h3
 exact h3
theorem Qei {B:Nat}{w0 w:World} (h:Below B w0 w){G:Nat} (hG:B<=G) (a0 a1 a2 a3:Value):Below B w0 (set4 w G a0 a1 a2 a3):=(((h.setCell hG _).setCell hG _).setCell hG _).setCell hG _
def ItR (H:Nat->Prop) (w W:World) (t:RI) (e:Ending) (w':World):Prop:=∃ k n c y,e= .returned (itV k n c y)/\IV H w t k n c y/\Below W.heap.size W w'
theorem Qtv {H:Nat->Prop}{w W w':World}{t:RI}{k:Int}{n:Nat}{c:Int}{y:Sl} (h:IV H w t k n c y) (hb:Below W.heap.size W w'):ItR H w W t (.returned (itV k n c y)) w':=⟨k,n,c,y,rfl,h,hb⟩
theorem QdM {H:Nat->Prop}{w:World}{s:List Int}{items:List RI}{fill:Int}{h x:Sl}{f:Int} (g:PV H w (.mk s items fill) h x f) (i:Nat) (hi:ixP items.length i < items.length) (hl:items.length<=1048576) (W:World) (hb:Below w.heap.size w W) :
  Calls Tryz.prog 75 #[plV h x f,.int .i64 (i:Int)] W (ItR H w W items[ixP items.length i]):=by
 obtain ⟨_,rfl,hn,hit⟩:=g.open_
 obtain ⟨b,o,k,n,c,y,hx,_,hiv,hat⟩:=hit _ hi
 obtain ⟨X,m,q⟩:=x
 dsimp only at hx hn
 subst hx
 subst hn
 have HIV:=hD hiv
 have HAT:=hD (fun w1 (hb1:Below W.heap.size W w1)=>hat w1 (Lat.below (Qaa hb hb1)))
 generalize items[ixP items.length i]=t at HIV ⊢
 have hcase:((items.length:Int)==1)=true/\ixP items.length i=0\/((items.length:Int)==1)=false/\ixP items.length i=i:=by
  unfold ixP
  by_cases h1:items.length=1
  ·exact .inl ⟨by rw [h1];rfl,if_pos h1⟩
  ·exact .inr ⟨by simp;omega,if_neg h1⟩
 have hB0:=bel2 W (plO h (some ⟨b,o,none⟩,items.length,q) f) (.cells #[.int .i64 0,.float .f64 0,.int .i32 0,.slice none 0 0] 63)
 have hP0:=At3.belowP (Qbd W h (some ⟨b,o,none⟩,items.length,q) f) (bel1 _ (.cells #[.int .i64 0,.float .f64 0,.int .i32 0,.slice none 0 0] 63))
 have hR0:=heap_alloc_new (W.alloc (plO h (some ⟨b,o,none⟩,items.length,q) f)) (.cells #[.int .i64 0,.float .f64 0,.int .i32 0,.slice none 0 0] 63)
 rw [show (W.alloc (plO h (some ⟨b,o,none⟩,items.length,q) f)).heap.size=W.heap.size+1 by simp] at hR0
 clear g hit hiv hat hb
 rcases hcase with ⟨hq1,hix⟩ | ⟨hq1,hix⟩
 all_goals
  rw [hix] at hi HAT
  generalize items.length=m at *
  obtain ⟨p0,p1,p2⟩:=Qax hP0
  obtain ⟨⟨z0,z1,z2,z3⟩,zz⟩:=block4 hR0
  obtain ⟨d0,d1,d2,d3⟩:=HAT.out _ hB0
  dsimp only [plO,sv] at d0 d1 d2 d3 p0 p1 p2 z0 z1 z2 z3
  (try simp only [Nat.zero_mul,Nat.add_zero] at d0 d1 d2 d3)
  have hi0:(0:Int) < (m:Int):=by omega
  have HB0:=hD hB0
  have HR0:=hD hR0
  clear hB0 hP0 hR0
  dsimp only [plV,sv]
  go_enter Tryz.func75,Tryz.ntmps75
  have hst:∀ md,(store ⟨W.heap.size+1,1,none⟩ (.float .f64 n) md).run Tryz.prog ((W.alloc (.cells #[.slice h.1 h.2.1 h.2.2,.slice (some ⟨b,o,none⟩) m q,.int .i64 f] 25)).alloc (.cells #[.int .i64 k,.float .f64 0,.int .i32 0,.slice none 0 0] 63))= .ok () ((W.alloc (.cells #[.slice h.1 h.2.1 h.2.2,.slice (some ⟨b,o,none⟩) m q,.int .i64 f] 25)).alloc (.cells #[.int .i64 k,.float .f64 n,.int .i32 0,.slice none 0 0] 63)):=fun md=>by
   have h9:=QaK (W.alloc (.cells #[.slice h.1 h.2.1 h.2.2,.slice (some ⟨b,o,none⟩) m q,.int .i64 f] 25)) k 0 n 0 (.slice none 0 0) 63 md
   rw [show (W.alloc (.cells #[.slice h.1 h.2.1 h.2.2,.slice (some ⟨b,o,none⟩) m q,.int .i64 f] 25)).heap.size=W.heap.size+1 by simp] at h9
   exact h9
  have HB9:=hD (bel2 W (.cells #[.slice h.1 h.2.1 h.2.2,.slice (some ⟨b,o,none⟩) m q,.int .i64 f] 25) (.cells #[.int .i64 k,.float .f64 n,.int .i32 c,.slice y.1 y.2.1 y.2.2] 63))
  have HR9:=hD (heap_alloc_new (W.alloc (.cells #[.slice h.1 h.2.1 h.2.2,.slice (some ⟨b,o,none⟩) m q,.int .i64 f] 25)) (.cells #[.int .i64 k,.float .f64 n,.int .i32 c,.slice y.1 y.2.1 y.2.2] 63))
  have HSZ:Hid ((W.alloc (.cells #[.slice h.1 h.2.1 h.2.2,.slice (some ⟨b,o,none⟩) m q,.int .i64 f] 25)).heap.size=W.heap.size+1):=by unfold Hid;simp
  clear HB0 HR0
  go_wp2
  refine bodyPost_ret (v:=itV k n c y) ?_ rfl (Qtv HIV.out HB9.out)
  exact QpT (fn:=Tryz.f75) (p:=4) rfl _ _ (W.heap.size+1) (by rfl) (by have h9:=HR9.out;rw [HSZ.out] at h9;exact h9)
def PvS (H:Nat->Prop) (w W:World) (t:RP) (e:Ending) (w':World):Prop:=∃ h x f,e= .returned (plV h x f)/\(PV H w t h x f\/(h=nilS/\(∃ k n c,t= .mk [] [.mk k n c []] k/\k≠2)/\PV H w' t h x f))/\Below W.heap.size W w'
theorem Qni {H:Nat->Prop}{w W w':World}{t:RP}{h x:Sl}{f:Int} (hp:PV H w t h x f) (hb:Below W.heap.size W w'):PvS H w W t (.returned (plV h x f)) w':=⟨h,x,f,rfl,.inl hp,hb⟩
theorem Qnj {H:Nat->Prop}{w W w':World}{k:Int}{n:Nat}{c:Int}{x:Sl}{f:Int} (hk:k≠2) (hp:PV H w' (.mk [] [.mk k n c []] k) nilS x f) (hb:Below W.heap.size W w'):PvS H w W (.mk [] [.mk k n c []] k) (.returned (plV nilS x f)) w':=⟨nilS,x,f,rfl,.inr ⟨rfl,⟨k,n,c,rfl,hk⟩,hp⟩,hb⟩
structure P1 (w W:World) (h x:Sl) (f:Int):Prop where
 one:At3 W w.heap.size 0 h x f
 res:W.heap[w.heap.size+1]?=some (plO nilS nilS 0)
 bel:Below w.heap.size w W
theorem P1.step {w W W':World}{h x:Sl}{f:Int} (g:P1 w W h x f) (hb:Below W.heap.size W W'):P1 w W' h x f:=⟨At3.belowP g.one hb,by rw [hb.block _ (lt_blk g.res)];exact g.res,Qaa g.bel hb⟩
theorem P1.sz {w W:World}{h x:Sl}{f:Int} (g:P1 w W h x f):w.heap.size+2<=W.heap.size:=lt_blk g.res
theorem P1.new (w:World) (h x:Sl) (f:Int):P1 w ((w.alloc (plO h x f)).alloc (plO nilS nilS 0)) h x f:=by
 have h1:=heap_alloc_new (w.alloc (plO h x f)) (plO nilS nilS 0)
 rw [show (w.alloc (plO h x f)).heap.size=w.heap.size+1 by simp] at h1
 exact ⟨At3.belowP (Qbd w h x f) (bel1 _ _),h1,bel2 w _ _⟩
theorem Qgk {H:Nat->Prop}{w:World}{s:List Int}{items:List RI}{fill:Int}{h x:Sl}{f:Int} (g:PV H w (.mk s items fill) h x f) (i:Nat) (hi:ixP items.length i < items.length) (hl:items.length<=1048576) (kd:Int) (nu:Nat) (ch:Int) (hk:kd≠2) (ht:items[ixP items.length i]= .mk kd nu ch []) (W:World) (hb:Below w.heap.size w W) (hH:∀ b,H b->b < w.heap.size) :
  Calls Tryz.prog 76 #[plV h x f,.int .i64 (i:Int)] W (PvS H w W (.mk [] [.mk kd nu ch []] kd)):=by
 have HAT:=hD (fun W' (hb':Below W.heap.size W W')=>ht▸QdM g i hi hl W' (Qaa hb hb'))
 have HS0:=hD (P1.new W h x f)
 have HSZ:=hD hb.size
 have HH:=hD hH
 have k2:(kd==2)=false:=by simpa using hk
 have HKD:=hD hk
 unfold ItR at HAT
 clear g hi hl ht hb hk hH
 go_enter Tryz.func76,Tryz.ntmps76
 obtain ⟨p0,p1,p2⟩:=Qax HS0.out.one
 go_wp2_with fail
 refine (HAT.out _ HS0.out.bel).mono ?_
 rintro e w1 ⟨k,n,c,y,rfl,hiv,hb1⟩
 have HS1:=hD (HS0.out.step hb1)
 rw [IV] at hiv
 obtain ⟨rfl,rfl,rfl,hy,_⟩:=hiv
 have HY:=hD hy
 have hst:=fun md=>QaK w1 k 0 n 0 (.slice none 0 0) 63 md
 have HB2:=hD (bel1 w1 (itO k n c y))
 have HN2:=hD (heap_alloc_new w1 (itO k n c y))
 obtain ⟨⟨d0,d1,d2,d3⟩,dz⟩:=block4 HN2.out
 have HS2:=hD (HS1.out.step HB2.out)
 have HB3:=hD (bel1 (w1.alloc (itO k n c y)) (itO k n c y))
 have HS3:=hD (HS2.out.step HB3.out)
 obtain ⟨⟨z0,z1,z2⟩,zz⟩:=block3 HS3.out.res
 clear hb1 hy p0 p1 p2
 have HI4:Hid (At4 (set3 ((w1.alloc (itO k n c y)).alloc (itO k n c y)) (W.heap.size+1) (.slice none 0 0) (.slice (some ⟨w1.heap.size+1,0,none⟩) 1 1) (.int .i64 k)) (w1.heap.size+1) (0+0*4) k n c y):=by
  have h9:=QbC (w1.alloc (itO k n c y)) k n c y
  rw [show (w1.alloc (itO k n c y)).heap.size=w1.heap.size+1 by simp] at h9
  have h8:=HS1.out.sz
  exact At4.lat (H:=fun b=>b=W.heap.size+1) h9 (by omega) (Lat.set3 (H:=fun b=>b=W.heap.size+1) (G:=W.heap.size+1) rfl _ _ _)
 have HPV:Hid (PV H (set3 ((w1.alloc (itO k n c y)).alloc (itO k n c y)) (W.heap.size+1) (.slice none 0 0) (.slice (some ⟨w1.heap.size+1,0,none⟩) 1 1) (.int .i64 k)) (.mk [] [.mk k n c []] k) nilS (some ⟨w1.heap.size+1,0,none⟩,1,1) k):=by
  refine QkN (fun _ _ _ => .inl ⟨none,0,rfl,rfl⟩) rfl fun j hj=>?_
  obtain rfl:j=0:=by simpa using hj
  refine ⟨w1.heap.size+1,0,k,n,c,y,rfl,fun e=>?_,?_,HI4.out⟩
  ·have h7:=HH.out _ e
   have h8:=HS1.out.sz
   have h9:=HSZ.out
   omega
  ·obtain ⟨ya,yn,yc⟩:=y
   have hy:yn=0:=HY.out
   subst hy
   exact Qbr H _ k n c ya yc
 have HBE:=hD (Qaf HS3.out.bel (Nat.le_succ _) (.slice none 0 0) (.slice (some ⟨w1.heap.size+1,0,none⟩) 1 1) (.int .i64 k))
 have HRE:=hD (Qae HS3.out.res (.slice none 0 0) (.slice (some ⟨w1.heap.size+1,0,none⟩) 1 1) (.int .i64 k))
 clear HI4 HB2 HB3 HS2 HY HH HAT
 go_wp2
 refine bodyPost_ret (v:=plV nilS (some ⟨w1.heap.size+1,0,none⟩,1,1) k) ?_ rfl (Qnj HKD.out HPV.out HBE.out)
 exact QaI (fn:=Tryz.f76) (p:=4) rfl _ _ (W.heap.size+1) (by rfl) HRE.out
theorem Qnk {H:Nat->Prop}{w:World}{s:List Int}{items:List RI}{fill:Int}{h x:Sl}{f:Int} (g:PV H w (.mk s items fill) h x f) (i:Nat) (hi:ixP items.length i < items.length) (hl:items.length<=1048576) (nu:Nat) (ch:Int) (t:RP) (ht:items[ixP items.length i]= .mk 2 nu ch [t]) (W:World) (hb:Below w.heap.size w W) :
  Calls Tryz.prog 76 #[plV h x f,.int .i64 (i:Int)] W (PvS H w W t):=by
 have HAT:=hD (fun W' (hb':Below W.heap.size W W')=>ht▸QdM g i hi hl W' (Qaa hb hb'))
 have HS0:=hD (P1.new W h x f)
 have HBW:=hD hb
 unfold ItR at HAT
 clear g hi hl ht hb
 go_enter Tryz.func76,Tryz.ntmps76
 obtain ⟨p0,p1,p2⟩:=Qax HS0.out.one
 go_wp2_with fail
 refine (HAT.out _ HS0.out.bel).mono ?_
 rintro e w1 ⟨k,n,c,y,rfl,hiv,hb1⟩
 have HS1:=hD (HS0.out.step hb1)
 obtain ⟨rfl,rfl,rfl,hy,hbx⟩:=hiv.open_
 obtain ⟨bb,bo,h',y',f',hya,hnH,hpv,hat⟩:=hbx 0 (by simp)
 obtain ⟨ya,yn,yc⟩:=y
 dsimp only at hya hy
 subst hya
 obtain rfl:yn=1:=by simpa using hy
 have hst:=fun md=>QaK w1 2 0 n 0 (.slice none 0 0) 63 md
 have HB2:=hD (bel1 w1 (itO 2 n c (some ⟨bb,bo,none⟩,1,yc)))
 have HN2:=hD (heap_alloc_new w1 (itO 2 n c (some ⟨bb,bo,none⟩,1,yc)))
 obtain ⟨⟨d0,d1,d2,d3⟩,dz⟩:=block4 HN2.out
 have HS2:=hD (HS1.out.step HB2.out)
 obtain ⟨⟨z0,z1,z2⟩,zz⟩:=block3 HS2.out.res
 obtain ⟨c0,c1,c2⟩:=hat _ (Lat.below (Qaa HBW.out HS2.out.bel))
 simp only [Nat.zero_mul,Nat.add_zero] at c0 c1 c2
 dsimp only [sv] at c0 c1
 have HPV:Hid (PV H w t h' y' f'):=hpv
 have HBE:=hD (Qaf HS2.out.bel (Nat.le_succ _) (.slice h'.1 h'.2.1 h'.2.2) (.slice y'.1 y'.2.1 y'.2.2) (.int .i64 f'))
 have HRE:=hD (Qae HS2.out.res (.slice h'.1 h'.2.1 h'.2.2) (.slice y'.1 y'.2.1 y'.2.2) (.int .i64 f'))
 clear hb1 hy hiv hbx hat hpv p0 p1 p2 HAT HB2 hnH
 go_wp2
 refine bodyPost_ret (v:=plV h' y' f') ?_ rfl (Qni HPV.out HBE.out)
 exact QaI (fn:=Tryz.f76) (p:=4) rfl _ _ (W.heap.size+1) (by rfl) HRE.out
theorem QhZ {H:Nat->Prop}{w:World}{a:PA}{h x:Sl}{f:Int} (g:PV H w (rawP a) h x f) (i:Nat) (hi:ixP a.len i < a.len) (hl:a.len<=1048576) (W:World) (hb:Below w.heap.size w W) (hH:∀ b,H b->b < w.heap.size) :
  Calls Tryz.prog 76 #[plV h x f,.int .i64 (i:Int)] W (PvS H w W (rawP (Qak a i))):=by
 cases a with
 | nums s l =>
  have hi2:ixP l.length i < l.length:=hi
  rw [rawP] at g
  have e:l.getD (ixP l.length i) 0=l[ixP l.length i]:=by simp [List.getD,hi2]
  rw [Qak,rawP,e]
  exact Qgk g i (by simpa using hi2) (by rw [List.length_map];exact hl) 0 _ 0 (by decide) (by simp) W hb hH
 | chars s l =>
  have hi2:ixP l.length i < l.length:=hi
  rw [rawP] at g
  have e:l.getD (ixP l.length i) 0=l[ixP l.length i]:=by simp [List.getD,hi2]
  rw [Qak,rawP,e]
  exact Qgk g i (by simpa using hi2) (by rw [List.length_map];exact hl) 1 0 _ (by decide) (by simp) W hb hH
 | boxes s l =>
  have hi2:ixP l.length i < l.length:=hi
  rw [rawP] at g
  have e:l.getD (ixP l.length i) default=l[ixP l.length i]:=by simp [List.getD,hi2]
  rw [Qak,e]
  have hn:=Qbe l
  refine Qnk g i (by rw [hn];exact hi2) (by rw [hn];exact hl) 0 0 _ ?_ W hb
  rw [QcY (by rw [hn];exact hi2)]
  congr 2
  simp only [hn]
theorem QdN {n i:Nat} (h:i < n):ixP n i=i:=by unfold ixP;split <;> omega
theorem Qnl {Ha:Nat->Prop}{s:List Nat}{l:List PA}{h:Sl}{p:V8} (w:World) (g:AV Ha w (.boxes s l) h p) (i:Nat) (hi:i < l.length) :
  Calls Tryz.prog 100 #[arrV h p,.int .i64 (i:Int)] w (AaR Ha w (Qak (.boxes s l) i)):=by
 have HS0:=hD (A1.new w h p)
 have HC:=hD (fun W (hb:Below w.heap.size w W)=>QaC g W hb)
 have HB:Hid (∀ W,Below w.heap.size w W->Calls Tryz.prog 108 #[p.v,.int .i64 (i:Int)] W (BoxR Ha w W (Qak (.boxes s l) i))):=fun W hb=>by
  have h1:=QdL g i hi W hb
  have e:l[i]=Qak (.boxes s l) i:=by
   show _=l.getD (ixP l.length i) default
   rw [QdN hi]
   simp [List.getD,hi]
  rw [e] at h1
  exact h1
 rw [show (PA.boxes s l).fill=2 from rfl] at HC
 unfold BoxR at HB
 generalize Qak (.boxes s l) i=pa at HB ⊢
 clear g hi
 unfold AaR
 go_enter Tryz.func100,Tryz.ntmps100
 obtain ⟨h0,h1,h2,h3,h4,h5,h6,h7,h8⟩:=HS0.out.one.c
 go_wp2_with fail
 refine (HC.out _ HS0.out.bel).mono ?_
 rintro e w2 ⟨rfl,hb⟩
 have HS2:=hD (HS0.out.step hb)
 clear hb h0 h1 h2 h3 h4 h5 h6 h7 h8 HS0
 obtain ⟨h0,h1,h2,h3,h4,h5,h6,h7,h8⟩:=HS2.out.one.c
 go_wp2_with fail
 refine (HB.out _ HS2.out.bel).mono ?_
 rintro e w3 ⟨h',p',rfl,hav,hb⟩
 have HS3:=hD (HS2.out.step hb)
 have HAV:Hid (AV Ha (set9 w3 (w.heap.size+1) (sv h') (.int .i64 p'.k) (sv p'.b) (.int .i64 p'.bn) (sv p'.s) (sv p'.i) (sv p'.f) (sv p'.c) (sv p'.x)) pa h' p'):=AV.step hav (Qal HS3.out.bel (Nat.le_succ _) _ _ _ _ _ _ _ _ _)
 clear hav hb h0 h1 h2 h3 h4 h5 h6 h7 h8 HS2
 obtain ⟨⟨y0,y1,y2,y3,y4,y5,y6,y7,y8⟩,yz⟩:=Qam HS3.out.res
 go_wp2
 refine bodyPost_ret (v:=arrV h' p') ?_ rfl ⟨h',p',rfl,HAV.out,Qal HS3.out.bel (Nat.le_succ _) _ _ _ _ _ _ _ _ _⟩
 exact Qfg (fn:=Tryz.f100) (p:=4) rfl _ _ (w.heap.size+1) (by rfl) (Qat HS3.out.res _ _ _ _ _ _ _ _ _)
theorem Qgl {Ha:Nat->Prop}{a:PA}{h:Sl}{p:V8} (w:World) (g:AV Ha w a h p) (hHa:∀ b,Ha b->b < w.heap.size) (i:Nat) (hi:i < a.len) (hl:a.len<=1000000) (hz:a.fill≠2) (pa:PA) (hpa:Qak a i=pa)
  (hcut:∀ (H:Nat->Prop) (W:World) (z1 z2:Int),z1=(i:Nat)->z2=((i+1:Nat):Int)->Below w.heap.size w W->(∀ b,H b->b < W.heap.size)->(∀ b,b < w.heap.size->H b->Ha b)->Calls Tryz.prog 161 #[p.v,.int .i64 z1,.int .i64 z2] W (CutA H W pa)) :
  Calls Tryz.prog 100 #[arrV h p,.int .i64 (i:Int)] w (AaR Ha w (Qak a i)):=by
 have HS0:=hD (A1.new w h p)
 have HH:=hD hHa
 have HC:=hD (fun W (hb:Below w.heap.size w W)=>QaC g W hb)
 have HB:=hD hcut
 have z2:((a.fill:Int)==2)=false:=by simp;omega
 have hib:i<=2000000:=by omega
 unfold CutA at HB
 rw [hpa]
 generalize a.fill=za at HC z2
 clear g hHa hz hcut hpa hi hl
 unfold AaR
 have hw1:IntKind.i64.wrap ((i:Int)+1)=(i:Int)+1:=IntWalk.i64_in _ (by omega)
 go_enter Tryz.func100,Tryz.ntmps100
 obtain ⟨h0,h1,h2,h3,h4,h5,h6,h7,h8⟩:=HS0.out.one.c
 go_wp2_with fail
 refine (HC.out _ HS0.out.bel).mono ?_
 rintro e w2 ⟨rfl,hb⟩
 have HS2:=hD (HS0.out.step hb)
 clear hb h0 h1 h2 h3 h4 h5 h6 h7 h8 HS0
 obtain ⟨h0,h1,h2,h3,h4,h5,h6,h7,h8⟩:=HS2.out.one.c
 go_wp2_with fail
 refine (HB.out (fun b=>Ha b\/b=w.heap.size+1) _ (i:Int) ((i:Int)+1) (by simp) (by simp) HS2.out.bel (fun b e=>by
  have h9:=HS2.out.sz
  rcases e with e | e
  ·have:=HH.out b e;omega
  ·omega) (fun b hb9 e=>by
  rcases e with e | e
  ·exact e
  ·omega)).mono ?_
 rintro e w3 ⟨p',rfl,hav,hb⟩
 have HS3:=hD (HS2.out.step hb)
 have HAV:Hid (AV Ha (set9 w3 (w.heap.size+1) (sv nilS) (.int .i64 p'.k) (sv p'.b) (.int .i64 p'.bn) (sv p'.s) (sv p'.i) (sv p'.f) (sv p'.c) (sv p'.x)) pa nilS p'):=AV.sub (fun b _ e => .inl e) (AV.lat (Lat.set9 (G:=w.heap.size+1) (.inr rfl) _ _ _ _ _ _ _ _ _) hav)
 clear hav hb h0 h1 h2 h3 h4 h5 h6 h7 h8 HS2
 obtain ⟨⟨y0,y1,y2,y3,y4,y5,y6,y7,y8⟩,yz⟩:=Qam HS3.out.res
 go_wp2
 refine bodyPost_ret (v:=arrV nilS p') ?_ rfl ⟨nilS,p',rfl,HAV.out,Qal HS3.out.bel (Nat.le_succ _) _ _ _ _ _ _ _ _ _⟩
 exact Qfg (fn:=Tryz.f100) (p:=4) rfl _ _ (w.heap.size+1) (by rfl) (Qat HS3.out.res _ _ _ _ _ _ _ _ _)
theorem Qnm {Ha:Nat->Prop}{a:PA}{h:Sl}{p:V8} (w:World) (g:AV Ha w a h p) (hHa:∀ b,Ha b->b < w.heap.size) (i:Nat) (hi:i < a.len) (hl:a.len<=1000000) :
  Calls Tryz.prog 100 #[arrV h p,.int .i64 (i:Int)] w (AaR Ha w (Qak a i)):=by
 cases a with
 | boxes s l=>exact Qnl w g i hi
 | nums s l=>exact Qgl w g hHa i hi hl (show (0:Nat)≠2 by decide) (.nums [] [l.getD i 0]) (by rw [Qak,QdN (show i < l.length from hi)]) fun H W z1 z2 e1 e2 hb hH hs=>QpR g hl i hi z1 z2 e1 e2 W hb hH hs
 | chars s l=>exact Qgl w g hHa i hi hl (show (1:Nat)≠2 by decide) (.chars [] [l.getD i 0]) (by rw [Qak,QdN (show i < l.length from hi)]) fun H W z1 z2 e1 e2 hb hH _=>QpS g hl i hi z1 z2 e1 e2 W hb hH
theorem Qkc {H:Nat->Prop}{w:World}{s:List Int}{items:List RI}{fill:Int}{h x:Sl}{f:Int} (g:PV H w (.mk s items fill) h x f) (i:Nat) (hi:i < items.length) (hl:items.length<=1048576) (kd:Int) (nu:Nat) (ch:Int) (hk:kd≠2) (ht:items[i]= .mk kd nu ch []) (W:World) (hb:Below w.heap.size w W) (hH:∀ b,H b->b < w.heap.size) :
  Calls Tryz.prog 184 #[plV h x f,.int .i64 (i:Int)] W (PvS H w W (.mk [] [.mk kd nu ch []] kd)):=by
 obtain ⟨-,-,hx,hit⟩:=g.open_
 obtain ⟨b,o,k,n,c,y,hxa,-,hiv,hat⟩:=hit i hi
 rw [ht] at hiv
 rw [IV] at hiv
 obtain ⟨rfl,rfl,rfl,hy,_⟩:=hiv
 obtain ⟨xA,xm,xc⟩:=x
 dsimp only at hx hxa
 subst hxa
 have HX:=hD hx
 have HAT:=hD (fun W' (hb':Below W.heap.size W W')=>hat W' (Lat.below (Qaa hb hb')))
 have HS0:=hD (P1.new W h (some ⟨b,o,none⟩,xm,xc) f)
 have HSZ:=hD hb.size
 have HH:=hD hH
 have HY:=hD hy
 have k2:(k==2)=false:=by simpa using hk
 have HKD:=hD hk
 have hlt:(i:Int) < (xm:Int):=by omega
 have hxb:xm<=1048576:=by omega
 have hib:i < xm:=by omega
 clear g hi hl ht hb hk hH hit hat hx hy
 go_enter Tryz.func184,Tryz.ntmps184
 obtain ⟨p0,p1,p2⟩:=Qax HS0.out.one
 dsimp only at p1
 obtain ⟨w1,hw1⟩:∃ w1,w1=(W.alloc (plO h (some ⟨b,o,none⟩,xm,xc) f)).alloc (plO nilS nilS 0):=⟨_,rfl⟩
 have HW1:=hD hw1
 rw [<- hw1] at HS0
 obtain ⟨t0,t1,t2,t3⟩:=HAT.out _ HS0.out.bel
 rw [HW1.out] at t0 t1 t2 t3
 clear hw1
 have hst:=fun md=>QaK w1 k 0 n 0 (.slice none 0 0) 63 md
 have HB2:=hD (bel1 w1 (itO k n c y))
 have HN2:=hD (heap_alloc_new w1 (itO k n c y))
 obtain ⟨⟨d0,d1,d2,d3⟩,dz⟩:=block4 HN2.out
 have HS2:=hD (HS0.out.step HB2.out)
 have HB3:=hD (bel1 (w1.alloc (itO k n c y)) (itO k n c y))
 have HS3:=hD (HS2.out.step HB3.out)
 obtain ⟨⟨z0,z1,z2⟩,zz⟩:=block3 HS3.out.res
 have HI4:Hid (At4 (set3 ((w1.alloc (itO k n c y)).alloc (itO k n c y)) (W.heap.size+1) (.slice none 0 0) (.slice (some ⟨w1.heap.size+1,0,none⟩) 1 1) (.int .i64 k)) (w1.heap.size+1) (0+0*4) k n c y):=by
  have h9:=QbC (w1.alloc (itO k n c y)) k n c y
  rw [show (w1.alloc (itO k n c y)).heap.size=w1.heap.size+1 by simp] at h9
  have h8:=HS0.out.sz
  exact At4.lat (H:=fun b=>b=W.heap.size+1) h9 (by omega) (Lat.set3 (H:=fun b=>b=W.heap.size+1) (G:=W.heap.size+1) rfl _ _ _)
 have HPV:Hid (PV H (set3 ((w1.alloc (itO k n c y)).alloc (itO k n c y)) (W.heap.size+1) (.slice none 0 0) (.slice (some ⟨w1.heap.size+1,0,none⟩) 1 1) (.int .i64 k)) (.mk [] [.mk k n c []] k) nilS (some ⟨w1.heap.size+1,0,none⟩,1,1) k):=by
  refine QkN (fun _ _ _ => .inl ⟨none,0,rfl,rfl⟩) rfl fun j hj=>?_
  obtain rfl:j=0:=by simpa using hj
  refine ⟨w1.heap.size+1,0,k,n,c,y,rfl,fun e=>?_,?_,HI4.out⟩
  ·have h7:=HH.out _ e
   have h8:=HS0.out.sz
   have h9:=HSZ.out
   omega
  ·obtain ⟨ya,yn,yc⟩:=y
   have hy:yn=0:=HY.out
   subst hy
   exact Qbr H _ k n c ya yc
 have HBE:=hD (Qaf HS3.out.bel (Nat.le_succ _) (.slice none 0 0) (.slice (some ⟨w1.heap.size+1,0,none⟩) 1 1) (.int .i64 k))
 have HRE:=hD (Qae HS3.out.res (.slice none 0 0) (.slice (some ⟨w1.heap.size+1,0,none⟩) 1 1) (.int .i64 k))
 clear HI4 HB2 HB3 HS2 HY HH HAT
 go_upto_region 1 with fail
 rw [<- HW1.out] at t0 t1 t2 t3 p0 p1 p2 ⊢
 go_wp2
 refine bodyPost_ret (v:=plV nilS (some ⟨w1.heap.size+1,0,none⟩,1,1) k) ?_ rfl (Qnj HKD.out HPV.out HBE.out)
 exact QaI (fn:=Tryz.f184) (p:=4) rfl _ _ (W.heap.size+1) (by rfl) HRE.out
theorem QrY {H:Nat->Prop}{w:World}{s:List Int}{items:List RI}{fill:Int}{h x:Sl}{f:Int} (g:PV H w (.mk s items fill) h x f) (i:Nat) (hi:i < items.length) (hl:items.length<=1048576) (nu:Nat) (ch:Int) (t:RP) (ht:items[i]= .mk 2 nu ch [t]) (W:World) (hb:Below w.heap.size w W) :
  Calls Tryz.prog 184 #[plV h x f,.int .i64 (i:Int)] W (PvS H w W t):=by
 obtain ⟨-,-,hx,hit⟩:=g.open_
 obtain ⟨b,o,k,n,c,y,hxa,-,hiv,hat⟩:=hit i hi
 rw [ht] at hiv
 obtain ⟨rfl,rfl,rfl,hy,hbx⟩:=hiv.open_
 obtain ⟨bb,bo,h',y',f',hya,hnH,hpv,hat3⟩:=hbx 0 (by simp)
 obtain ⟨ya,yn,yc⟩:=y
 dsimp only at hya hy
 subst hya
 obtain rfl:yn=1:=by simpa using hy
 obtain ⟨xA,xm,xc⟩:=x
 dsimp only at hx hxa
 subst hxa
 have HAT:=hD (fun W' (hb':Below W.heap.size W W')=>hat W' (Lat.below (Qaa hb hb')))
 have HAT3:=hD (fun W' (hb':Below W.heap.size W W')=>hat3 W' (Lat.below (Qaa hb hb')))
 have HS0:=hD (P1.new W h (some ⟨b,o,none⟩,xm,xc) f)
 have HPV:Hid (PV H w t h' y' f'):=hpv
 have hlt:(i:Int) < (xm:Int):=by omega
 have hxb:xm<=1048576:=by omega
 have hib:i < xm:=by omega
 clear g hi hl ht hb hit hat hat3 hx hy hpv hnH hbx
 go_enter Tryz.func184,Tryz.ntmps184
 obtain ⟨p0,p1,p2⟩:=Qax HS0.out.one
 dsimp only at p1
 obtain ⟨w1,hw1⟩:∃ w1,w1=(W.alloc (plO h (some ⟨b,o,none⟩,xm,xc) f)).alloc (plO nilS nilS 0):=⟨_,rfl⟩
 have HW1:=hD hw1
 rw [<- hw1] at HS0
 obtain ⟨t0,t1,t2,t3⟩:=HAT.out _ HS0.out.bel
 rw [HW1.out] at t0 t1 t2 t3
 clear hw1
 have hst:=fun md=>QaK w1 2 0 n 0 (.slice none 0 0) 63 md
 have HB2:=hD (bel1 w1 (itO 2 n c (some ⟨bb,bo,none⟩,1,yc)))
 have HN2:=hD (heap_alloc_new w1 (itO 2 n c (some ⟨bb,bo,none⟩,1,yc)))
 obtain ⟨⟨d0,d1,d2,d3⟩,dz⟩:=block4 HN2.out
 have HS2:=hD (HS0.out.step HB2.out)
 obtain ⟨⟨z0,z1,z2⟩,zz⟩:=block3 HS2.out.res
 obtain ⟨c0,c1,c2⟩:=HAT3.out _ HS2.out.bel
 simp only [Nat.zero_mul,Nat.add_zero] at c0 c1 c2
 dsimp only [sv] at c0 c1
 have HBE:=hD (Qaf HS2.out.bel (Nat.le_succ _) (.slice h'.1 h'.2.1 h'.2.2) (.slice y'.1 y'.2.1 y'.2.2) (.int .i64 f'))
 have HRE:=hD (Qae HS2.out.res (.slice h'.1 h'.2.1 h'.2.2) (.slice y'.1 y'.2.1 y'.2.2) (.int .i64 f'))
 clear HAT HAT3 HB2
 go_upto_region 1 with fail
 rw [<- HW1.out] at t0 t1 t2 t3 p0 p1 p2 ⊢
 go_wp2
 refine bodyPost_ret (v:=plV h' y' f') ?_ rfl (Qni HPV.out HBE.out)
 exact QaI (fn:=Tryz.f184) (p:=4) rfl _ _ (W.heap.size+1) (by rfl) HRE.out
theorem Qnn {H:Nat->Prop}{w:World}{a:PA}{h x:Sl}{f:Int} (g:PV H w (rawP a) h x f) (i:Nat) (hi:i < a.len) (hl:a.len<=1048576) (W:World) (hb:Below w.heap.size w W) (hH:∀ b,H b->b < w.heap.size) :
  Calls Tryz.prog 184 #[plV h x f,.int .i64 (i:Int)] W (PvS H w W (rawP (Qak a i))):=by
 cases a with
 | nums s l =>
  have hi2:i < l.length:=hi
  rw [rawP] at g
  have e:l.getD i 0=l[i]:=by simp [List.getD,hi2]
  rw [Qak,QdN hi2,rawP,e]
  exact Qkc g i (by simpa using hi2) (by rw [List.length_map];exact hl) 0 _ 0 (by decide) (by simp) W hb hH
 | chars s l =>
  have hi2:i < l.length:=hi
  rw [rawP] at g
  have e:l.getD i 0=l[i]:=by simp [List.getD,hi2]
  rw [Qak,QdN hi2,rawP,e]
  exact Qkc g i (by simpa using hi2) (by rw [List.length_map];exact hl) 1 0 _ (by decide) (by simp) W hb hH
 | boxes s l =>
  have hi2:i < l.length:=hi
  rw [rawP] at g
  have e:l.getD i default=l[i]:=by simp [List.getD,hi2]
  rw [Qak,QdN hi2,e]
  have hn:=Qbe l
  exact QrY g i (by rw [hn];exact hi2) (by rw [hn];exact hl) 0 0 _ (QcY hi2 (by rw [hn];exact hi2)) W hb
def AtQ (H:Nat->Prop) (w:World) (a:PA) (e:Ending) (w':World):Prop:=∃ h p,e= .returned (.tuple #[arrV h p,.bool true])/\AV H w' a h p/\Below w.heap.size w w'
theorem QpU {W:World}{B:Nat}{e:TypeId}{v:Value} (h:W.heap[B]?=some (.cells #[v] e)):Reads1 W (.slice (some ⟨B,0,none⟩) 1 1) [v]:=by
 refine .inr ⟨B,0,1,1,rfl,rfl,fun j hj=>?_⟩
 obtain rfl:j=0:=by simpa using hj
 rw [cell_of_row _ B (0+0) _ e (0,0) h]
 rfl
theorem QdO (b:Nat) (hb:TF b) (H:Nat->Prop) (w:World) (hH:∀ b,H b->b < w.heap.size) :
  Calls Tryz.prog 32 #[.float .f64 b] w (AtQ H w (.nums [] [b])):=by
 obtain ⟨w2,hw2⟩:∃ w2,w2=(w.alloc QbN).alloc (.cells #[.float .f64 b] 60):=⟨_,rfl⟩
 have HW2:=hD hw2
 have HB2:Hid (Below w.heap.size w w2):=by unfold Hid;rw [hw2];exact bel2 w _ _
 have HZ2:Hid (w2.heap[w.heap.size]?=some QbN):=by
  unfold Hid
  rw [hw2]
  exact QaJ (heap_alloc_new w QbN) _
 have HRD:Hid (Reads1 w2 (.slice (some ⟨w.heap.size+1,0,none⟩) 1 1) ((List.range 1).map fun _ => .float .f64 b)):=by
  have h1:=heap_alloc_new (w.alloc QbN) (.cells #[.float .f64 b] 60)
  rw [show (w.alloc QbN).heap.size=w.heap.size+1 by simp,<- hw2] at h1
  exact QpU h1
 have HN:=hD (Qe9 (fun b=>H b\/b=w.heap.size) _ 1 (fun _=>b) w2 (fun b e=>by
  have h1:=lt_blk HZ2.out
  rcases e with e | e
  ·have:=hH b e;have:=HB2.out.size;omega
  ·omega) HRD.out (by decide) (fun _ _=>hb))
 unfold QkD at HN
 unfold AtQ
 clear hb hH hw2 HRD
 go_enter Tryz.func32,Tryz.ntmps32
 go_wp2_with fail
 rw [<- HW2.out]
 refine HN.out.mono ?_
 rintro e w3 ⟨k,bb,bn,s,i,f,c,x,rfl,hk,hb3⟩
 have HNZ:=hD (Qnf (N:=1) (G:=fun _=>b) (hk.imp fun W h => .inl h))
 obtain ⟨p,hp⟩:∃ p:V8,p=⟨k,bb,bn,s,i,f,c,x⟩:=⟨_,rfl⟩
 obtain ⟨W,hW⟩:∃ W,W=w3.alloc p.o:=⟨_,rfl⟩
 have hb4:Below w3.heap.size w3 W:=by rw [hW];exact bel1 _ _
 have HB4:=hD (Qaa HB2.out (Qaa hb3 hb4))
 have HZ4:Hid (W.heap[w.heap.size]?=some QbN):=by
  have h1:=lt_blk HZ2.out
  unfold Hid
  rw [(Qaa hb3 hb4).block _ h1]
  exact HZ2.out
 have HBX:Hid (BoxP W w3.heap.size p):=by unfold Hid;rw [hW];exact Qb3 w3 p
 have HAV:Hid (AV H (set9 W w.heap.size (sv nilS) (.int .i64 p.k) (.slice p.b.1 p.b.2.1 p.b.2.2) (.int .i64 p.bn) (.slice p.s.1 p.s.2.1 p.s.2.2) (.slice p.i.1 p.i.2.1 p.i.2.2) (.slice p.f.1 p.f.2.1 p.f.2.2) (.slice p.c.1 p.c.2.1 p.c.2.2) (.slice p.x.1 p.x.2.1 p.x.2.2)) (.nums [] [b]) nilS p):=by
  refine AV.sub (H:=fun b=>H b\/b=w.heap.size) (fun b _ e => .inl e) (AV.lat (Lat.set9 (G:=w.heap.size) (.inr rfl) _ _ _ _ _ _ _ _ _) ?_)
  rw [AV]
  exact ⟨QiN _ _,by rw [hp];exact NumA.lat HNZ.out (Lat.below hb4)⟩
 have HBE:Hid (Below w.heap.size w (set9 W w.heap.size (sv nilS) (.int .i64 p.k) (.slice p.b.1 p.b.2.1 p.b.2.2) (.int .i64 p.bn) (.slice p.s.1 p.s.2.1 p.s.2.2) (.slice p.i.1 p.i.2.1 p.i.2.2) (.slice p.f.1 p.f.2.1 p.f.2.2) (.slice p.c.1 p.c.2.1 p.c.2.2) (.slice p.x.1 p.x.2.1 p.x.2.2))):=Qal HB4.out (Nat.le_refl _) _ _ _ _ _ _ _ _ _
 have HRE:=hD (Qat HZ4.out (sv nilS) (.int .i64 p.k) (.slice p.b.1 p.b.2.1 p.b.2.2) (.int .i64 p.bn) (.slice p.s.1 p.s.2.1 p.s.2.2) (.slice p.i.1 p.i.2.1 p.i.2.2) (.slice p.f.1 p.f.2.1 p.f.2.2) (.slice p.c.1 p.c.2.1 p.c.2.2) (.slice p.x.1 p.x.2.1 p.x.2.2))
 clear hk hb3 hb4 HNZ HN
 obtain ⟨⟨y0,y1,y2,y3,y4,y5,y6,y7,y8⟩,yz⟩:=Qam HZ4.out
 have hl1:w.heap.size < W.heap.size:=lt_blk HZ4.out
 subst hp
 dsimp only [V8.o] at hW
 rw [hW] at y0 y1 y2 y3 y4 y5 y6 y7 y8 yz hl1
 have HWW:=hD hW.symm
 clear hW
 go_wp2
 rw [HWW.out]
 refine bodyPost_ret (v := .tuple #[arrV nilS ⟨k,bb,bn,s,i,f,c,x⟩,.bool true]) ?_ rfl ⟨nilS,⟨k,bb,bn,s,i,f,c,x⟩,rfl,HAV.out,HBE.out⟩
 exact QaQ (fn:=Tryz.f32) (p:=2) (u:=3) rfl _ _ w.heap.size (by rfl) HRE.out
theorem QrZ (n:Int) (hn:Good n) (H:Nat->Prop) (w:World) (hH:∀ b,H b->b < w.heap.size) :
  Calls Tryz.prog 30 #[.int .i64 n] w (AaR H w (.nums [] [fi n])):=by
 have HZ0:=hD (heap_alloc_new w QbN)
 have HN:=hD (QdO (fi n) (QgC hn) (fun b=>H b\/b=w.heap.size) (w.alloc QbN) (fun b e=>by
  have h1:=lt_blk HZ0.out
  rcases e with e | e
  ·have:=hH b e;omega
  ·omega))
 unfold AtQ at HN
 unfold AaR
 clear hH hn
 go_enter Tryz.func30,Tryz.ntmps30
 go_wp2_with fail
 refine HN.out.mono ?_
 rintro e w3 ⟨h,p,rfl,hav,hb3⟩
 obtain ⟨W,hW⟩:∃ W,W=w3.alloc (arrO h p):=⟨_,rfl⟩
 have hb4:Below w3.heap.size w3 W:=by rw [hW];exact bel1 _ _
 have HB4:=hD (Qaa (bel1 w QbN) (Qaa hb3 hb4))
 have HZ4:Hid (W.heap[w.heap.size]?=some QbN):=by
  have h1:=lt_blk HZ0.out
  unfold Hid
  rw [(Qaa hb3 hb4).block _ h1]
  exact HZ0.out
 have HBX:Hid (At9 W w3.heap.size 0 h p):=by unfold Hid;rw [hW];exact QaV w3 h p
 have HAV:Hid (AV H (set9 W w.heap.size (sv h) (.int .i64 p.k) (.slice p.b.1 p.b.2.1 p.b.2.2) (.int .i64 p.bn) (.slice p.s.1 p.s.2.1 p.s.2.2) (.slice p.i.1 p.i.2.1 p.i.2.2) (.slice p.f.1 p.f.2.1 p.f.2.2) (.slice p.c.1 p.c.2.1 p.c.2.2) (.slice p.x.1 p.x.2.1 p.x.2.2)) (.nums [] [fi n]) h p) :=
  AV.sub (H:=fun b=>H b\/b=w.heap.size) (fun b _ e => .inl e) (AV.lat (Lat.set9 (G:=w.heap.size) (.inr rfl) _ _ _ _ _ _ _ _ _) (AV.step hav hb4))
 have HBE:Hid (Below w.heap.size w (set9 W w.heap.size (sv h) (.int .i64 p.k) (.slice p.b.1 p.b.2.1 p.b.2.2) (.int .i64 p.bn) (.slice p.s.1 p.s.2.1 p.s.2.2) (.slice p.i.1 p.i.2.1 p.i.2.2) (.slice p.f.1 p.f.2.1 p.f.2.2) (.slice p.c.1 p.c.2.1 p.c.2.2) (.slice p.x.1 p.x.2.1 p.x.2.2))):=Qal HB4.out (Nat.le_refl _) _ _ _ _ _ _ _ _ _
 have HRE:=hD (Qat HZ4.out (sv h) (.int .i64 p.k) (.slice p.b.1 p.b.2.1 p.b.2.2) (.int .i64 p.bn) (.slice p.s.1 p.s.2.1 p.s.2.2) (.slice p.i.1 p.i.2.1 p.i.2.2) (.slice p.f.1 p.f.2.1 p.f.2.2) (.slice p.c.1 p.c.2.1 p.c.2.2) (.slice p.x.1 p.x.2.1 p.x.2.2))
 obtain ⟨⟨y0,y1,y2,y3,y4,y5,y6,y7,y8⟩,yz⟩:=Qam HZ4.out
 obtain ⟨c0,c1,c2,c3,c4,c5,c6,c7,c8⟩:=HBX.out.c
 have hl1:w.heap.size < W.heap.size:=lt_blk HZ4.out
 clear hav hb3 hb4 HN
 rw [hW] at y0 y1 y2 y3 y4 y5 y6 y7 y8 yz hl1 c0 c1 c2 c3 c4 c5 c6 c7 c8
 have HWW:=hD hW.symm
 clear hW
 go_wp2
 rw [HWW.out]
 refine bodyPost_ret (v:=arrV h p) ?_ rfl ⟨h,p,rfl,HAV.out,HBE.out⟩
 exact Qfg (fn:=Tryz.f30) (p:=2) rfl _ _ w.heap.size (by rfl) HRE.out
theorem keyF_ex:∃ key:Nat->Int,∀ a b,TF a->TF b->cmpF a b=compare (key a) (key b):=by
 refine ⟨fun a=>@dite _ (TF a) (Classical.propDecidable _) (fun h=>sg h.choose h.choose_spec.choose) (fun _=>0),fun a b ha hb=>?_⟩
 dsimp only
 rw [dif_pos ha,dif_pos hb]
 obtain ⟨hz,e1,-⟩:=ha.choose_spec.choose_spec
 obtain ⟨hy,e2,-⟩:=hb.choose_spec.choose_spec
 have h:=Qbn ha.choose hb.choose hz hy
 rw [<- e1,<- e2] at h
 unfold cmpF
 rw [h]
 rfl
noncomputable def keyF:Nat->Int:=keyF_ex.choose
noncomputable def kE:RI->Int
 | .mk kind num char _=>if kind=0 then keyF num else char
noncomputable def ltE (x y:RI):Bool:=decide (kE x < kE y)
def pkA (s:List Nat) (a:PA) (idx:List Nat):PA :=
 match a with
 | .nums _ l => .nums s (idx.map fun i=>l.getD i 0)
 | .chars _ l => .chars s (idx.map fun i=>l.getD i 0)
 | .boxes _ l => .boxes s (idx.map fun i=>l.getD i default)
def oneA (z:Int):PA := .nums [] [fi z]
noncomputable def cellsE (el:Nat->RI) (i k:Nat):Nat->Nat->Int
 | 0,_=>0
 | m+1,j=>if ltE (el (i+j)) (el (k+j)) then -1 else if ltE (el (k+j)) (el (i+j)) then 1 else cellsE el i k m (j+1)
theorem Qfs {fn:Func}{p u:Tmp} (h:fn.results=#[.cell p 25,.tmp u]) (tmps:Array Value) (w:World) (G:Nat){e:TypeId}{a0 a1 a2:Value}
  (hp:tmps.getD p undef= .pointer (some ⟨G,0,none⟩)) (hg:w.heap[G]?=some (.cells #[a0,a1,a2] e)) :
  (results fn tmps).run Tryz.prog w= .ok (.tuple #[.agg #[a0,a1,a2],tmps.getD u undef]) w:=by
 rw [results_cell_tmp h,hp]
 have:=run_loadVar_row (P:=Tryz.prog) w G e 25 _ (0,0) _ hg Tryz.underlying25 rfl Qd6
 simp [asAddr,Result.andThen,this]
theorem P1.up {w W W':World}{h x:Sl}{f:Int} (s:P1 w W h x f) (hb:Below (w.heap.size+2) W W'):P1 w W' h x f:=⟨s.one.of fun j=>World.cell?_of_block (w:=W) (hb.block w.heap.size (by omega)),by rw [hb.block _ (by omega)];exact s.res,s.bel.trans (hb.mono (by omega))⟩
structure PB (w W:World) (h x:Sl) (f:Int):Prop where
 one:At3 W w.heap.size 0 h x f
 bel:Below w.heap.size w W
theorem PB.new (w:World) (h x:Sl) (f:Int):PB w (w.alloc (plO h x f)) h x f:=⟨Qbd w h x f,bel1 w _⟩
theorem PB.step {w W W':World}{h x:Sl}{f:Int} (s:PB w W h x f) (hb:Below W.heap.size W W'):PB w W' h x f:=⟨At3.belowP s.one hb,Qaa s.bel hb⟩
theorem PB.up {w W W':World}{h x:Sl}{f:Int} (s:PB w W h x f) (hb:Below (w.heap.size+1) W W'):PB w W' h x f:=⟨s.one.of fun j=>World.cell?_of_block (w:=W) (hb.block w.heap.size (by omega)),s.bel.trans (hb.mono (by omega))⟩
end Go.Proofs.YtdelgpelkfndeaaGreatDoor
