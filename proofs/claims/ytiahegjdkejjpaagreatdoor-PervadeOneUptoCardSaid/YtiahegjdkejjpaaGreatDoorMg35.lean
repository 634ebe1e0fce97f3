/- The walk of pervade.Two over a contract of boxes. The walks of the reference's Same and Item at plain arrays that are .. Conditions: as each theorem says. -/
import Derived.Test.YtiahegjdkejjpaaGreatDoorMg34
import Derived.Test.YtiahegjdkejjpaaGreatDoorMg31
import Derived.Test.YtiahegjdkejjpaaGreatDoorMg28
import Derived.Test.YtiahegjdkejjpaaGreatDoorMg09
import Derived.StillTailTactics
set_option maxRecDepth 100000
set_option maxHeartbeats 4000000
namespace Go.Proofs.YtiahegjdkejjpaaGreatDoor
open Go Go.RowKit Go.Proofs Fl
structure A3 (w W:World) (h1:Sl) (p:V8) (h2:Sl) (q:V8):Prop where
 one:At9 W w.heap.size 0 h1 p
 two:At9 W (w.heap.size+1) 0 h2 q
 res:W.heap[w.heap.size+2]?=some zeroO
 bel:Below w.heap.size w W
theorem A3.step {w W W':World}{h1 h2:Sl}{p q:V8} (h:A3 w W h1 p h2 q) (hb:Below W.heap.size W W'):A3 w W' h1 p h2 q:=⟨h.one.below hb,h.two.below hb,by rw [hb.block _ (lt_blk h.res)];exact h.res,bel_both h.bel hb⟩
theorem A3.sz {w W:World}{h1 h2:Sl}{p q:V8} (h:A3 w W h1 p h2 q):w.heap.size+3<=W.heap.size:=lt_blk h.res
theorem A3.new (w:World) (h1 h2:Sl) (p q:V8):A3 w (((w.alloc (arrO h1 p)).alloc (arrO h2 q)).alloc zeroO) h1 p h2 q:=by
 have g:=A2.new w h1 h2 p q
 have h3:=heap_alloc_new ((w.alloc (arrO h1 p)).alloc (arrO h2 q)) zeroO
 have e:((w.alloc (arrO h1 p)).alloc (arrO h2 q)).heap.size=w.heap.size+2:=by simp
 rw [e] at h3
 have g2:=g.step (bel1 _ zeroO)
 exact ⟨g2.one,g2.two,h3,g2.bel⟩
def TwR (H:Nat->Prop) (w:World) (r:Int×PA) (e:Ending) (w':World):Prop :=
 (r.1=0/\∃ (h:Sl) (u:V8),e= .returned (.tuple #[arrV h u,.int .i64 0])/\AV H w' r.2 h u/\Below w.heap.size w w')\/(r.1≠0/\e= .returned (.tuple #[arrV nilS zeroP,.int .i64 r.1])/\Below w.heap.size w w')
theorem twR_ok {H:Nat->Prop}{w w':World}{r:Int×PA}{h:Sl}{u:V8} (h0:r.1=0) (ha:AV H w' r.2 h u) (hb:Below w.heap.size w w'):TwR H w r (.returned (.tuple #[arrV h u,.int .i64 0])) w' := .inl ⟨h0,h,u,rfl,ha,hb⟩
theorem twR_err {H:Nat->Prop}{w w':World}{r:Int×PA}{E:Int} (h0:r.1=E) (hE:E≠0) (hb:Below w.heap.size w w'):TwR H w r (.returned (.tuple #[arrV nilS zeroP,.int .i64 E])) w' := .inr ⟨by rw [h0];exact hE,by rw [h0],hb⟩
theorem clSh_now (H:Nat->Prop){w:World}{h:Sl}{s:List Nat} (g:Reads1 w (sv h) (s.map fun n:Nat => .int .i64 (n:Int))) (hl:s.length<=1048576) (hH:∀ b,H b->b < w.heap.size) :
  Calls Tryz.prog 60 #[sv h] w fun e w'=>∃ A n c,e= .returned (.slice A n c)/\ShV H w' (A,n,c) s/\Below w.heap.size w w':=by
 refine (clI_any g (by rw [List.length_map];omega) (by intro u hu;obtain ⟨z,_,rfl⟩:=List.mem_map.1 hu;rfl)).mono ?_
 rintro e w' ⟨v',rfl,ho,hb⟩
 obtain ⟨a,c,rfl⟩:=ho.reads.len
 exact ⟨a,_,c,rfl,ho.keepsH hH,hb⟩
structure LdV (w0:World) (V G:Nat) (u:V8) (W:World):Prop where
 one:BoxP W V u
 res:W.heap[G]?=some zeroO
 bel:Below w0.heap.size w0 W
theorem LdV.step {w0 W W':World}{V G:Nat}{u:V8} (h:LdV w0 V G u W) (hb:Below W.heap.size W W'):LdV w0 V G u W':=⟨h.one.below hb,by rw [hb.block _ (lt_blk h.res)];exact h.res,bel_both h.bel hb⟩
theorem LdV.dr {w0 W:World}{V G:Nat}{u:V8} (h:LdV w0 V G u W):LdV w0 V G u W.drew:=h.step (Below.refl _ W).drew
theorem LdV.self {w0 W:World}{V G:Nat}{u:V8} (h:LdV w0 V G u W):LdV w0 V G u W:=h
def BV (V:Nat) (u:V8) (W:World):Prop:=BoxP W V u
theorem BV.dr {W:World}{V:Nat}{u:V8} (h:BV V u W):BV V u W.drew:=Boxed.below h (Below.refl _ W).drew
theorem BV.put {W:World}{V:Nat}{u:V8} (h:BV V u W){g j:Nat} (hg:g≠V) (x:Value):BV V u (W.setCell ⟨g,j,none⟩ x):=Boxed.set h hg x
theorem bv_s {W:World}{V:Nat}{u:V8} (h:BV V u W):(W.cell? ⟨V,0,none⟩=some (.int .i64 u.k)/\W.cell? ⟨V,1,none⟩=some (.slice u.b.1 u.b.2.1 u.b.2.2)/\W.cell? ⟨V,2,none⟩=some (.int .i64 u.bn)/\W.cell? ⟨V,3,none⟩=some (.slice u.s.1 u.s.2.1 u.s.2.2)/\W.cell? ⟨V,4,none⟩=some (.slice u.i.1 u.i.2.1 u.i.2.2)/\W.cell? ⟨V,5,none⟩=some (.slice u.f.1 u.f.2.1 u.f.2.2)/\W.cell? ⟨V,6,none⟩=some (.slice u.c.1 u.c.2.1 u.c.2.2)/\W.cell? ⟨V,7,none⟩=some (.slice u.x.1 u.x.2.1 u.x.2.2))/\BV V u W:=⟨h,h⟩
noncomputable def flatR (f:Int) (a b:PA):Int×PA:=if (flatE f a b).1≠0 then ((flatE f a b).1,default) else (0,.nums (frameE a b).2 (flatE f a b).2)
theorem two_flat {H Ha Hb:Nat->Prop} (f:Int) (hk:knownB f=true){a b:PA}{h1 h2:Sl}{p q:V8} (w:World) (hH:∀ b,H b->b < w.heap.size) (hHa:∀ b,Ha b->b < w.heap.size) (hHb:∀ b,Hb b->b < w.heap.size) (ga:AV Ha w a h1 p) (gb:AV Hb w b h2 q) (sa:a.shape.length<=1048576) (sb:b.shape.length<=1048576) (fa:a.fill≠2) (fb:b.fill≠2) (hfr:(frameE a b).1=0)
  (hL:lenP a.len b.len=some (lenE a b)) (hm:a.len<=1000000) (hn:b.len<=1000000) :
  Calls Tryz.prog 55 #[.int .i64 f,arrV h1 p,arrV h2 q] w (TwR H w (flatR f a b)):=by
 have HKN:=Lib.hid (fun W=>known_any f W)
 rw [hk] at HKN
 have HFR:=Lib.hid (fun W (hs:A3 w W h1 p h2 q)=>frame_any W (AV.step ga hs.bel) (AV.step gb hs.bel) sa sb)
 have HCA:=Lib.hid (fun W (hs:A3 w W h1 p h2 q)=>av_class ga W hs.bel)
 have HCB:=Lib.hid (fun W (hs:A3 w W h1 p h2 q)=>av_class gb W hs.bel)
 have HTW:=Lib.hid (fun W H' (hs:A3 w W h1 p h2 q) (hH':∀ b,H' b->b < W.heap.size)=>ftwo_any (H:=H') f hk W hH' (AV.step ga hs.bel) (AV.step gb hs.bel) fa fb hL hm hn)
 have HSA:=Lib.hid ga.shp
 have HSB:=Lib.hid gb.shp
 have HLA:=Lib.hid sa
 have HLB:=Lib.hid sb
 have HH:=Lib.hid hH
 have HHA:=Lib.hid hHa
 have HHB:=Lib.hid hHb
 have HS0:=Lib.hid (A3.new w h1 h2 p q)
 have xa:((a.fill:Int)==2)=false:=by simp;omega
 have xb:((b.fill:Int)==2)=false:=by simp;omega
 unfold FrR at HFR
 unfold FltOut ZeroE at HTW
 have HR:=Lib.hid (show flatR f a b=if (flatE f a b).1≠0 then ((flatE f a b).1,default) else (0,.nums (frameE a b).2 (flatE f a b).2) from rfl)
 generalize flatR f a b=r at HR ⊢
 generalize flatE f a b=fl at HTW HR
 generalize a.fill=za at HCA xa
 generalize b.fill=zb at HCB xb
 clear ga gb hH hHa hHb fa fb hk hL hm hn sa sb
 go_enter Tryz.func55,Tryz.ntmps55
 go_wp2_with fail
 refine (HKN.out _).mono ?_
 rintro e w1 ⟨rfl,hw1⟩
 rw [hw1] at HS0
 clear hw1
 obtain ⟨c0,c1,c2,c3,c4,c5,c6,c7,c8⟩:=HS0.out.one.c
 obtain ⟨g0,g1,g2,g3,g4,g5,g6,g7,g8⟩:=HS0.out.two.c
 go_wp2_with fail
 refine (HFR.out _ HS0.out).mono ?_
 clear c0 c1 c2 c3 c4 c5 c6 c7 c8 g0 g1 g2 g3 g4 g5 g6 g7 g8
 rintro e w2 ⟨⟨_,s,rfl,hs⟩ | ⟨hne,_⟩,hb2⟩
 ·have HS2:=Lib.hid (HS0.out.step hb2)
  have HSH:Hid (Keeps (fun b=>H b\/b=w.heap.size+2) w (fun W=>True)/\∃ Hs:Nat->Prop,(∀ b,Hs b->b < w.heap.size)/\ShV Hs w s (frameE a b).2/\(frameE a b).2.length<=1048576):=by
   refine ⟨fun _ _ _=>trivial,?_⟩
   rcases hs with ⟨rfl,h⟩ | ⟨rfl,h⟩
   ·exact ⟨Ha,HHA.out,by rw [h];exact HSA.out,by rw [h];exact HLA.out⟩
   ·exact ⟨Hb,HHB.out,by rw [h];exact HSB.out,by rw [h];exact HLB.out⟩
  obtain ⟨_,Hs,hHs,hsv,hsl⟩:=HSH.out
  have HSV:=Lib.hid hsv
  have HHS:=Lib.hid hHs
  have HSL:=Lib.hid hsl
  clear hs hb2 HSH HS0 HFR HSA HSB hHs hsv hsl hfr
  generalize (frameE a b).2=sh at *
  obtain ⟨c0,c1,c2,c3,c4,c5,c6,c7,c8⟩:=HS2.out.one.c
  go_wp2_with fail
  refine (HCA.out _ HS2.out).mono ?_
  rintro e w3 ⟨rfl,hb⟩
  have HS3:=Lib.hid (HS2.out.step hb)
  clear hb c0 c1 c2 c3 c4 c5 c6 c7 c8 HS2
  obtain ⟨g0,g1,g2,g3,g4,g5,g6,g7,g8⟩:=HS3.out.two.c
  go_wp2_with fail
  refine (HCB.out _ HS3.out).mono ?_
  rintro e w4 ⟨rfl,hb⟩
  have HS4:=Lib.hid (HS3.out.step hb)
  clear hb g0 g1 g2 g3 g4 g5 g6 g7 g8 HS3
  obtain ⟨c0,c1,c2,c3,c4,c5,c6,c7,c8⟩:=HS4.out.one.c
  obtain ⟨g0,g1,g2,g3,g4,g5,g6,g7,g8⟩:=HS4.out.two.c
  go_wp2_with fail
  refine (HTW.out _ (fun b=>H b\/b=w.heap.size+2) HS4.out (fun b e=>by
   have h9:=HS4.out.sz
   rcases e with e | e
   ·have:=HH.out b e;omega
   ·omega)).mono ?_
  clear c0 c1 c2 c3 c4 c5 c6 c7 c8 g0 g1 g2 g3 g4 g5 g6 g7 g8
  rintro e w5 (⟨he,u,rfl,hu,hb⟩ | ⟨he,rfl,hb⟩)
  ·have HS5:=Lib.hid (HS4.out.step hb)
   have HU:=Lib.hid hu
   have HE:=Lib.hid he
   have HS6:=Lib.hid (HS5.out.step (bel1 w5 u.o))
   have HV:=Lib.hid (boxP_new w5 u)
   obtain ⟨w6,hw6⟩:∃ w6,w6=w5.alloc u.o:=⟨_,rfl⟩
   have HW6:=Lib.hid hw6
   rw [<- hw6] at HS6 HV
   have HLD:Hid (LdV w6 w5.heap.size (w.heap.size+2) u w6):=⟨HV.out,HS6.out.res,Below.refl _ _⟩
   have HUN:Hid (NumA (fun b=>H b\/b=w.heap.size+2) w6 u fl.2):=by
    rw [hw6]
    exact hu.lat (Lat.below (bel1 w5 _))
   clear hb hu he hw6 HU HS4
   have HCL:=Lib.hid (fun W (hs:LdV w6 w5.heap.size (w.heap.size+2) u W)=>clSh_now (fun b=>H b\/b=w.heap.size+2) (w:=W) (h:=s) (s:=sh) ((HSV.out.lat (Lat.below (bel_both HS6.out.bel hs.bel))).now) HSL.out (fun b e=>by
    have h9:=HS6.out.sz
    have h10:=hs.bel.size
    rcases e with e | e
    ·have:=HH.out b e;omega
    ·omega))
   have HFL:Hid (r.1=0/\r.2= .nums sh fl.2):=by unfold Hid;rw [HR.out,if_neg (by simpa using HE.out)];exact ⟨rfl,rfl⟩
   have ne:(fl.1 != 0)=false:=by simpa using HE.out
   have HGV:Hid (w.heap.size+1+1≠w5.heap.size):=by have h9:=HS5.out.sz;unfold Hid;omega
   clear HR HS5 HTW HCA HCB HSV HHS HSL HHA HHB HLA HLB
   go_wp2_with fail
   rw [<- HW6.out]
   have hs0:=HLD.out.dr
   have hs00:=HLD.out
   have hv0:BV w5.heap.size u w6.drew:=hs0.one
   have hv00:BV w5.heap.size u w6:=hs00.one
   have hGV:w.heap.size+1+1≠w5.heap.size:=HGV.out
   go_region_held3 (fun W=>(W.cell? ⟨w5.heap.size,0,none⟩=some (.int .i64 u.k)/\W.cell? ⟨w5.heap.size,1,none⟩=some (.slice u.b.1 u.b.2.1 u.b.2.2)/\W.cell? ⟨w5.heap.size,2,none⟩=some (.int .i64 u.bn)/\W.cell? ⟨w5.heap.size,3,none⟩=some (.slice u.s.1 u.s.2.1 u.s.2.2)/\W.cell? ⟨w5.heap.size,4,none⟩=some (.slice u.i.1 u.i.2.1 u.i.2.2)/\W.cell? ⟨w5.heap.size,5,none⟩=some (.slice u.f.1 u.f.2.1 u.f.2.2)/\W.cell? ⟨w5.heap.size,6,none⟩=some (.slice u.c.1 u.c.2.1 u.c.2.2)/\W.cell? ⟨w5.heap.size,7,none⟩=some (.slice u.x.1 u.x.2.1 u.x.2.2))/\BV w5.heap.size u W)
    (first | (with_reducible assumption) | (with_reducible (refine bv_s ?_);repeat (first | (with_reducible assumption) | (with_reducible refine BV.dr ?_) | (with_reducible refine BV.put ?_ (by first | assumption | omega) _))))
    (first
     | (go_at_call 60;(with_reducible refine (HCL.out _ ?_).mono ?_);exact LdV.self (by repeat (first | (with_reducible assumption) | (with_reducible refine LdV.dr ?_)));rintro e w7 ⟨A7,n7,c7,rfl,hsh7,hb7⟩;have hst7:LdV w6 w5.heap.size (w.heap.size+2) u w7:=LdV.step (by repeat (first | (with_reducible assumption) | (with_reducible refine LdV.dr ?_))) hb7;have hbv7:BV w5.heap.size u w7:=hst7.one;have HST7:=Lib.hid hst7;have HSH7:=Lib.hid hsh7;obtain ⟨⟨y0,y1,y2,y3,y4,y5,y6,y7,y8⟩,yz⟩:=zero_block hst7.res;clear hb7 hsh7))
   all_goals
    go_wp2
    refine bodyPost_ret (v := .tuple #[arrV (A7,n7,c7) u,.int .i64 0]) ?_ rfl (twR_ok HFL.out.1 ?_ (below_set9 (bel_both HS6.out.bel HST7.out.bel) (Nat.le_add_right _ 2) _ _ _ _ _ _ _ _ _))
    ·exact ret_arr2 (fn:=Tryz.f55) (p:=6) (u:=7) rfl _ _ (w.heap.size+2) (by rfl) (set9_block HST7.out.res _ _ _ _ _ _ _ _ _)
    ·rw [HFL.out.2]
     refine AV.sub (fun b _ e => .inl e) (AV.lat (H:=fun b=>H b\/b=w.heap.size+2) (Lat.set9 (G:=w.heap.size+2) (.inr rfl) _ _ _ _ _ _ _ _ _) (w:=w7) ?_)
     rw [AV]
     exact ⟨HSH7.out,HUN.out.lat (Lat.below HST7.out.bel)⟩
  ·have HS5:=Lib.hid (HS4.out.step hb)
   have HE:=Lib.hid he
   have HS6:=Lib.hid (HS5.out.step (bel1 w5 (.cells zcells 37)))
   have ne:(fl.1 != 0)=true:=by simpa using he
   have HFL:Hid (r.1=fl.1):=by unfold Hid;rw [HR.out,if_pos he]
   clear hb he HS4 HS5 HTW HCA HCB HSV HHS HSL HHA HHB HLA HLB HR
   obtain ⟨⟨y0,y1,y2,y3,y4,y5,y6,y7,y8⟩,yz⟩:=zero_block HS6.out.res
   go_wp2
   refine bodyPost_ret (v := .tuple #[arrV nilS zeroP,.int .i64 fl.1]) ?_ rfl (twR_err HFL.out HE.out (below_set9 HS6.out.bel (Nat.le_add_right _ 2) _ _ _ _ _ _ _ _ _))
   exact ret_arr2 (fn:=Tryz.f55) (p:=6) (u:=7) rfl _ _ (w.heap.size+2) (by rfl) (set9_block HS6.out.res _ _ _ _ _ _ _ _ _)
 ·exact absurd hfr hne
theorem two_unknown (H:Nat->Prop) (f:Int) (hk:knownB f=false) (h1 h2:Sl) (p q:V8) (r:Int×PA) (hr:r.1=1) (w:World) :
  Calls Tryz.prog 55 #[.int .i64 f,arrV h1 p,arrV h2 q] w (TwR H w r):=by
 have HKN:=Lib.hid (fun W=>known_any f W)
 rw [hk] at HKN
 have HS0:=Lib.hid (A3.new w h1 h2 p q)
 have HFL:=Lib.hid hr
 clear hk hr
 go_enter Tryz.func55,Tryz.ntmps55
 go_wp2_with fail
 refine (HKN.out _).mono ?_
 rintro e w1 ⟨rfl,hw1⟩
 rw [hw1] at HS0
 clear hw1
 obtain ⟨⟨y0,y1,y2,y3,y4,y5,y6,y7,y8⟩,yz⟩:=zero_block HS0.out.res
 go_wp2
 refine bodyPost_ret (v := .tuple #[arrV nilS zeroP,.int .i64 1]) ?_ rfl (twR_err HFL.out (by decide) (below_set9 HS0.out.bel (Nat.le_add_right _ 2) _ _ _ _ _ _ _ _ _))
 exact ret_arr2 (fn:=Tryz.f55) (p:=6) (u:=7) rfl _ _ (w.heap.size+2) (by rfl) (set9_block HS0.out.res _ _ _ _ _ _ _ _ _)
theorem two_frame {H Ha Hb:Nat->Prop} (f:Int) (hk:knownB f=true){a b:PA}{h1 h2:Sl}{p q:V8} (r:Int×PA) (hr:r.1=(frameE a b).1) (w:World) (ga:AV Ha w a h1 p) (gb:AV Hb w b h2 q) (sa:a.shape.length<=1048576) (sb:b.shape.length<=1048576) (hfr:(frameE a b).1≠0) :
  Calls Tryz.prog 55 #[.int .i64 f,arrV h1 p,arrV h2 q] w (TwR H w r):=by
 have HKN:=Lib.hid (fun W=>known_any f W)
 rw [hk] at HKN
 have HFR:=Lib.hid (fun W (hs:A3 w W h1 p h2 q)=>frame_any W (AV.step ga hs.bel) (AV.step gb hs.bel) sa sb)
 have HS0:=Lib.hid (A3.new w h1 h2 p q)
 unfold FrR at HFR
 have HFL:=Lib.hid hr
 have HNE:=Lib.hid hfr
 have ne:((frameE a b).1 != 0)=true:=by simpa using hfr
 generalize (frameE a b).1=E at *
 clear ga gb hk sa sb hr hfr
 go_enter Tryz.func55,Tryz.ntmps55
 go_wp2_with fail
 refine (HKN.out _).mono ?_
 rintro e w1 ⟨rfl,hw1⟩
 rw [hw1] at HS0
 clear hw1
 obtain ⟨c0,c1,c2,c3,c4,c5,c6,c7,c8⟩:=HS0.out.one.c
 obtain ⟨g0,g1,g2,g3,g4,g5,g6,g7,g8⟩:=HS0.out.two.c
 go_wp2_with fail
 refine (HFR.out _ HS0.out).mono ?_
 clear c0 c1 c2 c3 c4 c5 c6 c7 c8 g0 g1 g2 g3 g4 g5 g6 g7 g8
 rintro e w2 ⟨⟨h0,_⟩ | ⟨_,rfl⟩,hb2⟩
 ·exact absurd h0 HNE.out
 ·have HS2:=Lib.hid (HS0.out.step hb2)
  clear hb2 HS0 HFR
  obtain ⟨⟨y0,y1,y2,y3,y4,y5,y6,y7,y8⟩,yz⟩:=zero_block HS2.out.res
  go_wp2
  refine bodyPost_ret (v := .tuple #[arrV nilS zeroP,.int .i64 E]) ?_ rfl (twR_err HFL.out HNE.out (below_set9 HS2.out.bel (Nat.le_add_right _ 2) _ _ _ _ _ _ _ _ _))
  exact ret_arr2 (fn:=Tryz.f55) (p:=6) (u:=7) rfl _ _ (w.heap.size+2) (by rfl) (set9_block HS2.out.res _ _ _ _ _ _ _ _ _)
theorem two_box {H Ha Hb:Nat->Prop} (f:Int) (hk:knownB f=true){a b:PA}{h1 h2:Sl}{p q:V8} (r:Int×PA) (w:World) (hH:∀ b,H b->b < w.heap.size) (ga:AV Ha w a h1 p) (gb:AV Hb w b h2 q) (sa:a.shape.length<=1048576) (sb:b.shape.length<=1048576) (hfr:(frameE a b).1=0) (hf:a.fill=2\/(a.fill≠2/\b.fill=2))
  (hbx:∀ (W:World) (H':Nat->Prop) (s:Sl),Below w.heap.size w W->(∀ b,H' b->b < W.heap.size)->((s=h1/\(frameE a b).2=a.shape)\/(s=h2/\(frameE a b).2=b.shape))->Calls Tryz.prog 119 #[.int .i64 f,arrV h1 p,arrV h2 q,sv s] W (TwR H' W r)) :
  Calls Tryz.prog 55 #[.int .i64 f,arrV h1 p,arrV h2 q] w (TwR H w r):=by
 have HKN:=Lib.hid (fun W=>known_any f W)
 rw [hk] at HKN
 have HFR:=Lib.hid (fun W (hs:A3 w W h1 p h2 q)=>frame_any W (AV.step ga hs.bel) (AV.step gb hs.bel) sa sb)
 have HCA:=Lib.hid (fun W (hs:A3 w W h1 p h2 q)=>av_class ga W hs.bel)
 have HCB:=Lib.hid (fun W (hs:A3 w W h1 p h2 q)=>av_class gb W hs.bel)
 have HBX:=Lib.hid hbx
 have HH:=Lib.hid hH
 have HS0:=Lib.hid (A3.new w h1 h2 p q)
 have xf:((a.fill:Int)==2)=true\/(((a.fill:Int)==2)=false/\((b.fill:Int)==2)=true):=by
  rcases hf with h | ⟨h,h'⟩
  ·left;rw [h];rfl
  ·right;exact ⟨by simp;omega,by rw [h'];rfl⟩
 unfold FrR at HFR
 unfold TwR at HBX
 generalize a.fill=za at HCA xf
 generalize b.fill=zb at HCB xf
 clear ga gb hH hf hk sa sb hbx
 go_enter Tryz.func55,Tryz.ntmps55
 go_wp2_with fail
 refine (HKN.out _).mono ?_
 rintro e w1 ⟨rfl,hw1⟩
 rw [hw1] at HS0
 clear hw1
 obtain ⟨c0,c1,c2,c3,c4,c5,c6,c7,c8⟩:=HS0.out.one.c
 obtain ⟨g0,g1,g2,g3,g4,g5,g6,g7,g8⟩:=HS0.out.two.c
 go_wp2_with fail
 refine (HFR.out _ HS0.out).mono ?_
 clear c0 c1 c2 c3 c4 c5 c6 c7 c8 g0 g1 g2 g3 g4 g5 g6 g7 g8
 rintro e w2 ⟨⟨_,s,rfl,hs⟩ | ⟨hne,_⟩,hb2⟩
 ·have HS2:=Lib.hid (HS0.out.step hb2)
  have HSS:=Lib.hid hs
  clear hs hb2 HS0 HFR hfr
  obtain ⟨c0,c1,c2,c3,c4,c5,c6,c7,c8⟩:=HS2.out.one.c
  rcases xf with xa | ⟨xa,xb⟩
  ·go_wp2_with fail
   refine (HCA.out _ HS2.out).mono ?_
   rintro e w3 ⟨rfl,hb⟩
   have HS3:=Lib.hid (HS2.out.step hb)
   clear hb c0 c1 c2 c3 c4 c5 c6 c7 c8 HS2
   obtain ⟨c0,c1,c2,c3,c4,c5,c6,c7,c8⟩:=HS3.out.one.c
   obtain ⟨g0,g1,g2,g3,g4,g5,g6,g7,g8⟩:=HS3.out.two.c
   go_wp2_with fail
   refine (HBX.out _ (fun b=>H b\/b=w.heap.size+2) s HS3.out.bel (fun b e=>by
    have h9:=HS3.out.sz
    rcases e with e | e
    ·have:=HH.out b e;omega
    ·omega) HSS.out).mono ?_
   clear c0 c1 c2 c3 c4 c5 c6 c7 c8 g0 g1 g2 g3 g4 g5 g6 g7 g8
   rintro e w5 (⟨hr0,h5,u5,rfl,hav,hb⟩ | ⟨hr0,rfl,hb⟩)
   ·have HS5:=Lib.hid (HS3.out.step hb)
    have HR0:=Lib.hid hr0
    have HAV:Hid (AV H (set9 w5 (w.heap.size+2) (sv h5) (.int .i64 u5.k) (sv u5.b) (.int .i64 u5.bn) (sv u5.s) (sv u5.i) (sv u5.f) (sv u5.c) (sv u5.x)) r.2 h5 u5):=AV.sub (fun b _ e => .inl e) (AV.lat (Lat.set9 (G:=w.heap.size+2) (.inr rfl) _ _ _ _ _ _ _ _ _) hav)
    clear hb hr0 hav
    obtain ⟨⟨y0,y1,y2,y3,y4,y5,y6,y7,y8⟩,yz⟩:=zero_block HS5.out.res
    go_wp2
    refine bodyPost_ret (v := .tuple #[arrV h5 u5,.int .i64 0]) ?_ rfl (twR_ok HR0.out HAV.out (below_set9 HS5.out.bel (Nat.le_add_right _ 2) _ _ _ _ _ _ _ _ _))
    exact ret_arr2 (fn:=Tryz.f55) (p:=6) (u:=7) rfl _ _ (w.heap.size+2) (by rfl) (set9_block HS5.out.res _ _ _ _ _ _ _ _ _)
   ·have HS5:=Lib.hid (HS3.out.step hb)
    have HR0:=Lib.hid hr0
    clear hb hr0
    obtain ⟨⟨y0,y1,y2,y3,y4,y5,y6,y7,y8⟩,yz⟩:=zero_block HS5.out.res
    go_wp2
    refine bodyPost_ret (v := .tuple #[arrV nilS zeroP,.int .i64 r.1]) ?_ rfl (twR_err rfl HR0.out (below_set9 HS5.out.bel (Nat.le_add_right _ 2) _ _ _ _ _ _ _ _ _))
    exact ret_arr2 (fn:=Tryz.f55) (p:=6) (u:=7) rfl _ _ (w.heap.size+2) (by rfl) (set9_block HS5.out.res _ _ _ _ _ _ _ _ _)
  ·go_wp2_with fail
   refine (HCA.out _ HS2.out).mono ?_
   rintro e w3 ⟨rfl,hb⟩
   have HS3:=Lib.hid (HS2.out.step hb)
   clear hb c0 c1 c2 c3 c4 c5 c6 c7 c8 HS2
   obtain ⟨g0,g1,g2,g3,g4,g5,g6,g7,g8⟩:=HS3.out.two.c
   go_wp2_with fail
   refine (HCB.out _ HS3.out).mono ?_
   rintro e w4 ⟨rfl,hb⟩
   have HS4:=Lib.hid (HS3.out.step hb)
   clear hb g0 g1 g2 g3 g4 g5 g6 g7 g8 HS3
   obtain ⟨c0,c1,c2,c3,c4,c5,c6,c7,c8⟩:=HS4.out.one.c
   obtain ⟨g0,g1,g2,g3,g4,g5,g6,g7,g8⟩:=HS4.out.two.c
   go_wp2_with fail
   refine (HBX.out _ (fun b=>H b\/b=w.heap.size+2) s HS4.out.bel (fun b e=>by
    have h9:=HS4.out.sz
    rcases e with e | e
    ·have:=HH.out b e;omega
    ·omega) HSS.out).mono ?_
   clear c0 c1 c2 c3 c4 c5 c6 c7 c8 g0 g1 g2 g3 g4 g5 g6 g7 g8
   rintro e w5 (⟨hr0,h5,u5,rfl,hav,hb⟩ | ⟨hr0,rfl,hb⟩)
   ·have HS5:=Lib.hid (HS4.out.step hb)
    have HR0:=Lib.hid hr0
    have HAV:Hid (AV H (set9 w5 (w.heap.size+2) (sv h5) (.int .i64 u5.k) (sv u5.b) (.int .i64 u5.bn) (sv u5.s) (sv u5.i) (sv u5.f) (sv u5.c) (sv u5.x)) r.2 h5 u5):=AV.sub (fun b _ e => .inl e) (AV.lat (Lat.set9 (G:=w.heap.size+2) (.inr rfl) _ _ _ _ _ _ _ _ _) hav)
    clear hb hr0 hav
    obtain ⟨⟨y0,y1,y2,y3,y4,y5,y6,y7,y8⟩,yz⟩:=zero_block HS5.out.res
    go_wp2
    refine bodyPost_ret (v := .tuple #[arrV h5 u5,.int .i64 0]) ?_ rfl (twR_ok HR0.out HAV.out (below_set9 HS5.out.bel (Nat.le_add_right _ 2) _ _ _ _ _ _ _ _ _))
    exact ret_arr2 (fn:=Tryz.f55) (p:=6) (u:=7) rfl _ _ (w.heap.size+2) (by rfl) (set9_block HS5.out.res _ _ _ _ _ _ _ _ _)
   ·have HS5:=Lib.hid (HS4.out.step hb)
    have HR0:=Lib.hid hr0
    clear hb hr0
    obtain ⟨⟨y0,y1,y2,y3,y4,y5,y6,y7,y8⟩,yz⟩:=zero_block HS5.out.res
    go_wp2
    refine bodyPost_ret (v := .tuple #[arrV nilS zeroP,.int .i64 r.1]) ?_ rfl (twR_err rfl HR0.out (below_set9 HS5.out.bel (Nat.le_add_right _ 2) _ _ _ _ _ _ _ _ _))
    exact ret_arr2 (fn:=Tryz.f55) (p:=6) (u:=7) rfl _ _ (w.heap.size+2) (by rfl) (set9_block HS5.out.res _ _ _ _ _ _ _ _ _)
 ·exact absurd hfr hne
mutual
def TfP:RP->Prop
 | .mk _ items _=>TfIs items
def TfIs:List RI->Prop
 | []=>True
 | t::ts=>TfI t/\TfIs ts
def TfI:RI->Prop
 | .mk _ n _ box=>TF n/\TfPs box
def TfPs:List RP->Prop
 | []=>True
 | t::ts=>TfP t/\TfPs ts
end
theorem tfIs_at:∀ {ts:List RI}{i:Nat} (hi:i < ts.length),TfIs ts->TfI ts[i]
 | [],_,hi,_=>by simp at hi
 | t::ts,0,_,h=>by rw [TfIs] at h;exact h.1
 | t::ts,i+1,hi,h=>by rw [TfIs] at h;simpa using tfIs_at (ts:=ts) (i:=i) (by simpa using hi) h.2
theorem tfIs_of:∀ (ts:List RI),(∀ i (hi:i < ts.length),TfI ts[i])->TfIs ts
 | [],_=>by rw [TfIs];trivial
 | t::ts,h=>by
  rw [TfIs]
  exact ⟨by have:=h 0 (by simp);simpa using this,tfIs_of ts fun i hi=>by have:=h (i+1) (by simpa using hi);simpa using this⟩
theorem tfPs_at:∀ {ts:List RP}{i:Nat} (hi:i < ts.length),TfPs ts->TfP ts[i]
 | [],_,hi,_=>by simp at hi
 | t::ts,0,_,h=>by rw [TfPs] at h;exact h.1
 | t::ts,i+1,hi,h=>by rw [TfPs] at h;simpa using tfPs_at (ts:=ts) (i:=i) (by simpa using hi) h.2
mutual
theorem tf_raw:∀ (d:Nat) (a:PA),GoodA d a->TfP (rawP a)
 | d,.nums s l,h=>by
  rw [rawP,TfP]
  rw [GoodA] at h
  refine tfIs_of _ fun i hi=>?_
  rw [List.getElem_map,TfI,TfPs]
  exact ⟨h.2.2 _ (List.getElem_mem _),trivial⟩
 | d,.chars s l,h=>by
  rw [rawP,TfP]
  refine tfIs_of _ fun i hi=>?_
  rw [List.getElem_map,TfI,TfPs]
  exact ⟨tf_zero,trivial⟩
 | d,.boxes s l,h=>by
  rw [GoodA] at h
  rw [rawP,TfP]
  exact tf_rawBs (d - 1) l h.2.2
theorem tf_rawBs:∀ (d:Nat) (l:List PA),GoodAs d l->TfIs (rawBs l)
 | _,[],_=>by rw [rawBs,TfIs];trivial
 | d,a::ar,h=>by
  rw [GoodAs] at h
  rw [rawBs,TfIs,TfI,TfPs,TfPs]
  exact ⟨⟨tf_zero,tf_raw d a h.1,trivial⟩,tf_rawBs d ar h.2⟩
end
mutual
def LnP:RP->Prop
 | .mk s items _=>s.length<=1048576/\items.length<=1048576/\LnIs items
def LnIs:List RI->Prop
 | []=>True
 | t::ts=>LnI t/\LnIs ts
def LnI:RI->Prop
 | .mk _ _ _ box=>box.length<=1048576/\LnPs box
def LnPs:List RP->Prop
 | []=>True
 | t::ts=>LnP t/\LnPs ts
end
theorem lnIs_at:∀ {ts:List RI}{i:Nat} (hi:i < ts.length),LnIs ts->LnI ts[i]
 | [],_,hi,_=>by simp at hi
 | t::ts,0,_,h=>by rw [LnIs] at h;exact h.1
 | t::ts,i+1,hi,h=>by rw [LnIs] at h;simpa using lnIs_at (ts:=ts) (i:=i) (by simpa using hi) h.2
theorem lnIs_of:∀ (ts:List RI),(∀ i (hi:i < ts.length),LnI ts[i])->LnIs ts
 | [],_=>by rw [LnIs];trivial
 | t::ts,h=>by
  rw [LnIs]
  exact ⟨by have:=h 0 (by simp);simpa using this,lnIs_of ts fun i hi=>by have:=h (i+1) (by simpa using hi);simpa using this⟩
theorem lnPs_at:∀ {ts:List RP}{i:Nat} (hi:i < ts.length),LnPs ts->LnP ts[i]
 | [],_,hi,_=>by simp at hi
 | t::ts,0,_,h=>by rw [LnPs] at h;exact h.1
 | t::ts,i+1,hi,h=>by rw [LnPs] at h;simpa using lnPs_at (ts:=ts) (i:=i) (by simpa using hi) h.2
mutual
theorem ln_raw:∀ (d:Nat) (a:PA),GoodA d a->SmA 1000000 a->LnP (rawP a)
 | d,.nums s l,h,hs=>by
  have h8:s.length<=8:=h.sh.2.1
  have hl:l.length<=1000000:=hs.len
  rw [rawP,LnP,List.length_map,List.length_map]
  refine ⟨by omega,by omega,lnIs_of _ fun i hi=>?_⟩
  rw [List.getElem_map,LnI,LnPs]
  exact ⟨by simp,trivial⟩
 | d,.chars s l,h,hs=>by
  have h8:s.length<=8:=h.sh.2.1
  have hl:l.length<=1000000:=hs.len
  rw [rawP,LnP,List.length_map,List.length_map]
  refine ⟨by omega,by omega,lnIs_of _ fun i hi=>?_⟩
  rw [List.getElem_map,LnI,LnPs]
  exact ⟨by simp,trivial⟩
 | d,.boxes s l,h,hs=>by
  have h8:s.length<=8:=h.sh.2.1
  have hl:l.length<=1000000:=hs.len
  rw [GoodA] at h
  rw [SmA] at hs
  rw [rawP,LnP,List.length_map,rawBs_len]
  exact ⟨by omega,by omega,ln_rawBs (d - 1) l h.2.2 hs.2⟩
theorem ln_rawBs:∀ (d:Nat) (l:List PA),GoodAs d l->SmAs 1000000 l->LnIs (rawBs l)
 | _,[],_,_=>by rw [rawBs,LnIs];trivial
 | d,a::ar,h,hs=>by
  rw [GoodAs] at h
  rw [SmAs] at hs
  rw [rawBs,LnIs,LnI,LnPs,LnPs]
  exact ⟨⟨by simp,ln_raw d a h.1 hs.1,trivial⟩,ln_rawBs d ar h.2 hs.2⟩
end
abbrev itO (k:Int) (n:Nat) (c:Int) (x:Sl):Obj := .cells #[.int .i64 k,.float .f64 n,.int .i32 c,.slice x.1 x.2.1 x.2.2] 59
abbrev plO (h x:Sl) (f:Int):Obj := .cells #[.slice h.1 h.2.1 h.2.2,.slice x.1 x.2.1 x.2.2,.int .i64 f] 25
theorem at4_c {w:World}{b:Nat}{k:Int}{n:Nat}{c:Int}{x:Sl} (g:At4 w b 0 k n c x):w.cell? ⟨b,0,none⟩=some (.int .i64 k)/\w.cell? ⟨b,1,none⟩=some (.float .f64 n)/\w.cell? ⟨b,2,none⟩=some (.int .i32 c)/\w.cell? ⟨b,3,none⟩=some (.slice x.1 x.2.1 x.2.2):=g
theorem at3_c {w:World}{b:Nat}{h x:Sl}{f:Int} (g:At3 w b 0 h x f):w.cell? ⟨b,0,none⟩=some (.slice h.1 h.2.1 h.2.2)/\w.cell? ⟨b,1,none⟩=some (.slice x.1 x.2.1 x.2.2)/\w.cell? ⟨b,2,none⟩=some (.int .i64 f):=g
theorem at4_box (w:World) (k:Int) (n:Nat) (c:Int) (x:Sl):At4 (w.alloc (itO k n c x)) w.heap.size 0 k n c x:=by
 have h:=block4 (heap_alloc_new w (itO k n c x))
 exact h.1
theorem at3_box (w:World) (h x:Sl) (f:Int):At3 (w.alloc (plO h x f)) w.heap.size 0 h x f:=by
 have g:=block3 (heap_alloc_new w (plO h x f))
 exact g.1
structure Two3 (w:World) (h x h' x':Sl) (f:Int) (W:World):Prop where
 one:At3 W w.heap.size 0 h x f
 two:At3 W (w.heap.size+1) 0 h' x' f
 bel:Below w.heap.size w W
theorem Two3.new (w:World) (h x h' x':Sl) (f:Int):Two3 w h x h' x' f ((w.alloc (plO h x f)).alloc (plO h' x' f)):=by
 have g:=at3_box (w.alloc (plO h x f)) h' x' f
 have e:(w.alloc (plO h x f)).heap.size=w.heap.size+1:=by simp
 rw [e] at g
 exact ⟨(at3_box w h x f).of fun j=>(bel1 _ _).cell (p:=⟨w.heap.size,j,none⟩) (by simp),g,bel2 _ _ _⟩
theorem Two3.step {w W W':World}{h x h' x':Sl}{f:Int} (g:Two3 w h x h' x' f W) (hb:Below W.heap.size W W'):Two3 w h x h' x' f W' :=
 ⟨g.one.of fun j=>hb.cell (p:=⟨w.heap.size,j,none⟩) g.one.lt,g.two.of fun j=>hb.cell (p:=⟨w.heap.size+1,j,none⟩) g.two.lt,bel_both g.bel hb⟩
structure Two4 (w:World) (k:Int) (n:Nat) (c:Int) (x x':Sl) (W:World):Prop where
 one:At4 W w.heap.size 0 k n c x
 two:At4 W (w.heap.size+1) 0 k n c x'
 bel:Below w.heap.size w W
theorem Two4.new (w:World) (k:Int) (n:Nat) (c:Int) (x x':Sl):Two4 w k n c x x' ((w.alloc (itO k n c x)).alloc (itO k n c x')):=by
 have g:=at4_box (w.alloc (itO k n c x)) k n c x'
 have e:(w.alloc (itO k n c x)).heap.size=w.heap.size+1:=by simp
 rw [e] at g
 exact ⟨(at4_box w k n c x).of fun j=>(bel1 _ _).cell (p:=⟨w.heap.size,j,none⟩) (by simp),g,bel2 _ _ _⟩
theorem Two4.step {w W W':World}{k:Int}{n:Nat}{c:Int}{x x':Sl} (g:Two4 w k n c x x' W) (hb:Below W.heap.size W W'):Two4 w k n c x x' W' :=
 ⟨g.one.of fun j=>hb.cell (p:=⟨w.heap.size,j,none⟩) g.one.lt,g.two.of fun j=>hb.cell (p:=⟨w.heap.size+1,j,none⟩) g.two.lt,bel_both g.bel hb⟩
def SameC (t:RP):Prop:=∀ (H H':Nat->Prop) (h x h' x':Sl) (f f':Int) (w:World),PV H w t h x f->PV H' w t h' x' f' ->
  Calls Tryz.prog 68 #[plV h x f,plV h' x' f'] w fun e w'=>e= .returned (.bool true)/\Below w.heap.size w w'
theorem ritem_any (kind:Int) (num:Nat) (char:Int) (box:List RP) (hnum:TF num) (hl:box.length<=1048576) (hih:∀ i (hi:i < box.length),SameC box[i]) (H H':Nat->Prop) (k:Int) (n:Nat) (c:Int) (x:Sl) (k':Int) (n':Nat) (c':Int) (x':Sl) (w:World)
  (hp:IV H w (.mk kind num char box) k n c x) (hq:IV H' w (.mk kind num char box) k' n' c' x') :
  Calls Tryz.prog 134 #[itV k n c x,itV k' n' c' x'] w fun e w'=>e= .returned (.bool true)/\Below w.heap.size w w':=by
 obtain ⟨rfl,rfl,rfl,hx,hk⟩:=hp.open_
 obtain ⟨rfl,rfl,rfl,hx',hk'⟩:=hq.open_
 obtain ⟨A,m,cc⟩:=x
 obtain ⟨A',m',cc'⟩:=x'
 dsimp only at hx hx' hk hk'
 obtain rfl:m'=m:=by omega
 have hmb:m'<=1048576:=by omega
 have HM:=Lib.hid hx
 have HK:=Lib.hid hk
 have HK':=Lib.hid hk'
 have HIH:=Lib.hid hih
 unfold SameC at HIH
 have HBT:=Lib.hid (fun W=>bits_tf hnum W)
 have HT0:=Lib.hid (Two4.new w k' n' c' (A,m',cc) (A',m',cc'))
 have e1:(k' != k')=false:=by simp
 have e2:(c' != c')=false:=by simp
 have e3:((m':Int) != (m':Int))=false:=by simp
 obtain ⟨W,hW⟩:∃ W,W=(w.alloc (itO k' n' c' (A,m',cc))).alloc (itO k' n' c' (A',m',cc')):=⟨_,rfl⟩
 have HW:=Lib.hid hW
 rw [<- hW] at HT0
 clear hp hq hx hx' hk hk' hih hnum hl hW
 go_enter Tryz.func134,Tryz.ntmps134
 go_wp2_with fail
 rw [<- HW.out]
 refine (HBT.out _).mono ?_
 rintro e w' ⟨rfl,rfl⟩
 obtain ⟨a0,a1,a2,a3⟩:=at4_c HT0.out.one
 obtain ⟨b0,b1,b2,b3⟩:=at4_c HT0.out.two
 dsimp only at a3 b3
 go_wp2
 clear a0 a1 a2 a3 b0 b1 b2 b3
 go_loopw [5,5] (fun _ iv wr=>∃ i:Nat,i<=m'/\iv= .int .i64 (i:Int)/\Below W.heap.size W wr) (fun _ iv _=>m' - (intOf iv).toNat)
 case atStart=>exact ⟨0,Nat.zero_le _,rfl,Below.refl _ _⟩
 case round =>
  obtain ⟨i,hi,rfl,hbl⟩:=hrel
  have HTR:=Lib.hid (HT0.out.step hbl)
  obtain ⟨a0,a1,a2,a3⟩:=at4_c HTR.out.one
  obtain ⟨b0,b1,b2,b3⟩:=at4_c HTR.out.two
  dsimp only at a3 b3
  have HBL:=Lib.hid hbl
  by_cases hlt:i < m'
  ·have h1:i < box.length:=by have:=HM.out;omega
   obtain ⟨b,o,p0,p1,p2,rfl,-,hpv,hce⟩:=HK.out i h1
   obtain ⟨b',o',r0,r1,r2,rfl,-,hpv',hce'⟩:=HK'.out i h1
   obtain ⟨c0,c1,c2⟩:=hce _ (Lat.below HTR.out.bel)
   obtain ⟨d0,d1,d2⟩:=hce' _ (Lat.below HTR.out.bel)
   dsimp only [sv] at c0 c1 c2 d0 d1 d2
   have HIC:=Lib.hid (HIH.out i h1 _ _ p0 p1 r0 r1 p2 r2 _ (hpv.step (bel_both HTR.out.bel (below_drewN (Below.refl wr.heap.size wr) 1))) (hpv'.step (bel_both HTR.out.bel (below_drewN (Below.refl wr.heap.size wr) 1))))
   have hlt2:(i:Int) < (m':Int):=by omega
   clear hbl hce hce' hpv hpv'
   go_wp2
   go_still_tail 10,(by kernel_rfl)
   change wpList _ _ _ _ _ (wr.drewN 1)
   have HB1:=Lib.hid (bel_both HBL.out (below_drewN (Below.refl wr.heap.size wr) 1))
   clear a0 a1 a2 a3 b0 b1 b2 b3 c0 c1 c2 d0 d1 d2
   generalize wr.drewN 1=wd at *
   go_wp2_with fail
   refine HIC.out.mono ?_
   rintro e w2 ⟨rfl,hb⟩
   have HB2:=Lib.hid (bel_both HB1.out hb)
   clear hb
   go_wp2
   go_roundw
   case rel=>exact ⟨i+1,by omega,by go_num,HB2.out⟩
   case measure=>simp [intOf];omega
  ·have hlt2:¬ (i:Int) < (m':Int):=by omega
   clear hbl
   go_wp2
   go_ret
   exact ⟨rfl,HTR.out.bel⟩
theorem rsame_step (s:List Int) (items:List RI) (fill:Int) (hs:s.length<=1048576) (hl:items.length<=1048576)
  (hih:∀ i (hi:i < items.length) (H H':Nat->Prop) (k:Int) (n:Nat) (c:Int) (x:Sl) (k':Int) (n':Nat) (c':Int) (x':Sl) (w:World),IV H w items[i] k n c x->IV H' w items[i] k' n' c' x' ->
   Calls Tryz.prog 134 #[itV k n c x,itV k' n' c' x'] w fun e w'=>e= .returned (.bool true)/\Below w.heap.size w w') :
  SameC (.mk s items fill):=by
 intro H H' h x h' x' f f' w hp hq
 obtain ⟨hsr,rfl,hx,hk⟩:=hp.open_
 obtain ⟨hsr',rfl,hx',hk'⟩:=hq.open_
 obtain ⟨A,m,cc⟩:=x
 obtain ⟨A',m',cc'⟩:=x'
 dsimp only at hx hx' hk hk'
 obtain rfl:m'=m:=by omega
 have hmb:m'<=1048576:=by omega
 have HM:=Lib.hid hx
 have HK:=Lib.hid hk
 have HK':=Lib.hid hk'
 have HIH:=Lib.hid hih
 have HT0:=Lib.hid (Two3.new w h (A,m',cc) h' (A',m',cc') f')
 have e1:(f' != f')=false:=by simp
 have e3:((m':Int) != (m':Int))=false:=by simp
 obtain ⟨W,hW⟩:∃ W,W=(w.alloc (plO h (A,m',cc) f')).alloc (plO h' (A',m',cc') f'):=⟨_,rfl⟩
 have HW:=Lib.hid hW
 rw [<- hW] at HT0
 have HIN:=Lib.hid (ints_same (sv h) (sv h') s W (Keeps.lat hsr (Lat.below HT0.out.bel)).now (Keeps.lat hsr' (Lat.below HT0.out.bel)).now hs)
 clear hp hq hx hx' hk hk' hih hl hW hsr hsr' hs
 go_enter Tryz.func68,Tryz.ntmps68
 go_wp2_with fail
 rw [<- HW.out]
 refine HIN.out.mono ?_
 rintro e w1 ⟨rfl,hb⟩
 have HT1:=Lib.hid (HT0.out.step hb)
 clear hb HT0 HIN
 obtain ⟨a0,a1,a2⟩:=at3_c HT1.out.one
 obtain ⟨b0,b1,b2⟩:=at3_c HT1.out.two
 dsimp only at a1 b1
 go_wp2
 clear a0 a1 a2 b0 b1 b2
 go_loopw [5,5] (fun _ iv wr=>∃ i:Nat,i<=m'/\iv= .int .i64 (i:Int)/\Below w1.heap.size w1 wr) (fun _ iv _=>m' - (intOf iv).toNat)
 case atStart=>exact ⟨0,Nat.zero_le _,rfl,Below.refl _ _⟩
 case round =>
  obtain ⟨i,hi,rfl,hbl⟩:=hrel
  have HTR:=Lib.hid (HT1.out.step hbl)
  obtain ⟨a0,a1,a2⟩:=at3_c HTR.out.one
  obtain ⟨b0,b1,b2⟩:=at3_c HTR.out.two
  dsimp only at a1 b1
  have HBL:=Lib.hid hbl
  by_cases hlt:i < m'
  ·have h1:i < items.length:=by have:=HM.out;omega
   obtain ⟨b,o,p0,p1,p2,p3,rfl,-,hpv,hce⟩:=HK.out i h1
   obtain ⟨b',o',r0,r1,r2,r3,rfl,-,hpv',hce'⟩:=HK'.out i h1
   obtain ⟨c0,c1,c2,c3⟩:=hce _ (Lat.below HTR.out.bel)
   obtain ⟨d0,d1,d2,d3⟩:=hce' _ (Lat.below HTR.out.bel)
   dsimp only [sv] at c0 c1 c2 c3 d0 d1 d2 d3
   have HIC:=Lib.hid (HIH.out i h1 _ _ p0 p1 p2 p3 r0 r1 r2 r3 _ (hpv.step (bel_both HTR.out.bel (below_drewN (Below.refl wr.heap.size wr) 1))) (hpv'.step (bel_both HTR.out.bel (below_drewN (Below.refl wr.heap.size wr) 1))))
   have hlt2:(i:Int) < (m':Int):=by omega
   clear hbl hce hce' hpv hpv'
   go_wp2
   go_still_tail 10,(by kernel_rfl)
   change wpList _ _ _ _ _ (wr.drewN 1)
   have HB1:=Lib.hid (bel_both HBL.out (below_drewN (Below.refl wr.heap.size wr) 1))
   clear a0 a1 a2 b0 b1 b2 c0 c1 c2 c3 d0 d1 d2 d3
   generalize wr.drewN 1=wd at *
   go_wp2_with fail
   refine HIC.out.mono ?_
   rintro e w2 ⟨rfl,hb⟩
   have HB2:=Lib.hid (bel_both HB1.out hb)
   clear hb
   go_wp2
   go_roundw
   case rel=>exact ⟨i+1,by omega,by go_num,HB2.out⟩
   case measure=>simp [intOf];omega
  ·have hlt2:¬ (i:Int) < (m':Int):=by omega
   clear hbl
   go_wp2
   go_ret
   exact ⟨rfl,HTR.out.bel⟩
theorem rsame_any:∀ (N:Nat) (t:RP),cntP t<=N->LnP t->TfP t->SameC t
 | 0,t,h,_,_=>by have:=cntP_pos t;omega
 | N+1,.mk s items fill,h,hN,ht=>by
  rw [cntP] at h
  rw [TfP] at ht
  rw [LnP] at hN
  refine rsame_step s items fill hN.1 hN.2.1 fun i hi=>?_
  have hc:=cntIs_at hi
  have htf:=tfIs_at hi ht
  have hln:=lnIs_at hi hN.2.2
  generalize items[i]=it at hc htf hln
  cases it with
  | mk kind num char box =>
   rw [cntI] at hc
   rw [TfI] at htf
   rw [LnI] at hln
   exact ritem_any kind num char box htf.1 hln.1 fun j hj=>rsame_any N box[j] (by have:=cntPs_at hj;omega) (lnPs_at hj hln.2) (tfPs_at hj htf.2)
theorem rsame_raw {a:PA} (d:Nat) (hg:GoodA d a) (hs:SmA 1000000 a):SameC (rawP a):=rsame_any (cntP (rawP a)) _ (Nat.le_refl _) (ln_raw d a hg hs) (tf_raw d a hg)
end Go.Proofs.YtiahegjdkejjpaaGreatDoor
