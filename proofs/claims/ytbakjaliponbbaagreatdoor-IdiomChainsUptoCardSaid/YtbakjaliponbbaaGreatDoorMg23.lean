/- The walks of each.Part and of rebusref25.Part. The walks of value.Num, idiom.whole and value.List. Printed by gen_iwh.py. The walk of value.List at numbers. .. Conditions: as each theorem says. -/
import Derived.Test.YtbakjaliponbbaaGreatDoorMg22
import Derived.Test.YtbakjaliponbbaaGreatDoorMg21
set_option maxRecDepth 100000
set_option maxHeartbeats 2000000
namespace Go.Proofs.YtbakjaliponbbaaGreatDoor
open Go Go.RowKit Go.Proofs Fl
theorem ixP_in {n i:Nat} (h:i < n):ixP n i=i:=by unfold ixP;split <;> omega
theorem epart_box {Ha:Nat->Prop}{s:List Nat}{l:List PA}{h:Sl}{p:V8} (w:World) (g:AV Ha w (.boxes s l) h p) (i:Nat) (hi:i < l.length) :
  Calls Tryz.prog 94 #[arrV h p,.int .i64 (i:Int)] w (AaR Ha w (partA (.boxes s l) i)):=by
 have HS0:=Lib.hid (A1.new w h p)
 have HC:=Lib.hid (fun W (hb:Below w.heap.size w W)=>av_class g W hb)
 have HB:Hid (∀ W,Below w.heap.size w W->Calls Tryz.prog 137 #[p.v,.int .i64 (i:Int)] W (BoxR Ha w W (partA (.boxes s l) i))):=fun W hb=>by
  have h1:=vbox_any g i hi W hb
  have e:l[i]=partA (.boxes s l) i:=by
   show _=l.getD (ixP l.length i) default
   rw [ixP_in hi]
   simp [List.getD,hi]
  rw [e] at h1
  exact h1
 rw [show (PA.boxes s l).fill=2 from rfl] at HC
 unfold BoxR at HB
 generalize partA (.boxes s l) i=pa at HB ⊢
 clear g hi
 unfold AaR
 go_enter Tryz.func94,Tryz.ntmps94
 obtain ⟨h0,h1,h2,h3,h4,h5,h6,h7,h8⟩:=HS0.out.one.c
 go_wp2_with fail
 refine (HC.out _ HS0.out.bel).mono ?_
 rintro e w2 ⟨rfl,hb⟩
 have HS2:=Lib.hid (HS0.out.step hb)
 clear hb h0 h1 h2 h3 h4 h5 h6 h7 h8 HS0
 obtain ⟨h0,h1,h2,h3,h4,h5,h6,h7,h8⟩:=HS2.out.one.c
 go_wp2_with fail
 refine (HB.out _ HS2.out.bel).mono ?_
 rintro e w3 ⟨h',p',rfl,hav,hb⟩
 have HS3:=Lib.hid (HS2.out.step hb)
 have HAV:Hid (AV Ha (set9 w3 (w.heap.size+1) (sv h') (.int .i64 p'.k) (sv p'.b) (.int .i64 p'.bn) (sv p'.s) (sv p'.i) (sv p'.f) (sv p'.c) (sv p'.x)) pa h' p'):=AV.step hav (below_set9 HS3.out.bel (Nat.le_succ _) _ _ _ _ _ _ _ _ _)
 clear hav hb h0 h1 h2 h3 h4 h5 h6 h7 h8 HS2
 obtain ⟨⟨y0,y1,y2,y3,y4,y5,y6,y7,y8⟩,yz⟩:=zero_block HS3.out.res
 go_wp2
 refine bodyPost_ret (v:=arrV h' p') ?_ rfl ⟨h',p',rfl,HAV.out,below_set9 HS3.out.bel (Nat.le_succ _) _ _ _ _ _ _ _ _ _⟩
 exact ret_arr (fn:=Tryz.f94) (p:=4) rfl _ _ (w.heap.size+1) (by rfl) (set9_block HS3.out.res _ _ _ _ _ _ _ _ _)
theorem epart_flat {Ha:Nat->Prop}{a:PA}{h:Sl}{p:V8} (w:World) (g:AV Ha w a h p) (hHa:∀ b,Ha b->b < w.heap.size) (i:Nat) (hi:i < a.len) (hl:a.len<=1000000) (hz:a.fill≠2) (pa:PA) (hpa:partA a i=pa)
  (hcut:∀ (H:Nat->Prop) (W:World) (z1 z2:Int),z1=(i:Nat)->z2=((i+1:Nat):Int)->Below w.heap.size w W->(∀ b,H b->b < W.heap.size)->(∀ b,b < w.heap.size->H b->Ha b)->Calls Tryz.prog 139 #[p.v,.int .i64 z1,.int .i64 z2] W (CutA H W pa)) :
  Calls Tryz.prog 94 #[arrV h p,.int .i64 (i:Int)] w (AaR Ha w (partA a i)):=by
 have HS0:=Lib.hid (A1.new w h p)
 have HH:=Lib.hid hHa
 have HC:=Lib.hid (fun W (hb:Below w.heap.size w W)=>av_class g W hb)
 have HB:=Lib.hid hcut
 have z2:((a.fill:Int)==2)=false:=by simp;omega
 have hib:i<=2000000:=by omega
 unfold CutA at HB
 rw [hpa]
 generalize a.fill=za at HC z2
 clear g hHa hz hcut hpa hi hl
 unfold AaR
 have hw1:IntKind.i64.wrap ((i:Int)+1)=(i:Int)+1:=IntWalk.i64_in _ (by omega)
 go_enter Tryz.func94,Tryz.ntmps94
 obtain ⟨h0,h1,h2,h3,h4,h5,h6,h7,h8⟩:=HS0.out.one.c
 go_wp2_with fail
 refine (HC.out _ HS0.out.bel).mono ?_
 rintro e w2 ⟨rfl,hb⟩
 have HS2:=Lib.hid (HS0.out.step hb)
 clear hb h0 h1 h2 h3 h4 h5 h6 h7 h8 HS0
 obtain ⟨h0,h1,h2,h3,h4,h5,h6,h7,h8⟩:=HS2.out.one.c
 go_wp2_with fail
 refine (HB.out (fun b=>Ha b\/b=w.heap.size+1) _ (i:Int) ((i:Int)+1) (by simp) (by simp) HS2.out.bel (fun b e=>by
  have h9:=HS2.out.sz
  rcases e with e | e
  ·have:=HH.out b e;omega
  ·omega) (fun b hb9 e=>by
  rcases e with e | e
  ·exact e
  ·omega)).mono ?_
 rintro e w3 ⟨p',rfl,hav,hb⟩
 have HS3:=Lib.hid (HS2.out.step hb)
 have HAV:Hid (AV Ha (set9 w3 (w.heap.size+1) (sv nilS) (.int .i64 p'.k) (sv p'.b) (.int .i64 p'.bn) (sv p'.s) (sv p'.i) (sv p'.f) (sv p'.c) (sv p'.x)) pa nilS p'):=AV.sub (fun b _ e => .inl e) (AV.lat (Lat.set9 (G:=w.heap.size+1) (.inr rfl) _ _ _ _ _ _ _ _ _) hav)
 clear hav hb h0 h1 h2 h3 h4 h5 h6 h7 h8 HS2
 obtain ⟨⟨y0,y1,y2,y3,y4,y5,y6,y7,y8⟩,yz⟩:=zero_block HS3.out.res
 go_wp2
 refine bodyPost_ret (v:=arrV nilS p') ?_ rfl ⟨nilS,p',rfl,HAV.out,below_set9 HS3.out.bel (Nat.le_succ _) _ _ _ _ _ _ _ _ _⟩
 exact ret_arr (fn:=Tryz.f94) (p:=4) rfl _ _ (w.heap.size+1) (by rfl) (set9_block HS3.out.res _ _ _ _ _ _ _ _ _)
theorem epart_any {Ha:Nat->Prop}{a:PA}{h:Sl}{p:V8} (w:World) (g:AV Ha w a h p) (hHa:∀ b,Ha b->b < w.heap.size) (i:Nat) (hi:i < a.len) (hl:a.len<=1000000) :
  Calls Tryz.prog 94 #[arrV h p,.int .i64 (i:Int)] w (AaR Ha w (partA a i)):=by
 cases a with
 | boxes s l=>exact epart_box w g i hi
 | nums s l=>exact epart_flat w g hHa i hi hl (show (0:Nat)≠2 by decide) (.nums [] [l.getD i 0]) (by rw [partA,ixP_in (show i < l.length from hi)]) fun H W z1 z2 e1 e2 hb hH hs=>cutA_num g hl i hi z1 z2 e1 e2 W hb hH hs
 | chars s l=>exact epart_flat w g hHa i hi hl (show (1:Nat)≠2 by decide) (.chars [] [l.getD i 0]) (by rw [partA,ixP_in (show i < l.length from hi)]) fun H W z1 z2 e1 e2 hb hH _=>cutA_chr g hl i hi z1 z2 e1 e2 W hb hH
theorem erp_flat {H:Nat->Prop}{w:World}{s:List Int}{items:List RI}{fill:Int}{h x:Sl}{f:Int} (g:PV H w (.mk s items fill) h x f) (i:Nat) (hi:i < items.length) (hl:items.length<=1048576) (kd:Int) (nu:Nat) (ch:Int) (hk:kd≠2) (ht:items[i]= .mk kd nu ch []) (W:World) (hb:Below w.heap.size w W) (hH:∀ b,H b->b < w.heap.size) :
  Calls Tryz.prog 208 #[plV h x f,.int .i64 (i:Int)] W (PvS H w W (.mk [] [.mk kd nu ch []] kd)):=by
 obtain ⟨-,-,hx,hit⟩:=g.open_
 obtain ⟨b,o,k,n,c,y,hxa,-,hiv,hat⟩:=hit i hi
 rw [ht] at hiv
 rw [IV] at hiv
 obtain ⟨rfl,rfl,rfl,hy,_⟩:=hiv
 obtain ⟨xA,xm,xc⟩:=x
 dsimp only at hx hxa
 subst hxa
 have HX:=Lib.hid hx
 have HAT:=Lib.hid (fun W' (hb':Below W.heap.size W W')=>hat W' (Lat.below (bel_both hb hb')))
 have HS0:=Lib.hid (P1.new W h (some ⟨b,o,none⟩,xm,xc) f)
 have HSZ:=Lib.hid hb.size
 have HH:=Lib.hid hH
 have HY:=Lib.hid hy
 have k2:(k==2)=false:=by simpa using hk
 have HKD:=Lib.hid hk
 have hlt:(i:Int) < (xm:Int):=by omega
 have hxb:xm<=1048576:=by omega
 have hib:i < xm:=by omega
 clear g hi hl ht hb hk hH hit hat hx hy
 go_enter Tryz.func208,Tryz.ntmps208
 obtain ⟨p0,p1,p2⟩:=at3_c HS0.out.one
 dsimp only at p1
 obtain ⟨w1,hw1⟩:∃ w1,w1=(W.alloc (plO h (some ⟨b,o,none⟩,xm,xc) f)).alloc (plO nilS nilS 0):=⟨_,rfl⟩
 have HW1:=Lib.hid hw1
 rw [<- hw1] at HS0
 obtain ⟨t0,t1,t2,t3⟩:=HAT.out _ HS0.out.bel
 rw [HW1.out] at t0 t1 t2 t3
 clear hw1
 have hst:=fun md=>st_item w1 k 0 n 0 (.slice none 0 0) 106 md
 have HB2:=Lib.hid (bel1 w1 (itO k n c y))
 have HN2:=Lib.hid (heap_alloc_new w1 (itO k n c y))
 obtain ⟨⟨d0,d1,d2,d3⟩,dz⟩:=block4 HN2.out
 have HS2:=Lib.hid (HS0.out.step HB2.out)
 have HB3:=Lib.hid (bel1 (w1.alloc (itO k n c y)) (itO k n c y))
 have HS3:=Lib.hid (HS2.out.step HB3.out)
 obtain ⟨⟨z0,z1,z2⟩,zz⟩:=block3 HS3.out.res
 have HI4:Hid (At4 (set3 ((w1.alloc (itO k n c y)).alloc (itO k n c y)) (W.heap.size+1) (.slice none 0 0) (.slice (some ⟨w1.heap.size+1,0,none⟩) 1 1) (.int .i64 k)) (w1.heap.size+1) (0+0*4) k n c y):=by
  have h9:=at4_box (w1.alloc (itO k n c y)) k n c y
  rw [show (w1.alloc (itO k n c y)).heap.size=w1.heap.size+1 by simp] at h9
  have h8:=HS0.out.sz
  exact At4.lat (H:=fun b=>b=W.heap.size+1) h9 (by omega) (Lat.set3 (H:=fun b=>b=W.heap.size+1) (G:=W.heap.size+1) rfl _ _ _)
 have HPV:Hid (PV H (set3 ((w1.alloc (itO k n c y)).alloc (itO k n c y)) (W.heap.size+1) (.slice none 0 0) (.slice (some ⟨w1.heap.size+1,0,none⟩) 1 1) (.int .i64 k)) (.mk [] [.mk k n c []] k) nilS (some ⟨w1.heap.size+1,0,none⟩,1,1) k):=by
  refine pv_of (fun _ _ _ => .inl ⟨none,0,rfl,rfl⟩) rfl fun j hj=>?_
  obtain rfl:j=0:=by simpa using hj
  refine ⟨w1.heap.size+1,0,k,n,c,y,rfl,fun e=>?_,?_,HI4.out⟩
  ·have h7:=HH.out _ e
   have h8:=HS0.out.sz
   have h9:=HSZ.out
   omega
  ·obtain ⟨ya,yn,yc⟩:=y
   have hy:yn=0:=HY.out
   subst hy
   exact iv_none H _ k n c ya yc
 have HBE:=Lib.hid (below_set3 HS3.out.bel (Nat.le_succ _) (.slice none 0 0) (.slice (some ⟨w1.heap.size+1,0,none⟩) 1 1) (.int .i64 k))
 have HRE:=Lib.hid (set3_block HS3.out.res (.slice none 0 0) (.slice (some ⟨w1.heap.size+1,0,none⟩) 1 1) (.int .i64 k))
 clear HI4 HB2 HB3 HS2 HY HH HAT
 go_upto_region 1 with fail
 rw [<- HW1.out] at t0 t1 t2 t3 p0 p1 p2 ⊢
 go_wp2
 refine bodyPost_ret (v:=plV nilS (some ⟨w1.heap.size+1,0,none⟩,1,1) k) ?_ rfl (pvS_new HKD.out HPV.out HBE.out)
 exact ret_plain (fn:=Tryz.f208) (p:=4) rfl _ _ (W.heap.size+1) (by rfl) HRE.out
theorem erp_box {H:Nat->Prop}{w:World}{s:List Int}{items:List RI}{fill:Int}{h x:Sl}{f:Int} (g:PV H w (.mk s items fill) h x f) (i:Nat) (hi:i < items.length) (hl:items.length<=1048576) (nu:Nat) (ch:Int) (t:RP) (ht:items[i]= .mk 2 nu ch [t]) (W:World) (hb:Below w.heap.size w W) :
  Calls Tryz.prog 208 #[plV h x f,.int .i64 (i:Int)] W (PvS H w W t):=by
 obtain ⟨-,-,hx,hit⟩:=g.open_
 obtain ⟨b,o,k,n,c,y,hxa,-,hiv,hat⟩:=hit i hi
 rw [ht] at hiv
 obtain ⟨rfl,rfl,rfl,hy,hbx⟩:=hiv.open_
 obtain ⟨bb,bo,h',y',f',hya,hnH,hpv,hat3⟩:=hbx 0 (by simp)
 obtain ⟨ya,yn,yc⟩:=y
 dsimp only at hya hy
 subst hya
 obtain rfl:yn=1:=by simpa using hy
 obtain ⟨xA,xm,xc⟩:=x
 dsimp only at hx hxa
 subst hxa
 have HAT:=Lib.hid (fun W' (hb':Below W.heap.size W W')=>hat W' (Lat.below (bel_both hb hb')))
 have HAT3:=Lib.hid (fun W' (hb':Below W.heap.size W W')=>hat3 W' (Lat.below (bel_both hb hb')))
 have HS0:=Lib.hid (P1.new W h (some ⟨b,o,none⟩,xm,xc) f)
 have HPV:Hid (PV H w t h' y' f'):=hpv
 have hlt:(i:Int) < (xm:Int):=by omega
 have hxb:xm<=1048576:=by omega
 have hib:i < xm:=by omega
 clear g hi hl ht hb hit hat hat3 hx hy hpv hnH hbx
 go_enter Tryz.func208,Tryz.ntmps208
 obtain ⟨p0,p1,p2⟩:=at3_c HS0.out.one
 dsimp only at p1
 obtain ⟨w1,hw1⟩:∃ w1,w1=(W.alloc (plO h (some ⟨b,o,none⟩,xm,xc) f)).alloc (plO nilS nilS 0):=⟨_,rfl⟩
 have HW1:=Lib.hid hw1
 rw [<- hw1] at HS0
 obtain ⟨t0,t1,t2,t3⟩:=HAT.out _ HS0.out.bel
 rw [HW1.out] at t0 t1 t2 t3
 clear hw1
 have hst:=fun md=>st_item w1 2 0 n 0 (.slice none 0 0) 106 md
 have HB2:=Lib.hid (bel1 w1 (itO 2 n c (some ⟨bb,bo,none⟩,1,yc)))
 have HN2:=Lib.hid (heap_alloc_new w1 (itO 2 n c (some ⟨bb,bo,none⟩,1,yc)))
 obtain ⟨⟨d0,d1,d2,d3⟩,dz⟩:=block4 HN2.out
 have HS2:=Lib.hid (HS0.out.step HB2.out)
 obtain ⟨⟨z0,z1,z2⟩,zz⟩:=block3 HS2.out.res
 obtain ⟨c0,c1,c2⟩:=HAT3.out _ HS2.out.bel
 simp only [Nat.zero_mul,Nat.add_zero] at c0 c1 c2
 dsimp only [sv] at c0 c1
 have HBE:=Lib.hid (below_set3 HS2.out.bel (Nat.le_succ _) (.slice h'.1 h'.2.1 h'.2.2) (.slice y'.1 y'.2.1 y'.2.2) (.int .i64 f'))
 have HRE:=Lib.hid (set3_block HS2.out.res (.slice h'.1 h'.2.1 h'.2.2) (.slice y'.1 y'.2.1 y'.2.2) (.int .i64 f'))
 clear HAT HAT3 HB2
 go_upto_region 1 with fail
 rw [<- HW1.out] at t0 t1 t2 t3 p0 p1 p2 ⊢
 go_wp2
 refine bodyPost_ret (v:=plV h' y' f') ?_ rfl (pvS_old HPV.out HBE.out)
 exact ret_plain (fn:=Tryz.f208) (p:=4) rfl _ _ (W.heap.size+1) (by rfl) HRE.out
theorem erp_any {H:Nat->Prop}{w:World}{a:PA}{h x:Sl}{f:Int} (g:PV H w (rawP a) h x f) (i:Nat) (hi:i < a.len) (hl:a.len<=1048576) (W:World) (hb:Below w.heap.size w W) (hH:∀ b,H b->b < w.heap.size) :
  Calls Tryz.prog 208 #[plV h x f,.int .i64 (i:Int)] W (PvS H w W (rawP (partA a i))):=by
 cases a with
 | nums s l =>
  have hi2:i < l.length:=hi
  rw [rawP] at g
  have e:l.getD i 0=l[i]:=by simp [List.getD,hi2]
  rw [partA,ixP_in hi2,rawP,e]
  exact erp_flat g i (by simpa using hi2) (by rw [List.length_map];exact hl) 0 _ 0 (by decide) (by simp) W hb hH
 | chars s l =>
  have hi2:i < l.length:=hi
  rw [rawP] at g
  have e:l.getD i 0=l[i]:=by simp [List.getD,hi2]
  rw [partA,ixP_in hi2,rawP,e]
  exact erp_flat g i (by simpa using hi2) (by rw [List.length_map];exact hl) 1 0 _ (by decide) (by simp) W hb hH
 | boxes s l =>
  have hi2:i < l.length:=hi
  rw [rawP] at g
  have e:l.getD i default=l[i]:=by simp [List.getD,hi2]
  rw [partA,ixP_in hi2,e]
  have hn:=rawBs_len l
  exact erp_box g i (by rw [hn];exact hi2) (by rw [hn];exact hl) 0 0 _ (rawBs_at hi2 (by rw [hn];exact hi2)) W hb
def AtQ (H:Nat->Prop) (w:World) (a:PA) (e:Ending) (w':World):Prop:=∃ h p,e= .returned (.tuple #[arrV h p,.bool true])/\AV H w' a h p/\Below w.heap.size w w'
theorem reads_11 {W:World}{B:Nat}{e:TypeId}{v:Value} (h:W.heap[B]?=some (.cells #[v] e)):Reads1 W (.slice (some ⟨B,0,none⟩) 1 1) [v]:=by
 refine .inr ⟨B,0,1,1,rfl,rfl,fun j hj=>?_⟩
 obtain rfl:j=0:=by simpa using hj
 rw [cell_of_row _ B (0+0) _ e (0,0) h]
 rfl
theorem vnum_any (b:Nat) (hb:TF b) (H:Nat->Prop) (w:World) (hH:∀ b,H b->b < w.heap.size) :
  Calls Tryz.prog 140 #[.float .f64 b] w (AtQ H w (.nums [] [b])):=by
 obtain ⟨w2,hw2⟩:∃ w2,w2=(w.alloc zeroO).alloc (.cells #[.float .f64 b] 96):=⟨_,rfl⟩
 have HW2:=Lib.hid hw2
 have HB2:Hid (Below w.heap.size w w2):=by unfold Hid;rw [hw2];exact bel2 w _ _
 have HZ2:Hid (w2.heap[w.heap.size]?=some zeroO):=by
  unfold Hid
  rw [hw2]
  exact blk_alloc (heap_alloc_new w zeroO) _
 have HRD:Hid (Reads1 w2 (.slice (some ⟨w.heap.size+1,0,none⟩) 1 1) ((List.range 1).map fun _ => .float .f64 b)):=by
  have h1:=heap_alloc_new (w.alloc zeroO) (.cells #[.float .f64 b] 96)
  rw [show (w.alloc zeroO).heap.size=w.heap.size+1 by simp,<- hw2] at h1
  exact reads_11 h1
 have HN:=Lib.hid (numbers_any (fun b=>H b\/b=w.heap.size) _ 1 (fun _=>b) w2 (fun b e=>by
  have h1:=lt_blk HZ2.out
  rcases e with e | e
  ·have:=hH b e;have:=HB2.out.size;omega
  ·omega) HRD.out (by decide) (fun _ _=>hb))
 unfold Vec2R at HN
 unfold AtQ
 clear hb hH hw2 HRD
 go_enter Tryz.func140,Tryz.ntmps140
 go_wp2_with fail
 rw [<- HW2.out]
 refine HN.out.mono ?_
 rintro e w3 ⟨k,bb,bn,s,i,f,c,x,rfl,hk,hb3⟩
 have HNZ:=Lib.hid (numZ_of (N:=1) (G:=fun _=>b) (hk.imp fun W h => .inl h))
 obtain ⟨p,hp⟩:∃ p:V8,p=⟨k,bb,bn,s,i,f,c,x⟩:=⟨_,rfl⟩
 obtain ⟨W,hW⟩:∃ W,W=w3.alloc p.o:=⟨_,rfl⟩
 have hb4:Below w3.heap.size w3 W:=by rw [hW];exact bel1 _ _
 have HB4:=Lib.hid (bel_both HB2.out (bel_both hb3 hb4))
 have HZ4:Hid (W.heap[w.heap.size]?=some zeroO):=by
  have h1:=lt_blk HZ2.out
  unfold Hid
  rw [(bel_both hb3 hb4).block _ h1]
  exact HZ2.out
 have HBX:Hid (BoxP W w3.heap.size p):=by unfold Hid;rw [hW];exact boxP_new w3 p
 have HAV:Hid (AV H (set9 W w.heap.size (sv nilS) (.int .i64 p.k) (.slice p.b.1 p.b.2.1 p.b.2.2) (.int .i64 p.bn) (.slice p.s.1 p.s.2.1 p.s.2.2) (.slice p.i.1 p.i.2.1 p.i.2.2) (.slice p.f.1 p.f.2.1 p.f.2.2) (.slice p.c.1 p.c.2.1 p.c.2.2) (.slice p.x.1 p.x.2.1 p.x.2.2)) (.nums [] [b]) nilS p):=by
  refine AV.sub (H:=fun b=>H b\/b=w.heap.size) (fun b _ e => .inl e) (AV.lat (Lat.set9 (G:=w.heap.size) (.inr rfl) _ _ _ _ _ _ _ _ _) ?_)
  rw [AV]
  exact ⟨shV_nil _ _,by rw [hp];exact NumA.lat HNZ.out (Lat.below hb4)⟩
 have HBE:Hid (Below w.heap.size w (set9 W w.heap.size (sv nilS) (.int .i64 p.k) (.slice p.b.1 p.b.2.1 p.b.2.2) (.int .i64 p.bn) (.slice p.s.1 p.s.2.1 p.s.2.2) (.slice p.i.1 p.i.2.1 p.i.2.2) (.slice p.f.1 p.f.2.1 p.f.2.2) (.slice p.c.1 p.c.2.1 p.c.2.2) (.slice p.x.1 p.x.2.1 p.x.2.2))):=below_set9 HB4.out (Nat.le_refl _) _ _ _ _ _ _ _ _ _
 have HRE:=Lib.hid (set9_block HZ4.out (sv nilS) (.int .i64 p.k) (.slice p.b.1 p.b.2.1 p.b.2.2) (.int .i64 p.bn) (.slice p.s.1 p.s.2.1 p.s.2.2) (.slice p.i.1 p.i.2.1 p.i.2.2) (.slice p.f.1 p.f.2.1 p.f.2.2) (.slice p.c.1 p.c.2.1 p.c.2.2) (.slice p.x.1 p.x.2.1 p.x.2.2))
 clear hk hb3 hb4 HNZ HN
 obtain ⟨⟨y0,y1,y2,y3,y4,y5,y6,y7,y8⟩,yz⟩:=zero_block HZ4.out
 have hl1:w.heap.size < W.heap.size:=lt_blk HZ4.out
 subst hp
 dsimp only [V8.o] at hW
 rw [hW] at y0 y1 y2 y3 y4 y5 y6 y7 y8 yz hl1
 have HWW:=Lib.hid hW.symm
 clear hW
 go_wp2
 rw [HWW.out]
 refine bodyPost_ret (v := .tuple #[arrV nilS ⟨k,bb,bn,s,i,f,c,x⟩,.bool true]) ?_ rfl ⟨nilS,⟨k,bb,bn,s,i,f,c,x⟩,rfl,HAV.out,HBE.out⟩
 exact ret_arr2 (fn:=Tryz.f140) (p:=2) (u:=3) rfl _ _ w.heap.size (by rfl) HRE.out
theorem whl_any (n:Int) (hn:Good n) (H:Nat->Prop) (w:World) (hH:∀ b,H b->b < w.heap.size) :
  Calls Tryz.prog 95 #[.int .i64 n] w (AaR H w (.nums [] [fi n])):=by
 have HZ0:=Lib.hid (heap_alloc_new w zeroO)
 have HN:=Lib.hid (vnum_any (fi n) (tf_fi hn) (fun b=>H b\/b=w.heap.size) (w.alloc zeroO) (fun b e=>by
  have h1:=lt_blk HZ0.out
  rcases e with e | e
  ·have:=hH b e;omega
  ·omega))
 unfold AtQ at HN
 unfold AaR
 clear hH hn
 go_enter Tryz.func95,Tryz.ntmps95
 go_wp2_with fail
 refine HN.out.mono ?_
 rintro e w3 ⟨h,p,rfl,hav,hb3⟩
 obtain ⟨W,hW⟩:∃ W,W=w3.alloc (arrO h p):=⟨_,rfl⟩
 have hb4:Below w3.heap.size w3 W:=by rw [hW];exact bel1 _ _
 have HB4:=Lib.hid (bel_both (bel1 w zeroO) (bel_both hb3 hb4))
 have HZ4:Hid (W.heap[w.heap.size]?=some zeroO):=by
  have h1:=lt_blk HZ0.out
  unfold Hid
  rw [(bel_both hb3 hb4).block _ h1]
  exact HZ0.out
 have HBX:Hid (At9 W w3.heap.size 0 h p):=by unfold Hid;rw [hW];exact at9_new w3 h p
 have HAV:Hid (AV H (set9 W w.heap.size (sv h) (.int .i64 p.k) (.slice p.b.1 p.b.2.1 p.b.2.2) (.int .i64 p.bn) (.slice p.s.1 p.s.2.1 p.s.2.2) (.slice p.i.1 p.i.2.1 p.i.2.2) (.slice p.f.1 p.f.2.1 p.f.2.2) (.slice p.c.1 p.c.2.1 p.c.2.2) (.slice p.x.1 p.x.2.1 p.x.2.2)) (.nums [] [fi n]) h p) :=
  AV.sub (H:=fun b=>H b\/b=w.heap.size) (fun b _ e => .inl e) (AV.lat (Lat.set9 (G:=w.heap.size) (.inr rfl) _ _ _ _ _ _ _ _ _) (AV.step hav hb4))
 have HBE:Hid (Below w.heap.size w (set9 W w.heap.size (sv h) (.int .i64 p.k) (.slice p.b.1 p.b.2.1 p.b.2.2) (.int .i64 p.bn) (.slice p.s.1 p.s.2.1 p.s.2.2) (.slice p.i.1 p.i.2.1 p.i.2.2) (.slice p.f.1 p.f.2.1 p.f.2.2) (.slice p.c.1 p.c.2.1 p.c.2.2) (.slice p.x.1 p.x.2.1 p.x.2.2))):=below_set9 HB4.out (Nat.le_refl _) _ _ _ _ _ _ _ _ _
 have HRE:=Lib.hid (set9_block HZ4.out (sv h) (.int .i64 p.k) (.slice p.b.1 p.b.2.1 p.b.2.2) (.int .i64 p.bn) (.slice p.s.1 p.s.2.1 p.s.2.2) (.slice p.i.1 p.i.2.1 p.i.2.2) (.slice p.f.1 p.f.2.1 p.f.2.2) (.slice p.c.1 p.c.2.1 p.c.2.2) (.slice p.x.1 p.x.2.1 p.x.2.2))
 obtain ⟨⟨y0,y1,y2,y3,y4,y5,y6,y7,y8⟩,yz⟩:=zero_block HZ4.out
 obtain ⟨c0,c1,c2,c3,c4,c5,c6,c7,c8⟩:=HBX.out.c
 have hl1:w.heap.size < W.heap.size:=lt_blk HZ4.out
 clear hav hb3 hb4 HN
 rw [hW] at y0 y1 y2 y3 y4 y5 y6 y7 y8 yz hl1 c0 c1 c2 c3 c4 c5 c6 c7 c8
 have HWW:=Lib.hid hW.symm
 clear hW
 go_wp2
 rw [HWW.out]
 refine bodyPost_ret (v:=arrV h p) ?_ rfl ⟨h,p,rfl,HAV.out,HBE.out⟩
 exact ret_arr (fn:=Tryz.f95) (p:=2) rfl _ _ w.heap.size (by rfl) HRE.out
structure LsM (w W:World) (p:V8):Prop where
 box:V1B w W p
 res:W.heap[w.heap.size+1]?=some zeroO
theorem LsM.step {w W W':World}{p:V8} (h:LsM w W p) (hb:Below W.heap.size W W'):LsM w W' p:=⟨h.box.step hb,by rw [hb.block _ (lt_blk h.res)];exact h.res⟩
theorem LsM.dr {w W:World}{p:V8} (h:LsM w W p):LsM w W.drew p:=h.step (Below.refl _ W).drew
theorem LsM.sz {w W:World}{p:V8} (h:LsM w W p):w.heap.size+2<=W.heap.size:=lt_blk h.res
theorem LsM.new (w:World) (p:V8):LsM w ((w.alloc p.o).alloc zeroO) p:=by
 have h1:=heap_alloc_new (w.alloc p.o) zeroO
 rw [show (w.alloc p.o).heap.size=w.heap.size+1 by simp] at h1
 exact ⟨(V1B.new w p).step (bel1 _ _),h1⟩
theorem own_11 {B:Nat}{e:TypeId} (W:World) (v:Value) (hB:B<=W.heap.size):Own1 (W.alloc (.cells #[v] e)) B e (.slice (some ⟨W.heap.size,0,none⟩) 1 1) [v] :=
 World.ownsRow_lit (base:=B) (e:=e) (size:=1) W #[v] 1 hB (by decide) rfl
def AVN (H:Nat->Prop) (w:World) (n:Nat) (F:Nat->Nat) (h:Sl) (p:V8):Prop:=AV H w (.nums [n] ((List.range n).map F)) h p/\Keeps H w (NumV p.v p.k n F)
theorem AVN.lat {H:Nat->Prop}{w w':World}{n:Nat}{F:Nat->Nat}{h:Sl}{p:V8} (k:Lat H w w') (g:AVN H w n F h p):AVN H w' n F h p:=⟨AV.lat k g.1,g.2.lat k⟩
theorem AVN.sub {H H':Nat->Prop}{w:World}{n:Nat}{F:Nat->Nat}{h:Sl}{p:V8} (hs:∀ b,b < w.heap.size->H' b->H b) (g:AVN H w n F h p):AVN H' w n F h p:=⟨AV.sub hs g.1,g.2.sub hs⟩
def AaN (H:Nat->Prop) (w:World) (n:Nat) (F:Nat->Nat) (e:Ending) (w':World):Prop:=∃ h p,e= .returned (arrV h p)/\AVN H w' n F h p/\Below w.heap.size w w'
theorem aaN_of {H:Nat->Prop}{w w':World}{n:Nat}{F:Nat->Nat}{h:Sl}{p:V8} (g:AVN H w' n F h p) (hb:Below w.heap.size w w'):AaN H w n F (.returned (arrV h p)) w':=⟨h,p,rfl,g,hb⟩
theorem keeps_kind {H:Nat->Prop}{w:World}{k kd:Int}{b:Sl}{bn:Int}{s i f c x:Sl}{n:Nat}{F:Nat->Nat} (h:Keeps H w (NumV (vecW k b bn s i f c x) kd n F)):Keeps H w (NumV (vecW k b bn s i f c x) k n F):=h.imp fun W g=>by
 have e:=g.kindEq
 rw [<- e] at g
 exact g
theorem list_fin {H:Nat->Prop}{w W:World}{p:V8}{h:Sl}{n:Nat}{F:Nat->Nat}{e:TypeId} (hH:∀ b,H b->b < w.heap.size) (ho:Own1 W (w.heap.size+2) e (sv h) [.int .i64 (n:Int)]) (hn:NumA (fun b=>H b\/b=w.heap.size+1) W p ((List.range n).map F)) (hv:Keeps (fun b=>H b\/b=w.heap.size+1) W (NumV p.v p.k n F)) :
  AVN H (set9 W (w.heap.size+1) (sv h) (.int .i64 p.k) (.slice p.b.1 p.b.2.1 p.b.2.2) (.int .i64 p.bn) (.slice p.s.1 p.s.2.1 p.s.2.2) (.slice p.i.1 p.i.2.1 p.i.2.2) (.slice p.f.1 p.f.2.1 p.f.2.2) (.slice p.c.1 p.c.2.1 p.c.2.2) (.slice p.x.1 p.x.2.1 p.x.2.2)) n F h p:=by
 refine AVN.sub (H:=fun b=>H b\/b=w.heap.size+1) (fun b _ e => .inl e) (AVN.lat (Lat.set9 (G:=w.heap.size+1) (.inr rfl) _ _ _ _ _ _ _ _ _) ⟨?_,hv⟩)
 rw [AV]
 refine ⟨ho.keepsH fun b e=>?_,hn⟩
 rcases e with e | e
 ·have:=hH b e;omega
 ·omega
theorem vlist_any {p:V8}{n:Nat}{F:Nat->Nat}{H:Nat->Prop} (w:World) (hH:∀ b,H b->b < w.heap.size) (hn:n<=1000000) (hv:Keeps H w (NumV p.v p.k n F)) :
  Calls Tryz.prog 96 #[p.v] w (AaN H w n F):=by
 have HH:=Lib.hid hH
 have HL:Hid (∀ W,Below w.heap.size w W->Calls Tryz.prog 48 #[p.v] W fun e w'=>e= .returned (.int .i64 (n:Nat))/\Below W.heap.size W w'):=fun W hb=>(hv.step hb).now.len
 have HSQ:=Lib.hid (fun W (hb:Below w.heap.size w W) (hz:w.heap.size+2<=W.heap.size)=>squeeze_num (fun b=>H b\/b=w.heap.size+1) p.k p.b p.bn p.s p.i p.f p.c p.x n F W (fun b e=>by
  rcases e with e | e
  ·have:=hH b e;have:=hb.size;omega
  ·omega) hn ((hv.sub (fun b hb9 e=>by
  rcases e with e | e
  ·exact e
  ·omega)).step hb))
 have HLS0:=Lib.hid (LsM.new w p)
 unfold VecR at HSQ
 clear hv hH
 go_enter Tryz.func96,Tryz.ntmps96
 go_wp2_with fail
 have hls0:LsM w ((w.alloc p.o).alloc zeroO).drew p:=HLS0.out.dr
 have hls00:=HLS0.out
 refine wp_region_noPanic ?_
 refine wp_region_held_drew (S:=fun W=>(W.cell? ⟨w.heap.size,0,none⟩=some (.int .i64 p.k)/\W.cell? ⟨w.heap.size,1,none⟩=some (.slice p.b.1 p.b.2.1 p.b.2.2)/\W.cell? ⟨w.heap.size,2,none⟩=some (.int .i64 p.bn)/\W.cell? ⟨w.heap.size,3,none⟩=some (.slice p.s.1 p.s.2.1 p.s.2.2)/\W.cell? ⟨w.heap.size,4,none⟩=some (.slice p.i.1 p.i.2.1 p.i.2.2)/\W.cell? ⟨w.heap.size,5,none⟩=some (.slice p.f.1 p.f.2.1 p.f.2.2)/\W.cell? ⟨w.heap.size,6,none⟩=some (.slice p.c.1 p.c.2.1 p.c.2.2)/\W.cell? ⟨w.heap.size,7,none⟩=some (.slice p.x.1 p.x.2.1 p.x.2.2))/\V1B w W p) (by kernel_rfl) (by exact v1b_s (LsM.box hls0)) (fun hHeld=>?_)
 refine wpAnyH_take (i:=0) (v:=?av1) rfl (by kernel_rfl) (by kernel_rfl) (by kernel_rfl) (fun _ _ _ h=>h) (Or.inl ⟨by rfl,?ay1⟩) (by assumption) ?as1
 case ay1=>(intro w hSw;(try dsimp only at hSw);go_simp;try with_reducible rfl)
 change wpAnyH _ _ _ _ _ _ _ (Act.put _ (some 3) _) _
 simp only [Act.put,List.setIfInBounds_toArray,List.set_cons_zero,List.set_cons_succ]
 refine wpAnyH_take (i:=3) (v:=?av2) rfl (by kernel_rfl) (by kernel_rfl) (by kernel_rfl) (fun _ _ _ h=>h) (Or.inl ⟨by rfl,?ay2⟩) (by assumption) ?as2
 case ay2=>(intro w hSw;(try dsimp only at hSw);go_simp;try with_reducible rfl)
 change wpAnyH _ _ _ _ _ _ _ (Act.put _ (some 6) _) _
 simp only [Act.put,List.setIfInBounds_toArray,List.set_cons_zero,List.set_cons_succ]
 refine wpAnyH_ready (rs:=[1]) (by kernel_rfl) (by simp) ?_
 refine AllReadyH.cons rfl (fun K hK=>?_) AllReadyH.nil
 go_simp
 (go_at_call 48;(with_reducible refine (HL.out _ ?_).mono ?_);exact V1B.bel (LsM.box (by repeat (first | (with_reducible assumption) | (with_reducible refine LsM.dr ?_))));rintro e w1 ⟨rfl,hb1⟩;have hls1:LsM w w1 p:=LsM.step (by repeat (first | (with_reducible assumption) | (with_reducible refine LsM.dr ?_))) hb1;clear hb1)
 refine hK.out _ _ (by first | (with_reducible assumption) | ((with_reducible (refine v1b_s (LsM.box ?_)));(repeat (first | (with_reducible assumption) | (with_reducible refine LsM.dr ?_)));done) | (exact v1b_s (V1B.keepB (LsM.box (by assumption)) (below_set9 (Below.refl _ _) (Nat.le_refl _) _ _ _ _ _ _ _ _ _) (Nat.lt_succ_self _)))) (fun hHeld=>?_)
 clear hK K
 refine wpAnyH_ready (rs:=[2,4]) (by kernel_rfl) (by simp) ?_
 refine AllReadyH.cons rfl (fun K hK=>?_) (AllReadyH.cons rfl (fun K hK=>?_) AllReadyH.nil)
 ·go_simp
  have HOW:=Lib.hid (own_11 (e:=3) w1 (.int .i64 (n:Int)) (LsM.sz hls1))
  have hlsb:LsM w (w1.alloc (.cells #[.int .i64 (n:Int)] 3)) p:=LsM.step hls1 (bel1 _ _)
  refine hK.out _ _ (by first | (with_reducible assumption) | ((with_reducible (refine v1b_s (LsM.box ?_)));(repeat (first | (with_reducible assumption) | (with_reducible refine LsM.dr ?_)));done) | (exact v1b_s (V1B.keepB (LsM.box (by assumption)) (below_set9 (Below.refl _ _) (Nat.le_refl _) _ _ _ _ _ _ _ _ _) (Nat.lt_succ_self _)))) (fun hHeld=>?_)
  clear hK K
  refine wpAnyH_ready (rs:=[4]) (by kernel_rfl) (by simp) ?_
  refine AllReadyH.cons rfl (fun K hK=>?_) AllReadyH.nil
  go_simp
  (go_at_call 141;(with_reducible refine (HSQ.out _ ?_ ?_).mono ?_);exact V1B.bel (LsM.box (by repeat (first | (with_reducible assumption) | (with_reducible refine LsM.dr ?_))));exact LsM.sz (by repeat (first | (with_reducible assumption) | (with_reducible refine LsM.dr ?_)));rintro e w2 ⟨k,bb,bn,s,i,f,c,x,rfl,hk,hb2⟩;have hls2:LsM w w2 p:=LsM.step (by repeat (first | (with_reducible assumption) | (with_reducible refine LsM.dr ?_))) hb2;have HNZ:=Lib.hid (numZ_of (hk.imp fun W h => .inl h));have HOW2:=Lib.hid (Own1.below HOW.out hb2);have HNV:=Lib.hid (keeps_kind hk);clear hb2 hk)
  refine hK.out _ _ (by first | (with_reducible assumption) | ((with_reducible (refine v1b_s (LsM.box ?_)));(repeat (first | (with_reducible assumption) | (with_reducible refine LsM.dr ?_)));done) | (exact v1b_s (V1B.keepB (LsM.box (by assumption)) (below_set9 (Below.refl _ _) (Nat.le_refl _) _ _ _ _ _ _ _ _ _) (Nat.lt_succ_self _)))) (fun hHeld=>?_)
  clear hK K
  refine wpAnyH_take (i:=5) (v:=?av3) rfl (by kernel_rfl) (by kernel_rfl) (by kernel_rfl) (fun _ _ _ h=>h) (Or.inl ⟨by rfl,?ay3⟩) (by assumption) ?as3
  case ay3=>(intro w hSw;(try dsimp only at hSw);go_simp;try with_reducible rfl)
  change wpAnyH _ _ _ _ _ _ _ (Act.put _ (some 8) _) _
  simp only [Act.put,List.setIfInBounds_toArray,List.set_cons_zero,List.set_cons_succ]
  refine wpAnyH_ready (rs:=[6]) (by kernel_rfl) (by simp) ?_
  refine AllReadyH.cons rfl (fun K hK=>?_) AllReadyH.nil
  (skip;(obtain ⟨⟨y0,y1,y2,y3,y4,y5,y6,y7,y8⟩,yz⟩:=zero_block (LsM.res hls2));go_simp)
  refine hK.out _ _ (by first | (with_reducible assumption) | ((with_reducible (refine v1b_s (LsM.box ?_)));(repeat (first | (with_reducible assumption) | (with_reducible refine LsM.dr ?_)));done) | (exact v1b_s (V1B.keepB (LsM.box (by assumption)) (below_set9 (Below.refl _ _) (Nat.le_refl _) _ _ _ _ _ _ _ _ _) (Nat.lt_succ_self _)))) (fun hHeld=>?_)
  clear hK K
  refine wpAnyH_done (by kernel_rfl) ?_ _
  refine NoPanic.normal ?_
  have HAV:=Lib.hid (list_fin (h:=(some ⟨w1.heap.size,0,none⟩,1,1)) (p:=⟨k,bb,bn,s,i,f,c,x⟩) HH.out HOW2.out HNZ.out HNV.out)
  have HBE:Hid (Below w.heap.size w (set9 w2 (w.heap.size+1) (sv (some ⟨w1.heap.size,0,none⟩,1,1)) (.int .i64 k) (.slice bb.1 bb.2.1 bb.2.2) (.int .i64 bn) (.slice s.1 s.2.1 s.2.2) (.slice i.1 i.2.1 i.2.2) (.slice f.1 f.2.1 f.2.2) (.slice c.1 c.2.1 c.2.2) (.slice x.1 x.2.1 x.2.2))):=below_set9 (LsM.box hls2).bel (Nat.le_succ _) _ _ _ _ _ _ _ _ _
  have HRE:=Lib.hid (set9_block (LsM.res hls2) (sv (some ⟨w1.heap.size,0,none⟩,1,1)) (.int .i64 k) (.slice bb.1 bb.2.1 bb.2.2) (.int .i64 bn) (.slice s.1 s.2.1 s.2.2) (.slice i.1 i.2.1 i.2.2) (.slice f.1 f.2.1 f.2.2) (.slice c.1 c.2.1 c.2.2) (.slice x.1 x.2.1 x.2.2))
  go_wp2
  refine bodyPost_ret (v:=arrV (some ⟨w1.heap.size,0,none⟩,1,1) ⟨k,bb,bn,s,i,f,c,x⟩) ?_ rfl (aaN_of HAV.out HBE.out)
  exact ret_arr (fn:=Tryz.f96) (p:=2) rfl _ _ (w.heap.size+1) (by rfl) HRE.out
 ·go_simp
  (go_at_call 141;(with_reducible refine (HSQ.out _ ?_ ?_).mono ?_);exact V1B.bel (LsM.box (by repeat (first | (with_reducible assumption) | (with_reducible refine LsM.dr ?_))));exact LsM.sz (by repeat (first | (with_reducible assumption) | (with_reducible refine LsM.dr ?_)));rintro e w2 ⟨k,bb,bn,s,i,f,c,x,rfl,hk,hb2⟩;have hls2:LsM w w2 p:=LsM.step (by repeat (first | (with_reducible assumption) | (with_reducible refine LsM.dr ?_))) hb2;have HNZ:=Lib.hid (numZ_of (hk.imp fun W h => .inl h));have HNV:=Lib.hid (keeps_kind hk);clear hb2 hk)
  refine hK.out _ _ (by first | (with_reducible assumption) | ((with_reducible (refine v1b_s (LsM.box ?_)));(repeat (first | (with_reducible assumption) | (with_reducible refine LsM.dr ?_)));done) | (exact v1b_s (V1B.keepB (LsM.box (by assumption)) (below_set9 (Below.refl _ _) (Nat.le_refl _) _ _ _ _ _ _ _ _ _) (Nat.lt_succ_self _)))) (fun hHeld=>?_)
  clear hK K
  refine wpAnyH_ready (rs:=[2]) (by kernel_rfl) (by simp) ?_
  refine AllReadyH.cons rfl (fun K hK=>?_) AllReadyH.nil
  go_simp
  have HOW:=Lib.hid (own_11 (e:=3) w2 (.int .i64 (n:Int)) (LsM.sz hls2))
  have hlsb:LsM w (w2.alloc (.cells #[.int .i64 (n:Int)] 3)) p:=LsM.step hls2 (bel1 _ _)
  have HNV2:=Lib.hid (Keeps.step HNV.out (bel1 w2 (.cells #[.int .i64 (n:Int)] 3)))
  have HNZ2:=Lib.hid (NumA.lat HNZ.out (Lat.below (bel1 w2 (.cells #[.int .i64 (n:Int)] 3))))
  refine hK.out _ _ (by first | (with_reducible assumption) | ((with_reducible (refine v1b_s (LsM.box ?_)));(repeat (first | (with_reducible assumption) | (with_reducible refine LsM.dr ?_)));done) | (exact v1b_s (V1B.keepB (LsM.box (by assumption)) (below_set9 (Below.refl _ _) (Nat.le_refl _) _ _ _ _ _ _ _ _ _) (Nat.lt_succ_self _)))) (fun hHeld=>?_)
  clear hK K
  refine wpAnyH_take (i:=5) (v:=?av4) rfl (by kernel_rfl) (by kernel_rfl) (by kernel_rfl) (fun _ _ _ h=>h) (Or.inl ⟨by rfl,?ay4⟩) (by assumption) ?as4
  case ay4=>(intro w hSw;(try dsimp only at hSw);go_simp;try with_reducible rfl)
  change wpAnyH _ _ _ _ _ _ _ (Act.put _ (some 8) _) _
  simp only [Act.put,List.setIfInBounds_toArray,List.set_cons_zero,List.set_cons_succ]
  refine wpAnyH_ready (rs:=[6]) (by kernel_rfl) (by simp) ?_
  refine AllReadyH.cons rfl (fun K hK=>?_) AllReadyH.nil
  (skip;(obtain ⟨⟨y0,y1,y2,y3,y4,y5,y6,y7,y8⟩,yz⟩:=zero_block (LsM.res hlsb));go_simp)
  refine hK.out _ _ (by first | (with_reducible assumption) | ((with_reducible (refine v1b_s (LsM.box ?_)));(repeat (first | (with_reducible assumption) | (with_reducible refine LsM.dr ?_)));done) | (exact v1b_s (V1B.keepB (LsM.box (by assumption)) (below_set9 (Below.refl _ _) (Nat.le_refl _) _ _ _ _ _ _ _ _ _) (Nat.lt_succ_self _)))) (fun hHeld=>?_)
  clear hK K
  refine wpAnyH_done (by kernel_rfl) ?_ _
  refine NoPanic.normal ?_
  have HAV:=Lib.hid (list_fin (h:=(some ⟨w2.heap.size,0,none⟩,1,1)) (p:=⟨k,bb,bn,s,i,f,c,x⟩) HH.out HOW.out HNZ2.out HNV2.out)
  have HBE:Hid (Below w.heap.size w (set9 (w2.alloc (.cells #[.int .i64 (n:Int)] 3)) (w.heap.size+1) (sv (some ⟨w2.heap.size,0,none⟩,1,1)) (.int .i64 k) (.slice bb.1 bb.2.1 bb.2.2) (.int .i64 bn) (.slice s.1 s.2.1 s.2.2) (.slice i.1 i.2.1 i.2.2) (.slice f.1 f.2.1 f.2.2) (.slice c.1 c.2.1 c.2.2) (.slice x.1 x.2.1 x.2.2))):=below_set9 (LsM.box hlsb).bel (Nat.le_succ _) _ _ _ _ _ _ _ _ _
  have HRE:=Lib.hid (set9_block (LsM.res hlsb) (sv (some ⟨w2.heap.size,0,none⟩,1,1)) (.int .i64 k) (.slice bb.1 bb.2.1 bb.2.2) (.int .i64 bn) (.slice s.1 s.2.1 s.2.2) (.slice i.1 i.2.1 i.2.2) (.slice f.1 f.2.1 f.2.2) (.slice c.1 c.2.1 c.2.2) (.slice x.1 x.2.1 x.2.2))
  go_wp2
  refine bodyPost_ret (v:=arrV (some ⟨w2.heap.size,0,none⟩,1,1) ⟨k,bb,bn,s,i,f,c,x⟩) ?_ rfl (aaN_of HAV.out HBE.out)
  exact ret_arr (fn:=Tryz.f96) (p:=2) rfl _ _ (w.heap.size+1) (by rfl) HRE.out
theorem make_i64n (n:Nat) (hn:n<=1000000) (w:World):(Instr.makeSlice 54 (.int .i64 (n:Int)) (.int .i64 (n:Int))).run Tryz.prog w= .ok (.slice (some ⟨w.heap.size,0,none⟩) n n) (w.alloc (.cells (madeCells #[.int .i64 0] n) 2)):=by
 obtain ⟨i,hi,hz,hs,hb⟩:=info_parts info_i64
 have hr:=run_make (P:=Tryz.prog) w 54 2 i (.int .i64 0) Tryz.underlying54 hi hz .i64 .i64 (n:Int) (n:Int) (by omega) (Int.le_refl _) (by rw [hb];omega) (by omega)
 simp only [Int.toNat_natCast,hs,Nat.mul_one] at hr
 exact hr
structure BiM (w:World) (g n k:Nat) (Z:Nat->Int) (W:World):Prop where
 res:W.heap[w.heap.size]?=some zeroO
 row:Fill W (w.heap.size+1) g 2 (fun j => .int .i64 (Z j)) (.int .i64 0) n k
 bel:Below w.heap.size w W
theorem BiM.put {w:World}{g n k:Nat}{Z:Nat->Int}{W:World} (h:BiM w g n k Z W) (hk:k < n):BiM w g n (k+1) Z (W.setCell ⟨g,k,none⟩ (.int .i64 (Z k))):=by
 have h1:=h.row.low
 refine ⟨?_,h.row.put hk,h.bel.setCell (by show w.heap.size<=g;omega) _⟩
 rw [Below.heap_setCell _ _ _ _ (by show w.heap.size≠g;omega)]
 exact h.res
theorem bints_any (va:Value) (n o:Nat) (L:Nat->Nat) (H:Nat->Prop) (w:World) (hH:∀ b,H b->b < w.heap.size) (hn:n<=1000000) (ho:o<=1) (hL:∀ j,j < n->L j<=1000000) (hr:Reads1 w va ((List.range n).map fun j => .int .i64 (L j:Int))) :
  Calls Tryz.prog 202 #[va,.int .i64 (o:Int)] w (AaN H w n (fun j=>fi ((L j+o:Nat):Int))):=by
 obtain ⟨A,m,c,rfl,hm,hcell⟩:=map_open hr
 obtain rfl:n=m:=by simpa using hm.symm
 have HCE:Hid (∀ j,j < n->∃ b o9,A=some ⟨b,o9,none⟩/\w.cell? ⟨b,o9+j,none⟩=some (.int .i64 (L j:Int))):=fun j hj=>by
  obtain ⟨b,o9,h1,h2⟩:=hcell j (by simpa using hj)
  exact ⟨b,o9,h1,by rw [h2];simp⟩
 have HH:=Lib.hid hH
 have HL:=Lib.hid hL
 obtain ⟨Z,hZ⟩:∃ Z:Nat->Int,Z=fun j=>((L j+o:Nat):Int):=⟨_,rfl⟩
 have HZ:Hid (∀ j,Z j=(L j:Int)+(o:Int)):=fun j=>by rw [hZ,<- Int.natCast_add]
 have HG:Hid (∀ j,j < n->Good (Z j)):=fun j hj=>by
  have h1:=hL j hj
  have h2:=HZ.out j
  constructor <;> omega
 rw [show (fun j=>fi ((L j+o:Nat):Int))=fun j=>fi (Z j) from by rw [hZ]]
 have HRES0:=heap_alloc_new w zeroO
 have HM0:Hid (BiM w (w.alloc zeroO).heap.size n 0 Z ((w.alloc zeroO).alloc (.cells (madeCells #[.int .i64 0] n) 2))) :=
  ⟨blk_alloc HRES0 _,Fill.made (w.alloc zeroO) (w.heap.size+1) (by simp) 2 _ (.int .i64 0) n (by unfold maxLen;omega),bel2 w _ _⟩
 have hA:(w.alloc zeroO).heap.size=w.heap.size+1:=by simp
 rw [hA] at HM0
 clear hr hm hcell hZ hL hH HRES0 hA
 have hmk:=make_i64n n hn
 go_enter Tryz.func202,Tryz.ntmps202
 go_wp2
 go_loopw [15] (fun iv wr=>∃ i:Nat,i<=n/\iv= .int .i64 (i:Int)/\BiM w (w.heap.size+1) n i Z wr) (fun iv _=>n - (intOf iv).toNat)
 case atStart=>exact ⟨0,Nat.zero_le _,rfl,HM0.out⟩
 case round =>
  obtain ⟨i,hi,rfl,hbm⟩:=hrel
  have HBM:=Lib.hid hbm
  clear hbm HM0
  by_cases hlt:i < n
  ·have hlt2:(i:Int) < (n:Int):=by omega
   obtain ⟨b,o9,rfl,hce⟩:=HCE.out i hlt
   have ce:=cell_up HBM.out.bel hce
   have hfz:=HBM.out.row.frozen i
   have hc0:=HBM.out.row.cell hlt
   have hl1:=HL.out i hlt
   have HPU:=Lib.hid (HBM.out.put hlt)
   have hz:=HZ.out i
   rw [hz] at HPU
   generalize L i=y at *
   clear hce hz
   go_wp2
   go_roundw
   case rel=>exact ⟨i+1,by omega,by go_num,HPU.out⟩
   case measure=>simp [intOf];omega
  ·have hge:¬ (i:Int) < (n:Int):=by omega
   obtain rfl:i=n:=by omega
   have HIN:=Lib.hid (ints_any (l:=(List.range i).map Z) (w:=wr) (v := .slice (some ⟨w.heap.size+1,0,none⟩) i i) (by rw [List.map_map];exact HBM.out.row.own.reads) (by simpa using hn) (fun x hx=>by
    obtain ⟨j,hj,rfl⟩:=List.mem_map.1 hx
    exact HG.out j (List.mem_range.1 hj)))
   go_wp2_with fail
   refine HIN.out.mono ?_
   rintro e w3 ⟨u,rfl,hu,hb3⟩
   obtain ⟨uA,uc,hue⟩:=hu.reads.len
   rw [List.length_map,List.length_map,List.length_range] at hue
   subst hue
   have hk3:Keeps (fun b=>H b\/b=w.heap.size) w3 (NumV (vecV 3 vnil 0 vnil (.slice uA i uc) vnil vnil vnil) 3 i (fun j=>fi (Z j))):=by
    refine Keeps.imp (hu.keepsH fun b e=>?_) fun W h=>numV_ints ⟨⟨_,rfl,by rw [List.map_map] at h;exact h⟩,HG.out⟩
    have:=HBM.out.bel.size
    have h9:=lt_blk HBM.out.res
    rcases e with e | e
    ·have:=HH.out b e;omega
    ·omega
   obtain ⟨p,hp⟩:∃ p:V8,p=⟨3,nilS,0,nilS,(uA,i,uc),nilS,nilS,nilS⟩:=⟨_,rfl⟩
   have hb4:Below w3.heap.size w3 (w3.alloc p.o):=bel1 _ _
   have hkp:Keeps (fun b=>H b\/b=w.heap.size) (w3.alloc p.o) (NumV p.v p.k i (fun j=>fi (Z j))):=by
    rw [hp]
    exact hk3.step (bel1 _ _)
   have HLI:=Lib.hid (vlist_any (w3.alloc p.o) (fun b e=>by
    have h7:=(bel_both HBM.out.bel (bel_both hb3 hb4)).size
    have h9:=lt_blk HBM.out.res
    have h8:=(bel_both hb3 hb4).size
    rcases e with e | e
    ·have:=HH.out b e;omega
    ·omega) hn hkp)
   have HB5:=Lib.hid (bel_both HBM.out.bel (bel_both hb3 hb4))
   have HZ5:Hid ((w3.alloc p.o).heap[w.heap.size]?=some zeroO):=by
    unfold Hid
    rw [(bel_both hb3 hb4).block _ (lt_blk HBM.out.res)]
    exact HBM.out.res
   clear hk3 hkp hu hb3 hb4 HIN hge
   subst hp
   unfold AaN at HLI
   go_wp2_with fail
   refine HLI.out.mono ?_
   rintro e w6 ⟨h,q,rfl,hav,hb6⟩
   have HZ6:Hid (w6.heap[w.heap.size]?=some zeroO):=by
    unfold Hid
    rw [hb6.block _ (lt_blk HZ5.out)]
    exact HZ5.out
   have HB6:=Lib.hid (bel_both HB5.out hb6)
   have HAV:Hid (AVN H (set9 w6 w.heap.size (sv h) (.int .i64 q.k) (.slice q.b.1 q.b.2.1 q.b.2.2) (.int .i64 q.bn) (.slice q.s.1 q.s.2.1 q.s.2.2) (.slice q.i.1 q.i.2.1 q.i.2.2) (.slice q.f.1 q.f.2.1 q.f.2.2) (.slice q.c.1 q.c.2.1 q.c.2.2) (.slice q.x.1 q.x.2.1 q.x.2.2)) i (fun j=>fi (Z j)) h q) :=
    AVN.sub (H:=fun b=>H b\/b=w.heap.size) (fun b _ e => .inl e) (AVN.lat (Lat.set9 (G:=w.heap.size) (.inr rfl) _ _ _ _ _ _ _ _ _) hav)
   have HBE:Hid (Below w.heap.size w (set9 w6 w.heap.size (sv h) (.int .i64 q.k) (.slice q.b.1 q.b.2.1 q.b.2.2) (.int .i64 q.bn) (.slice q.s.1 q.s.2.1 q.s.2.2) (.slice q.i.1 q.i.2.1 q.i.2.2) (.slice q.f.1 q.f.2.1 q.f.2.2) (.slice q.c.1 q.c.2.1 q.c.2.2) (.slice q.x.1 q.x.2.1 q.x.2.2))):=below_set9 HB6.out (Nat.le_refl _) _ _ _ _ _ _ _ _ _
   have HRE:=Lib.hid (set9_block HZ6.out (sv h) (.int .i64 q.k) (.slice q.b.1 q.b.2.1 q.b.2.2) (.int .i64 q.bn) (.slice q.s.1 q.s.2.1 q.s.2.2) (.slice q.i.1 q.i.2.1 q.i.2.2) (.slice q.f.1 q.f.2.1 q.f.2.2) (.slice q.c.1 q.c.2.1 q.c.2.2) (.slice q.x.1 q.x.2.1 q.x.2.2))
   obtain ⟨⟨y0,y1,y2,y3,y4,y5,y6,y7,y8⟩,yz⟩:=zero_block HZ6.out
   have hl1:w.heap.size < w6.heap.size:=lt_blk HZ6.out
   clear hav hb6
   go_wp2
   refine bodyPost_ret (v:=arrV h q) ?_ rfl (aaN_of HAV.out HBE.out)
   exact ret_arr (fn:=Tryz.f202) (p:=4) rfl _ _ w.heap.size (by rfl) HRE.out
end Go.Proofs.YtbakjaliponbbaaGreatDoor
