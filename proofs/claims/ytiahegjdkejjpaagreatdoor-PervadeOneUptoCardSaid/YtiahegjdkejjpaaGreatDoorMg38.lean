/- The walk of pervade.One at boxes, over a contract of One at what lies in them; pervade.One of any good array. The walk of mono.bits where truths are turned .. Conditions: as each theorem says. -/
import Derived.Test.YtiahegjdkejjpaaGreatDoorMg37
import Derived.Test.YtiahegjdkejjpaaGreatDoorMg12
import Derived.Test.YtiahegjdkejjpaaGreatDoorMg15
import Derived.Test.YtiahegjdkejjpaaGreatDoorMg21
import Derived.Test.YtiahegjdkejjpaaGreatDoorMg13
import Derived.Test.YtiahegjdkejjpaaGreatDoorMg03
import Derived.Test.YtiahegjdkejjpaaGreatDoorMg09
import Derived.Test.YtiahegjdkejjpaaGreatDoorMg10
import Derived.Test.YtiahegjdkejjpaaGreatDoorMg08
import Derived.Test.YtiahegjdkejjpaaGreatDoorMg28
set_option maxRecDepth 100000
set_option maxHeartbeats 4000000
namespace Go.Proofs.YtiahegjdkejjpaaGreatDoor
open Go Go.RowKit Go.Proofs Fl
theorem arrays_own {H:Nat->Prop}{w:World}{x:Sl}{l:List PA} (g:ASl H w x l) (hl:l.length<=1048576) (hH:∀ b,H b->b < w.heap.size) :
  Calls Tryz.prog 61 #[(boxesP x).v] w fun e w'=>∃ a c B,e= .returned (.slice a l.length c)/\w.heap.size<=B/\AOwn H w' B (.slice a l.length c) l/\Below w.heap.size w w':=by
 have HB:=Lib.hid (bel1 w (boxesP x).o)
 have HC:=Lib.hid (clA_any (g.step HB.out) hl (fun b e=>by have:=hH b e;simp;omega))
 clear g hl hH
 obtain ⟨m,hm⟩:∃ m,m=l.length:=⟨_,rfl⟩
 have HM:=Lib.hid hm
 rw [<- hm]
 clear hm
 go_enter Tryz.func61,Tryz.ntmps61
 go_wp2_with fail
 refine HC.out.mono ?_
 rintro e w1 ⟨u,rfl,ho,hb1⟩
 have HB1:=Lib.hid (bel_both HB.out hb1)
 obtain ⟨a,c,hu⟩:=ho.len
 rw [<- HM.out] at hu
 subst hu
 have HO:=Lib.hid ho
 clear ho hb1
 go_wp2
 go_ret
 exact ⟨_,_,(w.alloc (boxesP x).o).heap.size,rfl,by simp,HO.out,HB1.out⟩
structure PoI (H:Nat->Prop) (w:World) (h1:Sl) (p:V8) (R:Nat->Int×PA) (l:List PA) (n c G:Nat) (hh:Nat->Sl) (pp:Nat->V8) (W:World):Prop where
 a1:A1 w W h1 p
 row:0 < n->ARow W G n hh pp/\w.heap.size+2<=G
 ok:∀ j,j < c->(R j).1=0/\AV (fun b=>H b\/b=w.heap.size+1\/b=G) W (R j).2 (hh j) (pp j)
 rest:∀ j,c<=j->j < n->AV (fun b=>H b\/b=w.heap.size+1\/b=G) W (l.getD j default) (hh j) (pp j)
theorem PoI.step {H:Nat->Prop}{w W W':World}{h1:Sl}{p:V8}{R:Nat->Int×PA}{l:List PA}{n c G:Nat}{hh:Nat->Sl}{pp:Nat->V8} (g:PoI H w h1 p R l n c G hh pp W) (hb:Below W.heap.size W W'):PoI H w h1 p R l n c G hh pp W' :=
 ⟨g.a1.step hb,fun h=>⟨(g.row h).1.below hb,(g.row h).2⟩,fun j hj=>⟨(g.ok j hj).1,(g.ok j hj).2.step hb⟩,fun j h1 h2=>(g.rest j h1 h2).step hb⟩
theorem A1.more {w W W':World}{h:Sl}{p:V8} (g:A1 w W h p) (hb:Below (w.heap.size+2) W W'):A1 w W' h p :=
 ⟨g.one.of fun j=>hb.cell (p:=⟨w.heap.size,j,none⟩) (by show w.heap.size < _;omega),by rw [hb.block _ (by omega)];exact g.res,g.bel.trans (hb.mono (by omega))⟩
theorem PoI.put {H:Nat->Prop}{w W:World}{h1:Sl}{p:V8}{R:Nat->Int×PA}{l:List PA}{n c G:Nat}{hh:Nat->Sl}{pp:Nat->V8} (g:PoI H w h1 p R l n c G hh pp W) (hc:c < n){h:Sl}{u:V8} (h0:(R c).1=0) (hav:AV (fun b=>H b\/b=w.heap.size+1\/b=G) W (R c).2 h u) :
  PoI H w h1 p R l n (c+1) G (fun j=>if j=c then h else hh j) (fun j=>if j=c then u else pp j) (set9o W G (c*9) (sv h) (.int .i64 u.k) (sv u.b) (.int .i64 u.bn) (sv u.s) (sv u.i) (sv u.f) (sv u.c) (sv u.x)):=by
 obtain ⟨hrow,hG⟩:=g.row (by omega)
 have hB:Below (w.heap.size+2) W (set9o W G (c*9) (sv h) (.int .i64 u.k) (sv u.b) (.int .i64 u.bn) (sv u.s) (sv u.i) (sv u.f) (sv u.c) (sv u.x)):=below_set9o (Below.refl _ W) hG _ _ _ _ _ _ _ _ _ _
 have hL:Lat (fun b=>H b\/b=w.heap.size+1\/b=G) W (set9o W G (c*9) (sv h) (.int .i64 u.k) (sv u.b) (.int .i64 u.bn) (sv u.s) (sv u.i) (sv u.f) (sv u.c) (sv u.x)) :=
  ⟨by rw [set9o_size];exact Nat.le_refl _,fun b _ hn=>set9o_other (fun e=>hn (.inr (.inr e))) _ _ _ _ _ _ _ _ _⟩
 refine ⟨g.a1.more hB,fun _=>⟨hrow.put hc h u,hG⟩,fun j hj=>?_,fun j hj1 hj2=>?_⟩
 ·by_cases e:j=c
  ·subst e
   rw [if_pos rfl,if_pos rfl]
   exact ⟨h0,AV.lat hL hav⟩
  ·rw [if_neg e,if_neg e]
   have:=g.ok j (by omega)
   exact ⟨this.1,AV.lat hL this.2⟩
 ·rw [if_neg (by omega),if_neg (by omega)]
  exact AV.lat hL (g.rest j (by omega) hj2)
theorem one_box {H:Nat->Prop} (f:Int) (hf:1<=f/\f<=8){s:List Nat}{l:List PA}{h1:Sl}{p:V8} (R:Nat->Int×PA) (w:World) (hH:∀ b,H b->b < w.heap.size) (ga:AV H w (.boxes s l) h1 p) (sa:s.length<=1048576) (hl:l.length<=1000000)
  (hIH:∀ i,i < l.length->∀ (K:Nat->Prop) (W:World) (u1:Sl) (v1:V8),(∀ b,K b->b < W.heap.size)->AV K W (l.getD i default) u1 v1->Below w.heap.size w W->Calls Tryz.prog 13 #[.int .i64 f,arrV u1 v1] W (TwR K W (R i))) :
  Calls Tryz.prog 13 #[.int .i64 f,arrV h1 p] w (TwR H w (bxE l.length R s)):=by
 have hf1:¬ f < 1:=by omega
 have hf8:¬ 8 < f:=by omega
 have hd1:=decide_eq_false hf1
 have hd8:=decide_eq_false hf8
 have HCA:=Lib.hid (fun W (hs:A1 w W h1 p)=>av_class ga W hs.bel)
 have HSA:=Lib.hid (show ShV H w h1 s from ga.shp)
 obtain ⟨x,hp,hx⟩:=ga.asl
 have HAR:Hid (∀ W,A1 w W h1 p->Calls Tryz.prog 61 #[p.v] W fun e w'=>∃ a c B,e= .returned (.slice a l.length c)/\W.heap.size<=B/\AOwn (fun b=>H b\/b=w.heap.size+1) w' B (.slice a l.length c) l/\Below W.heap.size W w'):=fun W hs=>by
  rw [hp]
  exact arrays_own (H:=fun b=>H b\/b=w.heap.size+1) ((hx.sub fun b hb e=>by
   rcases e with e | e
   ·exact e
   ·omega).step hs.bel) (by omega) (fun b e=>by
   have h9:=hs.sz
   rcases e with e | e
   ·have:=hH b e;omega
   ·omega)
 have HII:=Lib.hid (fun i (hi:i < l.length) (K:Nat->Prop) (W:World) (hK:∀ b,K b->b < W.heap.size) (u1:Sl) (v1:V8) (hz:Below w.heap.size w W) (g1:AV K W (l.getD i default) u1 v1)=>(hIH i hi K W u1 v1 hK g1 hz).mono fun _ _ t=>TwR.u t)
 unfold TwU at HII
 have HH:=Lib.hid hH
 have HSL:Hid (s.length<=1048576):=sa
 have HS0:=Lib.hid (A1.new w h1 p)
 have xa:(((PA.boxes s l).fill:Int) != 2)=false:=by show (((2:Nat):Int) != 2)=false;decide
 generalize (PA.boxes s l).fill=za at HCA xa
 obtain ⟨n,hn⟩:∃ n,n=l.length:=⟨_,rfl⟩
 have HNL:=Lib.hid hn
 rw [<- hn] at HAR HII hl ⊢
 have HR:=Lib.hid (fun h=>bxE_ok (R:=R) (n:=n) s h)
 have HRB:=Lib.hid (fun c (hc:c < n) h hb=>bxE_bad (R:=R) (n:=n) (c:=c) s hc h hb)
 generalize bxE n R s=r at HR HRB ⊢
 clear ga hx hp hH sa hIH hf hn
 go_enter Tryz.func13,Tryz.ntmps13
 obtain ⟨c0,c1,c2,c3,c4,c5,c6,c7,c8⟩:=HS0.out.one.c
 go_wp2_with fail
 refine (HCA.out _ HS0.out).mono ?_
 rintro e w3 ⟨rfl,hb⟩
 have HS3:=Lib.hid (HS0.out.step hb)
 clear hb c0 c1 c2 c3 c4 c5 c6 c7 c8 HS0 HCA
 obtain ⟨c0,c1,c2,c3,c4,c5,c6,c7,c8⟩:=HS3.out.one.c
 go_wp2_with fail
 refine (HAR.out _ HS3.out).mono ?_
 rintro e w4 ⟨a,cc,B,rfl,hB,ho,hb⟩
 have HS4:=Lib.hid (HS3.out.step hb)
 have HI0:Hid (∃ (G:Nat) (hh:Nat->Sl) (pp:Nat->V8),(0 < n->a=some ⟨G,0,none⟩)/\PoI H w h1 p R l n 0 G hh pp w4):=by
  by_cases hne:l=[]
  ·have h0:n=0:=by rw [HNL.out,hne];rfl
   exact ⟨0,fun _=>nilS,fun _=>zeroP,fun h=>by omega,HS4.out,fun h=>by omega,fun j hj=>absurd hj (Nat.not_lt_zero _),fun j _ h2=>by omega⟩
  ·rw [HNL.out] at ho
   obtain ⟨g,c',hh,pp,e,hg,hrow,hav⟩:=ho.row hne
   injection e with e _ _
   have h9:=HS3.out.sz
   refine ⟨g,hh,pp,fun _=>e,HS4.out,fun _=>⟨by rw [HNL.out];exact hrow,by omega⟩,fun j hj=>absurd hj (Nat.not_lt_zero _),fun j _ hj=>?_⟩
   have hj':j < l.length:=by rw [<- HNL.out];exact hj
   have e2:l.getD j default=l[j]:=by simp [List.getD,hj']
   rw [e2]
   exact AV.sub (fun b _ e=>by
    rcases e with e | e | e
    ·exact .inl (.inl e)
    ·exact .inl (.inr e)
    ·exact .inr e.symm) (hav j hj')
 obtain ⟨G,hh0,pp0,hAE,hI0⟩:=HI0.out
 have HAE:=Lib.hid hAE
 have HI1:=Lib.hid hI0
 clear hb ho hB c0 c1 c2 c3 c4 c5 c6 c7 c8 HS3 HS4 HAR HI0 hAE hI0
 go_wp2_with fail
 go_loopw [45] (fun iv wr=>∃ (c:Nat) (hh:Nat->Sl) (pp:Nat->V8),c<=n/\iv= .int .i64 (c:Int)/\PoI H w h1 p R l n c G hh pp wr) (fun iv _=>n - (intOf iv).toNat)
 case atStart=>exact ⟨0,_,_,Nat.zero_le _,rfl,HI1.out⟩
 case round =>
  obtain ⟨c,hh,pp,hc,rfl,hti⟩:=hrel
  have HTI:=Lib.hid hti
  clear hti HI1
  by_cases hlt:c < n
  ·have hlt2:(c:Int) < (n:Int):=by omega
   obtain ⟨hrow,hG⟩:=HTI.out.row (by omega)
   have hAe:=HAE.out (by omega)
   subst hAe
   have hGw:=hrow.lt
   obtain ⟨⟨c0,c1,c2,c3,c4,c5,c6,c7,c8⟩,cz⟩:=hrow.at_ c hlt
   obtain ⟨hc',ehc⟩:∃ t,t=hh c:=⟨_,rfl⟩
   obtain ⟨pc',epc⟩:∃ t,t=pp c:=⟨_,rfl⟩
   rw [<- ehc] at c0
   rw [<- epc] at c1 c2 c3 c4 c5 c6 c7 c8
   have HRS:=Lib.hid (HTI.out.rest c (Nat.le_refl _) hlt)
   rw [<- ehc,<- epc] at HRS
   have HT1:=Lib.hid (HTI.out.step (bel1 wr (arrO hc' pc')))
   have HR1:=Lib.hid (HRS.out.step (bel1 wr (arrO hc' pc')))
   obtain ⟨rc,hrc⟩:∃ rc,rc=R c:=⟨_,rfl⟩
   have HRCE:=Lib.hid hrc
   have HWZ:Hid ((wr.alloc (arrO hc' pc')).heap.size=wr.heap.size+1):=by unfold Hid;simp
   have hsz:=HTI.out.a1.sz
   have HCALL:=Lib.hid (HII.out c hlt (fun b=>H b\/b=w.heap.size+1\/b=G) (wr.alloc (arrO hc' pc')) (fun b e=>by
    have h9:=HWZ.out
    rcases e with e | e | e
    ·have:=HH.out b e;omega
    ·omega
    ·omega) hc' pc' HT1.out.a1.bel HR1.out)
   rw [<- hrc] at HCALL
   obtain ⟨g0,g1,g2,g3,g4,g5,g6,g7,g8⟩:=(at9_new wr hc' pc').c
   clear hrc ehc epc HRS HR1 hrow
   go_wp2_with fail
   refine HCALL.out.mono ?_
   rintro e w5 ⟨h5,u5,rfl,hav5,hb5⟩
   have HT5:=Lib.hid (HT1.out.step hb5)
   have HAV:=Lib.hid hav5
   clear hb5 hav5 g0 g1 g2 g3 g4 g5 g6 g7 g8 c0 c1 c2 c3 c4 c5 c6 c7 c8 cz HCALL HT1
   have HT6:=Lib.hid (HT5.out.step (bel1 w5 (arrO h5 u5)))
   obtain ⟨w6,hw6⟩:∃ w6,w6=w5.alloc (arrO h5 u5):=⟨_,rfl⟩
   have HW6:=Lib.hid hw6
   by_cases h0:rc.1=0
   ·have ne:(rc.1 != 0)=false:=by simpa using h0
    have hR0:(R c).1=0:=by rw [<- HRCE.out];exact h0
    have HP:=Lib.hid (HT6.out.put hlt hR0 (h:=h5) (u:=u5) (by
     rw [<- HRCE.out]
     exact AV.step (HAV.out.1 h0) (bel1 w5 (arrO h5 u5))))
    obtain ⟨y0,y1,y2,y3,y4,y5,y6,y7,y8⟩:=(at9_new w5 h5 u5).c
    obtain ⟨⟨c0,c1,c2,c3,c4,c5,c6,c7,c8⟩,cz⟩:=(HT6.out.row (by omega)).1.at_ c hlt
    clear h0 hR0 HAV HRB hw6 HW6
    go_wp2
    go_roundw
    case rel=>exact ⟨c+1,_,_,by omega,by go_num,HP.out⟩
    case measure=>simp [intOf];omega
   ·have ne:(rc.1 != 0)=true:=by simpa using h0
    have HE:Hid (r.1=rc.1):=by
     unfold Hid
     rw [HRCE.out]
     exact HRB.out c hlt (fun j hj=>(HTI.out.ok j hj).1) (by rw [<- HRCE.out];exact h0)
    have HN:=Lib.hid h0
    clear h0 HRB hw6 HW6
    obtain ⟨⟨y0,y1,y2,y3,y4,y5,y6,y7,y8⟩,yz⟩:=zero_block HT6.out.a1.res
    go_wp2
    refine bodyPost_ret (v := .tuple #[arrV nilS zeroP,.int .i64 rc.1]) ?_ rfl (twR_err HE.out HN.out (below_set9 HT6.out.a1.bel (Nat.le_add_right _ 1) _ _ _ _ _ _ _ _ _))
    exact ret_arr2 (fn:=Tryz.f13) (p:=4) (u:=5) rfl _ _ (w.heap.size+1) (by rfl) (set9_block HT6.out.a1.res _ _ _ _ _ _ _ _ _)
  ·obtain rfl:c=n:=by omega
   have hge:¬ (c:Int) < (c:Int):=by omega
   have hcl:=clSh_now (fun b=>H b\/b=w.heap.size+1) (w:=wr) (h:=h1) (s:=s) ((HSA.out.lat (Lat.below HTI.out.a1.bel)).now) HSL.out (fun b e=>by
    have h9:=HTI.out.a1.sz
    rcases e with e | e
    ·have:=HH.out b e;omega
    ·omega)
   have HASL:Hid (ASl (fun b=>H b\/b=w.heap.size+1) wr (a,c,cc) ((List.range c).map fun j=>(R j).2)):=by
    by_cases hz:c=0
    ·subst hz
     exact ASl.nil _ _ _ _
    ·obtain ⟨hrow,hG⟩:=HTI.out.row (by omega)
     rw [HAE.out (by omega)]
     refine ARow.asl hrow (fun e=>?_) _ (by simp) (fun i hi=>?_) cc
     ·rcases e with e | e
      ·have:=HH.out _ e;omega
      ·omega
     ·have hi2:i < c:=by simpa using hi
      simp only [List.getElem_map,List.getElem_range]
      exact AV.sub (fun b _ e=>by
       rcases e with e | e
       ·exact .inl e
       ·exact .inr (.inl e)) (HTI.out.ok i hi2).2
   have HRR:=Lib.hid (HR.out fun j hj=>(HTI.out.ok j hj).1)
   obtain ⟨c0,c1,c2,c3,c4,c5,c6,c7,c8⟩:=HTI.out.a1.one.c
   clear HII HR HRB
   go_wp2_with fail
   refine hcl.mono ?_
   rintro e w5 ⟨A5,n5,c5',rfl,hsv,hb5⟩
   have HSV:=Lib.hid hsv
   have HA5:=Lib.hid (HTI.out.a1.step hb5)
   have HBX:=Lib.hid (boxes_any (H:=fun b=>H b\/b=w.heap.size+1) (HASL.out.step hb5) (by simp;omega) (fun b e=>by
    have h9:=HA5.out.sz
    rcases e with e | e
    ·have:=HH.out b e;omega
    ·omega))
   unfold BxR at HBX
   clear hsv hb5 hcl c0 c1 c2 c3 c4 c5 c6 c7 c8
   go_wp2_with fail
   refine HBX.out.mono ?_
   rintro e w6 ⟨x6,rfl,hx6,hb6⟩
   have HA6:=Lib.hid (HA5.out.step hb6)
   obtain ⟨xA,xn,xc⟩:=x6
   have HAV:Hid (AV H (set9 w6 (w.heap.size+1) (sv (A5,n5,c5')) (.int .i64 6) (sv nilS) (.int .i64 0) (sv nilS) (sv nilS) (sv nilS) (sv nilS) (sv (xA,xn,xc))) (.boxes s ((List.range c).map fun j=>(R j).2)) (A5,n5,c5') (boxesP (xA,xn,xc))) :=
    AV.sub (fun b _ e => .inl e) (AV.lat (Lat.set9 (G:=w.heap.size+1) (.inr rfl) _ _ _ _ _ _ _ _ _) (ASl.av hx6 (HSV.out.lat (Lat.below hb6))))
   clear hx6 hb6
   obtain ⟨⟨y0,y1,y2,y3,y4,y5,y6,y7,y8⟩,yz⟩:=zero_block HA6.out.res
   go_wp2
   refine bodyPost_ret (v := .tuple #[arrV (A5,n5,c5') (boxesP (xA,xn,xc)),.int .i64 0]) ?_ rfl (twR_ok (by rw [HRR.out]) (by rw [HRR.out];exact HAV.out) (below_set9 HA6.out.bel (Nat.le_add_right _ 1) _ _ _ _ _ _ _ _ _))
   exact ret_arr2 (fn:=Tryz.f13) (p:=4) (u:=5) rfl _ _ (w.heap.size+1) (by rfl) (set9_block HA6.out.res _ _ _ _ _ _ _ _ _)
theorem mbits_8 (H:Nat->Prop) (b:Sl) (n:Nat) (L:Nat->Bool) (w:World) (hH:∀ b,H b->b < w.heap.size) (hn:n<=1000000) (hb:BitsAt w b n L) :
  Calls Tryz.prog 121 #[.int .i64 8,.agg #[.slice b.1 b.2.1 b.2.2,.int .i64 (n:Int)]] w (VecOk H w (fun u W=>NumV u 1 n (fun j=>flagF (!L j)) W)):=by
 obtain ⟨g0,o0,c0,rfl,hc⟩:=hb
 have HH:=Lib.hid hH
 have hv:=heap_alloc_new w (.cells #[.slice (some ⟨g0,o0,none⟩) ((n+63) / 64) c0,.int .i64 (n:Int)] 30)
 have HB:=Lib.hid (bel2 w (.cells #[.slice (some ⟨g0,o0,none⟩) ((n+63) / 64) c0,.int .i64 (n:Int)] 30) (.cells zcells 37))
 have HV:=Lib.hid ((Below.heap_alloc _ (.cells zcells 37) _ (lt_of_block hv)).trans hv)
 have HR:=Lib.hid (heap_alloc_new (w.alloc (.cells #[.slice (some ⟨g0,o0,none⟩) ((n+63) / 64) c0,.int .i64 (n:Int)] 30)) (.cells zcells 37))
 have HN:=Lib.hid (not_any g0 o0 c0 n L _ (by omega) fun j hj=>by rw [HB.out.cell (cell_lt (hc j hj))];exact hc j hj)
 obtain ⟨hv0,hv1,hvf⟩:=pair_of HV.out
 have HZ:Hid ((w.alloc (.cells #[.slice (some ⟨g0,o0,none⟩) ((n+63) / 64) c0,.int .i64 (n:Int)] 30)).heap.size=w.heap.size+1):=by show _=_;simp
 rw [HZ.out] at HR
 clear hv hc hH
 go_enter Tryz.func121,Tryz.ntmps121
 go_wp2_with fail
 refine HN.out.mono ?_
 rintro e w1 ⟨g,rfl,hr,hb1⟩
 have HB1:=Lib.hid (bel_both HB.out hb1)
 have HK1:=Lib.hid (show w1.heap[w.heap.size+1]?=some (.cells zcells 37) by rw [hb1.block _ (lt_of_block HR.out)];exact HR.out)
 have HR1:=Lib.hid hr
 clear hb1 hr hv0 hv1 hvf
 go_wp2_with fail
 refine (vbits_any _ _ _ _ _).mono ?_
 rintro e w2 ⟨rfl,hb2⟩
 have HB2:=Lib.hid (bel_both HB1.out hb2)
 have HK2:=Lib.hid (show w2.heap[w.heap.size+1]?=some (.cells zcells 37) by rw [hb2.block _ (lt_of_block HK1.out)];exact HK1.out)
 have HR2:=Lib.hid (HR1.out.below hb2)
 clear hb2
 have HKE:Hid (Keeps H (set8 w2 (w.heap.size+1) (.int .i64 1) (.slice (some ⟨g,0,none⟩) ((n+63) / 64) ((n+63) / 64)) (.int .i64 (n:Int)) vnil vnil vnil vnil vnil) (NumV (vecW 1 (some ⟨g,0,none⟩,(n+63) / 64,(n+63) / 64) (n:Int) (none,0,0) (none,0,0) (none,0,0) (none,0,0) (none,0,0)) 1 n (fun c=>flagF (!L c)))):=by
  have h1:Keeps (fun j=>H j\/j=w.heap.size+1) w2 (fun W=>Reads1 W (.slice (some ⟨g,0,none⟩) ((n+63) / 64) ((n+63) / 64)) ((List.range ((n+63) / 64)).map fun j => .int .u64 (packW (fun i => !L i) n j:Nat))) :=
   Own1.keepsH HR2.out (fun j e=>by
    have h2:=lt_of_block HR.out
    rcases e with e | e
    ·have:=HH.out j e;omega
    ·omega)
  refine ((h1.imp fun W' h=>numV_bits (by omega) ⟨_,rfl,⟨g,0,_,rfl,fun j hj=>?_⟩⟩).set8 (.inr rfl) _ _ _ _ _ _ _ _).sub fun _ _ e => .inl e
  exact reads_cell h j hj
 have HRE:=Lib.hid (set8_block HK2.out (.int .i64 1) (.slice (some ⟨g,0,none⟩) ((n+63) / 64) ((n+63) / 64)) (.int .i64 (n:Int)) vnil vnil vnil vnil vnil)
 have HBE:=Lib.hid (below_set8 HB2.out (Nat.le_add_right _ 1) (.int .i64 1) (.slice (some ⟨g,0,none⟩) ((n+63) / 64) ((n+63) / 64)) (.int .i64 (n:Int)) vnil vnil vnil vnil vnil)
 obtain ⟨⟨h0,h1,h2,h3,h4,h5,h6,h7⟩,hz⟩:=boxed_of HK2.out
 go_wp2
 refine bodyPost_ret (v := .tuple #[vecW 1 (some ⟨g,0,none⟩,(n+63) / 64,(n+63) / 64) (n:Int) (none,0,0) (none,0,0) (none,0,0) (none,0,0) (none,0,0),.int .i64 0]) ?_ rfl ⟨1,(some ⟨g,0,none⟩,(n+63) / 64,(n+63) / 64),(n:Int),(none,0,0),(none,0,0),(none,0,0),(none,0,0),(none,0,0),rfl,HKE.out,HBE.out⟩
 exact ret_vec2 (fn:=Tryz.f121) (p:=4) (u:=5) rfl _ _ (w.heap.size+1) (by rfl) HRE.out
theorem mbits_keep (H:Nat->Prop) (f:Int) (h8:f≠8) (h4:f≠4) (h2:f≠2) (b:Sl) (n:Nat) (R:Value->World->Prop) (w:World) (hH:∀ b,H b->b < w.heap.size) (hk:Keeps H w (R (vecW 1 b (n:Int) nilS nilS nilS nilS nilS))) :
  Calls Tryz.prog 121 #[.int .i64 f,.agg #[.slice b.1 b.2.1 b.2.2,.int .i64 (n:Int)]] w (VecOk H w R):=by
 obtain ⟨bA,bm,bc⟩:=b
 have HKP:=Lib.hid hk
 have n8:(f==8)=false:=beq_eq_false_iff_ne.2 h8
 have n4:(f==4)=false:=beq_eq_false_iff_ne.2 h4
 have n2:(f==2)=false:=beq_eq_false_iff_ne.2 h2
 clear hk
 have HH:=Lib.hid hH
 have hv:=heap_alloc_new w (.cells #[.slice bA bm bc,.int .i64 (n:Int)] 30)
 have HB:=Lib.hid (bel2 w (.cells #[.slice bA bm bc,.int .i64 (n:Int)] 30) (.cells zcells 37))
 have HV:=Lib.hid ((Below.heap_alloc _ (.cells zcells 37) _ (lt_of_block hv)).trans hv)
 have HR:=Lib.hid (heap_alloc_new (w.alloc (.cells #[.slice bA bm bc,.int .i64 (n:Int)] 30)) (.cells zcells 37))
 obtain ⟨hv0,hv1,hvf⟩:=pair_of HV.out
 have HZ:Hid ((w.alloc (.cells #[.slice bA bm bc,.int .i64 (n:Int)] 30)).heap.size=w.heap.size+1):=by show _=_;simp
 rw [HZ.out] at HR
 clear hv hH
 go_enter Tryz.func121,Tryz.ntmps121
 go_wp2_with fail
 refine (vbits_any _ _ _ _ _).mono ?_
 rintro e w2 ⟨rfl,hb2⟩
 have HB2:=Lib.hid (bel_both HB.out hb2)
 have HK2:=Lib.hid (show w2.heap[w.heap.size+1]?=some (.cells zcells 37) by rw [hb2.block _ (lt_of_block HR.out)];exact HR.out)
 clear hb2
 have HKE:Hid (Keeps H (set8 w2 (w.heap.size+1) (.int .i64 1) (.slice bA bm bc) (.int .i64 (n:Int)) vnil vnil vnil vnil vnil) (R (vecW 1 (bA,bm,bc) (n:Int) nilS nilS nilS nilS nilS))) :=
  ((HKP.out.below HB2.out).set8 (G:=w.heap.size+1) (.inr (Nat.le_add_right _ 1)) _ _ _ _ _ _ _ _).sub fun _ _ e => .inl e
 have HRE:=Lib.hid (set8_block HK2.out (.int .i64 1) (.slice bA bm bc) (.int .i64 (n:Int)) vnil vnil vnil vnil vnil)
 have HBE:=Lib.hid (below_set8 HB2.out (Nat.le_add_right _ 1) (.int .i64 1) (.slice bA bm bc) (.int .i64 (n:Int)) vnil vnil vnil vnil vnil)
 obtain ⟨⟨h0,h1,h2,h3,h4,h5,h6,h7⟩,hz⟩:=boxed_of HK2.out
 go_wp2
 refine bodyPost_ret (v := .tuple #[vecW 1 (bA,bm,bc) (n:Int) (none,0,0) (none,0,0) (none,0,0) (none,0,0) (none,0,0),.int .i64 0]) ?_ rfl ⟨1,(bA,bm,bc),(n:Int),(none,0,0),(none,0,0),(none,0,0),(none,0,0),(none,0,0),rfl,HKE.out,HBE.out⟩
 exact ret_vec2 (fn:=Tryz.f121) (p:=4) (u:=5) rfl _ _ (w.heap.size+1) (by rfl) HRE.out
theorem mbits_4 (H:Nat->Prop) (b:Sl) (n C:Nat) (R:Value->World->Prop) (w:World) (hH:∀ b,H b->b < w.heap.size) (hC:C<=n) (hc:∀ W,Below w.heap.size w W->Calls Tryz.prog 140 #[.agg #[.slice b.1 b.2.1 b.2.2,.int .i64 (n:Int)]] W fun e w'=>e= .returned (.int .i64 (C:Nat))/\Below W.heap.size W w') (hk:C=n->Keeps H w (R (vecW 1 b (n:Int) nilS nilS nilS nilS nilS))) :
  Calls Tryz.prog 121 #[.int .i64 4,.agg #[.slice b.1 b.2.1 b.2.2,.int .i64 (n:Int)]] w fun e w'=>(C=n/\VecOk H w R e w')\/(C < n/\e= .returned (.tuple #[vecV 0 vnil 0 vnil vnil vnil vnil vnil,.int .i64 24])/\Below w.heap.size w w'):=by
 obtain ⟨bA,bm,bc⟩:=b
 have HKP:=Lib.hid hk
 have HC:=Lib.hid hc
 have HL:=Lib.hid (fun W (_:Below w.heap.size w W)=>blen_any (.slice bA bm bc) (n:Int) W)
 clear hk
 have HH:=Lib.hid hH
 have hv:=heap_alloc_new w (.cells #[.slice bA bm bc,.int .i64 (n:Int)] 30)
 have HB:=Lib.hid (bel2 w (.cells #[.slice bA bm bc,.int .i64 (n:Int)] 30) (.cells zcells 37))
 have HV:=Lib.hid ((Below.heap_alloc _ (.cells zcells 37) _ (lt_of_block hv)).trans hv)
 have HR:=Lib.hid (heap_alloc_new (w.alloc (.cells #[.slice bA bm bc,.int .i64 (n:Int)] 30)) (.cells zcells 37))
 obtain ⟨hv0,hv1,hvf⟩:=pair_of HV.out
 have HZ:Hid ((w.alloc (.cells #[.slice bA bm bc,.int .i64 (n:Int)] 30)).heap.size=w.heap.size+1):=by show _=_;simp
 rw [HZ.out] at HR
 clear hv hc hH
 by_cases hlt:C < n
 ·have hli:((C:Nat):Int) < (n:Int):=by omega
  have hld:=decide_eq_true hli
  go_enter Tryz.func121,Tryz.ntmps121
  go_wp2_with fail
  go_region_with (first
   | (go_at_call 140;(refine (HC.out _ ?_).mono ?_);(first | exact (bel2 w _ _).drew | (refine bel_both (bel2 w _ _).drew ?_;assumption));rintro e w1 ⟨rfl,hb1⟩;obtain ⟨hc1,hf1⟩:=bcell2 hb1;have hz1:=hb1.size)
   | (go_at_call 151;go_loud ((refine (HL.out _ ?_).mono ?_);(first | exact (bel2 w _ _).drew | exact bel_both (bel2 w _ _).drew hb1);rintro e w2 ⟨rfl,hb2⟩);obtain ⟨hc2,hf2⟩:=bcell2 hb2;have hz2:=hb2.size))
  all_goals
   have HB3:=Lib.hid (bel_both (bel_both HB.out.drew hb1) hb2)
   have HK3:=Lib.hid (show w2.heap[w.heap.size+1]?=some (.cells zcells 37) by rw [hb2.block _ (by have:=lt_of_block HR.out;have:=hb1.size;exact Nat.lt_of_lt_of_le (lt_of_block HR.out) this),hb1.block _ (lt_of_block HR.out)];exact HR.out)
   have HV3:=Lib.hid (show w2.heap[w.heap.size]?=some (.cells #[.slice bA bm bc,.int .i64 (n:Int)] 30) by rw [hb2.block _ (by have:=hb1.size;exact Nat.lt_of_lt_of_le (lt_of_block HV.out) this),hb1.block _ (lt_of_block HV.out)];exact HV.out)
   clear hb1 hb2 hc1 hf1 hc2 hf2 hz1 hz2 hv0 hv1 hvf
   obtain ⟨⟨h0,h1,h2,h3,h4,h5,h6,h7⟩,hz⟩:=boxed_of HK3.out
   go_wp2
   refine bodyPost_ret (v := .tuple #[vecV 0 vnil 0 vnil vnil vnil vnil vnil,.int .i64 24]) ?_ rfl (.inr ⟨hlt,rfl,below_set8 HB3.out (Nat.le_add_right _ 1) _ _ _ _ _ _ _ _⟩)
   exact ret_vec2 (fn:=Tryz.f121) (p:=4) (u:=5) rfl _ _ (w.heap.size+1) (by rfl) (set8_block HK3.out _ _ _ _ _ _ _ _)
 ·have hli:¬ ((C:Nat):Int) < (n:Int):=by omega
  have hld:=decide_eq_false hli
  go_enter Tryz.func121,Tryz.ntmps121
  go_wp2_with fail
  go_region_with (first
   | (go_at_call 140;(refine (HC.out _ ?_).mono ?_);(first | exact (bel2 w _ _).drew | (refine bel_both (bel2 w _ _).drew ?_;assumption));rintro e w1 ⟨rfl,hb1⟩;obtain ⟨hc1,hf1⟩:=bcell2 hb1;have hz1:=hb1.size)
   | (go_at_call 151;go_loud ((refine (HL.out _ ?_).mono ?_);(first | exact (bel2 w _ _).drew | exact bel_both (bel2 w _ _).drew hb1);rintro e w2 ⟨rfl,hb2⟩);obtain ⟨hc2,hf2⟩:=bcell2 hb2;have hz2:=hb2.size))
  all_goals
   have HB3:=Lib.hid (bel_both (bel_both HB.out.drew hb1) hb2)
   have HK3:=Lib.hid (show w2.heap[w.heap.size+1]?=some (.cells zcells 37) by rw [hb2.block _ (by have:=lt_of_block HR.out;have:=hb1.size;exact Nat.lt_of_lt_of_le (lt_of_block HR.out) this),hb1.block _ (lt_of_block HR.out)];exact HR.out)
   have HV3:=Lib.hid (show w2.heap[w.heap.size]?=some (.cells #[.slice bA bm bc,.int .i64 (n:Int)] 30) by rw [hb2.block _ (by have:=hb1.size;exact Nat.lt_of_lt_of_le (lt_of_block HV.out) this),hb1.block _ (lt_of_block HV.out)];exact HV.out)
   clear hb1 hb2 hc1 hf1 hc2 hf2 hz1 hz2 hv0 hv1 hvf
   obtain ⟨hv0,hv1,hvf⟩:=pair_of HV3.out
   go_wp2_with fail
   refine (vbits_any _ _ _ _ _).mono ?_
   rintro e w4 ⟨rfl,hb4⟩
   have HB2:=Lib.hid (bel_both HB3.out hb4)
   have HK2:=Lib.hid (show w4.heap[w.heap.size+1]?=some (.cells zcells 37) by rw [hb4.block _ (lt_of_block HK3.out)];exact HK3.out)
   clear hb4
   have HKE:Hid (Keeps H (set8 w4 (w.heap.size+1) (.int .i64 1) (.slice bA bm bc) (.int .i64 (n:Int)) vnil vnil vnil vnil vnil) (R (vecW 1 (bA,bm,bc) (n:Int) nilS nilS nilS nilS nilS))) :=
    (((HKP.out (by omega)).below HB2.out).set8 (G:=w.heap.size+1) (.inr (Nat.le_add_right _ 1)) _ _ _ _ _ _ _ _).sub fun _ _ e => .inl e
   have HRE:=Lib.hid (set8_block HK2.out (.int .i64 1) (.slice bA bm bc) (.int .i64 (n:Int)) vnil vnil vnil vnil vnil)
   have HBE:=Lib.hid (below_set8 HB2.out (Nat.le_add_right _ 1) (.int .i64 1) (.slice bA bm bc) (.int .i64 (n:Int)) vnil vnil vnil vnil vnil)
   obtain ⟨⟨h0,h1,h2,h3,h4,h5,h6,h7⟩,hz⟩:=boxed_of HK2.out
   go_wp2
   refine bodyPost_ret (v := .tuple #[vecW 1 (bA,bm,bc) (n:Int) (none,0,0) (none,0,0) (none,0,0) (none,0,0) (none,0,0),.int .i64 0]) ?_ rfl (.inl ⟨by omega,1,(bA,bm,bc),(n:Int),(none,0,0),(none,0,0),(none,0,0),(none,0,0),(none,0,0),rfl,HKE.out,HBE.out⟩)
   exact ret_vec2 (fn:=Tryz.f121) (p:=4) (u:=5) rfl _ _ (w.heap.size+1) (by rfl) HRE.out
theorem Row64.made (w:World) (B:Nat) (hB:B<=w.heap.size) (T:Nat) (hT:T<=maxLen):Row64 (w.alloc (.cells (madeCells #[.int .i64 0] T) 2)) B w.heap.size T (fun _=>0):=by
 have h:=World.ownsRow_lit (base:=B) (e:=2) (size:=1) w (madeCells #[.int .i64 0] T) T hB hT (by rw [size_madeCells];omega)
 rw [toList_madeCells_one] at h
 refine Row64.of_ow ?_
 have e:((List.range T).map fun _:Nat=>Value.int .i64 0)=List.replicate T (.int .i64 0):=by
  rw [List.map_const',List.length_range]
 rw [e]
 exact h
theorem idx_surj {outer n inner j:Nat} (h:j < outer*n*inner):∃ o k i,o < outer/\k < inner/\i < n/\j=o*n*inner+k+i*inner:=by
 have hi:0 < inner:=by
  rcases Nat.eq_zero_or_pos inner with e | e
  ·rw [e,Nat.mul_zero] at h;omega
  ·exact e
 have hn:0 < n:=by
  rcases Nat.eq_zero_or_pos n with e | e
  ·rw [e,Nat.mul_zero,Nat.zero_mul] at h;omega
  ·exact e
 have hni:0 < n*inner:=Nat.mul_pos hn hi
 refine ⟨j / (n*inner),(j % (n*inner)) % inner,(j % (n*inner)) / inner,?_,Nat.mod_lt _ hi,?_,?_⟩
 ·refine Nat.div_lt_of_lt_mul ?_
  rw [Nat.mul_comm,<- Nat.mul_assoc]
  exact h
 ·refine Nat.div_lt_of_lt_mul ?_
  exact Nat.lt_of_lt_of_eq (Nat.mod_lt _ hni) (Nat.mul_comm _ _)
 ·have h1:=Nat.div_add_mod j (n*inner)
  have h2:=Nat.div_add_mod (j % (n*inner)) inner
  have h3:j / (n*inner)*n*inner=n*inner*(j / (n*inner)):=by rw [Nat.mul_assoc,Nat.mul_comm]
  have h4:(j % (n*inner)) / inner*inner=inner*((j % (n*inner)) / inner):=Nat.mul_comm _ _
  omega
def Done (n inner o k:Nat) (Z F:Nat->Int):Prop:=∀ o' k' i,(o' < o\/(o'=o/\k' < k))->k' < inner->i < n->F (o'*n*inner+k'+i*inner)=Z (o'*n*inner+k'+i*inner)
theorem Done.zero (n inner:Nat) (Z F:Nat->Int):Done n inner 0 0 Z F:=fun o' k' i h=>by omega
theorem Done.all {outer n inner:Nat}{Z F:Nat->Int} (h:Done n inner outer 0 Z F):((List.range (outer*n*inner)).map fun j=>Value.int .i64 (F j))=((List.range (outer*n*inner)).map fun j => .int .i64 (Z j)):=by
 apply List.map_congr_left
 intro j hj
 obtain ⟨o,k,i,h1,h2,h3,rfl⟩:=idx_surj (List.mem_range.1 hj)
 rw [h o k i (.inl h1) h2 h3]
def RowF (w:World) (B g T:Nat) (F:Nat->Nat):Prop:=Own1 w B 55 (.slice (some ⟨g,0,none⟩) T T) ((List.range T).map fun j => .float .f64 (F j))
theorem RowF.ow {w:World}{B g T:Nat}{F:Nat->Nat} (h:RowF w B g T F):w.ownsRow B 55 1 (.slice (some ⟨g,0,none⟩) T T) T ((List.range T).map fun j => .float .f64 (F j)):=by
 have:=h
 unfold RowF Own1 at this
 rw [List.length_map,List.length_range] at this
 exact this
theorem RowF.of_ow {w:World}{B g T:Nat}{F:Nat->Nat} (h:w.ownsRow B 55 1 (.slice (some ⟨g,0,none⟩) T T) T ((List.range T).map fun j => .float .f64 (F j))):RowF w B g T F:=by
 unfold RowF Own1
 rw [List.length_map,List.length_range]
 exact h
theorem RowF.put {w:World}{B g T:Nat}{F:Nat->Nat} (h:RowF w B g T F){k:Nat} (hk:k < T) (z:Nat):RowF (w.setCell ⟨g,k,none⟩ (.float .f64 z)) B g T (fun j=>if j=k then z else F j):=by
 have h2:=(World.ownsRow.stored h.ow k (.float .f64 z)).1
 rw [set_map_range hk] at h2
 refine RowF.of_ow ?_
 have e:((List.range T).map fun j=>Value.float .f64 (if j=k then z else F j))=(List.range T).map fun j=>if j=k then .float .f64 z else .float .f64 (F j):=by
  apply List.map_congr_left
  intro j _
  split <;> rfl
 rw [e]
 exact h2
theorem RowF.cell {w:World}{B g T:Nat}{F:Nat->Nat} (h:RowF w B g T F){k:Nat} (hk:k < T):w.cell? ⟨g,k,none⟩=some (.float .f64 (F k)):=by
 have:=World.ownsRow.cellAt h.ow k (by omega)
 rw [this]
 simp [hk]
theorem RowF.frozen {w:World}{B g T:Nat}{F:Nat->Nat} (h:RowF w B g T F) (k:Nat):w.frozen? ⟨g,k,none⟩=false:=World.ownsRow.frozenAt h.ow k
theorem RowF.low {w:World}{B g T:Nat}{F:Nat->Nat} (h:RowF w B g T F):B<=g/\g < w.heap.size:=World.ownsRow.lt h.ow g rfl
theorem RowF.made (w:World) (B:Nat) (hB:B<=w.heap.size) (T:Nat) (hT:T<=maxLen):RowF (w.alloc (.cells (madeCells #[.float .f64 0] T) 55)) B w.heap.size T (fun _=>0):=by
 have h:=World.ownsRow_lit (base:=B) (e:=55) (size:=1) w (madeCells #[.float .f64 0] T) T hB hT (by rw [size_madeCells];omega)
 rw [toList_madeCells_one] at h
 refine RowF.of_ow ?_
 have e:((List.range T).map fun _:Nat=>Value.float .f64 0)=List.replicate T (.float .f64 0):=by
  rw [List.map_const',List.length_range]
 rw [e]
 exact h
theorem RowF.below {w w':World}{B g T:Nat}{F:Nat->Nat} (h:RowF w B g T F) (hb:Below w.heap.size w w'):RowF w' B g T F:=Own1.below h hb
def DoneF (r:Nat->Option Nat) (n inner o k i:Nat) (F:Nat->Nat):Prop :=
 ∀ o' k' i',k' < inner->i' < n->(o' < o\/(o'=o/\(k' < k\/(k'=k/\i' < i))))->r (o'*n*inner+k'+i'*inner)=some (F (o'*n*inner+k'+i'*inner))
theorem DoneF.zero (r:Nat->Option Nat) (n inner:Nat) (F:Nat->Nat):DoneF r n inner 0 0 0 F:=fun o' k' i' _ _ h=>by omega
theorem DoneF.put {r:Nat->Option Nat}{n inner o k i I y:Nat}{F:Nat->Nat} (h:DoneF r n inner o k i F) (hI:I=o*n*inner+k+i*inner) (hr:r I=some y):DoneF r n inner o k (i+1) (fun j=>if j=I then y else F j):=by
 intro o' k' i' h1 h2 h3
 show _=some (if o'*n*inner+k'+i'*inner=I then y else F (o'*n*inner+k'+i'*inner))
 by_cases e:o'*n*inner+k'+i'*inner=I
 ·rw [if_pos e,e];exact hr
 ·rw [if_neg e]
  refine h o' k' i' h1 h2 ?_
  by_cases e2:o'=o/\k'=k/\i'=i
  ·obtain ⟨rfl,rfl,rfl⟩:=e2
   exact absurd hI.symm e
  ·omega
theorem DoneF.all {r:Nat->Option Nat}{outer n inner:Nat}{F:Nat->Nat} (h:DoneF r n inner outer 0 0 F):∀ j,j < outer*n*inner->r j=some (F j):=by
 intro j hj
 obtain ⟨o,k,i,h1,h2,h3,rfl⟩:=idx_surj hj
 exact h o k i h2 h3 (.inl h1)
def RowV (e:TypeId) (w:World) (B g T:Nat) (F:Nat->Value):Prop:=Own1 w B e (.slice (some ⟨g,0,none⟩) T T) ((List.range T).map F)
theorem RowV.ow {e:TypeId}{w:World}{B g T:Nat}{F:Nat->Value} (h:RowV e w B g T F):w.ownsRow B e 1 (.slice (some ⟨g,0,none⟩) T T) T ((List.range T).map F):=by
 have:=h
 unfold RowV Own1 at this
 rw [List.length_map,List.length_range] at this
 exact this
theorem RowV.of_ow {e:TypeId}{w:World}{B g T:Nat}{F:Nat->Value} (h:w.ownsRow B e 1 (.slice (some ⟨g,0,none⟩) T T) T ((List.range T).map F)):RowV e w B g T F:=by
 unfold RowV Own1
 rw [List.length_map,List.length_range]
 exact h
theorem RowV.put {e:TypeId}{w:World}{B g T:Nat}{F:Nat->Value} (h:RowV e w B g T F){k:Nat} (hk:k < T) (u:Value):RowV e (w.setCell ⟨g,k,none⟩ u) B g T (fun j=>if j=k then u else F j):=by
 have h2:=(World.ownsRow.stored h.ow k u).1
 rw [set_map_range hk] at h2
 exact RowV.of_ow h2
theorem RowV.cell {e:TypeId}{w:World}{B g T:Nat}{F:Nat->Value} (h:RowV e w B g T F){k:Nat} (hk:k < T):w.cell? ⟨g,k,none⟩=some (F k):=by
 have:=World.ownsRow.cellAt h.ow k (by omega)
 rw [this]
 simp [hk]
theorem RowV.frozen {e:TypeId}{w:World}{B g T:Nat}{F:Nat->Value} (h:RowV e w B g T F) (k:Nat):w.frozen? ⟨g,k,none⟩=false:=World.ownsRow.frozenAt h.ow k
theorem RowV.low {e:TypeId}{w:World}{B g T:Nat}{F:Nat->Value} (h:RowV e w B g T F):B<=g/\g < w.heap.size:=World.ownsRow.lt h.ow g rfl
theorem RowV.made (e:TypeId) (z:Value) (w:World) (B:Nat) (hB:B<=w.heap.size) (T:Nat) (hT:T<=maxLen):RowV e (w.alloc (.cells (madeCells #[z] T) e)) B w.heap.size T (fun _=>z):=by
 have h:=World.ownsRow_lit (base:=B) (e:=e) (size:=1) w (madeCells #[z] T) T hB hT (by rw [size_madeCells];omega)
 rw [toList_madeCells_one] at h
 refine RowV.of_ow ?_
 have e2:((List.range T).map fun _:Nat=>z)=List.replicate T z:=by
  rw [List.map_const',List.length_range]
 rw [e2]
 exact h
theorem RowV.below {e:TypeId}{w w':World}{B g T:Nat}{F:Nat->Value} (h:RowV e w B g T F) (hb:Below w.heap.size w w'):RowV e w' B g T F:=Own1.below h hb
def lessI (O:List Nat) (i j:Nat):Value := .int .i8 (if j∈O.take i then -1 else 0)
theorem lessI_zero (O:List Nat):lessI O 0=fun _ => .int .i8 0:=by
 funext j
 unfold lessI
 rw [List.take_zero,if_neg (List.not_mem_nil)]
theorem lessI_succ (O:List Nat) (i:Nat) (h:i < O.length):(fun j=>if j=O.getD i 0 then Value.int .i8 (-1) else lessI O i j)=lessI O (i+1):=by
 funext j
 have e:O.getD i 0=O[i]:=by rw [List.getD_eq_getElem?_getD,List.getElem?_eq_getElem h];rfl
 unfold lessI
 rw [List.take_succ_eq_append_getElem h,e]
 by_cases hj:j=O[i]
 ·rw [if_pos hj,if_pos (by rw [hj];exact List.mem_append_right _ (List.mem_singleton.2 rfl))]
 ·rw [if_neg hj]
  by_cases hm:j∈O.take i
  ·rw [if_pos hm,if_pos (List.mem_append_left _ hm)]
  ·rw [if_neg hm,if_neg (fun h2=>by
    rcases List.mem_append.1 h2 with h2 | h2
    ·exact hm h2
    ·exact hj (List.mem_singleton.1 h2))]
theorem onesL_all (L:Nat->Bool) (n M:Nat) (hM:n<=64*M) (j:Nat) (hj:j < n):lessI (onesL (cutB L n) (64*M)) (onesL (cutB L n) (64*M)).length j= .int .i8 (if L j=true then -1 else 0):=by
 unfold lessI
 rw [List.take_length]
 have e:j∈onesL (cutB L n) (64*M)↔L j=true:=by
  unfold onesL
  rw [List.mem_filter,List.mem_range]
  unfold cutB
  rw [Bool.and_eq_true,decide_eq_true_eq]
  exact ⟨fun h=>h.2.2,fun h=>⟨by omega,hj,h⟩⟩
 by_cases h:L j=true
 ·rw [if_pos (e.2 h),if_pos h]
 ·rw [if_neg (fun h2=>h (e.1 h2)),if_neg h]
theorem onesL_in (L:Nat->Bool) (n M i:Nat) (h:i < (onesL (cutB L n) (64*M)).length):(onesL (cutB L n) (64*M)).getD i 0 < n:=by
 have hm:(onesL (cutB L n) (64*M))[i]∈onesL (cutB L n) (64*M):=List.getElem_mem h
 have e:(onesL (cutB L n) (64*M)).getD i 0=(onesL (cutB L n) (64*M))[i]:=by rw [List.getD_eq_getElem?_getD,List.getElem?_eq_getElem h];rfl
 rw [e]
 have h2:=(List.mem_filter.1 (show (onesL (cutB L n) (64*M))[i]∈(List.range (64*M)).filter (cutB L n) from hm)).2
 unfold cutB at h2
 rw [Bool.and_eq_true,decide_eq_true_eq] at h2
 exact h2.1
theorem mbits_2 (H:Nat->Prop) (b:Sl) (n:Nat) (O:List Nat) (L:Nat->Bool) (w:World) (hH:∀ b,H b->b < w.heap.size) (hn:n<=1000000) (hO1:∀ i,i < O.length->O.getD i 0 < n) (hO2:∀ j,j < n->lessI O O.length j= .int .i8 (if L j=true then -1 else 0)) (hOl:O.length<=1048640)
  (hon:∀ W,Below w.heap.size w W->Calls Tryz.prog 191 #[.agg #[.slice b.1 b.2.1 b.2.2,.int .i64 (n:Int)]] W fun e w'=>∃ a m c,e= .returned (.slice a m c)/\Own1 w' W.heap.size 3 (.slice a m c) (O.map fun j => .int .i64 (j:Nat))/\Below W.heap.size W w') :
  Calls Tryz.prog 121 #[.int .i64 2,.agg #[.slice b.1 b.2.1 b.2.2,.int .i64 (n:Int)]] w (VecOk H w (fun u W=>NumV u (leastF (fun j=>fi (if L j=true then -1 else 0)) n:Nat) n (fun j=>fi (if L j=true then -1 else 0)) W)):=by
 obtain ⟨bA,bm,bc⟩:=b
 have HL:=Lib.hid (fun W (_:Below w.heap.size w W)=>blen_any (.slice bA bm bc) (n:Int) W)
 have HON:=Lib.hid hon
 have HALL:=Lib.hid hO2
 have HIN:=Lib.hid hO1
 obtain ⟨N,hN⟩:∃ N,N=O.length:=⟨_,rfl⟩
 have hNb:N<=1048640:=by omega
 have HN:=Lib.hid hN
 have HH:=Lib.hid hH
 have hv:=heap_alloc_new w (.cells #[.slice bA bm bc,.int .i64 (n:Int)] 30)
 have HB:=Lib.hid (bel2 w (.cells #[.slice bA bm bc,.int .i64 (n:Int)] 30) (.cells zcells 37))
 have HV:=Lib.hid ((Below.heap_alloc _ (.cells zcells 37) _ (lt_of_block hv)).trans hv)
 have HR:=Lib.hid (heap_alloc_new (w.alloc (.cells #[.slice bA bm bc,.int .i64 (n:Int)] 30)) (.cells zcells 37))
 obtain ⟨hv0,hv1,hvf⟩:=pair_of HV.out
 have HZ:Hid ((w.alloc (.cells #[.slice bA bm bc,.int .i64 (n:Int)] 30)).heap.size=w.heap.size+1):=by show _=_;simp
 rw [HZ.out] at HR
 have hmk:=run_make_row' (P:=Tryz.prog) 31 219 (.int .i8 0) 1 Tryz.underlying31 info_i8 rfl .i64 .i64 n (by omega) (by omega)
 clear hv hH hO1 hO2 hOl hon
 go_enter Tryz.func121,Tryz.ntmps121
 go_wp2_with fail
 refine (HL.out _ HB.out).mono ?_
 rintro e w2 ⟨rfl,hb2⟩
 have HB2:=Lib.hid (bel_both HB.out hb2)
 have HV2:=Lib.hid (show w2.heap[w.heap.size]?=some (.cells #[.slice bA bm bc,.int .i64 (n:Int)] 30) by rw [hb2.block _ (lt_of_block HV.out)];exact HV.out)
 have HK2:=Lib.hid (show w2.heap[w.heap.size+1]?=some (.cells zcells 37) by rw [hb2.block _ (lt_of_block HR.out)];exact HR.out)
 clear hb2 hv0 hv1 hvf HV HR HB
 obtain ⟨G,hG⟩:∃ G,G=w2.heap.size:=⟨_,rfl⟩
 have hG2:w.heap.size+2<=G:=by rw [hG];exact lt_of_block HK2.out
 have HR3:=Lib.hid (RowV.made 219 (.int .i8 0) w2 (w.heap.size+2) (by omega) n (by unfold maxLen;omega))
 have HB3:=Lib.hid (bel_both HB2.out (bel1 w2 (.cells (madeCells #[.int .i8 0] n) 219)))
 have HV3:=Lib.hid (show (w2.alloc (.cells (madeCells #[.int .i8 0] n) 219)).heap[w.heap.size]?=some (.cells #[.slice bA bm bc,.int .i64 (n:Int)] 30) by rw [Below.heap_alloc _ _ _ (lt_of_block HV2.out)];exact HV2.out)
 have HK3:=Lib.hid (show (w2.alloc (.cells (madeCells #[.int .i8 0] n) 219)).heap[w.heap.size+1]?=some (.cells zcells 37) by rw [Below.heap_alloc _ _ _ (lt_of_block HK2.out)];exact HK2.out)
 rw [<- hG] at HR3
 clear HB2 HK2
 obtain ⟨p03,p13,pf3⟩:=pair_of HV3.out
 go_wp2_with fail
 rw [<- hG]
 refine (HON.out _ HB3.out).mono ?_
 rintro e w4 ⟨a,m,c4,rfl,hown,hb4⟩
 have HB4:=Lib.hid (bel_both HB3.out hb4)
 have HR4:=Lib.hid (HR3.out.below hb4)
 have HK4:=Lib.hid (show w4.heap[w.heap.size+1]?=some (.cells zcells 37) by rw [hb4.block _ (lt_of_block HK3.out)];exact HK3.out)
 have hGs:G < w4.heap.size:=HR4.out.low.2
 have hao:∀ g,(Value.slice a m c4).ownBlock=some g->G < g:=fun g hg=>by
  have h1:=World.ownsRow.lt hown g hg
  have h2:=HR3.out.low.2
  omega
 have hr:=hown.reads
 rw [<- map_range_getD O 0 (fun j=>Value.int .i64 (j:Nat)),<- hN] at hr
 obtain ⟨a2,c3,e2,hcell⟩:=reads_at hr
 injection e2 with e3 e4 e5
 subst e3 e4 e5
 have HC:=Lib.hid hcell
 have HAO:=Lib.hid hao
 clear hr hown hb4 hcell hN hG hao p03 p13 pf3 HR3 HB3 HK3 HV3 HV2 hmk HL HON
 have HR0:Hid (RowV 219 w4 (w.heap.size+2) G n (lessI O 0)):=by unfold Hid;rw [lessI_zero];exact HR4.out
 have HLT0:=Lib.hid (Lat.below (H:=fun b=>b=G) (Below.refl w4.heap.size w4))
 clear HR4
 go_wp2_with fail
 go_loopw [31] (fun ii wr=>∃ i:Nat,i<=m/\ii= .int .i64 i/\RowV 219 wr (w.heap.size+2) G n (lessI O i)/\Lat (fun b=>b=G) w4 wr/\Below w.heap.size w wr) (fun ii _=>m - (intOf ii).toNat)
 case atStart=>exact ⟨0,Nat.zero_le _,rfl,HR0.out,HLT0.out,HB4.out⟩
 case round =>
  obtain ⟨i,hi,rfl,hrow,hlat,hblr⟩:=hrel
  have HBLR:=Lib.hid hblr
  have HROW:=Lib.hid hrow
  have HLAT:=Lib.hid hlat
  clear hrow hlat hblr HR0 HLT0
  by_cases hlt:i < m
  ·obtain ⟨b2,o2,ea,hc1⟩:=HC.out i hlt
   subst ea
   have hbg:G < b2:=HAO.out b2 rfl
   have hcell:wr.cell? ⟨b2,o2+i,none⟩=some (.int .i64 ((O.getD i 0:Nat):Int)):=by
    rw [World.cell?_of_block (w:=w4) (HLAT.out.block b2 (cell_lt hc1) (by omega))];exact hc1
   have hx:=HIN.out i (by rw [<- HN.out];exact hlt)
   have hput:=HROW.out.put hx (.int .i8 (-1))
   rw [lessI_succ O i (by rw [<- HN.out];exact hlt)] at hput
   have HPUT:=Lib.hid hput
   have hcw:=HROW.out.cell hx
   have hfw:=HROW.out.frozen (O.getD i 0)
   have HL2:=Lib.hid (HLAT.out.trans (Lat.set (H:=fun b=>b=G) (w:=wr) (a:=⟨G,O.getD i 0,none⟩) rfl (.int .i8 (-1))))
   have HB2:=Lib.hid (HBLR.out.setCell (p:=⟨G,O.getD i 0,none⟩) (by show _<=G;omega) (.int .i8 (-1)))
   clear hput hc1 hbg
   generalize O.getD i 0=x at *
   go_wp2
   go_roundw
   case rel=>exact ⟨i+1,by omega,by go_num,HPUT.out,HL2.out,HB2.out⟩
   case measure=>simp [intOf];omega
  ·obtain rfl:i=m:=by omega
   have HRW:Hid (Reads1 wr (.slice (some ⟨G,0,none⟩) n n) (((List.range n).map fun j=>if L j=true then (-1:Int) else 0).map (.int .i8))):=by
    have h:=Own1.reads HROW.out
    have e:(List.range n).map (lessI O i)=((List.range n).map fun j=>if L j=true then (-1:Int) else 0).map (.int .i8):=by
     rw [List.map_map]
     exact List.map_congr_left fun j hj=>by
      have:=HALL.out j (List.mem_range.1 hj)
      rw [<- HN.out] at this
      exact this
    rw [e] at h
    exact h
   have HSM:=Lib.hid (smalls_any (w:=wr) HRW.out (by simpa using hn))
   have HKR:Hid (wr.heap[w.heap.size+1]?=some (.cells zcells 37)):=by
    unfold Hid;rw [HLAT.out.block _ (lt_of_block HK4.out) (by omega)];exact HK4.out
   have HBR:=HBLR
   clear HROW HC HALL HIN
   go_wp2_with fail
   refine HSM.out.mono ?_
   rintro e w5 ⟨u,rfl,ho,hb5⟩
   obtain ⟨uA,un,uc,rfl⟩:∃ A n c,u= .slice A n c:=by obtain ⟨a,c,e⟩:=ho.reads.len;exact ⟨a,_,c,e⟩
   have HK5:=Lib.hid (show w5.heap[w.heap.size+1]?=some (.cells zcells 37) by rw [hb5.block _ (lt_of_block HKR.out)];exact HKR.out)
   have HB5:=Lib.hid (bel_both HBR.out hb5)
   have HHR:Hid (∀ b,(H b\/b=w.heap.size+1)->b < wr.heap.size):=fun b e=>by
    have h1:=lt_of_block HKR.out
    rcases e with e | e
    ·have:=HH.out b e;omega
    ·omega
   have HKV:Hid (Keeps (fun b=>H b\/b=w.heap.size+1) w5 (NumV (vecW 2 nilS 0 (uA,un,uc) nilS nilS nilS nilS) 2 n (fun j=>fi (if L j=true then -1 else 0)))) :=
    (Own1.keepsH ho HHR.out).imp fun W' h=>numV_small ⟨⟨_,rfl,by rw [List.map_map] at h;exact h⟩,fun j _=>by dsimp only;split <;> decide⟩
   have HSQ:=Lib.hid (squeeze_num (fun b=>H b\/b=w.heap.size+1) 2 nilS 0 (uA,un,uc) nilS nilS nilS nilS n _ w5 (fun b e=>by
    have h1:=HHR.out b e
    have h2:=hb5.size
    omega) hn HKV.out)
   clear hb5 ho HKV HSM
   go_wp2_with fail
   refine HSQ.out.mono ?_
   rintro e w6 ⟨k5,b5,bn5,s5,i5,f5,c5,x5,rfl,hk5,hb6⟩
   have HK6:=Lib.hid (show w6.heap[w.heap.size+1]?=some (.cells zcells 37) by rw [hb6.block _ (lt_of_block HK5.out)];exact HK5.out)
   have HB6:=Lib.hid (bel_both HB5.out hb6)
   have HKK:=Lib.hid hk5
   clear hb6 hk5
   have HKE:=Lib.hid ((HKK.out.set8 (.inr rfl) (.int .i64 k5) (.slice b5.1 b5.2.1 b5.2.2) (.int .i64 bn5) (.slice s5.1 s5.2.1 s5.2.2) (.slice i5.1 i5.2.1 i5.2.2) (.slice f5.1 f5.2.1 f5.2.2) (.slice c5.1 c5.2.1 c5.2.2) (.slice x5.1 x5.2.1 x5.2.2)).sub (H':=H) fun _ _ e => .inl e)
   have HBE:=Lib.hid (below_set8 HB6.out (Nat.le_add_right _ 1) (.int .i64 k5) (.slice b5.1 b5.2.1 b5.2.2) (.int .i64 bn5) (.slice s5.1 s5.2.1 s5.2.2) (.slice i5.1 i5.2.1 i5.2.2) (.slice f5.1 f5.2.1 f5.2.2) (.slice c5.1 c5.2.1 c5.2.2) (.slice x5.1 x5.2.1 x5.2.2))
   have HRE:=Lib.hid (set8_block HK6.out (.int .i64 k5) (.slice b5.1 b5.2.1 b5.2.2) (.int .i64 bn5) (.slice s5.1 s5.2.1 s5.2.2) (.slice i5.1 i5.2.1 i5.2.2) (.slice f5.1 f5.2.1 f5.2.2) (.slice c5.1 c5.2.1 c5.2.2) (.slice x5.1 x5.2.1 x5.2.2))
   obtain ⟨⟨h0,h1,h2,h3,h4,h5,h6,h7⟩,hz⟩:=boxed_of HK6.out
   go_wp2
   refine bodyPost_ret (v := .tuple #[vecW k5 b5 bn5 s5 i5 f5 c5 x5,.int .i64 0]) ?_ rfl ⟨k5,b5,bn5,s5,i5,f5,c5,x5,rfl,HKE.out,HBE.out⟩
   exact ret_vec2 (fn:=Tryz.f121) (p:=4) (u:=5) rfl _ _ (w.heap.size+1) (by rfl) HRE.out
end Go.Proofs.YtiahegjdkejjpaaGreatDoor
