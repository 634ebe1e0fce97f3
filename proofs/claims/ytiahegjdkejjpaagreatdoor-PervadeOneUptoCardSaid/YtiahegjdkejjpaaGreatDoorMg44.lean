/- The walk of rebusref24.One at numbers, at characters and at unknown functions. The walk of rebusref24.One at boxes, over a contract of One at what lies in .. Conditions: as each theorem says. -/
import Derived.Test.YtiahegjdkejjpaaGreatDoorMg37
import Derived.Test.YtiahegjdkejjpaaGreatDoorMg43
import Derived.Test.YtiahegjdkejjpaaGreatDoorMg41
import Derived.Test.YtiahegjdkejjpaaGreatDoorMg42
import Derived.Test.YtiahegjdkejjpaaGreatDoorRows
import Derived.Test.YtiahegjdkejjpaaGreatDoorMg23
import Derived.ProofKit
import Derived.Deep.Slices
import Derived.Deep.Fields
import Derived.ChangeSame
set_option maxRecDepth 100000
set_option maxHeartbeats 4000000
namespace Go.Proofs.YtiahegjdkejjpaaGreatDoor
open Go Go.RowKit Go.Proofs Fl
theorem oneN_ok {f:Int}{s l:List Nat} (h:∀ j,j < l.length->(monP f (l.getD j 0)).2=0):(oneN f s l).1=0/\rawP (oneN f s l).2= .mk (s.map Int.ofNat) ((List.range l.length).map fun j=>RI.mk 0 (monP f (l.getD j 0)).1 0 []) 0:=by
 unfold oneN
 rcases numsE_cases l.length (fun c=>monP f (l.getD c 0)) with ⟨⟨c,hc,h1⟩,_⟩ | ⟨_,hq⟩
 ·exact absurd (h c hc) h1
 ·rw [show monL f l=(0,(List.range l.length).map fun c=>(monP f (l.getD c 0)).1) from hq,if_neg (by simp)]
  refine ⟨rfl,?_⟩
  rw [rawP,List.map_map]
  rfl
theorem oneN_bad {f:Int}{s l:List Nat}{c:Nat} (hc:c < l.length) (h:(monP f (l.getD c 0)).2≠0):(oneN f s l).1=24:=by
 unfold oneN
 rcases numsE_cases l.length (fun c=>monP f (l.getD c 0)) with ⟨_,hq⟩ | ⟨h1,_⟩
 ·rw [show monL f l=(24,[]) from hq,if_pos (by simp)]
 ·exact absurd (h1 c hc) h
theorem ro_nums (H:Nat->Prop) (f:Int) (hf:1<=f/\f<=8) (s l:List Nat) (h x:Sl) (w:World) (hH:∀ b,H b->b < w.heap.size) (hl:l.length<=1000000) (htf:∀ j,j < l.length->TF (l.getD j 0)) (hr:PV H w (rawP (.nums s l)) h x 0) :
  Calls Tryz.prog 15 #[.int .i64 f,plV h x 0] w (RtU H w (oneN f s l)):=by
 rw [rawP] at hr
 obtain ⟨hsr,_,hx,hit⟩:=hr.open_
 obtain ⟨A,m,cc⟩:=x
 dsimp only at hx hit
 rw [List.length_map] at hx
 subst hx
 have hf1:¬ f < 1:=by omega
 have hf8:¬ 8 < f:=by omega
 have hd1:=decide_eq_false hf1
 have hd8:=decide_eq_false hf8
 have HONE:=Lib.hid (fun j (hj:j < l.length) W=>rmon_any f hf.1 hf.2 (l.getD j 0) (htf j hj) W)
 have HCS:=Lib.hid (fun j (hj:j < l.length)=>monP_cases hf.1 hf.2 (htf j hj))
 have HOK:=Lib.hid (fun h=>oneN_ok (f:=f) (s:=s) (l:=l) h)
 have HBAD:=Lib.hid (fun c hc h=>oneN_bad (f:=f) (s:=s) (l:=l) (c:=c) hc h)
 generalize oneN f s l=r at HOK HBAD ⊢
 obtain ⟨m,hm⟩:∃ m,m=l.length:=⟨_,rfl⟩
 obtain ⟨F,hF⟩:∃ F:Nat->Nat,F=fun j=>l.getD j 0:=⟨_,rfl⟩
 have HFD:Hid (∀ j,l.getD j 0=F j):=fun j=>by rw [hF]
 have HK:Hid (∀ i,i < m->∃ b o y,A=some ⟨b,o,none⟩/\∀ W,Lat H w W->At4 W b (o+i*4) 0 (F i) 0 y):=fun i hi=>by
  have hi2:i < (l.map fun x=>RI.mk 0 x 0 []).length:=by simpa [hm] using hi
  obtain ⟨b,o,k',n',c',y,e,-,hiv,hat⟩:=hit i hi2
  have e2:(l.map fun x=>RI.mk 0 x 0 [])[i]=RI.mk 0 (F i) 0 []:=by
   rw [hF];simp [List.getD,show i < l.length by omega]
  rw [e2] at hiv
  obtain ⟨rfl,rfl,rfl,_,_⟩:=hiv.open_
  exact ⟨b,o,y,e,hat⟩
 simp only [HFD.out] at HONE HCS HOK HBAD
 rw [<- hm] at HONE HCS HOK HBAD hl ⊢
 clear hF HFD hm hit htf hr
 obtain ⟨L,hL⟩:∃ L,L=(List.range m).map fun j=>RI.mk 0 (monP f (F j)).1 0 []:=⟨_,rfl⟩
 have HLL:Hid (L.length=m):=by unfold Hid;rw [hL];simp
 have HLI:Hid (∀ j (hj:j < L.length),L[j]=RI.mk 0 (monP f (F j)).1 0 []):=fun j hj=>by simp [hL]
 rw [<- hL] at HOK
 clear hL
 have HSR:=Lib.hid hsr
 have HX0:=Lib.hid (at3_new w h (A,m,cc) 0 25)
 obtain ⟨w0,hw0⟩:∃ w0,w0=((w.alloc (.cells #[sv h,.slice A m cc,.int .i64 0] 25)).alloc (.cells #[.slice none 0 0,.slice none 0 0,.int .i64 0] 25)).alloc (.cells #[sv h,.slice none 0 0,.int .i64 0] 25):=⟨_,rfl⟩
 have HI0:Hid (TdI H w h 0 (L.take 0) (.slice none 0 0) w0/\At3 w0 w.heap.size 0 h (A,m,cc) 0):=by
  rw [hw0]
  have h2:=heap_alloc_new ((w.alloc (.cells #[sv h,.slice A m cc,.int .i64 0] 25)).alloc (.cells #[.slice none 0 0,.slice none 0 0,.int .i64 0] 25)) (.cells #[sv h,.slice none 0 0,.int .i64 0] 25)
  have h1:=block_up (bel1 ((w.alloc (.cells #[sv h,.slice A m cc,.int .i64 0] 25)).alloc (.cells #[.slice none 0 0,.slice none 0 0,.int .i64 0] 25)) (.cells #[sv h,.slice none 0 0,.int .i64 0] 25))
  have s1:(w.alloc (.cells #[sv h,.slice A m cc,.int .i64 0] 25)).heap.size=w.heap.size+1:=by simp
  have s2:((w.alloc (.cells #[sv h,.slice A m cc,.int .i64 0] 25)).alloc (.cells #[.slice none 0 0,.slice none 0 0,.int .i64 0] 25)).heap.size=w.heap.size+2:=by simp
  rw [s2] at h2
  rw [s1] at h1
  exact ⟨⟨IOwn.nil _ _ _,h2,h1,bel3 w _ _ _⟩,HX0.out.of fun _=>(bel2 _ _ _).cell HX0.out.lt⟩
 clear hsr hf
 go_enter Tryz.func15,Tryz.ntmps15
 obtain ⟨c0,c1,c2⟩:=HX0.out
 go_wp2
 rw [<- hw0]
 clear c0 c1 c2 hw0
 go_loopw [7] (fun iv wr=>∃ (i:Nat) (v:Value),i<=m/\iv= .int .i64 (i:Int)/\(∀ j,j < i->(monP f (F j)).2=0)/\TdI H w h 0 (L.take i) v wr/\At3 wr w.heap.size 0 h (A,m,cc) 0) (fun iv _=>m - (intOf iv).toNat)
 case atStart=>exact ⟨0,_,Nat.zero_le _,rfl,fun j hj=>absurd hj (Nat.not_lt_zero _),HI0.out.1,HI0.out.2⟩
 case round =>
  obtain ⟨i,v,hi,rfl,hall,hti,hat0⟩:=hrel
  have HTI:=Lib.hid hti
  have HALL:=Lib.hid hall
  have HA0:=Lib.hid hat0
  obtain ⟨c0,c1,c2⟩:=hat0
  clear hti hall
  obtain ⟨vA,vn,vc,hvn⟩:∃ A n c,v= .slice A n c:=by obtain ⟨a,c,e⟩:=HTI.out.own.len;exact ⟨a,_,c,e⟩
  subst hvn
  dsimp only [sv] at c1
  obtain ⟨⟨e0,e1,e2⟩,ez⟩:=block3 HTI.out.out
  by_cases him:i < m
  ·have him2:(i:Int) < (m:Int):=by omega
   have hiL:i < L.length:=by have:=HLL.out;omega
   obtain ⟨b,o,y,rfl,hat⟩:=HK.out i him
   have HTK:Hid (L.take (i+1)=L.take i++[L[i]]):=List.take_succ_eq_append_getElem hiL
   have HLV:=Lib.hid (HLI.out i hiL)
   have hlb:(L.take i).length<=1048576:=by rw [List.length_take];omega
   have HLB:=Lib.hid hlb
   clear hlb
   generalize L[i]=li at HTK HLV
   obtain ⟨d0,d1,d2,d3⟩:=hat wr (Lat.below HTI.out.bel)
   have HON:=Lib.hid (fun W=>HONE.out i him W)
   have hcs:∃ y E,monP f (F i)=(y,E)/\((TF y/\E=0)\/(y=0/\E=24)):=by
    rcases HCS.out i him with ⟨y,hy,e⟩ | e
    ·exact ⟨y,0,e,.inl ⟨hy,rfl⟩⟩
    ·exact ⟨0,24,e,.inr ⟨rfl,rfl⟩⟩
   obtain ⟨yv,E,hrc,hcase⟩:=hcs
   have HRC:=Lib.hid hrc
   rw [hrc] at HON HLV
   clear hrc hat
   generalize F i=fx at d1 HON
   have g0:=fun o=>cell_box1 c0 o
   have g1:=fun o=>cell_box1 c1 o
   have e1':wr.cell? ⟨w.heap.size+1+1,1,none⟩=some (.slice vA vn vc):=e1
   have g2:=fun o=>cell_box1 e1' o
   go_wp2_with fail
   refine (HON.out _).mono ?_
   rintro e w2 ⟨rfl,rfl⟩
   rcases hcase with ⟨-,rfl⟩ | ⟨rfl,rfl⟩
   ·have HAL:Hid (∀ j,j < i+1->(monP f (F j)).2=0):=fun j hj=>by
     by_cases e:j=i
     ·rw [e,HRC.out]
     ·exact HALL.out j (by omega)
    have hst0:=fun md=>st_item wr 0 0 0 0 (.slice none 0 0) 59 md
    have hst:=fun md=>st_item wr 0 0 yv 0 (.slice none 0 0) 59 md
    have HAV:Hid (IV (fun b=>(H b\/b=w.heap.size+1\/b=w.heap.size+2)\/(Value.slice vA vn vc).ownBlock=some b) wr li 0 yv 0 nilS):=by unfold Hid;rw [HLV.out];exact iv_none _ _ _ _ _ _ _
    have HSZ:Hid (w.heap.size+3<=wr.heap.size):=HTI.out.sz
    clear HBAD HONE HCS
    go_wp2_with (at_builtin;refine wpList_pushI' rfl (.tmp 54) (.tmp 57) rfl (fun b=>H b\/b=w.heap.size+1\/b=w.heap.size+2) (w.heap.size+3) (.slice vA vn vc) (L.take i) rfl HTI.out.own ⟨0,yv,0,nilS⟩ li HAV.out wr.heap.size rfl rfl HLB.out HSZ.out ?_;intro v' w' hown' hbw hlat hat2;(obtain ⟨vA',vn',vc',hvn'⟩:∃ A n c,v'= .slice A n c:=by (obtain ⟨a,c,e⟩:=hown'.len;exact ⟨a,_,c,e⟩));subst hvn';have HBW:=Lib.hid (hbw _ (Below.refl _ _));have HP:=Lib.hid (HTI.out.push hH hown' HBW.out);have HA1:=Lib.hid (At3.push HA0.out HBW.out (.slice vA' vn' vc'));(obtain ⟨⟨q0,q1,q2⟩,qz⟩:=block3 (show w'.heap[w.heap.size+1+1]?=_ from (HBW.out.block _ (by omega)).trans HTI.out.out));clear hown' hbw hlat hat2)
    go_roundw
    case rel=>exact ⟨i+1,_,by omega,by go_num,HAL.out,by rw [HTK.out];exact HP.out,HA1.out⟩
    case measure=>simp [intOf];omega
   ·have HE:Hid (r.1=24):=HBAD.out i him (by rw [HRC.out];decide)
    obtain ⟨⟨z0,z1,z2⟩,zz⟩:=block3 HTI.out.res
    have HRB:=Lib.hid (set3_block HTI.out.res (.slice none 0 0) (.slice none 0 0) (.int .i64 0))
    have HBB:=Lib.hid (below_set3 HTI.out.bel (G:=w.heap.size+1) (by omega) (.slice none 0 0) (.slice none 0 0) (.int .i64 0))
    clear HBAD HONE HCS HOK
    go_wp2
    refine bodyPost_ret (v := .tuple #[plV nilS nilS 0,.int .i64 24]) ?_ rfl (rtU_err HE.out (by decide) HBB.out)
    exact ret_plain2 (fn:=Tryz.f15) (p:=4) (u:=5) rfl _ _ (w.heap.size+1) (by rfl) HRB.out
  ·have hge:¬ (i:Int) < (m:Int):=by omega
   obtain rfl:i=m:=by omega
   have HTL:Hid (L.take i=L):=by unfold Hid;rw [<- HLL.out];exact List.take_length
   obtain ⟨hr1,hr2⟩:=HOK.out HALL.out
   have HR1:=Lib.hid hr1
   obtain ⟨x',hx',hpv⟩:=HTI.out.done hH HSR.out (sv h) (.slice vA vn vc) (.int .i64 0)
   obtain ⟨xA,xn,xc⟩:=x'
   have h9:Value.slice vA vn vc= .slice xA xn xc:=hx'
   injection h9 with h10 h11 h12
   subst h10;subst h11;subst h12
   rw [HTL.out,<- hr2] at hpv
   have HPV:=Lib.hid hpv
   obtain ⟨⟨z0,z1,z2⟩,zz⟩:=block3 HTI.out.res
   obtain ⟨⟨y0,y1,y2⟩,yz⟩:=block3 (show wr.heap[w.heap.size+1+1]?=_ from HTI.out.out)
   have HRB:=Lib.hid (set3_block HTI.out.res (sv h) (.slice vA vn vc) (.int .i64 0))
   have HBB:=Lib.hid (below_set3 HTI.out.bel (G:=w.heap.size+1) (by omega) (sv h) (.slice vA vn vc) (.int .i64 0))
   clear hpv hx' hr1 hr2 HBAD HONE HCS HOK
   go_wp2
   refine bodyPost_ret (v := .tuple #[plV h (vA,vn,vc) 0,.int .i64 0]) ?_ rfl (rtU_ok HR1.out HPV.out HBB.out)
   exact ret_plain2 (fn:=Tryz.f15) (p:=4) (u:=5) rfl _ _ (w.heap.size+1) (by rfl) HRB.out
theorem ro_err (H:Nat->Prop) (f:Int) (h x:Sl) (fo:Int) (r:Int×PA) (E:Int) (hr:r.1=E) (w:World) (hc:(¬ (1<=f/\f<=8)/\E=1)\/((1<=f/\f<=8)/\fo=1/\E=24)) :
  Calls Tryz.prog 15 #[.int .i64 f,plV h x fo] w (RtU H w r):=by
 obtain ⟨A,m,cc⟩:=x
 have HX0:=Lib.hid (at3_new w h (A,m,cc) fo 25)
 have HRS:=Lib.hid (heap_alloc_new (w.alloc (.cells #[sv h,.slice A m cc,.int .i64 fo] 25)) (.cells #[.slice none 0 0,.slice none 0 0,.int .i64 0] 25))
 have HZ:Hid ((w.alloc (.cells #[sv h,.slice A m cc,.int .i64 fo] 25)).heap.size=w.heap.size+1):=by show _=_;simp
 rw [HZ.out] at HRS
 have HB:=Lib.hid (bel2 w (.cells #[sv h,.slice A m cc,.int .i64 fo] 25) (.cells #[.slice none 0 0,.slice none 0 0,.int .i64 0] 25))
 have HE:=Lib.hid hr
 clear hr HZ
 rcases hc with ⟨hf,rfl⟩ | ⟨hf,rfl,rfl⟩
 ·by_cases h1:f < 1
  ·have hd1:=decide_eq_true h1
   obtain ⟨⟨z0,z1,z2⟩,zz⟩:=block3 HRS.out
   go_enter Tryz.func15,Tryz.ntmps15
   go_wp2
   refine bodyPost_ret (v := .tuple #[plV nilS nilS 0,.int .i64 1]) ?_ rfl (rtU_err HE.out (by decide) HB.out)
   exact ret_plain2 (fn:=Tryz.f15) (p:=4) (u:=5) rfl _ _ (w.heap.size+1) (by rfl) HRS.out
  ·have h8:8 < f:=by omega
   have hd1:=decide_eq_false h1
   have hd8:=decide_eq_true h8
   clear hf
   obtain ⟨⟨z0,z1,z2⟩,zz⟩:=block3 HRS.out
   go_enter Tryz.func15,Tryz.ntmps15
   go_wp2
   refine bodyPost_ret (v := .tuple #[plV nilS nilS 0,.int .i64 1]) ?_ rfl (rtU_err HE.out (by decide) HB.out)
   exact ret_plain2 (fn:=Tryz.f15) (p:=4) (u:=5) rfl _ _ (w.heap.size+1) (by rfl) HRS.out
 ·have h1:¬ f < 1:=by omega
  have h8:¬ 8 < f:=by omega
  have hd1:=decide_eq_false h1
  have hd8:=decide_eq_false h8
  clear hf
  obtain ⟨⟨z0,z1,z2⟩,zz⟩:=block3 HRS.out
  obtain ⟨c0,c1,c2⟩:=HX0.out
  have g2:=fun o=>cell_box1 c2 o
  go_enter Tryz.func15,Tryz.ntmps15
  go_wp2
  refine bodyPost_ret (v := .tuple #[plV nilS nilS 0,.int .i64 24]) ?_ rfl (rtU_err HE.out (by decide) HB.out)
  exact ret_plain2 (fn:=Tryz.f15) (p:=4) (u:=5) rfl _ _ (w.heap.size+1) (by rfl) HRS.out
theorem ro_boxes (H:Nat->Prop) (f:Int) (hf:1<=f/\f<=8) (s:List Nat) (l:List PA) (R:Nat->Int×PA) (h x:Sl) (w:World) (hH:∀ b,H b->b < w.heap.size) (hl:l.length<=1000000) (hr:PV H w (rawP (.boxes s l)) h x 2)
  (hIH:∀ i,i < l.length->∀ (K:Nat->Prop) (W:World) (h x:Sl) (f0:Int),(∀ b,K b->b < W.heap.size)->PV K W (rawP (l.getD i default)) h x f0->Calls Tryz.prog 15 #[.int .i64 f,plV h x f0] W (RtU K W (R i))) :
  Calls Tryz.prog 15 #[.int .i64 f,plV h x 2] w (RtU H w (bxE l.length R s)):=by
 rw [rawP,rawBs_map] at hr
 obtain ⟨hsr,_,hx,hit⟩:=hr.open_
 obtain ⟨A,m,cc⟩:=x
 dsimp only at hx hit
 rw [List.length_map] at hx
 have hf1:¬ f < 1:=by omega
 have hf8:¬ 8 < f:=by omega
 have hd1:=decide_eq_false hf1
 have hd8:=decide_eq_false hf8
 have HOK:=Lib.hid (fun h=>bxE_raw (R:=R) (n:=l.length) (sh:=s) h)
 have HBAD:=Lib.hid (fun c (hc:c < l.length) h hb=>bxE_bad (R:=R) (n:=l.length) (c:=c) s hc h hb)
 generalize bxE l.length R s=r at HOK HBAD ⊢
 have HIH:=Lib.hid hIH
 unfold RtU at HIH
 have HK:Hid (∀ i,i < l.length->∃ b o b2 o2 yc h' y' f',A=some ⟨b,o,none⟩/\PV H w (rawP (l.getD i default)) h' y' f'/\(∀ W,Lat H w W->At4 W b (o+i*4) 2 0 0 (some ⟨b2,o2,none⟩,1,yc))/\∀ W,Lat H w W->At3 W b2 o2 h' y' f'):=fun i hi=>by
  have hi2:i < (l.map fun a=>RI.mk 2 0 0 [rawP a]).length:=by simpa using hi
  obtain ⟨b,o,k',n',c',y,e,-,hiv,hat⟩:=hit i hi2
  have e2:(l.map fun a=>RI.mk 2 0 0 [rawP a])[i]=RI.mk 2 0 0 [rawP (l.getD i default)]:=by simp [List.getD,hi]
  rw [e2] at hiv
  obtain ⟨rfl,rfl,rfl,hy,hbx⟩:=hiv.open_
  obtain ⟨yA,ym,yc⟩:=y
  obtain ⟨b2,o2,h',y',f',e3,-,hpv,hat3⟩:=hbx 0 (by simp)
  dsimp only at e3
  subst e3
  obtain rfl:ym=1:=hy
  exact ⟨b,o,b2,o2,yc,h',y',f',e,hpv,hat,fun W hW=>by have:=hat3 W hW;rw [Nat.zero_mul,Nat.add_zero] at this;exact this⟩
 rw [<- hx] at HOK HBAD HIH HK hl
 clear hit hr hIH hx
 have HSR:=Lib.hid hsr
 have HX0:=Lib.hid (at3_new w h (A,m,cc) 2 25)
 obtain ⟨w0,hw0⟩:∃ w0,w0=((w.alloc (.cells #[sv h,.slice A m cc,.int .i64 2] 25)).alloc (.cells #[.slice none 0 0,.slice none 0 0,.int .i64 0] 25)).alloc (.cells #[sv h,.slice none 0 0,.int .i64 2] 25):=⟨_,rfl⟩
 have HI0:Hid (TdI H w h 2 ((List.range 0).map fun j=>RI.mk 2 0 0 [rawP (R j).2]) (.slice none 0 0) w0/\At3 w0 w.heap.size 0 h (A,m,cc) 2):=by
  rw [hw0]
  have h2:=heap_alloc_new ((w.alloc (.cells #[sv h,.slice A m cc,.int .i64 2] 25)).alloc (.cells #[.slice none 0 0,.slice none 0 0,.int .i64 0] 25)) (.cells #[sv h,.slice none 0 0,.int .i64 2] 25)
  have h1:=block_up (bel1 ((w.alloc (.cells #[sv h,.slice A m cc,.int .i64 2] 25)).alloc (.cells #[.slice none 0 0,.slice none 0 0,.int .i64 0] 25)) (.cells #[sv h,.slice none 0 0,.int .i64 2] 25))
  have s1:(w.alloc (.cells #[sv h,.slice A m cc,.int .i64 2] 25)).heap.size=w.heap.size+1:=by simp
  have s2:((w.alloc (.cells #[sv h,.slice A m cc,.int .i64 2] 25)).alloc (.cells #[.slice none 0 0,.slice none 0 0,.int .i64 0] 25)).heap.size=w.heap.size+2:=by simp
  rw [s2] at h2
  rw [s1] at h1
  exact ⟨⟨IOwn.nil _ _ _,h2,h1,bel3 w _ _ _⟩,HX0.out.of fun _=>(bel2 _ _ _).cell HX0.out.lt⟩
 clear hsr hf
 go_enter Tryz.func15,Tryz.ntmps15
 obtain ⟨c0,c1,c2⟩:=HX0.out
 go_wp2
 rw [<- hw0]
 clear c0 c1 c2 hw0
 go_loopw [7] (fun iv wr=>∃ (c:Nat) (v:Value),c<=m/\iv= .int .i64 (c:Int)/\(∀ j,j < c->(R j).1=0)/\TdI H w h 2 ((List.range c).map fun j=>RI.mk 2 0 0 [rawP (R j).2]) v wr/\At3 wr w.heap.size 0 h (A,m,cc) 2) (fun iv _=>m - (intOf iv).toNat)
 case atStart=>exact ⟨0,_,Nat.zero_le _,rfl,fun j hj=>absurd hj (Nat.not_lt_zero _),HI0.out.1,HI0.out.2⟩
 case round =>
  obtain ⟨c,v,hc,rfl,hall,hti,hat0⟩:=hrel
  have HTI:=Lib.hid hti
  have HALL:=Lib.hid hall
  have HA0:=Lib.hid hat0
  obtain ⟨c0,c1,c2⟩:=hat0
  clear hti hall HI0
  obtain ⟨vA,vn,vc,hvn⟩:∃ A n c,v= .slice A n c:=by obtain ⟨a,c,e⟩:=HTI.out.own.len;exact ⟨a,_,c,e⟩
  subst hvn
  dsimp only [sv] at c1
  by_cases hlt:c < m
  ·have hlt2:(c:Int) < (m:Int):=by omega
   obtain ⟨b,o,b2,o2,yc,h',y',f',rfl,hpv,hat,hat3⟩:=HK.out c hlt
   obtain ⟨d0,d1,d2,d3⟩:=hat wr (Lat.below HTI.out.bel)
   dsimp only [sv] at d3
   obtain ⟨t0,t1,t2⟩:=hat3 wr (Lat.below HTI.out.bel)
   have HIC:=Lib.hid (HIH.out c hlt (Hole H w wr) wr h' y' f' (Hole.lt hH HTI.out.bel) (hpv.arg HTI.out.bel))
   obtain ⟨rc,hrc⟩:∃ rc,rc=R c:=⟨_,rfl⟩
   rw [<- hrc] at HIC
   have HRCE:=Lib.hid hrc
   clear hrc hat hat3 hpv
   go_wp2_with fail
   refine HIC.out.mono ?_
   rintro e w2 ⟨h2,x2,f2,rfl,hpv2,hb2⟩
   have HPV:=Lib.hid hpv2
   have HT2:=Lib.hid (HTI.out.step hb2)
   have HA2:=Lib.hid (HA0.out.of fun j=>hb2.cell (p:=⟨w.heap.size,j,none⟩) HA0.out.lt)
   have HZ2:=Lib.hid hb2.size
   clear hpv2 hb2 c0 c1 c2 d0 d1 d2 d3 t0 t1 t2 HIC HIH HK
   by_cases h0:rc.1=0
   ·have ne:(rc.1 != 0)=false:=by simpa using h0
    have HZ:Hid ((R c).1=0):=by unfold Hid;rw [<- HRCE.out];exact h0
    have HAL:Hid (∀ j,j < c+1->(R j).1=0):=fun j hj=>by
     by_cases e:j=c
     ·subst e;exact HZ.out
     ·exact HALL.out j (by omega)
    have HTK:Hid (((List.range (c+1)).map fun j=>RI.mk 2 0 0 [rawP (R j).2])=((List.range c).map fun j=>RI.mk 2 0 0 [rawP (R j).2])++[RI.mk 2 0 0 [rawP (R c).2]]):=by unfold Hid;rw [List.range_succ,List.map_append];rfl
    have HLB:Hid (((List.range c).map fun j=>RI.mk 2 0 0 [rawP (R j).2]).length<=1048576):=by unfold Hid;simp;omega
    rw [<- HRCE.out] at HTK
    have hrz:=HPV.out h0
    have HB1:=Lib.hid (bel1 w2 (plO h2 x2 f2))
    have HT3:=Lib.hid (HT2.out.step HB1.out)
    have HA3:=Lib.hid (HA2.out.of fun j=>HB1.out.cell (p:=⟨w.heap.size,j,none⟩) HA2.out.lt)
    have HP3:=Lib.hid (hrz.step HB1.out)
    have HV3:=Lib.hid (heap_alloc_new w2 (plO h2 x2 f2))
    obtain ⟨wb,hwb⟩:∃ wb,wb=w2.alloc (plO h2 x2 f2):=⟨_,rfl⟩
    have HWB:=Lib.hid hwb
    have HZB:Hid (wb.heap.size=w2.heap.size+1):=by unfold Hid;rw [hwb];simp
    rw [<- hwb] at HT3 HA3 HP3 HV3
    generalize ((List.range c).map fun j=>RI.mk 2 0 0 [rawP (R j).2])=lc at HTI HT2 HT3 HTK HLB
    obtain ⟨⟨e0,e1,e2⟩,ez⟩:=block3 HT3.out.out
    obtain ⟨⟨d0,d1,d2⟩,dz⟩:=block3 HV3.out
    have HBX:=Lib.hid (bel1 wb (plO h2 x2 f2))
    have HTW:=Lib.hid (HT3.out.step HBX.out)
    have HAW:=Lib.hid (HA3.out.of fun j=>HBX.out.cell (p:=⟨w.heap.size,j,none⟩) HA3.out.lt)
    have HGG:Hid (wb.heap.size+1=(wb.alloc (plO h2 x2 f2)).heap.size):=by unfold Hid;simp
    have HSZ:Hid (w.heap.size+3<=(wb.alloc (plO h2 x2 f2)).heap.size):=HTW.out.sz
    have hwsz:w.heap.size+3<=wr.heap.size:=HTI.out.sz
    have HAV:Hid (IV (fun b=>(H b\/b=w.heap.size+1\/b=w.heap.size+2)\/(Value.slice vA vn vc).ownBlock=some b) (wb.alloc (plO h2 x2 f2)) (.mk 2 0 0 [rawP rc.2]) 2 0 0 (some ⟨wb.heap.size,0,none⟩,1,1)):=by
     have h8:=HZB.out
     have h9:=HZ2.out
     refine iv_box ?_ (PV.sub (fun b hb e=>?_) (HP3.out.step HBX.out)) (at3_box wb h2 x2 f2)
     ·rintro ((e | e) | e)
      ·have:=hH _ e;omega
      ·omega
      ·have:=(HTI.out.own.own_lt e).2;omega
     ·rcases e with (e | e) | e
      ·exact .inl e
      ·exact .inr ⟨by omega,by omega⟩
      ·have:=HTI.out.own.own_lt e;exact .inr ⟨by omega,by omega⟩
    have g1:=fun o=>cell_box1 e1 o
    have g2:=fun o o'=>cell_box2 e1 o o'
    have hst0:=fun md=>st_item (wb.alloc (plO h2 x2 f2)) 2 0 0 0 (.slice none 0 0) 59 md
    have u1:(wb.alloc (plO h2 x2 f2)).frozen? ⟨w.heap.size+2,1,none⟩=false:=by rw [HBX.out.frozen (p:=⟨w.heap.size+2,1,none⟩) (by show w.heap.size+2 < _;have:=HT3.out.sz;omega)];exact ez 1
    clear h0 hrz HBAD HOK hwb
    go_upto_region 17 with fail
    rw [<- HWB.out]
    go_wp2_with (at_builtin;refine wpList_pushI' rfl (.tmp 78) (.tmp 82) rfl (fun b=>H b\/b=w.heap.size+1\/b=w.heap.size+2) (w.heap.size+3) (.slice vA vn vc) lc rfl HTW.out.own ⟨2,0,0,(some ⟨wb.heap.size,0,none⟩,1,1)⟩ (.mk 2 0 0 [rawP rc.2]) HAV.out (wb.heap.size+1) HGG.out rfl HLB.out HSZ.out ?_;intro v' w' hown' hbw hlat hat2;(obtain ⟨vA',vn',vc',hvn'⟩:∃ A n c,v'= .slice A n c:=by (obtain ⟨a,c,e⟩:=hown'.len;exact ⟨a,_,c,e⟩));subst hvn';have HBW:=Lib.hid (hbw _ (Below.refl _ _));have HP:=Lib.hid (HTW.out.push hH hown' HBW.out);have HA1:=Lib.hid (At3.push HAW.out HBW.out (.slice vA' vn' vc'));(obtain ⟨⟨q0,q1,q2⟩,qz⟩:=block3 (show w'.heap[w.heap.size+1+1]?=_ from (HBW.out.block _ (by omega)).trans HTW.out.out));clear hown' hbw hlat hat2)
    go_roundw
    case rel=>exact ⟨c+1,_,by omega,by go_num,HAL.out,by rw [HTK.out];exact HP.out,HA1.out⟩
    case measure=>simp [intOf];omega
   ·have ne:(rc.1 != 0)=true:=by simpa using h0
    have HE:Hid (r.1=rc.1):=by
     unfold Hid
     rw [HRCE.out]
     exact HBAD.out c hlt HALL.out (by rw [<- HRCE.out];exact h0)
    have HN:=Lib.hid h0
    have HT3:=Lib.hid (HT2.out.step (bel1 w2 (plO h2 x2 f2)))
    clear h0 HBAD HOK
    obtain ⟨⟨z0,z1,z2⟩,zz⟩:=block3 HT3.out.res
    have HRB:=Lib.hid (set3_block HT3.out.res (.slice none 0 0) (.slice none 0 0) (.int .i64 0))
    have HBB:=Lib.hid (below_set3 HT3.out.bel (G:=w.heap.size+1) (by omega) (.slice none 0 0) (.slice none 0 0) (.int .i64 0))
    go_wp2
    refine bodyPost_ret (v := .tuple #[plV nilS nilS 0,.int .i64 rc.1]) ?_ rfl (rtU_err HE.out HN.out HBB.out)
    exact ret_plain2 (fn:=Tryz.f15) (p:=4) (u:=5) rfl _ _ (w.heap.size+1) (by rfl) HRB.out
  ·have hge:¬ (c:Int) < (m:Int):=by omega
   obtain rfl:c=m:=by omega
   obtain ⟨hr1,hr2⟩:=HOK.out HALL.out
   have HR1:=Lib.hid hr1
   obtain ⟨x',hx',hpv⟩:=HTI.out.done hH HSR.out (sv h) (.slice vA vn vc) (.int .i64 2)
   obtain ⟨xA,xn,xc⟩:=x'
   have h9:Value.slice vA vn vc= .slice xA xn xc:=hx'
   injection h9 with h10 h11 h12
   subst h10;subst h11;subst h12
   rw [<- hr2] at hpv
   have HPV:=Lib.hid hpv
   obtain ⟨⟨z0,z1,z2⟩,zz⟩:=block3 HTI.out.res
   obtain ⟨⟨y0,y1,y2⟩,yz⟩:=block3 (show wr.heap[w.heap.size+1+1]?=_ from HTI.out.out)
   have HRB:=Lib.hid (set3_block HTI.out.res (sv h) (.slice vA vn vc) (.int .i64 2))
   have HBB:=Lib.hid (below_set3 HTI.out.bel (G:=w.heap.size+1) (by omega) (sv h) (.slice vA vn vc) (.int .i64 2))
   clear hpv hx' hr1 hr2 HBAD HOK HIH HK
   go_wp2
   refine bodyPost_ret (v := .tuple #[plV h (vA,vn,vc) 2,.int .i64 0]) ?_ rfl (rtU_ok HR1.out HPV.out HBB.out)
   exact ret_plain2 (fn:=Tryz.f15) (p:=4) (u:=5) rfl _ _ (w.heap.size+1) (by rfl) HRB.out
theorem ro_any:∀ (N:Nat) (H:Nat->Prop) (f:Int) (a:PA) (d:Nat) (h x:Sl) (fo:Int) (w:World),(∀ b,H b->b < w.heap.size)->GoodA d a->SmA 1000000 a->depA a < N->PV H w (rawP a) h x fo ->
  Calls Tryz.prog 15 #[.int .i64 f,plV h x fo] w (RtU H w (oneE N f a))
 | 0,_,_,_,_,_,_,_,_,_,_,_,hN,_=>absurd hN (Nat.not_lt_zero _)
 | N+1,H,f,a,d,h,x,fo,w,hH,ga,sa,hN,va=>by
  have hfo:=(pv_heads va).2.1
  subst hfo
  by_cases hf:1<=f/\f<=8
  ·cases a with
   | nums s l =>
    rw [oneE_nums hf]
    exact ro_nums H f hf s l h x w hH sa.len (fun j hj=>ga.nums _ hj) va
   | chars s l=>exact ro_err H f h x _ _ 24 (oneE_chars hf) w (.inr ⟨hf,rfl,rfl⟩)
   | boxes s l =>
    rw [oneE_box hf]
    refine ro_boxes H f hf s l _ h x w hH sa.len va fun i hi K W h' x' f0 hK g=>?_
    have e:l.getD i default=l[i]:=by simp [List.getD,hi]
    exact ro_any N K f _ (d - 1) h' x' f0 W hK (good_at ga hi) (by rw [e];exact sa.boxes _ hi) (by have:=depA_at (s:=s) hi;omega) g
  ·exact ro_err H f h x _ _ 1 (oneE_unknown hf) w (.inl ⟨hf,rfl⟩)
noncomputable def law1E (f:Int) (t:RP):Int×PA:=oneE (depA (clP t)+1) f (clP t)
theorem law1E_good {f:Int}{t:RP} (o:OkP 40 t) (h:(law1E f t).1=0):GoodA 40 (law1E f t).2:=oneE_good _ f _ 40 (okP_good 40 t o) (Nat.lt_succ_self _) h
theorem law1E_small {f:Int}{t:RP} (c:cntP t<=1500) (h:(law1E f t).1=0):SmA 1000000 (law1E f t).2:=oneE_small _ f _ (sm_cl c) (Nat.lt_succ_self _) h
theorem lawOne_any (f:Int){t:RP} (o:OkP 40 t) (c:cntP t<=1500) (W:World) (tz:TzTab W) (u:Sl) (v:V8) (g:AV noH W (clP t) u v) :
  Calls Tryz.prog 13 #[.int .i64 f,arrV u v] W (TwU noH W (law1E f t)) :=
 (pone_any _ noH f _ 40 u v W (noH_lt _) (okP_good 40 t o) (sm_cl c) (Nat.lt_succ_self _) tz g).mono fun _ _ t=>TwR.u t
theorem lawROne_any (f:Int){t:RP} (o:OkP 40 t) (c:cntP t<=1500) (W:World) (h x:Sl) (fo:Int) (g:PV noH W (rawP (clP t)) h x fo) :
  Calls Tryz.prog 15 #[.int .i64 f,plV h x fo] W (RtU noH W (law1E f t)) :=
 ro_any _ noH f _ 40 h x fo W (noH_lt _) (okP_good 40 t o) (sm_cl c) (Nat.lt_succ_self _) g
theorem pOne_any (z:Int) (t:RP) (h x:Sl) (f:Int) (w:World) (i1:FitP t) (m1:cntP t<=1048576) (tz:TzTab w) (r1:PV (fun _=>False) w t h x f) :
  Calls Tryz.prog 3 #[.int .i64 z,plV h x f] w fun e w'=>e= .returned (.bool true)/\Below w.heap.size w w':=by
 have HFA:=Lib.hid (fun W (hb:Below w.heap.size w W)=>fine24_any t h x f W i1 m1 (r1.step hb))
 have HR1:=Lib.hid r1
 have HTZ:=Lib.hid tz
 have HX0:=Lib.hid (at3_box w h x f)
 have HB0:=Lib.hid (bel1 w (plO h x f))
 unfold FineR at HFA
 clear i1 m1 r1 tz
 go_enter Tryz.func3,Tryz.ntmps3
 obtain ⟨c0,c1,c2⟩:=at3_c HX0.out
 go_wp2_with fail
 refine (HFA.out _ HB0.out).mono ?_
 rintro e w1 ⟨b1,rfl,hg1,hb⟩
 have HX1:=Lib.hid (At3.belowP HX0.out hb)
 have HB1:=Lib.hid (bel_both HB0.out hb)
 clear hb c0 c1 c2 HX0 HB0 HFA
 cases b1 with
 | false =>
  go_wp2_with fail
  refine (awake24_any _).mono ?_
  rintro e w2 ⟨rfl,hb⟩
  have HB:=Lib.hid (bel_both HB1.out hb)
  clear hb
  go_wp2
  go_ret
  exact ⟨rfl,HB.out⟩
 | true =>
  obtain ⟨o1,n1⟩:=hg1 rfl
  have HGD:=Lib.hid (fun h=>law1E_good (f:=z) o1 h)
  have HSM:=Lib.hid (fun h=>law1E_small (f:=z) n1 h)
  have HOF:=Lib.hid (fun W (hb:Below w.heap.size w W)=>lawOf_any noH t h x f W (noH_lt W) o1 (by omega) (HR1.out.step hb))
  have HTD:=Lib.hid (fun W (hb:Below w.heap.size w W)=>tidy_walk 40 noH t h x f W (noH_lt W) o1 (by omega) (HR1.out.step hb))
  have HON:=Lib.hid (fun W u v (hb:Below w.heap.size w W)=>lawOne_any z o1 n1 W (HTZ.out.below hb) u v)
  have HRN:=Lib.hid (fun W h x fo=>lawROne_any z o1 n1 W h x fo)
  generalize law1E z t=rr at HON HRN HGD HSM
  unfold AaR at HOF
  unfold PlR at HTD
  unfold TwU at HON
  unfold RtU at HRN
  obtain ⟨c0,c1,c2⟩:=at3_c HX1.out
  go_wp2_with fail
  refine (HOF.out _ HB1.out).mono ?_
  rintro e w2 ⟨u2,v2,rfl,hav2,hb⟩
  have HX2:=Lib.hid (At3.belowP HX1.out hb)
  have HB2:=Lib.hid (bel_both HB1.out hb)
  have HA2:=Lib.hid hav2
  clear hb hav2 c0 c1 c2
  go_wp2_with fail
  refine (HON.out _ u2 v2 HB2.out HA2.out).mono ?_
  rintro e w3 ⟨h3,p3,rfl,hav3,hb⟩
  have HX3:=Lib.hid (At3.belowP (At3.belowP HX2.out hb) (bel1 w3 (arrO h3 p3)))
  have HB3:=Lib.hid (bel_both (bel_both HB2.out hb) (bel1 w3 (arrO h3 p3)))
  have HV3:=Lib.hid (heap_alloc_new w3 (arrO h3 p3))
  have HA3:=Lib.hid (show AvIf (fun b=>b=w3.heap.size) rr h3 p3 (w3.alloc (arrO h3 p3)) from ⟨fun h0=>(AV.sub (fun b hb e=>by omega) (hav3.1 h0)).step (bel1 w3 _),hav3.2⟩)
  clear hb hav3 HOF HON HA2 HX1 HX2 HB1 HB2
  obtain ⟨V,hV⟩:∃ V,V=w3.heap.size:=⟨_,rfl⟩
  obtain ⟨wa,hwa⟩:∃ wa,wa=w3.alloc (arrO h3 p3):=⟨_,rfl⟩
  have HWA:=Lib.hid hwa
  have HVV:=Lib.hid hV
  rw [<- hwa] at HX3 HB3 HV3 HA3
  rw [<- hV] at HV3 HA3
  clear hV hwa
  obtain ⟨c0,c1,c2⟩:=at3_c HX3.out
  go_upto_region 4 with fail
  rw [<- HWA.out,<- HVV.out]
  go_wp2_with fail
  refine (HTD.out _ HB3.out).mono ?_
  rintro e w4 ⟨h4,x4,rfl,hpv4,hb⟩
  have HB4:=Lib.hid (bel_both HB3.out hb)
  have HP4:=Lib.hid hpv4
  have HV4:=Lib.hid (show w4.heap[V]?=some (arrO h3 p3) by rw [hb.block _ (lt_blk HV3.out)];exact HV3.out)
  have HA4:=Lib.hid (show AvIf (fun b=>b=V) rr h3 p3 w4 from ⟨fun h0=>AV.step (HA3.out.1 h0) hb,HA3.out.2⟩)
  clear hb hpv4 c0 c1 c2 HV3 HA3
  go_wp2_with fail
  refine (HRN.out _ h4 x4 f HP4.out).mono ?_
  rintro e w5 ⟨h5,x5,g5,rfl,hpv5,hb⟩
  have HB5:=Lib.hid (bel_both (bel_both HB4.out hb) (bel1 w5 (plO h5 x5 g5)))
  have h5e:w5.heap[V]?=some (arrO h3 p3):=(hb.block _ (lt_blk HV4.out)).trans HV4.out
  have HV5:=Lib.hid (show (w5.alloc (plO h5 x5 g5)).heap[V]?=some (arrO h3 p3) from (Below.heap_alloc _ _ _ (lt_blk h5e)).trans h5e)
  have HA5:=Lib.hid (show AvIf (fun b=>b=V) rr h3 p3 (w5.alloc (plO h5 x5 g5)) from ⟨fun h0=>AV.step (AV.step (HA4.out.1 h0) hb) (bel1 w5 _),HA4.out.2⟩)
  have HP5:=Lib.hid (show rr.1=0->PV noH (w5.alloc (plO h5 x5 g5)) (rawP rr.2) h5 x5 g5 from fun h0=>(hpv5 h0).step (bel1 w5 _))
  have HQ5:=Lib.hid (heap_alloc_new w5 (plO h5 x5 g5))
  clear hb hpv5 h5e HV4 HA4 HP4 HTD HRN
  obtain ⟨wu,hwu⟩:∃ wu,wu=w5.alloc (plO h5 x5 g5):=⟨_,rfl⟩
  have HWU:=Lib.hid hwu
  rw [<- hwu] at HB5 HV5 HA5 HP5 HQ5
  have HSHOW:Hid (Calls Tryz.prog 17 #[arrV h3 p3,.int .i64 rr.1,plV h5 x5 g5,.int .i64 rr.1] wu fun e w'=>e= .returned (.bool true)/\Below wu.heap.size wu w'):=by
   by_cases h0:rr.1=0
   ·unfold Hid
    rw [h0]
    exact shows24_ok (fun b e=>by subst e;exact lt_blk HV5.out) (HGD.out h0) (HSM.out h0) (HA5.out.1 h0) (HP5.out h0)
   ·obtain ⟨rfl,rfl⟩:=HA5.out.2 h0
    exact shows24_err rr.1 h5 x5 g5 h0 wu
  obtain ⟨⟨c0,c1,c2,c3,c4,c5,c6,c7,c8⟩,cz⟩:=at9_of HV5.out
  obtain ⟨⟨d0,d1,d2⟩,dz⟩:=block3 HQ5.out
  clear HA5 HP5 HGD HSM hwu
  go_upto_region 5 with fail
  rw [<- HWU.out]
  go_wp2_with fail
  refine HSHOW.out.mono ?_
  rintro e w7 ⟨rfl,hb⟩
  have HB7:=Lib.hid (bel_both HB5.out hb)
  clear hb c0 c1 c2 c3 c4 c5 c6 c7 c8 d0 d1 d2 cz dz
  go_wp2_with fail
  refine (awake24_any _).mono ?_
  rintro e w8 ⟨rfl,hb⟩
  have HB8:=Lib.hid (bel_both HB7.out hb)
  clear hb
  go_wp2
  go_ret
  exact ⟨rfl,HB8.out⟩
end Go.Proofs.YtiahegjdkejjpaaGreatDoor
namespace Go.Proofs.YtiahegjdkejjpaaGreatDoor
open Go Go.RowKit Go.Proofs Go.ChangeShapes Go.WideShapes Go.Deep
theorem one_le {H:Type} (d:DataW H):1<=Rows.uptoBulk d:=by
 cases d with
 | lit l=>cases l <;> simp [Rows.uptoBulk]
 | nil=>simp [Rows.uptoBulk]
 | ptr d=>simp [Rows.uptoBulk]
 | slice elems spare=>simp [Rows.uptoBulk]
 | agg parts=>simp [Rows.uptoBulk]
 | iface t d=>simp [Rows.uptoBulk]
 | map entries=>simp [Rows.uptoBulk]
 | held h=>simp [Rows.uptoBulk]
theorem bulk_len {H:Type} (l:List (DataW H)):l.length<=Rows.uptoBulkAll l:=by
 induction l with
 | nil=>simp [Rows.uptoBulkAll]
 | cons x r ih=>have:=one_le x;simp only [Rows.uptoBulkAll,List.length_cons];omega
theorem trodF {H:Type}{enc:TypeId×Value->H}{W:World}{sp:Nat->Bool}{held:Bool}{base n:Nat}{v:Value}{d:DataW H×List MemPlace}
  (h:DataW.trod enc Tryz.prog W base sp held n 55 [v]=some d):∃ b,v= .float .f64 b/\b < 18446744073709551616:=by
 cases n with
 | zero=>simp [DataW.trod] at h
 | succ n =>
  cases v <;> simp [DataW.trod,Tryz.underlying55] at h
  rename_i k b
  obtain ⟨h1,_⟩:=h
  obtain ⟨rfl,h2⟩:=h1
  exact ⟨b,rfl,by simpa [Lit.wf] using h2⟩
theorem slice_reads {H:Type}{enc:TypeId×Value->H}{W:World}{sp:Nat->Bool}{held:Bool}{base fuel:Nat}{t e:TypeId}{v:Value}{x:DataW H×List MemPlace}{α:Type} (g:α->Value) (z:α) (ht:Tryz.prog.underlying t=some (.slice e)) (hc:Tryz.prog.cellsOf e=1)
  (hg:∀ {n:Nat} {v:Value} {y:DataW H×List MemPlace},DataW.trod enc Tryz.prog W base sp held n e [v]=some y->∃ b,v=g b)
  (h:DataW.trod enc Tryz.prog W base sp held fuel t [v]=some x):∃ (l:List α) (s:Sl),v=sv s/\RdH (fun _=>False) W (sv s) (l.map g)/\l.length+1<=Rows.uptoBulk x.1:=by
 rcases open_slice1 ht hc h with ⟨hcs,rfl⟩ | ⟨a,n,c',m,k,V,D,Pl,hcs,_,hl,hm,hmm,rfl,hcell⟩
 ·obtain rfl:v= .slice none 0 0:=by simpa using hcs
  exact ⟨[],(none,0,0),rfl,fun _ _ _ => .inl ⟨none,0,rfl,rfl⟩,by simp [Rows.uptoBulk]⟩
 ·obtain rfl:v= .slice (some a) n c':=by simpa using hcs
  have hnm:n<=m:=by rw [hmm];split <;> omega
  by_cases h0:n=0
  ·subst h0;exact ⟨[],(some a,0,c'),rfl,fun _ _ _ => .inl ⟨_,_,rfl,rfl⟩,by simp only [List.length_nil];exact one_le _⟩
  have hfl:∀ i,∃ b,i < m->V i=g b:=fun i=>by
   by_cases hi:i < m
   ·obtain ⟨b,hb⟩:=hg (hcell i hi).2;exact ⟨b,fun _=>hb⟩
   ·exact ⟨z,fun h=>absurd h hi⟩
  obtain ⟨b,hb⟩:=Classical.axiomOfChoice hfl
  obtain ⟨bl,off,spot⟩:=a
  have hspot:spot=none:=by simpa [Addr.add] using World.cell?_spot (hcell 0 (by omega)).1
  subst hspot
  refine ⟨(List.range n).map b,(some ⟨bl,off,none⟩,n,c'),rfl,fun W' _ hb' => .inr ⟨bl,off,n,c',rfl,by simp,fun i hi=>?_⟩,?_⟩
  ·have hi':i < n:=by simpa using hi
   have:=(hcell i (by omega)).1
   have e:(⟨bl,off,none⟩:Addr).add i=⟨bl,off+i,none⟩:=by
    unfold Addr.add;split
    ·rename_i h0;subst h0;rfl
    ·rfl
   rw [e] at this
   rw [World.cell?_of_block (w:=W) (hb' bl (cell_lt this) (fun h=>h)),this,hb i (by omega)]
   simp
  ·have:=bulk_len ((List.range n).map D)
   simp only [Rows.uptoBulk]
   simp at this ⊢
   omega
theorem sum_bulk {H α:Type} (c:α->Nat):∀ (ts:List α) (ds:List (DataW H)),ts.length=ds.length->(∀ i (h:i < ts.length) (h2:i < ds.length),c ts[i]+1<=Rows.uptoBulk ds[i])->(ts.map c).sum+ts.length<=Rows.uptoBulkAll ds
 | [],_,_,_=>by simp
 | _::_,[],h,_=>by simp at h
 | t::ts,d::ds,hl,h=>by
  have h0:=h 0 (by simp) (by simp)
  have:=sum_bulk c ts ds (by simpa using hl) (fun i h1 h2=>by have:=h (i+1) (by simpa using h1) (by simpa using h2);simpa using this)
  simp only [List.map_cons,List.sum_cons,List.length_cons,Rows.uptoBulkAll]
  simp at h0
  omega
theorem cntIs_sum:∀ ts:List RI,cntIs ts=(ts.map cntI).sum
 | []=>by rw [cntIs];rfl
 | t::ts=>by rw [cntIs,cntIs_sum ts];simp
theorem cntPs_sum:∀ ts:List RP,cntPs ts=(ts.map cntP).sum
 | []=>by rw [cntPs];rfl
 | t::ts=>by rw [cntPs,cntPs_sum ts];simp
theorem fitIs_of:∀ (ts:List RI),(∀ i (h:i < ts.length),FitI ts[i])->FitIs ts
 | [],_=>by rw [FitIs];trivial
 | t::ts,h=>by
  rw [FitIs]
  exact ⟨by have:=h 0 (by simp);simpa using this,fitIs_of ts fun i hi=>by have:=h (i+1) (by simpa using hi);simpa using this⟩
theorem fitPs_of:∀ (ts:List RP),(∀ i (h:i < ts.length),FitP ts[i])->FitPs ts
 | [],_=>by rw [FitPs];trivial
 | t::ts,h=>by
  rw [FitPs]
  exact ⟨by have:=h 0 (by simp);simpa using this,fitPs_of ts fun i hi=>by have:=h (i+1) (by simpa using hi);simpa using this⟩
theorem c_int:Tryz.prog.cellsOf 3=1:=by kernel_rfl
theorem c_ints:Tryz.prog.cellsOf 22=1:=by kernel_rfl
theorem c_f64:Tryz.prog.cellsOf 55=1:=by kernel_rfl
theorem c_i32:Tryz.prog.cellsOf 21=1:=by kernel_rfl
theorem c_items:Tryz.prog.cellsOf 23=1:=by kernel_rfl
theorem c_plains:Tryz.prog.cellsOf 57=1:=by kernel_rfl
theorem c_plain:Tryz.prog.cellsOf 25=3:=by kernel_rfl
theorem c_item:Tryz.prog.cellsOf 59=4:=by kernel_rfl
theorem add_off (b o j:Nat):(⟨b,o,none⟩:Addr).add j=⟨b,o+j,none⟩:=by
 unfold Addr.add;split
 ·rename_i h0;subst h0;rfl
 ·rfl
mutual
theorem plain_open {H:Type}{enc:TypeId×Value->H}{W:World}{sp:Nat->Bool}{held:Bool}{base:Nat}:∀ (N fuel:Nat) (cs:List Value) (x:DataW H×List MemPlace),fuel<=N->DataW.trod enc Tryz.prog W base sp held fuel 25 cs=some x ->
  ∃ t h y f,cs=[sv h,sv y,.int .i64 f]/\PV (fun _=>False) W t h y f/\FitP t/\cntP t<=Rows.uptoBulk x.1
 | N,fuel,cs,x,hN,h=>by
  obtain ⟨xs,n,hfuel,rfl,hcl,hxl,hf⟩:=DataW.trod_struct Tryz.underlying25 h
  rw [c_plain] at hcl
  match cs,hcl,xs,hxl with
  | [v0,v1,v2],_,[y0,y1,y2],_ =>
   have h0:=hf 0 _ rfl
   have h1:=hf 1 _ rfl
   have h2:=hf 2 _ rfl
   simp only [List.getElem_toArray,List.getElem_cons_zero,List.getElem_cons_succ] at h0 h1 h2
   rw [c_ints] at h0
   rw [c_items] at h1
   rw [c_int] at h2
   simp at h0 h1 h2
   obtain ⟨k,e2,rfl,w2⟩:=DataW.trod_int Tryz.underlying3 h2
   obtain rfl:v2= .int .i64 k:=by simpa using e2
   obtain ⟨s,hs,rfl,rs,bs⟩:=slice_reads (Value.int .i64) 0 Tryz.underlying22 c_int (fun h=>by obtain ⟨b,hb,_⟩:=DataW.trod_int Tryz.underlying3 h;exact ⟨b,by simpa using hb⟩) h0
   rcases DataW.trod_slice Tryz.underlying23 h1 with ⟨hcs,rfl⟩ | ⟨a,len,cap,elems,rest,n',hn',hcs,rfl,_,hle,_,hel,hcell,_,_⟩
   ·obtain rfl:v1= .slice none 0 0:=by simpa using hcs
    refine ⟨.mk s [] k,hs,nilS,k,rfl,?_,?_,?_⟩
    ·rw [PV];exact ⟨rs,rfl,rfl,.inl ⟨rfl,trivial⟩⟩
    ·rw [FitP,FitIs];trivial
    ·simp only [cntP,cntIs,Rows.uptoBulk,List.map_cons,Rows.uptoBulkAll,List.length_nil];omega
   ·obtain rfl:v1= .slice (some a) len cap:=by simpa using hcs
    have hk:∀ i,∃ t,i < len->∃ k n c y d,elems[i]?=some d/\(∀ j,j < 4->W.cell? (a.add (i*4+j))=[Value.int .i64 k,.float .f64 n,.int .i32 c,sv y][j]?)/\IV (fun _=>False) W t k n c y/\FitI t/\cntI t+1<=Rows.uptoBulk d.1:=by
     intro i
     by_cases hi:i < len
     ·have:=hcell i hi
      have he:elems[i]?=some (elems[i]'(by omega)):=List.getElem?_eq_getElem (by omega)
      rw [he,c_item,Option.bind_eq_some_iff] at this
      obtain ⟨cs',hc1,hc2⟩:=this
      obtain ⟨t,k,n,c,y,rfl,q1,q2,q3⟩:=item_open (N - 1) n' cs' _ (by omega) hc2
      obtain ⟨_,_,hat⟩:=World.cells?_some hc1
      exact ⟨t,fun _=>⟨k,n,c,y,_,he,fun j hj=>by rw [<- Go.Deep.add_add];exact hat j hj,q1,q2,q3⟩⟩
     ·exact ⟨default,fun h=>absurd h hi⟩
    obtain ⟨T,hT⟩:=Classical.axiomOfChoice hk
    have hts:((List.range len).map T).length=len:=by simp
    have hsum:=sum_bulk cntI ((List.range len).map T) (elems.map (·.1)) (by simp [hel]) fun i h1 h2=>by
     have hi:i < len:=by simpa using h1
     obtain ⟨_,_,_,_,d,he,_,_,_,hs⟩:=hT i hi
     have he':elems[i]'(by omega)=d:=by rw [List.getElem?_eq_getElem (by omega)] at he;exact Option.some.inj he
     simp [he'];exact hs
    refine ⟨.mk s ((List.range len).map T) k,hs,(some a,len,cap),k,rfl,?_,?_,?_⟩
    ·by_cases h0:len=0
     ·subst h0
      rw [PV];exact ⟨rs,rfl,rfl,.inl ⟨rfl,trivial⟩⟩
     ·obtain ⟨_,_,_,_,_,_,hc0,_⟩:=hT 0 (by omega)
      obtain ⟨bl,off,spot⟩:=a
      have hspot:spot=none:=by have:=hc0 0 (by omega);simpa [Addr.add] using World.cell?_spot this
      subst hspot
      refine pv_of rs (by simp) fun i hi=>?_
      have hi':i < len:=by simpa using hi
      obtain ⟨k,n,c,y,d,_,hc,hr,_,_⟩:=hT i hi'
      refine ⟨bl,off,k,n,c,y,rfl,fun h=>h,by simpa using hr,?_,?_,?_,?_⟩
      ·have:=hc 0 (by omega);rw [add_off] at this;simpa using this
      ·have:=hc 1 (by omega);rw [add_off] at this;simpa [Nat.add_assoc] using this
      ·have:=hc 2 (by omega);rw [add_off] at this;simpa [Nat.add_assoc] using this
      ·have:=hc 3 (by omega);rw [add_off] at this;simpa [Nat.add_assoc] using this
    ·rw [FitP]
     refine fitIs_of _ fun i hi=>?_
     have hi':i < len:=by simpa using hi
     obtain ⟨_,_,_,_,_,_,_,_,hft,_⟩:=hT i hi'
     simpa using hft
    ·rw [hts,<- cntIs_sum] at hsum
     simp only [cntP,Rows.uptoBulk,List.map_cons,List.map_nil,Rows.uptoBulkAll,hts]
     omega
 termination_by N=>N
 decreasing_by omega
theorem item_open {H:Type}{enc:TypeId×Value->H}{W:World}{sp:Nat->Bool}{held:Bool}{base:Nat}:∀ (N fuel:Nat) (cs:List Value) (x:DataW H×List MemPlace),fuel<=N->DataW.trod enc Tryz.prog W base sp held fuel 59 cs=some x ->
  ∃ t k n c y,cs=[.int .i64 k,.float .f64 n,.int .i32 c,sv y]/\IV (fun _=>False) W t k n c y/\FitI t/\cntI t+1<=Rows.uptoBulk x.1
 | N,fuel,cs,x,hN,h=>by
  obtain ⟨xs,n,hfuel,rfl,hcl,hxl,hf⟩:=DataW.trod_struct Tryz.underlying59 h
  rw [c_item] at hcl
  match cs,hcl,xs,hxl with
  | [v0,v1,v2,v3],_,[y0,y1,y2,y3],_ =>
   have h0:=hf 0 _ rfl
   have h1:=hf 1 _ rfl
   have h2:=hf 2 _ rfl
   have h3:=hf 3 _ rfl
   simp only [List.getElem_toArray,List.getElem_cons_zero,List.getElem_cons_succ] at h0 h1 h2 h3
   rw [c_int] at h0
   rw [c_f64] at h1
   rw [c_i32] at h2
   rw [c_plains] at h3
   simp at h0 h1 h2 h3
   obtain ⟨k,e0,rfl,w0⟩:=DataW.trod_int Tryz.underlying3 h0
   obtain rfl:v0= .int .i64 k:=by simpa using e0
   obtain ⟨m,rfl,hm⟩:=trodF h1
   obtain ⟨c,e2,rfl,w2⟩:=DataW.trod_int Tryz.underlying21 h2
   obtain rfl:v2= .int .i32 c:=by simpa using e2
   rcases DataW.trod_slice Tryz.underlying57 h3 with ⟨hcs,rfl⟩ | ⟨a,len,cap,elems,rest,n',hn',hcs,rfl,_,hle,_,hel,hcell,_,_⟩
   ·obtain rfl:v3= .slice none 0 0:=by simpa using hcs
    refine ⟨.mk k m c [],k,m,c,nilS,rfl,iv_none _ W _ _ _ _ _,?_,?_⟩
    ·rw [FitI,FitPs];exact ⟨hm,trivial⟩
    ·simp only [cntI,cntPs,Rows.uptoBulk,List.map_cons,Rows.uptoBulkAll];omega
   ·obtain rfl:v3= .slice (some a) len cap:=by simpa using hcs
    have hk:∀ i,∃ t,i < len->∃ h y f d,elems[i]?=some d/\(∀ j,j < 3->W.cell? (a.add (i*3+j))=[sv h,sv y,Value.int .i64 f][j]?)/\PV (fun _=>False) W t h y f/\FitP t/\cntP t<=Rows.uptoBulk d.1:=by
     intro i
     by_cases hi:i < len
     ·have:=hcell i hi
      have he:elems[i]?=some (elems[i]'(by omega)):=List.getElem?_eq_getElem (by omega)
      rw [he,c_plain,Option.bind_eq_some_iff] at this
      obtain ⟨cs',hc1,hc2⟩:=this
      obtain ⟨t,h,y,f,rfl,q1,q2,q3⟩:=plain_open (N - 1) n' cs' _ (by omega) hc2
      obtain ⟨_,_,hat⟩:=World.cells?_some hc1
      exact ⟨t,fun _=>⟨h,y,f,_,he,fun j hj=>by rw [<- Go.Deep.add_add];exact hat j hj,q1,q2,q3⟩⟩
     ·exact ⟨default,fun h=>absurd h hi⟩
    obtain ⟨T,hT⟩:=Classical.axiomOfChoice hk
    have hts:((List.range len).map T).length=len:=by simp
    have hsum:=sum_bulk (fun t=>cntP t - 1) ((List.range len).map T) (elems.map (·.1)) (by simp [hel]) fun i h1 h2=>by
     have hi:i < len:=by simpa using h1
     obtain ⟨_,_,_,d,he,_,_,_,hs⟩:=hT i hi
     have he':elems[i]'(by omega)=d:=by rw [List.getElem?_eq_getElem (by omega)] at he;exact Option.some.inj he
     have:=cntP_pos (T i)
     simp [he'];omega
    have hsum2:cntPs ((List.range len).map T)<=Rows.uptoBulkAll (elems.map (·.1)):=by
     rw [cntPs_sum]
     refine Nat.le_trans ?_ hsum
     generalize (List.range len).map T=ts
     induction ts with
     | nil=>simp
     | cons t ts ih=>simp only [List.map_cons,List.sum_cons,List.length_cons];omega
    refine ⟨.mk k m c ((List.range len).map T),k,m,c,(some a,len,cap),rfl,?_,?_,?_⟩
    ·by_cases h0:len=0
     ·subst h0;exact iv_none _ W _ _ _ _ _
     ·obtain ⟨_,_,_,_,_,hc0,_⟩:=hT 0 (by omega)
      obtain ⟨bl,off,spot⟩:=a
      have hspot:spot=none:=by have:=hc0 0 (by omega);simpa [Addr.add] using World.cell?_spot this
      subst hspot
      rw [IV]
      refine ⟨rfl,rfl,rfl,by simp,.inr ⟨bl,off,rfl,fun h=>h,pvs_of _ _ fun i hi=>?_⟩⟩
      have hi':i < len:=by simpa using hi
      obtain ⟨h,y,f,d,_,hc,hr,_,_⟩:=hT i hi'
      refine ⟨h,y,f,⟨?_,?_,?_⟩,by simpa using hr⟩
      ·have:=hc 0 (by omega);rw [add_off] at this;simpa using this
      ·have:=hc 1 (by omega);rw [add_off] at this;simpa [Nat.add_assoc] using this
      ·have:=hc 2 (by omega);rw [add_off] at this;simpa [Nat.add_assoc] using this
    ·rw [FitI]
     refine ⟨hm,fitPs_of _ fun i hi=>?_⟩
     have hi':i < len:=by simpa using hi
     obtain ⟨_,_,_,_,_,_,_,hft,_⟩:=hT i hi'
     simpa using hft
    ·simp only [cntI,Rows.uptoBulk,List.map_cons,List.map_nil,Rows.uptoBulkAll]
     omega
 termination_by N=>N
 decreasing_by omega
end
end Go.Proofs.YtiahegjdkejjpaaGreatDoor
