/- The walk of rebusref25.Gather. rebusref25.Gather of plain arrays: what each.Gather tells of the arrays. The walk of rebusref25.Fold, along the last axis, by a .. Conditions: as each theorem says. -/
import Derived.Test.YtdelgpelkfndeaaGreatDoorMgA
import Derived.Test.YtdelgpelkfndeaaGreatDoorMg15
import Derived.Test.YtdelgpelkfndeaaGreatDoorMg25
import Derived.BigQuiet
import Derived.Test.YtdelgpelkfndeaaGreatDoorMg20
import Derived.Test.YtdelgpelkfndeaaGreatDoorMg12
set_option maxRecDepth 100000
set_option maxHeartbeats 4000000
namespace Go.Proofs.YtdelgpelkfndeaaGreatDoor
open Go Go.RowKit Go.Proofs Fl
def gmx (d:Nat->Nat) (f:Nat->Int):Nat->Bool
 | 0=>false
 | j+1=>gmx d f j||decide (0 < d j)||(f j==2)||(f j != f 0)
structure GrI (H:Nat->Prop) (w:World) (h:Sl) (f:Int) (l:List RI) (v:Value) (W:World):Prop where
 own:IOwn (fun b=>H b\/b=w.heap.size\/b=w.heap.size+1) W (w.heap.size+2) v l
 out:W.heap[w.heap.size+1]?=some (.cells #[sv h,v,.int .i64 f] 25)
 res:W.heap[w.heap.size]?=some (.cells Qa4 25)
 bel:Below w.heap.size w W
theorem GrI.step {H:Nat->Prop}{w W W':World}{h:Sl}{f:Int}{l:List RI}{v:Value} (g:GrI H w h f l v W) (hb:Below W.heap.size W W'):GrI H w h f l v W' :=
 ⟨g.own.below hb,by rw [hb.block _ (lt_blk g.out)];exact g.out,by rw [hb.block _ (lt_blk g.res)];exact g.res,Qaa g.bel hb⟩
theorem GrI.sz {H:Nat->Prop}{w W:World}{h:Sl}{f:Int}{l:List RI}{v:Value} (g:GrI H w h f l v W):w.heap.size+2<=W.heap.size:=lt_blk g.out
theorem GrI.push {H:Nat->Prop}{w W w':World}{h:Sl}{f:Int}{l:List RI}{v v':Value}{A:RI} (g:GrI H w h f l v W) (hH:∀ b,H b->b < w.heap.size) (hown:IOwn (fun b=>H b\/b=w.heap.size\/b=w.heap.size+1) w' (w.heap.size+2) v' (l++[A])) (hb:Below (w.heap.size+2) W w') :
  GrI H w h f (l++[A]) v' (w'.setCell ⟨w.heap.size+1,1,none⟩ v'):=by
 have e2:w'.heap[w.heap.size+1]?=some (.cells #[sv h,v,.int .i64 f] 25):=by rw [hb.block _ (by omega)];exact g.out
 refine ⟨hown.lat (Lat.set (a:=⟨w.heap.size+1,1,none⟩) (.inr (.inr rfl)) v') (fun b e h2=>by
  have:=(hown.own_lt e).1
  rcases h2 with h2 | h2
  ·have:=hH b h2;omega
  ·omega),?_,?_,(g.bel.trans (hb.mono (by omega))).setCell (by show _<=w.heap.size+1;omega) _⟩
 ·have h1:=heap_setCell_same _ (w.heap.size+1) 1 _ _ v' e2
  rw [show (#[sv h,v,.int .i64 f]:Array Value).setIfInBounds 1 v'=#[sv h,v',.int .i64 f] by simp] at h1
  exact h1
 ·rw [Below.heap_setCell _ _ _ _ (by show w.heap.size≠w.heap.size+1;omega),hb.block _ (by omega)]
  exact g.res
theorem GrI.fill {H:Nat->Prop}{w W:World}{h:Sl}{f:Int}{l:List RI}{v:Value} (g:GrI H w h f l v W) (hH:∀ b,H b->b < w.heap.size) (f':Int):GrI H w h f' l v (W.setCell ⟨w.heap.size+1,2,none⟩ (.int .i64 f')):=by
 refine ⟨g.own.lat (Lat.set (a:=⟨w.heap.size+1,2,none⟩) (.inr (.inr rfl)) _) (fun b e h2=>by
  have:=(g.own.own_lt e).1
  rcases h2 with h2 | h2
  ·have:=hH b h2;omega
  ·omega),?_,?_,g.bel.setCell (by show _<=w.heap.size+1;omega) _⟩
 ·have h1:=heap_setCell_same _ (w.heap.size+1) 2 _ _ (.int .i64 f') g.out
  rw [show (#[sv h,v,.int .i64 f]:Array Value).setIfInBounds 2 (.int .i64 f')=#[sv h,v,.int .i64 f'] by simp] at h1
  exact h1
 ·rw [Below.heap_setCell _ _ _ _ (by show w.heap.size≠w.heap.size+1;omega)]
  exact g.res
theorem GrI.drew {H:Nat->Prop}{w W:World}{h:Sl}{f:Int}{l:List RI}{v:Value} (g:GrI H w h f l v W) (n:Nat):GrI H w h f l v (W.drewN n):=g.step ⟨rfl,rfl,rfl,Nat.le_refl _,fun _ _=>rfl⟩
theorem GrI.new (H:Nat->Prop) (w:World) (h:Sl):GrI H w h 0 [] vnil ((w.alloc (.cells Qa4 25)).alloc (plO h nilS 0)):=by
 have h1:=heap_alloc_new (w.alloc (.cells Qa4 25)) (plO h nilS 0)
 have e:(w.alloc (.cells Qa4 25)).heap.size=w.heap.size+1:=by simp
 rw [e] at h1
 exact ⟨IOwn.nil _ _ _,h1,QaJ (heap_alloc_new w _) _,bel2 w _ _⟩
theorem GrI.done {H:Nat->Prop}{w W:World}{h:Sl}{f:Int}{s:List Int}{l:List RI}{v:Value} (g:GrI H w h f l v W) (hH:∀ b,H b->b < w.heap.size) (hs:RdH H w (sv h) (s.map (Value.int .i64))) (a0 a1 a2:Value) :
  ∃ x:Sl,v=sv x/\PV H (set3 W w.heap.size a0 a1 a2) (.mk s l f) h x f:=by
 have hs2:RdH (fun b=>H b\/b=w.heap.size\/b=w.heap.size+1) W (sv h) (s.map (Value.int .i64)):=(hs.sub (fun b hb e=>by
  rcases e with e | e
  ·exact e
  ·omega)).lat (Lat.below g.bel)
 obtain ⟨x,e,hp⟩:=g.own.pv (fun b e=>by
  rcases e with e | e
  ·have:=hH b e;omega
  ·omega) hs2 f
 exact ⟨x,e,PV.sub (fun _ _ e => .inl e) (PV.lat (Lat.set3 (G:=w.heap.size) (.inr (.inl rfl)) a0 a1 a2) hp)⟩
theorem Qim (H:Nat->Prop) (s:List Int) (hS:Sl) (A:Option Addr) (b o m c:Nat) (hh yy:Nat->Sl) (ff:Nat->Int) (d:Nat->Nat) (T:Nat->RP) (IT:Nat->RI) (w:World) (hH:∀ b,H b->b < w.heap.size) (hm:m<=1048576) (hA:0 < m->A=some ⟨b,o,none⟩)
  (hat:∀ j,j < m->∀ W,Below w.heap.size w W->At3 W b (o+j*3) (hh j) (yy j) (ff j)) (hd:∀ j,j < m->(hh j).2.1=d j) (hdl:∀ j,d j<=1048576)
  (hT:∀ j,j < m->PV H w (T j) (hh j) (yy j) (ff j))
  (hI:gmx d ff m=false->∀ j,j < m->∃ b2 o2 n2 c2 k n c x,yy j=(some ⟨b2,o2,none⟩,n2+1,c2)/\IV H w (IT j) k n c x/\∀ W,Below w.heap.size w W->At4 W b2 o2 k n c x)
  (hs:RdH H w (sv hS) (s.map (Value.int .i64))) :
  Calls Tryz.prog 128 #[sv hS,.slice A m c] w (PlR H w (.mk s ((List.range m).map fun j=>if gmx d ff m then RI.mk 2 0 0 [T j] else IT j) (if gmx d ff m then 2 else if m=0 then 0 else ff 0)) (if gmx d ff m then 2 else if m=0 then 0 else ff 0)):=by
 have HH:=hD hH
 have HAT:=hD hat
 have HD:=hD hd
 have HDL:=hD hdl
 have HT:=hD hT
 have HI:=hD hI
 have HS:=hD hs
 clear hat hd hdl hT hI hs
 have HG0:=hD (GrI.new H w hS)
 go_enter Tryz.func128,Tryz.ntmps128
 go_wp2_with fail
 go_loopw [6,7] (fun tt jj wr=>∃ j:Nat,j<=m/\jj= .int .i64 j/\tt= .bool (gmx d ff j)/\GrI H w hS 0 [] vnil wr) (fun _ jj _=>m - (intOf jj).toNat)
 case atStart=>exact ⟨0,Nat.zero_le _,rfl,rfl,HG0.out⟩
 case round =>
  clear HG0
  obtain ⟨j,hj,rfl,rfl,hg⟩:=hrel
  have HG:=hD hg
  clear hg
  by_cases hlt:j < m
  ·obtain rfl:=hA (by omega)
   obtain ⟨t,ht⟩:∃ t,t=gmx d ff (j+1):=⟨_,rfl⟩
   have HTT:=hD ht
   have ht2:t=(gmx d ff j||decide (0 < d j)||(ff j==2)||(ff j != ff 0)):=ht
   clear ht
   have HJ:=hD (HAT.out j hlt wr HG.out.bel)
   have HF:=hD (HAT.out 0 (by omega) wr HG.out.bel)
   have HDJ:=hD (HD.out j hlt)
   have hdb:=HDL.out j
   rw [Nat.zero_mul,Nat.add_zero] at HF
   generalize gmx d ff j=u at *
   generalize hh j=hj9 at *
   generalize yy j=yj at *
   generalize ff j=fj at *
   generalize d j=dj at *
   generalize hh 0=h0' at *
   generalize yy 0=y0' at *
   generalize ff 0=f0' at *
   obtain ⟨sA,sn,sc⟩:=hj9
   obtain rfl:sn=dj:=HDJ.out
   obtain ⟨a0,a1,a2⟩:=HJ.out
   obtain ⟨z0,z1,z2⟩:=HF.out
   cases u with
   | true =>
    have e1:t=true:=by rw [ht2];rfl
    go_wp2_with fail
    go_quiet (fail)
    go_wp2
    go_roundw
    case rel=>exact ⟨j+1,by omega,by go_num,by rw [<- HTT.out,e1],HG.out.drew _⟩
    case measure=>simp [intOf];omega
   | false =>
    by_cases hd0:0 < sn
    ·have e1:t=true:=by rw [ht2,decide_eq_true hd0];rfl
     have hd1:decide ((sn:Int) > 0)=true:=decide_eq_true (by omega)
     go_wp2_with fail
     go_quiet (fail)
     go_wp2
     go_roundw
     case rel=>exact ⟨j+1,by omega,by go_num,by rw [<- HTT.out,e1],HG.out.drew _⟩
     case measure=>simp [intOf];omega
    ·obtain rfl:sn=0:=by omega
     by_cases hf2:fj=2
     ·subst hf2
      have e1:t=true:=by rw [ht2];rfl
      go_wp2_with fail
      go_quiet (fail)
      go_wp2
      go_roundw
      case rel=>exact ⟨j+1,by omega,by go_num,by rw [<- HTT.out,e1],HG.out.drew _⟩
      case measure=>simp [intOf];omega
     ·have hf3:(fj==2)=false:=by simpa using hf2
      have e1:t=(fj != f0'):=by rw [ht2,hf3];rfl
      go_wp2_with fail
      go_quiet (fail)
      go_wp2
      go_roundw
      case rel=>exact ⟨j+1,by omega,by go_num,by rw [<- HTT.out,e1],HG.out.drew _⟩
      case measure=>simp [intOf];omega
  ·obtain rfl:j=m:=by omega
   by_cases hj0:j=0
   ·subst hj0
    have HGE:=HG
    go_wp2_with fail
    refine wp_loop_rounds 1 ?_
    rw [rounds_succ]
    obtain ⟨x',hx',hpv⟩:=HGE.out.done HH.out HS.out (sv hS) vnil (.int .i64 0)
    have HPV:=hD hpv
    have HRB:=hD (Qae HGE.out.res (sv hS) vnil (.int .i64 0))
    have HBB:=hD (Qaf HGE.out.bel (G:=w.heap.size) (Nat.le_refl _) (sv hS) vnil (.int .i64 0))
    obtain ⟨xA,xn,xc⟩:=x'
    have h9:vnil= .slice xA xn xc:=hx'
    injection h9 with h10 h11 h12
    subst h10;subst h11;subst h12
    obtain ⟨⟨z0,z1,z2⟩,zz⟩:=block3 HGE.out.res
    obtain ⟨⟨e0,e1,e2⟩,ez⟩:=block3 HGE.out.out
    clear hpv hx'
    go_wp2
    refine bodyPost_ret (v:=plV hS nilS 0) ?_ rfl ⟨hS,nilS,rfl,HPV.out,HBB.out⟩
    exact QaI (fn:=Tryz.f128) (p:=4) rfl _ _ w.heap.size (by rfl) HRB.out
   ·have hjp:0 < j:=by omega
    obtain rfl:=hA hjp
    have HF:=hD (HAT.out 0 hjp wr HG.out.bel)
    rw [Nat.zero_mul,Nat.add_zero] at HF
    obtain ⟨L,hL⟩:∃ L,L=((List.range j).map fun i=>if gmx d ff j then RI.mk 2 0 0 [T i] else IT i):=⟨_,rfl⟩
    have hLl:L.length=j:=by rw [hL];simp
    have HLL:=hD hLl
    have HLI:Hid (∀ i (hi:i < L.length),L[i]=if gmx d ff j then RI.mk 2 0 0 [T i] else IT i):=by
     intro i hi
     subst hL
     simp
    have HL:=hD hL
    have hcase:gmx d ff j=false\/gmx d ff j=true:=by cases gmx d ff j <;> simp
    obtain ⟨z0,z1,z2⟩:=HF.out
    obtain ⟨⟨e0,e1,e2⟩,ez⟩:=block3 HG.out.out
    have HG1:=hD (HG.out.fill HH.out (ff 0))
    have HG2:=hD (HG1.out.fill HH.out 2)
    clear hL hLl
    rcases hcase with ht | ht
    ·have HT2:=hD ht
     rw [ht]
     go_wp2_with fail
     go_loopw [8] (fun ii wr=>∃ (i:Nat) (v:Value),i<=j/\ii= .int .i64 i/\GrI H w hS (ff 0) (L.take i) v wr) (fun ii _=>j - (intOf ii).toNat)
     case atStart=>exact ⟨0,_,Nat.zero_le _,rfl,HG1.out⟩
     case round =>
      obtain ⟨i,v,hi,rfl,hgi⟩:=hrel
      have HGI:=hD hgi
      clear hgi z0 z1 z2 e0 e1 e2 ez
      obtain ⟨vA,vn,vc,hvn⟩:∃ A n c,v= .slice A n c:=by obtain ⟨a,c,e⟩:=HGI.out.own.len;exact ⟨a,_,c,e⟩
      subst hvn
      obtain ⟨⟨e0,e1,e2⟩,ez⟩:=block3 HGI.out.out
      have g1:=fun o=>Qab e1 o
      have g2:=fun o o'=>QaE e1 o o'
      by_cases hik:i < j
      ·have hiL:i < L.length:=by rw [HLL.out];exact hik
       have HTK:Hid (L.take (i+1)=L.take i++[L[i]]):=List.take_succ_eq_append_getElem hiL
       have HLX:=hD (HLI.out i hiL)
       have hlb:(L.take i).length<=1048576:=by rw [List.length_take];have:=HLL.out;omega
       have HLB:=hD hlb
       have hsz:w.heap.size+2<=wr.heap.size:=HGI.out.sz
       clear hlb
       have HXJ:=hD (HAT.out i hik wr HGI.out.bel)
       obtain ⟨b2,o2,n2,c2,k,n,c9,x,hyy,hiv,h4⟩:=HI.out HT2.out i hik
       rw [hyy] at HXJ
       rw [HT2.out,if_neg (by decide)] at HLX
       have HPI:=hD hiv
       have h4w:=h4 wr HGI.out.bel
       clear hiv h4 hyy
       generalize L[i]=li at HTK HLX
       generalize IT i=ti at HLX HPI
       generalize hh i=hi3 at HXJ
       generalize ff i=fi3 at HXJ
       obtain ⟨a0,a1,a2⟩:=HXJ.out
       obtain ⟨t0,t1,t2,t3⟩:=h4w
       dsimp only [sv] at a1 t3
       have hn2:(0:Int) < ((n2+1:Nat):Int):=by omega
       have HBX:=hD ((bel1 wr (itO k n c9 x)).drew)
       have HTW:=hD (HGI.out.step HBX.out)
       have HBK:Hid ((wr.alloc (itO k n c9 x)).drew.heap[wr.heap.size]?=some (itO k n c9 x)):=heap_alloc_new wr (itO k n c9 x)
       have HAV:Hid (IV (fun b=>(fun b=>H b\/b=w.heap.size\/b=w.heap.size+1) b\/(Value.slice vA vn vc).ownBlock=some b) (wr.alloc (itO k n c9 x)).drew li k n c9 x):=by
        unfold Hid
        rw [HLX.out]
        refine (((IV.sub (fun b hb e=>?_) HPI.out).step HGI.out.bel).step HBX.out)
        rcases e with (e | e | e) | e
        ·exact e
        ·omega
        ·omega
        ·have:=(HGI.out.own.own_lt e).1;omega
       have HSZ:Hid (w.heap.size+2<=(wr.alloc (itO k n c9 x)).drew.heap.size):=by unfold Hid;have:=HBX.out.size;omega
       have hst:=fun md=>QaK wr k 0 n 0 (.slice none 0 0) 63 md
       go_wp2_with fail
       go_region_law (go_loud (refine Qeg rfl (.tmp 76) (.tmp 84) rfl (fun b=>H b\/b=w.heap.size\/b=w.heap.size+1) (w.heap.size+2) (.slice vA vn vc) (L.take i) (by rfl) HTW.out.own ⟨k,n,c9,x⟩ li HAV.out wr.heap.size HBK.out (by rfl) HLB.out HSZ.out ?_);intro vA' vn' vc' w' hown' hbw;have HBW:=hD (hbw _ (Below.refl _ _));have HP:=hD (HTW.out.push HH.out hown' HBW.out);(obtain ⟨⟨q0,q1,q2⟩,qz⟩:=block3 (show w'.heap[w.heap.size+1]?=_ from (HBW.out.block _ (by omega)).trans HTW.out.out));clear hown' hbw)
       all_goals
        go_wp2
        go_roundw
        case rel=>exact ⟨i+1,_,by omega,by go_num,by rw [HTK.out];exact HP.out⟩
        case measure=>simp [intOf];omega
      ·obtain rfl:i=j:=by omega
       have HTL:Hid (L.take i=L):=by unfold Hid;rw [<- HLL.out];exact List.take_length
       obtain ⟨x',hx',hpv⟩:=HGI.out.done HH.out HS.out (sv hS) (.slice vA vn vc) (.int .i64 (ff 0))
       rw [HTL.out,HL.out] at hpv
       have HPV:=hD hpv
       have HRB:=hD (Qae HGI.out.res (sv hS) (.slice vA vn vc) (.int .i64 (ff 0)))
       have HBB:=hD (Qaf HGI.out.bel (G:=w.heap.size) (Nat.le_refl _) (sv hS) (.slice vA vn vc) (.int .i64 (ff 0)))
       obtain ⟨xA,xn,xc⟩:=x'
       have h9:Value.slice vA vn vc= .slice xA xn xc:=hx'
       injection h9 with h10 h11 h12
       subst h10;subst h11;subst h12
       obtain ⟨⟨y0,y1,y2⟩,yz⟩:=block3 HGI.out.res
       clear hpv hx'
       go_wp2
       all_goals
        refine bodyPost_ret (v:=plV hS (vA,vn,vc) (ff 0)) ?_ rfl ?_
        ·exact QaI (fn:=Tryz.f128) (p:=4) rfl _ _ w.heap.size (by rfl) HRB.out
        ·have hp:=HPV.out
         simp only [HT2.out,Bool.false_eq_true,↓reduceIte] at hp
         exact ⟨hS,(vA,vn,vc),rfl,hp,HBB.out⟩
    ·have HT2:=hD ht
     rw [ht]
     go_wp2_with fail
     go_loopw [8] (fun ii wr=>∃ (i:Nat) (v:Value),i<=j/\ii= .int .i64 i/\GrI H w hS 2 (L.take i) v wr) (fun ii _=>j - (intOf ii).toNat)
     case atStart=>exact ⟨0,_,Nat.zero_le _,rfl,HG2.out⟩
     case round =>
      obtain ⟨i,v,hi,rfl,hgi⟩:=hrel
      have HGI:=hD hgi
      clear hgi z0 z1 z2 e0 e1 e2 ez
      obtain ⟨vA,vn,vc,hvn⟩:∃ A n c,v= .slice A n c:=by obtain ⟨a,c,e⟩:=HGI.out.own.len;exact ⟨a,_,c,e⟩
      subst hvn
      obtain ⟨⟨e0,e1,e2⟩,ez⟩:=block3 HGI.out.out
      have g1:=fun o=>Qab e1 o
      have g2:=fun o o'=>QaE e1 o o'
      by_cases hik:i < j
      ·have hiL:i < L.length:=by rw [HLL.out];exact hik
       have HTK:Hid (L.take (i+1)=L.take i++[L[i]]):=List.take_succ_eq_append_getElem hiL
       have HLX:=hD (HLI.out i hiL)
       have hlb:(L.take i).length<=1048576:=by rw [List.length_take];have:=HLL.out;omega
       have HLB:=hD hlb
       have hsz:w.heap.size+2<=wr.heap.size:=HGI.out.sz
       clear hlb
       have HXJ:=hD (HAT.out i hik wr HGI.out.bel)
       have HPI:=hD (HT.out i hik)
       rw [HT2.out,if_pos rfl] at HLX
       generalize L[i]=li at HTK HLX
       generalize T i=ti at HLX HPI
       generalize hh i=hi3 at HXJ HPI
       generalize yy i=yi3 at HXJ HPI
       generalize ff i=fi3 at HXJ HPI
       obtain ⟨a0,a1,a2⟩:=HXJ.out
       have HBX:=hD ((bel2 wr (plO hi3 yi3 fi3) (itO 2 0 0 (some ⟨wr.heap.size,0,none⟩,1,1))).drew)
       have HTW:=hD (HGI.out.step HBX.out)
       have HZ1:Hid ((wr.alloc (plO hi3 yi3 fi3)).heap.size=wr.heap.size+1):=by unfold Hid;simp
       have HBK:Hid (((wr.alloc (plO hi3 yi3 fi3)).alloc (itO 2 0 0 (some ⟨wr.heap.size,0,none⟩,1,1))).drew.heap[wr.heap.size+1]?=some (itO 2 0 0 (some ⟨wr.heap.size,0,none⟩,1,1))):=by
        have h1:=heap_alloc_new (wr.alloc (plO hi3 yi3 fi3)) (itO 2 0 0 (some ⟨wr.heap.size,0,none⟩,1,1))
        rw [HZ1.out] at h1
        exact h1
       have HAV:Hid (IV (fun b=>(fun b=>H b\/b=w.heap.size\/b=w.heap.size+1) b\/(Value.slice vA vn vc).ownBlock=some b) ((wr.alloc (plO hi3 yi3 fi3)).alloc (itO 2 0 0 (some ⟨wr.heap.size,0,none⟩,1,1))).drew li 2 0 0 (some ⟨wr.heap.size,0,none⟩,1,1)):=by
        unfold Hid
        rw [HLX.out]
        refine QjM ?_ (((PV.sub (fun b hb e=>?_) HPI.out).step HGI.out.bel).step HBX.out) ((Qbd wr hi3 yi3 fi3).of fun o=>by
         have hlt:wr.heap.size < (wr.alloc (plO hi3 yi3 fi3)).heap.size:=by simp
         exact (bel1 (wr.alloc (plO hi3 yi3 fi3)) (itO 2 0 0 (some ⟨wr.heap.size,0,none⟩,1,1))).drew.cell (p:=⟨wr.heap.size,o,none⟩) hlt)
        ·rintro ((e | e | e) | e)
         ·have:=HH.out _ e;omega
         ·omega
         ·omega
         ·have:=(HGI.out.own.own_lt e).2;omega
        ·rcases e with (e | e | e) | e
         ·exact e
         ·omega
         ·omega
         ·have:=(HGI.out.own.own_lt e).1;omega
       have HSZ:Hid (w.heap.size+2<=((wr.alloc (plO hi3 yi3 fi3)).alloc (itO 2 0 0 (some ⟨wr.heap.size,0,none⟩,1,1))).drew.heap.size):=by unfold Hid;have:=HBX.out.size;omega
       have hst0:=fun md=>QaK (wr.alloc (plO hi3 yi3 fi3)) 2 0 0 0 (.slice none 0 0) 63 md
       go_wp2_with fail
       go_region_law (go_loud (refine Qeg rfl (.tmp 65) (.tmp 72) rfl (fun b=>H b\/b=w.heap.size\/b=w.heap.size+1) (w.heap.size+2) (.slice vA vn vc) (L.take i) (by rfl) HTW.out.own ⟨2,0,0,(some ⟨wr.heap.size,0,none⟩,1,1)⟩ li HAV.out (wr.heap.size+1) HBK.out (by rfl) HLB.out HSZ.out ?_);intro vA' vn' vc' w' hown' hbw;have HBW:=hD (hbw _ (Below.refl _ _));have HP:=hD (HTW.out.push HH.out hown' HBW.out);(obtain ⟨⟨q0,q1,q2⟩,qz⟩:=block3 (show w'.heap[w.heap.size+1]?=_ from (HBW.out.block _ (by omega)).trans HTW.out.out));clear hown' hbw)
       all_goals
        go_wp2
        go_roundw
        case rel=>exact ⟨i+1,_,by omega,by go_num,by rw [HTK.out];exact HP.out⟩
        case measure=>simp [intOf];omega
      ·obtain rfl:i=j:=by omega
       have HTL:Hid (L.take i=L):=by unfold Hid;rw [<- HLL.out];exact List.take_length
       obtain ⟨x',hx',hpv⟩:=HGI.out.done HH.out HS.out (sv hS) (.slice vA vn vc) (.int .i64 2)
       rw [HTL.out,HL.out] at hpv
       have HPV:=hD hpv
       have HRB:=hD (Qae HGI.out.res (sv hS) (.slice vA vn vc) (.int .i64 2))
       have HBB:=hD (Qaf HGI.out.bel (G:=w.heap.size) (Nat.le_refl _) (sv hS) (.slice vA vn vc) (.int .i64 2))
       obtain ⟨xA,xn,xc⟩:=x'
       have h9:Value.slice vA vn vc= .slice xA xn xc:=hx'
       injection h9 with h10 h11 h12
       subst h10;subst h11;subst h12
       obtain ⟨⟨y0,y1,y2⟩,yz⟩:=block3 HGI.out.res
       clear hpv hx'
       go_wp2
       refine bodyPost_ret (v:=plV hS (vA,vn,vc) 2) ?_ rfl ?_
       ·exact QaI (fn:=Tryz.f128) (p:=4) rfl _ _ w.heap.size (by rfl) HRB.out
       ·have hp:=HPV.out
        simp only [HT2.out,↓reduceIte] at hp
        exact ⟨hS,(vA,vn,vc),rfl,hp,HBB.out⟩
theorem Qn4 (d cl:Nat->Nat):∀ m,gmx d (fun j=>(cl j:Int)) m = !gok d cl m
 | 0=>rfl
 | m+1=>by
  have ih:=Qn4 d cl m
  have e2:(((cl m:Nat):Int)==2)=(cl m==2):=Qkg (cl m) 2
  unfold gmx gok
  rw [ih,e2]
  show (_||_||_||!(((cl m:Nat):Int)==((cl 0:Nat):Int)))=_
  rw [Qkg]
  have e3:decide (0 < d m) = !(d m==0):=by
   by_cases h:d m=0
   ·simp [h]
   ·have:0 < d m:=by omega
    simp [h,this]
  rw [e3]
  show _ = !(gok d cl m&&(d m==0)&&!(cl m==2)&&(cl m==cl 0))
  cases gok d cl m <;> cases (d m==0) <;> cases (cl m==2) <;> cases (cl m==cl 0) <;> rfl
theorem Qgt:∀ l:List PA,Qbs l=l.map fun a=>RI.mk 2 0 0 [rawP a]
 | []=>by rw [Qbs];rfl
 | a::ar=>by rw [Qbs,Qgt ar];rfl
def itm0:PA->RI
 | .nums _ l => .mk 0 (l.getD 0 0) 0 []
 | .chars _ l => .mk 1 0 (l.getD 0 0) []
 | .boxes _ _=>default
theorem Qsv {a:PA} (h:a.fill=0):itm0 a= .mk 0 (num0 a) 0 []:=by
 cases a with
 | nums s l=>rfl
 | chars s l=>exact absurd h (by intro h;cases h)
 | boxes s l=>exact absurd h (by intro h;cases h)
theorem Qsw {a:PA} (h:a.fill=1):itm0 a= .mk 1 0 (chr0 a) []:=by
 cases a with
 | nums s l=>exact absurd h (by intro h;cases h)
 | chars s l=>rfl
 | boxes s l=>exact absurd h (by intro h;cases h)
theorem Qsx {a:PA} (h2:a.fill≠2) (h1:a.len=1):∃ s f,rawP a= .mk s [itm0 a] f:=by
 cases a with
 | nums s l =>
  have h1:l.length=1:=h1
  match l,h1 with
  | [x],_=>exact ⟨_,_,by rw [rawP];rfl⟩
 | chars s l =>
  have h1:l.length=1:=h1
  match l,h1 with
  | [x],_=>exact ⟨_,_,by rw [rawP];rfl⟩
 | boxes s l=>exact absurd rfl h2
theorem Qjk (H:Nat->Prop) (sh:List Nat) (l:List PA) (h x:Sl) (w:World) (hH:∀ b,H b->b < w.heap.size) (hl:l.length<=1048576) (hx:PSl H w x (l.map rawP)) (hs:RdH H w (sv h) ((sh.map Int.ofNat).map (Value.int .i64)))
  (hone:∀ a∈l,a.shape.length=0->a.fill≠2->a.len=1) (hdl:∀ a∈l,a.shape.length<=1048576) :
  Calls Tryz.prog 128 #[sv h,sv x] w fun e w'=>∃ f,PlR H w (rawP (gatA sh l)) f e w':=by
 obtain ⟨A,m,c⟩:=x
 obtain rfl:m=l.length:=by have:=hx.1;rw [List.length_map] at this;exact this
 have hrow:∀ j,∃ (h y:Sl),j < l.length->∃ b o,A=some ⟨b,o,none⟩/\PV H w (rawP (l.getD j default)) h y ((l.getD j default).fill:Nat)/\∀ w1,Lat H w w1->At3 w1 b (o+j*3) h y ((l.getD j default).fill:Nat):=fun j=>by
  by_cases hj:j < l.length
  ·obtain ⟨b,o,h,y,f,e,_,hpv,hat⟩:=hx.at_ j (by rw [List.length_map];exact hj)
   rw [List.getElem_map,<- QnB hj] at hpv
   have hf:f=((l.getD j default).fill:Nat):=by
    obtain ⟨items,e2,_⟩:=QgX (l.getD j default)
    rw [e2] at hpv
    exact hpv.open_.2.1
   subst hf
   exact ⟨h,y,fun _=>⟨b,o,e,hpv,hat⟩⟩
  ·exact ⟨nilS,nilS,fun h=>absurd h hj⟩
 obtain ⟨hh,hrow⟩:=Classical.axiomOfChoice hrow
 obtain ⟨yy,hrow⟩:=Classical.axiomOfChoice hrow
 obtain ⟨b,o,hA⟩:∃ b o,0 < l.length->A=some ⟨b,o,none⟩:=by
  by_cases h0:0 < l.length
  ·obtain ⟨b,o,e,_⟩:=hrow 0 h0
   exact ⟨b,o,fun _=>e⟩
  ·exact ⟨0,0,fun h=>absurd h h0⟩
 have hpv:∀ j,j < l.length->PV H w (rawP (l.getD j default)) (hh j) (yy j) ((l.getD j default).fill:Nat):=fun j hj=>by
  obtain ⟨_,_,_,h,_⟩:=hrow j hj
  exact h
 have hat:∀ j,j < l.length->∀ W,Below w.heap.size w W->At3 W b (o+j*3) (hh j) (yy j) ((l.getD j default).fill:Nat):=fun j hj W hb=>by
  obtain ⟨b',o',e,_,h⟩:=hrow j hj
  rw [hA (by omega)] at e
  injection e with e
  injection e with e1 e2 _
  subst e1;subst e2
  exact h W (Lat.below hb)
 have hmem:∀ j,j < l.length->l.getD j default∈l:=fun j hj=>by rw [QnB hj];exact List.getElem_mem hj
 have hlen:∀ j,j < l.length->(l.getD j default).shape.length=0->(l.getD j default).fill≠2->(l.getD j default).len=1:=fun j hj=>hone _ (hmem j hj)
 have hgm:gmx (fun j=>(l.getD j default).shape.length) (fun j=>((l.getD j default).fill:Nat)) l.length = !gokA l:=Qn4 _ _ _
 have hw:=Qim H (sh.map Int.ofNat) h A b o l.length c hh yy (fun j=>((l.getD j default).fill:Nat)) (fun j=>(l.getD j default).shape.length) (fun j=>rawP (l.getD j default)) (fun j=>itm0 (l.getD j default)) w hH hl hA hat
  (fun j hj=>by
   obtain ⟨items,e2,_⟩:=QgX (l.getD j default)
   have h1:=hpv j hj
   rw [e2] at h1
   obtain ⟨a,c,e⟩:=RdH.len h1.open_.1
   unfold sv at e
   injection e with _ e _
   simpa using e)
  (fun j=>by
   by_cases hj:j < l.length
   ·exact hdl _ (hmem j hj)
   ·simp [List.getD,hj];decide) hpv
  (fun hno j hj=>by
   rw [hgm] at hno
   have ht:gokA l=true:=by simpa using hno
   obtain ⟨g2,g3,g4⟩:=QnA (d:=fun j=>(l.getD j default).shape.length) (cl:=fun j=>(l.getD j default).fill) (m:=l.length) ht j hj
   obtain ⟨s1,f1,e1⟩:=Qsx g3 (hlen j hj g2 g3)
   have h1:=hpv j hj
   rw [e1] at h1
   obtain ⟨_,_,h3,h4⟩:=h1.open_
   obtain ⟨b2,o2,k,n,c,y,e2,_,hiv,h5⟩:=h4 0 (Nat.lt_succ_self 0)
   refine ⟨b2,o2,0,(yy j).2.2,k,n,c,y,?_,hiv,fun W hb=>?_⟩
   ·generalize yy j=q at e2 h3 ⊢
    obtain ⟨ya,yn,yc⟩:=q
    have e2:ya=some ⟨b2,o2,none⟩:=e2
    have h3:yn=1:=h3
    subst e2
    subst h3
    rfl
   ·have:=h5 W (Lat.below hb)
    simpa using this) hs
 have e:rawP (gatA sh l)= .mk (sh.map Int.ofNat) ((List.range l.length).map fun j=>if gmx (fun j=>(l.getD j default).shape.length) (fun j=>((l.getD j default).fill:Int)) l.length=true then RI.mk 2 0 0 [rawP (l.getD j default)] else itm0 (l.getD j default))
   (if gmx (fun j=>(l.getD j default).shape.length) (fun j=>((l.getD j default).fill:Int)) l.length=true then 2 else if l.length=0 then 0 else ((l.getD 0 default).fill:Int)):=by
  rw [hgm]
  have hcase:gokA l=false\/gokA l=true:=by cases gokA l <;> simp
  rcases hcase with ht | ht
  ·unfold gatA
   rw [ht]
   simp only [Bool.not_false,↓reduceIte,Bool.false_eq_true]
   rw [rawP,Qgt,<- Qej l]
  ·have hg:=fun j hj=>QnA (d:=fun j=>(l.getD j default).shape.length) (cl:=fun j=>(l.getD j default).fill) (m:=l.length) ht j hj
   unfold gatA
   rw [ht]
   simp only [Bool.not_true,↓reduceIte,Bool.false_eq_true]
   by_cases f0:(l.getD 0 default).fill=0
   ·rw [if_pos f0,rawP,f0]
    have e1:(List.range l.length).map (fun j=>itm0 (l.getD j default))=(l.map num0).map fun x=>RI.mk 0 x 0 []:=by
     rw [List.map_map,<- Qej l]
     exact List.map_congr_left fun j hj=>Qsv ((hg j (List.mem_range.1 hj)).2.2.trans f0)
    rw [e1]
    split <;> rfl
   ·have h0:¬ l.length=0:=fun h=>by
     have e0:l=[]:=List.eq_nil_of_length_eq_zero h
     subst e0
     exact f0 rfl
    have f1:(l.getD 0 default).fill=1:=by
     have h1:=Qp0 (l.getD 0 default)
     have h2:=(hg 0 (by omega)).2.1
     omega
    rw [if_neg f0,rawP,if_neg h0,f1]
    have e1:(List.range l.length).map (fun j=>itm0 (l.getD j default))=(l.map chr0).map fun x=>RI.mk 1 0 x []:=by
     rw [List.map_map,<- Qej l]
     exact List.map_congr_left fun j hj=>Qsw ((hg j (List.mem_range.1 hj)).2.2.trans f1)
    rw [e1]
    rfl
 rw [e]
 exact hw.mono fun _ _ hp=>⟨_,hp⟩
theorem Qlv {f:Int}{d:Nat} (hd:0 < d){l:List PA} (h:∀ x∈l,GoodA d x) (h0:(rowE f l).1=0):GoodA d (rowE f l).2:=by
 cases l with
 | nil =>
  rw [rowE] at h0 ⊢
  unfold QcO at h0 ⊢
  cases hs:QbK f with
  | none=>rw [hs] at h0;cases h0
  | some x =>
   show GoodA d (.nums [] [x])
   rw [GoodA]
   refine ⟨hd,⟨by decide,by decide,rfl⟩,fun y hy=>?_⟩
   obtain rfl:y=x:=by simpa using hy
   exact Qmg hs
 | cons y l=>exact QdT (by simp) h h0
theorem Qp9 {f:Int}{a:PA}{first:Bool}{k:Nat} (hax:axN a first=k) (hs:a.shape≠[]) (h:∀ i (hi:i < (Qdl f a k).length),(Qdl f a k)[i].1=0):Qdm f a first=(0,gatA (a.shape.eraseIdx k) ((Qdl f a k).map (·.2))):=by
 subst hax
 unfold Qdm
 rw [if_neg hs,QmD h,if_neg (by simp)]
theorem Qn5 {f:Int}{a:PA}{first:Bool}{k:Nat} (hax:axN a first=k) (hs:a.shape≠[]){i:Nat} (hi:i < (Qdl f a k).length) (h:∀ j (hj:j < i),((Qdl f a k)[j]'(by omega)).1=0) (hb:(Qdl f a k)[i].1≠0):(Qdm f a first).1=(Qdl f a k)[i].1:=by
 subst hax
 unfold Qdm
 rw [if_neg hs,QjY hi h hb,if_pos hb]
structure FdS (W0 wr:World) (h x:Sl) (fo:Int) (W:World):Prop where
 p1:P1 W0 W h x fo
 bel:Below wr.heap.size wr W
 lo:W0.heap.size+2<=wr.heap.size
theorem FdS.step {W0 wr W W':World}{h x:Sl}{fo:Int} (s:FdS W0 wr h x fo W) (hb:Below W.heap.size W W'):FdS W0 wr h x fo W':=⟨s.p1.step hb,Qaa s.bel hb,s.lo⟩
theorem FdS.dr {W0 wr W:World}{h x:Sl}{fo:Int} (s:FdS W0 wr h x fo W):FdS W0 wr h x fo W.drew:=s.step (Below.refl _ W).drew
theorem FdS.al {W0 wr W:World}{h x:Sl}{fo:Int} (s:FdS W0 wr h x fo W) (o:Obj):FdS W0 wr h x fo (W.alloc o):=s.step (bel1 W o)
theorem FdS.self {W0 wr W:World}{h x:Sl}{fo:Int} (s:FdS W0 wr h x fo W):FdS W0 wr h x fo W:=s
theorem FdS.put {W0 wr W:World}{h x:Sl}{fo:Int} (s:FdS W0 wr h x fo W){b j:Nat} (hb:wr.heap.size<=b) (v:Value):FdS W0 wr h x fo (W.setCell ⟨b,j,none⟩ v) :=
 ⟨s.p1.up ((Below.refl _ W).setCell (by show _<=b;have:=s.lo;omega) v),s.bel.setCell (by show _<=b;exact hb) v,s.lo⟩
theorem Qum {W0 wr W:World}{h x:Sl}{fo:Int}{p:Addr}{v:Value} (hc:wr.cell? p=some v) (s:FdS W0 wr h x fo W):(W.cell? ⟨W0.heap.size,0,none⟩=some (.slice h.1 h.2.1 h.2.2)/\W.cell? ⟨W0.heap.size,1,none⟩=some (.slice x.1 x.2.1 x.2.2)/\W.cell? ⟨W0.heap.size,2,none⟩=some (.int .i64 fo))/\W.cell? p=some v/\FdS W0 wr h x fo W:=⟨Qax s.p1.one,QaB s.bel hc,s⟩
def Qsy (K:Nat->Prop) (W0 wr:World) (h x:Sl) (fo:Int) (r:Int×PA) (v e:Value) (wx:World):Prop :=
 ∃ (V:Nat) (h' x':Sl) (f':Int),v= .pointer (some ⟨V,0,none⟩)/\e= .int .i64 r.1/\wr.heap.size<=V/\wx.heap[V]?=some (plO h' x' f')/\PvIf K r h' x' f' wx/\FdS W0 wr h x fo wx
theorem Qin {H K:Nat->Prop}{w W0 wr W5 w5:World}{h x h' x':Sl}{fo f':Int}{r:Int×PA} (hK:∀ b,K b->H b\/(w.heap.size<=b/\b < wr.heap.size)) (hp:PvIf (Hole H w W5) r h' x' f' w5) (hW5:wr.heap.size<=W5.heap.size) (hst:FdS W0 wr h x fo w5) :
  Qsy K W0 wr h x fo r (.pointer (some ⟨w5.heap.size,0,none⟩)) (.int .i64 r.1) (w5.alloc (plO h' x' f')) :=
 ⟨w5.heap.size,h',x',f',rfl,rfl,hst.bel.size,heap_alloc_new w5 _,fun h0=>(PV.sub (fun b _ e=>by
  rcases hK b e with e | e
  ·exact .inl e
  ·exact .inr ⟨e.1,by omega⟩) (hp h0)).step (bel1 w5 _),hst.al _⟩
theorem Qn6 {H K:Nat->Prop}{w W0 wr W5 w5:World}{h x h' x':Sl}{fo f':Int}{Z:Nat}{r:Int×PA} (hK:∀ b,K b->H b\/(w.heap.size<=b/\b < wr.heap.size)) (hp:PvIf (Hole H w W5) r h' x' f' w5) (hst:FdS W0 wr h x fo w5) (hw:w.heap.size<=wr.heap.size) (hz:ZO (plO nilS nilS 0) Z w5) (h5:ZO (plO nilS nilS 0) Z W5) (hZ:wr.heap.size<=Z) :
  Qsy K W0 wr h x fo r (.pointer (some ⟨Z,0,none⟩)) (.int .i64 r.1) (set3 w5 Z (sv h') (sv x') (.int .i64 f')):=by
 have hzw:=lt_blk h5
 refine ⟨Z,h',x',f',rfl,rfl,hZ,Qae hz _ _ _,fun h0=>PV.sub (H:=fun b=>K b\/b=Z) (fun b _ e => .inl e) (PV.lat (Lat.set3 (H:=fun b=>K b\/b=Z) (G:=Z) (.inr rfl) _ _ _) (PV.sub (fun b _ e=>?_) (hp h0))),(((hst.put hZ _).put hZ _).put hZ _)⟩
 rcases e with e | e
 ·rcases hK b e with e | e
  ·exact .inl e
  ·exact .inr ⟨e.1,by omega⟩
 ·exact .inr ⟨by omega,by omega⟩
structure FdI (H:Nat->Prop) (W0 w2:World) (L:List RP) (v:Value) (wr:World):Prop where
 own:POwn (fun b=>H b\/b=W0.heap.size+1) wr w2.heap.size v L
 bel:Below w2.heap.size w2 wr
theorem Qjl {H:Nat->Prop}{w:World}{a:PA}{h x:Sl}{fo:Int} (g:PV H w (rawP a) h x fo) (f:Int) (hs:a.shape=[]) (W0:World) (hb:Below w.heap.size w W0) :
  Calls Tryz.prog 80 #[.int .i64 f,plV h x fo,.bool false] W0 (RtU H W0 (0,a)):=by
 have hrk:=QeM g
 have HS0:=hD (P1.new W0 h x fo)
 have HG:Hid (∀ W,P1 W0 W h x fo->PV (fun b=>H b\/b=W0.heap.size+1) W (rawP a) h x fo):=fun W s=>PV.step (PV.sub (fun b hb9 e=>by
  rcases e with e | e
  ·exact e
  ·have:=hb.size;omega) g) (Qaa hb s.bel)
 have h0:h.2.1=0:=by rw [hrk,hs];rfl
 have hz:((h.2.1:Int)==0)=true:=by rw [beq_iff_eq];omega
 have HH0:=hD h0
 clear g hb hs hrk h0
 obtain ⟨wz,hwz⟩:∃ wz,wz=(W0.alloc (plO h x fo)).alloc (plO nilS nilS 0):=⟨_,rfl⟩
 rw [<- hwz] at HS0
 have HWZ:=hD hwz
 clear hwz
 go_enter Tryz.func80,Tryz.ntmps80
 go_upto_region 1 with fail
 rw [<- HWZ.out]
 obtain ⟨p0,p1,p2⟩:=Qax HS0.out.one
 obtain ⟨⟨y0,y1,y2⟩,yz⟩:=block3 HS0.out.res
 go_wp2
 refine bodyPost_ret (v := .tuple #[plV h x fo,.int .i64 0]) ?_ rfl (Qfz rfl (PV.sub (fun _ _ e => .inl e) (PV.lat (Lat.set3 (H:=fun b=>H b\/b=W0.heap.size+1) (G:=W0.heap.size+1) (.inr rfl) _ _ _) (HG.out _ HS0.out))) (Qaf HS0.out.bel (Nat.le_add_right _ 1) _ _ _))
 exact Qaw (fn:=Tryz.f80) (p:=6) (u:=7) rfl _ _ (W0.heap.size+1) (by rfl) (Qae HS0.out.res _ _ _)
theorem Qjm {H:Nat->Prop}{w:World}{a:PA}{h x:Sl}{fo:Int} (g:PV H w (rawP a) h x fo) (hH:∀ b,H b->b < w.heap.size) (d:Nat) (hd:0 < d) (hg:GoodA (d+1) a) (hs:SmA 1000000 a) (hl:a.len<=1000000) (f:Int) (hk:Qaz f=true) (W0:World) (hb:Below w.heap.size w W0) :
  Calls Tryz.prog 80 #[.int .i64 (f+100),plV h x fo,.bool false] W0 (RtU H W0 (Qdm f a false)):=by
 by_cases hse:a.shape=[]
 ·have e:Qdm f a false=(0,a):=by unfold Qdm;rw [if_pos hse]
  rw [e]
  exact Qjl g (f+100) hse W0 hb
 have hrk:=QeM g
 have hr0:0 < a.shape.length:=by
  cases h1:a.shape with
  | nil=>exact absurd h1 hse
  | cons y l=>simp
 have hok:OkSh a.shape a.len:=hg.sh.2
 have hw:=hb.size
 obtain ⟨k,hkk⟩:∃ k,k=a.shape.length - 1:=⟨_,rfl⟩
 have hax:axN a false=k:=by rw [hkk];rfl
 obtain ⟨sh,hsh⟩:∃ sh,sh=a.shape.eraseIdx k:=⟨_,rfl⟩
 obtain ⟨rs,hrs⟩:∃ rs,rs=Qdl f a k:=⟨_,rfl⟩
 have HOK:Hid ((∀ i (hi:i < rs.length),rs[i].1=0)->Qdm f a false=(0,gatA sh (rs.map (·.2)))):=fun hall=>by
  subst hrs;subst hsh
  exact Qp9 hax hse hall
 have HBAD:Hid (∀ i (hi:i < rs.length),(∀ j (hj:j < i),(rs[j]'(by omega)).1=0)->rs[i].1≠0->(Qdm f a false).1=rs[i].1):=fun i hi h1 h2=>by
  subst hrs
  exact Qn5 hax hse hi h1 h2
 obtain ⟨LL,hLL⟩:∃ LL,LL=allL sh (prodN sh):=⟨_,rfl⟩
 have hokE:OkSh sh (prodN sh):=by rw [hsh];exact Qlg hok k
 obtain ⟨n,hn⟩:∃ n,n=prodN sh:=⟨_,rfl⟩
 have hnb:n<=1048576:=by rw [hn];exact hokE.le
 have HRL:Hid (rs.length=min n LL.length):=by unfold Hid;rw [hrs];unfold Qdl;rw [List.length_map];unfold Qp3;rw [List.length_take,<- hsh,<- hLL,<- hn]
 have HRE:Hid (∀ i (hi:i < rs.length) (h2:i < LL.length),rs[i]=rowE f ((rowK a k LL[i]).map (Qak a))):=fun i hi h2=>by
  have e:rs[i]?=some (rowE f ((rowK a k LL[i]).map (Qak a))):=by
   rw [hrs]
   unfold Qdl
   rw [List.getElem?_map]
   unfold Qp3
   rw [<- hsh,<- hLL,<- hn,List.getElem?_take_of_lt (by rw [HRL.out] at hi;omega),List.getElem?_eq_getElem h2]
   rfl
  rw [List.getElem?_eq_getElem hi] at e
  exact Option.some.inj e
 have HIN:Hid (∀ i (hi:i < LL.length),InSh (a.shape.eraseIdx k) LL[i]):=fun i hi=>by rw [<- hsh];exact (by rw [hLL];exact Qh4:∀ r∈LL,InSh sh r) _ (List.getElem_mem hi)
 have HGD:Hid (∀ i (hi:i < LL.length) (h2:i < rs.length),rs[i].1=0->GoodA d rs[i].2):=fun i hi h2 h0=>by
  rw [HRE.out i h2 hi] at h0 ⊢
  refine Qlv hd (fun y hy=>?_) h0
  obtain ⟨p,hp,rfl⟩:=List.mem_map.1 hy
  exact Qc6 hg hd (QnN hg (by omega) (HIN.out i hi) p hp)
 have HAX:=hD (fun W=>QfK h x fo (by omega) (by rw [hrk];exact hok.1) W)
 have hsr:Keeps H w (fun W'=>Reads1 W' (sv h) (a.shape.map natV)):=by
  have h1:=g
  rw [Qcl (rawP a)] at h1
  have h2:=h1.open_.1
  rw [QbO,List.map_map] at h2
  exact h2
 have HWO:=hD (fun W (s:P1 W0 W h x fo)=>Qij h a.shape k W (Keeps.lat hsr (Lat.below (Qaa hb s.bel))).now hok.1)
 rw [<- hsh] at HWO
 have HPD:Hid (∀ W sA sn sc,Own1 W (W0.heap.size+2) 3 (.slice sA sn sc) (sh.map natV)->Calls Tryz.prog 99 #[.slice sA sn sc,.int .i64 1048576] W fun e w'=>e= .returned (.tuple #[.int .i64 (n:Int),.int .i64 0])/\W=w'):=fun W sA sn sc ho=>by
  have h1:=Qfe (.slice sA sn sc) sh 1048576 W ho.reads (by have:=hokE.1;omega)
  have h2:QbX sh 1048576=((n:Int),0):=by
   unfold QbX
   rw [if_neg (by have:=hokE.1;omega),if_neg (by have:=hokE.2.1;omega),if_neg (by rw [<- hn];omega),hn]
  rw [h2] at h1
  exact h1
 have HAL:Hid (∀ W sA sn sc,Own1 W (W0.heap.size+2) 3 (.slice sA sn sc) (sh.map natV)->Calls Tryz.prog 125 #[.slice sA sn sc,.int .i64 (n:Int)] W fun e w'=>∃ A m c,e= .returned (.slice A m c)/\RowsI W.heap.size w' (A,m,c) LL/\Below W.heap.size W w'):=fun W sA sn sc ho=>by
  have h1:=QpZ (sA,sn,sc) sh n W ho.reads hokE.1 hnb
  rw [hn,<- hLL,<- hn] at h1
  exact h1
 have HRO:=hD (fun (rA:Addr) (rn rc:Nat) (r:List Nat) (hrc:rn<=rc) (W:World) (s:P1 W0 W h x fo) (hR:Reads1 W (.slice (some rA) rn rc) (r.map natV)) (hin:InSh (a.shape.eraseIdx k) r)=>Qlt g (d+1) hg hr0 rA rn rc r hrc W (Qaa hb s.bel) hR (by rw [<- hkk];exact hin))
 rw [<- hkk] at HRO
 have HTO:Hid (∀ (r:List Nat),InSh (a.shape.eraseIdx k) r->∀ (W:World) (tA:Option Addr) (tn tc:Nat),P1 W0 W h x fo->Reads1 W (.slice tA tn tc) ((rowK a k r).map natV)->Calls Tryz.prog 126 #[.int .i64 (f+100),plV h x fo,.slice tA tn tc] W (RtU (Hole H w W) W (rowE f ((rowK a k r).map (Qak a))))):=fun r hin W tA tn tc s hR=>by
  have hbw:=Qaa hb s.bel
  refine Qlr (H:=Hole H w W) (w:=W) (g.arg hbw) (fun b e=>?_) d hd hg hs hl f hk (rowK a k r) (QnN hg (by omega) hin) ?_ W (Below.refl _ _) (tA,tn,tc) hR
  ·rcases e with e | e
   ·have:=hH b e;have:=hbw.size;omega
   ·exact e.2
  ·have h1:(rowK a k r).length=a.shape.getD k 0:=by unfold rowK;simp
   rw [h1]
   have hks:k < a.shape.length:=by omega
   rw [show a.shape.getD k 0=a.shape[k] by simp [List.getD,hks]]
   exact Nat.le_trans (Qc0 hks) hok.2.1
 have HGA:Hid (∀ (W:World) (sA:Option Addr) (sn sc:Nat) (v:Value),P1 W0 W h x fo->Own1 W (W0.heap.size+2) 3 (.slice sA sn sc) (sh.map natV)->(∀ i (hi:i < rs.length),rs[i].1=0)->POwn (fun b=>H b\/b=W0.heap.size+1) W (W0.heap.size+2) v (rs.map fun q=>rawP q.2)->∃ xA xn xc,v= .slice xA xn xc/\Calls Tryz.prog 128 #[.slice sA sn sc,.slice xA xn xc] W fun e w'=>∃ f',PlR (fun b=>H b\/b=W0.heap.size+1) W (rawP (gatA sh (rs.map (·.2)))) f' e w'):=fun W sA sn sc v s ho hall hpo=>by
  have hlen:rs.length<=LL.length/\rs.length<=1048576:=by have:=HRL.out;omega
  have hgo:=QnC (d:=d) (l:=rs.map (·.2)) (fun y hy=>by
   obtain ⟨q,hq,rfl⟩:=List.mem_map.1 hy
   obtain ⟨i,hi,rfl⟩:=List.getElem_of_mem hq
   exact HGD.out i (by omega) hi (hall i hi))
  have hHb:∀ b,(H b\/b=W0.heap.size+1)->b < W0.heap.size+2:=fun b e=>by
   rcases e with e | e
   ·have:=hH b e;omega
   ·omega
  obtain ⟨⟨xA,xn,xc⟩,hv,hpsl⟩:=hpo.psl hHb
  refine ⟨xA,xn,xc,hv,?_⟩
  refine Qjk (fun b=>H b\/b=W0.heap.size+1) sh (rs.map (·.2)) (sA,sn,sc) (xA,xn,xc) W (fun b e=>by have:=hHb b e;have:=s.sz;omega) (by rw [List.length_map];exact hlen.2) (by rw [List.map_map];exact hpsl) ?_ hgo.1 hgo.2
  have h1:=Own1.keepsH ho (H:=fun b=>H b\/b=W0.heap.size+1) hHb
  have e2:(sh.map Int.ofNat).map (Value.int .i64)=sh.map natV:=by rw [List.map_map];rfl
  show Keeps _ W _
  rw [e2]
  exact h1
 have HS0:=hD (P1.new W0 h x fo)
 have HHH:Hid (∀ b,H b->b < w.heap.size):=hH
 have hnz:((h.2.1:Int)==0)=false:=by rw [beq_eq_false_iff_ne];omega
 have hkI:((h.2.1 - 1:Nat):Int)=(k:Int):=by omega
 rw [hkI] at HAX HRO
 generalize Qdm f a false=res at *
 clear g hH hg hs hl hb hse hr0 hok hax hsh hrs hLL hokE hn hsr hkk hkI hrk
 unfold RtU at HTO
 go_enter Tryz.func80,Tryz.ntmps80
 obtain ⟨p0,p1,p2⟩:=Qax HS0.out.one
 go_wp2_with fail
 refine (HAX.out _).mono ?_
 rintro e w1 ⟨rfl,hb1⟩
 have HS1:=hD (HS0.out.step hb1)
 clear hb1 p0 p1 p2 HS0 HAX hnz
 obtain ⟨p0,p1,p2⟩:=Qax HS1.out.one
 go_wp2_with fail
 refine (HWO.out _ HS1.out).mono ?_
 rintro e w2 ⟨sA,sn,sc,rfl,hso,hb2⟩
 have HS2:=hD (HS1.out.step hb2)
 have HSO:Hid (Own1 w2 (W0.heap.size+2) 3 (.slice sA sn sc) (sh.map natV)):=hso.lower (by have:=HS1.out.sz;exact this)
 clear hb2 hso p0 p1 p2 HS1 HWO
 go_wp2_with fail
 refine (HPD.out _ _ _ _ HSO.out).mono ?_
 rintro e w3 ⟨rfl,rfl⟩
 go_wp2_with fail
 refine (HAL.out _ _ _ _ HSO.out).mono ?_
 rintro e w4 ⟨lA,ln,lc,rfl,hrows,hb4⟩
 have HS4:=hD (HS2.out.step hb4)
 have HSO4:=hD (HSO.out.below hb4)
 have HRW:=hD hrows
 have hln:ln=LL.length:=hrows.1
 have HLN:=hD hln
 have hlnb:ln<=4194304\/True := .inr trivial
 clear hrows hb4 HPD HAL HS2 HSO hln hlnb
 have HI0:Hid (FdI H W0 w4 ((rs.take 0).map fun q=>rawP q.2) (.slice none 0 0) w4):=⟨POwn.nil _ _ _,Below.refl _ _⟩
 go_wp2
 go_loopw [13,14] (fun v iv wr=>∃ i:Nat,i<=n/\i<=ln/\iv= .int .i64 (i:Int)/\(∀ j (hj:j < i) (h2:j < rs.length),rs[j].1=0)/\FdI H W0 w4 ((rs.take i).map fun q=>rawP q.2) v wr) (fun _ iv _=>n - (intOf iv).toNat)
 case atStart=>exact ⟨0,Nat.zero_le _,Nat.zero_le _,rfl,fun j hj=>absurd hj (Nat.not_lt_zero _),HI0.out⟩
 case round =>
  obtain ⟨i,hin,hil,rfl,hall,hfi⟩:=hrel
  have HFI:=hD hfi
  have HALL:=hD hall
  obtain ⟨vA,vc,hv⟩:∃ A c,_=Value.slice A ((rs.take i).map fun q=>rawP q.2).length c:=hfi.own.len
  subst hv
  obtain ⟨vn,hvn⟩:∃ vn,vn=((rs.take i).map fun q=>rawP q.2).length:=⟨_,rfl⟩
  rw [<- hvn] at HFI ⊢
  have HVN:=hD hvn
  clear hfi hall HI0 hvn
  have HPI:Hid (P1 W0 wr h x fo):=HS4.out.up (HFI.out.bel.mono HS4.out.sz)
  have hlo:W0.heap.size+2<=wr.heap.size:=HPI.out.sz
  by_cases hlt:i < n/\i < ln
  ·obtain ⟨hlt1,hlt2⟩:=hlt
   have hi1:(i:Int) < (n:Int):=by omega
   have hi2:(i:Int) < (ln:Int):=by omega
   have hiL:i < LL.length:=by have:=HLN.out;omega
   have hir:i < rs.length:=by rw [HRL.out];omega
   obtain ⟨b2,o2,ra,rn,rc,hlA,hrc,hrr⟩:=HRW.out.2 i hiL
   have hla:lA=some ⟨b2,o2,none⟩:=hlA
   subst hla
   obtain ⟨hcl,hrd⟩:=hrr wr ⟨HFI.out.bel.size,fun b hb hn=>HFI.out.bel.block b hb⟩
   have HCI:=hD hcl
   have HRD:=hD hrd
   have HROI:=hD (fun W (s:FdS W0 wr h x fo W)=>HRO.out ra rn rc LL[i] hrc W s.p1 (hrd.below s.bel) (HIN.out i hiL))
   have HTOI:=hD (fun W tA tn tc (s:FdS W0 wr h x fo W) (hR:Reads1 W (.slice tA tn tc) ((rowK a k LL[i]).map natV))=>HTO.out LL[i] (HIN.out i hiL) W tA tn tc s.p1 hR)
   have HREI:=hD (HRE.out i hir hiL)
   rw [<- HREI.out] at HTOI
   have HTK:Hid ((rs.take (i+1)).map (fun q=>rawP q.2)=(rs.take i).map (fun q=>rawP q.2)++[rawP rs[i].2]):=by unfold Hid;rw [List.take_succ_eq_append_getElem hir,List.map_append];rfl
   have HBI:=hD (fun h2=>HBAD.out i hir (fun j hj=>HALL.out j hj (by omega)) h2)
   have HRI:Hid (∀ j (hj:j < i+1) (h2:j < rs.length),rs[i].1=0->rs[j].1=0):=fun j hj h2 h3=>by
    by_cases hji:j=i
    ·subst hji;exact h3
    ·exact HALL.out j (by omega) h2
   generalize hq:rs[i]=q at HTOI HTK HBI HRI
   generalize (rowK a k LL[i]).map natV=rowv at HROI HTOI
   have HST:Hid (FdS W0 wr h x fo wr):=⟨HPI.out,Below.refl _ _,hlo⟩
   have hww:w.heap.size<=wr.heap.size:=by omega
   have HKW:Hid (∀ b,(H b\/b=W0.heap.size+1\/(Value.slice vA vn vc).ownBlock=some b)->H b\/(w.heap.size<=b/\b < wr.heap.size)):=fun b e=>by
    rcases e with e | e | e
    ·exact .inl e
    ·exact .inr ⟨by omega,by omega⟩
    ·have h1:=HFI.out.own.own_lt e
     have h2:=HS4.out.sz
     exact .inr ⟨by omega,h1.2⟩
   clear hlA hrc hrr hcl hrd hq
   go_wp2_with fail
   go_cut [15,16] from 48 to 68 (fun v e wx=>Qsy (fun b=>H b\/b=W0.heap.size+1\/(Value.slice vA vn vc).ownBlock=some b) W0 wr h x fo q v e wx)
   case first =>
    have hs0:=HST.out.dr
    have hs00:=HST.out
    go_region_held3 (fun W=>(W.cell? ⟨W0.heap.size,0,none⟩=some (.slice h.1 h.2.1 h.2.2)/\W.cell? ⟨W0.heap.size,1,none⟩=some (.slice x.1 x.2.1 x.2.2)/\W.cell? ⟨W0.heap.size,2,none⟩=some (.int .i64 fo))/\W.cell? ⟨b2,o2+i,none⟩=some (.slice (some ra) rn rc)/\FdS W0 wr h x fo W)
     (first | with_reducible assumption | (with_reducible (refine Qum HCI.out ?_);repeat (first | with_reducible assumption | with_reducible refine FdS.dr ?_ | (with_reducible refine FdS.put ?_ (by first | assumption | omega | (simp;omega)) _) | with_reducible refine FdS.al ?_ _)))
     (first
      | (go_at_call 127;(with_reducible refine (HROI.out _ ?_).mono ?_);exact FdS.self (by repeat (first | with_reducible assumption | with_reducible refine FdS.dr ?_ | with_reducible refine FdS.al ?_ _));rintro e w1 ⟨tA,tn,tc,rfl,hto,hb1⟩;have hst1:FdS W0 wr h x fo w1:=FdS.step (by repeat (first | with_reducible assumption | with_reducible refine FdS.dr ?_ | with_reducible refine FdS.al ?_ _)) hb1;obtain ⟨hc1,hfz1⟩:=bcell2 hb1;have hz1:=hb1.size;have hs1z:=hst1.bel.size;(first | (have hsq1:wr.heap.size < w1.heap.size:=Nat.lt_of_lt_of_le (Qa5 _ _) hz1) | (have hsq1:wr.heap.size < w1.heap.size:=Nat.lt_of_lt_of_le (Qa6 _ _) hz1) | skip);have HB1:=hD hb1;have HTR:=hD hto.reads;clear hb1 hto)
      | (go_at_call 126;(with_reducible refine (HTOI.out _ _ _ _ ?_ ?_).mono ?_);exact FdS.self (by repeat (first | with_reducible assumption | with_reducible refine FdS.dr ?_ | with_reducible refine FdS.al ?_ _));(first | exact HTR.out | exact HTR.out.below (bel1 _ _));rintro e w5 ⟨h5,x5,f5,rfl,hp5,hb5⟩;have hst5:FdS W0 wr h x fo w5:=FdS.step (by repeat (first | with_reducible assumption | with_reducible refine FdS.dr ?_ | with_reducible refine FdS.al ?_ _)) hb5;obtain ⟨hc5,hfz5⟩:=bcell2 hb5;have hz5:=hb5.size;have hs5z:=hst5.bel.size;(first | (have hsq5:w1.heap.size < w5.heap.size:=Nat.lt_of_lt_of_le (Qa5 _ _) hz5) | (have hsq5:w1.heap.size < w5.heap.size:=Nat.lt_of_lt_of_le (Qa6 _ _) hz5) | (have hsq5:w1.heap.size<=w5.heap.size:=hz5) | skip);(first | (have hsr5:wr.heap.size < w5.heap.size:=Nat.lt_of_lt_of_le hsq1 (Nat.le_of_lt hsq5)) | (have hsr5:wr.heap.size < w5.heap.size:=Nat.lt_of_lt_of_le hsq1 hsq5) | skip);have HB5:=hD hb5;have HP5:=hD hp5;clear hb5 hp5))
    all_goals
     go_wp2
     go_meet
     first
      | with_reducible exact Qin HKW.out HP5.out hst1.bel.size hst5
      | (with_reducible exact Qin HKW.out HP5.out (FdS.dr hst1).bel.size hst5)
      | (with_reducible refine Qn6 HKW.out HP5.out hst5 hww (ZO.step ?_ HB5.out) ?_ ?_;all_goals (first | with_reducible exact Nat.le_refl _ | exact hst1.bel.size | (repeat (first | with_reducible exact ZO.new _ _ | with_reducible refine ZO.dr ?_ | with_reducible refine ZO.step ?_ HB1.out))))
   obtain ⟨V,h9,x9,f9,rfl,rfl,hVl,hV,hp9,hst⟩:=hcut
   have HV:=hD hV
   have HP9:=hD hp9
   have HS9:=hD hst
   have HFJ:Hid (FdI H W0 w4 ((rs.take i).map fun q=>rawP q.2) (.slice vA vn vc) wc):=⟨HFI.out.own.below hst.bel,Qaa HFI.out.bel hst.bel⟩
   clear hV hp9 hst HROI HTOI HST HFI HPI HCI HRD HREI
   by_cases hr0:q.1=0
   ·have ne:(q.1 != 0)=false:=by simpa using hr0
    obtain ⟨⟨v0,v1,v2⟩,vz⟩:=block3 HV.out
    have HE:=hD (HP9.out hr0)
    have HPV:Hid (PV (fun b=>(fun b=>H b\/b=W0.heap.size+1) b\/(Value.slice vA vn vc).ownBlock=some b) wc (rawP q.2) h9 x9 f9):=PV.sub (fun b _ e=>by
     rcases e with (e | e) | e
     ·exact .inl e
     ·exact .inr (.inl e)
     ·exact .inr (.inr e)) HE.out
    have hlb:((rs.take i).map fun q=>rawP q.2).length<=1048576:=by rw [List.length_map,List.length_take];omega
    have HLB:=hD hlb
    have hszw:w4.heap.size<=wc.heap.size:=HFJ.out.bel.size
    clear hlb HE
    go_wp2_with (at_builtin;refine Qg7 rfl (.tmp 65) (.tmp 67) rfl (fun b=>H b\/b=W0.heap.size+1) w4.heap.size _ ((rs.take i).map fun q=>rawP q.2) rfl HFJ.out.own ⟨h9,x9,f9⟩ (rawP q.2) HPV.out wc.heap.size rfl rfl HLB.out hszw ?_;intro v' w6 hv' hb' hl' ho';rw [<- HTK.out] at hv';have HV':=hD hv';have HB':=hD (hb' w4 HFJ.out.bel);clear hb' hv' hl' ho')
    go_roundw
    case rel=>exact ⟨i+1,by omega,by omega,by go_num,fun j hj h2=>HRI.out j hj h2 hr0,⟨HV'.out,HB'.out⟩⟩
    case measure=>simp [intOf];omega
   ·have ne:(q.1 != 0)=true:=by simpa using hr0
    have HE0:=hD (HBI.out hr0)
    obtain ⟨⟨z0,z1,z2⟩,zz⟩:=block3 HS9.out.p1.res
    go_wp2
    refine bodyPost_ret (v := .tuple #[plV nilS nilS 0,.int .i64 q.1]) ?_ rfl (Qb9 HE0.out hr0 (Qaf HS9.out.p1.bel (Nat.le_add_right _ 1) _ _ _))
    exact Qaw (fn:=Tryz.f80) (p:=6) (u:=7) rfl _ _ (W0.heap.size+1) (by rfl) (Qae HS9.out.p1.res _ _ _)
  ·have hlen:rs.length<=i:=by rw [HRL.out];have:=HLN.out;omega
   have hall2:∀ j (hj:j < rs.length),rs[j].1=0:=fun j hj=>HALL.out j (by omega) hj
   have HRES:=hD (HOK.out hall2)
   have hown:=HFI.out.own
   have htk:rs.take i=rs:=List.take_of_length_le hlen
   rw [htk] at hown
   have hown2:POwn (fun b=>H b\/b=W0.heap.size+1) wr (W0.heap.size+2) (.slice vA vn vc) (rs.map fun q=>rawP q.2):=by
    obtain ⟨qq,h1,h2⟩:=hown
    refine ⟨qq,⟨h1.1,?_⟩,h2⟩
    rcases h1.2 with h3 | ⟨g',cap,cur,e3,hbg,h4⟩
    ·exact .inl h3
    ·exact .inr ⟨g',cap,cur,e3,Nat.le_trans HS4.out.sz hbg,h4⟩
   obtain ⟨xA,xn,xc,hvv,hcall⟩:=HGA.out wr sA sn sc _ HPI.out (HSO4.out.below HFI.out.bel) hall2 hown2
   injection hvv with e1 e2 e3
   subst e1;subst e2;subst e3
   have HRG:gatA sh (rs.map (·.2))=res.2:=by rw [HRES.out]
   have HR0:Hid (res.1=0):=by unfold Hid;rw [HRES.out]
   rw [HRG] at hcall
   have HC:=hD hcall
   unfold PlR at HC
   clear hown hown2 hcall hall2 htk HGA HTO HRO
   clear HRG
   by_cases h1:i < n
   ·have h1':(i:Int) < (n:Int):=by omega
    have h2':¬ (i:Int) < (ln:Int):=by omega
    go_wp2_with fail
    refine HC.out.mono ?_
    rintro e w5 ⟨f5,h5,x5,rfl,hp5,hb5⟩
    have HS5:=hD (HPI.out.step hb5)
    have HP5:=hD hp5
    clear hb5 hp5
    obtain ⟨⟨z0,z1,z2⟩,zz⟩:=block3 HS5.out.res
    go_wp2
    refine bodyPost_ret (v := .tuple #[plV h5 x5 f5,.int .i64 0]) ?_ rfl (Qfz HR0.out (PV.sub (fun _ _ e => .inl e) (PV.lat (Lat.set3 (H:=fun b=>H b\/b=W0.heap.size+1) (G:=W0.heap.size+1) (.inr rfl) _ _ _) HP5.out)) (Qaf HS5.out.bel (Nat.le_add_right _ 1) _ _ _))
    exact Qaw (fn:=Tryz.f80) (p:=6) (u:=7) rfl _ _ (W0.heap.size+1) (by rfl) (Qae HS5.out.res _ _ _)
   ·have h1':¬ (i:Int) < (n:Int):=by omega
    go_wp2_with fail
    refine HC.out.mono ?_
    rintro e w5 ⟨f5,h5,x5,rfl,hp5,hb5⟩
    have HS5:=hD (HPI.out.step hb5)
    have HP5:=hD hp5
    clear hb5 hp5
    obtain ⟨⟨z0,z1,z2⟩,zz⟩:=block3 HS5.out.res
    go_wp2
    refine bodyPost_ret (v := .tuple #[plV h5 x5 f5,.int .i64 0]) ?_ rfl (Qfz HR0.out (PV.sub (fun _ _ e => .inl e) (PV.lat (Lat.set3 (H:=fun b=>H b\/b=W0.heap.size+1) (G:=W0.heap.size+1) (.inr rfl) _ _ _) HP5.out)) (Qaf HS5.out.bel (Nat.le_add_right _ 1) _ _ _))
    exact Qaw (fn:=Tryz.f80) (p:=6) (u:=7) rfl _ _ (W0.heap.size+1) (by rfl) (Qae HS5.out.res _ _ _)
end Go.Proofs.YtdelgpelkfndeaaGreatDoor
