/- The walks of the reference's Ints, Item and Same at any .. Conditions: as each theorem says. -/
import Derived.Test.YtbakjaliponbbaaGreatDoorMg11
import Derived.Test.YtbakjaliponbbaaGreatDoorMg14
set_option maxRecDepth 100000
set_option maxHeartbeats 1600000
namespace Go.Proofs.YtbakjaliponbbaaGreatDoor
open Go Go.RowKit Go.Proofs Fl
theorem bits_ne {a b:Nat} (ha:TF a) (hb:TF b) (hn:a≠b) (w:World):Calls Tryz.prog 186 #[.float .f64 a,.float .f64 b] w fun e w'=>e= .returned (.bool false)/\w=w':=by
 have h1:(FloatKind.f64.format.order a b==some .eq)=false:=by rw [feq_tf ha hb];exact decide_eq_false hn
 have h2:=beq_eq_false_iff_ne.1 h1
 clear ha hb hn
 go_enter Tryz.func186,Tryz.ntmps186
 go_wp2
 go_ret
 exact ⟨rfl,rfl⟩
theorem ints_two (va vb:Value) (s t:List Int) (w:World) (ha:Reads1 w va (s.map (Value.int .i64))) (hb:Reads1 w vb (t.map (Value.int .i64))) (hl:s.length<=1048576) :
  Calls Tryz.prog 132 #[va,vb] w fun e w'=>e= .returned (.bool (decide (s=t)))/\Below w.heap.size w w':=by
 obtain ⟨A,n,c,rfl,hn,hcell⟩:=int_open ha
 obtain ⟨A2,n2,c2,rfl,hn2,hcell2⟩:=int_open hb
 have HC:=Lib.hid hcell
 have HC2:=Lib.hid hcell2
 have HN:=Lib.hid hn
 have HN2:=Lib.hid hn2
 by_cases hnn:n2=n
 ·subst hnn
  have hnb:n2<=1048576:=by omega
  have hne:((n2:Int) != (n2:Int))=false:=by simp
  clear ha hb hl hn hn2 hcell hcell2
  obtain ⟨r,hr⟩:∃ r,r=decide (s=t):=⟨_,rfl⟩
  have HR:=Lib.hid hr
  rw [<- hr]
  clear hr
  go_enter Tryz.func132,Tryz.ntmps132
  go_wp2
  go_loopw [5] (fun i wr=>∃ k:Nat,k<=n2/\i= .int .i64 (k:Int)/\(∀ j,j < k->s[j]?=t[j]?)/\Below w.heap.size w wr) (fun i _=>n2 - (intOf i).toNat)
  case atStart=>exact ⟨0,Nat.zero_le _,rfl,fun j hj=>absurd hj (Nat.not_lt_zero _),Below.refl _ _⟩
  case round =>
   obtain ⟨k,hk,rfl,hj,hbl⟩:=hrel
   have HBL:=Lib.hid hbl
   have HJ:=Lib.hid hj
   clear hj
   by_cases hlt:k < n2
   ·have hks:k < s.length:=by have:=HN.out;omega
    have hkt:k < t.length:=by have:=HN2.out;omega
    obtain ⟨b,o,rfl,hce⟩:=HC.out k hks
    obtain ⟨b',o',rfl,hce'⟩:=HC2.out k hkt
    have c1:=cell_up hbl hce
    have c2':=cell_up hbl hce'
    have HS:Hid (s[k]?=some s[k]):=List.getElem?_eq_getElem hks
    have HT:Hid (t[k]?=some t[k]):=List.getElem?_eq_getElem hkt
    generalize s[k]=x at c1 HS
    generalize t[k]=y at c2' HT
    have hlt2:(k:Int) < (n2:Int):=by omega
    clear hce hce' hbl
    by_cases hxy:x=y
    ·subst hxy
     have hxe:(x != x)=false:=by simp
     go_wp2
     go_quiet (fail)
     go_wp2
     go_roundw
     case rel =>
      refine ⟨k+1,by omega,by go_num,fun j hj=>?_,below_drewN HBL.out _⟩
      by_cases e:j=k
      ·rw [e,HS.out,HT.out]
      ·exact HJ.out j (by omega)
     case measure=>simp [intOf];omega
    ·have hxe:(x != y)=true:=by simpa using hxy
     have HRF:Hid (r=false):=by
      unfold Hid
      rw [HR.out]
      refine decide_eq_false fun e=>hxy ?_
      have h1:=HS.out
      rw [e,HT.out] at h1
      exact (Option.some.inj h1).symm
     obtain rfl:=HRF.out
     clear hxy
     go_wp2
     go_quiet (fail)
     go_wp2
     go_ret
     exact ⟨rfl,below_drewN HBL.out _⟩
   ·have hge:¬ (k:Int) < (n2:Int):=by omega
    have HRF:Hid (r=true):=by
     unfold Hid
     rw [HR.out]
     refine decide_eq_true (List.ext_getElem? fun j=>?_)
     by_cases hj:j < k
     ·exact HJ.out j hj
     ·have h1:=HN.out
      have h2:=HN2.out
      rw [List.getElem?_eq_none (by omega),List.getElem?_eq_none (by omega)]
    obtain rfl:=HRF.out
    clear hlt hbl
    go_wp2
    go_ret
    exact ⟨rfl,HBL.out⟩
 ·have hne:((n:Int) != (n2:Int))=true:=by simp;omega
  have hst:s≠t:=fun e=>hnn (by have h1:=hn;have h2:=hn2;rw [e] at h1;omega)
  rw [decide_eq_false hst]
  clear ha hb hl hn hn2 hcell hcell2 hst hnn
  go_enter Tryz.func132,Tryz.ntmps132
  go_wp2
  go_ret
  exact ⟨rfl,Below.refl _ _⟩
structure Tw3 (w:World) (h x:Sl) (f:Int) (h' x':Sl) (f':Int) (W:World):Prop where
 one:At3 W w.heap.size 0 h x f
 two:At3 W (w.heap.size+1) 0 h' x' f'
 bel:Below w.heap.size w W
theorem Tw3.new (w:World) (h x:Sl) (f:Int) (h' x':Sl) (f':Int):Tw3 w h x f h' x' f' ((w.alloc (plO h x f)).alloc (plO h' x' f')):=by
 have g:=at3_box (w.alloc (plO h x f)) h' x' f'
 have e:(w.alloc (plO h x f)).heap.size=w.heap.size+1:=by simp
 rw [e] at g
 exact ⟨(at3_box w h x f).of fun j=>(bel1 _ _).cell (p:=⟨w.heap.size,j,none⟩) (by simp),g,bel2 _ _ _⟩
theorem Tw3.step {w W W':World}{h x h' x':Sl}{f f':Int} (g:Tw3 w h x f h' x' f' W) (hb:Below W.heap.size W W'):Tw3 w h x f h' x' f' W' :=
 ⟨g.one.of fun j=>hb.cell (p:=⟨w.heap.size,j,none⟩) g.one.lt,g.two.of fun j=>hb.cell (p:=⟨w.heap.size+1,j,none⟩) g.two.lt,bel_both g.bel hb⟩
structure Tw4 (w:World) (k:Int) (n:Nat) (c:Int) (x:Sl) (k':Int) (n':Nat) (c':Int) (x':Sl) (W:World):Prop where
 one:At4 W w.heap.size 0 k n c x
 two:At4 W (w.heap.size+1) 0 k' n' c' x'
 bel:Below w.heap.size w W
theorem Tw4.new (w:World) (k:Int) (n:Nat) (c:Int) (x:Sl) (k':Int) (n':Nat) (c':Int) (x':Sl):Tw4 w k n c x k' n' c' x' ((w.alloc (itO k n c x)).alloc (itO k' n' c' x')):=by
 have g:=at4_box (w.alloc (itO k n c x)) k' n' c' x'
 have e:(w.alloc (itO k n c x)).heap.size=w.heap.size+1:=by simp
 rw [e] at g
 exact ⟨(at4_box w k n c x).of fun j=>(bel1 _ _).cell (p:=⟨w.heap.size,j,none⟩) (by simp),g,bel2 _ _ _⟩
theorem Tw4.step {w W W':World}{k:Int}{n:Nat}{c:Int}{x:Sl}{k':Int}{n':Nat}{c':Int}{x':Sl} (g:Tw4 w k n c x k' n' c' x' W) (hb:Below W.heap.size W W'):Tw4 w k n c x k' n' c' x' W' :=
 ⟨g.one.of fun j=>hb.cell (p:=⟨w.heap.size,j,none⟩) g.one.lt,g.two.of fun j=>hb.cell (p:=⟨w.heap.size+1,j,none⟩) g.two.lt,bel_both g.bel hb⟩
def SamB (t u:RP):Prop:=∀ (H H':Nat->Prop) (h x h' x':Sl) (f f':Int) (w:World),PV H w t h x f->PV H' w u h' x' f' ->
  Calls Tryz.prog 92 #[plV h x f,plV h' x' f'] w fun e w'=>e= .returned (.bool (eqR t u))/\Below w.heap.size w w'
def ItmB (t u:RI):Prop:=∀ (H H':Nat->Prop) (k:Int) (n:Nat) (c:Int) (x:Sl) (k':Int) (n':Nat) (c':Int) (x':Sl) (w:World),IV H w t k n c x->IV H' w u k' n' c' x' ->
  Calls Tryz.prog 133 #[itV k n c x,itV k' n' c' x'] w fun e w'=>e= .returned (.bool (eqI t u))/\Below w.heap.size w w'
theorem ritem_two (kind:Int) (num:Nat) (char:Int) (box:List RP) (kind':Int) (num':Nat) (char':Int) (box':List RP) (hnum:TF num) (hnum':TF num') (hl:box.length<=1048576) (hih:∀ i (hi:i < box.length) (hi':i < box'.length),SamB box[i] box'[i]):ItmB (.mk kind num char box) (.mk kind' num' char' box'):=by
 intro H H' k n c x k' n' c' x' w hp hq
 obtain ⟨rfl,rfl,rfl,hx,hk⟩:=hp.open_
 obtain ⟨rfl,rfl,rfl,hx',hk'⟩:=hq.open_
 obtain ⟨A,m,cc⟩:=x
 obtain ⟨A',m',cc'⟩:=x'
 dsimp only at hx hx' hk hk'
 have hmb:m<=1048576:=by omega
 have HM:=Lib.hid hx
 have HM':=Lib.hid hx'
 have HK:=Lib.hid hk
 have HK':=Lib.hid hk'
 have HIH:=Lib.hid hih
 unfold SamB at HIH
 have HT0:=Lib.hid (Tw4.new w k n c (A,m,cc) k' n' c' (A',m',cc'))
 obtain ⟨r,hr⟩:∃ r,r=eqI (.mk k n c box) (.mk k' n' c' box'):=⟨_,rfl⟩
 have HR:=Lib.hid hr
 rw [<- hr]
 clear hp hq hx hx' hk hk' hih hl hr
 by_cases hkk:k=k'
 ·subst hkk
  have e1:(k != k)=false:=by simp
  by_cases hcc:c=c'
  ·subst hcc
   have e2:(c != c)=false:=by simp
   by_cases hnn:n=n'
   ·subst hnn
    have HBT:=Lib.hid (fun W=>bits_tf hnum W)
    by_cases hmm:m=m'
    ·subst hmm
     have e3:((m:Int) != (m:Int))=false:=by simp
     obtain ⟨W,hW⟩:∃ W,W=(w.alloc (itO k n c (A,m,cc))).alloc (itO k n c (A',m,cc')):=⟨_,rfl⟩
     have HW:=Lib.hid hW
     rw [<- hW] at HT0
     clear hnum hnum' hW
     go_enter Tryz.func133,Tryz.ntmps133
     go_wp2_with fail
     rw [<- HW.out]
     refine (HBT.out _).mono ?_
     rintro e w' ⟨rfl,rfl⟩
     obtain ⟨a0,a1,a2,a3⟩:=at4_c HT0.out.one
     obtain ⟨b0,b1,b2,b3⟩:=at4_c HT0.out.two
     dsimp only at a3 b3
     go_wp2
     clear a0 a1 a2 a3 b0 b1 b2 b3
     go_loopw [5,5] (fun _ iv wr=>∃ i:Nat,i<=m/\iv= .int .i64 (i:Int)/\(∀ j,j < i->box[j]?=box'[j]?)/\Below W.heap.size W wr) (fun _ iv _=>m - (intOf iv).toNat)
     case atStart=>exact ⟨0,Nat.zero_le _,rfl,fun j hj=>absurd hj (Nat.not_lt_zero _),Below.refl _ _⟩
     case round =>
      obtain ⟨i,hi,rfl,hj,hbl⟩:=hrel
      have HJ:=Lib.hid hj
      clear hj
      have HTR:=Lib.hid (HT0.out.step hbl)
      obtain ⟨a0,a1,a2,a3⟩:=at4_c HTR.out.one
      obtain ⟨b0,b1,b2,b3⟩:=at4_c HTR.out.two
      dsimp only at a3 b3
      have HBL:=Lib.hid hbl
      by_cases hlt:i < m
      ·have h1:i < box.length:=by have:=HM.out;omega
       have h2:i < box'.length:=by have:=HM'.out;omega
       obtain ⟨b,o,p0,p1,p2,rfl,-,hpv,hce⟩:=HK.out i h1
       obtain ⟨b',o',r0,r1,r2,rfl,-,hpv',hce'⟩:=HK'.out i h2
       obtain ⟨c0,c1,c2⟩:=hce _ (Lat.below HTR.out.bel)
       obtain ⟨d0,d1,d2⟩:=hce' _ (Lat.below HTR.out.bel)
       dsimp only [sv] at c0 c1 c2 d0 d1 d2
       have HIC:=Lib.hid (HIH.out i h1 h2 _ _ p0 p1 r0 r1 p2 r2 _ (hpv.step (bel_both HTR.out.bel (below_drewN (Below.refl wr.heap.size wr) 1))) (hpv'.step (bel_both HTR.out.bel (below_drewN (Below.refl wr.heap.size wr) 1))))
       have HS:Hid (box[i]?=some box[i]):=List.getElem?_eq_getElem h1
       have HT:Hid (box'[i]?=some box'[i]):=List.getElem?_eq_getElem h2
       have hlt2:(i:Int) < (m:Int):=by omega
       clear hbl hce hce' hpv hpv'
       generalize box[i]=x at HIC HS
       generalize box'[i]=y at HIC HT
       go_wp2
       go_still_tail 10,(by kernel_rfl)
       change wpList _ _ _ _ _ (wr.drewN 1)
       have HB1:=Lib.hid (bel_both HBL.out (below_drewN (Below.refl wr.heap.size wr) 1))
       clear a0 a1 a2 a3 b0 b1 b2 b3 c0 c1 c2 d0 d1 d2
       generalize wr.drewN 1=wd at *
       go_wp2_with fail
       refine HIC.out.mono ?_
       rintro e w2 ⟨rfl,hb⟩
       have HB2:=Lib.hid (bel_both HB1.out hb)
       clear hb
       by_cases hxy:x=y
       ·rw [eqR_iff.2 hxy]
        go_wp2
        go_roundw
        case rel =>
         refine ⟨i+1,by omega,by go_num,fun j hj=>?_,HB2.out⟩
         by_cases e:j=i
         ·rw [e,HS.out,HT.out,hxy]
         ·exact HJ.out j (by omega)
        case measure=>simp [intOf];omega
       ·rw [eqR_no.2 hxy]
        have HRF:Hid (r=false):=by
         unfold Hid
         rw [HR.out]
         refine eqI_no.2 fun e=>hxy ?_
         injection e with _ _ _ e
         have h1:=HS.out
         rw [e,HT.out] at h1
         exact (Option.some.inj h1).symm
        obtain rfl:=HRF.out
        go_wp2
        go_ret
        exact ⟨rfl,bel_both HT0.out.bel HB2.out⟩
      ·have hlt2:¬ (i:Int) < (m:Int):=by omega
       have HRF:Hid (r=true):=by
        unfold Hid
        rw [HR.out]
        refine eqI_iff.2 ?_
        rw [show box=box' from List.ext_getElem? fun j=>by
         by_cases hj:j < i
         ·exact HJ.out j hj
         ·have h1:=HM.out
          have h2:=HM'.out
          rw [List.getElem?_eq_none (by omega),List.getElem?_eq_none (by omega)]]
       obtain rfl:=HRF.out
       clear hbl
       go_wp2
       go_ret
       exact ⟨rfl,HTR.out.bel⟩
    ·have e3:((m:Int) != (m':Int))=true:=by simp;omega
     have HRF:Hid (r=false):=by
      unfold Hid
      rw [HR.out]
      refine eqI_no.2 fun e=>hmm ?_
      injection e with _ _ _ e
      have h1:=HM.out
      have h2:=HM'.out
      rw [e] at h1
      omega
     obtain rfl:=HRF.out
     obtain ⟨W,hW⟩:∃ W,W=(w.alloc (itO k n c (A,m,cc))).alloc (itO k n c (A',m',cc')):=⟨_,rfl⟩
     have HW:=Lib.hid hW
     rw [<- hW] at HT0
     clear hnum hnum' hW hmm
     go_enter Tryz.func133,Tryz.ntmps133
     go_wp2_with fail
     rw [<- HW.out]
     refine (HBT.out _).mono ?_
     rintro e w' ⟨rfl,rfl⟩
     obtain ⟨a0,a1,a2,a3⟩:=at4_c HT0.out.one
     obtain ⟨b0,b1,b2,b3⟩:=at4_c HT0.out.two
     dsimp only at a3 b3
     go_wp2
     go_ret
     exact ⟨rfl,HT0.out.bel⟩
   ·have HBT:=Lib.hid (fun W=>bits_ne hnum hnum' hnn W)
    have HRF:Hid (r=false):=by
     unfold Hid
     rw [HR.out]
     exact eqI_no.2 fun e=>hnn (by injection e)
    obtain rfl:=HRF.out
    obtain ⟨W,hW⟩:∃ W,W=(w.alloc (itO k n c (A,m,cc))).alloc (itO k n' c (A',m',cc')):=⟨_,rfl⟩
    have HW:=Lib.hid hW
    rw [<- hW] at HT0
    clear hnum hnum' hW hnn
    go_enter Tryz.func133,Tryz.ntmps133
    go_wp2_with fail
    rw [<- HW.out]
    refine (HBT.out _).mono ?_
    rintro e w' ⟨rfl,rfl⟩
    go_wp2
    go_ret
    exact ⟨rfl,HT0.out.bel⟩
  ·have e2:(c != c')=true:=by simpa using hcc
   have HRF:Hid (r=false):=by
    unfold Hid
    rw [HR.out]
    exact eqI_no.2 fun e=>hcc (by injection e)
   obtain rfl:=HRF.out
   clear hnum hnum' hcc
   go_enter Tryz.func133,Tryz.ntmps133
   go_wp2
   go_ret
   exact ⟨rfl,HT0.out.bel⟩
 ·have e1:(k != k')=true:=by simpa using hkk
  have HRF:Hid (r=false):=by
   unfold Hid
   rw [HR.out]
   exact eqI_no.2 fun e=>hkk (by injection e)
  obtain rfl:=HRF.out
  clear hnum hnum' hkk
  go_enter Tryz.func133,Tryz.ntmps133
  go_wp2
  go_ret
  exact ⟨rfl,HT0.out.bel⟩
theorem rsame_two (s:List Int) (items:List RI) (fill:Int) (s':List Int) (items':List RI) (fill':Int) (hs:s.length<=1048576) (hl:items.length<=1048576)
  (hih:∀ i (hi:i < items.length) (hi':i < items'.length),ItmB items[i] items'[i]):SamB (.mk s items fill) (.mk s' items' fill'):=by
 intro H H' h x h' x' f f' w hp hq
 obtain ⟨hsr,rfl,hx,hk⟩:=hp.open_
 obtain ⟨hsr',rfl,hx',hk'⟩:=hq.open_
 obtain ⟨A,m,cc⟩:=x
 obtain ⟨A',m',cc'⟩:=x'
 dsimp only at hx hx' hk hk'
 have hmb:m<=1048576:=by omega
 have HM:=Lib.hid hx
 have HM':=Lib.hid hx'
 have HK:=Lib.hid hk
 have HK':=Lib.hid hk'
 have HIH:=Lib.hid hih
 unfold ItmB at HIH
 have HT0:=Lib.hid (Tw3.new w h (A,m,cc) f h' (A',m',cc') f')
 obtain ⟨r,hr⟩:∃ r,r=eqR (.mk s items f) (.mk s' items' f'):=⟨_,rfl⟩
 have HR:=Lib.hid hr
 rw [<- hr]
 by_cases hff:f=f'
 ·subst hff
  have e1:(f != f)=false:=by simp
  obtain ⟨W,hW⟩:∃ W,W=(w.alloc (plO h (A,m,cc) f)).alloc (plO h' (A',m',cc') f):=⟨_,rfl⟩
  have HW:=Lib.hid hW
  rw [<- hW] at HT0
  have HIN:=Lib.hid (ints_two (sv h) (sv h') s s' W (Keeps.lat hsr (Lat.below HT0.out.bel)).now (Keeps.lat hsr' (Lat.below HT0.out.bel)).now hs)
  clear hp hq hx hx' hk hk' hih hl hW hsr hsr' hs hr
  by_cases hss:s=s'
  ·subst hss
   rw [decide_eq_true rfl] at HIN
   by_cases hmm:m=m'
   ·subst hmm
    have e3:((m:Int) != (m:Int))=false:=by simp
    go_enter Tryz.func92,Tryz.ntmps92
    go_wp2_with fail
    rw [<- HW.out]
    refine HIN.out.mono ?_
    rintro e w1 ⟨rfl,hb⟩
    have HT1:=Lib.hid (HT0.out.step hb)
    clear hb HT0 HIN
    obtain ⟨a0,a1,a2⟩:=at3_c HT1.out.one
    obtain ⟨b0,b1,b2⟩:=at3_c HT1.out.two
    dsimp only at a1 b1
    go_wp2
    clear a0 a1 a2 b0 b1 b2
    go_loopw [5,5] (fun _ iv wr=>∃ i:Nat,i<=m/\iv= .int .i64 (i:Int)/\(∀ j,j < i->items[j]?=items'[j]?)/\Below w1.heap.size w1 wr) (fun _ iv _=>m - (intOf iv).toNat)
    case atStart=>exact ⟨0,Nat.zero_le _,rfl,fun j hj=>absurd hj (Nat.not_lt_zero _),Below.refl _ _⟩
    case round =>
     obtain ⟨i,hi,rfl,hj,hbl⟩:=hrel
     have HJ:=Lib.hid hj
     clear hj
     have HTR:=Lib.hid (HT1.out.step hbl)
     obtain ⟨a0,a1,a2⟩:=at3_c HTR.out.one
     obtain ⟨b0,b1,b2⟩:=at3_c HTR.out.two
     dsimp only at a1 b1
     have HBL:=Lib.hid hbl
     by_cases hlt:i < m
     ·have h1:i < items.length:=by have:=HM.out;omega
      have h2:i < items'.length:=by have:=HM'.out;omega
      obtain ⟨b,o,p0,p1,p2,p3,rfl,-,hpv,hce⟩:=HK.out i h1
      obtain ⟨b',o',r0,r1,r2,r3,rfl,-,hpv',hce'⟩:=HK'.out i h2
      obtain ⟨c0,c1,c2,c3⟩:=hce _ (Lat.below HTR.out.bel)
      obtain ⟨d0,d1,d2,d3⟩:=hce' _ (Lat.below HTR.out.bel)
      dsimp only [sv] at c0 c1 c2 c3 d0 d1 d2 d3
      have HIC:=Lib.hid (HIH.out i h1 h2 _ _ p0 p1 p2 p3 r0 r1 r2 r3 _ (hpv.step (bel_both HTR.out.bel (below_drewN (Below.refl wr.heap.size wr) 1))) (hpv'.step (bel_both HTR.out.bel (below_drewN (Below.refl wr.heap.size wr) 1))))
      have HS:Hid (items[i]?=some items[i]):=List.getElem?_eq_getElem h1
      have HT:Hid (items'[i]?=some items'[i]):=List.getElem?_eq_getElem h2
      have hlt2:(i:Int) < (m:Int):=by omega
      clear hbl hce hce' hpv hpv'
      generalize items[i]=x at HIC HS
      generalize items'[i]=y at HIC HT
      go_wp2
      go_still_tail 10,(by kernel_rfl)
      change wpList _ _ _ _ _ (wr.drewN 1)
      have HB1:=Lib.hid (bel_both HBL.out (below_drewN (Below.refl wr.heap.size wr) 1))
      clear a0 a1 a2 b0 b1 b2 c0 c1 c2 c3 d0 d1 d2 d3
      generalize wr.drewN 1=wd at *
      go_wp2_with fail
      refine HIC.out.mono ?_
      rintro e w2 ⟨rfl,hb⟩
      have HB2:=Lib.hid (bel_both HB1.out hb)
      clear hb
      by_cases hxy:x=y
      ·rw [eqI_iff.2 hxy]
       go_wp2
       go_roundw
       case rel =>
        refine ⟨i+1,by omega,by go_num,fun j hj=>?_,HB2.out⟩
        by_cases e:j=i
        ·rw [e,HS.out,HT.out,hxy]
        ·exact HJ.out j (by omega)
       case measure=>simp [intOf];omega
      ·rw [eqI_no.2 hxy]
       have HRF:Hid (r=false):=by
        unfold Hid
        rw [HR.out]
        refine eqR_no.2 fun e=>hxy ?_
        injection e with _ e _
        have h1:=HS.out
        rw [e,HT.out] at h1
        exact (Option.some.inj h1).symm
       obtain rfl:=HRF.out
       go_wp2
       go_ret
       exact ⟨rfl,bel_both HT1.out.bel HB2.out⟩
     ·have hlt2:¬ (i:Int) < (m:Int):=by omega
      have HRF:Hid (r=true):=by
       unfold Hid
       rw [HR.out]
       refine eqR_iff.2 ?_
       rw [show items=items' from List.ext_getElem? fun j=>by
        by_cases hj:j < i
        ·exact HJ.out j hj
        ·have h1:=HM.out
         have h2:=HM'.out
         rw [List.getElem?_eq_none (by omega),List.getElem?_eq_none (by omega)]]
      obtain rfl:=HRF.out
      clear hbl
      go_wp2
      go_ret
      exact ⟨rfl,HTR.out.bel⟩
   ·have e3:((m:Int) != (m':Int))=true:=by simp;omega
    have HRF:Hid (r=false):=by
     unfold Hid
     rw [HR.out]
     refine eqR_no.2 fun e=>hmm ?_
     injection e with _ e _
     have h1:=HM.out
     have h2:=HM'.out
     rw [e] at h1
     omega
    obtain rfl:=HRF.out
    clear hmm
    go_enter Tryz.func92,Tryz.ntmps92
    go_wp2_with fail
    rw [<- HW.out]
    refine HIN.out.mono ?_
    rintro e w1 ⟨rfl,hb⟩
    have HT1:=Lib.hid (HT0.out.step hb)
    clear hb HT0 HIN
    obtain ⟨a0,a1,a2⟩:=at3_c HT1.out.one
    obtain ⟨b0,b1,b2⟩:=at3_c HT1.out.two
    dsimp only at a1 b1
    go_wp2
    go_ret
    exact ⟨rfl,HT1.out.bel⟩
  ·rw [decide_eq_false hss] at HIN
   have HRF:Hid (r=false):=by
    unfold Hid
    rw [HR.out]
    exact eqR_no.2 fun e=>hss (by injection e)
   obtain rfl:=HRF.out
   clear hss
   go_enter Tryz.func92,Tryz.ntmps92
   go_wp2_with fail
   rw [<- HW.out]
   refine HIN.out.mono ?_
   rintro e w1 ⟨rfl,hb⟩
   have HT1:=Lib.hid (HT0.out.step hb)
   clear hb HT0 HIN
   go_wp2
   go_ret
   exact ⟨rfl,HT1.out.bel⟩
 ·have e1:(f != f')=true:=by simpa using hff
  have HRF:Hid (r=false):=by
   unfold Hid
   rw [HR.out]
   exact eqR_no.2 fun e=>hff (by injection e)
  obtain rfl:=HRF.out
  clear hff hp hq hx hx' hk hk' hih hl hsr hsr' hs hr
  go_enter Tryz.func92,Tryz.ntmps92
  go_wp2
  go_ret
  exact ⟨rfl,HT0.out.bel⟩
theorem rsame_both:∀ (N:Nat) (t u:RP),cntP t<=N->LnP t->TfP t->LnP u->TfP u->SamB t u
 | 0,t,_,h,_,_,_,_=>by have:=cntP_pos t;omega
 | N+1,.mk s items fill,.mk s' items' fill',h,hN,ht,hN',ht'=>by
  rw [cntP] at h
  rw [TfP] at ht ht'
  rw [LnP] at hN hN'
  refine rsame_two s items fill s' items' fill' hN.1 hN.2.1 fun i hi hi'=>?_
  have hc:=cntIs_at hi
  have htf:=tfIs_at hi ht
  have hln:=lnIs_at hi hN.2.2
  have htf':=tfIs_at hi' ht'
  have hln':=lnIs_at hi' hN'.2.2
  generalize items[i]=it at hc htf hln
  generalize items'[i]=it' at htf' hln'
  cases it with
  | mk kind num char box =>
   cases it' with
   | mk kind' num' char' box' =>
    rw [cntI] at hc
    rw [TfI] at htf htf'
    rw [LnI] at hln hln'
    exact ritem_two kind num char box kind' num' char' box' htf.1 htf'.1 hln.1 fun j hj hj'=>rsame_both N box[j] box'[j] (by have:=cntPs_at hj;omega) (lnPs_at hj hln.2) (tfPs_at hj htf.2) (lnPs_at hj' hln'.2) (tfPs_at hj' htf'.2)
theorem ritem_els {a:PA} (d:Nat) (hg:GoodA d a) (hs:SmA 1000000 a) (i k:Nat) (hi:i < a.len) (hk:k < a.len):ItmB (elA a i) (elA a k):=by
 have hl:=ln_raw d a hg hs
 have ht:=tf_raw d a hg
 have h1:=rawP_at hi
 have h2:=rawP_at hk
 have l1:i < (rawP a).its.length:=by rw [rawP_len];exact hi
 have l2:k < (rawP a).its.length:=by rw [rawP_len];exact hk
 rw [List.getD_eq_getElem?_getD,List.getElem?_eq_getElem l1,Option.getD_some] at h1
 rw [List.getD_eq_getElem?_getD,List.getElem?_eq_getElem l2,Option.getD_some] at h2
 rw [rp_eta (rawP a),LnP] at hl
 rw [rp_eta (rawP a),TfP] at ht
 have a1:=lnIs_at l1 hl.2.2
 have a2:=tfIs_at l1 ht
 have b1:=lnIs_at l2 hl.2.2
 have b2:=tfIs_at l2 ht
 rw [h1] at a1 a2
 rw [h2] at b1 b2
 generalize elA a i=x at a1 a2 ⊢
 generalize elA a k=y at b1 b2 ⊢
 cases x with
 | mk kind num char box =>
  cases y with
  | mk kind' num' char' box' =>
   rw [LnI] at a1 b1
   rw [TfI] at a2 b2
   exact ritem_two kind num char box kind' num' char' box' a2.1 b2.1 a1.1 fun j hj hj'=>rsame_both _ box[j] box'[j] (Nat.le_refl _) (lnPs_at hj a1.2) (tfPs_at hj a2.2) (lnPs_at hj' b1.2) (tfPs_at hj' b2.2)
end Go.Proofs.YtbakjaliponbbaaGreatDoor
