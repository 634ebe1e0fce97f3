/- The walk of Check over plain .. Conditions: as each theorem says. -/
import Derived.Test.YtakgmnafbjdccaaGreatDoorMg18
import Derived.Test.YtakgmnafbjdccaaGreatDoorMg19
set_option maxRecDepth 100000
set_option maxHeartbeats 2000000
namespace Go.Proofs.YtakgmnafbjdccaaGreatDoor
open Go Go.RowKit Go.Proofs Fl
theorem finite_any {b:Nat} (hb:b < 18446744073709551616) (w:World):Calls Tryz.prog 117 #[.float .f64 b] w fun e w'=>e= .returned (.bool (okF b))/\w=w':=by
 rcases classify b hb with ⟨s,Z,hz,rfl⟩ | h
 ·have e:okF (W s Z)=true:=by unfold okF;rw [doneP_num s hz];rfl
  rw [e]
  exact finite_num s hz w
 ·have e:okF b=false:=by
   have e2:doneP b=(0,24):=by rcases h with ⟨s,rfl⟩ | h;exact doneP_inf s;exact doneP_nan h
   unfold okF;rw [e2];rfl
  rw [e]
  rcases h with ⟨s,rfl⟩ | h
  ·exact finite_inf s w
  ·exact finite_nan h w
def ChkR (d:Nat) (t:RP) (e:Ending):Prop:=∃ y:Int,e= .returned (.int .i64 y)/\(y=0->OkP d t)
theorem chkR_bad {d:Nat}{t:RP}{y:Int} (h:y≠0):ChkR d t (.returned (.int .i64 y)):=⟨y,rfl,fun e=>absurd e h⟩
theorem chk_zero (t:RP) (h x:Sl) (f:Int) (w:World):Calls Tryz.prog 123 #[plV h x f,.int .i64 0] w fun e w'=>ChkR 0 t e/\Below w.heap.size w w':=by
 have HB0:=Lib.hid (bel1 w (.cells #[sv h,sv x,.int .i64 f] 25))
 have HR:=Lib.hid (chkR_bad (d:=0) (t:=t) (y:=1) (by decide))
 go_enter Tryz.func123,Tryz.ntmps123
 go_wp2
 go_ret
 exact ⟨HR.out,HB0.out⟩
theorem chk_fill (d:Nat) (t:RP) (h x:Sl) (f z:Int) (hz:z≠0) (hf:¬ (f=0\/f=1\/f=2)) (w:World):Calls Tryz.prog 123 #[plV h x f,.int .i64 z] w fun e w'=>ChkR d t e/\Below w.heap.size w w':=by
 have HB0:=Lib.hid (bel1 w (.cells #[sv h,sv x,.int .i64 f] 25))
 have HR:=Lib.hid (chkR_bad (d:=d) (t:=t) (y:=1) (by decide))
 obtain ⟨c0,c1,c2⟩:=at3_new w h x f 25
 have hz2:(z==0)=false:=by simpa using hz
 by_cases h0:f < 0
 ·clear hz hf
  go_enter Tryz.func123,Tryz.ntmps123
  go_wp2
  go_ret
  exact ⟨HR.out,HB0.out⟩
 ·have h2:2 < f:=by omega
  clear hz hf
  go_enter Tryz.func123,Tryz.ntmps123
  go_wp2
  go_ret
  exact ⟨HR.out,HB0.out⟩
theorem at4_new (w:World) (k:Int) (n:Nat) (c:Int) (x:Sl) (e:TypeId):At4 (w.alloc (.cells #[.int .i64 k,.float .f64 n,.int .i32 c,sv x] e)) w.heap.size 0 k n c x:=by
 have hc:∀ j u,#[Value.int .i64 k,.float .f64 n,.int .i32 c,sv x][j]?=some u->(w.alloc (.cells #[.int .i64 k,.float .f64 n,.int .i32 c,sv x] e)).cell? ⟨w.heap.size,j,none⟩=some u:=by
  intro j u hu
  rw [cell_of_row _ w.heap.size j _ e (0,0) (heap_alloc_new w _)]
  exact hu
 exact ⟨hc 0 _ rfl,hc 1 _ rfl,hc 2 _ rfl,hc 3 _ rfl⟩
theorem st_item (w:World) (k:Int) (x n:Nat) (c:Int) (y:Value) (e:TypeId) (md:Mode) :
  (store ⟨w.heap.size,1,none⟩ (.float .f64 n) md).run Tryz.prog (w.alloc (.cells #[.int .i64 k,.float .f64 x,.int .i32 c,y] e))= .ok () (w.alloc (.cells #[.int .i64 k,.float .f64 n,.int .i32 c,y] e)):=by
 have hg:=heap_alloc_new w (.cells #[.int .i64 k,.float .f64 x,.int .i32 c,y] e)
 have hc:(w.alloc (.cells #[.int .i64 k,.float .f64 x,.int .i32 c,y] e)).cell? ⟨w.heap.size,1,none⟩=some (.float .f64 x):=by
  rw [cell_of_row _ w.heap.size 1 _ e (0,0) hg];rfl
 have hz:(w.alloc (.cells #[.int .i64 k,.float .f64 x,.int .i32 c,y] e)).frozen? ⟨w.heap.size,1,none⟩=false:=frozen_of_row _ _ _ _ _ hg
 rw [store_float hc hz .f64 n md,World.setCell_alloc_at _ _ _ _ _ rfl]
 rfl
theorem okI_0 {d:Nat}{n:Nat}{c:Int}{box:List RP} (h:okF n=true) (hn:n < 18446744073709551616):OkI d 0 (.mk 0 n c box):=by
 rw [OkI];exact ⟨rfl,fun _=>⟨h,hn⟩,fun e=>by cases e⟩
theorem okI_1 {d:Nat}{n:Nat}{c:Int}{box:List RP}:OkI d 1 (.mk 1 n c box):=by
 rw [OkI];exact ⟨rfl,fun e=>(by cases e),fun e=>by cases e⟩
theorem okI_2 {d:Nat}{n:Nat}{c:Int}{box:List RP} (h1:box.length=1) (h2:OkPs d box):OkI (d+1) 2 (.mk 2 n c box):=by
 rw [OkI];exact ⟨rfl,fun e=>(by cases e),fun _=>⟨h1,h2⟩⟩
theorem okPs_one {d:Nat}{box:List RP} (h1:box.length=1) (h2:∀ h:0 < box.length,OkP d box[0]):OkPs d box:=by
 match box,h1 with
 | [t],_=>rw [OkPs,OkPs];exact ⟨h2 (by simp),trivial⟩
theorem chk_0 (d:Nat) (hd:d<=40) (s:List Int) (items:List RI) (h x:Sl) (w:World) (hfit:FitIs items) (hM:cntP (.mk s items 0)<=1048576) (hr:PV (fun _=>False) w (.mk s items 0) h x 0) :
  Calls Tryz.prog 123 #[plV h x 0,.int .i64 ((d+1:Nat):Int)] w fun e w'=>ChkR (d+1) (.mk s items 0) e/\Below w.heap.size w w':=by
 obtain ⟨hsr,_,hx,hit⟩:=hr.open_
 obtain ⟨A,m,cc⟩:=x
 dsimp only at hx hit
 have hsz:cntP (.mk s items 0)=items.length+s.length+1+cntIs items:=by rw [cntP]
 rw [hsz] at hM
 have HK:=Lib.hid hit
 have HMI:=Lib.hid hx
 have hmb:m<=1048576:=by omega
 have HFT:Hid (∀ i (hi:i < items.length),FitI items[i]):=fun i hi=>fitIs_at hi hfit
 have HCN:Hid (∀ i (hi:i < items.length),cntI items[i]<=1048576):=fun i hi=>by have:=cntIs_at hi;omega
 have HPR:Hid (∀ W,Below w.heap.size w W->Calls Tryz.prog 79 #[sv h,.int .i64 1048576] W fun e w'=>(∃ n z:Int,e= .returned (.tuple #[.int .i64 n,.int .i64 z])/\(z=0->∃ (sn:List Nat) (m:Nat),s=sn.map Int.ofNat/\OkSh sn m/\n=(m:Int)))/\W=w'):=fun W hb=>rprod_any _ s W (hsr.step hb).now (by omega)
 have HX0:=Lib.hid (at3_new w h (A,m,cc) 0 25)
 have HB0:=Lib.hid (bel1 w (.cells #[sv h,.slice A m cc,.int .i64 0] 25))
 have HB00:=Lib.hid (HPR.out _ HB0.out)
 obtain ⟨z,hz⟩:∃ z:Int,z=((d+1:Nat):Int):=⟨_,rfl⟩
 rw [<- hz]
 have hz0:(z==0)=false:=by simp;omega
 clear hz hx hsz hM hit hfit hsr hr HPR
 go_enter Tryz.func123,Tryz.ntmps123
 obtain ⟨c0,c1,c2⟩:=HX0.out
 dsimp only [sv] at c1
 go_wp2_with fail
 refine HB00.out.mono ?_
 rintro e w1 ⟨⟨n,y,rfl,hy⟩,rfl⟩
 have HY:=Lib.hid hy
 clear hy HB00
 by_cases hy0:y=0
 ·subst hy0
  obtain ⟨sn,M,hs,hok,rfl⟩:=HY.out rfl
  have HS:=Lib.hid hs
  have HOK:=Lib.hid hok
  clear hs hok HY
  by_cases hMm:M=m
  ·subst hMm
   have hne:((M:Int) != (M:Int))=false:=by simp
   have HFIN:Hid ((∀ j (hj:j < items.length),OkI (d+1) 0 items[j])->OkP (d+1) (.mk s items 0)):=fun hall=>by
    rw [OkP]
    exact ⟨by omega,by decide,⟨sn,HS.out,by have h1:=HOK.out;rw [HMI.out] at h1;exact h1⟩,okIs_of items hall⟩
   clear HS HOK
   generalize hW:w.alloc (.cells #[sv h,.slice A M cc,.int .i64 0] 25)=W at *
   clear hW
   go_wp2
   go_loopw [7,8,9,10] (fun gv iv _ _ wr=>∃ (i:Nat) (g:Bool),i<=M/\iv= .int .i64 (i:Int)/\gv= .bool g/\Hid (g=true->∀ j (hj:j < items.length),j < i->OkI (d+1) 0 items[j])/\Below W.heap.size W wr) (fun _ iv _ _ _=>M - (intOf iv).toNat)
   case atStart=>exact ⟨0,true,Nat.zero_le _,rfl,rfl,fun _ j _ hj=>absurd hj (Nat.not_lt_zero _),Below.refl _ _⟩
   case round =>
    clear c0 c1 c2
    obtain ⟨i,g,hi,rfl,rfl,hq,hbl⟩:=hrel
    have HBL:=Lib.hid hbl
    have HBW:=Lib.hid (bel_both HB0.out hbl)
    obtain ⟨c0,c1,c2⟩:=HX0.out.of (w':=wr) fun j=>hbl.cell (p:=⟨w.heap.size,j,none⟩) HX0.out.lt
    dsimp only [sv] at c1
    clear hbl
    by_cases him:i < M
    ·have him2:(i:Int) < (M:Int):=by omega
     have hik:i < items.length:=by have:=HMI.out;omega
     obtain ⟨b,o,k',n',c',y,rfl,-,hiv,hat⟩:=HK.out i hik
     have HSTEP:Hid (OkI (d+1) 0 items[i]->g=true->∀ j (hj:j < items.length),j < i+1->OkI (d+1) 0 items[j]):=fun h1 h2 j hj hji=>by
      by_cases e:j=i
      ·subst e;exact h1
      ·exact hq.out h2 j hj (by omega)
     have HFI:=Lib.hid (HFT.out i hik)
     have HCI:=Lib.hid (HCN.out i hik)
     clear hq
     generalize items[i]=it at hiv HSTEP HFI HCI
     cases it with
     | mk kind num char box =>
     obtain ⟨rfl,rfl,rfl,hy,hbx⟩:=hiv.open_
     obtain ⟨d0,d1,d2,d3⟩:=hat wr (Lat.below HBW.out)
     dsimp only [sv] at d3
     have hnum:n' < 18446744073709551616:=by have:=HFI.out;rw [FitI] at this;exact this.1
     obtain ⟨yA,ym,yc⟩:=y
     dsimp only at hy hbx
     have HYL:=Lib.hid hy
     have HBX:=Lib.hid hbx
     have HN4:=Lib.hid (at4_new wr k' n' c' (yA,ym,yc) 55)
     have HBA:=Lib.hid (bel_both HBL.out (bel1 wr (.cells #[.int .i64 k',.float .f64 n',.int .i32 c',.slice yA ym yc] 55)))
     have HBR:=Lib.hid (bel_both HBW.out (bel1 wr (.cells #[.int .i64 k',.float .f64 n',.int .i32 c',.slice yA ym yc] 55)))
     have HZ0:=Lib.hid HX0.out.lt
     have HZ1:=Lib.hid HBL.out.size
     clear hy hbx hat hiv
     have b1:=fun o=>cell_box1 c1 o
     have b2:=fun o=>cell_box1 c2 o
     have hst:=fun md=>st_item wr k' 0 n' 0 (.slice none 0 0) 55 md
     have HBAD:=Lib.hid (chkR_bad (d:=d+1) (t := .mk s items 0) (y:=1) (by decide))
     by_cases hkf:k'=0
     ·subst hkf
      have HFA:=Lib.hid (fun W=>finite_any hnum W)
      have HOI:Hid (okF n'=true->OkI (d+1) 0 (.mk 0 n' c' box)):=fun h=>okI_0 h hnum
      clear hnum
      generalize okF n'=fb at HFA HOI
      cases g with
      | true =>
       have HJ:Hid (fb=true->∀ j (hj:j < items.length),j < i+1->OkI (d+1) 0 items[j]):=fun h=>HSTEP.out (HOI.out h) rfl
       clear HSTEP HOI
       go_wp2_with fail
       refine (HFA.out _).mono ?_
       rintro e w2 ⟨rfl,rfl⟩
       go_wp2
       go_roundw
       case rel=>exact ⟨i+1,fb,by omega,by go_num,rfl,HJ.out,HBA.out⟩
       case measure=>simp [intOf];omega
      | false =>
       have HJ:Hid (false=true->∀ j (hj:j < items.length),j < i+1->OkI (d+1) 0 items[j]):=fun h=>by cases h
       clear HSTEP HOI
       go_wp2
       go_roundw
       case rel=>exact ⟨i+1,false,by omega,by go_num,rfl,HJ.out,HBA.out⟩
       case measure=>simp [intOf];omega
     ·have hkf2:(k' != 0)=true:=by simpa using hkf
      clear HSTEP hnum hkf
      go_wp2
      go_ret
      exact ⟨HBAD.out,HBR.out⟩
    ·have him2:¬ (i:Int) < (M:Int):=by omega
     have HIE:Hid (i=items.length):=by unfold Hid;have:=HMI.out;omega
     cases g with
     | true =>
      have HF:Hid (ChkR (d+1) (.mk s items 0) (.returned (.int .i64 0))):=⟨0,rfl,fun _=>HFIN.out fun j hj=>hq.out rfl j hj (by have:=HIE.out;omega)⟩
      clear hq
      go_wp2
      go_ret
      exact ⟨HF.out,HBW.out⟩
     | false =>
      have HF:=Lib.hid (chkR_bad (d:=d+1) (t := .mk s items 0) (y:=1) (by decide))
      clear hq
      go_wp2
      go_ret
      exact ⟨HF.out,HBW.out⟩
  ·have hne:((M:Int) != (m:Int))=true:=by simp;omega
   have HF:=Lib.hid (chkR_bad (d:=d+1) (t := .mk s items 0) (y:=23) (by decide))
   clear hMm
   go_wp2
   go_ret
   exact ⟨HF.out,HB0.out⟩
 ·have hne:(y != 0)=true:=by simpa using hy0
  have HF:=Lib.hid (chkR_bad (d:=d+1) (t := .mk s items 0) (y:=y) hy0)
  clear hy0 HY
  go_wp2
  go_ret
  exact ⟨HF.out,HB0.out⟩
theorem chk_1 (d:Nat) (hd:d<=40) (s:List Int) (items:List RI) (h x:Sl) (w:World) (hfit:FitIs items) (hM:cntP (.mk s items 1)<=1048576) (hr:PV (fun _=>False) w (.mk s items 1) h x 1) :
  Calls Tryz.prog 123 #[plV h x 1,.int .i64 ((d+1:Nat):Int)] w fun e w'=>ChkR (d+1) (.mk s items 1) e/\Below w.heap.size w w':=by
 obtain ⟨hsr,_,hx,hit⟩:=hr.open_
 obtain ⟨A,m,cc⟩:=x
 dsimp only at hx hit
 have hsz:cntP (.mk s items 1)=items.length+s.length+1+cntIs items:=by rw [cntP]
 rw [hsz] at hM
 have HK:=Lib.hid hit
 have HMI:=Lib.hid hx
 have hmb:m<=1048576:=by omega
 have HFT:Hid (∀ i (hi:i < items.length),FitI items[i]):=fun i hi=>fitIs_at hi hfit
 have HCN:Hid (∀ i (hi:i < items.length),cntI items[i]<=1048576):=fun i hi=>by have:=cntIs_at hi;omega
 have HPR:Hid (∀ W,Below w.heap.size w W->Calls Tryz.prog 79 #[sv h,.int .i64 1048576] W fun e w'=>(∃ n z:Int,e= .returned (.tuple #[.int .i64 n,.int .i64 z])/\(z=0->∃ (sn:List Nat) (m:Nat),s=sn.map Int.ofNat/\OkSh sn m/\n=(m:Int)))/\W=w'):=fun W hb=>rprod_any _ s W (hsr.step hb).now (by omega)
 have HX0:=Lib.hid (at3_new w h (A,m,cc) 1 25)
 have HB0:=Lib.hid (bel1 w (.cells #[sv h,.slice A m cc,.int .i64 1] 25))
 have HB00:=Lib.hid (HPR.out _ HB0.out)
 obtain ⟨z,hz⟩:∃ z:Int,z=((d+1:Nat):Int):=⟨_,rfl⟩
 rw [<- hz]
 have hz0:(z==0)=false:=by simp;omega
 clear hz hx hsz hM hit hfit hsr hr HPR
 go_enter Tryz.func123,Tryz.ntmps123
 obtain ⟨c0,c1,c2⟩:=HX0.out
 dsimp only [sv] at c1
 go_wp2_with fail
 refine HB00.out.mono ?_
 rintro e w1 ⟨⟨n,y,rfl,hy⟩,rfl⟩
 have HY:=Lib.hid hy
 clear hy HB00
 by_cases hy0:y=0
 ·subst hy0
  obtain ⟨sn,M,hs,hok,rfl⟩:=HY.out rfl
  have HS:=Lib.hid hs
  have HOK:=Lib.hid hok
  clear hs hok HY
  by_cases hMm:M=m
  ·subst hMm
   have hne:((M:Int) != (M:Int))=false:=by simp
   have HFIN:Hid ((∀ j (hj:j < items.length),OkI (d+1) 1 items[j])->OkP (d+1) (.mk s items 1)):=fun hall=>by
    rw [OkP]
    exact ⟨by omega,by decide,⟨sn,HS.out,by have h1:=HOK.out;rw [HMI.out] at h1;exact h1⟩,okIs_of items hall⟩
   clear HS HOK
   generalize hW:w.alloc (.cells #[sv h,.slice A M cc,.int .i64 1] 25)=W at *
   clear hW
   go_wp2
   go_loopw [7,8,9,10] (fun gv iv _ _ wr=>∃ (i:Nat) (g:Bool),i<=M/\iv= .int .i64 (i:Int)/\gv= .bool g/\Hid (g=true->∀ j (hj:j < items.length),j < i->OkI (d+1) 1 items[j])/\Below W.heap.size W wr) (fun _ iv _ _ _=>M - (intOf iv).toNat)
   case atStart=>exact ⟨0,true,Nat.zero_le _,rfl,rfl,fun _ j _ hj=>absurd hj (Nat.not_lt_zero _),Below.refl _ _⟩
   case round =>
    clear c0 c1 c2
    obtain ⟨i,g,hi,rfl,rfl,hq,hbl⟩:=hrel
    have HBL:=Lib.hid hbl
    have HBW:=Lib.hid (bel_both HB0.out hbl)
    obtain ⟨c0,c1,c2⟩:=HX0.out.of (w':=wr) fun j=>hbl.cell (p:=⟨w.heap.size,j,none⟩) HX0.out.lt
    dsimp only [sv] at c1
    clear hbl
    by_cases him:i < M
    ·have him2:(i:Int) < (M:Int):=by omega
     have hik:i < items.length:=by have:=HMI.out;omega
     obtain ⟨b,o,k',n',c',y,rfl,-,hiv,hat⟩:=HK.out i hik
     have HSTEP:Hid (OkI (d+1) 1 items[i]->g=true->∀ j (hj:j < items.length),j < i+1->OkI (d+1) 1 items[j]):=fun h1 h2 j hj hji=>by
      by_cases e:j=i
      ·subst e;exact h1
      ·exact hq.out h2 j hj (by omega)
     have HFI:=Lib.hid (HFT.out i hik)
     have HCI:=Lib.hid (HCN.out i hik)
     clear hq
     generalize items[i]=it at hiv HSTEP HFI HCI
     cases it with
     | mk kind num char box =>
     obtain ⟨rfl,rfl,rfl,hy,hbx⟩:=hiv.open_
     obtain ⟨d0,d1,d2,d3⟩:=hat wr (Lat.below HBW.out)
     dsimp only [sv] at d3
     have hnum:n' < 18446744073709551616:=by have:=HFI.out;rw [FitI] at this;exact this.1
     obtain ⟨yA,ym,yc⟩:=y
     dsimp only at hy hbx
     have HYL:=Lib.hid hy
     have HBX:=Lib.hid hbx
     have HN4:=Lib.hid (at4_new wr k' n' c' (yA,ym,yc) 55)
     have HBA:=Lib.hid (bel_both HBL.out (bel1 wr (.cells #[.int .i64 k',.float .f64 n',.int .i32 c',.slice yA ym yc] 55)))
     have HBR:=Lib.hid (bel_both HBW.out (bel1 wr (.cells #[.int .i64 k',.float .f64 n',.int .i32 c',.slice yA ym yc] 55)))
     have HZ0:=Lib.hid HX0.out.lt
     have HZ1:=Lib.hid HBL.out.size
     clear hy hbx hat hiv
     have b1:=fun o=>cell_box1 c1 o
     have b2:=fun o=>cell_box1 c2 o
     have hst:=fun md=>st_item wr k' 0 n' 0 (.slice none 0 0) 55 md
     have HBAD:=Lib.hid (chkR_bad (d:=d+1) (t := .mk s items 1) (y:=1) (by decide))
     by_cases hkf:k'=1
     ·subst hkf
      have HJ:Hid (g=true->∀ j (hj:j < items.length),j < i+1->OkI (d+1) 1 items[j]):=HSTEP.out okI_1
      clear HSTEP hnum
      cases g with
      | true =>
       go_wp2
       go_roundw
       case rel=>exact ⟨i+1,true,by omega,by go_num,rfl,HJ.out,HBA.out⟩
       case measure=>simp [intOf];omega
      | false =>
       go_wp2
       go_roundw
       case rel=>exact ⟨i+1,false,by omega,by go_num,rfl,HJ.out,HBA.out⟩
       case measure=>simp [intOf];omega
     ·have hkf2:(k' != 1)=true:=by simpa using hkf
      clear HSTEP hnum hkf
      go_wp2
      go_ret
      exact ⟨HBAD.out,HBR.out⟩
    ·have him2:¬ (i:Int) < (M:Int):=by omega
     have HIE:Hid (i=items.length):=by unfold Hid;have:=HMI.out;omega
     cases g with
     | true =>
      have HF:Hid (ChkR (d+1) (.mk s items 1) (.returned (.int .i64 0))):=⟨0,rfl,fun _=>HFIN.out fun j hj=>hq.out rfl j hj (by have:=HIE.out;omega)⟩
      clear hq
      go_wp2
      go_ret
      exact ⟨HF.out,HBW.out⟩
     | false =>
      have HF:=Lib.hid (chkR_bad (d:=d+1) (t := .mk s items 1) (y:=1) (by decide))
      clear hq
      go_wp2
      go_ret
      exact ⟨HF.out,HBW.out⟩
  ·have hne:((M:Int) != (m:Int))=true:=by simp;omega
   have HF:=Lib.hid (chkR_bad (d:=d+1) (t := .mk s items 1) (y:=23) (by decide))
   clear hMm
   go_wp2
   go_ret
   exact ⟨HF.out,HB0.out⟩
 ·have hne:(y != 0)=true:=by simpa using hy0
  have HF:=Lib.hid (chkR_bad (d:=d+1) (t := .mk s items 1) (y:=y) hy0)
  clear hy0 HY
  go_wp2
  go_ret
  exact ⟨HF.out,HB0.out⟩
theorem chk_2 (d:Nat) (hd:d<=40) (hIH:∀ (t:RP) (h x:Sl) (f:Int) (w:World),FitP t->cntP t<=1048576->PV (fun _=>False) w t h x f->Calls Tryz.prog 123 #[plV h x f,.int .i64 (d:Int)] w fun e w'=>ChkR d t e/\Below w.heap.size w w') (s:List Int) (items:List RI) (h x:Sl) (w:World) (hfit:FitIs items) (hM:cntP (.mk s items 2)<=1048576) (hr:PV (fun _=>False) w (.mk s items 2) h x 2) :
  Calls Tryz.prog 123 #[plV h x 2,.int .i64 ((d+1:Nat):Int)] w fun e w'=>ChkR (d+1) (.mk s items 2) e/\Below w.heap.size w w':=by
 obtain ⟨hsr,_,hx,hit⟩:=hr.open_
 obtain ⟨A,m,cc⟩:=x
 dsimp only at hx hit
 have hsz:cntP (.mk s items 2)=items.length+s.length+1+cntIs items:=by rw [cntP]
 rw [hsz] at hM
 have HK:=Lib.hid hit
 have HMI:=Lib.hid hx
 have hmb:m<=1048576:=by omega
 have HFT:Hid (∀ i (hi:i < items.length),FitI items[i]):=fun i hi=>fitIs_at hi hfit
 have HCN:Hid (∀ i (hi:i < items.length),cntI items[i]<=1048576):=fun i hi=>by have:=cntIs_at hi;omega
 have HPR:Hid (∀ W,Below w.heap.size w W->Calls Tryz.prog 79 #[sv h,.int .i64 1048576] W fun e w'=>(∃ n z:Int,e= .returned (.tuple #[.int .i64 n,.int .i64 z])/\(z=0->∃ (sn:List Nat) (m:Nat),s=sn.map Int.ofNat/\OkSh sn m/\n=(m:Int)))/\W=w'):=fun W hb=>rprod_any _ s W (hsr.step hb).now (by omega)
 have HX0:=Lib.hid (at3_new w h (A,m,cc) 2 25)
 have HB0:=Lib.hid (bel1 w (.cells #[sv h,.slice A m cc,.int .i64 2] 25))
 have HB00:=Lib.hid (HPR.out _ HB0.out)
 obtain ⟨z,hz⟩:∃ z:Int,z=((d+1:Nat):Int):=⟨_,rfl⟩
 rw [<- hz]
 have hz0:(z==0)=false:=by simp;omega
 have hz1:z - 1=(d:Int):=by omega
 have hz2:IntKind.i64.wrap (d:Int)=(d:Int):=IntWalk.i64_in _ (by omega)
 have HIH:=Lib.hid hIH
 clear hIH
 clear hz hx hsz hM hit hfit hsr hr HPR
 go_enter Tryz.func123,Tryz.ntmps123
 obtain ⟨c0,c1,c2⟩:=HX0.out
 dsimp only [sv] at c1
 go_wp2_with fail
 refine HB00.out.mono ?_
 rintro e w1 ⟨⟨n,y,rfl,hy⟩,rfl⟩
 have HY:=Lib.hid hy
 clear hy HB00
 by_cases hy0:y=0
 ·subst hy0
  obtain ⟨sn,M,hs,hok,rfl⟩:=HY.out rfl
  have HS:=Lib.hid hs
  have HOK:=Lib.hid hok
  clear hs hok HY
  by_cases hMm:M=m
  ·subst hMm
   have hne:((M:Int) != (M:Int))=false:=by simp
   have HFIN:Hid ((∀ j (hj:j < items.length),OkI (d+1) 2 items[j])->OkP (d+1) (.mk s items 2)):=fun hall=>by
    rw [OkP]
    exact ⟨by omega,by decide,⟨sn,HS.out,by have h1:=HOK.out;rw [HMI.out] at h1;exact h1⟩,okIs_of items hall⟩
   clear HS HOK
   generalize hW:w.alloc (.cells #[sv h,.slice A M cc,.int .i64 2] 25)=W at *
   clear hW
   go_wp2
   go_loopw [7,8,9,10] (fun gv iv _ _ wr=>∃ (i:Nat) (g:Bool),i<=M/\iv= .int .i64 (i:Int)/\gv= .bool g/\Hid (g=true->∀ j (hj:j < items.length),j < i->OkI (d+1) 2 items[j])/\Below W.heap.size W wr) (fun _ iv _ _ _=>M - (intOf iv).toNat)
   case atStart=>exact ⟨0,true,Nat.zero_le _,rfl,rfl,fun _ j _ hj=>absurd hj (Nat.not_lt_zero _),Below.refl _ _⟩
   case round =>
    clear c0 c1 c2
    obtain ⟨i,g,hi,rfl,rfl,hq,hbl⟩:=hrel
    have HBL:=Lib.hid hbl
    have HBW:=Lib.hid (bel_both HB0.out hbl)
    obtain ⟨c0,c1,c2⟩:=HX0.out.of (w':=wr) fun j=>hbl.cell (p:=⟨w.heap.size,j,none⟩) HX0.out.lt
    dsimp only [sv] at c1
    clear hbl
    by_cases him:i < M
    ·have him2:(i:Int) < (M:Int):=by omega
     have hik:i < items.length:=by have:=HMI.out;omega
     obtain ⟨b,o,k',n',c',y,rfl,-,hiv,hat⟩:=HK.out i hik
     have HSTEP:Hid (OkI (d+1) 2 items[i]->g=true->∀ j (hj:j < items.length),j < i+1->OkI (d+1) 2 items[j]):=fun h1 h2 j hj hji=>by
      by_cases e:j=i
      ·subst e;exact h1
      ·exact hq.out h2 j hj (by omega)
     have HFI:=Lib.hid (HFT.out i hik)
     have HCI:=Lib.hid (HCN.out i hik)
     clear hq
     generalize items[i]=it at hiv HSTEP HFI HCI
     cases it with
     | mk kind num char box =>
     obtain ⟨rfl,rfl,rfl,hy,hbx⟩:=hiv.open_
     obtain ⟨d0,d1,d2,d3⟩:=hat wr (Lat.below HBW.out)
     dsimp only [sv] at d3
     have hnum:n' < 18446744073709551616:=by have:=HFI.out;rw [FitI] at this;exact this.1
     obtain ⟨yA,ym,yc⟩:=y
     dsimp only at hy hbx
     have HYL:=Lib.hid hy
     have HBX:=Lib.hid hbx
     have HN4:=Lib.hid (at4_new wr k' n' c' (yA,ym,yc) 55)
     have HBA:=Lib.hid (bel_both HBL.out (bel1 wr (.cells #[.int .i64 k',.float .f64 n',.int .i32 c',.slice yA ym yc] 55)))
     have HBR:=Lib.hid (bel_both HBW.out (bel1 wr (.cells #[.int .i64 k',.float .f64 n',.int .i32 c',.slice yA ym yc] 55)))
     have HZ0:=Lib.hid HX0.out.lt
     have HZ1:=Lib.hid HBL.out.size
     clear hy hbx hat hiv
     have b1:=fun o=>cell_box1 c1 o
     have b2:=fun o=>cell_box1 c2 o
     have hst:=fun md=>st_item wr k' 0 n' 0 (.slice none 0 0) 55 md
     have HBAD:=Lib.hid (chkR_bad (d:=d+1) (t := .mk s items 2) (y:=1) (by decide))
     by_cases hkf:k'=2
     ·subst hkf
      by_cases hym:ym=1
      ·subst hym
       have hb0:0 < box.length:=by have:=HYL.out;omega
       obtain ⟨bb,o2,h',y',f',rfl,-,hpv,hat3⟩:=HBX.out 0 hb0
       obtain ⟨e0,e1,e2⟩:=hat3 _ (Lat.below HBR.out)
       simp only [Nat.zero_mul,Nat.add_zero] at e0 e1 e2
       have HIC:=Lib.hid (HIH.out box[0] h' y' f' _ (by have:=HFI.out;rw [FitI] at this;exact fitPs_at hb0 this.2) (by have:=HCI.out;rw [cntI] at this;have:=cntPs_at hb0;omega) (hpv.step HBR.out))
       have HOI:Hid (OkP d box[0]->g=true->∀ j (hj:j < items.length),j < i+1->OkI (d+1) 2 items[j]):=fun h=>HSTEP.out (okI_2 HYL.out.symm (okPs_one HYL.out.symm fun _=>h))
       clear hpv hat3 HSTEP hnum
       generalize box[0]=zt at *
       go_wp2_with fail
       refine HIC.out.mono ?_
       rintro e w2 ⟨⟨y2,rfl,hy2⟩,hb⟩
       have HY2:=Lib.hid hy2
       have HB2:=Lib.hid (bel_both HBA.out hb)
       have HB2W:=Lib.hid (bel_both HBR.out hb)
       obtain ⟨a0,a1,a2,a3⟩:=HN4.out.of (w':=w2) fun j=>hb.cell (p:=⟨wr.heap.size,j,none⟩) HN4.out.lt
       dsimp only [sv] at a3
       clear hb hy2
       by_cases hy20:y2=0
       ·subst hy20
        have HJ:Hid (g=true->∀ j (hj:j < items.length),j < i+1->OkI (d+1) 2 items[j]):=HOI.out (HY2.out rfl)
        clear HOI HY2
        cases g with
        | true =>
         have HJ2:Hid (true=true->∀ j (hj:j < items.length),j < i+1->OkI (d+1) 2 items[j]):=fun _=>HJ.out (by trivial)
         clear HJ
         go_wp2
         go_roundw
         case rel=>exact ⟨i+1,true,by omega,by go_num,rfl,(show Hid _ from fun _=>HJ2.out (by trivial)),HB2.out⟩
         case measure=>simp [intOf];omega
        | false =>
         go_wp2
         go_roundw
         case rel=>exact ⟨i+1,false,by omega,by go_num,rfl,HJ.out,HB2.out⟩
         case measure=>simp [intOf];omega
       ·have hne2:(y2 != 0)=true:=by simpa using hy20
        have HBD:=Lib.hid (chkR_bad (d:=d+1) (t := .mk s items 2) (y:=y2) hy20)
        clear HOI HY2 hy20
        go_wp2
        go_ret
        exact ⟨HBD.out,HB2W.out⟩
      ·have hne2:((ym:Int) != 1)=true:=by simp;omega
       clear HSTEP hnum hym
       go_wp2
       go_ret
       exact ⟨HBAD.out,HBR.out⟩
     ·have hkf2:(k' != 2)=true:=by simpa using hkf
      clear HSTEP hnum hkf
      go_wp2
      go_ret
      exact ⟨HBAD.out,HBR.out⟩
    ·have him2:¬ (i:Int) < (M:Int):=by omega
     have HIE:Hid (i=items.length):=by unfold Hid;have:=HMI.out;omega
     cases g with
     | true =>
      have HF:Hid (ChkR (d+1) (.mk s items 2) (.returned (.int .i64 0))):=⟨0,rfl,fun _=>HFIN.out fun j hj=>hq.out rfl j hj (by have:=HIE.out;omega)⟩
      clear hq
      go_wp2
      go_ret
      exact ⟨HF.out,HBW.out⟩
     | false =>
      have HF:=Lib.hid (chkR_bad (d:=d+1) (t := .mk s items 2) (y:=1) (by decide))
      clear hq
      go_wp2
      go_ret
      exact ⟨HF.out,HBW.out⟩
  ·have hne:((M:Int) != (m:Int))=true:=by simp;omega
   have HF:=Lib.hid (chkR_bad (d:=d+1) (t := .mk s items 2) (y:=23) (by decide))
   clear hMm
   go_wp2
   go_ret
   exact ⟨HF.out,HB0.out⟩
 ·have hne:(y != 0)=true:=by simpa using hy0
  have HF:=Lib.hid (chkR_bad (d:=d+1) (t := .mk s items 2) (y:=y) hy0)
  clear hy0 HY
  go_wp2
  go_ret
  exact ⟨HF.out,HB0.out⟩
theorem chk_walk:∀ (d:Nat) (t:RP) (h x:Sl) (f:Int) (w:World),d<=40->FitP t->cntP t<=1048576->PV (fun _=>False) w t h x f ->
  Calls Tryz.prog 123 #[plV h x f,.int .i64 (d:Int)] w fun e w'=>ChkR d t e/\Below w.heap.size w w'
 | 0,t,h,x,f,w,_,_,_,_=>chk_zero t h x f w
 | d+1,.mk s items fill,h,x,f,w,hd,hfit,hM,hr=>by
  obtain ⟨_,rfl,_,_⟩:=hr.open_
  rw [FitP] at hfit
  by_cases hf:f=0\/f=1\/f=2
  ·rcases hf with rfl | rfl | rfl
   ·exact chk_0 d (by omega) s items h x w hfit hM hr
   ·exact chk_1 d (by omega) s items h x w hfit hM hr
   ·exact chk_2 d (by omega) (fun t h x f w h1 h2 h3=>chk_walk d t h x f w (by omega) h1 h2 h3) s items h x w hfit hM hr
  ·exact chk_fill (d+1) _ h x f _ (by omega) hf w
theorem check_any (t:RP) (h x:Sl) (f:Int) (w:World) (hfit:FitP t) (hM:cntP t<=1048576) (hr:PV (fun _=>False) w t h x f) :
  Calls Tryz.prog 65 #[plV h x f] w fun e w'=>ChkR 40 t e/\Below w.heap.size w w':=by
 have HB0:=Lib.hid (bel1 w (.cells #[sv h,sv x,.int .i64 f] 25))
 have HC:=Lib.hid (chk_walk 40 t h x f _ (Nat.le_refl _) hfit hM (hr.step HB0.out))
 clear hfit hM hr
 go_enter Tryz.func65,Tryz.ntmps65
 go_wp2_with fail
 refine HC.out.mono ?_
 rintro e w1 ⟨⟨y,rfl,hy⟩,hb⟩
 have HR:Hid (ChkR 40 t (.returned (.int .i64 y))):=⟨y,rfl,hy⟩
 have HB:=Lib.hid (bel_both HB0.out hb)
 clear hy hb
 go_wp2
 go_ret
 exact ⟨HR.out,HB.out⟩
end Go.Proofs.YtakgmnafbjdccaaGreatDoor
