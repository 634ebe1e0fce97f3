/- The walk of Check over plain arrays. An array in a variable's own block: nine cells written, read and returned. Slices of arrays: read, owned, cloned. Rows of .. Conditions: as each theorem says. -/
import Derived.Test.YtdelgpelkfndeaaGreatDoorMgA
import Derived.Test.YtdelgpelkfndeaaGreatDoorMg07
set_option maxRecDepth 100000
set_option maxHeartbeats 2000000
namespace Go.Proofs.YtdelgpelkfndeaaGreatDoor
open Go Go.RowKit Go.Proofs Fl
theorem QkQ {b:Nat} (hb:b < 18446744073709551616) (w:World):Calls Tryz.prog 81 #[.float .f64 b] w fun e w'=>e= .returned (.bool (okF b))/\w=w':=by
 rcases classify b hb with ⟨s,Z,hz,rfl⟩ | h
 ·have e:okF (W s Z)=true:=by unfold okF;rw [QaX s hz];rfl
  rw [e]
  exact QcT s hz w
 ·have e:okF b=false:=by
   have e2:Qau b=(0,24):=by rcases h with ⟨s,rfl⟩ | h;exact Qbo s;exact Qcd h
   unfold okF;rw [e2];rfl
  rw [e]
  rcases h with ⟨s,rfl⟩ | h
  ·exact QdX s w
  ·exact QfU h w
def ChkR (d:Nat) (t:RP) (e:Ending):Prop:=∃ y:Int,e= .returned (.int .i64 y)/\(y=0->OkP d t)
theorem QaU {d:Nat}{t:RP}{y:Int} (h:y≠0):ChkR d t (.returned (.int .i64 y)):=⟨y,rfl,fun e=>absurd e h⟩
theorem Qpd (t:RP) (h x:Sl) (f:Int) (w:World):Calls Tryz.prog 52 #[plV h x f,.int .i64 0] w fun e w'=>ChkR 0 t e/\Below w.heap.size w w':=by
 have HB0:=hD (bel1 w (.cells #[sv h,sv x,.int .i64 f] 25))
 have HR:=hD (QaU (d:=0) (t:=t) (y:=1) (by decide))
 go_enter Tryz.func52,Tryz.ntmps52
 go_wp2
 go_ret
 exact ⟨HR.out,HB0.out⟩
theorem Qpe (d:Nat) (t:RP) (h x:Sl) (f z:Int) (hz:z≠0) (hf:¬ (f=0\/f=1\/f=2)) (w:World):Calls Tryz.prog 52 #[plV h x f,.int .i64 z] w fun e w'=>ChkR d t e/\Below w.heap.size w w':=by
 have HB0:=hD (bel1 w (.cells #[sv h,sv x,.int .i64 f] 25))
 have HR:=hD (QaU (d:=d) (t:=t) (y:=1) (by decide))
 obtain ⟨c0,c1,c2⟩:=Qb7 w h x f 25
 have hz2:(z==0)=false:=by simpa using hz
 by_cases h0:f < 0
 ·clear hz hf
  go_enter Tryz.func52,Tryz.ntmps52
  go_wp2
  go_ret
  exact ⟨HR.out,HB0.out⟩
 ·have h2:2 < f:=by omega
  clear hz hf
  go_enter Tryz.func52,Tryz.ntmps52
  go_wp2
  go_ret
  exact ⟨HR.out,HB0.out⟩
theorem QiQ (w:World) (k:Int) (n:Nat) (c:Int) (x:Sl) (e:TypeId):At4 (w.alloc (.cells #[.int .i64 k,.float .f64 n,.int .i32 c,sv x] e)) w.heap.size 0 k n c x:=by
 have hc:∀ j u,#[Value.int .i64 k,.float .f64 n,.int .i32 c,sv x][j]?=some u->(w.alloc (.cells #[.int .i64 k,.float .f64 n,.int .i32 c,sv x] e)).cell? ⟨w.heap.size,j,none⟩=some u:=by
  intro j u hu
  rw [cell_of_row _ w.heap.size j _ e (0,0) (heap_alloc_new w _)]
  exact hu
 exact ⟨hc 0 _ rfl,hc 1 _ rfl,hc 2 _ rfl,hc 3 _ rfl⟩
theorem QaK (w:World) (k:Int) (x n:Nat) (c:Int) (y:Value) (e:TypeId) (md:Mode) :
  (store ⟨w.heap.size,1,none⟩ (.float .f64 n) md).run Tryz.prog (w.alloc (.cells #[.int .i64 k,.float .f64 x,.int .i32 c,y] e))= .ok () (w.alloc (.cells #[.int .i64 k,.float .f64 n,.int .i32 c,y] e)):=by
 have hg:=heap_alloc_new w (.cells #[.int .i64 k,.float .f64 x,.int .i32 c,y] e)
 have hc:(w.alloc (.cells #[.int .i64 k,.float .f64 x,.int .i32 c,y] e)).cell? ⟨w.heap.size,1,none⟩=some (.float .f64 x):=by
  rw [cell_of_row _ w.heap.size 1 _ e (0,0) hg];rfl
 have hz:(w.alloc (.cells #[.int .i64 k,.float .f64 x,.int .i32 c,y] e)).frozen? ⟨w.heap.size,1,none⟩=false:=frozen_of_row _ _ _ _ _ hg
 rw [QaG hc hz .f64 n md,World.setCell_alloc_at _ _ _ _ _ rfl]
 rfl
theorem QtZ {d:Nat}{n:Nat}{c:Int}{box:List RP} (h:okF n=true) (hn:n < 18446744073709551616):OkI d 0 (.mk 0 n c box):=by
 rw [OkI];exact ⟨rfl,fun _=>⟨h,hn⟩,fun e=>by cases e⟩
theorem Qt0 {d:Nat}{n:Nat}{c:Int}{box:List RP}:OkI d 1 (.mk 1 n c box):=by
 rw [OkI];exact ⟨rfl,fun e=>(by cases e),fun e=>by cases e⟩
theorem Qt1 {d:Nat}{n:Nat}{c:Int}{box:List RP} (h1:box.length=1) (h2:OkPs d box):OkI (d+1) 2 (.mk 2 n c box):=by
 rw [OkI];exact ⟨rfl,fun e=>(by cases e),fun _=>⟨h1,h2⟩⟩
theorem Qpf {d:Nat}{box:List RP} (h1:box.length=1) (h2:∀ h:0 < box.length,OkP d box[0]):OkPs d box:=by
 match box,h1 with
 | [t],_=>rw [OkPs,OkPs];exact ⟨h2 (by simp),trivial⟩
theorem Qt2 (d:Nat) (hd:d<=40) (s:List Int) (items:List RI) (h x:Sl) (w:World) (hfit:Qev items) (hM:cntP (.mk s items 0)<=1048576) (hr:PV (fun _=>False) w (.mk s items 0) h x 0) :
  Calls Tryz.prog 52 #[plV h x 0,.int .i64 ((d+1:Nat):Int)] w fun e w'=>ChkR (d+1) (.mk s items 0) e/\Below w.heap.size w w':=by
 obtain ⟨hsr,_,hx,hit⟩:=hr.open_
 obtain ⟨A,m,cc⟩:=x
 dsimp only at hx hit
 have hsz:cntP (.mk s items 0)=items.length+s.length+1+QaH items:=by rw [cntP]
 rw [hsz] at hM
 have HK:=hD hit
 have HMI:=hD hx
 have hmb:m<=1048576:=by omega
 have HFT:Hid (∀ i (hi:i < items.length),FitI items[i]):=fun i hi=>QeI hi hfit
 have HCN:Hid (∀ i (hi:i < items.length),cntI items[i]<=1048576):=fun i hi=>by have:=QbF hi;omega
 have HPR:Hid (∀ W,Below w.heap.size w W->Calls Tryz.prog 99 #[sv h,.int .i64 1048576] W fun e w'=>(∃ n z:Int,e= .returned (.tuple #[.int .i64 n,.int .i64 z])/\(z=0->∃ (sn:List Nat) (m:Nat),s=sn.map Int.ofNat/\OkSh sn m/\n=(m:Int)))/\W=w'):=fun W hb=>Qff _ s W (hsr.step hb).now (by omega)
 have HX0:=hD (Qb7 w h (A,m,cc) 0 25)
 have HB0:=hD (bel1 w (.cells #[sv h,.slice A m cc,.int .i64 0] 25))
 have HB00:=hD (HPR.out _ HB0.out)
 obtain ⟨z,hz⟩:∃ z:Int,z=((d+1:Nat):Int):=⟨_,rfl⟩
 rw [<- hz]
 have hz0:(z==0)=false:=by simp;omega
 clear hz hx hsz hM hit hfit hsr hr HPR
 go_enter Tryz.func52,Tryz.ntmps52
 obtain ⟨c0,c1,c2⟩:=HX0.out
 dsimp only [sv] at c1
 go_wp2_with fail
 refine HB00.out.mono ?_
 rintro e w1 ⟨⟨n,y,rfl,hy⟩,rfl⟩
 have HY:=hD hy
 clear hy HB00
 by_cases hy0:y=0
 ·subst hy0
  obtain ⟨sn,M,hs,hok,rfl⟩:=HY.out rfl
  have HS:=hD hs
  have HOK:=hD hok
  clear hs hok HY
  by_cases hMm:M=m
  ·subst hMm
   have hne:((M:Int) != (M:Int))=false:=by simp
   have HFIN:Hid ((∀ j (hj:j < items.length),OkI (d+1) 0 items[j])->OkP (d+1) (.mk s items 0)):=fun hall=>by
    rw [OkP]
    exact ⟨by omega,by decide,⟨sn,HS.out,by have h1:=HOK.out;rw [HMI.out] at h1;exact h1⟩,Qfc items hall⟩
   clear HS HOK
   generalize hW:w.alloc (.cells #[sv h,.slice A M cc,.int .i64 0] 25)=W at *
   clear hW
   go_wp2
   go_loopw [7,8,9,10] (fun gv iv _ _ wr=>∃ (i:Nat) (g:Bool),i<=M/\iv= .int .i64 (i:Int)/\gv= .bool g/\Hid (g=true->∀ j (hj:j < items.length),j < i->OkI (d+1) 0 items[j])/\Below W.heap.size W wr) (fun _ iv _ _ _=>M - (intOf iv).toNat)
   case atStart=>exact ⟨0,true,Nat.zero_le _,rfl,rfl,fun _ j _ hj=>absurd hj (Nat.not_lt_zero _),Below.refl _ _⟩
   case round =>
    clear c0 c1 c2
    obtain ⟨i,g,hi,rfl,rfl,hq,hbl⟩:=hrel
    have HBL:=hD hbl
    have HBW:=hD (Qaa HB0.out hbl)
    obtain ⟨c0,c1,c2⟩:=HX0.out.of (w':=wr) fun j=>hbl.cell (p:=⟨w.heap.size,j,none⟩) HX0.out.lt
    dsimp only [sv] at c1
    clear hbl
    by_cases him:i < M
    ·have him2:(i:Int) < (M:Int):=by omega
     have hik:i < items.length:=by have:=HMI.out;omega
     obtain ⟨b,o,k',n',c',y,rfl,-,hiv,hat⟩:=HK.out i hik
     have HSTEP:Hid (OkI (d+1) 0 items[i]->g=true->∀ j (hj:j < items.length),j < i+1->OkI (d+1) 0 items[j]):=fun h1 h2 j hj hji=>by
      by_cases e:j=i
      ·subst e;exact h1
      ·exact hq.out h2 j hj (by omega)
     have HFI:=hD (HFT.out i hik)
     have HCI:=hD (HCN.out i hik)
     clear hq
     generalize items[i]=it at hiv HSTEP HFI HCI
     cases it with
     | mk kind num char box =>
     obtain ⟨rfl,rfl,rfl,hy,hbx⟩:=hiv.open_
     obtain ⟨d0,d1,d2,d3⟩:=hat wr (Lat.below HBW.out)
     dsimp only [sv] at d3
     have hnum:n' < 18446744073709551616:=by have:=HFI.out;rw [FitI] at this;exact this.1
     obtain ⟨yA,ym,yc⟩:=y
     dsimp only at hy hbx
     have HYL:=hD hy
     have HBX:=hD hbx
     have HN4:=hD (QiQ wr k' n' c' (yA,ym,yc) 63)
     have HBA:=hD (Qaa HBL.out (bel1 wr (.cells #[.int .i64 k',.float .f64 n',.int .i32 c',.slice yA ym yc] 63)))
     have HBR:=hD (Qaa HBW.out (bel1 wr (.cells #[.int .i64 k',.float .f64 n',.int .i32 c',.slice yA ym yc] 63)))
     have HZ0:=hD HX0.out.lt
     have HZ1:=hD HBL.out.size
     clear hy hbx hat hiv
     have b1:=fun o=>Qab c1 o
     have b2:=fun o=>Qab c2 o
     have hst:=fun md=>QaK wr k' 0 n' 0 (.slice none 0 0) 63 md
     have HBAD:=hD (QaU (d:=d+1) (t := .mk s items 0) (y:=1) (by decide))
     by_cases hkf:k'=0
     ·subst hkf
      have HFA:=hD (fun W=>QkQ hnum W)
      have HOI:Hid (okF n'=true->OkI (d+1) 0 (.mk 0 n' c' box)):=fun h=>QtZ h hnum
      clear hnum
      generalize okF n'=fb at HFA HOI
      cases g with
      | true =>
       have HJ:Hid (fb=true->∀ j (hj:j < items.length),j < i+1->OkI (d+1) 0 items[j]):=fun h=>HSTEP.out (HOI.out h) rfl
       clear HSTEP HOI
       go_wp2_with fail
       refine (HFA.out _).mono ?_
       rintro e w2 ⟨rfl,rfl⟩
       go_wp2
       go_roundw
       case rel=>exact ⟨i+1,fb,by omega,by go_num,rfl,HJ.out,HBA.out⟩
       case measure=>simp [intOf];omega
      | false =>
       have HJ:Hid (false=true->∀ j (hj:j < items.length),j < i+1->OkI (d+1) 0 items[j]):=fun h=>by cases h
       clear HSTEP HOI
       go_wp2
       go_roundw
       case rel=>exact ⟨i+1,false,by omega,by go_num,rfl,HJ.out,HBA.out⟩
       case measure=>simp [intOf];omega
     ·have hkf2:(k' != 0)=true:=by simpa using hkf
      clear HSTEP hnum hkf
      go_wp2
      go_ret
      exact ⟨HBAD.out,HBR.out⟩
    ·have him2:¬ (i:Int) < (M:Int):=by omega
     have HIE:Hid (i=items.length):=by unfold Hid;have:=HMI.out;omega
     cases g with
     | true =>
      have HF:Hid (ChkR (d+1) (.mk s items 0) (.returned (.int .i64 0))):=⟨0,rfl,fun _=>HFIN.out fun j hj=>hq.out rfl j hj (by have:=HIE.out;omega)⟩
      clear hq
      go_wp2
      go_ret
      exact ⟨HF.out,HBW.out⟩
     | false =>
      have HF:=hD (QaU (d:=d+1) (t := .mk s items 0) (y:=1) (by decide))
      clear hq
      go_wp2
      go_ret
      exact ⟨HF.out,HBW.out⟩
  ·have hne:((M:Int) != (m:Int))=true:=by simp;omega
   have HF:=hD (QaU (d:=d+1) (t := .mk s items 0) (y:=23) (by decide))
   clear hMm
   go_wp2
   go_ret
   exact ⟨HF.out,HB0.out⟩
 ·have hne:(y != 0)=true:=by simpa using hy0
  have HF:=hD (QaU (d:=d+1) (t := .mk s items 0) (y:=y) hy0)
  clear hy0 HY
  go_wp2
  go_ret
  exact ⟨HF.out,HB0.out⟩
theorem Qt3 (d:Nat) (hd:d<=40) (s:List Int) (items:List RI) (h x:Sl) (w:World) (hfit:Qev items) (hM:cntP (.mk s items 1)<=1048576) (hr:PV (fun _=>False) w (.mk s items 1) h x 1) :
  Calls Tryz.prog 52 #[plV h x 1,.int .i64 ((d+1:Nat):Int)] w fun e w'=>ChkR (d+1) (.mk s items 1) e/\Below w.heap.size w w':=by
 obtain ⟨hsr,_,hx,hit⟩:=hr.open_
 obtain ⟨A,m,cc⟩:=x
 dsimp only at hx hit
 have hsz:cntP (.mk s items 1)=items.length+s.length+1+QaH items:=by rw [cntP]
 rw [hsz] at hM
 have HK:=hD hit
 have HMI:=hD hx
 have hmb:m<=1048576:=by omega
 have HFT:Hid (∀ i (hi:i < items.length),FitI items[i]):=fun i hi=>QeI hi hfit
 have HCN:Hid (∀ i (hi:i < items.length),cntI items[i]<=1048576):=fun i hi=>by have:=QbF hi;omega
 have HPR:Hid (∀ W,Below w.heap.size w W->Calls Tryz.prog 99 #[sv h,.int .i64 1048576] W fun e w'=>(∃ n z:Int,e= .returned (.tuple #[.int .i64 n,.int .i64 z])/\(z=0->∃ (sn:List Nat) (m:Nat),s=sn.map Int.ofNat/\OkSh sn m/\n=(m:Int)))/\W=w'):=fun W hb=>Qff _ s W (hsr.step hb).now (by omega)
 have HX0:=hD (Qb7 w h (A,m,cc) 1 25)
 have HB0:=hD (bel1 w (.cells #[sv h,.slice A m cc,.int .i64 1] 25))
 have HB00:=hD (HPR.out _ HB0.out)
 obtain ⟨z,hz⟩:∃ z:Int,z=((d+1:Nat):Int):=⟨_,rfl⟩
 rw [<- hz]
 have hz0:(z==0)=false:=by simp;omega
 clear hz hx hsz hM hit hfit hsr hr HPR
 go_enter Tryz.func52,Tryz.ntmps52
 obtain ⟨c0,c1,c2⟩:=HX0.out
 dsimp only [sv] at c1
 go_wp2_with fail
 refine HB00.out.mono ?_
 rintro e w1 ⟨⟨n,y,rfl,hy⟩,rfl⟩
 have HY:=hD hy
 clear hy HB00
 by_cases hy0:y=0
 ·subst hy0
  obtain ⟨sn,M,hs,hok,rfl⟩:=HY.out rfl
  have HS:=hD hs
  have HOK:=hD hok
  clear hs hok HY
  by_cases hMm:M=m
  ·subst hMm
   have hne:((M:Int) != (M:Int))=false:=by simp
   have HFIN:Hid ((∀ j (hj:j < items.length),OkI (d+1) 1 items[j])->OkP (d+1) (.mk s items 1)):=fun hall=>by
    rw [OkP]
    exact ⟨by omega,by decide,⟨sn,HS.out,by have h1:=HOK.out;rw [HMI.out] at h1;exact h1⟩,Qfc items hall⟩
   clear HS HOK
   generalize hW:w.alloc (.cells #[sv h,.slice A M cc,.int .i64 1] 25)=W at *
   clear hW
   go_wp2
   go_loopw [7,8,9,10] (fun gv iv _ _ wr=>∃ (i:Nat) (g:Bool),i<=M/\iv= .int .i64 (i:Int)/\gv= .bool g/\Hid (g=true->∀ j (hj:j < items.length),j < i->OkI (d+1) 1 items[j])/\Below W.heap.size W wr) (fun _ iv _ _ _=>M - (intOf iv).toNat)
   case atStart=>exact ⟨0,true,Nat.zero_le _,rfl,rfl,fun _ j _ hj=>absurd hj (Nat.not_lt_zero _),Below.refl _ _⟩
   case round =>
    clear c0 c1 c2
    obtain ⟨i,g,hi,rfl,rfl,hq,hbl⟩:=hrel
    have HBL:=hD hbl
    have HBW:=hD (Qaa HB0.out hbl)
    obtain ⟨c0,c1,c2⟩:=HX0.out.of (w':=wr) fun j=>hbl.cell (p:=⟨w.heap.size,j,none⟩) HX0.out.lt
    dsimp only [sv] at c1
    clear hbl
    by_cases him:i < M
    ·have him2:(i:Int) < (M:Int):=by omega
     have hik:i < items.length:=by have:=HMI.out;omega
     obtain ⟨b,o,k',n',c',y,rfl,-,hiv,hat⟩:=HK.out i hik
     have HSTEP:Hid (OkI (d+1) 1 items[i]->g=true->∀ j (hj:j < items.length),j < i+1->OkI (d+1) 1 items[j]):=fun h1 h2 j hj hji=>by
      by_cases e:j=i
      ·subst e;exact h1
      ·exact hq.out h2 j hj (by omega)
     have HFI:=hD (HFT.out i hik)
     have HCI:=hD (HCN.out i hik)
     clear hq
     generalize items[i]=it at hiv HSTEP HFI HCI
     cases it with
     | mk kind num char box =>
     obtain ⟨rfl,rfl,rfl,hy,hbx⟩:=hiv.open_
     obtain ⟨d0,d1,d2,d3⟩:=hat wr (Lat.below HBW.out)
     dsimp only [sv] at d3
     have hnum:n' < 18446744073709551616:=by have:=HFI.out;rw [FitI] at this;exact this.1
     obtain ⟨yA,ym,yc⟩:=y
     dsimp only at hy hbx
     have HYL:=hD hy
     have HBX:=hD hbx
     have HN4:=hD (QiQ wr k' n' c' (yA,ym,yc) 63)
     have HBA:=hD (Qaa HBL.out (bel1 wr (.cells #[.int .i64 k',.float .f64 n',.int .i32 c',.slice yA ym yc] 63)))
     have HBR:=hD (Qaa HBW.out (bel1 wr (.cells #[.int .i64 k',.float .f64 n',.int .i32 c',.slice yA ym yc] 63)))
     have HZ0:=hD HX0.out.lt
     have HZ1:=hD HBL.out.size
     clear hy hbx hat hiv
     have b1:=fun o=>Qab c1 o
     have b2:=fun o=>Qab c2 o
     have hst:=fun md=>QaK wr k' 0 n' 0 (.slice none 0 0) 63 md
     have HBAD:=hD (QaU (d:=d+1) (t := .mk s items 1) (y:=1) (by decide))
     by_cases hkf:k'=1
     ·subst hkf
      have HJ:Hid (g=true->∀ j (hj:j < items.length),j < i+1->OkI (d+1) 1 items[j]):=HSTEP.out Qt0
      clear HSTEP hnum
      cases g with
      | true =>
       go_wp2
       go_roundw
       case rel=>exact ⟨i+1,true,by omega,by go_num,rfl,HJ.out,HBA.out⟩
       case measure=>simp [intOf];omega
      | false =>
       go_wp2
       go_roundw
       case rel=>exact ⟨i+1,false,by omega,by go_num,rfl,HJ.out,HBA.out⟩
       case measure=>simp [intOf];omega
     ·have hkf2:(k' != 1)=true:=by simpa using hkf
      clear HSTEP hnum hkf
      go_wp2
      go_ret
      exact ⟨HBAD.out,HBR.out⟩
    ·have him2:¬ (i:Int) < (M:Int):=by omega
     have HIE:Hid (i=items.length):=by unfold Hid;have:=HMI.out;omega
     cases g with
     | true =>
      have HF:Hid (ChkR (d+1) (.mk s items 1) (.returned (.int .i64 0))):=⟨0,rfl,fun _=>HFIN.out fun j hj=>hq.out rfl j hj (by have:=HIE.out;omega)⟩
      clear hq
      go_wp2
      go_ret
      exact ⟨HF.out,HBW.out⟩
     | false =>
      have HF:=hD (QaU (d:=d+1) (t := .mk s items 1) (y:=1) (by decide))
      clear hq
      go_wp2
      go_ret
      exact ⟨HF.out,HBW.out⟩
  ·have hne:((M:Int) != (m:Int))=true:=by simp;omega
   have HF:=hD (QaU (d:=d+1) (t := .mk s items 1) (y:=23) (by decide))
   clear hMm
   go_wp2
   go_ret
   exact ⟨HF.out,HB0.out⟩
 ·have hne:(y != 0)=true:=by simpa using hy0
  have HF:=hD (QaU (d:=d+1) (t := .mk s items 1) (y:=y) hy0)
  clear hy0 HY
  go_wp2
  go_ret
  exact ⟨HF.out,HB0.out⟩
theorem Qt4 (d:Nat) (hd:d<=40) (hIH:∀ (t:RP) (h x:Sl) (f:Int) (w:World),FitP t->cntP t<=1048576->PV (fun _=>False) w t h x f->Calls Tryz.prog 52 #[plV h x f,.int .i64 (d:Int)] w fun e w'=>ChkR d t e/\Below w.heap.size w w') (s:List Int) (items:List RI) (h x:Sl) (w:World) (hfit:Qev items) (hM:cntP (.mk s items 2)<=1048576) (hr:PV (fun _=>False) w (.mk s items 2) h x 2) :
  Calls Tryz.prog 52 #[plV h x 2,.int .i64 ((d+1:Nat):Int)] w fun e w'=>ChkR (d+1) (.mk s items 2) e/\Below w.heap.size w w':=by
 obtain ⟨hsr,_,hx,hit⟩:=hr.open_
 obtain ⟨A,m,cc⟩:=x
 dsimp only at hx hit
 have hsz:cntP (.mk s items 2)=items.length+s.length+1+QaH items:=by rw [cntP]
 rw [hsz] at hM
 have HK:=hD hit
 have HMI:=hD hx
 have hmb:m<=1048576:=by omega
 have HFT:Hid (∀ i (hi:i < items.length),FitI items[i]):=fun i hi=>QeI hi hfit
 have HCN:Hid (∀ i (hi:i < items.length),cntI items[i]<=1048576):=fun i hi=>by have:=QbF hi;omega
 have HPR:Hid (∀ W,Below w.heap.size w W->Calls Tryz.prog 99 #[sv h,.int .i64 1048576] W fun e w'=>(∃ n z:Int,e= .returned (.tuple #[.int .i64 n,.int .i64 z])/\(z=0->∃ (sn:List Nat) (m:Nat),s=sn.map Int.ofNat/\OkSh sn m/\n=(m:Int)))/\W=w'):=fun W hb=>Qff _ s W (hsr.step hb).now (by omega)
 have HX0:=hD (Qb7 w h (A,m,cc) 2 25)
 have HB0:=hD (bel1 w (.cells #[sv h,.slice A m cc,.int .i64 2] 25))
 have HB00:=hD (HPR.out _ HB0.out)
 obtain ⟨z,hz⟩:∃ z:Int,z=((d+1:Nat):Int):=⟨_,rfl⟩
 rw [<- hz]
 have hz0:(z==0)=false:=by simp;omega
 have hz1:z - 1=(d:Int):=by omega
 have hz2:IntKind.i64.wrap (d:Int)=(d:Int):=IntWalk.i64_in _ (by omega)
 have HIH:=hD hIH
 clear hIH
 clear hz hx hsz hM hit hfit hsr hr HPR
 go_enter Tryz.func52,Tryz.ntmps52
 obtain ⟨c0,c1,c2⟩:=HX0.out
 dsimp only [sv] at c1
 go_wp2_with fail
 refine HB00.out.mono ?_
 rintro e w1 ⟨⟨n,y,rfl,hy⟩,rfl⟩
 have HY:=hD hy
 clear hy HB00
 by_cases hy0:y=0
 ·subst hy0
  obtain ⟨sn,M,hs,hok,rfl⟩:=HY.out rfl
  have HS:=hD hs
  have HOK:=hD hok
  clear hs hok HY
  by_cases hMm:M=m
  ·subst hMm
   have hne:((M:Int) != (M:Int))=false:=by simp
   have HFIN:Hid ((∀ j (hj:j < items.length),OkI (d+1) 2 items[j])->OkP (d+1) (.mk s items 2)):=fun hall=>by
    rw [OkP]
    exact ⟨by omega,by decide,⟨sn,HS.out,by have h1:=HOK.out;rw [HMI.out] at h1;exact h1⟩,Qfc items hall⟩
   clear HS HOK
   generalize hW:w.alloc (.cells #[sv h,.slice A M cc,.int .i64 2] 25)=W at *
   clear hW
   go_wp2
   go_loopw [7,8,9,10] (fun gv iv _ _ wr=>∃ (i:Nat) (g:Bool),i<=M/\iv= .int .i64 (i:Int)/\gv= .bool g/\Hid (g=true->∀ j (hj:j < items.length),j < i->OkI (d+1) 2 items[j])/\Below W.heap.size W wr) (fun _ iv _ _ _=>M - (intOf iv).toNat)
   case atStart=>exact ⟨0,true,Nat.zero_le _,rfl,rfl,fun _ j _ hj=>absurd hj (Nat.not_lt_zero _),Below.refl _ _⟩
   case round =>
    clear c0 c1 c2
    obtain ⟨i,g,hi,rfl,rfl,hq,hbl⟩:=hrel
    have HBL:=hD hbl
    have HBW:=hD (Qaa HB0.out hbl)
    obtain ⟨c0,c1,c2⟩:=HX0.out.of (w':=wr) fun j=>hbl.cell (p:=⟨w.heap.size,j,none⟩) HX0.out.lt
    dsimp only [sv] at c1
    clear hbl
    by_cases him:i < M
    ·have him2:(i:Int) < (M:Int):=by omega
     have hik:i < items.length:=by have:=HMI.out;omega
     obtain ⟨b,o,k',n',c',y,rfl,-,hiv,hat⟩:=HK.out i hik
     have HSTEP:Hid (OkI (d+1) 2 items[i]->g=true->∀ j (hj:j < items.length),j < i+1->OkI (d+1) 2 items[j]):=fun h1 h2 j hj hji=>by
      by_cases e:j=i
      ·subst e;exact h1
      ·exact hq.out h2 j hj (by omega)
     have HFI:=hD (HFT.out i hik)
     have HCI:=hD (HCN.out i hik)
     clear hq
     generalize items[i]=it at hiv HSTEP HFI HCI
     cases it with
     | mk kind num char box =>
     obtain ⟨rfl,rfl,rfl,hy,hbx⟩:=hiv.open_
     obtain ⟨d0,d1,d2,d3⟩:=hat wr (Lat.below HBW.out)
     dsimp only [sv] at d3
     have hnum:n' < 18446744073709551616:=by have:=HFI.out;rw [FitI] at this;exact this.1
     obtain ⟨yA,ym,yc⟩:=y
     dsimp only at hy hbx
     have HYL:=hD hy
     have HBX:=hD hbx
     have HN4:=hD (QiQ wr k' n' c' (yA,ym,yc) 63)
     have HBA:=hD (Qaa HBL.out (bel1 wr (.cells #[.int .i64 k',.float .f64 n',.int .i32 c',.slice yA ym yc] 63)))
     have HBR:=hD (Qaa HBW.out (bel1 wr (.cells #[.int .i64 k',.float .f64 n',.int .i32 c',.slice yA ym yc] 63)))
     have HZ0:=hD HX0.out.lt
     have HZ1:=hD HBL.out.size
     clear hy hbx hat hiv
     have b1:=fun o=>Qab c1 o
     have b2:=fun o=>Qab c2 o
     have hst:=fun md=>QaK wr k' 0 n' 0 (.slice none 0 0) 63 md
     have HBAD:=hD (QaU (d:=d+1) (t := .mk s items 2) (y:=1) (by decide))
     by_cases hkf:k'=2
     ·subst hkf
      by_cases hym:ym=1
      ·subst hym
       have hb0:0 < box.length:=by have:=HYL.out;omega
       obtain ⟨bb,o2,h',y',f',rfl,-,hpv,hat3⟩:=HBX.out 0 hb0
       obtain ⟨e0,e1,e2⟩:=hat3 _ (Lat.below HBR.out)
       simp only [Nat.zero_mul,Nat.add_zero] at e0 e1 e2
       have HIC:=hD (HIH.out box[0] h' y' f' _ (by have:=HFI.out;rw [FitI] at this;exact QjR hb0 this.2) (by have:=HCI.out;rw [cntI] at this;have:=Qcw hb0;omega) (hpv.step HBR.out))
       have HOI:Hid (OkP d box[0]->g=true->∀ j (hj:j < items.length),j < i+1->OkI (d+1) 2 items[j]):=fun h=>HSTEP.out (Qt1 HYL.out.symm (Qpf HYL.out.symm fun _=>h))
       clear hpv hat3 HSTEP hnum
       generalize box[0]=zt at *
       go_wp2_with fail
       refine HIC.out.mono ?_
       rintro e w2 ⟨⟨y2,rfl,hy2⟩,hb⟩
       have HY2:=hD hy2
       have HB2:=hD (Qaa HBA.out hb)
       have HB2W:=hD (Qaa HBR.out hb)
       obtain ⟨a0,a1,a2,a3⟩:=HN4.out.of (w':=w2) fun j=>hb.cell (p:=⟨wr.heap.size,j,none⟩) HN4.out.lt
       dsimp only [sv] at a3
       clear hb hy2
       by_cases hy20:y2=0
       ·subst hy20
        have HJ:Hid (g=true->∀ j (hj:j < items.length),j < i+1->OkI (d+1) 2 items[j]):=HOI.out (HY2.out rfl)
        clear HOI HY2
        cases g with
        | true =>
         have HJ2:Hid (true=true->∀ j (hj:j < items.length),j < i+1->OkI (d+1) 2 items[j]):=fun _=>HJ.out (by trivial)
         clear HJ
         go_wp2
         go_roundw
         case rel=>exact ⟨i+1,true,by omega,by go_num,rfl,(show Hid _ from fun _=>HJ2.out (by trivial)),HB2.out⟩
         case measure=>simp [intOf];omega
        | false =>
         go_wp2
         go_roundw
         case rel=>exact ⟨i+1,false,by omega,by go_num,rfl,HJ.out,HB2.out⟩
         case measure=>simp [intOf];omega
       ·have hne2:(y2 != 0)=true:=by simpa using hy20
        have HBD:=hD (QaU (d:=d+1) (t := .mk s items 2) (y:=y2) hy20)
        clear HOI HY2 hy20
        go_wp2
        go_ret
        exact ⟨HBD.out,HB2W.out⟩
      ·have hne2:((ym:Int) != 1)=true:=by simp;omega
       clear HSTEP hnum hym
       go_wp2
       go_ret
       exact ⟨HBAD.out,HBR.out⟩
     ·have hkf2:(k' != 2)=true:=by simpa using hkf
      clear HSTEP hnum hkf
      go_wp2
      go_ret
      exact ⟨HBAD.out,HBR.out⟩
    ·have him2:¬ (i:Int) < (M:Int):=by omega
     have HIE:Hid (i=items.length):=by unfold Hid;have:=HMI.out;omega
     cases g with
     | true =>
      have HF:Hid (ChkR (d+1) (.mk s items 2) (.returned (.int .i64 0))):=⟨0,rfl,fun _=>HFIN.out fun j hj=>hq.out rfl j hj (by have:=HIE.out;omega)⟩
      clear hq
      go_wp2
      go_ret
      exact ⟨HF.out,HBW.out⟩
     | false =>
      have HF:=hD (QaU (d:=d+1) (t := .mk s items 2) (y:=1) (by decide))
      clear hq
      go_wp2
      go_ret
      exact ⟨HF.out,HBW.out⟩
  ·have hne:((M:Int) != (m:Int))=true:=by simp;omega
   have HF:=hD (QaU (d:=d+1) (t := .mk s items 2) (y:=23) (by decide))
   clear hMm
   go_wp2
   go_ret
   exact ⟨HF.out,HB0.out⟩
 ·have hne:(y != 0)=true:=by simpa using hy0
  have HF:=hD (QaU (d:=d+1) (t := .mk s items 2) (y:=y) hy0)
  clear hy0 HY
  go_wp2
  go_ret
  exact ⟨HF.out,HB0.out⟩
theorem QjU:∀ (d:Nat) (t:RP) (h x:Sl) (f:Int) (w:World),d<=40->FitP t->cntP t<=1048576->PV (fun _=>False) w t h x f ->
  Calls Tryz.prog 52 #[plV h x f,.int .i64 (d:Int)] w fun e w'=>ChkR d t e/\Below w.heap.size w w'
 | 0,t,h,x,f,w,_,_,_,_=>Qpd t h x f w
 | d+1,.mk s items fill,h,x,f,w,hd,hfit,hM,hr=>by
  obtain ⟨_,rfl,_,_⟩:=hr.open_
  rw [FitP] at hfit
  by_cases hf:f=0\/f=1\/f=2
  ·rcases hf with rfl | rfl | rfl
   ·exact Qt2 d (by omega) s items h x w hfit hM hr
   ·exact Qt3 d (by omega) s items h x w hfit hM hr
   ·exact Qt4 d (by omega) (fun t h x f w h1 h2 h3=>QjU d t h x f w (by omega) h1 h2 h3) s items h x w hfit hM hr
  ·exact Qpe (d+1) _ h x f _ (by omega) hf w
theorem Qmy (t:RP) (h x:Sl) (f:Int) (w:World) (hfit:FitP t) (hM:cntP t<=1048576) (hr:PV (fun _=>False) w t h x f) :
  Calls Tryz.prog 17 #[plV h x f] w fun e w'=>ChkR 40 t e/\Below w.heap.size w w':=by
 have HB0:=hD (bel1 w (.cells #[sv h,sv x,.int .i64 f] 25))
 have HC:=hD (QjU 40 t h x f _ (Nat.le_refl _) hfit hM (hr.step HB0.out))
 clear hfit hM hr
 go_enter Tryz.func17,Tryz.ntmps17
 go_wp2_with fail
 refine HC.out.mono ?_
 rintro e w1 ⟨⟨y,rfl,hy⟩,hb⟩
 have HR:Hid (ChkR 40 t (.returned (.int .i64 y))):=⟨y,rfl,hy⟩
 have HB:=hD (Qaa HB0.out hb)
 clear hy hb
 go_wp2
 go_ret
 exact ⟨HR.out,HB.out⟩
abbrev arrO (h:Sl) (p:V8):Obj := .cells #[sv h,.int .i64 p.k,sv p.b,.int .i64 p.bn,sv p.s,sv p.i,sv p.f,sv p.c,sv p.x] 41
abbrev QbN:Obj:=arrO nilS zeroP
theorem QjV {W:World}{G:Nat}{e:TypeId}{h:Sl}{p:V8} (hg:W.heap[G]?=some (.cells #[sv h,.int .i64 p.k,sv p.b,.int .i64 p.bn,sv p.s,sv p.i,sv p.f,sv p.c,sv p.x] e)):At9 W G 0 h p/\∀ j,W.frozen? ⟨G,j,none⟩=false:=by
 have hc:∀ j u,#[sv h,.int .i64 p.k,sv p.b,.int .i64 p.bn,sv p.s,sv p.i,sv p.f,sv p.c,sv p.x][j]?=some u->W.cell? ⟨G,j,none⟩=some u:=by
  intro j u hu
  rw [cell_of_row _ G j _ e (0,0) hg]
  exact hu
 exact ⟨⟨hc 0 _ rfl,hc 1 _ rfl,hc 2 _ rfl,hc 3 _ rfl,hc 4 _ rfl,hc 5 _ rfl,hc 6 _ rfl,hc 7 _ rfl,hc 8 _ rfl⟩,fun j=>frozen_of_row _ _ j _ e hg⟩
theorem QaV (w:World) (h:Sl) (p:V8):At9 (w.alloc (arrO h p)) w.heap.size 0 h p:=(QjV (heap_alloc_new w _)).1
theorem At9.set {w:World}{G o:Nat}{h:Sl}{p:V8} (g:At9 w G o h p){a:Addr} (ha:a.block≠G) (u:Value):At9 (w.setCell a u) G o h p :=
 g.of fun _=>World.cell?_of_block (w:=w) (Below.heap_setCell w a u G (fun e=>ha e.symm))
abbrev set9 (w:World) (G:Nat) (a0 a1 a2 a3 a4 a5 a6 a7 a8:Value):World:=(set8 w G a0 a1 a2 a3 a4 a5 a6 a7).setCell ⟨G,8,none⟩ a8
theorem Qal {B:Nat}{w0 w:World} (h:Below B w0 w){G:Nat} (hG:B<=G) (a0 a1 a2 a3 a4 a5 a6 a7 a8:Value):Below B w0 (set9 w G a0 a1 a2 a3 a4 a5 a6 a7 a8):=(Qac h hG _ _ _ _ _ _ _ _).setCell hG _
theorem Qat {w:World}{G:Nat}{e:TypeId}{z0 z1 z2 z3 z4 z5 z6 z7 z8:Value} (h:w.heap[G]?=some (.cells #[z0,z1,z2,z3,z4,z5,z6,z7,z8] e)) (a0 a1 a2 a3 a4 a5 a6 a7 a8:Value) :
  (set9 w G a0 a1 a2 a3 a4 a5 a6 a7 a8).heap[G]?=some (.cells #[a0,a1,a2,a3,a4,a5,a6,a7,a8] e):=by
 have h0:=heap_setCell_same _ G 0 _ e a0 h
 rw [show (#[z0,z1,z2,z3,z4,z5,z6,z7,z8]:Array Value).setIfInBounds 0 a0=#[a0,z1,z2,z3,z4,z5,z6,z7,z8] by simp] at h0
 have h1:=heap_setCell_same _ G 1 _ e a1 h0
 rw [show (#[a0,z1,z2,z3,z4,z5,z6,z7,z8]:Array Value).setIfInBounds 1 a1=#[a0,a1,z2,z3,z4,z5,z6,z7,z8] by simp] at h1
 have h2:=heap_setCell_same _ G 2 _ e a2 h1
 rw [show (#[a0,a1,z2,z3,z4,z5,z6,z7,z8]:Array Value).setIfInBounds 2 a2=#[a0,a1,a2,z3,z4,z5,z6,z7,z8] by simp] at h2
 have h3:=heap_setCell_same _ G 3 _ e a3 h2
 rw [show (#[a0,a1,a2,z3,z4,z5,z6,z7,z8]:Array Value).setIfInBounds 3 a3=#[a0,a1,a2,a3,z4,z5,z6,z7,z8] by simp] at h3
 have h4:=heap_setCell_same _ G 4 _ e a4 h3
 rw [show (#[a0,a1,a2,a3,z4,z5,z6,z7,z8]:Array Value).setIfInBounds 4 a4=#[a0,a1,a2,a3,a4,z5,z6,z7,z8] by simp] at h4
 have h5:=heap_setCell_same _ G 5 _ e a5 h4
 rw [show (#[a0,a1,a2,a3,a4,z5,z6,z7,z8]:Array Value).setIfInBounds 5 a5=#[a0,a1,a2,a3,a4,a5,z6,z7,z8] by simp] at h5
 have h6:=heap_setCell_same _ G 6 _ e a6 h5
 rw [show (#[a0,a1,a2,a3,a4,a5,z6,z7,z8]:Array Value).setIfInBounds 6 a6=#[a0,a1,a2,a3,a4,a5,a6,z7,z8] by simp] at h6
 have h7:=heap_setCell_same _ G 7 _ e a7 h6
 rw [show (#[a0,a1,a2,a3,a4,a5,a6,z7,z8]:Array Value).setIfInBounds 7 a7=#[a0,a1,a2,a3,a4,a5,a6,a7,z8] by simp] at h7
 have h8:=heap_setCell_same _ G 8 _ e a8 h7
 rw [show (#[a0,a1,a2,a3,a4,a5,a6,a7,z8]:Array Value).setIfInBounds 8 a8=#[a0,a1,a2,a3,a4,a5,a6,a7,a8] by simp] at h8
 exact h8
theorem QjW:(Tryz.prog.info? 41).map (·.size)=some 9:=by kernel_rfl
theorem Qfg {fn:Func}{p:Tmp} (h:fn.results=#[.cell p 41]) (tmps:Array Value) (w:World) (G:Nat){e:TypeId}{a0 a1 a2 a3 a4 a5 a6 a7 a8:Value}
  (hp:tmps.getD p undef= .pointer (some ⟨G,0,none⟩)) (hg:w.heap[G]?=some (.cells #[a0,a1,a2,a3,a4,a5,a6,a7,a8] e)) :
  (results fn tmps).run Tryz.prog w= .ok (.agg #[a0,a1,a2,a3,a4,a5,a6,a7,a8]) w :=
 results_cell_row h tmps w G e _ (0,0) _ hp hg Tryz.underlying41 rfl QjW
theorem QaQ {fn:Func}{p u:Tmp} (h:fn.results=#[.cell p 41,.tmp u]) (tmps:Array Value) (w:World) (G:Nat){e:TypeId}{a0 a1 a2 a3 a4 a5 a6 a7 a8:Value}
  (hp:tmps.getD p undef= .pointer (some ⟨G,0,none⟩)) (hg:w.heap[G]?=some (.cells #[a0,a1,a2,a3,a4,a5,a6,a7,a8] e)) :
  (results fn tmps).run Tryz.prog w= .ok (.tuple #[.agg #[a0,a1,a2,a3,a4,a5,a6,a7,a8],tmps.getD u undef]) w:=by
 rw [results_cell_tmp h,hp]
 have:=run_loadVar_row (P:=Tryz.prog) w G e 41 _ (0,0) _ hg Tryz.underlying41 rfl QjW
 simp [asAddr,Result.andThen,this]
end Go.Proofs.YtdelgpelkfndeaaGreatDoor
namespace Go.Proofs.YtdelgpelkfndeaaGreatDoor
open Go Go.RowKit Go.Proofs Fl Go.Shelf Go.Lib
def ASl (H:Nat->Prop) (w:World) (x:Sl) (l:List PA):Prop:=x.2.1=l.length/\((l=[]/\True)\/∃ b o,x.1=some ⟨b,o,none⟩/\¬ H b/\AVs H w b o l)
theorem AV.asl {H:Nat->Prop}{w:World}{s:List Nat}{l:List PA}{h:Sl}{p:V8} (g:AV H w (.boxes s l) h p):∃ x,p=QdB x/\ASl H w x l:=by
 rw [AV] at g
 obtain ⟨_,x,rfl,h1,h2⟩:=g
 exact ⟨x,rfl,h1,h2⟩
theorem ASl.av {H:Nat->Prop}{w:World}{s:List Nat}{l:List PA}{h x:Sl} (g:ASl H w x l) (hs:ShV H w h s):AV H w (.boxes s l) h (QdB x):=by
 rw [AV]
 exact ⟨hs,x,rfl,g.1,g.2⟩
theorem ASl.lat {H:Nat->Prop}{w w':World}{x:Sl}{l:List PA} (k:Lat H w w') (g:ASl H w x l):ASl H w' x l:=by
 refine ⟨g.1,?_⟩
 rcases g.2 with g4 | ⟨b,o,g5,hn,g6⟩
 ·exact .inl g4
 ·exact .inr ⟨b,o,g5,hn,AVs.lat k hn g6⟩
theorem ASl.step {H:Nat->Prop}{w w':World}{x:Sl}{l:List PA} (g:ASl H w x l) (hb:Below w.heap.size w w'):ASl H w' x l:=g.lat (Lat.below hb)
theorem ASl.nil (H:Nat->Prop) (w:World) (a:Option Addr) (c:Nat):ASl H w (a,0,c) []:=⟨rfl,.inl ⟨rfl,trivial⟩⟩
theorem ASl.at_ {H:Nat->Prop}{w:World}{x:Sl}{l:List PA} (g:ASl H w x l):∀ i (hi:i < l.length),∃ b o h p,x.1=some ⟨b,o,none⟩/\¬ H b/\AV H w l[i] h p/\∀ w1,Lat H w w1->At9 w1 b (o+i*9) h p:=by
 intro i hi
 rcases g.2 with ⟨rfl,_⟩ | ⟨b,o,g5,hb,g6⟩
 ·simp at hi
 ·obtain ⟨h,p,g7,g8⟩:=AVs.at_ hi g6
  exact ⟨b,o,h,p,g5,hb,g8,fun w1 k=>g7.lat hb k⟩
def Qdg (n:Nat) (hh:Nat->Sl) (pp:Nat->V8):List Value:=(List.range n).flatMap fun i=>arrL (hh i) (pp i)
theorem Qd5 (n:Nat) (hh:Nat->Sl) (pp:Nat->V8):Qdg (n+1) hh pp=Qdg n hh pp++arrL (hh n) (pp n):=by
 unfold Qdg
 rw [List.range_succ,List.flatMap_append]
 simp
theorem QcL (n:Nat) (hh:Nat->Sl) (pp:Nat->V8):(Qdg n hh pp).length=n*9:=by
 induction n with
 | zero=>rfl
 | succ n ih=>rw [Qd5,List.length_append,ih];simp;omega
theorem QhI (n:Nat) (hh:Nat->Sl) (pp:Nat->V8) (i j:Nat) (hi:i < n) (hj:j < 9):(Qdg n hh pp)[i*9+j]?=(arrL (hh i) (pp i))[j]?:=by
 induction n with
 | zero=>omega
 | succ n ih =>
  rw [Qd5]
  by_cases h:i < n
  ·rw [List.getElem?_append_left (by rw [QcL];omega)]
   exact ih h
  ·obtain rfl:i=n:=by omega
   rw [List.getElem?_append_right (by rw [QcL];omega),QcL]
   congr 1
   omega
theorem Qmz (n:Nat) (hh:Nat->Sl) (pp:Nat->V8):∀ u∈Qdg n hh pp,u.oneCell'=true:=by
 intro u hu
 obtain ⟨i,_,h⟩:=List.mem_flatMap.1 hu
 simp only [List.mem_cons,List.not_mem_nil,or_false] at h
 rcases h with rfl | rfl | rfl | rfl | rfl | rfl | rfl | rfl | rfl <;> rfl
theorem QiR (n:Nat){hh hh':Nat->Sl}{pp pp':Nat->V8} (h:∀ i,i < n->hh i=hh' i/\pp i=pp' i):Qdg n hh pp=Qdg n hh' pp':=by
 unfold Qdg
 induction n with
 | zero=>rfl
 | succ n ih =>
  rw [List.range_succ,List.flatMap_append,List.flatMap_append,ih fun i hi=>h i (by omega)]
  have:=h n (by omega)
  simp [this.1,this.2]
theorem Qpg {w:World}{b o n:Nat}{hh:Nat->Sl}{pp:Nat->V8} (h:∀ j u,(Qdg n hh pp)[j]?=some u->w.cell? ⟨b,o+j,none⟩=some u) (i:Nat) (hi:i < n):At9 w b (o+i*9) (hh i) (pp i):=by
 have k:∀ j u,j < 9->(arrL (hh i) (pp i))[j]?=some u->w.cell? ⟨b,o+i*9+j,none⟩=some u:=fun j u hj hu=>by
  rw [Nat.add_assoc]
  exact h _ _ (by rw [QhI n hh pp i j hi hj];exact hu)
 exact ⟨k 0 _ (by decide) rfl,k 1 _ (by decide) rfl,k 2 _ (by decide) rfl,k 3 _ (by decide) rfl,k 4 _ (by decide) rfl,k 5 _ (by decide) rfl,k 6 _ (by decide) rfl,k 7 _ (by decide) rfl,k 8 _ (by decide) rfl⟩
theorem Qph {w:World}{b o n:Nat}{hh:Nat->Sl}{pp:Nat->V8} (h:∀ i,i < n->At9 w b (o+i*9) (hh i) (pp i)):∀ j u,(Qdg n hh pp)[j]?=some u->w.cell? ⟨b,o+j,none⟩=some u:=by
 intro j u hu
 have hj:j < n*9:=by
  have:=(List.getElem?_eq_some_iff.1 hu).1
  rw [QcL] at this;exact this
 have e:j=j / 9*9+j % 9:=by omega
 have hi:j / 9 < n:=by omega
 have hm:j % 9 < 9:=Nat.mod_lt _ (by decide)
 rw [e,QhI n hh pp _ _ hi hm] at hu
 obtain ⟨c0,c1,c2,c3,c4,c5,c6,c7,c8⟩:=h _ hi
 rw [e,<- Nat.add_assoc]
 generalize j % 9=m at *
 generalize o+j / 9*9=q at *
 have hm9:m=0\/m=1\/m=2\/m=3\/m=4\/m=5\/m=6\/m=7\/m=8:=by omega
 rcases hm9 with rfl | rfl | rfl | rfl | rfl | rfl | rfl | rfl | rfl <;> (simp only [List.getElem?_cons_zero,List.getElem?_cons_succ,Option.some.injEq] at hu;subst hu;assumption)
def AOwn (H:Nat->Prop) (w:World) (B:Nat) (v:Value) (l:List PA):Prop :=
 ∃ (hh:Nat->Sl) (pp:Nat->V8),w.ownsRow B 41 9 v l.length (Qdg l.length hh pp)/\∀ i (hi:i < l.length),AV (fun b=>H b\/v.ownBlock=some b) w l[i] (hh i) (pp i)
theorem Qba (g j:Nat):(⟨g,0,none⟩:Addr).add j=⟨g,0+j,none⟩:=by
 unfold Addr.add
 split
 ·rename_i h;subst h;rfl
 ·rfl
theorem AOwn.asl {H:Nat->Prop}{w:World}{B:Nat}{v:Value}{l:List PA} (h:AOwn H w B v l) (hH:∀ b,H b->b < B):∃ x:Sl,v=sv x/\ASl H w x l:=by
 obtain ⟨hh,pp,hown,ha⟩:=h
 have hcell:=fun {g:Nat} (hg:v.ownBlock=some g)=>World.ownsRow.cells hown hg
 rcases hown.2 with ⟨rfl,h0⟩ | ⟨g,cap,cur,rfl,hbg,_⟩
 ·have:l=[]:=List.eq_nil_of_length_eq_zero h0
  subst this
  exact ⟨(none,0,0),rfl,ASl.nil _ _ _ _⟩
 ·refine ⟨(some ⟨g,0,none⟩,l.length,cap),rfl,rfl,.inr ⟨g,0,rfl,fun e=>by have:=hH g e;omega,Qql _ _ fun i hi=>⟨hh i,pp i,?_,AV.sub (fun _ _ e => .inl e) (ha i hi)⟩⟩⟩
  refine Qpg (fun j u hu=>?_) i hi
  have:=hcell (g:=g) rfl j u hu
  rw [Qba] at this
  exact this
theorem QgS:(Tryz.prog.info? 41).map (fun i=>(i.zero,i.size,i.bytes))=some (some (.agg #[.slice none 0 0,.int .i64 0,.slice none 0 0,.int .i64 0,.slice none 0 0,.slice none 0 0,.slice none 0 0,.slice none 0 0,.slice none 0 0]),9,184):=by kernel_rfl
section
variable {P:Program} {ρ:Ren}
theorem QiS (L:SlLaysE0.n41 P ρ) (i0:TypeInfo) (z:Value) (size bytes:Nat) (hi:P.info? (ρ.t 23)=some i0) (hz0:i0.zero=some z) (hz1:i0.size=size) (hz2:i0.bytes=bytes) (hzs:z.cells.size=size) (hsz:0 < size)
  (z23:∀ w,(Go.sizeOf (ρ.t 23)).run P w= .ok size w) (x:Addr) (c:Nat) (w:World) :
  Calls P (ρ.f 41) #[.slice (some x) 0 c] w fun e w'=>∃ v',e= .returned v'/\w'.ownsRow w.heap.size (ρ.t 23) size v' 0 []/\Below w.heap.size w w':=by
 have mixed:=L.mixed;have t4:=L.t4;have a4:=L.a4;have z4:=L.z4;have v4:=L.v4;have t22:=L.t22;have a22:=L.a22;have z22:=L.z22;have v22:=L.v22
 have q22:∀ (w:World) (a:Option Addr) (n c n' c':Nat),(binOp .eql (ρ.t 22) (.slice a n c) (.slice none n' c')).run P w= .ok (.bool a.isNone) w:=fun w a n c n' c'=>Lib.run_eql_slice_nil w _ _ a n c n' c' L.t22
 have u22:∀ w,Sem.run P (underlying (ρ.t 22)) w= .ok (TypeDesc.slice (ρ.t 23)) w:=run_underlying t22
 obtain ⟨_,_,FG⟩:=L.f41
 obtain ⟨n,hn⟩:∃ n:Nat,n=0:=⟨0,rfl⟩
 rw [<- hn]
 have HN:=hD hn
 clear hn
 go_enter FG,SlBodyN.n41_ntmps ρ
 go_wp2_with (at_builtin;refine wpList_append_own _ rfl _ _ (ρ.t 22) rfl w.heap.size (ρ.t 23) i0 z size bytes t22 hi hz0 hz1 hz2 hzs hsz _ _ _ rfl (World.ownsRow_made w #[] 0 (Nat.le_refl _) (Nat.zero_le _) (by simp)) x n c [] rfl ?qc1 ?qc2 ?qc3 ?qc4 ?qc5 ?qc6 ?_)
 case qc1=>rw [HN.out];simp
 case qc2 =>
  intro j u hj
  simp at hj
 case qc3=>intro u hu;cases hu
 case qc4=>rw [Nat.zero_add,HN.out];exact Nat.zero_le _
 case qc5=>rw [Nat.zero_add,HN.out,Nat.zero_mul];exact Nat.zero_le _
 case qc6=>simp
 intro v' w1 hown hgrow hnil
 go_wp2
 go_ret
 refine ⟨v',rfl,hown,?_⟩
 exact ((Below.refl _ w).alloc (Nat.le_refl _) _).grown hgrow (by simp) (by intro k hk;simp [Value.ownBlock] at hk;omega)
end
theorem QiT (x:Addr) (c:Nat) (w:World) :
  Calls Tryz.prog 178 #[.slice (some x) 0 c] w fun e w'=>∃ v',e= .returned v'/\w'.ownsRow w.heap.size 41 9 v' 0 []/\Below w.heap.size w w':=by
 obtain ⟨i0,hi,hz0,hz1,hz2⟩:=info_parts QgS
 exact QiS Qgx i0 _ 9 184 hi hz0 hz1 hz2 rfl (by decide) Tryz.sizeOf41 x c w
theorem QmA {H:Nat->Prop}{w:World}{x:Sl}{l:List PA} (g:ASl H w x l) (hl:l.length<=1048576) (hH:∀ b,H b->b < w.heap.size) :
  Calls Tryz.prog 178 #[sv x] w fun e w'=>∃ v',e= .returned v'/\AOwn H w' w.heap.size v' l/\Below w.heap.size w w':=by
 obtain ⟨A,n,c⟩:=x
 obtain ⟨rfl,g2⟩:=g
 rcases g2 with ⟨rfl,_⟩ | ⟨b,o,g5,hn,g6⟩
 ·cases A with
  | none =>
   refine (AnyE.slices_Clone_nil Qgx 0 c w).mono ?_
   rintro e w' ⟨rfl,rfl⟩
   exact ⟨_,rfl,⟨fun _=>nilS,fun _=>zeroP,World.ownsRow_nil _ _ _ _,fun i hi=>by simp at hi⟩,Below.refl _ _⟩
  | some A =>
   refine (QiT A c w).mono ?_
   rintro e w' ⟨v',rfl,ho,hb⟩
   exact ⟨v',rfl,⟨fun _=>nilS,fun _=>zeroP,ho,fun i hi=>by simp at hi⟩,hb⟩
 ·have hA:A=some ⟨b,o,none⟩:=g5
  subst hA
  obtain ⟨i0,hi,hz0,hz1,hz2⟩:=info_parts QgS
  have hex:∀ i,∃ hp:Sl×V8,∀ hi:i < l.length,At9 w b (o+i*9) hp.1 hp.2/\AV H w l[i] hp.1 hp.2:=fun i=>by
   by_cases hi:i < l.length
   ·obtain ⟨h,p,h1,h2⟩:=AVs.at_ hi g6
    exact ⟨(h,p),fun _=>⟨h1,h2⟩⟩
   ·exact ⟨(nilS,zeroP),fun h=>absurd h hi⟩
  obtain ⟨hp,hhp⟩:=Classical.axiomOfChoice hex
  refine (AnyE.slices_Clone Qgx i0 _ 9 184 hi hz0 hz1 hz2 rfl (by decide) Tryz.sizeOf41 b o l.length c (Qdg l.length (fun i=>(hp i).1) (fun i=>(hp i).2)) w (QcL _ _ _) (by unfold maxLen;omega) (by omega)
   (Qph fun i hi=>(hhp i hi).1) (Qmz _ _ _)).mono ?_
  rintro e w' ⟨v',rfl,ho,_,hb⟩
  exact ⟨v',rfl,⟨_,_,ho,fun i hi=>(AV.sub (fun b hl e=>by
   rcases e with e | e
   ·exact e
   ·have:=(World.ownsRow.lt ho b e).1;omega) (hhp i hi).2).step hb⟩,hb⟩
theorem AOwn.nil (H:Nat->Prop) (w:World) (B:Nat):AOwn H w B (.slice none 0 0) []:=⟨fun _=>nilS,fun _=>zeroP,World.ownsRow_nil w B _ _,fun i hi=>by simp at hi⟩
theorem AOwn.below {H:Nat->Prop}{w w':World}{B:Nat}{v:Value}{l:List PA} (h:AOwn H w B v l) (hb:Below w.heap.size w w'):AOwn H w' B v l:=by
 obtain ⟨hh,pp,hown,ha⟩:=h
 refine ⟨hh,pp,⟨hown.1,?_⟩,fun i hi=>(ha i hi).step hb⟩
 rcases hown.2 with h2 | ⟨g,cap,cur,hv,hbg,hg,r⟩
 ·exact .inl h2
 ·refine .inr ⟨g,cap,cur,hv,hbg,?_,r⟩
  have hlt:g < w.heap.size:=by
   rcases Nat.lt_or_ge g w.heap.size with hlt | hge
   ·exact hlt
   ·rw [Array.getElem?_eq_none hge] at hg;cases hg
  rw [hb.block g hlt];exact hg
theorem AOwn.len {H:Nat->Prop}{w:World}{B:Nat}{v:Value}{l:List PA} (h:AOwn H w B v l):∃ a c,v= .slice a l.length c:=by
 obtain ⟨hh,pp,hown,ha⟩:=h
 rcases hown.2 with ⟨rfl,h0⟩ | ⟨g,cap,cur,rfl,_⟩
 ·exact ⟨none,0,by rw [h0]⟩
 ·exact ⟨_,_,rfl⟩
theorem AOwn.own_lt {H:Nat->Prop}{w:World}{B:Nat}{v:Value}{l:List PA} (h:AOwn H w B v l){b:Nat} (e:v.ownBlock=some b):B<=b/\b < w.heap.size:=by
 obtain ⟨hh,pp,hown,ha⟩:=h
 exact World.ownsRow.lt hown b e
theorem QhJ {ops:Array Oper}{rest:List Oper}{o:Oper}{a:Act}{Q:Exit->Act->World->Prop}{w:World} (hgd:o.guard=none) (s x:Operand)
  (ho:o.op= .call { callee := .builtin .append,args:=#[s,x],argTypes:=#[37,37]})
  (H:Nat->Prop) (B:Nat) (v:Value) (l:List PA) (hs:a.eval s=v) (hown:AOwn H w B v l) (h:Sl) (p:V8) (A:PA) (hA:AV (fun b=>H b\/v.ownBlock=some b) w A h p)
  (hx:a.eval x= .slice (some ⟨w.heap.size,0,none⟩) 1 1) (hl:l.length<=1048576) (hB:B<=w.heap.size)
  (k:∀ v' w',AOwn H w' B v' (l++[A])->(∀ w0,Below B w0 w->Below B w0 w')->Lat (fun b=>v.ownBlock=some b) w w'->(v'.ownBlock=v.ownBlock\/∃ g,v'.ownBlock=some g/\w.heap.size<=g)->wpList Tryz.prog ops Q rest (a.put o.dst v') w') :
  wpList Tryz.prog ops Q (o::rest) a (w.alloc (arrO h p)):=by
 obtain ⟨i0,hi0,hz0,hz1,hz2⟩:=info_parts QgS
 obtain ⟨hh,pp,hrow,hel⟩:=hown
 refine wpList_append_own_at _ hgd s x 37 ho B 41 i0 _ 9 184 Tryz.underlying37 hi0 hz0 hz1 hz2 rfl (by omega) v l.length _ hs
  (World.ownsRow.alloc hrow _) ⟨w.heap.size,0,none⟩ 1 1 (arrL h p) hx rfl ?_ ?_ (by unfold maxLen;omega) (by omega) (by simp;omega) ?_
 ·intro j u hj
  rw [Qba,Nat.zero_add,cell_of_row _ w.heap.size j _ _ (0,0) (heap_alloc_new w _)]
  simpa using hj
 ·intro u hu
  simp only [List.mem_cons,List.not_mem_nil,or_false] at hu
  rcases hu with rfl | rfl | rfl | rfl | rfl | rfl | rfl | rfl | rfl <;> rfl
 intro v' w' hown' hg _ hat
 have hsz:w.heap.size+1<=w'.heap.size:=by have:=hg.size;simpa using this
 have hat2:v'.ownBlock=v.ownBlock\/∃ g,v'.ownBlock=some g/\w.heap.size<=g:=by
  rcases hat with e | e
  ·exact .inl e
  ·exact .inr ⟨_,e,by simp⟩
 have hlat:Lat (fun b=>v.ownBlock=some b) w w':=⟨by omega,fun b hb hn=>by rw [hg.block b (by simp;omega) (fun e=>hn e.symm),(bel1 w _).block b hb]⟩
 refine k v' w' ⟨fun i=>if i < l.length then hh i else h,fun i=>if i < l.length then pp i else p,?_,fun i hi=>?_⟩ (fun w0 hb=>((hb.alloc hB _).grown hg (by simp;omega) fun k hk=>(World.ownsRow.lt hrow k hk).1)) hlat hat2
 ·rw [show (l++[A]).length=l.length+1 by simp,Qd5]
  have e:Qdg l.length (fun i=>if i < l.length then hh i else h) (fun i=>if i < l.length then pp i else p)=Qdg l.length hh pp:=QiR _ fun i hi=>by rw [if_pos hi,if_pos hi];exact ⟨rfl,rfl⟩
  rw [e,if_neg (Nat.lt_irrefl _),if_neg (Nat.lt_irrefl _)]
  exact hown'
 ·have up:∀ {A:PA} {h:Sl} {p:V8},AV (fun b=>H b\/v.ownBlock=some b) w A h p->AV (fun b=>H b\/v'.ownBlock=some b) w' A h p:=by
   intro A h p hA
   have h1:AV (fun b=>(H b\/v.ownBlock=some b)\/v'.ownBlock=some b) w A h p:=AV.sub (fun b hb e=>by
    rcases e with e | e
    ·exact e
    ·rcases hat2 with e2 | ⟨g,e2,hg2⟩
     ·rw [e2] at e;exact .inr e
     ·rw [e2] at e
      injection e with e
      omega) hA
   have h2:AV (fun b=>(H b\/v.ownBlock=some b)\/v'.ownBlock=some b) w' A h p:=AV.lat ⟨hlat.size,fun b hb hn=>hlat.block b hb fun e=>hn (.inl (.inr e))⟩ h1
   exact AV.sub (fun b _ e=>by
    rcases e with e | e
    ·exact .inl (.inl e)
    ·exact .inr e) h2
  by_cases hi2:i < l.length
  ·dsimp only
   rw [if_pos hi2,if_pos hi2,List.getElem_append_left hi2]
   exact up (hel i hi2)
  ·have e:i=l.length:=by rw [List.length_append] at hi;simp at hi;omega
   subst e
   dsimp only
   rw [if_neg hi2,if_neg hi2]
   simp only [List.getElem_append_right (Nat.le_refl _),Nat.sub_self,List.getElem_cons_zero]
   exact up hA
end Go.Proofs.YtdelgpelkfndeaaGreatDoor
namespace Go.Proofs.YtdelgpelkfndeaaGreatDoor
open Go Go.RowKit Go.Proofs Fl
structure I4 where
 k:Int
 n:Nat
 c:Int
 x:Sl
instance:Inhabited I4:=⟨⟨0,0,0,nilS⟩⟩
abbrev itL (q:I4):List Value:=[.int .i64 q.k,.float .f64 q.n,.int .i32 q.c,sv q.x]
def QdG (n:Nat) (qq:Nat->I4):List Value:=(List.range n).flatMap fun i=>itL (qq i)
theorem Qc2 (n:Nat) (qq:Nat->I4):QdG (n+1) qq=QdG n qq++itL (qq n):=by
 unfold QdG
 rw [List.range_succ,List.flatMap_append]
 simp
theorem Qfh (n:Nat) (qq:Nat->I4):(QdG n qq).length=n*4:=by
 induction n with
 | zero=>rfl
 | succ n ih=>rw [Qc2,List.length_append,ih];simp;omega
theorem QmB (n:Nat) (qq:Nat->I4) (i j:Nat) (hi:i < n) (hj:j < 4):(QdG n qq)[i*4+j]?=(itL (qq i))[j]?:=by
 induction n with
 | zero=>omega
 | succ n ih =>
  rw [Qc2]
  by_cases h:i < n
  ·rw [List.getElem?_append_left (by rw [Qfh];omega)]
   exact ih h
  ·obtain rfl:i=n:=by omega
   rw [List.getElem?_append_right (by rw [Qfh];omega),Qfh]
   congr 1
   omega
theorem Qfi (n:Nat){qq qq':Nat->I4} (h:∀ i,i < n->qq i=qq' i):QdG n qq=QdG n qq':=by
 unfold QdG
 induction n with
 | zero=>rfl
 | succ n ih =>
  rw [List.range_succ,List.flatMap_append,List.flatMap_append,ih fun i hi=>h i (by omega)]
  simp [h n (by omega)]
theorem Qpi {w:World}{b o n:Nat}{qq:Nat->I4} (h:∀ j u,(QdG n qq)[j]?=some u->w.cell? ⟨b,o+j,none⟩=some u) (i:Nat) (hi:i < n):At4 w b (o+i*4) (qq i).k (qq i).n (qq i).c (qq i).x:=by
 have k:∀ j u,j < 4->(itL (qq i))[j]?=some u->w.cell? ⟨b,o+i*4+j,none⟩=some u:=fun j u hj hu=>by
  rw [Nat.add_assoc]
  exact h _ _ (by rw [QmB n qq i j hi hj];exact hu)
 exact ⟨k 0 _ (by decide) rfl,k 1 _ (by decide) rfl,k 2 _ (by decide) rfl,k 3 _ (by decide) rfl⟩
def IOwn (H:Nat->Prop) (w:World) (B:Nat) (v:Value) (l:List RI):Prop :=
 ∃ qq:Nat->I4,w.ownsRow B 63 4 v l.length (QdG l.length qq)/\∀ i (hi:i < l.length),IV (fun b=>H b\/v.ownBlock=some b) w l[i] (qq i).k (qq i).n (qq i).c (qq i).x
theorem IOwn.nil (H:Nat->Prop) (w:World) (B:Nat):IOwn H w B (.slice none 0 0) []:=⟨fun _=>default,World.ownsRow_nil w B _ _,fun i hi=>by simp at hi⟩
theorem IOwn.len {H:Nat->Prop}{w:World}{B:Nat}{v:Value}{l:List RI} (h:IOwn H w B v l):∃ a c,v= .slice a l.length c:=by
 obtain ⟨qq,hown,ha⟩:=h
 rcases hown.2 with ⟨rfl,h0⟩ | ⟨g,cap,cur,rfl,_⟩
 ·exact ⟨none,0,by rw [h0]⟩
 ·exact ⟨_,_,rfl⟩
theorem IOwn.own_lt {H:Nat->Prop}{w:World}{B:Nat}{v:Value}{l:List RI} (h:IOwn H w B v l){b:Nat} (e:v.ownBlock=some b):B<=b/\b < w.heap.size:=by
 obtain ⟨qq,hown,ha⟩:=h
 exact World.ownsRow.lt hown b e
theorem IOwn.lat {H:Nat->Prop}{w w':World}{B:Nat}{v:Value}{l:List RI} (h:IOwn H w B v l) (k:Lat (fun b=>H b) w w') (hn:∀ b,v.ownBlock=some b->¬ H b):IOwn H w' B v l:=by
 have h':=fun b e=>h.own_lt (b:=b) e
 obtain ⟨qq,hown,ha⟩:=h
 refine ⟨qq,⟨hown.1,?_⟩,fun i hi=>IV.lat ⟨k.size,fun b hb hn=>k.block b hb fun e=>hn (.inl e)⟩ (ha i hi)⟩
 rcases hown.2 with h2 | ⟨g,cap,cur,hv,hbg,hg,r⟩
 ·exact .inl h2
 ·refine .inr ⟨g,cap,cur,hv,hbg,?_,r⟩
  have e:v.ownBlock=some g:=by rw [hv];rfl
  rw [k.block g (h' g e).2 (hn g e)];exact hg
theorem IOwn.below {H:Nat->Prop}{w w':World}{B:Nat}{v:Value}{l:List RI} (h:IOwn H w B v l) (hb:Below w.heap.size w w'):IOwn H w' B v l:=by
 have h':=fun b e=>h.own_lt (b:=b) e
 obtain ⟨qq,hown,ha⟩:=h
 refine ⟨qq,⟨hown.1,?_⟩,fun i hi=>(ha i hi).step hb⟩
 rcases hown.2 with h2 | ⟨g,cap,cur,hv,hbg,hg,r⟩
 ·exact .inl h2
 ·refine .inr ⟨g,cap,cur,hv,hbg,?_,r⟩
  have e:v.ownBlock=some g:=by rw [hv];rfl
  rw [hb.block g (h' g e).2];exact hg
theorem IOwn.pv {H:Nat->Prop}{w:World}{B:Nat}{v:Value}{items:List RI} (h:IOwn H w B v items) (hH:∀ b,H b->b < B){s:List Int}{hd:Sl} (hs:RdH H w (sv hd) (s.map (Value.int .i64))) (fill:Int):∃ x:Sl,v=sv x/\PV H w (.mk s items fill) hd x fill:=by
 obtain ⟨qq,hown,ha⟩:=h
 have hcell:=fun {g:Nat} (hg:v.ownBlock=some g)=>World.ownsRow.cells hown hg
 rcases hown.2 with ⟨rfl,h0⟩ | ⟨g,cap,cur,rfl,hbg,_⟩
 ·have:items=[]:=List.eq_nil_of_length_eq_zero h0
  subst this
  refine ⟨(none,0,0),rfl,?_⟩
  rw [PV]
  exact ⟨hs,rfl,rfl,.inl ⟨rfl,trivial⟩⟩
 ·refine ⟨(some ⟨g,0,none⟩,items.length,cap),rfl,QkN hs rfl fun i hi=>⟨g,0,(qq i).k,(qq i).n,(qq i).c,(qq i).x,rfl,fun e=>by have:=hH g e;omega,IV.sub (fun _ _ e => .inl e) (ha i hi),?_⟩⟩
  refine Qpi (fun j u hu=>?_) i hi
  have:=hcell (g:=g) rfl j u hu
  rw [Qba] at this
  exact this
theorem QhK:(Tryz.prog.info? 63).map (fun i=>(i.zero,i.size,i.bytes))=some (some (.agg #[.int .i64 0,.float .f64 0,.int .i32 0,.slice none 0 0]),4,48):=by kernel_rfl
theorem QhL {ops:Array Oper}{rest:List Oper}{o:Oper}{a:Act}{Q:Exit->Act->World->Prop}{w:World} (hgd:o.guard=none) (s x:Operand)
  (ho:o.op= .call { callee := .builtin .append,args:=#[s,x],argTypes:=#[23,23]})
  (H:Nat->Prop) (B:Nat) (v:Value) (l:List RI) (hs:a.eval s=v) (hown:IOwn H w B v l) (q:I4) (A:RI) (hA:IV (fun b=>H b\/v.ownBlock=some b) w A q.k q.n q.c q.x)
  (hx:a.eval x= .slice (some ⟨w.heap.size,0,none⟩) 1 1) (hl:l.length<=1048576) (hB:B<=w.heap.size)
  (k:∀ v' w',IOwn H w' B v' (l++[A])->(∀ w0,Below B w0 w->Below B w0 w')->Lat (fun b=>v.ownBlock=some b) w w'->(v'.ownBlock=v.ownBlock\/∃ g,v'.ownBlock=some g/\w.heap.size<=g)->wpList Tryz.prog ops Q rest (a.put o.dst v') w') :
  wpList Tryz.prog ops Q (o::rest) a (w.alloc (.cells #[.int .i64 q.k,.float .f64 q.n,.int .i32 q.c,sv q.x] 63)):=by
 obtain ⟨i0,hi0,hz0,hz1,hz2⟩:=info_parts QhK
 obtain ⟨qq,hrow,hel⟩:=hown
 refine wpList_append_own_at _ hgd s x 23 ho B 63 i0 _ 4 48 Tryz.underlying23 hi0 hz0 hz1 hz2 rfl (by omega) v l.length _ hs
  (World.ownsRow.alloc hrow _) ⟨w.heap.size,0,none⟩ 1 1 (itL q) hx rfl ?_ ?_ (by unfold maxLen;omega) (by omega) (by simp;omega) ?_
 ·intro j u hj
  rw [Qba,Nat.zero_add,cell_of_row _ w.heap.size j _ _ (0,0) (heap_alloc_new w _)]
  simpa using hj
 ·intro u hu
  simp only [List.mem_cons,List.not_mem_nil,or_false] at hu
  rcases hu with rfl | rfl | rfl | rfl <;> rfl
 intro v' w' hown' hg _ hat
 have hsz:w.heap.size+1<=w'.heap.size:=by have:=hg.size;simpa using this
 have hat2:v'.ownBlock=v.ownBlock\/∃ g,v'.ownBlock=some g/\w.heap.size<=g:=by
  rcases hat with e | e
  ·exact .inl e
  ·exact .inr ⟨_,e,by simp⟩
 have hlat:Lat (fun b=>v.ownBlock=some b) w w':=⟨by omega,fun b hb hn=>by rw [hg.block b (by simp;omega) (fun e=>hn e.symm),(bel1 w _).block b hb]⟩
 refine k v' w' ⟨fun i=>if i < l.length then qq i else q,?_,fun i hi=>?_⟩ (fun w0 hb=>((hb.alloc hB _).grown hg (by simp;omega) fun k hk=>(World.ownsRow.lt hrow k hk).1)) hlat hat2
 ·rw [show (l++[A]).length=l.length+1 by simp,Qc2]
  have e:QdG l.length (fun i=>if i < l.length then qq i else q)=QdG l.length qq:=Qfi _ fun i hi=>by rw [if_pos hi]
  rw [e,if_neg (Nat.lt_irrefl _)]
  exact hown'
 ·have up:∀ {A:RI} {q:I4},IV (fun b=>H b\/v.ownBlock=some b) w A q.k q.n q.c q.x->IV (fun b=>H b\/v'.ownBlock=some b) w' A q.k q.n q.c q.x:=by
   intro A q hA
   have h1:IV (fun b=>(H b\/v.ownBlock=some b)\/v'.ownBlock=some b) w A q.k q.n q.c q.x:=IV.sub (fun b hb e=>by
    rcases e with e | e
    ·exact e
    ·rcases hat2 with e2 | ⟨g,e2,hg2⟩
     ·rw [e2] at e;exact .inr e
     ·rw [e2] at e
      injection e with e
      omega) hA
   have h2:IV (fun b=>(H b\/v.ownBlock=some b)\/v'.ownBlock=some b) w' A q.k q.n q.c q.x:=IV.lat ⟨hlat.size,fun b hb hn=>hlat.block b hb fun e=>hn (.inl (.inr e))⟩ h1
   exact IV.sub (fun b _ e=>by
    rcases e with e | e
    ·exact .inl (.inl e)
    ·exact .inr e) h2
  by_cases hi2:i < l.length
  ·dsimp only
   rw [if_pos hi2,List.getElem_append_left hi2]
   exact up (hel i hi2)
  ·have e:i=l.length:=by rw [List.length_append] at hi;simp at hi;omega
   subst e
   dsimp only
   rw [if_neg hi2]
   simp only [List.getElem_append_right (Nat.le_refl _),Nat.sub_self,List.getElem_cons_zero]
   exact up hA
end Go.Proofs.YtdelgpelkfndeaaGreatDoor
