/- The walk of idiom.extreme. Printed by gen_ixt.py. The walk of flat.Turn at numbers. The walk of relate.Apply at numbers in any stores. The walk of .. Conditions: as each theorem says. -/
import Derived.Test.YtbakjaliponbbaaGreatDoorMg24
import Derived.Test.YtbakjaliponbbaaGreatDoorMg20
import Derived.Test.YtbakjaliponbbaaGreatDoorMg19
import Derived.Test.YtbakjaliponbbaaGreatDoorMg06
import Derived.Test.YtbakjaliponbbaaGreatDoorMg12
import Derived.Test.YtbakjaliponbbaaGreatDoorMg04
import Derived.Test.YtbakjaliponbbaaGreatDoorMg02
import Derived.Test.YtbakjaliponbbaaGreatDoorMg22
set_option maxRecDepth 100000
set_option maxHeartbeats 4000000
namespace Go.Proofs.YtbakjaliponbbaaGreatDoor
open Go Go.RowKit Go.Proofs Fl
def ltG (G:Nat->Nat) (down:Bool) (i j:Nat):Bool:=decide (cmpF (G i) (G j)=if down then .gt else .lt)
theorem order_ch {a b:Int} (ha:a.natAbs<=9007199254740992) (hb:b.natAbs<=9007199254740992):FloatKind.f64.format.order (fi a) (fi b)=some (cmpF (fi a) (fi b)):=by
 have h:=order_fi a b ha hb
 show Ieee.double.order (fi a) (fi b)=some ((Ieee.double.order (fi a) (fi b)).getD .eq)
 rw [h]
 rfl
theorem vnum_5 (p:V8) (hk:p.k=5) (j:Nat) (w:World) (hin:∀ W,Below w.heap.size w W->Calls Tryz.prog 187 #[p.v,.int .i64 (j:Nat)] W fun e w'=>e= .returned (.bool true)/\Below W.heap.size W w'):Calls Tryz.prog 138 #[p.v,.int .i64 (j:Nat)] w fun e w'=>e= .returned (.float .f64 0)/\Below w.heap.size w w':=by
 have HS0:=Lib.hid (V1B.new w p)
 have HIN:=Lib.hid hin
 have k1:(p.k==1)=false:=by rw [hk];rfl
 have k2:(p.k==2)=false:=by rw [hk];rfl
 have k3:(p.k==3)=false:=by rw [hk];rfl
 have k4:(p.k==4)=false:=by rw [hk];rfl
 clear hk hin
 go_enter Tryz.func138,Tryz.ntmps138
 obtain ⟨c0,c1,c2,c3,c4,c5,c6,c7⟩:=HS0.out.one
 go_wp2_with fail
 refine (HIN.out _ HS0.out.bel).mono ?_
 rintro e w1 ⟨rfl,hb⟩
 have HS1:=Lib.hid (HS0.out.step hb)
 clear hb c0 c1 c2 c3 c4 c5 c6 c7 HS0
 obtain ⟨c0,c1,c2,c3,c4,c5,c6,c7⟩:=HS1.out.one
 go_wp2
 go_ret
 exact ⟨rfl,HS1.out.bel⟩
theorem extr_num (p:V8) (n:Nat) (F:Nat->Nat) (w:World) (down:Bool) (hn:n<=1000000) (hcl:∀ W,Below w.heap.size w W->Calls Tryz.prog 135 #[p.v] W fun e w'=>e= .returned (.int .i64 0)/\Below W.heap.size W w')
  (hln:∀ W,Below w.heap.size w W->Calls Tryz.prog 48 #[p.v] W fun e w'=>e= .returned (.int .i64 (n:Nat))/\Below W.heap.size W w')
  (hnm:∀ j,j < n->∀ W,Below w.heap.size w W->Calls Tryz.prog 138 #[p.v,.int .i64 (j:Nat)] W fun e w'=>e= .returned (.float .f64 (F j))/\Below W.heap.size W w')
  (hF:∀ j,j < n->TF (F j)) :
  Calls Tryz.prog 147 #[p.v,.bool down] w fun e w'=>e= .returned (.int .i64 (extN (ltG F down) n:Nat))/\Below w.heap.size w w':=by
 have HS0:=Lib.hid (V1B.new w p)
 have HCL:=Lib.hid hcl
 have HLN:=Lib.hid hln
 have HNM:=Lib.hid hnm
 have HTF:=Lib.hid hF
 skip
 obtain ⟨lt,hlt0⟩:∃ lt,lt=ltG F down:=⟨_,rfl⟩
 have HLT:=Lib.hid hlt0
 rw [<- hlt0]
 clear hcl hln hnm hF hlt0
 go_enter Tryz.func147,Tryz.ntmps147
 obtain ⟨c0,c1,c2,c3,c4,c5,c6,c7⟩:=HS0.out.one
 go_wp2_with fail
 refine (HLN.out _ HS0.out.bel).mono ?_
 rintro e w1 ⟨rfl,hb1⟩
 have HS1:=Lib.hid (HS0.out.step hb1)
 clear hb1 c0 c1 c2 c3 c4 c5 c6 c7 HS0
 go_wp2
 go_loopw [5,11] (fun at_ iv wr=>∃ i:Nat,i<=n/\iv= .int .i64 (i:Int)/\at_= .int .i64 (extN lt i:Nat)/\V1B w wr p) (fun _ iv _=>n - (intOf iv).toNat)
 case atStart=>exact ⟨0,Nat.zero_le _,rfl,rfl,HS1.out⟩
 case round =>
  obtain ⟨i,hi,rfl,rfl,hst⟩:=hrel
  have HST:=Lib.hid hst
  clear hst HS1
  by_cases hlt:i < n
  ·have hlt2:(i:Int) < (n:Int):=by omega
   have HNX:Hid (extN lt (i+1)=if lt i (extN lt i) then i else extN lt i):=rfl
   have htn:extN lt i < n:=by have:=extN_le lt i;omega
   have HTN:=Lib.hid htn
   have HLTI:Hid (lt i (extN lt i)=decide (cmpF (F i) (F (extN lt i))=if down then .gt else .lt)):=by unfold Hid;rw [HLT.out];rfl
   generalize extN lt i=t at *
   have HN1:=Lib.hid (fun W (hb:Below w.heap.size w W)=>HNM.out i hlt W hb)
   have HN2:=Lib.hid (fun W (hb:Below w.heap.size w W)=>HNM.out t htn W hb)
   skip
   skip
   have HO:=Lib.hid (order_tf (HTF.out i hlt) (HTF.out t htn))
   have HO2:=Lib.hid (order_tf (HTF.out t htn) (HTF.out i hlt))
   skip
   generalize F i=gi at HN1 HO HO2 HLTI
   generalize F t=gt at HN2 HO HO2 HLTI
   skip
   skip
   skip
   clear htn
   go_wp2_with fail
   go_cut [7,8] from 14 to 47 (fun x y wx=>x= .float .f64 gi/\y= .float .f64 gt/\V1B w wx p)
   case first =>
    have hs0:V1B w wr.drew p:=HST.out.dr
    have hs00:=HST.out
    go_region_held3 (fun W=>(W.cell? ⟨w.heap.size,0,none⟩=some (.int .i64 p.k)/\W.cell? ⟨w.heap.size,1,none⟩=some (.slice p.b.1 p.b.2.1 p.b.2.2)/\W.cell? ⟨w.heap.size,2,none⟩=some (.int .i64 p.bn)/\W.cell? ⟨w.heap.size,3,none⟩=some (.slice p.s.1 p.s.2.1 p.s.2.2)/\W.cell? ⟨w.heap.size,4,none⟩=some (.slice p.i.1 p.i.2.1 p.i.2.2)/\W.cell? ⟨w.heap.size,5,none⟩=some (.slice p.f.1 p.f.2.1 p.f.2.2)/\W.cell? ⟨w.heap.size,6,none⟩=some (.slice p.c.1 p.c.2.1 p.c.2.2)/\W.cell? ⟨w.heap.size,7,none⟩=some (.slice p.x.1 p.x.2.1 p.x.2.2))/\V1B w W p)
     (first | (with_reducible assumption) | (with_reducible (refine v1b_s ?_);repeat (first | (with_reducible assumption) | (with_reducible refine V1B.dr ?_))))
     (first
      | (go_at_call 138;(with_reducible refine (HN1.out _ ?_).mono ?_);exact V1B.bel (by repeat (first | (with_reducible assumption) | (with_reducible refine V1B.dr ?_)));rintro e w5 ⟨rfl,hb5⟩;have hst5:V1B w w5 p:=V1B.step (by repeat (first | (with_reducible assumption) | (with_reducible refine V1B.dr ?_))) hb5;clear hb5)
      | (go_at_call 138;(with_reducible refine (HN2.out _ ?_).mono ?_);exact V1B.bel (by repeat (first | (with_reducible assumption) | (with_reducible refine V1B.dr ?_)));rintro e w6 ⟨rfl,hb6⟩;have hst6:V1B w w6 p:=V1B.step (by repeat (first | (with_reducible assumption) | (with_reducible refine V1B.dr ?_))) hb6;clear hb6))
    all_goals
     go_wp2
     go_meet
     first
      | (with_reducible exact ⟨rfl,rfl,hst6⟩)
      | (with_reducible exact ⟨rfl,rfl,hst5⟩)
   case rest =>
    obtain ⟨rfl,rfl,hst⟩:=hcut
    have HSC:=Lib.hid hst
    clear hst HST HN1 HN2
    obtain ⟨c0,c1,c2,c3,c4,c5,c6,c7⟩:=HSC.out.one
    go_wp2_with fail
    refine (HCL.out _ HSC.out.bel).mono ?_
    rintro e w7 ⟨rfl,hb7⟩
    have HS7:=Lib.hid (HSC.out.step hb7)
    clear hb7 c0 c1 c2 c3 c4 c5 c6 c7 HSC
    cases down with
    | false =>
     by_cases hc:cmpF gi gt= .lt
     ·have h1:FloatKind.f64.format.order gi gt=some .lt:=by rw [HO.out,hc]
      have HT:Hid (lt i t=true):=by unfold Hid;rw [HLTI.out];simpa using hc
      clear hc
      go_wp2
      go_roundw
      case rel=>exact ⟨i+1,by omega,by go_num,by rw [HNX.out,HT.out,if_pos rfl],HS7.out⟩
      case measure=>simp [intOf];omega
     ·have h1:(FloatKind.f64.format.order gi gt==some .lt)=false:=by rw [HO.out];simpa using hc
      have h2:¬ FloatKind.f64.format.order gi gt=some .lt:=by rw [HO.out];simpa using hc
      have HT:Hid (lt i t=false):=by unfold Hid;rw [HLTI.out];simpa using hc
      clear hc
      go_wp2
      go_roundw
      case rel=>exact ⟨i+1,by omega,by go_num,by rw [HNX.out,HT.out,if_neg (by decide)],HS7.out⟩
      case measure=>simp [intOf];omega
    | true =>
     by_cases hc:cmpF gi gt= .gt
     ·have h1:FloatKind.f64.format.order gi gt=some .gt:=by rw [HO.out,hc]
      have HT:Hid (lt i t=true):=by unfold Hid;rw [HLTI.out];simpa using hc
      clear hc
      go_wp2
      go_roundw
      case rel=>exact ⟨i+1,by omega,by go_num,by rw [HNX.out,HT.out,if_pos rfl],HS7.out⟩
      case measure=>simp [intOf];omega
     ·have h1:(FloatKind.f64.format.order gi gt==some .gt)=false:=by rw [HO.out];simpa using hc
      have h2:¬ FloatKind.f64.format.order gi gt=some .gt:=by rw [HO.out];simpa using hc
      have HT:Hid (lt i t=false):=by unfold Hid;rw [HLTI.out];simpa using hc
      clear hc
      go_wp2
      go_roundw
      case rel=>exact ⟨i+1,by omega,by go_num,by rw [HNX.out,HT.out,if_neg (by decide)],HS7.out⟩
      case measure=>simp [intOf];omega
  ·have hge:¬ (i:Int) < (n:Int):=by omega
   obtain rfl:i=n:=by omega
   go_wp2
   go_ret
   exact ⟨rfl,HST.out.bel⟩
theorem extr_chr (p:V8) (n:Nat) (F:Nat->Nat) (C:Nat->Int) (hC:∀ j,j < n->C j < 9007199254740992/\-9007199254740992 < C j) (w:World) (down:Bool) (hn:n<=1000000) (hcl:∀ W,Below w.heap.size w W->Calls Tryz.prog 135 #[p.v] W fun e w'=>e= .returned (.int .i64 1)/\Below W.heap.size W w')
  (hln:∀ W,Below w.heap.size w W->Calls Tryz.prog 48 #[p.v] W fun e w'=>e= .returned (.int .i64 (n:Nat))/\Below W.heap.size W w')
  (hnm:∀ j,j < n->∀ W,Below w.heap.size w W->Calls Tryz.prog 138 #[p.v,.int .i64 (j:Nat)] W fun e w'=>e= .returned (.float .f64 (F j))/\Below W.heap.size W w')
  (hch:∀ j,j < n->∀ W,Below w.heap.size w W->Calls Tryz.prog 136 #[p.v,.int .i64 (j:Nat)] W fun e w'=>e= .returned (.int .i32 (C j))/\Below W.heap.size W w') :
  Calls Tryz.prog 147 #[p.v,.bool down] w fun e w'=>e= .returned (.int .i64 (extN (ltG (fun j=>fi (C j)) down) n:Nat))/\Below w.heap.size w w':=by
 have HS0:=Lib.hid (V1B.new w p)
 have HCL:=Lib.hid hcl
 have HLN:=Lib.hid hln
 have HNM:=Lib.hid hnm
 have HCH:=Lib.hid hch
 have HRG:=Lib.hid hC
 obtain ⟨lt,hlt0⟩:∃ lt,lt=ltG (fun j=>fi (C j)) down:=⟨_,rfl⟩
 have HLT:=Lib.hid hlt0
 rw [<- hlt0]
 clear hcl hln hnm hch hC hlt0
 go_enter Tryz.func147,Tryz.ntmps147
 obtain ⟨c0,c1,c2,c3,c4,c5,c6,c7⟩:=HS0.out.one
 go_wp2_with fail
 refine (HLN.out _ HS0.out.bel).mono ?_
 rintro e w1 ⟨rfl,hb1⟩
 have HS1:=Lib.hid (HS0.out.step hb1)
 clear hb1 c0 c1 c2 c3 c4 c5 c6 c7 HS0
 go_wp2
 go_loopw [5,11] (fun at_ iv wr=>∃ i:Nat,i<=n/\iv= .int .i64 (i:Int)/\at_= .int .i64 (extN lt i:Nat)/\V1B w wr p) (fun _ iv _=>n - (intOf iv).toNat)
 case atStart=>exact ⟨0,Nat.zero_le _,rfl,rfl,HS1.out⟩
 case round =>
  obtain ⟨i,hi,rfl,rfl,hst⟩:=hrel
  have HST:=Lib.hid hst
  clear hst HS1
  by_cases hlt:i < n
  ·have hlt2:(i:Int) < (n:Int):=by omega
   have HNX:Hid (extN lt (i+1)=if lt i (extN lt i) then i else extN lt i):=rfl
   have htn:extN lt i < n:=by have:=extN_le lt i;omega
   have HTN:=Lib.hid htn
   have HLTI:Hid (lt i (extN lt i)=decide (cmpF (fi (C i)) (fi (C (extN lt i)))=if down then .gt else .lt)):=by unfold Hid;rw [HLT.out];rfl
   generalize extN lt i=t at *
   have HN1:=Lib.hid (fun W (hb:Below w.heap.size w W)=>HNM.out i hlt W hb)
   have HN2:=Lib.hid (fun W (hb:Below w.heap.size w W)=>HNM.out t htn W hb)
   have HC1:=Lib.hid (fun W (hb:Below w.heap.size w W)=>HCH.out i hlt W hb)
   have HC2:=Lib.hid (fun W (hb:Below w.heap.size w W)=>HCH.out t htn W hb)
   skip
   skip
   have HO:Hid (FloatKind.f64.format.order (fi (C i)) (fi (C t))=some (cmpF (fi (C i)) (fi (C t)))):=order_ch (by have:=HRG.out i hlt;omega) (by have:=HRG.out t htn;omega)
   obtain ⟨ci,hci⟩:∃ c,c=C i:=⟨_,rfl⟩;rw [<- hci] at HC1 HO HLTI
   obtain ⟨ct,hct⟩:∃ c,c=C t:=⟨_,rfl⟩;rw [<- hct] at HC2 HO HLTI
   generalize F i=f1 at HN1
   generalize F t=f2 at HN2
   clear hci hct
   clear htn
   go_wp2_with fail
   go_cut [7,8] from 14 to 47 (fun x y wx=>x= .float .f64 f1/\y= .float .f64 f2/\V1B w wx p)
   case first =>
    have hs0:V1B w wr.drew p:=HST.out.dr
    have hs00:=HST.out
    go_region_held3 (fun W=>(W.cell? ⟨w.heap.size,0,none⟩=some (.int .i64 p.k)/\W.cell? ⟨w.heap.size,1,none⟩=some (.slice p.b.1 p.b.2.1 p.b.2.2)/\W.cell? ⟨w.heap.size,2,none⟩=some (.int .i64 p.bn)/\W.cell? ⟨w.heap.size,3,none⟩=some (.slice p.s.1 p.s.2.1 p.s.2.2)/\W.cell? ⟨w.heap.size,4,none⟩=some (.slice p.i.1 p.i.2.1 p.i.2.2)/\W.cell? ⟨w.heap.size,5,none⟩=some (.slice p.f.1 p.f.2.1 p.f.2.2)/\W.cell? ⟨w.heap.size,6,none⟩=some (.slice p.c.1 p.c.2.1 p.c.2.2)/\W.cell? ⟨w.heap.size,7,none⟩=some (.slice p.x.1 p.x.2.1 p.x.2.2))/\V1B w W p)
     (first | (with_reducible assumption) | (with_reducible (refine v1b_s ?_);repeat (first | (with_reducible assumption) | (with_reducible refine V1B.dr ?_))))
     (first
      | (go_at_call 138;(with_reducible refine (HN1.out _ ?_).mono ?_);exact V1B.bel (by repeat (first | (with_reducible assumption) | (with_reducible refine V1B.dr ?_)));rintro e w5 ⟨rfl,hb5⟩;have hst5:V1B w w5 p:=V1B.step (by repeat (first | (with_reducible assumption) | (with_reducible refine V1B.dr ?_))) hb5;clear hb5)
      | (go_at_call 138;(with_reducible refine (HN2.out _ ?_).mono ?_);exact V1B.bel (by repeat (first | (with_reducible assumption) | (with_reducible refine V1B.dr ?_)));rintro e w6 ⟨rfl,hb6⟩;have hst6:V1B w w6 p:=V1B.step (by repeat (first | (with_reducible assumption) | (with_reducible refine V1B.dr ?_))) hb6;clear hb6))
    all_goals
     go_wp2
     go_meet
     first
      | (with_reducible exact ⟨rfl,rfl,hst6⟩)
      | (with_reducible exact ⟨rfl,rfl,hst5⟩)
   case rest =>
    obtain ⟨rfl,rfl,hst⟩:=hcut
    have HSC:=Lib.hid hst
    clear hst HST HN1 HN2
    obtain ⟨c0,c1,c2,c3,c4,c5,c6,c7⟩:=HSC.out.one
    go_wp2_with fail
    refine (HCL.out _ HSC.out.bel).mono ?_
    rintro e w7 ⟨rfl,hb7⟩
    have HS7:=Lib.hid (HSC.out.step hb7)
    clear hb7 c0 c1 c2 c3 c4 c5 c6 c7 HSC
    go_wp2_with fail
    go_cut [7,8] from 23 to 47 (fun x y wx=>x= .float .f64 (fi ci)/\y= .float .f64 (fi ct)/\V1B w wx p)
    case first =>
     have hs7:V1B w w7.drew p:=HS7.out.dr
     refine wp_region_noPanic ?_
     refine wp_region_held_drew (S:=fun W=>(W.cell? ⟨w.heap.size,0,none⟩=some (.int .i64 p.k)/\W.cell? ⟨w.heap.size,1,none⟩=some (.slice p.b.1 p.b.2.1 p.b.2.2)/\W.cell? ⟨w.heap.size,2,none⟩=some (.int .i64 p.bn)/\W.cell? ⟨w.heap.size,3,none⟩=some (.slice p.s.1 p.s.2.1 p.s.2.2)/\W.cell? ⟨w.heap.size,4,none⟩=some (.slice p.i.1 p.i.2.1 p.i.2.2)/\W.cell? ⟨w.heap.size,5,none⟩=some (.slice p.f.1 p.f.2.1 p.f.2.2)/\W.cell? ⟨w.heap.size,6,none⟩=some (.slice p.c.1 p.c.2.1 p.c.2.2)/\W.cell? ⟨w.heap.size,7,none⟩=some (.slice p.x.1 p.x.2.1 p.x.2.2))/\V1B w W p) (by kernel_rfl) (by exact v1b_s hs7) (fun hHeld=>?_)
     refine wpAnyH_take (i:=0) (v:=?av1) rfl (by kernel_rfl) (by kernel_rfl) (by kernel_rfl) (fun _ _ _ h=>h) (Or.inl ⟨by rfl,?ay1⟩) (by assumption) ?as1
     case ay1=>(intro w hSw;(try dsimp only at hSw);go_simp;try with_reducible rfl)
     change wpAnyH _ _ _ _ _ _ _ (Act.put _ (some 23) _) _
     simp only [Act.put,List.setIfInBounds_toArray,List.set_cons_zero,List.set_cons_succ]
     refine wpAnyH_take (i:=1) (v:=?av2) rfl (by kernel_rfl) (by kernel_rfl) (by kernel_rfl) (fun _ _ _ h=>h) (Or.inl ⟨by rfl,?ay2⟩) (by assumption) ?as2
     case ay2=>(intro w hSw;(try dsimp only at hSw);go_simp;try with_reducible rfl)
     change wpAnyH _ _ _ _ _ _ _ (Act.put _ (some 24) _) _
     simp only [Act.put,List.setIfInBounds_toArray,List.set_cons_zero,List.set_cons_succ]
     refine wpAnyH_take (i:=4) (v:=?av3) rfl (by kernel_rfl) (by kernel_rfl) (by kernel_rfl) (fun _ _ _ h=>h) (Or.inl ⟨by rfl,?ay3⟩) (by assumption) ?as3
     case ay3=>(intro w hSw;(try dsimp only at hSw);go_simp;try with_reducible rfl)
     change wpAnyH _ _ _ _ _ _ _ (Act.put _ (some 27) _) _
     simp only [Act.put,List.setIfInBounds_toArray,List.set_cons_zero,List.set_cons_succ]
     refine wpAnyH_take (i:=5) (v:=?av4) rfl (by kernel_rfl) (by kernel_rfl) (by kernel_rfl) (fun _ _ _ h=>h) (Or.inl ⟨by rfl,?ay4⟩) (by assumption) ?as4
     case ay4=>(intro w hSw;(try dsimp only at hSw);go_simp;try with_reducible rfl)
     change wpAnyH _ _ _ _ _ _ _ (Act.put _ (some 28) _) _
     simp only [Act.put,List.setIfInBounds_toArray,List.set_cons_zero,List.set_cons_succ]
     refine wpAnyH_ready (rs:=[2]) (by kernel_rfl) (by simp) ?_
     refine AllReadyH.cons rfl (fun K hK=>?_) AllReadyH.nil
     go_simp
     (go_at_call 136;(with_reducible refine (HC1.out _ ?_).mono ?_);exact V1B.bel (by repeat (first | (with_reducible assumption) | (with_reducible refine V1B.dr ?_)));rintro e wd1 ⟨rfl,hb⟩;have hsd1:V1B w wd1 p:=V1B.step (by repeat (first | (with_reducible assumption) | (with_reducible refine V1B.dr ?_))) hb;clear hb)
     refine hK.out _ _ (by first | (with_reducible assumption) | ((with_reducible (refine v1b_s ?_));(repeat (first | (with_reducible assumption) | (with_reducible refine V1B.dr ?_)));done)) (fun hHeld=>?_)
     clear hK K
     refine wpAnyH_ready (rs:=[3,6]) (by kernel_rfl) (by simp) ?_
     refine AllReadyH.cons rfl (fun K hK=>?_) (AllReadyH.cons rfl (fun K hK=>?_) AllReadyH.nil)
     ·go_simp
      refine hK.out _ _ (by first | (with_reducible assumption) | ((with_reducible (refine v1b_s ?_));(repeat (first | (with_reducible assumption) | (with_reducible refine V1B.dr ?_)));done)) (fun hHeld=>?_)
      clear hK K
      refine wpAnyH_ready (rs:=[6]) (by kernel_rfl) (by simp) ?_
      refine AllReadyH.cons rfl (fun K hK=>?_) AllReadyH.nil
      go_simp
      (go_at_call 136;(with_reducible refine (HC2.out _ ?_).mono ?_);exact V1B.bel (by repeat (first | (with_reducible assumption) | (with_reducible refine V1B.dr ?_)));rintro e wd2 ⟨rfl,hb⟩;have hsd2:V1B w wd2 p:=V1B.step (by repeat (first | (with_reducible assumption) | (with_reducible refine V1B.dr ?_))) hb;clear hb)
      refine hK.out _ _ (by first | (with_reducible assumption) | ((with_reducible (refine v1b_s ?_));(repeat (first | (with_reducible assumption) | (with_reducible refine V1B.dr ?_)));done)) (fun hHeld=>?_)
      clear hK K
      refine wpAnyH_ready (rs:=[7,8]) (by kernel_rfl) (by simp) ?_
      refine AllReadyH.cons rfl (fun K hK=>?_) (AllReadyH.cons rfl (fun K hK=>?_) AllReadyH.nil)
      ·go_simp
       refine hK.out _ _ (by first | (with_reducible assumption) | ((with_reducible (refine v1b_s ?_));(repeat (first | (with_reducible assumption) | (with_reducible refine V1B.dr ?_)));done)) (fun hHeld=>?_)
       clear hK K
       refine wpAnyH_ready (rs:=[8]) (by kernel_rfl) (by simp) ?_
       refine AllReadyH.cons rfl (fun K hK=>?_) AllReadyH.nil
       go_simp
       refine hK.out _ _ (by first | (with_reducible assumption) | ((with_reducible (refine v1b_s ?_));(repeat (first | (with_reducible assumption) | (with_reducible refine V1B.dr ?_)));done)) (fun hHeld=>?_)
       clear hK K
       refine wpAnyH_ready (rs:=[9]) (by kernel_rfl) (by simp) ?_
       refine AllReadyH.cons rfl (fun K hK=>?_) AllReadyH.nil
       go_simp
       refine hK.out _ _ (by first | (with_reducible assumption) | ((with_reducible (refine v1b_s ?_));(repeat (first | (with_reducible assumption) | (with_reducible refine V1B.dr ?_)));done)) (fun hHeld=>?_)
       clear hK K
       refine wpAnyH_done (by kernel_rfl) ?_ _
       refine NoPanic.normal ?_
       go_wp2
       go_meet
       exact ⟨rfl,rfl,hsd2⟩
      ·go_simp
       refine hK.out _ _ (by first | (with_reducible assumption) | ((with_reducible (refine v1b_s ?_));(repeat (first | (with_reducible assumption) | (with_reducible refine V1B.dr ?_)));done)) (fun hHeld=>?_)
       clear hK K
       refine wpAnyH_ready (rs:=[7]) (by kernel_rfl) (by simp) ?_
       refine AllReadyH.cons rfl (fun K hK=>?_) AllReadyH.nil
       go_simp
       refine hK.out _ _ (by first | (with_reducible assumption) | ((with_reducible (refine v1b_s ?_));(repeat (first | (with_reducible assumption) | (with_reducible refine V1B.dr ?_)));done)) (fun hHeld=>?_)
       clear hK K
       refine wpAnyH_ready (rs:=[9]) (by kernel_rfl) (by simp) ?_
       refine AllReadyH.cons rfl (fun K hK=>?_) AllReadyH.nil
       go_simp
       refine hK.out _ _ (by first | (with_reducible assumption) | ((with_reducible (refine v1b_s ?_));(repeat (first | (with_reducible assumption) | (with_reducible refine V1B.dr ?_)));done)) (fun hHeld=>?_)
       clear hK K
       refine wpAnyH_done (by kernel_rfl) ?_ _
       refine NoPanic.normal ?_
       go_wp2
       go_meet
       exact ⟨rfl,rfl,hsd2⟩
     ·go_simp
      (go_at_call 136;(with_reducible refine (HC2.out _ ?_).mono ?_);exact V1B.bel (by repeat (first | (with_reducible assumption) | (with_reducible refine V1B.dr ?_)));rintro e wd2 ⟨rfl,hb⟩;have hsd2:V1B w wd2 p:=V1B.step (by repeat (first | (with_reducible assumption) | (with_reducible refine V1B.dr ?_))) hb;clear hb)
      refine hK.out _ _ (by first | (with_reducible assumption) | ((with_reducible (refine v1b_s ?_));(repeat (first | (with_reducible assumption) | (with_reducible refine V1B.dr ?_)));done)) (fun hHeld=>?_)
      clear hK K
      refine wpAnyH_ready (rs:=[3,7]) (by kernel_rfl) (by simp) ?_
      refine AllReadyH.cons rfl (fun K hK=>?_) (AllReadyH.cons rfl (fun K hK=>?_) AllReadyH.nil)
      ·go_simp
       refine hK.out _ _ (by first | (with_reducible assumption) | ((with_reducible (refine v1b_s ?_));(repeat (first | (with_reducible assumption) | (with_reducible refine V1B.dr ?_)));done)) (fun hHeld=>?_)
       clear hK K
       refine wpAnyH_ready (rs:=[7,8]) (by kernel_rfl) (by simp) ?_
       refine AllReadyH.cons rfl (fun K hK=>?_) (AllReadyH.cons rfl (fun K hK=>?_) AllReadyH.nil)
       ·go_simp
        refine hK.out _ _ (by first | (with_reducible assumption) | ((with_reducible (refine v1b_s ?_));(repeat (first | (with_reducible assumption) | (with_reducible refine V1B.dr ?_)));done)) (fun hHeld=>?_)
        clear hK K
        refine wpAnyH_ready (rs:=[8]) (by kernel_rfl) (by simp) ?_
        refine AllReadyH.cons rfl (fun K hK=>?_) AllReadyH.nil
        go_simp
        refine hK.out _ _ (by first | (with_reducible assumption) | ((with_reducible (refine v1b_s ?_));(repeat (first | (with_reducible assumption) | (with_reducible refine V1B.dr ?_)));done)) (fun hHeld=>?_)
        clear hK K
        refine wpAnyH_ready (rs:=[9]) (by kernel_rfl) (by simp) ?_
        refine AllReadyH.cons rfl (fun K hK=>?_) AllReadyH.nil
        go_simp
        refine hK.out _ _ (by first | (with_reducible assumption) | ((with_reducible (refine v1b_s ?_));(repeat (first | (with_reducible assumption) | (with_reducible refine V1B.dr ?_)));done)) (fun hHeld=>?_)
        clear hK K
        refine wpAnyH_done (by kernel_rfl) ?_ _
        refine NoPanic.normal ?_
        go_wp2
        go_meet
        exact ⟨rfl,rfl,hsd2⟩
       ·go_simp
        refine hK.out _ _ (by first | (with_reducible assumption) | ((with_reducible (refine v1b_s ?_));(repeat (first | (with_reducible assumption) | (with_reducible refine V1B.dr ?_)));done)) (fun hHeld=>?_)
        clear hK K
        refine wpAnyH_ready (rs:=[7]) (by kernel_rfl) (by simp) ?_
        refine AllReadyH.cons rfl (fun K hK=>?_) AllReadyH.nil
        go_simp
        refine hK.out _ _ (by first | (with_reducible assumption) | ((with_reducible (refine v1b_s ?_));(repeat (first | (with_reducible assumption) | (with_reducible refine V1B.dr ?_)));done)) (fun hHeld=>?_)
        clear hK K
        refine wpAnyH_ready (rs:=[9]) (by kernel_rfl) (by simp) ?_
        refine AllReadyH.cons rfl (fun K hK=>?_) AllReadyH.nil
        go_simp
        refine hK.out _ _ (by first | (with_reducible assumption) | ((with_reducible (refine v1b_s ?_));(repeat (first | (with_reducible assumption) | (with_reducible refine V1B.dr ?_)));done)) (fun hHeld=>?_)
        clear hK K
        refine wpAnyH_done (by kernel_rfl) ?_ _
        refine NoPanic.normal ?_
        go_wp2
        go_meet
        exact ⟨rfl,rfl,hsd2⟩
      ·go_simp
       refine hK.out _ _ (by first | (with_reducible assumption) | ((with_reducible (refine v1b_s ?_));(repeat (first | (with_reducible assumption) | (with_reducible refine V1B.dr ?_)));done)) (fun hHeld=>?_)
       clear hK K
       refine wpAnyH_ready (rs:=[3]) (by kernel_rfl) (by simp) ?_
       refine AllReadyH.cons rfl (fun K hK=>?_) AllReadyH.nil
       go_simp
       refine hK.out _ _ (by first | (with_reducible assumption) | ((with_reducible (refine v1b_s ?_));(repeat (first | (with_reducible assumption) | (with_reducible refine V1B.dr ?_)));done)) (fun hHeld=>?_)
       clear hK K
       refine wpAnyH_ready (rs:=[8]) (by kernel_rfl) (by simp) ?_
       refine AllReadyH.cons rfl (fun K hK=>?_) AllReadyH.nil
       go_simp
       refine hK.out _ _ (by first | (with_reducible assumption) | ((with_reducible (refine v1b_s ?_));(repeat (first | (with_reducible assumption) | (with_reducible refine V1B.dr ?_)));done)) (fun hHeld=>?_)
       clear hK K
       refine wpAnyH_ready (rs:=[9]) (by kernel_rfl) (by simp) ?_
       refine AllReadyH.cons rfl (fun K hK=>?_) AllReadyH.nil
       go_simp
       refine hK.out _ _ (by first | (with_reducible assumption) | ((with_reducible (refine v1b_s ?_));(repeat (first | (with_reducible assumption) | (with_reducible refine V1B.dr ?_)));done)) (fun hHeld=>?_)
       clear hK K
       refine wpAnyH_done (by kernel_rfl) ?_ _
       refine NoPanic.normal ?_
       go_wp2
       go_meet
       exact ⟨rfl,rfl,hsd2⟩
    case rest =>
     obtain ⟨rfl,rfl,hst⟩:=hcut
     have HS8:=Lib.hid hst
     clear hst HS7 HC1 HC2
     obtain ⟨g1,hg1⟩:∃ g,g=fi ci:=⟨_,rfl⟩
     obtain ⟨g2,hg2⟩:∃ g,g=fi ct:=⟨_,rfl⟩
     rw [<- hg1,<- hg2] at HO HLTI
     rw [<- hg1,<- hg2]
     clear hg1 hg2
     cases down with
     | false =>
      by_cases hc:cmpF g1 g2= .lt
      ·have h1:FloatKind.f64.format.order g1 g2=some .lt:=by rw [HO.out,hc]
       have HT:Hid (lt i t=true):=by unfold Hid;rw [HLTI.out];simpa using hc
       clear hc
       go_wp2
       go_roundw
       case rel=>exact ⟨i+1,by omega,by go_num,by rw [HNX.out,HT.out,if_pos rfl],HS8.out⟩
       case measure=>simp [intOf];omega
      ·have h1:(FloatKind.f64.format.order g1 g2==some .lt)=false:=by rw [HO.out];simpa using hc
       have h2:¬ FloatKind.f64.format.order g1 g2=some .lt:=by rw [HO.out];simpa using hc
       have HT:Hid (lt i t=false):=by unfold Hid;rw [HLTI.out];simpa using hc
       clear hc
       go_wp2
       go_roundw
       case rel=>exact ⟨i+1,by omega,by go_num,by rw [HNX.out,HT.out,if_neg (by decide)],HS8.out⟩
       case measure=>simp [intOf];omega
     | true =>
      by_cases hc:cmpF g1 g2= .gt
      ·have h1:FloatKind.f64.format.order g1 g2=some .gt:=by rw [HO.out,hc]
       have HT:Hid (lt i t=true):=by unfold Hid;rw [HLTI.out];simpa using hc
       clear hc
       go_wp2
       go_roundw
       case rel=>exact ⟨i+1,by omega,by go_num,by rw [HNX.out,HT.out,if_pos rfl],HS8.out⟩
       case measure=>simp [intOf];omega
      ·have h1:(FloatKind.f64.format.order g1 g2==some .gt)=false:=by rw [HO.out];simpa using hc
       have h2:¬ FloatKind.f64.format.order g1 g2=some .gt:=by rw [HO.out];simpa using hc
       have HT:Hid (lt i t=false):=by unfold Hid;rw [HLTI.out];simpa using hc
       clear hc
       go_wp2
       go_roundw
       case rel=>exact ⟨i+1,by omega,by go_num,by rw [HNX.out,HT.out,if_neg (by decide)],HS8.out⟩
       case measure=>simp [intOf];omega
  ·have hge:¬ (i:Int) < (n:Int):=by omega
   obtain rfl:i=n:=by omega
   go_wp2
   go_ret
   exact ⟨rfl,HST.out.bel⟩
theorem extN_congr {l1 l2:Nat->Nat->Bool}:∀ n,(∀ i j,i < n->j < n->l1 i j=l2 i j)->extN l1 n=extN l2 n
 | 0,_=>rfl
 | n+1,h=>by
  have e:=extN_congr n (fun i j hi hj=>h i j (by omega) (by omega))
  rw [extN,extN,e]
  have h2:=extN_le l2 n
  rw [h n (extN l2 n) (by omega) (by omega)]
def ChA:PA->Prop
 | .chars _ l=>∀ c∈l,-2147483648<=c/\c<=2147483647
 | _=>True
theorem cmpF_gt {a b:Nat} (ha:TF a) (hb:TF b):cmpF a b= .gt↔keyF b < keyF a:=by rw [keyF_cmp ha hb];exact Int.compare_eq_gt
theorem extr_any {Ha:Nat->Prop}{a:PA}{h:Sl}{p:V8} (w:World) (g:AV Ha w a h p) (d:Nat) (hg:GoodA d a) (hc:ChA a) (hf:a.fill≠2) (hn:a.len<=1000000) (down:Bool) :
  Calls Tryz.prog 147 #[p.v,.bool down] w fun e w'=>e= .returned (.int .i64 (extN (ltX (elA a) down) a.len:Nat))/\Below w.heap.size w w':=by
 cases a with
 | nums s l =>
  rw [GoodA] at hg
  have htf:∀ j,j < l.length->TF (l.getD j 0):=fun j hj=>by
   have e:l.getD j 0=l[j]:=by simp [List.getD,hj]
   rw [e];exact hg.2.2 _ (List.getElem_mem _)
  have e:extN (ltX (elA (.nums s l)) down) l.length=extN (ltG (fun j=>l.getD j 0) down) l.length:=extN_congr _ fun i j hi hj=>by
   unfold ltX ltG ltE
   cases down with
   | false =>
    show decide (keyF (l.getD i 0) < keyF (l.getD j 0))=_
    exact decide_eq_decide.2 (cmpF_lt (htf i hi) (htf j hj)).symm
   | true =>
    show decide (keyF (l.getD j 0) < keyF (l.getD i 0))=_
    exact decide_eq_decide.2 (cmpF_gt (htf i hi) (htf j hj)).symm
  show Calls _ _ _ _ fun e w'=>e= .returned (.int .i64 (extN (ltX (elA (.nums s l)) down) l.length:Nat))/\Below w.heap.size w w'
  rw [e]
  exact extr_num p l.length (fun j=>l.getD j 0) w down hn (fun W hb=>av_class g W hb) (fun W hb=>av_len g W hb) (fun j hj W hb=>av_num g W hb j hj) htf
 | chars s l =>
  have hr:∀ j,j < l.length->-2147483648<=l.getD j 0/\l.getD j 0<=2147483647:=fun j hj=>by
   have e:l.getD j 0=l[j]:=by simp [List.getD,hj]
   rw [e];exact hc _ (List.getElem_mem _)
  have e:extN (ltX (elA (.chars s l)) down) l.length=extN (ltG (fun j=>fi (l.getD j 0)) down) l.length:=extN_congr _ fun i j hi hj=>by
   have h1:=hr i hi
   have h2:=hr j hj
   have h3:cmpF (fi (l.getD i 0)) (fi (l.getD j 0))=compare (l.getD i 0) (l.getD j 0):=by
    unfold cmpF
    rw [order_fi _ _ (by omega) (by omega)]
    rfl
   unfold ltX ltG ltE
   dsimp only
   rw [h3]
   cases down with
   | false =>
    show decide (l.getD i 0 < l.getD j 0)=_
    exact decide_eq_decide.2 Int.compare_eq_lt.symm
   | true =>
    show decide (l.getD j 0 < l.getD i 0)=_
    exact decide_eq_decide.2 Int.compare_eq_gt.symm
  show Calls _ _ _ _ fun e w'=>e= .returned (.int .i64 (extN (ltX (elA (.chars s l)) down) l.length:Nat))/\Below w.heap.size w w'
  rw [e]
  obtain ⟨c,rfl,-⟩:=g.chars
  refine extr_chr (charsP c) l.length (fun _=>0) (fun j=>l.getD j 0) (fun j hj=>by have:=hr j hj;omega) w down hn (fun W hb=>av_class g W hb) (fun W hb=>av_len g W hb) (fun j hj W hb=>?_) (fun j hj W hb=>?_)
  ·exact vnum_5 _ rfl j W fun W' hb'=>in_any _ _ _ _ _ _ _ _ l.length j hj W' fun W9 hb9=>av_len g W9 (bel_both hb (bel_both hb' hb9))
  ·have e:l.getD j 0=l[j]:=by simp [List.getD,hj]
   rw [e]
   exact vchar_any g j hj W hb
 | boxes s l=>exact absurd rfl hf
theorem st_set {w W:World}{k:Int}{b:Value}{bn:Int}{s i f c x:Value} (h:St w W k b bn s i f c x){G:Nat} (hG:w.heap.size+2<=G) (j:Nat) (u:Value):St w (W.setCell ⟨G,j,none⟩ u) k b bn s i f c x:=h.put hG u
theorem vturn_any {H:Nat->Prop}{p:V8}{n:Nat}{F:Nat->Nat} (w:World) (hH:∀ b,H b->b < w.heap.size) (hn:n<=1000000) (hv:Keeps H w (NumV p.v p.k n F)) :
  Calls Tryz.prog 149 #[p.v] w (VecR H w (fun u W=>NumV u (leastF (fun j=>F (n - 1 - j)) n:Nat) n (fun j=>F (n - 1 - j)) W)):=by
 have HPI:Hid (∀ W va,Below w.heap.size w W->w.heap.size+2<=W.heap.size->Reads1 W va ((List.range n).map fun j => .int .i64 ((n - 1 - j:Nat):Int))->Calls Tryz.prog 192 #[p.v,va] W (VecR (fun b=>H b\/b=w.heap.size+1) W (fun u W=>NumV u (leastF (fun j=>F (n - 1 - j)) n:Nat) n (fun j=>F (n - 1 - j)) W))) :=
  fun W va hb hs hr=>pick_num (fun b=>H b\/b=w.heap.size+1) p n n F (fun j=>n - 1 - j) va W (fun b e=>by
   rcases e with e | e
   ·have:=hH b e;omega
   ·omega) hn hn (hv.below' hb _ fun b hb2 e=>by
    rcases e with e | e
    ·exact e
    ·omega) (fun j hj=>by omega) hr
 have HLN:=Lib.hid (fun W (hb:Below w.heap.size w W)=>(hv.step hb).now.len)
 have hmk:=make_int n (by omega)
 have HH:=Lib.hid hH
 obtain ⟨R,hR⟩:∃ R:Value->World->Prop,R=fun u W=>NumV u (leastF (fun j=>F (n - 1 - j)) n:Nat) n (fun j=>F (n - 1 - j)) W:=⟨_,rfl⟩
 rw [<- hR] at HPI ⊢
 obtain ⟨k,b,bn,s,i,f,c,x⟩:=p
 have HS0:=Lib.hid (St.new w k (.slice b.1 b.2.1 b.2.2) bn (.slice s.1 s.2.1 s.2.2) (.slice i.1 i.2.1 i.2.2) (.slice f.1 f.2.1 f.2.2) (.slice c.1 c.2.1 c.2.2) (.slice x.1 x.2.1 x.2.2))
 clear hv hH hR
 go_enter Tryz.func149,Tryz.ntmps149
 obtain ⟨h0,h1,h2,h3,h4,h5,h6,h7⟩:=HS0.out.box
 go_wp2_with fail
 refine (HLN.out _ HS0.out.bel).mono ?_
 rintro e w2 ⟨rfl,hb2⟩
 have HS2:=Lib.hid (HS0.out.step hb2)
 have HF0:Hid (Fill (w2.alloc (.cells (madeCells #[.int .i64 0] n) 3)) (w.heap.size+2) w2.heap.size 3 (fun j => .int .i64 ((n - 1 - j:Nat):Int)) (.int .i64 0) n 0):=Fill.made w2 (w.heap.size+2) HS2.out.sz 3 _ (.int .i64 0) n (by unfold maxLen;omega)
 have HS3:=Lib.hid (HS2.out.step (bel1 w2 (.cells (madeCells #[.int .i64 0] n) 3)))
 obtain ⟨G,hG⟩:∃ G,G=w2.heap.size:=⟨_,rfl⟩
 have HGG:Hid (w.heap.size+2<=G):=by unfold Hid;rw [hG];exact HS2.out.sz
 clear hb2 HS0 h0 h1 h2 h3 h4 h5 h6 h7
 go_wp2
 rw [<- hG] at HF0 ⊢
 clear hG hmk HS2
 go_loopw [10] (fun iv wr=>∃ j:Nat,j<=n/\iv= .int .i64 (j:Int)/\Fill wr (w.heap.size+2) G 3 (fun j => .int .i64 ((n - 1 - j:Nat):Int)) (.int .i64 0) n j/\St w wr k (.slice b.1 b.2.1 b.2.2) bn (.slice s.1 s.2.1 s.2.2) (.slice i.1 i.2.1 i.2.2) (.slice f.1 f.2.1 f.2.2) (.slice c.1 c.2.1 c.2.2) (.slice x.1 x.2.1 x.2.2)) (fun iv _=>n - (intOf iv).toNat)
 case atStart=>exact ⟨0,Nat.zero_le _,rfl,HF0.out,HS3.out⟩
 case round =>
  obtain ⟨j,hj,rfl,hf,hst⟩:=hrel
  have HF:=Lib.hid hf
  have HS:=Lib.hid hst
  clear hf hst HF0 HS3
  obtain ⟨h0,h1,h2,h3,h4,h5,h6,h7⟩:=HS.out.box
  by_cases hlt:j < n
  ·have hlt2:(j:Int) < (n:Int):=by omega
   go_wp2_with fail
   refine (HLN.out _ HS.out.bel).mono ?_
   rintro e w6 ⟨rfl,hb6⟩
   have HF6:=Lib.hid (HF.out.below hb6)
   have HS6:=Lib.hid (HS.out.step hb6)
   have hfz:=HF6.out.frozen j
   have hc0:=HF6.out.cell hlt
   have HPU:Hid (Fill (w6.setCell ⟨G,j,none⟩ (.int .i64 ((n:Int) - 1 - (j:Int)))) (w.heap.size+2) G 3 (fun j => .int .i64 ((n - 1 - j:Nat):Int)) (.int .i64 0) n (j+1)):=by
    have h:=HF6.out.put hlt
    have hz:((n - 1 - j:Nat):Int)=(n:Int) - 1 - (j:Int):=by omega
    rw [hz] at h
    exact h
   have HSU:=Lib.hid (st_set HS6.out HGG.out j (.int .i64 ((n:Int) - 1 - (j:Int))))
   clear hb6 h0 h1 h2 h3 h4 h5 h6 h7
   go_wp2
   go_roundw
   case rel=>exact ⟨j+1,by omega,by go_num,HPU.out,HSU.out⟩
   case measure=>simp [intOf];omega
  ·have hge:¬ (j:Int) < (n:Int):=by omega
   obtain rfl:j=n:=by omega
   have HX:=Lib.hid (HPI.out wr (.slice (some ⟨G,0,none⟩) j j) HS.out.bel HS.out.sz HF.out.own.reads)
   unfold VecR at HX ⊢
   go_wp2_with fail
   refine HX.out.mono ?_
   rintro e w6 ⟨k5,b5,bn5,s5,i5,f5,c5,x5,rfl,hk5,hb6⟩
   have HS9:=Lib.hid (HS.out.step hb6)
   have HKF:=Lib.hid ((hk5.set8 (.inr rfl) (.int .i64 k5) (.slice b5.1 b5.2.1 b5.2.2) (.int .i64 bn5) (.slice s5.1 s5.2.1 s5.2.2) (.slice i5.1 i5.2.1 i5.2.2) (.slice f5.1 f5.2.1 f5.2.2) (.slice c5.1 c5.2.1 c5.2.2) (.slice x5.1 x5.2.1 x5.2.2)).sub (H':=H) fun _ _ e => .inl e)
   have HBE:=Lib.hid (below_set8 HS9.out.bel (Nat.le_succ _) (.int .i64 k5) (.slice b5.1 b5.2.1 b5.2.2) (.int .i64 bn5) (.slice s5.1 s5.2.1 s5.2.2) (.slice i5.1 i5.2.1 i5.2.2) (.slice f5.1 f5.2.1 f5.2.2) (.slice c5.1 c5.2.1 c5.2.2) (.slice x5.1 x5.2.1 x5.2.2))
   have HRE:=Lib.hid (set8_block HS9.out.res (.int .i64 k5) (.slice b5.1 b5.2.1 b5.2.2) (.int .i64 bn5) (.slice s5.1 s5.2.1 s5.2.2) (.slice i5.1 i5.2.1 i5.2.2) (.slice f5.1 f5.2.1 f5.2.2) (.slice c5.1 c5.2.1 c5.2.2) (.slice x5.1 x5.2.1 x5.2.2))
   clear hk5 hb6 h0 h1 h2 h3 h4 h5 h6 h7
   obtain ⟨⟨r0,r1,r2,r3,r4,r5,r6,r7⟩,rz⟩:=boxed_of HS9.out.res
   go_wp2
   refine bodyPost_ret (ret_vec (fn:=Tryz.f149) (p:=2) rfl _ _ (w.heap.size+1) (by rfl) HRE.out) rfl ?_
   exact ⟨k5,b5,bn5,s5,i5,f5,c5,x5,rfl,HKF.out,HBE.out⟩
structure LdB (w0:World) (V1 V2:Nat) (b1 b2:Sl) (N:Nat) (W:World):Prop where
 one:W.heap[V1]?=some (.cells #[.slice b1.1 b1.2.1 b1.2.2,.int .i64 (N:Int)] 52)
 two:W.heap[V2]?=some (.cells #[.slice b2.1 b2.2.1 b2.2.2,.int .i64 (N:Int)] 52)
 bel:Below w0.heap.size w0 W
 old1:V1 < w0.heap.size
 old2:V2 < w0.heap.size
theorem LdB.step {w0 W W':World}{V1 V2:Nat}{b1 b2:Sl}{N:Nat} (h:LdB w0 V1 V2 b1 b2 N W) (hb:Below W.heap.size W W'):LdB w0 V1 V2 b1 b2 N W' :=
 ⟨by rw [hb.block _ (lt_of_block h.one)];exact h.one,by rw [hb.block _ (lt_of_block h.two)];exact h.two,bel_both h.bel hb,h.old1,h.old2⟩
theorem LdB.al {w0 W:World}{V1 V2:Nat}{b1 b2:Sl}{N:Nat} (h:LdB w0 V1 V2 b1 b2 N W) (o:Obj):LdB w0 V1 V2 b1 b2 N (W.alloc o):=h.step (bel1 W o)
theorem LdB.dr {w0 W:World}{V1 V2:Nat}{b1 b2:Sl}{N:Nat} (h:LdB w0 V1 V2 b1 b2 N W):LdB w0 V1 V2 b1 b2 N W.drew:=h.step (Below.refl _ W).drew
theorem LdB.put {w0 W:World}{V1 V2:Nat}{b1 b2:Sl}{N:Nat} (h:LdB w0 V1 V2 b1 b2 N W){g j:Nat} (ha:w0.heap.size<=g) (u:Value):LdB w0 V1 V2 b1 b2 N (W.setCell ⟨g,j,none⟩ u) :=
 ⟨by rw [Below.heap_setCell _ _ _ _ (by show _≠g;have:=h.old1;omega)];exact h.one,by rw [Below.heap_setCell _ _ _ _ (by show _≠g;have:=h.old2;omega)];exact h.two,h.bel.setCell (by show _<=g;omega) u,h.old1,h.old2⟩
theorem LdB.self {w0 W:World}{V1 V2:Nat}{b1 b2:Sl}{N:Nat} (h:LdB w0 V1 V2 b1 b2 N W):LdB w0 V1 V2 b1 b2 N W:=h
def TsOut (m:Nat) (F:Nat->Nat) (w:World) (e:Ending) (w':World):Prop :=
 ((∀ j,j < m->isT (F j)=true)/\∃ (b:Sl) (L:Nat->Bool),e= .returned (.tuple #[.agg #[.slice b.1 b.2.1 b.2.2,.int .i64 (m:Int)],.bool true])/\BitsAt w' b m L/\(∀ j,j < m->F j=flagF (L j))/\Below w.heap.size w w') \/
 ((∃ j,j < m/\isT (F j)=false)/\e= .returned (.tuple #[.agg #[vnil,.int .i64 0],.bool false])/\Below w.heap.size w w')
theorem fit1_iff {m:Nat}{F:Nat->Nat}:fitB 1 F m=true↔∀ j,j < m->isT (F j)=true:=by
 unfold fitB
 rw [if_pos rfl]
 exact all_range
theorem fit1_bad {m:Nat}{F:Nat->Nat} (h:fitB 1 F m=false):∃ j,j < m/\isT (F j)=false:=by
 rcases first_bad (fun j=>isT (F j)) m with hall | ⟨K,hK,hb,_⟩
 ·rw [fit1_iff.2 hall] at h;cases h
 ·exact ⟨K,hK,hb⟩
theorem isT_of_bits {k:Int}{b:Sl}{bn:Int}{s i f g x:Sl}{m:Nat}{F:Nat->Nat}{w:World} (hk:1=k) (h:NumV (vecW k b bn s i f g x) k m F w):fitB 1 F m=true:=by
 subst hk
 obtain ⟨_,L,_,hf⟩:=h.bits
 exact fit1_iff.2 fun j hj=>by rw [hf j hj];cases L j <;> decide
theorem truths_any (p:V8) (m:Nat) (F:Nat->Nat) (w:World) (hm:m<=1000000) (hv:Keeps (fun _=>False) w (NumV p.v p.k m F)) :
  Calls Tryz.prog 144 #[p.v] w (TsOut m F w):=by
 have HI:=Lib.hid (fun W (hb:Below w.heap.size w W) (hz:w.heap.size+1 < W.heap.size)=>into_num (fun j=>j=w.heap.size+1) 1 p.k p.b p.bn p.s p.i p.f p.c p.x m F W (fun j h=>by omega) hm (hv.below' hb _ (fun j hj h=>by omega)) (.inl rfl) (fun e=>isT_of_bits e (hv.step hb).now))
 have HC:=Lib.hid (fun W (hb:Below w.heap.size w W)=>((hv.step hb).now).cls)
 have HS0:=Lib.hid (Sb.new w p)
 unfold Sub at HI
 clear hv
 go_enter Tryz.func144,Tryz.ntmps144
 obtain ⟨h0,h1,h2,h3,h4,h5,h6,h7⟩:=HS0.out.one
 go_wp2_with fail
 refine (HI.out _ HS0.out.bel HS0.out.sz).mono ?_
 rintro e w1 ⟨k,b,bn,s,i,f,c,x,t,rfl,hk,hb1⟩
 have HS1:=Lib.hid (HS0.out.step hb1)
 have HK:=Lib.hid hk
 clear hb1 hk h0 h1 h2 h3 h4 h5 h6 h7
 have HS2:=Lib.hid (HS1.out.step (bel1 w1 (.cells #[.int .i64 k,.slice b.1 b.2.1 b.2.2,.int .i64 bn,.slice s.1 s.2.1 s.2.2,.slice i.1 i.2.1 i.2.2,.slice f.1 f.2.1 f.2.2,.slice c.1 c.2.1 c.2.2,.slice x.1 x.2.1 x.2.2] 57)))
 have HX2:=Lib.hid (boxed_new w1 57 k (.slice b.1 b.2.1 b.2.2) bn (.slice s.1 s.2.1 s.2.2) (.slice i.1 i.2.1 i.2.2) (.slice f.1 f.2.1 f.2.2) (.slice c.1 c.2.1 c.2.2) (.slice x.1 x.2.1 x.2.2))
 have z1:w.heap.size+1 < w1.heap.size:=HS1.out.sz
 cases t with
 | false =>
  have HBAD:=Lib.hid (fit1_bad HK.out.now.1.symm)
  have HKE:=Lib.hid (set2_block HS1.out.res vnil (.int .i64 0))
  obtain ⟨hk0,hk1,hkf⟩:=pair_of HS1.out.res
  go_wp2
  refine bodyPost_ret (v := .tuple #[.agg #[vnil,.int .i64 0],.bool false]) ?_ rfl (.inr ⟨HBAD.out,rfl,bel_both (below_set2 HS1.out.bel (Nat.le_succ _) _ _) (bel1 _ _)⟩)
  exact ret_bits2 (fn:=Tryz.f144) (p:=2) (u:=3) rfl _ _ (w.heap.size+1) (by rfl) ((Below.heap_alloc _ _ _ (lt_of_block HKE.out)).trans HKE.out)
 | true =>
  have HALL:=Lib.hid (fit1_iff.1 HK.out.now.1.symm)
  have HKN:Hid (Keeps (fun j=>j=w.heap.size+1) w1 (NumV (vecW k b bn s i f c x) 1 m F)):=HK.out.imp fun W h=>h.2.1 rfl
  obtain rfl:k=1:=HKN.out.now.kindEq
  obtain ⟨h0,h1,h2,h3,h4,h5,h6,h7⟩:=HS2.out.one
  go_wp2_with fail
  refine (HC.out _ HS2.out.bel).mono ?_
  rintro e w3 ⟨rfl,hb3⟩
  have HS3:=Lib.hid (HS2.out.step hb3)
  have HX3:=Lib.hid (HX2.out.below hb3)
  have HK3:=Lib.hid ((HKN.out.step (bel1 w1 (.cells #[.int .i64 1,.slice b.1 b.2.1 b.2.2,.int .i64 bn,.slice s.1 s.2.1 s.2.2,.slice i.1 i.2.1 i.2.2,.slice f.1 f.2.1 f.2.2,.slice c.1 c.2.1 c.2.2,.slice x.1 x.2.1 x.2.2] 57))).step hb3)
  clear hb3 h0 h1 h2 h3 h4 h5 h6 h7
  obtain ⟨h0,h1,h2,h3,h4,h5,h6,h7⟩:=HX3.out
  go_wp2_with fail
  refine (packed_yes b bn _ _ _ _ _ _).mono ?_
  rintro e w4 ⟨rfl,hb4⟩
  have HS4:=Lib.hid (HS3.out.step hb4)
  have HK4:=Lib.hid (HK3.out.step hb4)
  clear hb4 h0 h1 h2 h3 h4 h5 h6 h7
  have HKS:Hid (Keeps (fun j=>j=w.heap.size+1) (set2 w4 (w.heap.size+1) (.slice b.1 b.2.1 b.2.2) (.int .i64 bn)) (NumV (vecW 1 b bn s i f c x) 1 m F)):=(HK4.out.set rfl _).set rfl _
  obtain ⟨rfl,L,hL,hF⟩:=HKS.out.now.bits
  have HF:=Lib.hid hF
  have HLE:=Lib.hid hL
  have HKE:=Lib.hid (set2_block HS4.out.res (.slice b.1 b.2.1 b.2.2) (.int .i64 (m:Int)))
  have HBE:=Lib.hid (below_set2 HS4.out.bel (Nat.le_succ _) (.slice b.1 b.2.1 b.2.2) (.int .i64 (m:Int)))
  clear hL hF
  obtain ⟨hk0,hk1,hkf⟩:=pair_of HS4.out.res
  go_wp2
  refine bodyPost_ret (v := .tuple #[.agg #[.slice b.1 b.2.1 b.2.2,.int .i64 (m:Int)],.bool true]) ?_ rfl (.inl ⟨HALL.out,b,L,rfl,HLE.out,HF.out,HBE.out⟩)
  exact ret_bits2 (fn:=Tryz.f144) (p:=2) (u:=3) rfl _ _ (w.heap.size+1) (by rfl) HKE.out
theorem BitsAt.set2 {W:World}{b:Sl}{n:Nat}{L:Nat->Bool} (h:BitsAt W b n L){V:Nat}{a:Option Addr}{l c:Nat}{z:Int}{e:TypeId} (hV:W.heap[V]?=some (.cells #[.slice a l c,.int .i64 z] e)) (u0 u1:Value):BitsAt (Go.Proofs.YtbakjaliponbbaaGreatDoor.set2 W V u0 u1) b n L:=by
 obtain ⟨g,o,cc,e1,hc⟩:=h
 refine ⟨g,o,cc,e1,fun j hj=>?_⟩
 have hcj:=hc j hj
 have hne:g≠V:=by
  rintro rfl
  rw [cell_of_row _ g (o+j) _ e (0,0) hV] at hcj
  match hoj:o+j with
  | 0=>rw [hoj] at hcj;simp at hcj
  | 1=>rw [hoj] at hcj;simp at hcj
  | k+2=>rw [hoj] at hcj;simp at hcj
 rw [<- hcj]
 exact World.cell?_of_block (by rw [Below.heap_setCell _ _ _ _ hne,Below.heap_setCell _ _ _ _ hne])
theorem into_cls (p:V8) (z:Int) (n:Nat) (hz:z≠0) (hk:p.k≠1) (w:World) (hc:ClsV w p z n) :
  Calls Tryz.prog 194 #[p.v,.int .i64 1] w (NoVec w):=by
 have HC:=Lib.hid hc.cls
 have HS0:=Lib.hid (St.new w p.k (.slice p.b.1 p.b.2.1 p.b.2.2) p.bn (.slice p.s.1 p.s.2.1 p.s.2.2) (.slice p.i.1 p.i.2.1 p.i.2.2) (.slice p.f.1 p.f.2.1 p.f.2.2) (.slice p.c.1 p.c.2.1 p.c.2.2) (.slice p.x.1 p.x.2.1 p.x.2.2))
 have hk1:(p.k==1)=false:=by simpa using hk
 have hz1:(z != 0)=true:=by simpa using hz
 clear hc hk hz
 go_enter Tryz.func194,Tryz.ntmps194
 go_wp2_with fail
 refine (vkind_any _ _ _ _ _ _ _ _ _).mono ?_
 rintro e w1 ⟨rfl,hb⟩
 have HS1:=Lib.hid (HS0.out.step hb)
 clear hb
 obtain ⟨h0,h1,h2,h3,h4,h5,h6,h7⟩:=HS1.out.box
 go_wp2_with fail
 refine (HC.out _ HS1.out.bel).mono ?_
 rintro e w2 ⟨rfl,hb⟩
 have HS2:=Lib.hid (HS1.out.step hb)
 clear hb h0 h1 h2 h3 h4 h5 h6 h7
 obtain ⟨⟨h0,h1,h2,h3,h4,h5,h6,h7⟩,hz⟩:=boxed_of HS2.out.res
 go_wp2
 refine bodyPost_ret (v := .tuple #[vecV 0 vnil 0 vnil vnil vnil vnil vnil,.bool false]) ?_ rfl ⟨rfl,below_set8 HS2.out.bel (Nat.le_succ _) _ _ _ _ _ _ _ _⟩
 exact ret_vec2 (fn:=Tryz.f194) (p:=4) (u:=5) rfl _ _ (w.heap.size+1) (by rfl) (set8_block HS2.out.res _ _ _ _ _ _ _ _)
theorem truths_cls (p:V8) (z:Int) (n:Nat) (hz:z≠0) (hk:p.k≠1) (w:World) (hc:ClsV w p z n) :
  Calls Tryz.prog 144 #[p.v] w fun e w'=>e= .returned (.tuple #[.agg #[vnil,.int .i64 0],.bool false])/\Below w.heap.size w w':=by
 have HS0:=Lib.hid (Sb.new w p)
 have HI:=Lib.hid (into_cls p z n hz hk _ (hc.up HS0.out.bel))
 unfold NoVec at HI
 clear hc hk hz
 go_enter Tryz.func144,Tryz.ntmps144
 obtain ⟨h0,h1,h2,h3,h4,h5,h6,h7⟩:=HS0.out.one
 go_wp2_with fail
 refine HI.out.mono ?_
 rintro e w1 ⟨rfl,hb1⟩
 have HS1:=Lib.hid (HS0.out.step hb1)
 clear hb1 h0 h1 h2 h3 h4 h5 h6 h7
 have HKE:=Lib.hid (set2_block HS1.out.res vnil (.int .i64 0))
 obtain ⟨hk0,hk1,hkf⟩:=pair_of HS1.out.res
 have z1:w.heap.size+1 < w1.heap.size:=HS1.out.sz
 go_wp2
 refine bodyPost_ret (v := .tuple #[.agg #[vnil,.int .i64 0],.bool false]) ?_ rfl ⟨rfl,bel_both (below_set2 HS1.out.bel (Nat.le_succ _) _ _) (bel1 _ _)⟩
 exact ret_bits2 (fn:=Tryz.f144) (p:=2) (u:=3) rfl _ _ (w.heap.size+1) (by rfl) ((Below.heap_alloc _ _ _ (lt_of_block HKE.out)).trans HKE.out)
def tsA:PA->Bool
 | .nums _ l=>decide (∀ x∈l,isT x=true)
 | _=>false
def bitsA:PA->Nat->Bool
 | .nums _ l,j=>decide (l.getD j 0=flagF true)
 | _,_=>false
def firN (f:Nat->Bool):Nat->Nat
 | 0=>0
 | n+1=>if firN f n < n then firN f n else if f n then n else n+1
theorem firN_is (f:Nat->Bool):∀ n,FirstIs f n (firN f n)
 | 0=>⟨Nat.le_refl _,fun h=>absurd h (Nat.lt_irrefl _),fun j h=>absurd h (Nat.not_lt_zero _)⟩
 | n+1=>by
  obtain ⟨h1,h2,h3⟩:=firN_is f n
  rw [firN]
  split
  ·rename_i h
   exact ⟨by omega,fun _=>h2 h,h3⟩
  ·rename_i h
   have e:firN f n=n:=by omega
   rw [e] at h3
   split
   ·rename_i h4
    exact ⟨by omega,fun _=>h4,h3⟩
   ·rename_i h4
    exact ⟨Nat.le_refl _,fun h=>absurd h (Nat.lt_irrefl _),fun j hj=>by
     by_cases e2:j=n
     ·subst e2;simpa using h4
     ·exact h3 j (by omega)⟩
theorem firstIs_one {f:Nat->Bool}{n y z:Nat} (h:FirstIs f n y) (g:FirstIs f n z):y=z:=by
 obtain ⟨h1,h2,h3⟩:=h
 obtain ⟨g1,g2,g3⟩:=g
 rcases Nat.lt_trichotomy y z with e | e | e
 ·have:=g3 y e;rw [h2 (by omega)] at this;cases this
 ·exact e
 ·have:=h3 z e;rw [g2 (by omega)] at this;cases this
noncomputable def chE (j:Nat) (a:PA) (o most:Nat):Option PA :=
 if most < a.len\/a.len=0 then none else
 match j with
 | 0=>if a.shape.length=1 then some (partA a (a.len - 1)) else none
 | 1=>if 0 < a.shape.length/\a.shape.length<=most then some (oneA (a.shape.getD 0 0:Nat)) else none
 | 2=>if a.shape.length=1/\a.fill≠2 then some (oneA ((extN (ltX (elA a) false) a.len:Nat)+(o:Nat))) else none
 | 3=>if a.shape.length=1/\a.fill≠2 then some (oneA ((extN (ltX (elA a) true) a.len:Nat)+(o:Nat))) else none
 | 4=>if a.shape.length=1/\tsA a=true/\0 < cnt (bitsA a) a.len then some (oneA ((firN (bitsA a) a.len:Nat)+(o:Nat))) else none
 | 5=>if a.shape.length<=1 then some (oneA ((fstsL a a.len).length:Nat)) else none
 | 6=>if a.shape.length=1/\tsA a=true then some (oneA (cnt (bitsA a) a.len:Nat)) else none
 | 7=>if a.shape.length<=most then some (oneA (a.shape.length:Nat)) else none
 | 8=>if a.shape.length<=most then some (listA [(a.shape.length:Nat)]) else none
 | 9=>some (oneA (a.len:Nat))
 | 10=>(iotaN a most).map fun m => .nums [m] ((List.range m).map fun i=>fi ((m - 1 - i+o:Nat):Int))
 | 11=>some (partA a 0)
 | _=>none
def sgF:Nat->Int
 | 0=>8835 | 1=>8835 | 2=>8835 | 3=>8835 | 4=>8835 | 5=>8802 | 6=>8802 | 7=>8802 | 8=>9076 | 9=>8802 | 10=>9021 | _=>8835
def sgG:Nat->Int
 | 0=>9021 | 1=>9076 | 2=>9035 | 3=>9042 | 4=>9080 | 5=>8746 | 6=>9080 | 7=>9076 | 8=>9076 | 9=>44 | 10=>9075 | _=>44
def TaR (a:PA) (w:World) (e:Ending) (w':World):Prop :=
 ∃ (b:Sl) (bn:Int),e= .returned (.tuple #[.agg #[.slice b.1 b.2.1 b.2.2,.int .i64 bn],.bool (tsA a)])/\(tsA a=true->BitsIn w' (.agg #[.slice b.1 b.2.1 b.2.2,.int .i64 bn]) a.len (bitsA a))/\Below w.heap.size w w'
theorem ltruths_any {H:Nat->Prop}{w:World}{a:PA}{h:Sl}{p:V8} (g:AV H w a h p) (hn:0 < a.len) (hl:a.len<=1000000) (W:World) (hb:Below w.heap.size w W) :
  Calls Tryz.prog 144 #[p.v] W (TaR a W):=by
 have g2:=AV.step g hb
 cases a with
 | nums s l =>
  rcases g2.nums with g3 | ⟨rfl,_⟩
  ·refine (truths_any p l.length (fun j=>l.getD j 0) W hl (g3.num.sub fun _ _ e=>e.elim)).mono ?_
   rintro e w' (⟨hT,b,L,rfl,hba,hL,hb'⟩ | ⟨⟨j,hj,hF⟩,rfl,hb'⟩)
   ·have ht:tsA (.nums s l)=true:=by
     refine decide_eq_true fun x hx=>?_
     obtain ⟨j,hj,rfl⟩:=List.getElem_of_mem hx
     have:=hT j hj
     simpa [List.getD,hj] using this
    refine ⟨b,(l.length:Int),by rw [ht],fun _=>?_,hb'⟩
    obtain ⟨gb,o,c,rfl,hc⟩:=hba
    refine ⟨gb,o,c,rfl,fun j hj=>?_⟩
    rw [hc j hj]
    show some (Value.int .u64 (packW L l.length j:Nat))=some (.int .u64 (packW (bitsA (.nums s l)) l.length j:Nat))
    have e:packW L l.length j=packW (bitsA (.nums s l)) l.length j:=by
     refine Nat.eq_of_testBit_eq fun m=>?_
     by_cases hm:m < 64
     ·rw [packW_bit L l.length j m hm,packW_bit (bitsA (.nums s l)) l.length j m hm]
      by_cases h3:64*j+m < l.length
      ·have h4:l.getD (64*j+m) 0=flagF (L (64*j+m)):=hL (64*j+m) h3
       have h5:bitsA (.nums s l) (64*j+m)=L (64*j+m):=by
        show decide (l.getD (64*j+m) 0=flagF true)=_
        rw [h4]
        cases L (64*j+m) <;> decide
       rw [h5]
      ·simp [h3]
     ·have h6:2 ^ 64<=2 ^ m:=Nat.pow_le_pow_right (by decide) (by omega)
      rw [Nat.testBit_lt_two_pow (Nat.lt_of_lt_of_le (packW_lt L l.length j) h6),Nat.testBit_lt_two_pow (Nat.lt_of_lt_of_le (packW_lt (bitsA (.nums s l)) l.length j) h6)]
    rw [e]
   ·have ht:tsA (.nums s l)=false:=by
     refine decide_eq_false fun h=>?_
     have e:l.getD j 0=l[j]:=by simp [List.getD,hj]
     dsimp only at hF
     rw [e,h _ (List.getElem_mem _)] at hF
     cases hF
    exact ⟨nilS,0,by rw [ht],(fun h=>by rw [ht] at h;cases h),hb'⟩
  ·exact absurd hn (Nat.lt_irrefl _)
 | chars s l =>
  obtain ⟨c,rfl,-⟩:=g2.chars
  refine (truths_cls _ 1 l.length (by decide) (show ¬ (5:Int)=1 by decide) W (clsV_av g2)).mono ?_
  rintro e w' ⟨rfl,hb'⟩
  exact ⟨nilS,0,rfl,(fun h=>by cases h),hb'⟩
 | boxes s l =>
  have hc:=clsV_av g2
  obtain ⟨A,n,cc,rfl,-⟩:=g2.boxes
  refine (truths_cls _ 2 l.length (by decide) (show ¬ (6:Int)=1 by decide) W hc).mono ?_
  rintro e w' ⟨rfl,hb'⟩
  exact ⟨nilS,0,rfl,(fun h=>by cases h),hb'⟩
end Go.Proofs.YtbakjaliponbbaaGreatDoor
