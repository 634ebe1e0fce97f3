/- The walk of squeeze.Least, whatever the store. The walk of squeeze.Least at floats; squeeze.whole, whatever the store. The walks of vec.Bits and of .. Conditions: as each theorem says. -/
import Derived.Test.YtdelgpelkfndeaaGreatDoorMgA
import Derived.Test.YtdelgpelkfndeaaGreatDoorMg04
set_option maxRecDepth 100000
set_option maxHeartbeats 8000000
namespace Go.Proofs.YtdelgpelkfndeaaGreatDoor
open Go Go.RowKit Go.Proofs Fl
noncomputable def Qb6 (b:Nat):Nat:=match wholeP b with
 | some z=>rankS z
 | none=>4
theorem QeG {z:Int} (h:Good z):Qb6 (fi z)=rankS z:=by unfold Qb6;rw [QcH h]
theorem QoQ {b:Nat} (h:wholeP b=none):Qb6 b=4:=by unfold Qb6;rw [h]
theorem QoR (b:Nat):1<=Qb6 b/\Qb6 b<=4:=by
 unfold Qb6
 split
 ·rename_i z _;have:=Qgy z;omega
 ·omega
noncomputable def leastF (F:Nat->Nat):Nat->Nat
 | 0=>1
 | k+1=>max (leastF F k) (Qb6 (F k))
theorem Qdw (F:Nat->Nat) (k:Nat):1<=leastF F k/\leastF F k<=4:=by
 induction k with
 | zero=>simp [leastF]
 | succ k ih=>have:=QoR (F k);unfold leastF;omega
theorem Qe4 (F:Nat->Nat){a b:Nat} (h:a<=b):leastF F a<=leastF F b:=by
 induction b with
 | zero =>
      have:a=0:=by omega
      subst this;exact Nat.le_refl _
 | succ b ih =>
  by_cases e:a=b+1
  ·subst e;exact Nat.le_refl _
  ·have h1:=ih (by omega)
   have h2:leastF F (b+1)=max (leastF F b) (Qb6 (F b)):=rfl
   omega
theorem Qe5 (F:Nat->Nat){i n:Nat} (h:i < n):Qb6 (F i)<=leastF F n:=by
 have h1:=Qe4 F (show i+1<=n by omega)
 have h2:leastF F (i+1)=max (leastF F i) (Qb6 (F i)):=rfl
 omega
theorem Qcu (F:Nat->Nat) (n:Nat) (h:∀ j,j < n->∃ z,Good z/\F j=fi z):leastF F n<=3:=by
 induction n with
 | zero=>simp [leastF]
 | succ k ih =>
  have h1:=ih fun j hj=>h j (by omega)
  obtain ⟨z,hz,e⟩:=h k (by omega)
  have h2:leastF F (k+1)=max (leastF F k) (Qb6 (F k)):=rfl
  rw [e,QeG hz] at h2
  have:=Qgy z
  omega
theorem QbA (k:Int) (hk:k=1\/k=2\/k=3) (b:Value) (bn:Int) (s i f c x:Value) (n:Nat) (F:Nat->Nat) (w:World) (hn:n<=1048576)
  (hN:∀ W,Below w.heap.size w W->NumV (vecV k b bn s i f c x) k n F W) :
  Calls Tryz.prog 174 #[vecV k b bn s i f c x] w fun e w'=>e= .returned (.int .i64 (leastF F n:Nat))/\Below w.heap.size w w':=by
 have HK:=hD (fun W=>QcU k b bn s i f c x W)
 have HN:=hD hN
 have H4:Hid (k≠4):=by show k≠4;omega
 have k0:(k==0)=false:=by simp;omega
 have HLE:=hD (Qcu F n ((hN w (Below.refl _ _)).ints (by omega)))
 clear hN
 go_enter Tryz.func174,Tryz.ntmps174
 go_wp2_with fail
 refine (HN.out _ (bel1 w _)).cls.mono ?_
 rintro e w1 ⟨rfl,hb1⟩
 have HX1:=hD ((QaF w 39 k b bn s i f c x).below hb1)
 have HB1:=hD (Qaa (bel1 w _) hb1)
 clear hb1
 obtain ⟨h0,h1,h2,h3,h4,h5,h6,h7⟩:=HX1.out
 go_wp2_with fail
 refine (HK.out _).mono ?_
 rintro e w2 ⟨rfl,hb2⟩
 have HX2:=hD (HX1.out.below hb2)
 have HB2:=hD (Qaa HB1.out hb2)
 clear hb2 h0 h1 h2 h3 h4 h5 h6 h7 HX1 HB1
 obtain ⟨h0,h1,h2,h3,h4,h5,h6,h7⟩:=HX2.out
 go_wp2_with fail
 refine (HN.out _ HB2.out).len.mono ?_
 rintro e w3 ⟨rfl,hb3⟩
 have HX3:=hD (HX2.out.below hb3)
 have HB3:=hD (Qaa HB2.out hb3)
 clear hb3 h0 h1 h2 h3 h4 h5 h6 h7 HX2 HB2
 go_wp2_with fail
 go_loopw [3,19] (fun q j wr=>∃ m:Nat,m<=n/\j= .int .i64 m/\q= .int .i64 (leastF F m:Nat)/\Below w.heap.size w wr/\Boxed wr w.heap.size k b bn s i f c x) (fun _ j _=>n - (intOf j).toNat)
 case atStart=>exact ⟨0,Nat.zero_le _,rfl,rfl,HB3.out,HX3.out⟩
 case round =>
  obtain ⟨m,hm,rfl,rfl,hbl,hx⟩:=hrel
  have HBL:=hD hbl
  have HX:=hD hx
  clear hbl
  by_cases hlt:m < n
  ·obtain ⟨h0,h1,h2,h3,h4,h5,h6,h7⟩:=hx
   obtain ⟨z,hz,hFz⟩:=(HN.out _ HBL.out).ints H4.out m hlt
   have HM:Hid (leastF F (m+1)=max (leastF F m) (rankS z)):=by
    show _=_
    rw [<- QeG hz,<- hFz]
    rfl
   have HM3:=hD (Qe4 F (show m+1<=n by omega))
   have HR:=hD (Qju z)
   have HWM:=hD ((HN.out _ HBL.out).wholeI H4.out m hlt z hz hFz)
   have HL4:=hD (Qdw F m)
   have HR4:=hD (Qgy z)
   clear hFz hz
   go_wp2_with fail
   refine HWM.out.mono ?_
   rintro e w4 ⟨rfl,hb4⟩
   have HX4:=hD (HX.out.below hb4)
   have HB4:=hD (Qaa HBL.out hb4)
   clear hb4 h0 h1 h2 h3 h4 h5 h6 h7 HX
   obtain ⟨h0,h1,h2,h3,h4,h5,h6,h7⟩:=HX4.out
   generalize leastF F m=p at *
   generalize rankS z=r at *
   go_wp2_with fail
   refine (HR.out _).mono ?_
   rintro e w5 ⟨rfl,rfl⟩
   go_wp2_with fail
   case isTrue h3 =>
    refine (HK.out _).mono ?_
    rintro e w6 ⟨rfl,hb6⟩
    have HB6:=hD (Qaa HB4.out hb6)
    have HX6:=hD (HX4.out.below hb6)
    have HE:Hid (((leastF F n:Nat):Int)=3):=by
     have e1:=HM.out
     have e2:=HM3.out
     have e3:=HLE.out
     show _=_
     omega
    clear hb6
    by_cases hk3:k=3
    ·have ek:(k==3)=true:=by simpa using hk3
     clear hk3
     go_wp2
     go_ret
     exact ⟨by rw [HE.out];rfl,HB6.out⟩
    ·have ek:(k==3)=false:=by simpa using hk3
     clear hk3
     go_wp2
     go_roundw
     case rel=>exact ⟨m+1,by omega,by go_num,by rw [HM.out];exact congrArg _ (by omega),HB6.out,HX6.out⟩
     case measure=>simp [intOf];omega
   case roundEnd h3 =>
    exact ⟨⟨m+1,by omega,by go_num,by rw [HM.out];exact congrArg _ (by omega),HB4.out,HX4.out⟩,by simp [intOf];omega⟩
  ·obtain rfl:m=n:=by omega
   clear hx
   go_wp2
   go_ret
   exact ⟨rfl,HBL.out⟩
theorem Qe6 (b:Value) (bn:Int) (s i f c x:Value) (n:Nat) (F:Nat->Nat) (w:World) (hn:n<=1048576)
  (hN:∀ W,Below w.heap.size w W->NumV (vecV 4 b bn s i f c x) 4 n F W) :
  Calls Tryz.prog 174 #[vecV 4 b bn s i f c x] w fun e w'=>e= .returned (.int .i64 (leastF F n:Nat))/\Below w.heap.size w w':=by
 have HK:=hD (fun W=>QcU 4 b bn s i f c x W)
 have HN:=hD hN
 clear hN
 go_enter Tryz.func174,Tryz.ntmps174
 go_wp2_with fail
 refine (HN.out _ (bel1 w _)).cls.mono ?_
 rintro e w1 ⟨rfl,hb1⟩
 have HX1:=hD ((QaF w 39 4 b bn s i f c x).below hb1)
 have HB1:=hD (Qaa (bel1 w _) hb1)
 clear hb1
 obtain ⟨h0,h1,h2,h3,h4,h5,h6,h7⟩:=HX1.out
 go_wp2_with fail
 refine (HK.out _).mono ?_
 rintro e w2 ⟨rfl,hb2⟩
 have HX2:=hD (HX1.out.below hb2)
 have HB2:=hD (Qaa HB1.out hb2)
 clear hb2 h0 h1 h2 h3 h4 h5 h6 h7 HX1 HB1
 obtain ⟨h0,h1,h2,h3,h4,h5,h6,h7⟩:=HX2.out
 go_wp2_with fail
 refine (HN.out _ HB2.out).len.mono ?_
 rintro e w3 ⟨rfl,hb3⟩
 have HX3:=hD (HX2.out.below hb3)
 have HB3:=hD (Qaa HB2.out hb3)
 clear hb3 h0 h1 h2 h3 h4 h5 h6 h7 HX2 HB2
 go_wp2_with fail
 go_loopw [3,19] (fun q j wr=>∃ m:Nat,m<=n/\j= .int .i64 m/\q= .int .i64 (leastF F m:Nat)/\Below w.heap.size w wr/\Boxed wr w.heap.size 4 b bn s i f c x) (fun _ j _=>n - (intOf j).toNat)
 case atStart=>exact ⟨0,Nat.zero_le _,rfl,rfl,HB3.out,HX3.out⟩
 case round =>
  obtain ⟨m,hm,rfl,rfl,hbl,hx⟩:=hrel
  have HBL:=hD hbl
  have HX:=hD hx
  clear hbl
  by_cases hlt:m < n
  ·obtain ⟨h0,h1,h2,h3,h4,h5,h6,h7⟩:=hx
   have HTF:=hD ((HN.out _ HBL.out).tf m hlt)
   have HWF:=hD ((HN.out _ HBL.out).wholeF rfl m hlt)
   go_wp2_with fail
   refine HWF.out.mono ?_
   rintro e w4 ⟨rfl,hb4⟩
   have HX4':=hD (HX.out.below hb4)
   have HB4':=hD (Qaa HBL.out hb4)
   clear hb4 h0 h1 h2 h3 h4 h5 h6 h7 HX
   obtain ⟨h0,h1,h2,h3,h4,h5,h6,h7⟩:=HX4'.out
   go_wp2_with fail
   refine ((HN.out _ HB4'.out).num m hlt).mono ?_
   rintro e w4b ⟨rfl,hb4⟩
   have HX4:=hD (HX4'.out.below hb4)
   have HB4:=hD (Qaa HB4'.out hb4)
   clear hb4 h0 h1 h2 h3 h4 h5 h6 h7 HX4' HB4'
   rcases QaS HTF.out with ⟨z,hz,hFz,hwz⟩ | ⟨hno,t,Z,hZ,hFz,hnw⟩
   rotate_left
   ·have HNO:=hD (fun W=>Qcb t hZ hnw W)
    have HE:Hid (((leastF F n:Nat):Int)=4):=by
     have e1:=Qe5 F hlt
     rw [QoQ hno] at e1
     have e2:=Qdw F n
     show _=_
     omega
    rw [hFz]
    clear hFz hno hZ hnw
    go_wp2_with fail
    refine (HNO.out _).mono ?_
    rintro e w5 ⟨⟨zz,rfl⟩,rfl⟩
    go_wp2
    go_ret
    exact ⟨by rw [HE.out];rfl,HB4.out⟩
   have HM:Hid (leastF F (m+1)=max (leastF F m) (rankS z)):=by
    show _=_
    rw [<- QeG hz,<- hFz]
    rfl
   have HR:=hD (Qju z)
   have HWZ:=hD (fun W=>Qbq z hz W)
   rw [hFz]
   clear hFz hz hwz
   go_wp2_with fail
   refine (HWZ.out _).mono ?_
   rintro e w5 ⟨rfl,rfl⟩
   obtain ⟨h0,h1,h2,h3,h4,h5,h6,h7⟩:=HX4.out
   generalize leastF F m=p at *
   generalize rankS z=r at *
   go_wp2_with fail
   refine (HR.out _).mono ?_
   rintro e w5 ⟨rfl,rfl⟩
   go_wp2_with fail
   case isTrue h3 =>
    refine (HK.out _).mono ?_
    rintro e w6 ⟨rfl,hb6⟩
    have HB6:=hD (Qaa HB4.out hb6)
    have HX6:=hD (HX4.out.below hb6)
    clear hb6
    go_wp2
    go_roundw
    case rel=>exact ⟨m+1,by omega,by go_num,by rw [HM.out];exact congrArg _ (by omega),HB6.out,HX6.out⟩
    case measure=>simp [intOf];omega
   case roundEnd h3 =>
    exact ⟨⟨m+1,by omega,by go_num,by rw [HM.out];exact congrArg _ (by omega),HB4.out,HX4.out⟩,by simp [intOf];omega⟩
  ·obtain rfl:m=n:=by omega
   clear hx
   go_wp2
   go_ret
   exact ⟨rfl,HBL.out⟩
theorem QbJ (a:Option Addr) (m c:Nat) (len:Int) (w:World) :
  Calls Tryz.prog 24 #[.agg #[.slice a m c,.int .i64 len]] w fun e w'=>e= .returned (vecV 1 (.slice a m c) len vnil vnil vnil vnil vnil)/\Below w.heap.size w w':=by
 have HK:=hD (heap_alloc_new (w.alloc (.cells #[.slice a m c,.int .i64 len] 33)) (.cells #[.int .i64 1,.slice a m c,.int .i64 len,vnil,vnil,vnil,vnil,vnil] 39))
 go_enter Tryz.func24,Tryz.ntmps24
 go_wp2
 exact bodyPost_ret (Qbp rfl _ _ _ rfl (by have h:=HK.out;simpa using h)) rfl ⟨rfl,bel2 _ _ _⟩
theorem QbW:(Tryz.prog.info? 4).map (fun i=>(i.zero,i.size,i.bytes))=some (some (.bool false),1,1):=by kernel_rfl
def QoS (w:World) (e:Ending) (w':World):Prop:=e= .returned (.tuple #[vecV 0 vnil 0 vnil vnil vnil vnil vnil,.bool false])/\Below w.heap.size w w'
def Qrp (n:Nat) (l:Nat->Bool) (w:World) (e:Ending) (w':World):Prop :=
 ∃ g,e= .returned (.tuple #[vecV 1 (.slice (some ⟨g,0,none⟩) ((n+63) / 64) ((n+63) / 64)) n vnil vnil vnil vnil vnil,.bool true])/\RowU w' w.heap.size g ((n+63) / 64) (packW l n)/\Below w.heap.size w w'
theorem Qdx (p:Nat->Bool) (n:Nat):(∀ j,j < n->p j=true)\/∃ K,K < n/\p K=false/\∀ j,j < K->p j=true:=by
 induction n with
 | zero=>exact .inl fun j hj=>absurd hj (Nat.not_lt_zero _)
 | succ n ih =>
  rcases ih with h | ⟨K,h1,h2,h3⟩
  ·cases hp:p n with
   | true =>
    refine .inl fun j hj=>?_
    by_cases e:j=n
    ·rw [e];exact hp
    ·exact h j (by omega)
   | false=>exact .inr ⟨n,by omega,hp,h⟩
  ·exact .inr ⟨K,by omega,h2,h3⟩
def Qrq (n K:Nat) (F:Nat->Nat) (w:World) (e:Ending) (w':World):Prop:=(K=n/\Qrp n (fun j=>tv (F j)) w e w')\/(K < n/\QoS w e w')
theorem Qhu (k:Int) (b:Value) (bn:Int) (s i f c x:Value) (n K:Nat) (F:Nat->Nat) (w:World) (hn:n<=1048576)
  (hN:∀ W,Below w.heap.size w W->NumV (vecV k b bn s i f c x) k n F W) (hK:K<=n) (hyes:∀ j,j < K->isT (F j)=true) (hno:K < n->isT (F K)=false) :
  Calls Tryz.prog 231 #[vecV k b bn s i f c x] w (Qrq n K F w):=by
 have HN:=hD hN
 have HY:=hD hyes
 have HNO:=hD hno
 have hmk:=run_make_row' (P:=Tryz.prog) 72 4 (.bool false) 1 Tryz.underlying72 QbW rfl .i64 .i64 n (by omega) (by omega)
 clear hN hyes hno
 go_enter Tryz.func231,Tryz.ntmps231
 go_wp2_with fail
 refine (HN.out _ (bel2 w _ _)).len.mono ?_
 rintro e w1 ⟨rfl,hb1⟩
 have HS1:=hD ((St.new w k b bn s i f c x).step hb1)
 clear hb1
 have HGN:Hid (w.heap.size+2<=w1.heap.size):=HS1.out.sz
 have HF0:=hD (Fill.made w1 (w.heap.size+2) HS1.out.sz 4 (fun j => .bool (tv (F j))) (.bool false) n (by unfold maxLen;omega))
 have HSM:=hD (HS1.out.al (.cells (madeCells #[.bool false] n) 4))
 go_wp2_with fail
 go_loopw [13] (fun j wr=>∃ m:Nat,m<=K/\j= .int .i64 m/\Fill wr (w.heap.size+2) w1.heap.size 4 (fun j => .bool (tv (F j))) (.bool false) n m/\St w wr k b bn s i f c x) (fun j _=>n - (intOf j).toNat)
 case atStart=>exact ⟨0,Nat.zero_le _,rfl,HF0.out,HSM.out⟩
 case round =>
  clear hmk HF0 HSM HS1
  obtain ⟨m,hm,rfl,hf,hst⟩:=hrel
  have HF:=hD hf
  have HST:=hD hst
  clear hf hst
  by_cases hlt:m < n
  ·obtain ⟨h0,h1,h2,h3,h4,h5,h6,h7⟩:=HST.out.box
   have HTR:=hD (fun W=>Qe0 (F m) ((HN.out _ HST.out.bel).tf m hlt) W)
   have hlt2:(m:Int) < (n:Int):=by omega
   go_wp2_with fail
   refine ((HN.out _ HST.out.bel).num m hlt).mono ?_
   rintro e w3 ⟨rfl,hb3⟩
   have HS3:=hD (HST.out.step hb3)
   have HF3:=hD (HF.out.below hb3)
   clear hb3 h0 h1 h2 h3 h4 h5 h6 h7
   by_cases hmK:m < K
   ·rw [HY.out m hmK] at HTR
    have HP3:=hD (HF3.out.put hlt)
    have HS3':=hD (HS3.out.put (g:=w1.heap.size) (j:=m) HGN.out (.bool (tv (F m))))
    have hc3:=HF3.out.cell hlt
    have hz3:=HF3.out.frozen m
    generalize tv (F m)=t at *
    go_wp2_with fail
    refine (HTR.out _).mono ?_
    rintro e w4 ⟨rfl,rfl⟩
    go_wp2
    go_roundw
    case rel=>exact ⟨m+1,by omega,by go_num,HP3.out,HS3'.out⟩
    case measure=>simp [intOf];omega
   ·obtain rfl:m=K:=by omega
    rw [HNO.out hlt] at HTR
    generalize tv (F m)=t at *
    go_wp2_with fail
    refine (HTR.out _).mono ?_
    rintro e w4 ⟨rfl,rfl⟩
    obtain ⟨⟨h0,h1,h2,h3,h4,h5,h6,h7⟩,hz⟩:=Qag HS3.out.res
    go_wp2
    refine bodyPost_ret (v := .tuple #[vecV 0 vnil 0 vnil vnil vnil vnil vnil,.bool false]) ?_ rfl (.inr ⟨hlt,rfl,Qac HS3.out.bel (Nat.le_succ _) _ _ _ _ _ _ _ _⟩)
    exact Qas (fn:=Tryz.f231) (p:=2) (u:=3) rfl _ _ (w.heap.size+1) (by rfl) (Qad HS3.out.res _ _ _ _ _ _ _ _)
  ·obtain rfl:m=n:=by omega
   obtain rfl:K=m:=by omega
   have HPK:=hD (QcV w1.heap.size 0 K K (fun j=>tv (F j)) hn (Nat.le_refl _) wr (fun i hi=>by rw [Nat.zero_add];exact HF.out.done i hi (Nat.le_refl _)))
   go_wp2_with fail
   refine HPK.out.mono ?_
   rintro e w4 ⟨g,rfl,hr4,hb4⟩
   have HS4:=hD (HST.out.step hb4)
   have HR4:=hD (hr4.lower (show w.heap.size+2<=wr.heap.size from HST.out.sz))
   clear hb4 hr4
   go_wp2_with fail
   refine (QbJ _ _ _ _ _).mono ?_
   rintro e w5 ⟨rfl,hb5⟩
   have HS5:=hD (HS4.out.step hb5)
   have HR5:=hD (HR4.out.below hb5)
   clear hb5
   obtain ⟨⟨h0,h1,h2,h3,h4,h5,h6,h7⟩,hz⟩:=Qag HS5.out.res
   have hgl:w.heap.size+2<=g:=HR5.out.low.1
   go_wp2
   refine bodyPost_ret (v := .tuple #[vecV 1 (.slice (some ⟨g,0,none⟩) ((K+63) / 64) ((K+63) / 64)) (K:Nat) vnil vnil vnil vnil vnil,.bool true]) ?_ rfl (.inl ⟨rfl,g,rfl,?_,Qac HS5.out.bel (Nat.le_succ _) _ _ _ _ _ _ _ _⟩)
   ·exact Qas (fn:=Tryz.f231) (p:=2) (u:=3) rfl _ _ (w.heap.size+1) (by rfl) (Qad HS5.out.res _ _ _ _ _ _ _ _)
   ·exact Qcr (HR5.out.lower (by omega)) (by show some g≠_;intro e;injection e;omega) _ _ _ _ _ _ _ _
def SqW (b:Nat) (w:World) (e:Ending) (w':World):Prop :=
 ((∃ z,wholeP b=some z/\e= .returned (.tuple #[.int .i64 z,.bool true]))\/(wholeP b=none/\∃ m:Int,e= .returned (.tuple #[.int .i64 m,.bool false])))/\Below w.heap.size w w'
theorem QiF (k:Int) (hk:k≠4) (b:Value) (bn:Int) (s i f c x:Value) (n:Nat) (F:Nat->Nat) (w:World)
  (hN:∀ W,Below w.heap.size w W->NumV (vecV k b bn s i f c x) k n F W) (j:Nat) (hj:j < n) :
  Calls Tryz.prog 254 #[vecV k b bn s i f c x,.int .i64 (j:Int)] w (SqW (F j) w):=by
 obtain ⟨z,hz,e⟩:=(hN w (Below.refl _ _)).ints hk j hj
 have HV:=hD ((hN _ (bel1 w (.cells #[.int .i64 k,b,.int .i64 bn,s,i,f,c,x] 39))).wholeI hk j hj z hz e)
 have HW:Hid (wholeP (F j)=some z):=by show _=_;rw [e];exact QcH hz
 clear hN e
 go_enter Tryz.func254,Tryz.ntmps254
 go_wp2_with fail
 refine HV.out.mono ?_
 rintro e w1 ⟨rfl,hb1⟩
 have HB1:=hD (Qaa (bel1 w _) hb1)
 clear hb1
 go_wp2
 go_ret2
 exact ⟨.inl ⟨z,HW.out,rfl⟩,HB1.out⟩
theorem QgK (b:Value) (bn:Int) (s i f c x:Value) (n:Nat) (F:Nat->Nat) (w:World)
  (hN:∀ W,Below w.heap.size w W->NumV (vecV 4 b bn s i f c x) 4 n F W) (j:Nat) (hj:j < n) :
  Calls Tryz.prog 254 #[vecV 4 b bn s i f c x,.int .i64 (j:Int)] w (SqW (F j) w):=by
 have HN:=hD hN
 have HV:=hD ((hN _ (bel1 w (.cells #[.int .i64 4,b,.int .i64 bn,s,i,f,c,x] 39))).wholeF rfl j hj)
 have HTF:=hD ((hN w (Below.refl _ _)).tf j hj)
 clear hN
 go_enter Tryz.func254,Tryz.ntmps254
 go_wp2_with fail
 refine HV.out.mono ?_
 rintro e w1 ⟨rfl,hb1⟩
 have HB1:=hD (Qaa (bel1 w _) hb1)
 obtain ⟨h0,h1,h2,h3,h4,h5,h6,h7⟩:=(QaF w 39 4 b bn s i f c x).below hb1
 clear hb1
 go_wp2_with fail
 refine ((HN.out _ HB1.out).num j hj).mono ?_
 rintro e w2 ⟨rfl,hb2⟩
 have HB2:=hD (Qaa HB1.out hb2)
 clear hb2 h0 h1 h2 h3 h4 h5 h6 h7
 rcases QaS HTF.out with ⟨z,hz,e,hwz⟩ | ⟨hno,t,Z,hZ,e,hnw⟩
 ·have HZ:=hD (fun W=>Qbq z hz W)
  have HWZ:=hD hwz
  rw [<- e] at HZ
  clear e hz hwz
  generalize F j=y at *
  go_wp2_with fail
  refine (HZ.out _).mono ?_
  rintro e w3 ⟨rfl,rfl⟩
  go_wp2
  go_ret2
  exact ⟨.inl ⟨z,HWZ.out,rfl⟩,HB2.out⟩
 ·have HZ:=hD (fun W=>Qcb t hZ hnw W)
  have HWZ:=hD hno
  rw [<- e] at HZ
  clear e hZ hno hnw
  generalize F j=y at *
  go_wp2_with fail
  refine (HZ.out _).mono ?_
  rintro e w3 ⟨⟨m,rfl⟩,rfl⟩
  go_wp2
  go_ret2
  exact ⟨.inr ⟨HWZ.out,m,rfl⟩,HB2.out⟩
theorem Qe7 (k:Int) (b:Value) (bn:Int) (s i f c x:Value) (n:Nat) (F:Nat->Nat) (w:World)
  (hN:∀ W,Below w.heap.size w W->NumV (vecV k b bn s i f c x) k n F W) (j:Nat) (hj:j < n) :
  Calls Tryz.prog 254 #[vecV k b bn s i f c x,.int .i64 (j:Int)] w (SqW (F j) w):=by
 by_cases hk:k=4
 ·subst hk;exact QgK b bn s i f c x n F w hN j hj
 ·exact QiF k hk b bn s i f c x n F w hN j hj
noncomputable def zOf (b:Nat):Int:=(wholeP b).getD 0
theorem Qen {b:Nat}{z:Int} (h:wholeP b=some z):zOf b=z:=by unfold zOf;rw [h];rfl
noncomputable def QcI (b:Nat):Bool:=match wholeP b with
 | some z=>decide (-128<=z/\z<=127)
 | none=>false
theorem Qe8 {b:Nat} (h:QcI b=true):∃ z,wholeP b=some z/\-128<=z/\z<=127:=by
 unfold QcI at h
 split at h
 ·rename_i z e;exact ⟨z,e,of_decide_eq_true h⟩
 ·cases h
def QoT (n:Nat) (F:Nat->Nat) (w:World) (e:Ending) (w':World):Prop :=
 ∃ a n' c',e= .returned (.tuple #[vecV 2 vnil 0 (.slice a n' c') vnil vnil vnil vnil,.bool true])/\Own1 w' w.heap.size 194 (.slice a n' c') ((List.range n).map fun j => .int .i8 (zOf (F j)))/\Below w.heap.size w w'
def QoU (n K:Nat) (F:Nat->Nat) (w:World) (e:Ending) (w':World):Prop:=(K=n/\QoT n F w e w')\/(K < n/\QoS w e w')
theorem QfO (k:Int) (b:Value) (bn:Int) (s i f c x:Value) (n K:Nat) (F:Nat->Nat) (w:World) (hn:n<=1000000)
  (hN:∀ W,Below w.heap.size w W->NumV (vecV k b bn s i f c x) k n F W) (hK:K<=n) (hyes:∀ j,j < K->QcI (F j)=true) (hno:K < n->QcI (F K)=false) :
  Calls Tryz.prog 232 #[vecV k b bn s i f c x] w (QoU n K F w):=by
 have HN:=hD hN
 have HY:=hD hyes
 have HNO:=hD hno
 have hmk:=run_make_row' (P:=Tryz.prog) 34 194 (.int .i8 0) 1 Tryz.underlying34 QqR rfl .i64 .i64 n (by omega) (by omega)
 clear hN hyes hno
 go_enter Tryz.func232,Tryz.ntmps232
 go_wp2_with fail
 refine (HN.out _ (bel2 w _ _)).len.mono ?_
 rintro e w1 ⟨rfl,hb1⟩
 have HS1:=hD ((St.new w k b bn s i f c x).step hb1)
 clear hb1
 have HGN:Hid (w.heap.size+2<=w1.heap.size):=HS1.out.sz
 have HF0:=hD (Fill.made w1 (w.heap.size+2) HS1.out.sz 194 (fun j => .int .i8 (zOf (F j))) (.int .i8 0) n (by unfold maxLen;omega))
 have HSM:=hD (HS1.out.al (.cells (madeCells #[.int .i8 0] n) 194))
 go_wp2_with fail
 go_loopw [13] (fun j wr=>∃ m:Nat,m<=K/\j= .int .i64 m/\Fill wr (w.heap.size+2) w1.heap.size 194 (fun j => .int .i8 (zOf (F j))) (.int .i8 0) n m/\St w wr k b bn s i f c x) (fun j _=>n - (intOf j).toNat)
 case atStart=>exact ⟨0,Nat.zero_le _,rfl,HF0.out,HSM.out⟩
 case round =>
  clear hmk HF0 HSM HS1
  obtain ⟨m,hm,rfl,hf,hst⟩:=hrel
  have HF:=hD hf
  have HST:=hD hst
  clear hf hst
  by_cases hlt:m < n
  ·obtain ⟨h0,h1,h2,h3,h4,h5,h6,h7⟩:=HST.out.box
   have hlt2:(m:Int) < (n:Int):=by omega
   have HWH:=hD (Qe7 k b bn s i f c x n F wr (fun W hb=>HN.out W (Qaa HST.out.bel hb)) m hlt)
   go_wp2_with fail
   refine HWH.out.mono ?_
   rintro e w3 ⟨hres,hb3⟩
   have HS3:=hD (HST.out.step hb3)
   have HF3:=hD (HF.out.below hb3)
   clear hb3 h0 h1 h2 h3 h4 h5 h6 h7
   by_cases hmK:m < K
   ·obtain ⟨z,hwz,hz1,hz2⟩:=Qe8 (HY.out m hmK)
    have hez:zOf (F m)=z:=Qen hwz
    have HP3:=hD (HF3.out.put hlt)
    have HS3':=hD (HS3.out.put (g:=w1.heap.size) (j:=m) HGN.out (.int .i8 (zOf (F m))))
    have hc3:=HF3.out.cell hlt
    have hz3:=HF3.out.frozen m
    rw [hez] at HP3 HS3'
    rcases hres with ⟨z',e1,rfl⟩ | ⟨e1,_⟩
    ·rw [hwz] at e1
     injection e1 with e1
     subst e1
     clear hwz hez
     go_wp2
     go_roundw
     case rel=>exact ⟨m+1,by omega,by go_num,HP3.out,HS3'.out⟩
     case measure=>simp [intOf];omega
    ·rw [hwz] at e1;cases e1
   ·obtain rfl:m=K:=by omega
    have hbad:=HNO.out hlt
    obtain ⟨⟨h0,h1,h2,h3,h4,h5,h6,h7⟩,hz⟩:=Qag HS3.out.res
    rcases hres with ⟨z',e1,rfl⟩ | ⟨e1,mm,rfl⟩
    ·have hout:¬ (-128<=z'/\z'<=127):=by
      intro hh
      unfold QcI at hbad
      rw [e1] at hbad
      have hb2:decide (-128<=z'/\z'<=127)=false:=hbad
      rw [decide_eq_true hh] at hb2
      cases hb2
     clear e1 hbad
     by_cases hlow:z' < -128
     ·go_wp2
      refine bodyPost_ret (v := .tuple #[vecV 0 vnil 0 vnil vnil vnil vnil vnil,.bool false]) ?_ rfl (.inr ⟨hlt,rfl,Qac HS3.out.bel (Nat.le_succ _) _ _ _ _ _ _ _ _⟩)
      exact Qas (fn:=Tryz.f232) (p:=2) (u:=3) rfl _ _ (w.heap.size+1) (by rfl) (Qad HS3.out.res _ _ _ _ _ _ _ _)
     ·have hhigh:127 < z':=by omega
      clear hout
      go_wp2
      refine bodyPost_ret (v := .tuple #[vecV 0 vnil 0 vnil vnil vnil vnil vnil,.bool false]) ?_ rfl (.inr ⟨hlt,rfl,Qac HS3.out.bel (Nat.le_succ _) _ _ _ _ _ _ _ _⟩)
      exact Qas (fn:=Tryz.f232) (p:=2) (u:=3) rfl _ _ (w.heap.size+1) (by rfl) (Qad HS3.out.res _ _ _ _ _ _ _ _)
    ·clear e1 hbad
     go_wp2
     refine bodyPost_ret (v := .tuple #[vecV 0 vnil 0 vnil vnil vnil vnil vnil,.bool false]) ?_ rfl (.inr ⟨hlt,rfl,Qac HS3.out.bel (Nat.le_succ _) _ _ _ _ _ _ _ _⟩)
     exact Qas (fn:=Tryz.f232) (p:=2) (u:=3) rfl _ _ (w.heap.size+1) (by rfl) (Qad HS3.out.res _ _ _ _ _ _ _ _)
  ·obtain rfl:m=n:=by omega
   obtain rfl:K=m:=by omega
   have HSS:=hD (QkC (w:=wr) (l:=(List.range K).map fun j=>zOf (F j)) (v := .slice (some ⟨w1.heap.size,0,none⟩) K K) (by rw [List.map_map];exact HF.out.own.reads) (by simp;omega))
   go_wp2_with fail
   refine HSS.out.mono ?_
   rintro e w4 ⟨u,rfl,ho,hb4⟩
   have HS4:=hD (HST.out.step hb4)
   have HO:=hD (ho.lower (show w.heap.size+2<=wr.heap.size from HST.out.sz))
   rw [List.map_map] at HO
   obtain ⟨a,n',c',hu⟩:∃ a n c,u= .slice a n c:=by obtain ⟨a,c,e⟩:=ho.reads.len;exact ⟨a,_,c,e⟩
   subst hu
   have HNE:Hid ((Value.slice a n' c').ownBlock≠some (w.heap.size+1)):=fun e=>by have:=(World.ownsRow.lt HO.out _ e).1;omega
   clear hb4 ho
   obtain ⟨⟨h0,h1,h2,h3,h4,h5,h6,h7⟩,hz⟩:=Qag HS4.out.res
   go_wp2
   refine bodyPost_ret (v := .tuple #[vecV 2 vnil 0 (.slice a n' c') vnil vnil vnil vnil,.bool true]) ?_ rfl (.inl ⟨rfl,a,n',c',rfl,Qcr (HO.out.lower (by omega)) HNE.out _ _ _ _ _ _ _ _,Qac HS4.out.bel (Nat.le_succ _) _ _ _ _ _ _ _ _⟩)
   exact Qas (fn:=Tryz.f232) (p:=2) (u:=3) rfl _ _ (w.heap.size+1) (by rfl) (Qad HS4.out.res _ _ _ _ _ _ _ _)
def Qs8 (n K:Nat) (F:Nat->Nat) (w:World) (e:Ending) (w':World):Prop :=
 (K=n/\∃ g,e= .returned (.tuple #[.slice (some ⟨g,0,none⟩) n n,.bool true])/\Own1 w' w.heap.size 2 (.slice (some ⟨g,0,none⟩) n n) ((List.range n).map fun j => .int .i64 (zOf (F j)))/\Below w.heap.size w w') \/
 (K < n/\e= .returned (.tuple #[.slice none 0 0,.bool false])/\Below w.heap.size w w')
theorem Qhv (k:Int) (b:Value) (bn:Int) (s i f c x:Value) (n K:Nat) (F:Nat->Nat) (w:World) (hn:n<=1000000)
  (hN:∀ W,Below w.heap.size w W->NumV (vecV k b bn s i f c x) k n F W) (hK:K<=n) (hyes:∀ j,j < K->∃ z,wholeP (F j)=some z) (hno:K < n->wholeP (F K)=none) :
  Calls Tryz.prog 233 #[vecV k b bn s i f c x] w (Qs8 n K F w):=by
 have HN:=hD hN
 have HY:=hD hyes
 have HNO:=hD hno
 have hmk:=run_make_row' (P:=Tryz.prog) 35 2 (.int .i64 0) 8 Tryz.underlying35 Qgz rfl .i64 .i64 n (by omega) (by omega)
 clear hN hyes hno
 go_enter Tryz.func233,Tryz.ntmps233
 go_wp2_with fail
 refine (HN.out _ (bel1 w _)).len.mono ?_
 rintro e w1 ⟨rfl,hb1⟩
 have HX1:=hD ((QaF w 39 k b bn s i f c x).below hb1)
 have HB1:=hD (Qaa (bel1 w _) hb1)
 clear hb1
 have HGN:Hid (w.heap.size+1<=w1.heap.size):=HX1.out.lt
 have HF0:=hD (Fill.made w1 w.heap.size HB1.out.size 2 (fun j => .int .i64 (zOf (F j))) (.int .i64 0) n (by unfold maxLen;omega))
 have HBM:=hD (HB1.out.alloc HB1.out.size (.cells (madeCells #[.int .i64 0] n) 2))
 have HXM:=hD (HX1.out.below (bel1 w1 (.cells (madeCells #[.int .i64 0] n) 2)))
 go_wp2_with fail
 go_loopw [13] (fun j wr=>∃ m:Nat,m<=K/\j= .int .i64 m/\Fill wr w.heap.size w1.heap.size 2 (fun j => .int .i64 (zOf (F j))) (.int .i64 0) n m/\Below w.heap.size w wr/\Boxed wr w.heap.size k b bn s i f c x) (fun j _=>n - (intOf j).toNat)
 case atStart=>exact ⟨0,Nat.zero_le _,rfl,HF0.out,HBM.out,HXM.out⟩
 case round =>
  clear hmk HF0 HBM HXM HB1 HX1
  obtain ⟨m,hm,rfl,hf,hbl,hx⟩:=hrel
  have HF:=hD hf
  have HBL:=hD hbl
  have HX:=hD hx
  clear hf hbl
  by_cases hlt:m < n
  ·obtain ⟨h0,h1,h2,h3,h4,h5,h6,h7⟩:=hx
   have hlt2:(m:Int) < (n:Int):=by omega
   have HWH:=hD (Qe7 k b bn s i f c x n F wr (fun W hb=>HN.out W (Qaa HBL.out hb)) m hlt)
   go_wp2_with fail
   refine HWH.out.mono ?_
   rintro e w3 ⟨hres,hb3⟩
   have HB3:=hD (Qaa HBL.out hb3)
   have HX3:=hD (HX.out.below hb3)
   have HF3:=hD (HF.out.below hb3)
   clear hb3 h0 h1 h2 h3 h4 h5 h6 h7
   by_cases hmK:m < K
   ·obtain ⟨z,hwz⟩:=HY.out m hmK
    have hez:zOf (F m)=z:=Qen hwz
    have HP3:=hD (HF3.out.put hlt)
    have HB4:=hD (HF3.out.bel HB3.out m (.int .i64 (zOf (F m))))
    have HX4:=hD (HX3.out.set (p:=⟨w1.heap.size,m,none⟩) (by have:=HGN.out;show w1.heap.size≠w.heap.size;omega) (.int .i64 (zOf (F m))))
    have hc3:=HF3.out.cell hlt
    have hz3:=HF3.out.frozen m
    rw [hez] at HP3 HB4 HX4
    rcases hres with ⟨z',e1,rfl⟩ | ⟨e1,_⟩
    ·rw [hwz] at e1
     injection e1 with e1
     subst e1
     clear hwz hez
     go_wp2
     go_roundw
     case rel=>exact ⟨m+1,by omega,by go_num,HP3.out,HB4.out,HX4.out⟩
     case measure=>simp [intOf];omega
    ·rw [hwz] at e1;cases e1
   ·obtain rfl:m=K:=by omega
    have hbad:=HNO.out hlt
    rcases hres with ⟨z',e1,rfl⟩ | ⟨e1,mm,rfl⟩
    ·rw [hbad] at e1;cases e1
    ·clear e1 hbad
     go_wp2
     go_ret2
     exact .inr ⟨hlt,rfl,HB3.out⟩
  ·obtain rfl:m=n:=by omega
   obtain rfl:K=m:=by omega
   clear hx
   go_wp2
   go_ret2
   exact .inl ⟨rfl,_,rfl,HF.out.own,HBL.out⟩
noncomputable def fitB (kd:Int) (F:Nat->Nat) (n:Nat):Bool :=
 if kd=1 then (List.range n).all fun j=>isT (F j) else if kd=2 then (List.range n).all fun j=>QcI (F j) else if kd=3 then (List.range n).all fun j=>(wholeP (F j)).isSome else true
def PI (kd:Int) (n:Nat) (F:Nat->Nat) (u:Value) (t:Bool) (W:World):Prop :=
 t=fitB kd F n/\(t=true->NumV u kd n F W)/\(t=false->u=vecV 0 vnil 0 vnil vnil vnil vnil vnil)
def Sub (H:Nat->Prop) (W:World) (P:Value->Bool->World->Prop) (e:Ending) (w':World):Prop :=
 ∃ (k:Int) (b:Sl) (bn:Int) (s i f c x:Sl) (t:Bool),e= .returned (.tuple #[vecW k b bn s i f c x,.bool t])/\Keeps H w' (P (vecW k b bn s i f c x) t)/\Below W.heap.size W w'
theorem NumV.congr {v:Value}{k:Int}{n:Nat}{F F':Nat->Nat}{w:World} (h:NumV v k n F w) (e:∀ j,j < n->F' j=F j):NumV v k n F' w :=
 ⟨h.cls,h.len,fun j hj=>by rw [e j hj];exact h.num j hj,fun hk j hj z hz hz2=>h.wholeI hk j hj z hz (by rw [<- e j hj];exact hz2),h.wholeF,fun hk j hj=>by rw [e j hj];exact h.ints hk j hj,fun j hj=>by rw [e j hj];exact h.tf j hj,h.kind,fun hk=>by obtain ⟨l,s,h1,h2,h3⟩:=h.bitsX hk;exact ⟨l,s,h1,h2,fun j hj=>by rw [e j hj];exact h3 j hj⟩,fun hk=>by obtain ⟨l,s,h1,h2,h3⟩:=h.intsX hk;exact ⟨l,s,h1,h2,fun j hj=>by rw [e j hj];exact h3 j hj⟩,h.shape⟩
theorem all_range {n:Nat}{p:Nat->Bool}:(List.range n).all p=true↔∀ j,j < n->p j=true:=by
 rw [List.all_eq_true]
 exact ⟨fun h j hj=>h j (List.mem_range.2 hj),fun h j hj=>h j (List.mem_range.1 hj)⟩
theorem QiG {n K:Nat}{p:Nat->Bool} (hK:K < n) (hp:p K=false):(List.range n).all p=false:=by
 cases h:(List.range n).all p with
 | false=>rfl
 | true=>rw [all_range.1 h K hK] at hp;cases hp
theorem Qrr {b:Nat} (h:isT b=true):Qai (tv b)=b:=by
 unfold isT at h
 rcases of_decide_eq_true h with rfl | rfl
 ·rfl
 ·rfl
theorem Keeps.noVec {H:Nat->Prop}{W:World}{kd:Int}{n:Nat}{F:Nat->Nat} (h:fitB kd F n=false):Keeps H W (PI kd n F (vecW 0 (none,0,0) 0 (none,0,0) (none,0,0) (none,0,0) (none,0,0) (none,0,0)) false) :=
 fun _ _ _=>⟨h.symm,(fun e=>by cases e),fun _=>rfl⟩
theorem Qhw (H:Nat->Prop) (k:Int) (b:Value) (bn:Int) (s i f c x:Value) (n:Nat) (F:Nat->Nat) (w:World) (hH:∀ b,H b->b < w.heap.size) (hn:n<=1000000)
  (hN:∀ W,Below w.heap.size w W->NumV (vecV k b bn s i f c x) k n F W) :
  Calls Tryz.prog 231 #[vecV k b bn s i f c x] w (Sub H w (PI 1 n F)):=by
 have main:∀ K,K<=n->(∀ j,j < K->isT (F j)=true)->(K < n->isT (F K)=false)->Calls Tryz.prog 231 #[vecV k b bn s i f c x] w (Sub H w (PI 1 n F)):=by
  intro K hK hy hno
  refine (Qhu k b bn s i f c x n K F w (by omega) hN hK hy hno).mono ?_
  rintro e w' (⟨hKn,g,rfl,hr,hb⟩ | ⟨hKn,rfl,hb⟩)
  ·have hfit:fitB 1 F n=true:=by
    unfold fitB
    rw [if_pos rfl,all_range]
    intro j hj
    exact hy j (by omega)
   refine ⟨1,(some ⟨g,0,none⟩,(n+63) / 64,(n+63) / 64),n,(none,0,0),(none,0,0),(none,0,0),(none,0,0),(none,0,0),true,rfl,?_,hb⟩
   refine (Own1.keepsH hr hH).imp fun W' h2=>⟨hfit.symm,fun _=>?_,fun e=>by cases e⟩
   exact (QbV (by omega) ⟨_,rfl,⟨g,0,_,rfl,fun j hj=>Qbh h2 j hj⟩⟩).congr fun j hj=>(Qrr (hy j (by omega))).symm
  ·have hfit:fitB 1 F n=false:=by unfold fitB;rw [if_pos rfl];exact QiG hKn (hno hKn)
   exact ⟨0,(none,0,0),0,(none,0,0),(none,0,0),(none,0,0),(none,0,0),(none,0,0),false,rfl,Keeps.noVec hfit,hb⟩
 rcases Qdx (fun j=>isT (F j)) n with h | ⟨K,h1,h2,h3⟩
 ·exact main n (Nat.le_refl _) h (fun h=>absurd h (Nat.lt_irrefl _))
 ·exact main K (by omega) h3 (fun _=>h2)
theorem Qqg {b:Nat}{z:Int} (h:wholeP b=some z):fi (zOf b)=b:=by rw [Qen h];exact (Qbz h).2.symm
theorem QfP (H:Nat->Prop) (k:Int) (b:Value) (bn:Int) (s i f c x:Value) (n:Nat) (F:Nat->Nat) (w:World) (hH:∀ b,H b->b < w.heap.size) (hn:n<=1000000)
  (hN:∀ W,Below w.heap.size w W->NumV (vecV k b bn s i f c x) k n F W) :
  Calls Tryz.prog 232 #[vecV k b bn s i f c x] w (Sub H w (PI 2 n F)):=by
 have main:∀ K,K<=n->(∀ j,j < K->QcI (F j)=true)->(K < n->QcI (F K)=false)->Calls Tryz.prog 232 #[vecV k b bn s i f c x] w (Sub H w (PI 2 n F)):=by
  intro K hK hy hno
  refine (QfO k b bn s i f c x n K F w hn hN hK hy hno).mono ?_
  rintro e w' (⟨hKn,a,n',c',rfl,ho,hb⟩ | ⟨hKn,rfl,hb⟩)
  ·have hfit:fitB 2 F n=true:=by
    unfold fitB
    rw [if_neg (by decide),if_pos rfl,all_range]
    intro j hj
    exact hy j (by omega)
   refine ⟨2,(none,0,0),0,(a,n',c'),(none,0,0),(none,0,0),(none,0,0),(none,0,0),true,rfl,?_,hb⟩
   refine (Own1.keepsH ho hH).imp fun W' h2=>⟨hfit.symm,fun _=>?_,fun e=>by cases e⟩
   refine (QkI (l:=fun j=>zOf (F j)) ⟨⟨_,rfl,h2⟩,fun j hj=>?_⟩).congr fun j hj=>?_
   ·obtain ⟨z,hz,h3,h4⟩:=Qe8 (hy j (by omega))
    show -128<=zOf (F j)/\zOf (F j)<=127
    rw [Qen hz]
    exact ⟨h3,h4⟩
   ·obtain ⟨z,hz,h3,h4⟩:=Qe8 (hy j (by omega))
    exact (Qqg hz).symm
  ·have hfit:fitB 2 F n=false:=by unfold fitB;rw [if_neg (by decide),if_pos rfl];exact QiG hKn (hno hKn)
   exact ⟨0,(none,0,0),0,(none,0,0),(none,0,0),(none,0,0),(none,0,0),(none,0,0),false,rfl,Keeps.noVec hfit,hb⟩
 rcases Qdx (fun j=>QcI (F j)) n with h | ⟨K,h1,h2,h3⟩
 ·exact main n (Nat.le_refl _) h (fun h=>absurd h (Nat.lt_irrefl _))
 ·exact main K (by omega) h3 (fun _=>h2)
theorem Qs9 (H:Nat->Prop) (P:Value->Bool->World->Prop) (k:Int) (b:Value) (bn:Int) (s i f c x:Value) (w:World) (hk:k≠1) (hk0:k≠0) (hH:∀ b,H b->b < w.heap.size)
  (hcl:∀ W,Below w.heap.size w W->Calls Tryz.prog 44 #[vecV k b bn s i f c x] W fun e w2=>e= .returned (.int .i64 0)/\Below W.heap.size W w2)
  (hs:∀ W H',Below w.heap.size w W->(∀ b,H' b->b < W.heap.size)->Calls Tryz.prog 231 #[vecV k b bn s i f c x] W (Sub H' W P)) :
  Calls Tryz.prog 173 #[vecV k b bn s i f c x,.int .i64 1] w (Sub H w P):=by
 have HK:=hD (fun W=>QcU k b bn s i f c x W)
 have HC:=hD hcl
 have HI:=hD (fun (W:World) (hb:Below w.heap.size w W)=>hs W (Hole H w W) hb (Hole.lt hH hb))
 clear hcl hs hH
 have e2:(k==1)=false:=by simpa using hk
 have e0:(k==0)=false:=by simpa using hk0
 go_enter Tryz.func173,Tryz.ntmps173
 go_wp2_with fail
 refine (HK.out _).mono ?_
 rintro e w1 ⟨rfl,hb1⟩
 have HS1:=hD ((St.new w k b bn s i f c x).step hb1)
 obtain ⟨h0,h1,h2,h3,h4,h5,h6,h7⟩:=HS1.out.box
 clear hb1
 go_wp2_with fail
 refine (HC.out _ HS1.out.bel).mono ?_
 rintro e w2 ⟨rfl,hb2⟩
 have HS2:=hD (HS1.out.step hb2)
 clear hb2 h0 h1 h2 h3 h4 h5 h6 h7 HS1
 obtain ⟨h0,h1,h2,h3,h4,h5,h6,h7⟩:=HS2.out.box
 go_wp2_with fail
 refine (HK.out _).mono ?_
 rintro e w3 ⟨rfl,hb3⟩
 have HS3:=hD (HS2.out.step hb3)
 clear hb3 h0 h1 h2 h3 h4 h5 h6 h7 HS2
 obtain ⟨h0,h1,h2,h3,h4,h5,h6,h7⟩:=HS3.out.box
 go_wp2_with fail
 refine (HI.out _ HS3.out.bel).mono ?_
 rintro e w4 ⟨k4,b4,bn4,s4,i4,f4,c4,x4,t,rfl,hk4,hb4⟩
 have HS4:=hD (HS3.out.step hb4)
 have HKE:=hD (hk4.sub (H':=fun j=>H j\/j=w.heap.size+1) fun j _ e=>e.imp id fun e=>by have:=HS3.out.sz;omega)
 clear hb4 hk4 h0 h1 h2 h3 h4 h5 h6 h7 HS3
 obtain ⟨⟨h0,h1,h2,h3,h4,h5,h6,h7⟩,hz⟩:=Qag HS4.out.res
 go_wp2
 refine bodyPost_ret (v := .tuple #[vecW k4 b4 bn4 s4 i4 f4 c4 x4,.bool t]) ?_ rfl ⟨k4,b4,bn4,s4,i4,f4,c4,x4,t,rfl,(HKE.out.set8 (.inr rfl) _ _ _ _ _ _ _ _).sub (fun _ _ e => .inl e),Qac HS4.out.bel (Nat.le_succ _) _ _ _ _ _ _ _ _⟩
 exact Qas (fn:=Tryz.f173) (p:=4) (u:=5) rfl _ _ (w.heap.size+1) (by rfl) (Qad HS4.out.res _ _ _ _ _ _ _ _)
theorem Qta (H:Nat->Prop) (P:Value->Bool->World->Prop) (k:Int) (b:Value) (bn:Int) (s i f c x:Value) (w:World) (hk:k≠2) (hk0:k≠0) (hH:∀ b,H b->b < w.heap.size)
  (hcl:∀ W,Below w.heap.size w W->Calls Tryz.prog 44 #[vecV k b bn s i f c x] W fun e w2=>e= .returned (.int .i64 0)/\Below W.heap.size W w2)
  (hs:∀ W H',Below w.heap.size w W->(∀ b,H' b->b < W.heap.size)->Calls Tryz.prog 232 #[vecV k b bn s i f c x] W (Sub H' W P)) :
  Calls Tryz.prog 173 #[vecV k b bn s i f c x,.int .i64 2] w (Sub H w P):=by
 have HK:=hD (fun W=>QcU k b bn s i f c x W)
 have HC:=hD hcl
 have HI:=hD (fun (W:World) (hb:Below w.heap.size w W)=>hs W (Hole H w W) hb (Hole.lt hH hb))
 clear hcl hs hH
 have e2:(k==2)=false:=by simpa using hk
 have e0:(k==0)=false:=by simpa using hk0
 go_enter Tryz.func173,Tryz.ntmps173
 go_wp2_with fail
 refine (HK.out _).mono ?_
 rintro e w1 ⟨rfl,hb1⟩
 have HS1:=hD ((St.new w k b bn s i f c x).step hb1)
 obtain ⟨h0,h1,h2,h3,h4,h5,h6,h7⟩:=HS1.out.box
 clear hb1
 go_wp2_with fail
 refine (HC.out _ HS1.out.bel).mono ?_
 rintro e w2 ⟨rfl,hb2⟩
 have HS2:=hD (HS1.out.step hb2)
 clear hb2 h0 h1 h2 h3 h4 h5 h6 h7 HS1
 obtain ⟨h0,h1,h2,h3,h4,h5,h6,h7⟩:=HS2.out.box
 go_wp2_with fail
 refine (HK.out _).mono ?_
 rintro e w3 ⟨rfl,hb3⟩
 have HS3:=hD (HS2.out.step hb3)
 clear hb3 h0 h1 h2 h3 h4 h5 h6 h7 HS2
 obtain ⟨h0,h1,h2,h3,h4,h5,h6,h7⟩:=HS3.out.box
 go_wp2_with fail
 refine (HI.out _ HS3.out.bel).mono ?_
 rintro e w4 ⟨k4,b4,bn4,s4,i4,f4,c4,x4,t,rfl,hk4,hb4⟩
 have HS4:=hD (HS3.out.step hb4)
 have HKE:=hD (hk4.sub (H':=fun j=>H j\/j=w.heap.size+1) fun j _ e=>e.imp id fun e=>by have:=HS3.out.sz;omega)
 clear hb4 hk4 h0 h1 h2 h3 h4 h5 h6 h7 HS3
 obtain ⟨⟨h0,h1,h2,h3,h4,h5,h6,h7⟩,hz⟩:=Qag HS4.out.res
 go_wp2
 refine bodyPost_ret (v := .tuple #[vecW k4 b4 bn4 s4 i4 f4 c4 x4,.bool t]) ?_ rfl ⟨k4,b4,bn4,s4,i4,f4,c4,x4,t,rfl,(HKE.out.set8 (.inr rfl) _ _ _ _ _ _ _ _).sub (fun _ _ e => .inl e),Qac HS4.out.bel (Nat.le_succ _) _ _ _ _ _ _ _ _⟩
 exact Qas (fn:=Tryz.f173) (p:=4) (u:=5) rfl _ _ (w.heap.size+1) (by rfl) (Qad HS4.out.res _ _ _ _ _ _ _ _)
theorem Qtb (H:Nat->Prop) (k:Int) (b:Value) (bn:Int) (s i f c x:Value) (n:Nat) (F:Nat->Nat) (w:World) (hk:k≠3) (hn:n<=1000000) (hH:∀ b,H b->b < w.heap.size)
  (hN:∀ W,Below w.heap.size w W->NumV (vecV k b bn s i f c x) k n F W) :
  Calls Tryz.prog 173 #[vecV k b bn s i f c x,.int .i64 3] w (Sub H w (PI 3 n F)):=by
 have hk0:k≠0:=by rcases (hN w (Below.refl _ _)).kind with e | e | e | e <;> omega
 have main:∀ K,K<=n->(∀ j,j < K->∃ z,wholeP (F j)=some z)->(K < n->wholeP (F K)=none)->Calls Tryz.prog 173 #[vecV k b bn s i f c x,.int .i64 3] w (Sub H w (PI 3 n F)):=by
  intro K hK hy hno
  have HFY:Hid (K=n->fitB 3 F n=true):=by
   intro e
   unfold fitB
   rw [if_neg (by decide),if_neg (by decide),if_pos rfl,all_range]
   intro j hj
   obtain ⟨z,hz⟩:=hy j (by omega)
   rw [hz];rfl
  have HFN:Hid (K < n->fitB 3 F n=false):=by
   intro e
   unfold fitB
   rw [if_neg (by decide),if_neg (by decide),if_pos rfl]
   exact QiG e (by show (wholeP (F K)).isSome=false;rw [hno e];rfl)
  have HYY:=hD hy
  have HHH:=hD hH
  have HI:=hD (fun (W:World) (hb:Below w.heap.size w W)=>Qhv k b bn s i f c x n K F W hn (fun W' hb'=>hN W' (Qaa hb hb')) hK hy hno)
  have HK:=hD (fun W=>QcU k b bn s i f c x W)
  have HC:=hD (fun W hb=>(hN W hb).cls)
  clear hN hy hno hH
  have e2:(k==3)=false:=by simpa using hk
  have e0:(k==0)=false:=by simpa using hk0
  go_enter Tryz.func173,Tryz.ntmps173
  go_wp2_with fail
  refine (HK.out _).mono ?_
  rintro e w1 ⟨rfl,hb1⟩
  have HS1:=hD ((St.new w k b bn s i f c x).step hb1)
  obtain ⟨h0,h1,h2,h3,h4,h5,h6,h7⟩:=HS1.out.box
  clear hb1
  go_wp2_with fail
  refine (HC.out _ HS1.out.bel).mono ?_
  rintro e w2 ⟨rfl,hb2⟩
  have HS2:=hD (HS1.out.step hb2)
  clear hb2 h0 h1 h2 h3 h4 h5 h6 h7 HS1
  obtain ⟨h0,h1,h2,h3,h4,h5,h6,h7⟩:=HS2.out.box
  go_wp2_with fail
  refine (HK.out _).mono ?_
  rintro e w3 ⟨rfl,hb3⟩
  have HS3:=hD (HS2.out.step hb3)
  clear hb3 h0 h1 h2 h3 h4 h5 h6 h7 HS2
  obtain ⟨h0,h1,h2,h3,h4,h5,h6,h7⟩:=HS3.out.box
  go_wp2_with fail
  refine (HI.out _ HS3.out.bel).mono ?_
  rintro e w4 (⟨hKn,g,rfl,ho,hb4⟩ | ⟨hKn,rfl,hb4⟩)
  ·have HS4:=hD (HS3.out.step hb4)
   have HII:=hD (QgA (w:=w4) (l:=(List.range n).map fun j=>zOf (F j)) (by rw [List.map_map];exact ho.reads) (by simpa using hn) (fun y hy=>by
    obtain ⟨j,hj,rfl⟩:=List.mem_map.1 hy
    obtain ⟨z,hz⟩:=HYY.out j (by have:=List.mem_range.1 hj;omega)
    rw [Qen hz]
    exact (Qbz hz).1))
   have HFI:=hD (HFY.out hKn)
   have HKN:=hD hKn
   clear hb4 ho hKn h0 h1 h2 h3 h4 h5 h6 h7 HS3
   go_wp2_with fail
   refine HII.out.mono ?_
   rintro e w5 ⟨u,rfl,hou,hb5⟩
   rw [List.map_map] at hou
   have HS5:=hD (HS4.out.step hb5)
   have HU:=hD (hou.lower (show w.heap.size+2<=w4.heap.size from HS4.out.sz))
   obtain ⟨a,n',c',hu⟩:∃ a n c,u= .slice a n c:=by obtain ⟨a,c,e⟩:=hou.reads.len;exact ⟨a,_,c,e⟩
   subst hu
   clear hb5 hou
   have HKE:Hid (Keeps (fun j=>j < w.heap.size+2) w5 (PI 3 n F (vecW 3 (none,0,0) 0 (none,0,0) (a,n',c') (none,0,0) (none,0,0) (none,0,0)) true)) :=
    (HU.out.keeps).imp fun W' h2=>⟨HFI.out.symm,(fun _=>(Qe2 (l:=fun j=>zOf (F j)) ⟨⟨_,rfl,h2⟩,fun j hj=>by
     obtain ⟨z,hz⟩:=HYY.out j (by rw [HKN.out];exact hj)
     show Good (zOf (F j))
     rw [Qen hz]
     exact (Qbz hz).1⟩).congr fun j hj=>by
      obtain ⟨z,hz⟩:=HYY.out j (by rw [HKN.out];exact hj)
      exact (Qqg hz).symm),fun e=>by cases e⟩
   obtain ⟨⟨h0,h1,h2,h3,h4,h5,h6,h7⟩,hz⟩:=Qag HS5.out.res
   go_wp2
   refine bodyPost_ret (v := .tuple #[vecV 3 vnil 0 vnil (.slice a n' c') vnil vnil vnil,.bool true]) ?_ rfl ⟨3,(none,0,0),0,(none,0,0),(a,n',c'),(none,0,0),(none,0,0),(none,0,0),true,rfl,(HKE.out.set8 (Nat.lt_succ_self _) _ _ _ _ _ _ _ _).sub (fun j _ e=>by have:=HHH.out j e;show j < w.heap.size+2;omega),Qac HS5.out.bel (Nat.le_succ _) _ _ _ _ _ _ _ _⟩
   exact Qas (fn:=Tryz.f173) (p:=4) (u:=5) rfl _ _ (w.heap.size+1) (by rfl) (Qad HS5.out.res _ _ _ _ _ _ _ _)
  ·have HS4:=hD (HS3.out.step hb4)
   have HFI:=hD (HFN.out hKn)
   clear hb4 hKn h0 h1 h2 h3 h4 h5 h6 h7 HS3
   obtain ⟨⟨h0,h1,h2,h3,h4,h5,h6,h7⟩,hz⟩:=Qag HS4.out.res
   go_wp2
   refine bodyPost_ret (v := .tuple #[vecV 0 vnil 0 vnil vnil vnil vnil vnil,.bool false]) ?_ rfl ⟨0,(none,0,0),0,(none,0,0),(none,0,0),(none,0,0),(none,0,0),(none,0,0),false,rfl,Keeps.noVec HFI.out,Qac HS4.out.bel (Nat.le_succ _) _ _ _ _ _ _ _ _⟩
   exact Qas (fn:=Tryz.f173) (p:=4) (u:=5) rfl _ _ (w.heap.size+1) (by rfl) (Qad HS4.out.res _ _ _ _ _ _ _ _)
 rcases Qdx (fun j=>(wholeP (F j)).isSome) n with h | ⟨K,h1,h2,h3⟩
 ·exact main n (Nat.le_refl _) (fun j hj=>Option.isSome_iff_exists.1 (h j hj)) (fun h=>absurd h (Nat.lt_irrefl _))
 ·exact main K (by omega) (fun j hj=>Option.isSome_iff_exists.1 (h3 j hj)) (fun _=>by
   cases hw:wholeP (F K) with
   | none=>rfl
   | some z=>rw [hw] at h2;cases h2)
theorem Qmc (H:Nat->Prop) (P:Value->Bool->World->Prop) (k:Int) (b:Sl) (bn:Int) (s i f c x:Sl) (w:World)
  (hP:Keeps H w (P (vecW k b bn s i f c x) true)) :
  Calls Tryz.prog 173 #[vecW k b bn s i f c x,.int .i64 k] w (Sub H w P):=by
 have HK:=hD (fun W=>QcU k (.slice b.1 b.2.1 b.2.2) bn (.slice s.1 s.2.1 s.2.2) (.slice i.1 i.2.1 i.2.2) (.slice f.1 f.2.1 f.2.2) (.slice c.1 c.2.1 c.2.2) (.slice x.1 x.2.1 x.2.2) W)
 have HKP:=hD (fun W (hb:Below w.heap.size w W)=>hP.arg hb)
 have ek:(k==k)=true:=by simp
 have HS0:=hD (St.new w k (.slice b.1 b.2.1 b.2.2) bn (.slice s.1 s.2.1 s.2.2) (.slice i.1 i.2.1 i.2.2) (.slice f.1 f.2.1 f.2.2) (.slice c.1 c.2.1 c.2.2) (.slice x.1 x.2.1 x.2.2))
 clear hP
 go_enter Tryz.func173,Tryz.ntmps173
 go_wp2_with fail
 refine (HK.out _).mono ?_
 rintro e w1 ⟨rfl,hb1⟩
 have HS1:=hD (HS0.out.step hb1)
 have HKE:=hD (HKP.out _ HS1.out.bel)
 clear hb1
 obtain ⟨h0,h1,h2,h3,h4,h5,h6,h7⟩:=HS1.out.box
 obtain ⟨⟨g0,g1,g2,g3,g4,g5,g6,g7⟩,gz⟩:=Qag HS1.out.res
 have HSZ:=hD HS1.out.sz
 go_wp2
 refine bodyPost_ret (v := .tuple #[vecW k b bn s i f c x,.bool true]) ?_ rfl ⟨k,b,bn,s,i,f,c,x,true,rfl,(HKE.out.set8 (.inr ⟨Nat.le_succ _,HSZ.out⟩) _ _ _ _ _ _ _ _).sub (fun _ _ e => .inl e),Qac HS1.out.bel (Nat.le_succ _) _ _ _ _ _ _ _ _⟩
 exact Qas (fn:=Tryz.f173) (p:=4) (u:=5) rfl _ _ (w.heap.size+1) (by rfl) (Qad HS1.out.res _ _ _ _ _ _ _ _)
theorem rank1 {b:Nat} (h:Qb6 b<=1):isT b=true:=by
 unfold Qb6 at h
 split at h
 ·rename_i z e
  have hb:=(Qbz e).2
  have hz:z=0\/z=1:=by
   unfold rankS at h
   split at h
   ·assumption
   ·split at h <;> omega
  unfold isT
  rw [decide_eq_true_eq]
  rcases hz with rfl | rfl
  ·left;rw [hb,fi_zero]
  ·right;rw [hb,fi_one]
 ·omega
theorem rank2 {b:Nat} (h:Qb6 b<=2):QcI b=true:=by
 unfold Qb6 at h
 unfold QcI
 split at h
 ·rename_i z e
  try rw [e]
  show decide _=true
  rw [decide_eq_true_eq]
  unfold rankS at h
  split at h
  ·omega
  ·split at h
   ·assumption
   ·omega
 ·omega
theorem rank3 {b:Nat} (h:Qb6 b<=3):(wholeP b).isSome=true:=by
 unfold Qb6 at h
 split at h
 ·rename_i z e;rw [e];rfl
 ·omega
theorem Qhx (F:Nat->Nat) (n:Nat):fitB (leastF F n:Nat) F n=true:=by
 have hle:=Qdw F n
 have hr:∀ j,j < n->Qb6 (F j)<=leastF F n:=fun j hj=>Qe5 F hj
 unfold fitB
 rcases (by omega:leastF F n=1\/leastF F n=2\/leastF F n=3\/leastF F n=4) with e | e | e | e
 ·rw [show ((leastF F n:Nat):Int)=1 by omega,if_pos rfl,all_range];exact fun j hj=>rank1 (by have:=hr j hj;omega)
 ·rw [show ((leastF F n:Nat):Int)=2 by omega,if_neg (by decide),if_pos rfl,all_range];exact fun j hj=>rank2 (by have:=hr j hj;omega)
 ·rw [show ((leastF F n:Nat):Int)=3 by omega,if_neg (by decide),if_neg (by decide),if_pos rfl,all_range];exact fun j hj=>rank3 (by have:=hr j hj;omega)
 ·rw [show ((leastF F n:Nat):Int)=4 by omega,if_neg (by decide),if_neg (by decide),if_neg (by decide)]
theorem QoV (H:Nat->Prop) (kd k:Int) (b:Sl) (bn:Int) (s i f c x:Sl) (n:Nat) (F:Nat->Nat) (w:World) (hH:∀ b,H b->b < w.heap.size) (hn:n<=1000000)
  (hv:Keeps H w (NumV (vecW k b bn s i f c x) k n F)) (hkd:kd=1\/kd=2\/kd=3\/(kd=4/\k=4)) (hf:kd=k->fitB kd F n=true) :
  Calls Tryz.prog 173 #[vecW k b bn s i f c x,.int .i64 kd] w (Sub H w (PI kd n F)):=by
 have hN:∀ W,Below w.heap.size w W->NumV (vecW k b bn s i f c x) k n F W:=fun W hb=>(hv.step hb).now
 have hkind:=(hN w (Below.refl _ _)).kind
 by_cases e:kd=k
 ·subst e
  exact Qmc H _ kd b bn s i f c x w (hv.imp fun W h=>⟨(hf rfl).symm,fun _=>h,fun e=>by cases e⟩)
 ·rcases hkd with rfl | rfl | rfl | ⟨rfl,rfl⟩
  ·exact Qs9 H _ k _ bn _ _ _ _ _ w (fun h=>e h.symm) (by omega) hH (fun W hb=>(hN W hb).cls) fun W H' hb hH'=>Qhw H' k _ bn _ _ _ _ _ n F W hH' hn fun W' hb'=>hN W' (Qaa hb hb')
  ·exact Qta H _ k _ bn _ _ _ _ _ w (fun h=>e h.symm) (by omega) hH (fun W hb=>(hN W hb).cls) fun W H' hb hH'=>QfP H' k _ bn _ _ _ _ _ n F W hH' hn fun W' hb'=>hN W' (Qaa hb hb')
  ·exact Qtb H k _ bn _ _ _ _ _ n F w (fun h=>e h.symm) hn hH hN
  ·exact absurd rfl e
theorem Qmd {H:Nat->Prop}{w W:World}{kd:Int}{n:Nat}{F:Nat->Nat} (hf:fitB kd F n=true) (e:Ending) (w':World) (h:Sub (Hole H w W) W (PI kd n F) e w'):Qs0 H w W (fun u W'=>NumV u kd n F W') e w':=by
 obtain ⟨k,b,bn,s,i,f,c,x,t,rfl,hk,hb⟩:=h
 have ht:t=true:=by rw [hk.now.1,hf]
 subst ht
 exact ⟨k,b,bn,s,i,f,c,x,rfl,hk.imp fun W' h=>h.2.1 rfl,hb⟩
theorem Qcv (H:Nat->Prop) (k:Int) (b:Sl) (bn:Int) (s i f c x:Sl) (n:Nat) (F:Nat->Nat) (w:World) (hH:∀ b,H b->b < w.heap.size) (hn:n<=1000000)
  (hv:Keeps H w (NumV (vecW k b bn s i f c x) k n F)) :
  Calls Tryz.prog 117 #[vecW k b bn s i f c x] w (VecR H w (fun u W=>NumV u (leastF F n:Nat) n F W)):=by
 have hN:∀ W,Below w.heap.size w W->NumV (vecW k b bn s i f c x) k n F W:=fun W hb=>(hv.step hb).now
 have hkind:=(hN w (Below.refl _ _)).kind
 have hle:=Qdw F n
 refine Qix H _ (leastF F n:Nat) k _ bn _ _ _ _ _ w (fun W hb=>?_) (fun W hb=>?_)
 ·rcases hkind with e | e | e | e
  ·exact QbA k (.inl e) _ bn _ _ _ _ _ n F W (by omega) fun W' hb'=>hN W' (Qaa hb hb')
  ·exact QbA k (.inr (.inl e)) _ bn _ _ _ _ _ n F W (by omega) fun W' hb'=>hN W' (Qaa hb hb')
  ·exact QbA k (.inr (.inr e)) _ bn _ _ _ _ _ n F W (by omega) fun W' hb'=>hN W' (Qaa hb hb')
  ·subst e
   exact Qe6 _ bn _ _ _ _ _ n F W (by omega) fun W' hb'=>hN W' (Qaa hb hb')
 ·refine (QoV (Hole H w W) (leastF F n:Nat) k b bn s i f c x n F W (Hole.lt hH hb) hn (hv.arg hb) ?_ (fun _=>Qhx F n)).mono (Qmd (Qhx F n))
  rcases (by omega:leastF F n=1\/leastF F n=2\/leastF F n=3\/leastF F n=4) with e | e | e | e
  ·left;omega
  ·right;left;omega
  ·right;right;left;omega
  ·right;right;right
   refine ⟨by omega,?_⟩
   rcases hkind with e2 | e2 | e2 | e2
   ·have:=Qcu F n ((hN w (Below.refl _ _)).ints (by omega));omega
   ·have:=Qcu F n ((hN w (Below.refl _ _)).ints (by omega));omega
   ·have:=Qcu F n ((hN w (Below.refl _ _)).ints (by omega));omega
   ·exact e2
theorem QoW {b:Nat} (h:TF b) (w:World):Calls Tryz.prog 172 #[.float .f64 b] w fun e w'=>e= .returned (.tuple #[.float .f64 b,.bool true])/\w=w':=by
 have hd:=Qez h
 obtain ⟨s,Z,hz,rfl,h0⟩:=h
 have h1:=QeT s hz w
 rw [QaX s hz] at hd
 rw [(Prod.mk.inj hd).1] at h1
 exact h1
theorem Qme {b:Nat} (h:TF b) (w:World):Calls Tryz.prog 169 #[.float .f64 b,.float .f64 b] w fun e w'=>e= .returned (.bool true)/\w=w':=by
 obtain ⟨s,Z,hz,rfl,h0⟩:=h
 exact QkE s hz w
theorem QiH (a:Option Addr) (c:Nat) (w:World) :
  Calls Tryz.prog 116 #[.slice a 0 c] w fun e w'=>∃ u,e= .returned (.tuple #[vecV 4 vnil 0 vnil vnil u vnil vnil,.bool true])/\Own1 w' w.heap.size 60 u []/\Below w.heap.size w w':=by
 have hmk:=run_make_row' (P:=Tryz.prog) 36 60 (.float .f64 0) 8 Tryz.underlying36 Qds rfl .i64 .i64 0 (by omega) (by omega)
 rw [show ((0:Nat):Int)=0 from rfl] at hmk
 have hsz:(w.alloc (.cells #[.int .i64 4,vnil,.int .i64 0,vnil,vnil,.slice (some ⟨w.heap.size+1,0,none⟩) 0 0,vnil,vnil] 39)).heap.size=w.heap.size+1:=by simp
 have HF0:=hD (Fill.made (w.alloc (.cells #[.int .i64 4,vnil,.int .i64 0,vnil,vnil,.slice (some ⟨w.heap.size+1,0,none⟩) 0 0,vnil,vnil] 39)) w.heap.size (by simp) 60 (fun _ => .float .f64 0) (.float .f64 0) 0 (by unfold maxLen;omega)).own
 rw [hsz] at HF0
 have HB0:=hD (bel2 w (.cells #[.int .i64 4,vnil,.int .i64 0,vnil,vnil,.slice (some ⟨w.heap.size+1,0,none⟩) 0 0,vnil,vnil] 39) (.cells (madeCells #[.float .f64 0] 0) 60))
 have HK0:=hD (Qar (bel1 (w.alloc (.cells #[.int .i64 4,vnil,.int .i64 0,vnil,vnil,.slice (some ⟨w.heap.size+1,0,none⟩) 0 0,vnil,vnil] 39)) (.cells (madeCells #[.float .f64 0] 0) 60)))
 clear hsz
 go_enter Tryz.func116,Tryz.ntmps116
 go_wp2
 refine wp_loop_rounds 1 ?_
 rw [rounds_succ]
 go_wp2
 refine bodyPost_ret (v := .tuple #[vecV 4 vnil 0 vnil vnil (.slice (some ⟨w.heap.size+1,0,none⟩) 0 0) vnil vnil,.bool true]) ?_ rfl ⟨.slice (some ⟨w.heap.size+1,0,none⟩) 0 0,rfl,HF0.out,HB0.out⟩
 exact Qas (fn:=Tryz.f116) (p:=2) (u:=3) rfl _ _ w.heap.size (by rfl) HK0.out
theorem QfY {w:World}{v:Value}{n:Nat}{F:Nat->Nat} (hr:Reads1 w v ((List.range n).map fun j => .float .f64 (F j))) (hn:n<=1000000) (ht:∀ j,j < n->TF (F j)) :
  Calls Tryz.prog 116 #[v] w fun e w'=>∃ a m c,e= .returned (.tuple #[vecV 4 vnil 0 vnil vnil (.slice a m c) vnil vnil,.bool true])/\Own1 w' w.heap.size 60 (.slice a m c) ((List.range n).map fun j => .float .f64 (F j))/\Below w.heap.size w w':=by
 obtain ⟨a,c,rfl,hc⟩:=Qbg hr
 by_cases h0:n=0
 ·subst h0
  refine (QiH a c w).mono ?_
  rintro e w' ⟨u,rfl,ho,hb⟩
  obtain ⟨a,c,rfl⟩:∃ a c,u= .slice a 0 c:=ho.reads.len
  exact ⟨a,0,c,rfl,ho,hb⟩
 ·obtain ⟨b,o,rfl,_⟩:=hc 0 (by omega)
  refine (QeX b o n c F F hn w (fun i hi=>?_) (fun i hi W=>QoW (ht i hi) W)).mono ?_
  ·obtain ⟨b',o',e,hcell⟩:=hc i hi
   injection e with e
   injection e with e1 e2 _
   subst e1;subst e2
   exact hcell
  ·rintro e w' ⟨u,rfl,ho,hb⟩
   obtain ⟨a,c,rfl⟩:=ho.reads.len
   exact ⟨a,_,c,rfl,ho,hb⟩
theorem Qe9 (H:Nat->Prop) (v:Value) (n:Nat) (F:Nat->Nat) (w:World) (hH:∀ b,H b->b < w.heap.size) (hr:Reads1 w v ((List.range n).map fun j => .float .f64 (F j))) (hn:n<=1000000) (ht:∀ j,j < n->TF (F j)) :
  Calls Tryz.prog 67 #[v] w (QkD H w (fun u W=>NumV u (leastF F n:Nat) n F W)):=by
 have HF:=hD (QfY (hr.below (bel1 w (.cells zcells 39))) hn ht)
 have HT:=hD ht
 have HH:=hD hH
 obtain ⟨v1,v2,v3,rfl⟩:∃ a m c,v= .slice a m c:=by obtain ⟨a,c,e⟩:=hr.len;exact ⟨a,_,c,e⟩
 clear hr ht hH
 go_enter Tryz.func67,Tryz.ntmps67
 go_wp2_with fail
 refine HF.out.mono ?_
 rintro e w1 ⟨a,m,c,rfl,ho,hb1⟩
 have HK1:=hD (Qar hb1)
 have HB1:=hD (Qaa (bel1 w _) hb1)
 have HO:=hD (ho.lower (show w.heap.size+1<=_ by simp))
 clear hb1 ho
 have HB2:=hD (Qaa HB1.out (bel1 w1 (.cells #[.int .i64 4,vnil,.int .i64 0,vnil,vnil,.slice a m c,vnil,vnil] 39)))
 have HK2:=hD ((Below.heap_alloc w1 (.cells #[.int .i64 4,vnil,.int .i64 0,vnil,vnil,.slice a m c,vnil,vnil] 39) _ (lt_of_block HK1.out)).trans HK1.out)
 have HKV:Hid (Keeps (fun j=>H j\/j=w.heap.size) (w1.alloc (.cells #[.int .i64 4,vnil,.int .i64 0,vnil,vnil,.slice a m c,vnil,vnil] 39)) (NumV (vecW 4 (none,0,0) 0 (none,0,0) (none,0,0) (a,m,c) (none,0,0) (none,0,0)) 4 n F)) :=
  ((HO.out.keepsH (fun j e=>by rcases e with e | e;have:=HH.out j e;omega;omega)).imp fun W' h2=>Qe3 ⟨⟨_,rfl,h2⟩,HT.out⟩).step (bel1 w1 _)
 have HS:=hD (Qcv (fun j=>H j\/j=w.heap.size) 4 (none,0,0) 0 (none,0,0) (none,0,0) (a,m,c) (none,0,0) (none,0,0) n F _ (fun j e=>by
  have h1:=HB2.out.size
  have h2:=lt_of_block HK2.out
  rcases e with e | e
  ·have:=HH.out j e;omega
  ·omega) hn HKV.out)
 go_wp2_with fail
 refine HS.out.mono ?_
 rintro e w3 ⟨k4,b4,bn4,s4,i4,f4,c4,x4,rfl,hk4,hb4⟩
 have HB4:=hD (Qaa HB2.out hb4)
 have HK4:=hD (show w3.heap[w.heap.size]?=some (.cells zcells 39) by rw [hb4.block _ (lt_of_block HK2.out)];exact HK2.out)
 have HKE:=hD hk4
 clear hb4 hk4
 obtain ⟨⟨h0,h1,h2,h3,h4,h5,h6,h7⟩,hz⟩:=Qag HK4.out
 go_wp2
 refine bodyPost_ret (v := .tuple #[vecW k4 b4 bn4 s4 i4 f4 c4 x4,.bool true]) ?_ rfl ⟨k4,b4,bn4,s4,i4,f4,c4,x4,rfl,(HKE.out.set8 (.inr rfl) _ _ _ _ _ _ _ _).sub (fun _ _ e => .inl e),Qac HB4.out (Nat.le_refl _) _ _ _ _ _ _ _ _⟩
 exact Qas (fn:=Tryz.f67) (p:=2) (u:=3) rfl _ _ w.heap.size (by rfl) (Qad HK4.out _ _ _ _ _ _ _ _)
theorem QfZ {pw:Nat->Nat->Nat×Int} (hp:PowIs pw) (f:Int){a b:Nat} (ha:TF a) (hb:TF b):(∃ c,TF c/\oneP pw f a b=(c,0))\/oneP pw f a b=(0,24):=by
 unfold oneP
 split
 ·exact Qa9 (Qit ha hb).2
 split
 ·exact Qa9 (Qiu ha hb).2
 split
 ·exact Qa9 (Qiv ha hb).2
 split
 ·unfold divP
  split
  ·split
   ·exact .inl ⟨_,QfV,rfl⟩
   ·exact .inr rfl
  ·rename_i h0;exact Qa9 (Qiw ha hb h0).2
 split
 ·exact .inl ⟨_,QqV ha hb,rfl⟩
 split
 ·exact .inl ⟨_,QqW ha hb,rfl⟩
 split
 ·unfold Qd2
  split
  ·rename_i x y ex ey;exact .inl ⟨_,QgC (QkF (Qbz ex).1 (Qbz ey).1),rfl⟩
  ·exact .inr rfl
 split
 ·exact hp.tf a b ha hb
 split
 ·exact .inl ⟨_,Qcs _,rfl⟩
 ·unfold logP
  split
  ·exact .inl ⟨_,Qcs _,rfl⟩
  ·exact .inr rfl
def Qeo (g:Nat->Nat->Nat×Int) (x:Nat->Nat) (n:Nat):Nat->Option Nat
 | 0=>some (x (n - 1))
 | m+1=>(Qeo g x n m).bind fun y=>if (g (x (n - 2 - m)) y).2=0 then some (g (x (n - 2 - m)) y).1 else none
def rowR (g:Nat->Nat->Nat×Int) (x:Nat->Nat) (n:Nat):Option Nat:=Qeo g x n (n - 1)
def Qrs (n:Int):Bool:=decide (-9007199254740992<=n/\n<=9007199254740992)
theorem goodB_iff {n:Int}:Qrs n=true↔Good n:=by unfold Qrs;rw [decide_eq_true_eq]
def okZ (n:Int):Option Int:=if Qrs n then some n else none
def Qmf (q a b:Int):Option Int :=
 if q=1 then okZ (a+b) else if q=2 then okZ (a - b) else if q=3 then okZ (a*b) else if q=5 then some (max a b) else if q=6 then some (min a b) else none
theorem QgL {n c:Int} (h:okZ n=some c):c=n/\Good n:=by
 unfold okZ at h
 split at h
 ·rename_i hg;injection h with h;exact ⟨h.symm,goodB_iff.1 hg⟩
 ·cases h
theorem QjG {n:Int} (h:Good n):Qau (fi n)=(fi n,0):=Qez (QgC h)
theorem Qtc (s:Bool) (n:Int) (h:Good n) (hs:n≠0->s=decide (n < 0)):tid s (n.natAbs*2^K)=fi n:=by
 by_cases h0:n=0
 ·subst h0
  rw [fi_zero]
  unfold tid
  rw [if_pos (by rw [Int.natAbs_zero,Nat.zero_mul])]
 ·unfold tid
  rw [if_neg (Nat.mul_ne_zero (by omega) (Nat.ne_of_gt (Nat.two_pow_pos K))),fi_W _ (Qah h),hs h0]
theorem QoX (a b:Int) (h0:a*b≠0):(decide (a < 0) ^^ decide (b < 0))=decide (a*b < 0):=by
 rw [Bool.eq_iff_iff]
 have ha0:a≠0:=fun e=>h0 (by rw [e,Int.zero_mul])
 have hb0:b≠0:=fun e=>h0 (by rw [e,Int.mul_zero])
 rcases Int.lt_or_lt_of_ne ha0 with h3 | h3 <;> rcases Int.lt_or_lt_of_ne hb0 with h4 | h4
 ·have:=Int.mul_pos_of_neg_of_neg h3 h4
  simp [h3,h4];omega
 ·have:=Int.mul_neg_of_neg_of_pos h3 h4
  have h5:¬ b < 0:=by omega
  simp [h3,h5];omega
 ·have:=Int.mul_neg_of_pos_of_neg h3 h4
  have h5:¬ a < 0:=by omega
  simp [h5,h4];omega
 ·have:=Int.mul_pos h3 h4
  have h5:¬ a < 0:=by omega
  have h6:¬ b < 0:=by omega
  simp [h5,h6];omega
theorem QkJ (pw:Nat->Nat->Nat×Int){q a b c:Int} (ha:Good a) (hb:Good b) (h:Qmf q a b=some c):oneP pw q (fi a) (fi b)=(fi c,0):=by
 unfold Qmf at h
 unfold oneP
 split at h
 ·rename_i e
  obtain ⟨rfl,hg⟩:=QgL h
  rw [if_pos e]
  have h1:floatBits .add .f64 (fi a) (fi b)=some (fi (a+b)):=QsU a b (Qah ha) (Qah hb) (Qah hg)
  have h2:opB .add (fi a) (fi b)=fi (a+b):=by unfold opB;rw [h1];rfl
  rw [h2,QjG hg]
 split at h
 ·rename_i e0 e
  obtain ⟨rfl,hg⟩:=QgL h
  rw [if_neg e0,if_pos e]
  have h1:floatBits .sub .f64 (fi a) (fi b)=some (fi (a - b)):=QsV a b (Qah ha) (Qah hb) (Qah hg)
  have h2:opB .sub (fi a) (fi b)=fi (a - b):=by unfold opB;rw [h1];rfl
  rw [h2,QjG hg]
 split at h
 ·rename_i e0 e1 e
  obtain ⟨rfl,hg⟩:=QgL h
  rw [if_neg e0,if_neg e1,if_pos e]
  have h1:floatBits .mul .f64 (fi a) (fi b)=some (W (decide (a < 0) ^^ decide (b < 0)) ((a*b).natAbs*2^K)):=QsW a b (Qah ha) (Qah hb) (Qah hg)
  have h2:opB .mul (fi a) (fi b)=W (decide (a < 0) ^^ decide (b < 0)) ((a*b).natAbs*2^K):=by unfold opB;rw [h1];rfl
  rw [h2,QaX _ (Qcc _ (Qah hg)),Qtc _ _ hg (QoX a b)]
 split at h
 ·rename_i e0 e1 e2 e
  injection h with h
  rw [if_neg e0,if_neg e1,if_neg e2,if_neg (by omega),if_pos e,<- h]
  congr 1
  unfold maxP
  rw [QlV ha hb]
  rcases Int.lt_trichotomy a b with h3 | h3 | h3
  ·rw [QbL h3,if_pos rfl,Int.max_eq_right (by omega)]
  ·rw [h3,Qb0,if_neg (by decide),Int.max_self]
  ·rw [QbH h3,if_neg (by decide),Int.max_eq_left (by omega)]
 split at h
 ·rename_i e0 e1 e2 e3 e
  injection h with h
  rw [if_neg e0,if_neg e1,if_neg e2,if_neg (by omega),if_neg e3,if_pos e,<- h]
  congr 1
  unfold minP
  rw [QlV ha hb]
  rcases Int.lt_trichotomy a b with h3 | h3 | h3
  ·rw [QbL h3,if_neg (by decide),Int.min_eq_left (by omega)]
  ·rw [h3,Qb0,if_neg (by decide),Int.min_self]
  ·rw [QbH h3,if_pos rfl,Int.min_eq_right (by omega)]
 ·cases h
def QbK (f:Int):Option Nat :=
 if f=1\/f=2\/f=7\/f=11\/f=15\/f=16\/f=22 then some 0
 else if f=3\/f=4\/f=8\/f=12\/f=13\/f=14\/f=21 then some one
 else if f=5 then some 18442240474082181119 else if f=6 then some 9218868437227405311 else none
theorem Qmg {f:Int}{x:Nat} (h:QbK f=some x):TF x:=by
 unfold QbK at h
 split at h
 ·injection h with h;rw [<- h];exact Qa8
 split at h
 ·injection h with h;rw [<- h];exact QfV
 split at h
 ·injection h with h;rw [<- h,<- Qhe];exact ⟨true,Top,Qbw,rfl,fun e=>absurd e (Nat.ne_of_gt QlI)⟩
 split at h
 ·injection h with h;rw [<- h,<- Qko];exact ⟨false,Top,Qbw,rfl,fun e=>absurd e (Nat.ne_of_gt QlI)⟩
 ·cases h
def QjH (r:Option Nat) (w:World) (e:Ending) (w':World):Prop:=e= .returned (.tuple #[.float .f64 (r.getD 0),.bool r.isSome])/\Below w.heap.size w w'
theorem int18 {P:Int->Prop} (f:Int) (hk:Qaz f=true) (h1:P 1) (h2:P 2) (h3:P 3) (h4:P 4) (h5:P 5) (h6:P 6) (h7:P 7) (h8:P 8) (h11:P 11) (h12:P 12) (h13:P 13) (h14:P 14) (h15:P 15) (h16:P 16) (h21:P 21) (h22:P 22) (h23:P 23) (h24:P 24):P f:=by
 unfold Qaz at hk
 rw [decide_eq_true_eq] at hk
 have:f=1\/f=2\/f=3\/f=4\/f=5\/f=6\/f=7\/f=8\/f=11\/f=12\/f=13\/f=14\/f=15\/f=16\/f=21\/f=22\/f=23\/f=24:=by omega
 rcases this with rfl | rfl | rfl | rfl | rfl | rfl | rfl | rfl | rfl | rfl | rfl | rfl | rfl | rfl | rfl | rfl | rfl | rfl <;> assumption
theorem Qf0 (f:Int) (hk:Qaz f=true) (w:World):Calls Tryz.prog 78 #[.int .i64 f] w (QjH (QbK f) w):=by
 refine int18 (P:=fun f=>Calls Tryz.prog 78 #[.int .i64 f] w (QjH (QbK f) w)) f hk ?_ ?_ ?_ ?_ ?_ ?_ ?_ ?_ ?_ ?_ ?_ ?_ ?_ ?_ ?_ ?_ ?_ ?_
 all_goals
  clear hk
  go_enter Tryz.func78,Tryz.ntmps78
  go_wp2_with fail
  refine wp_loop_rounds 8 ?_
  repeat (rw [rounds_succ];go_wp2)
  go_ret2
  exact ⟨rfl,bel2 _ _ _⟩
def bZ (b:Bool):Int:=if b then 1 else 0
def rowB (q:Int) (l:Nat->Bool) (n:Nat):Option Int :=
 if q=1 then some (cnt l n:Nat) else if q=5\/q=22 then some (bZ (decide (cnt l n≠0)))
 else if q=6\/q=3\/q=21 then some (bZ (decide (cnt l n=n)))
 else if q=16 then some (bZ (((cnt l n % 2:Nat):Int)==1))
 else if q=13 then some (bZ (((cnt (fun i => !l i) n % 2:Nat):Int)==0))
 else if q=2 then some (altN l n) else none
def bI (b:Bool):Int:=if b then 1 else 0
theorem QoY (b:Bool):bZ b=bI b:=rfl
theorem QoZ (b:Bool):bI b=0\/bI b=1:=by cases b;exact .inl rfl;exact .inr rfl
theorem Qfa (b:Bool):Good (bI b):=by cases b <;> decide
theorem QaT (b:Bool):Qai b=fi (bI b):=by cases b;exact fi_zero.symm;exact fi_one.symm
theorem QjI (b:Bool):isT (fi (bI b))=true:=by rw [<- QaT];cases b <;> decide
theorem Qo0 (b:Bool):tv (fi (bI b))=b:=by rw [<- QaT];cases b <;> decide
theorem Qo1 (a b:Bool):(cmpF (fi (bI a)) (fi (bI b))== .eq)=(a==b):=by rw [<- QaT,<- QaT];cases a <;> cases b <;> decide+kernel
theorem Qtd (a b:Bool):(cmpF (fi (bI a)) (fi (bI b)) != .eq)=(a != b):=by rw [<- QaT,<- QaT];cases a <;> cases b <;> decide+kernel
def opI (q:Int) (b:Bool) (T:Int):Int :=
 if q=1 then bI b+T else if q=2 then bI b - T else if q=3 then bI b*T else if q=5 then max (bI b) T else if q=6 then min (bI b) T
 else if q=13 then bI (decide (bI b=T)) else if q=16 then bI (decide (bI b≠T)) else if q=21 then bI (b&&decide (T=1)) else bI (b||decide (T=1))
theorem Qmh {q:Int} (hq:q=1\/q=2\/q=3\/q=5\/q=6) (b:Bool) (T:Int) (hg:Good (opI q b T)):Qmf q (bI b) T=some (opI q b T):=by
 rcases hq with rfl | rfl | rfl | rfl | rfl
 ·show okZ (bI b+T)=some (bI b+T)
  unfold okZ;exact if_pos (goodB_iff.2 hg)
 ·show okZ (bI b - T)=some (bI b - T)
  unfold okZ;exact if_pos (goodB_iff.2 hg)
 ·show okZ (bI b*T)=some (bI b*T)
  unfold okZ;exact if_pos (goodB_iff.2 hg)
 ·rfl
 ·rfl
theorem Qmi (pw:Nat->Nat->Nat×Int) (q:Int) (hq:q=1\/q=2\/q=3\/q=5\/q=6\/q=13\/q=16\/q=21\/q=22) (b:Bool) (T:Int) (hT:Good T) (hg:Good (opI q b T)) (h01:q≠1->q≠2->T=0\/T=1):oneP pw q (fi (bI b)) (fi T)=(fi (opI q b T),0):=by
 by_cases h5:q=1\/q=2\/q=3\/q=5\/q=6
 ·exact QkJ pw (Qfa b) hT (Qmh h5 b T hg)
 ·have h4:q=13\/q=16\/q=21\/q=22:=by omega
  obtain ⟨t,rfl⟩:∃ t,T=bI t:=by
   rcases h01 (by omega) (by omega) with e | e
   ·exact ⟨false,e⟩
   ·exact ⟨true,e⟩
  rcases h4 with rfl | rfl | rfl | rfl
  ·show (Qai (cmpF (fi (bI b)) (fi (bI t))== .eq),0)=(fi (bI (decide (bI b=bI t))),0)
   rw [Qo1,QaT]
   cases b <;> cases t <;> rfl
  ·show (Qai (cmpF (fi (bI b)) (fi (bI t)) != .eq),0)=(fi (bI (decide (bI b≠bI t))),0)
   rw [Qtd,QaT]
   cases b <;> cases t <;> rfl
  ·show logP 21 _ _=(fi (bI (b&&decide (bI t=1))),0)
   unfold logP
   rw [QjI,QjI,Qo0,Qo0,QaT]
   cases b <;> cases t <;> rfl
  ·show logP 22 _ _=(fi (bI (b||decide (bI t=1))),0)
   unfold logP
   rw [QjI,QjI,Qo0,Qo0,QaT]
   cases b <;> cases t <;> rfl
def tI (q:Int) (l:Nat->Bool) (n:Nat):Nat->Int
 | 0=>bI (l (n - 1))
 | m+1=>opI q (l (n - 2 - m)) (tI q l n m)
theorem QbQ (pw:Nat->Nat->Nat×Int) (q:Int) (hq:q=1\/q=2\/q=3\/q=5\/q=6\/q=13\/q=16\/q=21\/q=22) (l:Nat->Bool) (n:Nat) (hgood:∀ m,m<=n - 1->Good (tI q l n m)) (h01:q≠1->q≠2->∀ m,m<=n - 1->tI q l n m=0\/tI q l n m=1) (x:Nat->Nat) (hx:∀ i,i < n->x i=fi (bI (l i))) (hn:1<=n) :
  ∀ m,m<=n - 1->Qeo (oneP pw q) x n m=some (fi (tI q l n m)):=by
 intro m
 induction m with
 | zero=>intro _;show some (x (n - 1))=some (fi (bI (l (n - 1))));rw [hx _ (by omega)]
 | succ m ih =>
  intro hm
  show (Qeo _ _ _ m).bind _=_
  rw [ih (by omega)]
  have hs:=Qmi pw q hq (l (n - 2 - m)) (tI q l n m) (hgood m (by omega)) (hgood (m+1) hm) (fun a b=>h01 a b m (by omega))
  show (if (oneP pw q (x (n - 2 - m)) (fi (tI q l n m))).2=0 then some (oneP pw q (x (n - 2 - m)) (fi (tI q l n m))).1 else none)=_
  rw [hx (n - 2 - m) (by omega),hs]
  rfl
theorem QgM (l:Nat->Bool) (p n:Nat) (h:p<=n):cnt l p<=cnt l n/\cnt l n<=cnt l p+(n - p):=by
 have e:n=p+(n - p):=by omega
 rw [e,QgG]
 have:=Qcj (fun i=>l (p+i)) (n - p)
 omega
theorem Qqh (l:Nat->Bool) (p:Nat):((cnt l (p+1):Nat):Int)=(cnt l p:Nat)+bI (l p):=by
 show ((cnt l p+(if l p then 1 else 0):Nat):Int)=_
 unfold bI
 split <;> simp
theorem t_1 (l:Nat->Bool) (n:Nat) (hn:1<=n):∀ m,m<=n - 1->tI 1 l n m=(cnt l n:Nat) - (cnt l (n - 1 - m):Nat):=by
 intro m
 induction m with
 | zero =>
  intro _
  have:=Qqh l (n - 1)
  rw [show n - 1+1=n by omega] at this
  show bI _=_
  rw [Nat.sub_zero];omega
 | succ m ih =>
  intro hm
  have:=Qqh l (n - 2 - m)
  rw [show n - 2 - m+1=n - 1 - m by omega] at this
  show bI _+tI 1 l n m=_
  rw [ih (by omega),show n - 1 - (m+1)=n - 2 - m by omega]
  omega
theorem t_2 (l:Nat->Bool) (n:Nat) (hn:1<=n):∀ m,m<=n - 1->tI 2 l n m=(1 - 2*(((n - 1 - m) % 2:Nat):Int))*(altN l n - altN l (n - 1 - m)):=by
 intro m
 induction m with
 | zero =>
  intro _
  have h:altN l (n - 1+1)=altN l (n - 1)+if l (n - 1) then 1 - 2*(((n - 1) % 2:Nat):Int) else 0:=rfl
  rw [show n - 1+1=n by omega] at h
  show bI _=_
  rw [Nat.sub_zero,h]
  have h2:(n - 1) % 2=0\/(n - 1) % 2=1:=by omega
  unfold bI
  rcases h2 with e | e <;> rw [e] <;> split <;> simp <;> omega
 | succ m ih =>
  intro hm
  have h:altN l (n - 2 - m+1)=altN l (n - 2 - m)+if l (n - 2 - m) then 1 - 2*(((n - 2 - m) % 2:Nat):Int) else 0:=rfl
  rw [show n - 2 - m+1=n - 1 - m by omega] at h
  show bI _ - tI 2 l n m=_
  rw [ih (by omega),show n - 1 - (m+1)=n - 2 - m by omega,h]
  have h2:((n - 2 - m) % 2=0/\(n - 1 - m) % 2=1)\/((n - 2 - m) % 2=1/\(n - 1 - m) % 2=0):=by omega
  unfold bI
  rcases h2 with ⟨e,e'⟩ | ⟨e,e'⟩ <;> rw [e,e'] <;> split <;> simp <;> omega
def cntL (l:Nat->Bool) (n m:Nat):Nat:=cnt l n - cnt l (n - 1 - m)
theorem Qdy (l:Nat->Bool) (n:Nat) (hn:1<=n):cntL l n 0=(if l (n - 1) then 1 else 0):=by
 have h:cnt l (n - 1+1)=cnt l (n - 1)+(if l (n - 1) then 1 else 0):=rfl
 rw [show n - 1+1=n by omega] at h
 unfold cntL
 rw [Nat.sub_zero]
 omega
theorem Qdz (l:Nat->Bool) (n m:Nat) (hm:m+1<=n - 1):cntL l n (m+1)=cntL l n m+(if l (n - 2 - m) then 1 else 0):=by
 have h:cnt l (n - 2 - m+1)=cnt l (n - 2 - m)+(if l (n - 2 - m) then 1 else 0):=rfl
 rw [show n - 2 - m+1=n - 1 - m by omega] at h
 have:=(QgM l (n - 1 - m) n (by omega)).1
 unfold cntL
 rw [show n - 1 - (m+1)=n - 2 - m by omega]
 omega
theorem Qrt (l:Nat->Bool) (n m:Nat) (hn:1<=n):cntL l n m<=m+1:=by
 have:=(QgM l (n - 1 - m) n (by omega)).2
 unfold cntL
 omega
theorem QeH (l:Nat->Bool) (n:Nat):cntL l n (n - 1)=cnt l n:=by
 unfold cntL
 rw [Nat.sub_self];rfl
theorem t_or (q:Int) (hq:q=5\/q=22) (l:Nat->Bool) (n:Nat) (hn:1<=n):∀ m,m<=n - 1->tI q l n m=bI (decide (cntL l n m≠0)):=by
 intro m
 induction m with
 | zero =>
  intro _
  show bI _=_
  rw [Qdy l n hn]
  cases l (n - 1) <;> rfl
 | succ m ih =>
  intro hm
  show opI q _ (tI q l n m)=_
  rw [ih (by omega),Qdz l n m hm]
  cases l (n - 2 - m) <;> by_cases h:cntL l n m=0 <;> rcases hq with rfl | rfl <;> simp [opI,bI,h]
  all_goals decide
theorem QtY (q:Int) (hq:q=6\/q=3\/q=21) (l:Nat->Bool) (n:Nat) (hn:1<=n):∀ m,m<=n - 1->tI q l n m=bI (decide (cntL l n m=m+1)):=by
 intro m
 induction m with
 | zero =>
  intro _
  show bI _=_
  rw [Qdy l n hn]
  cases l (n - 1) <;> rfl
 | succ m ih =>
  intro hm
  have hle:=Qrt l n m hn
  show opI q _ (tI q l n m)=_
  rw [ih (by omega),Qdz l n m hm]
  cases l (n - 2 - m)
  ·have h2:¬ cntL l n m+0=m+1+1:=by omega
   by_cases h:cntL l n m=m+1 <;> rcases hq with rfl | rfl | rfl <;> simp [opI,bI,h]
   all_goals omega
  ·by_cases h:cntL l n m=m+1 <;> rcases hq with rfl | rfl | rfl <;> simp [opI,bI,h]
   all_goals decide
theorem t_ne (l:Nat->Bool) (n:Nat) (hn:1<=n):∀ m,m<=n - 1->tI 16 l n m=bI (decide (cntL l n m % 2=1)):=by
 intro m
 induction m with
 | zero =>
  intro _
  show bI _=_
  rw [Qdy l n hn]
  cases l (n - 1) <;> rfl
 | succ m ih =>
  intro hm
  show opI 16 _ (tI 16 l n m)=_
  rw [ih (by omega),Qdz l n m hm]
  have h2:cntL l n m % 2=0\/cntL l n m % 2=1:=by omega
  cases l (n - 2 - m)
  ·rcases h2 with h | h <;> simp [opI,bI,h]
  ·have h3:(cntL l n m+1) % 2=1 - cntL l n m % 2:=by omega
   rcases h2 with h | h <;> simp [opI,bI,h,h3]
theorem t_eq (l:Nat->Bool) (n:Nat) (hn:1<=n):∀ m,m<=n - 1->tI 13 l n m=bI (decide (cntL (fun i => !l i) n m % 2=0)):=by
 intro m
 induction m with
 | zero =>
  intro _
  show bI _=_
  rw [Qdy _ n hn]
  cases l (n - 1) <;> rfl
 | succ m ih =>
  intro hm
  show opI 13 _ (tI 13 l n m)=_
  rw [ih (by omega),Qdz _ n m hm]
  have h2:cntL (fun i => !l i) n m % 2=0\/cntL (fun i => !l i) n m % 2=1:=by omega
  cases l (n - 2 - m)
  ·have h3:(cntL (fun i => !l i) n m+1) % 2=1 - cntL (fun i => !l i) n m % 2:=by omega
   rcases h2 with h | h <;> simp [opI,bI,h,h3]
  ·rcases h2 with h | h <;> simp [opI,bI,h]
theorem Qf1 (l:Nat->Bool) (a d:Nat):-(d:Int)<=altN l (a+d) - altN l a/\altN l (a+d) - altN l a<=d:=by
 induction d with
 | zero=>exact ⟨by simp,by simp⟩
 | succ d ih =>
  have h:altN l (a+d+1)=altN l (a+d)+if l (a+d) then 1 - 2*(((a+d) % 2:Nat):Int) else 0:=rfl
  rw [show a+(d+1)=a+d+1 by omega,h]
  split <;> omega
theorem QjJ (pw:Nat->Nat->Nat×Int) (q:Int) (l:Nat->Bool) (n:Nat) (z:Int) (hz:rowB q l n=some z) (x:Nat->Nat) (hx:∀ i,i < n->x i=fi (bI (l i))) (hn:1<=n) (hb:n<=1048576):rowR (oneP pw q) x n=some (fi z)/\Good z:=by
 unfold rowR
 have hc:=Qcj l n
 have hg01:∀ T:Int,T=0\/T=1->Good T:=by rintro T (rfl | rfl) <;> decide
 unfold rowB at hz
 split at hz
 ·rename_i e;subst e
  injection hz with hz;subst hz
  have ht:=t_1 l n hn
  have hgd:∀ m,m<=n - 1->Good (tI 1 l n m):=fun m hm=>by
   rw [ht m hm]
   have:=QgM l (n - 1 - m) n (by omega)
   show _/\_
   omega
  have hs:=QbQ pw 1 (.inl rfl) l n hgd (fun h=>absurd rfl h) x hx hn (n - 1) (Nat.le_refl _)
  rw [ht (n - 1) (Nat.le_refl _),Nat.sub_self] at hs
  rw [hs]
  refine ⟨by have e:((cnt l n:Nat):Int) - ((cnt l 0:Nat):Int)=(cnt l n:Nat):=Int.sub_zero _;rw [e],?_⟩
  show _/\_
  omega
 split at hz
 ·rename_i e
  injection hz with hz;subst hz
  have ht:=t_or q e l n hn
  have h01:∀ m,m<=n - 1->tI q l n m=0\/tI q l n m=1:=fun m hm=>by rw [ht m hm];exact QoZ _
  have hs:=QbQ pw q (by omega) l n (fun m hm=>hg01 _ (h01 m hm)) (fun _ _ m hm=>h01 m hm) x hx hn (n - 1) (Nat.le_refl _)
  rw [ht (n - 1) (Nat.le_refl _),QeH] at hs
  exact ⟨hs,Qfa _⟩
 split at hz
 ·rename_i e
  injection hz with hz;subst hz
  have ht:=QtY q e l n hn
  have h01:∀ m,m<=n - 1->tI q l n m=0\/tI q l n m=1:=fun m hm=>by rw [ht m hm];exact QoZ _
  have hs:=QbQ pw q (by omega) l n (fun m hm=>hg01 _ (h01 m hm)) (fun _ _ m hm=>h01 m hm) x hx hn (n - 1) (Nat.le_refl _)
  rw [ht (n - 1) (Nat.le_refl _),QeH,show n - 1+1=n by omega] at hs
  exact ⟨hs,Qfa _⟩
 split at hz
 ·rename_i e;subst e
  injection hz with hz;subst hz
  have ht:=t_ne l n hn
  have h01:∀ m,m<=n - 1->tI 16 l n m=0\/tI 16 l n m=1:=fun m hm=>by rw [ht m hm];exact QoZ _
  have hs:=QbQ pw 16 (by omega) l n (fun m hm=>hg01 _ (h01 m hm)) (fun _ _ m hm=>h01 m hm) x hx hn (n - 1) (Nat.le_refl _)
  rw [ht (n - 1) (Nat.le_refl _),QeH] at hs
  refine ⟨?_,Qfa _⟩
  rw [hs]
  congr 3
  rw [Bool.eq_iff_iff,decide_eq_true_eq,beq_iff_eq]
  omega
 split at hz
 ·rename_i e;subst e
  injection hz with hz;subst hz
  have ht:=t_eq l n hn
  have h01:∀ m,m<=n - 1->tI 13 l n m=0\/tI 13 l n m=1:=fun m hm=>by rw [ht m hm];exact QoZ _
  have hs:=QbQ pw 13 (by omega) l n (fun m hm=>hg01 _ (h01 m hm)) (fun _ _ m hm=>h01 m hm) x hx hn (n - 1) (Nat.le_refl _)
  rw [ht (n - 1) (Nat.le_refl _),QeH] at hs
  refine ⟨?_,Qfa _⟩
  rw [hs]
  congr 3
  rw [Bool.eq_iff_iff,decide_eq_true_eq,beq_iff_eq]
  omega
 split at hz
 ·rename_i e;subst e
  injection hz with hz;subst hz
  have ht:=t_2 l n hn
  have hgd:∀ m,m<=n - 1->Good (tI 2 l n m):=fun m hm=>by
   rw [ht m hm]
   have hbd:=Qf1 l (n - 1 - m) (m+1)
   rw [show n - 1 - m+(m+1)=n by omega] at hbd
   have h2:(n - 1 - m) % 2=0\/(n - 1 - m) % 2=1:=by omega
   show _/\_
   rcases h2 with e | e <;> rw [e] <;> simp <;> omega
  have hs:=QbQ pw 2 (by omega) l n hgd (fun _ h=>absurd rfl h) x hx hn (n - 1) (Nat.le_refl _)
  have hbd:=Qf1 l 0 n
  rw [Nat.zero_add] at hbd
  have h0:altN l 0=0:=rfl
  rw [ht (n - 1) (Nat.le_refl _),Nat.sub_self,h0] at hs
  rw [hs]
  refine ⟨by congr 2;simp,?_⟩
  rw [h0] at hbd
  show _/\_
  omega
 ·cases hz
end Go.Proofs.YtdelgpelkfndeaaGreatDoor
