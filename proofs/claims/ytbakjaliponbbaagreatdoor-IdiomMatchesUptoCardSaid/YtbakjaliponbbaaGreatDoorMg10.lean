/- The walk of squeeze.Least, whatever the store. The walk of squeeze.Least at floats; squeeze.whole, whatever the store. The walks of vec.Bits and of .. Conditions: as each theorem says. -/
import Derived.Test.YtbakjaliponbbaaGreatDoorMg09
set_option maxRecDepth 100000
set_option maxHeartbeats 2000000
namespace Go.Proofs.YtbakjaliponbbaaGreatDoor
open Go Go.RowKit Go.Proofs Fl
noncomputable def rankF (b:Nat):Nat:=match wholeP b with
 | some z=>rankS z
 | none=>4
theorem rankF_fi {z:Int} (h:Good z):rankF (fi z)=rankS z:=by unfold rankF;rw [wholeP_fi h]
theorem rankF_no {b:Nat} (h:wholeP b=none):rankF b=4:=by unfold rankF;rw [h]
theorem rankF_le (b:Nat):1<=rankF b/\rankF b<=4:=by
 unfold rankF
 split
 ·rename_i z _;have:=rankS_le z;omega
 ·omega
noncomputable def leastF (F:Nat->Nat):Nat->Nat
 | 0=>1
 | k+1=>max (leastF F k) (rankF (F k))
theorem leastF_le (F:Nat->Nat) (k:Nat):1<=leastF F k/\leastF F k<=4:=by
 induction k with
 | zero=>simp [leastF]
 | succ k ih=>have:=rankF_le (F k);unfold leastF;omega
theorem leastF_mono (F:Nat->Nat){a b:Nat} (h:a<=b):leastF F a<=leastF F b:=by
 induction b with
 | zero =>
      have:a=0:=by omega
      subst this;exact Nat.le_refl _
 | succ b ih =>
  by_cases e:a=b+1
  ·subst e;exact Nat.le_refl _
  ·have h1:=ih (by omega)
   have h2:leastF F (b+1)=max (leastF F b) (rankF (F b)):=rfl
   omega
theorem leastF_rank (F:Nat->Nat){i n:Nat} (h:i < n):rankF (F i)<=leastF F n:=by
 have h1:=leastF_mono F (show i+1<=n by omega)
 have h2:leastF F (i+1)=max (leastF F i) (rankF (F i)):=rfl
 omega
theorem leastF_ints (F:Nat->Nat) (n:Nat) (h:∀ j,j < n->∃ z,Good z/\F j=fi z):leastF F n<=3:=by
 induction n with
 | zero=>simp [leastF]
 | succ k ih =>
  have h1:=ih fun j hj=>h j (by omega)
  obtain ⟨z,hz,e⟩:=h k (by omega)
  have h2:leastF F (k+1)=max (leastF F k) (rankF (F k)):=rfl
  rw [e,rankF_fi hz] at h2
  have:=rankS_le z
  omega
theorem least_whole (k:Int) (hk:k=1\/k=2\/k=3) (b:Value) (bn:Int) (s i f c x:Value) (n:Nat) (F:Nat->Nat) (w:World) (hn:n<=1048576)
  (hN:∀ W,Below w.heap.size w W->NumV (vecV k b bn s i f c x) k n F W) :
  Calls Tryz.prog 195 #[vecV k b bn s i f c x] w fun e w'=>e= .returned (.int .i64 (leastF F n:Nat))/\Below w.heap.size w w':=by
 have HK:=Lib.hid (fun W=>kind_any k b bn s i f c x W)
 have HN:=Lib.hid hN
 have H4:Hid (k≠4):=by show k≠4;omega
 have k0:(k==0)=false:=by simp;omega
 have HLE:=Lib.hid (leastF_ints F n ((hN w (Below.refl _ _)).ints (by omega)))
 clear hN
 go_enter Tryz.func195,Tryz.ntmps195
 go_wp2_with fail
 refine (HN.out _ (bel1 w _)).cls.mono ?_
 rintro e w1 ⟨rfl,hb1⟩
 have HX1:=Lib.hid ((boxed_new w 57 k b bn s i f c x).below hb1)
 have HB1:=Lib.hid (bel_both (bel1 w _) hb1)
 clear hb1
 obtain ⟨h0,h1,h2,h3,h4,h5,h6,h7⟩:=HX1.out
 go_wp2_with fail
 refine (HK.out _).mono ?_
 rintro e w2 ⟨rfl,hb2⟩
 have HX2:=Lib.hid (HX1.out.below hb2)
 have HB2:=Lib.hid (bel_both HB1.out hb2)
 clear hb2 h0 h1 h2 h3 h4 h5 h6 h7 HX1 HB1
 obtain ⟨h0,h1,h2,h3,h4,h5,h6,h7⟩:=HX2.out
 go_wp2_with fail
 refine (HN.out _ HB2.out).len.mono ?_
 rintro e w3 ⟨rfl,hb3⟩
 have HX3:=Lib.hid (HX2.out.below hb3)
 have HB3:=Lib.hid (bel_both HB2.out hb3)
 clear hb3 h0 h1 h2 h3 h4 h5 h6 h7 HX2 HB2
 go_wp2_with fail
 go_loopw [3,19] (fun q j wr=>∃ m:Nat,m<=n/\j= .int .i64 m/\q= .int .i64 (leastF F m:Nat)/\Below w.heap.size w wr/\Boxed wr w.heap.size k b bn s i f c x) (fun _ j _=>n - (intOf j).toNat)
 case atStart=>exact ⟨0,Nat.zero_le _,rfl,rfl,HB3.out,HX3.out⟩
 case round =>
  obtain ⟨m,hm,rfl,rfl,hbl,hx⟩:=hrel
  have HBL:=Lib.hid hbl
  have HX:=Lib.hid hx
  clear hbl
  by_cases hlt:m < n
  ·obtain ⟨h0,h1,h2,h3,h4,h5,h6,h7⟩:=hx
   obtain ⟨z,hz,hFz⟩:=(HN.out _ HBL.out).ints H4.out m hlt
   have HM:Hid (leastF F (m+1)=max (leastF F m) (rankS z)):=by
    show _=_
    rw [<- rankF_fi hz,<- hFz]
    rfl
   have HM3:=Lib.hid (leastF_mono F (show m+1<=n by omega))
   have HR:=Lib.hid (rank_any z)
   have HWM:=Lib.hid ((HN.out _ HBL.out).wholeI H4.out m hlt z hz hFz)
   have HL4:=Lib.hid (leastF_le F m)
   have HR4:=Lib.hid (rankS_le z)
   clear hFz hz
   go_wp2_with fail
   refine HWM.out.mono ?_
   rintro e w4 ⟨rfl,hb4⟩
   have HX4:=Lib.hid (HX.out.below hb4)
   have HB4:=Lib.hid (bel_both HBL.out hb4)
   clear hb4 h0 h1 h2 h3 h4 h5 h6 h7 HX
   obtain ⟨h0,h1,h2,h3,h4,h5,h6,h7⟩:=HX4.out
   generalize leastF F m=p at *
   generalize rankS z=r at *
   go_wp2_with fail
   refine (HR.out _).mono ?_
   rintro e w5 ⟨rfl,rfl⟩
   go_wp2_with fail
   case isTrue h3 =>
    refine (HK.out _).mono ?_
    rintro e w6 ⟨rfl,hb6⟩
    have HB6:=Lib.hid (bel_both HB4.out hb6)
    have HX6:=Lib.hid (HX4.out.below hb6)
    have HE:Hid (((leastF F n:Nat):Int)=3):=by
     have e1:=HM.out
     have e2:=HM3.out
     have e3:=HLE.out
     show _=_
     omega
    clear hb6
    by_cases hk3:k=3
    ·have ek:(k==3)=true:=by simpa using hk3
     clear hk3
     go_wp2
     go_ret
     exact ⟨by rw [HE.out];rfl,HB6.out⟩
    ·have ek:(k==3)=false:=by simpa using hk3
     clear hk3
     go_wp2
     go_roundw
     case rel=>exact ⟨m+1,by omega,by go_num,by rw [HM.out];exact congrArg _ (by omega),HB6.out,HX6.out⟩
     case measure=>simp [intOf];omega
   case roundEnd h3 =>
    exact ⟨⟨m+1,by omega,by go_num,by rw [HM.out];exact congrArg _ (by omega),HB4.out,HX4.out⟩,by simp [intOf];omega⟩
  ·obtain rfl:m=n:=by omega
   clear hx
   go_wp2
   go_ret
   exact ⟨rfl,HBL.out⟩
theorem least_float (b:Value) (bn:Int) (s i f c x:Value) (n:Nat) (F:Nat->Nat) (w:World) (hn:n<=1048576)
  (hN:∀ W,Below w.heap.size w W->NumV (vecV 4 b bn s i f c x) 4 n F W) :
  Calls Tryz.prog 195 #[vecV 4 b bn s i f c x] w fun e w'=>e= .returned (.int .i64 (leastF F n:Nat))/\Below w.heap.size w w':=by
 have HK:=Lib.hid (fun W=>kind_any 4 b bn s i f c x W)
 have HN:=Lib.hid hN
 clear hN
 go_enter Tryz.func195,Tryz.ntmps195
 go_wp2_with fail
 refine (HN.out _ (bel1 w _)).cls.mono ?_
 rintro e w1 ⟨rfl,hb1⟩
 have HX1:=Lib.hid ((boxed_new w 57 4 b bn s i f c x).below hb1)
 have HB1:=Lib.hid (bel_both (bel1 w _) hb1)
 clear hb1
 obtain ⟨h0,h1,h2,h3,h4,h5,h6,h7⟩:=HX1.out
 go_wp2_with fail
 refine (HK.out _).mono ?_
 rintro e w2 ⟨rfl,hb2⟩
 have HX2:=Lib.hid (HX1.out.below hb2)
 have HB2:=Lib.hid (bel_both HB1.out hb2)
 clear hb2 h0 h1 h2 h3 h4 h5 h6 h7 HX1 HB1
 obtain ⟨h0,h1,h2,h3,h4,h5,h6,h7⟩:=HX2.out
 go_wp2_with fail
 refine (HN.out _ HB2.out).len.mono ?_
 rintro e w3 ⟨rfl,hb3⟩
 have HX3:=Lib.hid (HX2.out.below hb3)
 have HB3:=Lib.hid (bel_both HB2.out hb3)
 clear hb3 h0 h1 h2 h3 h4 h5 h6 h7 HX2 HB2
 go_wp2_with fail
 go_loopw [3,19] (fun q j wr=>∃ m:Nat,m<=n/\j= .int .i64 m/\q= .int .i64 (leastF F m:Nat)/\Below w.heap.size w wr/\Boxed wr w.heap.size 4 b bn s i f c x) (fun _ j _=>n - (intOf j).toNat)
 case atStart=>exact ⟨0,Nat.zero_le _,rfl,rfl,HB3.out,HX3.out⟩
 case round =>
  obtain ⟨m,hm,rfl,rfl,hbl,hx⟩:=hrel
  have HBL:=Lib.hid hbl
  have HX:=Lib.hid hx
  clear hbl
  by_cases hlt:m < n
  ·obtain ⟨h0,h1,h2,h3,h4,h5,h6,h7⟩:=hx
   have HTF:=Lib.hid ((HN.out _ HBL.out).tf m hlt)
   have HWF:=Lib.hid ((HN.out _ HBL.out).wholeF rfl m hlt)
   go_wp2_with fail
   refine HWF.out.mono ?_
   rintro e w4 ⟨rfl,hb4⟩
   have HX4':=Lib.hid (HX.out.below hb4)
   have HB4':=Lib.hid (bel_both HBL.out hb4)
   clear hb4 h0 h1 h2 h3 h4 h5 h6 h7 HX
   obtain ⟨h0,h1,h2,h3,h4,h5,h6,h7⟩:=HX4'.out
   go_wp2_with fail
   refine ((HN.out _ HB4'.out).num m hlt).mono ?_
   rintro e w4b ⟨rfl,hb4⟩
   have HX4:=Lib.hid (HX4'.out.below hb4)
   have HB4:=Lib.hid (bel_both HB4'.out hb4)
   clear hb4 h0 h1 h2 h3 h4 h5 h6 h7 HX4' HB4'
   rcases whole_cases HTF.out with ⟨z,hz,hFz,hwz⟩ | ⟨hno,t,Z,hZ,hFz,hnw⟩
   rotate_left
   ·have HNO:=Lib.hid (fun W=>nwhole_no t hZ hnw W)
    have HE:Hid (((leastF F n:Nat):Int)=4):=by
     have e1:=leastF_rank F hlt
     rw [rankF_no hno] at e1
     have e2:=leastF_le F n
     show _=_
     omega
    rw [hFz]
    clear hFz hno hZ hnw
    go_wp2_with fail
    refine (HNO.out _).mono ?_
    rintro e w5 ⟨⟨zz,rfl⟩,rfl⟩
    go_wp2
    go_ret
    exact ⟨by rw [HE.out];rfl,HB4.out⟩
   have HM:Hid (leastF F (m+1)=max (leastF F m) (rankS z)):=by
    show _=_
    rw [<- rankF_fi hz,<- hFz]
    rfl
   have HR:=Lib.hid (rank_any z)
   have HWZ:=Lib.hid (fun W=>nwhole_fi z hz W)
   rw [hFz]
   clear hFz hz hwz
   go_wp2_with fail
   refine (HWZ.out _).mono ?_
   rintro e w5 ⟨rfl,rfl⟩
   obtain ⟨h0,h1,h2,h3,h4,h5,h6,h7⟩:=HX4.out
   generalize leastF F m=p at *
   generalize rankS z=r at *
   go_wp2_with fail
   refine (HR.out _).mono ?_
   rintro e w5 ⟨rfl,rfl⟩
   go_wp2_with fail
   case isTrue h3 =>
    refine (HK.out _).mono ?_
    rintro e w6 ⟨rfl,hb6⟩
    have HB6:=Lib.hid (bel_both HB4.out hb6)
    have HX6:=Lib.hid (HX4.out.below hb6)
    clear hb6
    go_wp2
    go_roundw
    case rel=>exact ⟨m+1,by omega,by go_num,by rw [HM.out];exact congrArg _ (by omega),HB6.out,HX6.out⟩
    case measure=>simp [intOf];omega
   case roundEnd h3 =>
    exact ⟨⟨m+1,by omega,by go_num,by rw [HM.out];exact congrArg _ (by omega),HB4.out,HX4.out⟩,by simp [intOf];omega⟩
  ·obtain rfl:m=n:=by omega
   clear hx
   go_wp2
   go_ret
   exact ⟨rfl,HBL.out⟩
theorem vbits_any (a:Option Addr) (m c:Nat) (len:Int) (w:World) :
  Calls Tryz.prog 190 #[.agg #[.slice a m c,.int .i64 len]] w fun e w'=>e= .returned (vecV 1 (.slice a m c) len vnil vnil vnil vnil vnil)/\Below w.heap.size w w':=by
 have HK:=Lib.hid (heap_alloc_new (w.alloc (.cells #[.slice a m c,.int .i64 len] 52)) (.cells #[.int .i64 1,.slice a m c,.int .i64 len,vnil,vnil,vnil,vnil,vnil] 57))
 go_enter Tryz.func190,Tryz.ntmps190
 go_wp2
 exact bodyPost_ret (ret_vec rfl _ _ _ rfl (by have h:=HK.out;simpa using h)) rfl ⟨rfl,bel2 _ _ _⟩
theorem info_bool:(Tryz.prog.info? 4).map (fun i=>(i.zero,i.size,i.bytes))=some (some (.bool false),1,1):=by kernel_rfl
def NoVec (w:World) (e:Ending) (w':World):Prop:=e= .returned (.tuple #[vecV 0 vnil 0 vnil vnil vnil vnil vnil,.bool false])/\Below w.heap.size w w'
def YesBits (n:Nat) (l:Nat->Bool) (w:World) (e:Ending) (w':World):Prop :=
 ∃ g,e= .returned (.tuple #[vecV 1 (.slice (some ⟨g,0,none⟩) ((n+63) / 64) ((n+63) / 64)) n vnil vnil vnil vnil vnil,.bool true])/\RowU w' w.heap.size g ((n+63) / 64) (packW l n)/\Below w.heap.size w w'
theorem first_bad (p:Nat->Bool) (n:Nat):(∀ j,j < n->p j=true)\/∃ K,K < n/\p K=false/\∀ j,j < K->p j=true:=by
 induction n with
 | zero=>exact .inl fun j hj=>absurd hj (Nat.not_lt_zero _)
 | succ n ih =>
  rcases ih with h | ⟨K,h1,h2,h3⟩
  ·cases hp:p n with
   | true =>
    refine .inl fun j hj=>?_
    by_cases e:j=n
    ·rw [e];exact hp
    ·exact h j (by omega)
   | false=>exact .inr ⟨n,by omega,hp,h⟩
  ·exact .inr ⟨K,by omega,h2,h3⟩
def BitsOut (n K:Nat) (F:Nat->Nat) (w:World) (e:Ending) (w':World):Prop:=(K=n/\YesBits n (fun j=>tv (F j)) w e w')\/(K < n/\NoVec w e w')
theorem intoBits_any (k:Int) (b:Value) (bn:Int) (s i f c x:Value) (n K:Nat) (F:Nat->Nat) (w:World) (hn:n<=1048576)
  (hN:∀ W,Below w.heap.size w W->NumV (vecV k b bn s i f c x) k n F W) (hK:K<=n) (hyes:∀ j,j < K->isT (F j)=true) (hno:K < n->isT (F K)=false) :
  Calls Tryz.prog 234 #[vecV k b bn s i f c x] w (BitsOut n K F w):=by
 have HN:=Lib.hid hN
 have HY:=Lib.hid hyes
 have HNO:=Lib.hid hno
 have hmk:=run_make_row' (P:=Tryz.prog) 37 4 (.bool false) 1 Tryz.underlying37 info_bool rfl .i64 .i64 n (by omega) (by omega)
 clear hN hyes hno
 go_enter Tryz.func234,Tryz.ntmps234
 go_wp2_with fail
 refine (HN.out _ (bel2 w _ _)).len.mono ?_
 rintro e w1 ⟨rfl,hb1⟩
 have HS1:=Lib.hid ((St.new w k b bn s i f c x).step hb1)
 clear hb1
 have HGN:Hid (w.heap.size+2<=w1.heap.size):=HS1.out.sz
 have HF0:=Lib.hid (Fill.made w1 (w.heap.size+2) HS1.out.sz 4 (fun j => .bool (tv (F j))) (.bool false) n (by unfold maxLen;omega))
 have HSM:=Lib.hid (HS1.out.al (.cells (madeCells #[.bool false] n) 4))
 go_wp2_with fail
 go_loopw [13] (fun j wr=>∃ m:Nat,m<=K/\j= .int .i64 m/\Fill wr (w.heap.size+2) w1.heap.size 4 (fun j => .bool (tv (F j))) (.bool false) n m/\St w wr k b bn s i f c x) (fun j _=>n - (intOf j).toNat)
 case atStart=>exact ⟨0,Nat.zero_le _,rfl,HF0.out,HSM.out⟩
 case round =>
  clear hmk HF0 HSM HS1
  obtain ⟨m,hm,rfl,hf,hst⟩:=hrel
  have HF:=Lib.hid hf
  have HST:=Lib.hid hst
  clear hf hst
  by_cases hlt:m < n
  ·obtain ⟨h0,h1,h2,h3,h4,h5,h6,h7⟩:=HST.out.box
   have HTR:=Lib.hid (fun W=>truth_any (F m) ((HN.out _ HST.out.bel).tf m hlt) W)
   have hlt2:(m:Int) < (n:Int):=by omega
   go_wp2_with fail
   refine ((HN.out _ HST.out.bel).num m hlt).mono ?_
   rintro e w3 ⟨rfl,hb3⟩
   have HS3:=Lib.hid (HST.out.step hb3)
   have HF3:=Lib.hid (HF.out.below hb3)
   clear hb3 h0 h1 h2 h3 h4 h5 h6 h7
   by_cases hmK:m < K
   ·rw [HY.out m hmK] at HTR
    have HP3:=Lib.hid (HF3.out.put hlt)
    have HS3':=Lib.hid (HS3.out.put (g:=w1.heap.size) (j:=m) HGN.out (.bool (tv (F m))))
    have hc3:=HF3.out.cell hlt
    have hz3:=HF3.out.frozen m
    generalize tv (F m)=t at *
    go_wp2_with fail
    refine (HTR.out _).mono ?_
    rintro e w4 ⟨rfl,rfl⟩
    go_wp2
    go_roundw
    case rel=>exact ⟨m+1,by omega,by go_num,HP3.out,HS3'.out⟩
    case measure=>simp [intOf];omega
   ·obtain rfl:m=K:=by omega
    rw [HNO.out hlt] at HTR
    generalize tv (F m)=t at *
    go_wp2_with fail
    refine (HTR.out _).mono ?_
    rintro e w4 ⟨rfl,rfl⟩
    obtain ⟨⟨h0,h1,h2,h3,h4,h5,h6,h7⟩,hz⟩:=boxed_of HS3.out.res
    go_wp2
    refine bodyPost_ret (v := .tuple #[vecV 0 vnil 0 vnil vnil vnil vnil vnil,.bool false]) ?_ rfl (.inr ⟨hlt,rfl,below_set8 HS3.out.bel (Nat.le_succ _) _ _ _ _ _ _ _ _⟩)
    exact ret_vec2 (fn:=Tryz.f234) (p:=2) (u:=3) rfl _ _ (w.heap.size+1) (by rfl) (set8_block HS3.out.res _ _ _ _ _ _ _ _)
  ·obtain rfl:m=n:=by omega
   obtain rfl:K=m:=by omega
   have HPK:=Lib.hid (pack_any w1.heap.size 0 K K (fun j=>tv (F j)) hn (Nat.le_refl _) wr (fun i hi=>by rw [Nat.zero_add];exact HF.out.done i hi (Nat.le_refl _)))
   go_wp2_with fail
   refine HPK.out.mono ?_
   rintro e w4 ⟨g,rfl,hr4,hb4⟩
   have HS4:=Lib.hid (HST.out.step hb4)
   have HR4:=Lib.hid (hr4.lower (show w.heap.size+2<=wr.heap.size from HST.out.sz))
   clear hb4 hr4
   go_wp2_with fail
   refine (vbits_any _ _ _ _ _).mono ?_
   rintro e w5 ⟨rfl,hb5⟩
   have HS5:=Lib.hid (HS4.out.step hb5)
   have HR5:=Lib.hid (HR4.out.below hb5)
   clear hb5
   obtain ⟨⟨h0,h1,h2,h3,h4,h5,h6,h7⟩,hz⟩:=boxed_of HS5.out.res
   have hgl:w.heap.size+2<=g:=HR5.out.low.1
   go_wp2
   refine bodyPost_ret (v := .tuple #[vecV 1 (.slice (some ⟨g,0,none⟩) ((K+63) / 64) ((K+63) / 64)) (K:Nat) vnil vnil vnil vnil vnil,.bool true]) ?_ rfl (.inl ⟨rfl,g,rfl,?_,below_set8 HS5.out.bel (Nat.le_succ _) _ _ _ _ _ _ _ _⟩)
   ·exact ret_vec2 (fn:=Tryz.f234) (p:=2) (u:=3) rfl _ _ (w.heap.size+1) (by rfl) (set8_block HS5.out.res _ _ _ _ _ _ _ _)
   ·exact own_set8 (HR5.out.lower (by omega)) (by show some g≠_;intro e;injection e;omega) _ _ _ _ _ _ _ _
end Go.Proofs.YtbakjaliponbbaaGreatDoor
