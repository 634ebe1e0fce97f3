/- The walk of squeeze.Least, whatever the store. The walk of squeeze.Least at floats; squeeze.whole, whatever the store. The walks of vec.Bits and of .. Conditions: as each theorem says. -/
import Derived.Test.YtbakjaliponbbaaGreatDoorMg04
set_option maxRecDepth 100000
set_option maxHeartbeats 2000000
namespace Go.Proofs.YtbakjaliponbbaaGreatDoor
open Go Go.RowKit Go.Proofs Fl
noncomputable def rankF (b:Nat):Nat:=match wholeP b with
 | some z=>rankS z
 | none=>4
theorem rankF_fi {z:Int} (h:Good z):rankF (fi z)=rankS z:=by unfold rankF;rw [wholeP_fi h]
theorem rankF_no {b:Nat} (h:wholeP b=none):rankF b=4:=by unfold rankF;rw [h]
theorem rankF_le (b:Nat):1<=rankF b/\rankF b<=4:=by
 unfold rankF
 split
 ·rename_i z _;have:=rankS_le z;omega
 ·omega
noncomputable def leastF (F:Nat->Nat):Nat->Nat
 | 0=>1
 | k+1=>max (leastF F k) (rankF (F k))
theorem leastF_le (F:Nat->Nat) (k:Nat):1<=leastF F k/\leastF F k<=4:=by
 induction k with
 | zero=>simp [leastF]
 | succ k ih=>have:=rankF_le (F k);unfold leastF;omega
theorem leastF_mono (F:Nat->Nat){a b:Nat} (h:a<=b):leastF F a<=leastF F b:=by
 induction b with
 | zero =>
      have:a=0:=by omega
      subst this;exact Nat.le_refl _
 | succ b ih =>
  by_cases e:a=b+1
  ·subst e;exact Nat.le_refl _
  ·have h1:=ih (by omega)
   have h2:leastF F (b+1)=max (leastF F b) (rankF (F b)):=rfl
   omega
theorem leastF_rank (F:Nat->Nat){i n:Nat} (h:i < n):rankF (F i)<=leastF F n:=by
 have h1:=leastF_mono F (show i+1<=n by omega)
 have h2:leastF F (i+1)=max (leastF F i) (rankF (F i)):=rfl
 omega
theorem leastF_ints (F:Nat->Nat) (n:Nat) (h:∀ j,j < n->∃ z,Good z/\F j=fi z):leastF F n<=3:=by
 induction n with
 | zero=>simp [leastF]
 | succ k ih =>
  have h1:=ih fun j hj=>h j (by omega)
  obtain ⟨z,hz,e⟩:=h k (by omega)
  have h2:leastF F (k+1)=max (leastF F k) (rankF (F k)):=rfl
  rw [e,rankF_fi hz] at h2
  have:=rankS_le z
  omega
theorem least_whole (k:Int) (hk:k=1\/k=2\/k=3) (b:Value) (bn:Int) (s i f c x:Value) (n:Nat) (F:Nat->Nat) (w:World) (hn:n<=1048576)
  (hN:∀ W,Below w.heap.size w W->NumV (vecV k b bn s i f c x) k n F W) :
  Calls Tryz.prog 195 #[vecV k b bn s i f c x] w fun e w'=>e= .returned (.int .i64 (leastF F n:Nat))/\Below w.heap.size w w':=by
 have HK:=Lib.hid (fun W=>kind_any k b bn s i f c x W)
 have HN:=Lib.hid hN
 have H4:Hid (k≠4):=by show k≠4;omega
 have k0:(k==0)=false:=by simp;omega
 have HLE:=Lib.hid (leastF_ints F n ((hN w (Below.refl _ _)).ints (by omega)))
 clear hN
 go_enter Tryz.func195,Tryz.ntmps195
 go_wp2_with fail
 refine (HN.out _ (bel1 w _)).cls.mono ?_
 rintro e w1 ⟨rfl,hb1⟩
 have HX1:=Lib.hid ((boxed_new w 57 k b bn s i f c x).below hb1)
 have HB1:=Lib.hid (bel_both (bel1 w _) hb1)
 clear hb1
 obtain ⟨h0,h1,h2,h3,h4,h5,h6,h7⟩:=HX1.out
 go_wp2_with fail
 refine (HK.out _).mono ?_
 rintro e w2 ⟨rfl,hb2⟩
 have HX2:=Lib.hid (HX1.out.below hb2)
 have HB2:=Lib.hid (bel_both HB1.out hb2)
 clear hb2 h0 h1 h2 h3 h4 h5 h6 h7 HX1 HB1
 obtain ⟨h0,h1,h2,h3,h4,h5,h6,h7⟩:=HX2.out
 go_wp2_with fail
 refine (HN.out _ HB2.out).len.mono ?_
 rintro e w3 ⟨rfl,hb3⟩
 have HX3:=Lib.hid (HX2.out.below hb3)
 have HB3:=Lib.hid (bel_both HB2.out hb3)
 clear hb3 h0 h1 h2 h3 h4 h5 h6 h7 HX2 HB2
 go_wp2_with fail
 go_loopw [3,19] (fun q j wr=>∃ m:Nat,m<=n/\j= .int .i64 m/\q= .int .i64 (leastF F m:Nat)/\Below w.heap.size w wr/\Boxed wr w.heap.size k b bn s i f c x) (fun _ j _=>n - (intOf j).toNat)
 case atStart=>exact ⟨0,Nat.zero_le _,rfl,rfl,HB3.out,HX3.out⟩
 case round =>
  obtain ⟨m,hm,rfl,rfl,hbl,hx⟩:=hrel
  have HBL:=Lib.hid hbl
  have HX:=Lib.hid hx
  clear hbl
  by_cases hlt:m < n
  ·obtain ⟨h0,h1,h2,h3,h4,h5,h6,h7⟩:=hx
   obtain ⟨z,hz,hFz⟩:=(HN.out _ HBL.out).ints H4.out m hlt
   have HM:Hid (leastF F (m+1)=max (leastF F m) (rankS z)):=by
    show _=_
    rw [<- rankF_fi hz,<- hFz]
    rfl
   have HM3:=Lib.hid (leastF_mono F (show m+1<=n by omega))
   have HR:=Lib.hid (rank_any z)
   have HWM:=Lib.hid ((HN.out _ HBL.out).wholeI H4.out m hlt z hz hFz)
   have HL4:=Lib.hid (leastF_le F m)
   have HR4:=Lib.hid (rankS_le z)
   clear hFz hz
   go_wp2_with fail
   refine HWM.out.mono ?_
   rintro e w4 ⟨rfl,hb4⟩
   have HX4:=Lib.hid (HX.out.below hb4)
   have HB4:=Lib.hid (bel_both HBL.out hb4)
   clear hb4 h0 h1 h2 h3 h4 h5 h6 h7 HX
   obtain ⟨h0,h1,h2,h3,h4,h5,h6,h7⟩:=HX4.out
   generalize leastF F m=p at *
   generalize rankS z=r at *
   go_wp2_with fail
   refine (HR.out _).mono ?_
   rintro e w5 ⟨rfl,rfl⟩
   go_wp2_with fail
   case isTrue h3 =>
    refine (HK.out _).mono ?_
    rintro e w6 ⟨rfl,hb6⟩
    have HB6:=Lib.hid (bel_both HB4.out hb6)
    have HX6:=Lib.hid (HX4.out.below hb6)
    have HE:Hid (((leastF F n:Nat):Int)=3):=by
     have e1:=HM.out
     have e2:=HM3.out
     have e3:=HLE.out
     show _=_
     omega
    clear hb6
    by_cases hk3:k=3
    ·have ek:(k==3)=true:=by simpa using hk3
     clear hk3
     go_wp2
     go_ret
     exact ⟨by rw [HE.out];rfl,HB6.out⟩
    ·have ek:(k==3)=false:=by simpa using hk3
     clear hk3
     go_wp2
     go_roundw
     case rel=>exact ⟨m+1,by omega,by go_num,by rw [HM.out];exact congrArg _ (by omega),HB6.out,HX6.out⟩
     case measure=>simp [intOf];omega
   case roundEnd h3 =>
    exact ⟨⟨m+1,by omega,by go_num,by rw [HM.out];exact congrArg _ (by omega),HB4.out,HX4.out⟩,by simp [intOf];omega⟩
  ·obtain rfl:m=n:=by omega
   clear hx
   go_wp2
   go_ret
   exact ⟨rfl,HBL.out⟩
theorem least_float (b:Value) (bn:Int) (s i f c x:Value) (n:Nat) (F:Nat->Nat) (w:World) (hn:n<=1048576)
  (hN:∀ W,Below w.heap.size w W->NumV (vecV 4 b bn s i f c x) 4 n F W) :
  Calls Tryz.prog 195 #[vecV 4 b bn s i f c x] w fun e w'=>e= .returned (.int .i64 (leastF F n:Nat))/\Below w.heap.size w w':=by
 have HK:=Lib.hid (fun W=>kind_any 4 b bn s i f c x W)
 have HN:=Lib.hid hN
 clear hN
 go_enter Tryz.func195,Tryz.ntmps195
 go_wp2_with fail
 refine (HN.out _ (bel1 w _)).cls.mono ?_
 rintro e w1 ⟨rfl,hb1⟩
 have HX1:=Lib.hid ((boxed_new w 57 4 b bn s i f c x).below hb1)
 have HB1:=Lib.hid (bel_both (bel1 w _) hb1)
 clear hb1
 obtain ⟨h0,h1,h2,h3,h4,h5,h6,h7⟩:=HX1.out
 go_wp2_with fail
 refine (HK.out _).mono ?_
 rintro e w2 ⟨rfl,hb2⟩
 have HX2:=Lib.hid (HX1.out.below hb2)
 have HB2:=Lib.hid (bel_both HB1.out hb2)
 clear hb2 h0 h1 h2 h3 h4 h5 h6 h7 HX1 HB1
 obtain ⟨h0,h1,h2,h3,h4,h5,h6,h7⟩:=HX2.out
 go_wp2_with fail
 refine (HN.out _ HB2.out).len.mono ?_
 rintro e w3 ⟨rfl,hb3⟩
 have HX3:=Lib.hid (HX2.out.below hb3)
 have HB3:=Lib.hid (bel_both HB2.out hb3)
 clear hb3 h0 h1 h2 h3 h4 h5 h6 h7 HX2 HB2
 go_wp2_with fail
 go_loopw [3,19] (fun q j wr=>∃ m:Nat,m<=n/\j= .int .i64 m/\q= .int .i64 (leastF F m:Nat)/\Below w.heap.size w wr/\Boxed wr w.heap.size 4 b bn s i f c x) (fun _ j _=>n - (intOf j).toNat)
 case atStart=>exact ⟨0,Nat.zero_le _,rfl,rfl,HB3.out,HX3.out⟩
 case round =>
  obtain ⟨m,hm,rfl,rfl,hbl,hx⟩:=hrel
  have HBL:=Lib.hid hbl
  have HX:=Lib.hid hx
  clear hbl
  by_cases hlt:m < n
  ·obtain ⟨h0,h1,h2,h3,h4,h5,h6,h7⟩:=hx
   have HTF:=Lib.hid ((HN.out _ HBL.out).tf m hlt)
   have HWF:=Lib.hid ((HN.out _ HBL.out).wholeF rfl m hlt)
   go_wp2_with fail
   refine HWF.out.mono ?_
   rintro e w4 ⟨rfl,hb4⟩
   have HX4':=Lib.hid (HX.out.below hb4)
   have HB4':=Lib.hid (bel_both HBL.out hb4)
   clear hb4 h0 h1 h2 h3 h4 h5 h6 h7 HX
   obtain ⟨h0,h1,h2,h3,h4,h5,h6,h7⟩:=HX4'.out
   go_wp2_with fail
   refine ((HN.out _ HB4'.out).num m hlt).mono ?_
   rintro e w4b ⟨rfl,hb4⟩
   have HX4:=Lib.hid (HX4'.out.below hb4)
   have HB4:=Lib.hid (bel_both HB4'.out hb4)
   clear hb4 h0 h1 h2 h3 h4 h5 h6 h7 HX4' HB4'
   rcases whole_cases HTF.out with ⟨z,hz,hFz,hwz⟩ | ⟨hno,t,Z,hZ,hFz,hnw⟩
   rotate_left
   ·have HNO:=Lib.hid (fun W=>nwhole_no t hZ hnw W)
    have HE:Hid (((leastF F n:Nat):Int)=4):=by
     have e1:=leastF_rank F hlt
     rw [rankF_no hno] at e1
     have e2:=leastF_le F n
     show _=_
     omega
    rw [hFz]
    clear hFz hno hZ hnw
    go_wp2_with fail
    refine (HNO.out _).mono ?_
    rintro e w5 ⟨⟨zz,rfl⟩,rfl⟩
    go_wp2
    go_ret
    exact ⟨by rw [HE.out];rfl,HB4.out⟩
   have HM:Hid (leastF F (m+1)=max (leastF F m) (rankS z)):=by
    show _=_
    rw [<- rankF_fi hz,<- hFz]
    rfl
   have HR:=Lib.hid (rank_any z)
   have HWZ:=Lib.hid (fun W=>nwhole_fi z hz W)
   rw [hFz]
   clear hFz hz hwz
   go_wp2_with fail
   refine (HWZ.out _).mono ?_
   rintro e w5 ⟨rfl,rfl⟩
   obtain ⟨h0,h1,h2,h3,h4,h5,h6,h7⟩:=HX4.out
   generalize leastF F m=p at *
   generalize rankS z=r at *
   go_wp2_with fail
   refine (HR.out _).mono ?_
   rintro e w5 ⟨rfl,rfl⟩
   go_wp2_with fail
   case isTrue h3 =>
    refine (HK.out _).mono ?_
    rintro e w6 ⟨rfl,hb6⟩
    have HB6:=Lib.hid (bel_both HB4.out hb6)
    have HX6:=Lib.hid (HX4.out.below hb6)
    clear hb6
    go_wp2
    go_roundw
    case rel=>exact ⟨m+1,by omega,by go_num,by rw [HM.out];exact congrArg _ (by omega),HB6.out,HX6.out⟩
    case measure=>simp [intOf];omega
   case roundEnd h3 =>
    exact ⟨⟨m+1,by omega,by go_num,by rw [HM.out];exact congrArg _ (by omega),HB4.out,HX4.out⟩,by simp [intOf];omega⟩
  ·obtain rfl:m=n:=by omega
   clear hx
   go_wp2
   go_ret
   exact ⟨rfl,HBL.out⟩
theorem vbits_any (a:Option Addr) (m c:Nat) (len:Int) (w:World) :
  Calls Tryz.prog 190 #[.agg #[.slice a m c,.int .i64 len]] w fun e w'=>e= .returned (vecV 1 (.slice a m c) len vnil vnil vnil vnil vnil)/\Below w.heap.size w w':=by
 have HK:=Lib.hid (heap_alloc_new (w.alloc (.cells #[.slice a m c,.int .i64 len] 52)) (.cells #[.int .i64 1,.slice a m c,.int .i64 len,vnil,vnil,vnil,vnil,vnil] 57))
 go_enter Tryz.func190,Tryz.ntmps190
 go_wp2
 exact bodyPost_ret (ret_vec rfl _ _ _ rfl (by have h:=HK.out;simpa using h)) rfl ⟨rfl,bel2 _ _ _⟩
theorem info_bool:(Tryz.prog.info? 4).map (fun i=>(i.zero,i.size,i.bytes))=some (some (.bool false),1,1):=by kernel_rfl
def NoVec (w:World) (e:Ending) (w':World):Prop:=e= .returned (.tuple #[vecV 0 vnil 0 vnil vnil vnil vnil vnil,.bool false])/\Below w.heap.size w w'
def YesBits (n:Nat) (l:Nat->Bool) (w:World) (e:Ending) (w':World):Prop :=
 ∃ g,e= .returned (.tuple #[vecV 1 (.slice (some ⟨g,0,none⟩) ((n+63) / 64) ((n+63) / 64)) n vnil vnil vnil vnil vnil,.bool true])/\RowU w' w.heap.size g ((n+63) / 64) (packW l n)/\Below w.heap.size w w'
theorem first_bad (p:Nat->Bool) (n:Nat):(∀ j,j < n->p j=true)\/∃ K,K < n/\p K=false/\∀ j,j < K->p j=true:=by
 induction n with
 | zero=>exact .inl fun j hj=>absurd hj (Nat.not_lt_zero _)
 | succ n ih =>
  rcases ih with h | ⟨K,h1,h2,h3⟩
  ·cases hp:p n with
   | true =>
    refine .inl fun j hj=>?_
    by_cases e:j=n
    ·rw [e];exact hp
    ·exact h j (by omega)
   | false=>exact .inr ⟨n,by omega,hp,h⟩
  ·exact .inr ⟨K,by omega,h2,h3⟩
def BitsOut (n K:Nat) (F:Nat->Nat) (w:World) (e:Ending) (w':World):Prop:=(K=n/\YesBits n (fun j=>tv (F j)) w e w')\/(K < n/\NoVec w e w')
theorem intoBits_any (k:Int) (b:Value) (bn:Int) (s i f c x:Value) (n K:Nat) (F:Nat->Nat) (w:World) (hn:n<=1048576)
  (hN:∀ W,Below w.heap.size w W->NumV (vecV k b bn s i f c x) k n F W) (hK:K<=n) (hyes:∀ j,j < K->isT (F j)=true) (hno:K < n->isT (F K)=false) :
  Calls Tryz.prog 234 #[vecV k b bn s i f c x] w (BitsOut n K F w):=by
 have HN:=Lib.hid hN
 have HY:=Lib.hid hyes
 have HNO:=Lib.hid hno
 have hmk:=run_make_row' (P:=Tryz.prog) 37 4 (.bool false) 1 Tryz.underlying37 info_bool rfl .i64 .i64 n (by omega) (by omega)
 clear hN hyes hno
 go_enter Tryz.func234,Tryz.ntmps234
 go_wp2_with fail
 refine (HN.out _ (bel2 w _ _)).len.mono ?_
 rintro e w1 ⟨rfl,hb1⟩
 have HS1:=Lib.hid ((St.new w k b bn s i f c x).step hb1)
 clear hb1
 have HGN:Hid (w.heap.size+2<=w1.heap.size):=HS1.out.sz
 have HF0:=Lib.hid (Fill.made w1 (w.heap.size+2) HS1.out.sz 4 (fun j => .bool (tv (F j))) (.bool false) n (by unfold maxLen;omega))
 have HSM:=Lib.hid (HS1.out.al (.cells (madeCells #[.bool false] n) 4))
 go_wp2_with fail
 go_loopw [13] (fun j wr=>∃ m:Nat,m<=K/\j= .int .i64 m/\Fill wr (w.heap.size+2) w1.heap.size 4 (fun j => .bool (tv (F j))) (.bool false) n m/\St w wr k b bn s i f c x) (fun j _=>n - (intOf j).toNat)
 case atStart=>exact ⟨0,Nat.zero_le _,rfl,HF0.out,HSM.out⟩
 case round =>
  clear hmk HF0 HSM HS1
  obtain ⟨m,hm,rfl,hf,hst⟩:=hrel
  have HF:=Lib.hid hf
  have HST:=Lib.hid hst
  clear hf hst
  by_cases hlt:m < n
  ·obtain ⟨h0,h1,h2,h3,h4,h5,h6,h7⟩:=HST.out.box
   have HTR:=Lib.hid (fun W=>truth_any (F m) ((HN.out _ HST.out.bel).tf m hlt) W)
   have hlt2:(m:Int) < (n:Int):=by omega
   go_wp2_with fail
   refine ((HN.out _ HST.out.bel).num m hlt).mono ?_
   rintro e w3 ⟨rfl,hb3⟩
   have HS3:=Lib.hid (HST.out.step hb3)
   have HF3:=Lib.hid (HF.out.below hb3)
   clear hb3 h0 h1 h2 h3 h4 h5 h6 h7
   by_cases hmK:m < K
   ·rw [HY.out m hmK] at HTR
    have HP3:=Lib.hid (HF3.out.put hlt)
    have HS3':=Lib.hid (HS3.out.put (g:=w1.heap.size) (j:=m) HGN.out (.bool (tv (F m))))
    have hc3:=HF3.out.cell hlt
    have hz3:=HF3.out.frozen m
    generalize tv (F m)=t at *
    go_wp2_with fail
    refine (HTR.out _).mono ?_
    rintro e w4 ⟨rfl,rfl⟩
    go_wp2
    go_roundw
    case rel=>exact ⟨m+1,by omega,by go_num,HP3.out,HS3'.out⟩
    case measure=>simp [intOf];omega
   ·obtain rfl:m=K:=by omega
    rw [HNO.out hlt] at HTR
    generalize tv (F m)=t at *
    go_wp2_with fail
    refine (HTR.out _).mono ?_
    rintro e w4 ⟨rfl,rfl⟩
    obtain ⟨⟨h0,h1,h2,h3,h4,h5,h6,h7⟩,hz⟩:=boxed_of HS3.out.res
    go_wp2
    refine bodyPost_ret (v := .tuple #[vecV 0 vnil 0 vnil vnil vnil vnil vnil,.bool false]) ?_ rfl (.inr ⟨hlt,rfl,below_set8 HS3.out.bel (Nat.le_succ _) _ _ _ _ _ _ _ _⟩)
    exact ret_vec2 (fn:=Tryz.f234) (p:=2) (u:=3) rfl _ _ (w.heap.size+1) (by rfl) (set8_block HS3.out.res _ _ _ _ _ _ _ _)
  ·obtain rfl:m=n:=by omega
   obtain rfl:K=m:=by omega
   have HPK:=Lib.hid (pack_any w1.heap.size 0 K K (fun j=>tv (F j)) hn (Nat.le_refl _) wr (fun i hi=>by rw [Nat.zero_add];exact HF.out.done i hi (Nat.le_refl _)))
   go_wp2_with fail
   refine HPK.out.mono ?_
   rintro e w4 ⟨g,rfl,hr4,hb4⟩
   have HS4:=Lib.hid (HST.out.step hb4)
   have HR4:=Lib.hid (hr4.lower (show w.heap.size+2<=wr.heap.size from HST.out.sz))
   clear hb4 hr4
   go_wp2_with fail
   refine (vbits_any _ _ _ _ _).mono ?_
   rintro e w5 ⟨rfl,hb5⟩
   have HS5:=Lib.hid (HS4.out.step hb5)
   have HR5:=Lib.hid (HR4.out.below hb5)
   clear hb5
   obtain ⟨⟨h0,h1,h2,h3,h4,h5,h6,h7⟩,hz⟩:=boxed_of HS5.out.res
   have hgl:w.heap.size+2<=g:=HR5.out.low.1
   go_wp2
   refine bodyPost_ret (v := .tuple #[vecV 1 (.slice (some ⟨g,0,none⟩) ((K+63) / 64) ((K+63) / 64)) (K:Nat) vnil vnil vnil vnil vnil,.bool true]) ?_ rfl (.inl ⟨rfl,g,rfl,?_,below_set8 HS5.out.bel (Nat.le_succ _) _ _ _ _ _ _ _ _⟩)
   ·exact ret_vec2 (fn:=Tryz.f234) (p:=2) (u:=3) rfl _ _ (w.heap.size+1) (by rfl) (set8_block HS5.out.res _ _ _ _ _ _ _ _)
   ·exact own_set8 (HR5.out.lower (by omega)) (by show some g≠_;intro e;injection e;omega) _ _ _ _ _ _ _ _
def SqW (b:Nat) (w:World) (e:Ending) (w':World):Prop :=
 ((∃ z,wholeP b=some z/\e= .returned (.tuple #[.int .i64 z,.bool true]))\/(wholeP b=none/\∃ m:Int,e= .returned (.tuple #[.int .i64 m,.bool false])))/\Below w.heap.size w w'
theorem sqwhole_int (k:Int) (hk:k≠4) (b:Value) (bn:Int) (s i f c x:Value) (n:Nat) (F:Nat->Nat) (w:World)
  (hN:∀ W,Below w.heap.size w W->NumV (vecV k b bn s i f c x) k n F W) (j:Nat) (hj:j < n) :
  Calls Tryz.prog 255 #[vecV k b bn s i f c x,.int .i64 (j:Int)] w (SqW (F j) w):=by
 obtain ⟨z,hz,e⟩:=(hN w (Below.refl _ _)).ints hk j hj
 have HV:=Lib.hid ((hN _ (bel1 w (.cells #[.int .i64 k,b,.int .i64 bn,s,i,f,c,x] 57))).wholeI hk j hj z hz e)
 have HW:Hid (wholeP (F j)=some z):=by show _=_;rw [e];exact wholeP_fi hz
 clear hN e
 go_enter Tryz.func255,Tryz.ntmps255
 go_wp2_with fail
 refine HV.out.mono ?_
 rintro e w1 ⟨rfl,hb1⟩
 have HB1:=Lib.hid (bel_both (bel1 w _) hb1)
 clear hb1
 go_wp2
 go_ret2
 exact ⟨.inl ⟨z,HW.out,rfl⟩,HB1.out⟩
theorem sqwhole_float (b:Value) (bn:Int) (s i f c x:Value) (n:Nat) (F:Nat->Nat) (w:World)
  (hN:∀ W,Below w.heap.size w W->NumV (vecV 4 b bn s i f c x) 4 n F W) (j:Nat) (hj:j < n) :
  Calls Tryz.prog 255 #[vecV 4 b bn s i f c x,.int .i64 (j:Int)] w (SqW (F j) w):=by
 have HN:=Lib.hid hN
 have HV:=Lib.hid ((hN _ (bel1 w (.cells #[.int .i64 4,b,.int .i64 bn,s,i,f,c,x] 57))).wholeF rfl j hj)
 have HTF:=Lib.hid ((hN w (Below.refl _ _)).tf j hj)
 clear hN
 go_enter Tryz.func255,Tryz.ntmps255
 go_wp2_with fail
 refine HV.out.mono ?_
 rintro e w1 ⟨rfl,hb1⟩
 have HB1:=Lib.hid (bel_both (bel1 w _) hb1)
 obtain ⟨h0,h1,h2,h3,h4,h5,h6,h7⟩:=(boxed_new w 57 4 b bn s i f c x).below hb1
 clear hb1
 go_wp2_with fail
 refine ((HN.out _ HB1.out).num j hj).mono ?_
 rintro e w2 ⟨rfl,hb2⟩
 have HB2:=Lib.hid (bel_both HB1.out hb2)
 clear hb2 h0 h1 h2 h3 h4 h5 h6 h7
 rcases whole_cases HTF.out with ⟨z,hz,e,hwz⟩ | ⟨hno,t,Z,hZ,e,hnw⟩
 ·have HZ:=Lib.hid (fun W=>nwhole_fi z hz W)
  have HWZ:=Lib.hid hwz
  rw [<- e] at HZ
  clear e hz hwz
  generalize F j=y at *
  go_wp2_with fail
  refine (HZ.out _).mono ?_
  rintro e w3 ⟨rfl,rfl⟩
  go_wp2
  go_ret2
  exact ⟨.inl ⟨z,HWZ.out,rfl⟩,HB2.out⟩
 ·have HZ:=Lib.hid (fun W=>nwhole_no t hZ hnw W)
  have HWZ:=Lib.hid hno
  rw [<- e] at HZ
  clear e hZ hno hnw
  generalize F j=y at *
  go_wp2_with fail
  refine (HZ.out _).mono ?_
  rintro e w3 ⟨⟨m,rfl⟩,rfl⟩
  go_wp2
  go_ret2
  exact ⟨.inr ⟨HWZ.out,m,rfl⟩,HB2.out⟩
theorem sqwhole_any (k:Int) (b:Value) (bn:Int) (s i f c x:Value) (n:Nat) (F:Nat->Nat) (w:World)
  (hN:∀ W,Below w.heap.size w W->NumV (vecV k b bn s i f c x) k n F W) (j:Nat) (hj:j < n) :
  Calls Tryz.prog 255 #[vecV k b bn s i f c x,.int .i64 (j:Int)] w (SqW (F j) w):=by
 by_cases hk:k=4
 ·subst hk;exact sqwhole_float b bn s i f c x n F w hN j hj
 ·exact sqwhole_int k hk b bn s i f c x n F w hN j hj
noncomputable def zOf (b:Nat):Int:=(wholeP b).getD 0
theorem zOf_of {b:Nat}{z:Int} (h:wholeP b=some z):zOf b=z:=by unfold zOf;rw [h];rfl
noncomputable def smallB (b:Nat):Bool:=match wholeP b with
 | some z=>decide (-128<=z/\z<=127)
 | none=>false
theorem smallB_of {b:Nat} (h:smallB b=true):∃ z,wholeP b=some z/\-128<=z/\z<=127:=by
 unfold smallB at h
 split at h
 ·rename_i z e;exact ⟨z,e,of_decide_eq_true h⟩
 ·cases h
def YesSmall (n:Nat) (F:Nat->Nat) (w:World) (e:Ending) (w':World):Prop :=
 ∃ a n' c',e= .returned (.tuple #[vecV 2 vnil 0 (.slice a n' c') vnil vnil vnil vnil,.bool true])/\Own1 w' w.heap.size 196 (.slice a n' c') ((List.range n).map fun j => .int .i8 (zOf (F j)))/\Below w.heap.size w w'
def SmallOut (n K:Nat) (F:Nat->Nat) (w:World) (e:Ending) (w':World):Prop:=(K=n/\YesSmall n F w e w')\/(K < n/\NoVec w e w')
theorem intoSmalls_any (k:Int) (b:Value) (bn:Int) (s i f c x:Value) (n K:Nat) (F:Nat->Nat) (w:World) (hn:n<=1000000)
  (hN:∀ W,Below w.heap.size w W->NumV (vecV k b bn s i f c x) k n F W) (hK:K<=n) (hyes:∀ j,j < K->smallB (F j)=true) (hno:K < n->smallB (F K)=false) :
  Calls Tryz.prog 235 #[vecV k b bn s i f c x] w (SmallOut n K F w):=by
 have HN:=Lib.hid hN
 have HY:=Lib.hid hyes
 have HNO:=Lib.hid hno
 have hmk:=run_make_row' (P:=Tryz.prog) 53 196 (.int .i8 0) 1 Tryz.underlying53 info_i8 rfl .i64 .i64 n (by omega) (by omega)
 clear hN hyes hno
 go_enter Tryz.func235,Tryz.ntmps235
 go_wp2_with fail
 refine (HN.out _ (bel2 w _ _)).len.mono ?_
 rintro e w1 ⟨rfl,hb1⟩
 have HS1:=Lib.hid ((St.new w k b bn s i f c x).step hb1)
 clear hb1
 have HGN:Hid (w.heap.size+2<=w1.heap.size):=HS1.out.sz
 have HF0:=Lib.hid (Fill.made w1 (w.heap.size+2) HS1.out.sz 196 (fun j => .int .i8 (zOf (F j))) (.int .i8 0) n (by unfold maxLen;omega))
 have HSM:=Lib.hid (HS1.out.al (.cells (madeCells #[.int .i8 0] n) 196))
 go_wp2_with fail
 go_loopw [13] (fun j wr=>∃ m:Nat,m<=K/\j= .int .i64 m/\Fill wr (w.heap.size+2) w1.heap.size 196 (fun j => .int .i8 (zOf (F j))) (.int .i8 0) n m/\St w wr k b bn s i f c x) (fun j _=>n - (intOf j).toNat)
 case atStart=>exact ⟨0,Nat.zero_le _,rfl,HF0.out,HSM.out⟩
 case round =>
  clear hmk HF0 HSM HS1
  obtain ⟨m,hm,rfl,hf,hst⟩:=hrel
  have HF:=Lib.hid hf
  have HST:=Lib.hid hst
  clear hf hst
  by_cases hlt:m < n
  ·obtain ⟨h0,h1,h2,h3,h4,h5,h6,h7⟩:=HST.out.box
   have hlt2:(m:Int) < (n:Int):=by omega
   have HWH:=Lib.hid (sqwhole_any k b bn s i f c x n F wr (fun W hb=>HN.out W (bel_both HST.out.bel hb)) m hlt)
   go_wp2_with fail
   refine HWH.out.mono ?_
   rintro e w3 ⟨hres,hb3⟩
   have HS3:=Lib.hid (HST.out.step hb3)
   have HF3:=Lib.hid (HF.out.below hb3)
   clear hb3 h0 h1 h2 h3 h4 h5 h6 h7
   by_cases hmK:m < K
   ·obtain ⟨z,hwz,hz1,hz2⟩:=smallB_of (HY.out m hmK)
    have hez:zOf (F m)=z:=zOf_of hwz
    have HP3:=Lib.hid (HF3.out.put hlt)
    have HS3':=Lib.hid (HS3.out.put (g:=w1.heap.size) (j:=m) HGN.out (.int .i8 (zOf (F m))))
    have hc3:=HF3.out.cell hlt
    have hz3:=HF3.out.frozen m
    rw [hez] at HP3 HS3'
    rcases hres with ⟨z',e1,rfl⟩ | ⟨e1,_⟩
    ·rw [hwz] at e1
     injection e1 with e1
     subst e1
     clear hwz hez
     go_wp2
     go_roundw
     case rel=>exact ⟨m+1,by omega,by go_num,HP3.out,HS3'.out⟩
     case measure=>simp [intOf];omega
    ·rw [hwz] at e1;cases e1
   ·obtain rfl:m=K:=by omega
    have hbad:=HNO.out hlt
    obtain ⟨⟨h0,h1,h2,h3,h4,h5,h6,h7⟩,hz⟩:=boxed_of HS3.out.res
    rcases hres with ⟨z',e1,rfl⟩ | ⟨e1,mm,rfl⟩
    ·have hout:¬ (-128<=z'/\z'<=127):=by
      intro hh
      unfold smallB at hbad
      rw [e1] at hbad
      have hb2:decide (-128<=z'/\z'<=127)=false:=hbad
      rw [decide_eq_true hh] at hb2
      cases hb2
     clear e1 hbad
     by_cases hlow:z' < -128
     ·go_wp2
      refine bodyPost_ret (v := .tuple #[vecV 0 vnil 0 vnil vnil vnil vnil vnil,.bool false]) ?_ rfl (.inr ⟨hlt,rfl,below_set8 HS3.out.bel (Nat.le_succ _) _ _ _ _ _ _ _ _⟩)
      exact ret_vec2 (fn:=Tryz.f235) (p:=2) (u:=3) rfl _ _ (w.heap.size+1) (by rfl) (set8_block HS3.out.res _ _ _ _ _ _ _ _)
     ·have hhigh:127 < z':=by omega
      clear hout
      go_wp2
      refine bodyPost_ret (v := .tuple #[vecV 0 vnil 0 vnil vnil vnil vnil vnil,.bool false]) ?_ rfl (.inr ⟨hlt,rfl,below_set8 HS3.out.bel (Nat.le_succ _) _ _ _ _ _ _ _ _⟩)
      exact ret_vec2 (fn:=Tryz.f235) (p:=2) (u:=3) rfl _ _ (w.heap.size+1) (by rfl) (set8_block HS3.out.res _ _ _ _ _ _ _ _)
    ·clear e1 hbad
     go_wp2
     refine bodyPost_ret (v := .tuple #[vecV 0 vnil 0 vnil vnil vnil vnil vnil,.bool false]) ?_ rfl (.inr ⟨hlt,rfl,below_set8 HS3.out.bel (Nat.le_succ _) _ _ _ _ _ _ _ _⟩)
     exact ret_vec2 (fn:=Tryz.f235) (p:=2) (u:=3) rfl _ _ (w.heap.size+1) (by rfl) (set8_block HS3.out.res _ _ _ _ _ _ _ _)
  ·obtain rfl:m=n:=by omega
   obtain rfl:K=m:=by omega
   have HSS:=Lib.hid (smalls_any (w:=wr) (l:=(List.range K).map fun j=>zOf (F j)) (v := .slice (some ⟨w1.heap.size,0,none⟩) K K) (by rw [List.map_map];exact HF.out.own.reads) (by simp;omega))
   go_wp2_with fail
   refine HSS.out.mono ?_
   rintro e w4 ⟨u,rfl,ho,hb4⟩
   have HS4:=Lib.hid (HST.out.step hb4)
   have HO:=Lib.hid (ho.lower (show w.heap.size+2<=wr.heap.size from HST.out.sz))
   rw [List.map_map] at HO
   obtain ⟨a,n',c',hu⟩:∃ a n c,u= .slice a n c:=by obtain ⟨a,c,e⟩:=ho.reads.len;exact ⟨a,_,c,e⟩
   subst hu
   have HNE:Hid ((Value.slice a n' c').ownBlock≠some (w.heap.size+1)):=fun e=>by have:=(World.ownsRow.lt HO.out _ e).1;omega
   clear hb4 ho
   obtain ⟨⟨h0,h1,h2,h3,h4,h5,h6,h7⟩,hz⟩:=boxed_of HS4.out.res
   go_wp2
   refine bodyPost_ret (v := .tuple #[vecV 2 vnil 0 (.slice a n' c') vnil vnil vnil vnil,.bool true]) ?_ rfl (.inl ⟨rfl,a,n',c',rfl,own_set8 (HO.out.lower (by omega)) HNE.out _ _ _ _ _ _ _ _,below_set8 HS4.out.bel (Nat.le_succ _) _ _ _ _ _ _ _ _⟩)
   exact ret_vec2 (fn:=Tryz.f235) (p:=2) (u:=3) rfl _ _ (w.heap.size+1) (by rfl) (set8_block HS4.out.res _ _ _ _ _ _ _ _)
def WhsOut (n K:Nat) (F:Nat->Nat) (w:World) (e:Ending) (w':World):Prop :=
 (K=n/\∃ g,e= .returned (.tuple #[.slice (some ⟨g,0,none⟩) n n,.bool true])/\Own1 w' w.heap.size 2 (.slice (some ⟨g,0,none⟩) n n) ((List.range n).map fun j => .int .i64 (zOf (F j)))/\Below w.heap.size w w') \/
 (K < n/\e= .returned (.tuple #[.slice none 0 0,.bool false])/\Below w.heap.size w w')
theorem sqwholes_any (k:Int) (b:Value) (bn:Int) (s i f c x:Value) (n K:Nat) (F:Nat->Nat) (w:World) (hn:n<=1000000)
  (hN:∀ W,Below w.heap.size w W->NumV (vecV k b bn s i f c x) k n F W) (hK:K<=n) (hyes:∀ j,j < K->∃ z,wholeP (F j)=some z) (hno:K < n->wholeP (F K)=none) :
  Calls Tryz.prog 236 #[vecV k b bn s i f c x] w (WhsOut n K F w):=by
 have HN:=Lib.hid hN
 have HY:=Lib.hid hyes
 have HNO:=Lib.hid hno
 have hmk:=run_make_row' (P:=Tryz.prog) 54 2 (.int .i64 0) 8 Tryz.underlying54 info_i64 rfl .i64 .i64 n (by omega) (by omega)
 clear hN hyes hno
 go_enter Tryz.func236,Tryz.ntmps236
 go_wp2_with fail
 refine (HN.out _ (bel1 w _)).len.mono ?_
 rintro e w1 ⟨rfl,hb1⟩
 have HX1:=Lib.hid ((boxed_new w 57 k b bn s i f c x).below hb1)
 have HB1:=Lib.hid (bel_both (bel1 w _) hb1)
 clear hb1
 have HGN:Hid (w.heap.size+1<=w1.heap.size):=HX1.out.lt
 have HF0:=Lib.hid (Fill.made w1 w.heap.size HB1.out.size 2 (fun j => .int .i64 (zOf (F j))) (.int .i64 0) n (by unfold maxLen;omega))
 have HBM:=Lib.hid (HB1.out.alloc HB1.out.size (.cells (madeCells #[.int .i64 0] n) 2))
 have HXM:=Lib.hid (HX1.out.below (bel1 w1 (.cells (madeCells #[.int .i64 0] n) 2)))
 go_wp2_with fail
 go_loopw [13] (fun j wr=>∃ m:Nat,m<=K/\j= .int .i64 m/\Fill wr w.heap.size w1.heap.size 2 (fun j => .int .i64 (zOf (F j))) (.int .i64 0) n m/\Below w.heap.size w wr/\Boxed wr w.heap.size k b bn s i f c x) (fun j _=>n - (intOf j).toNat)
 case atStart=>exact ⟨0,Nat.zero_le _,rfl,HF0.out,HBM.out,HXM.out⟩
 case round =>
  clear hmk HF0 HBM HXM HB1 HX1
  obtain ⟨m,hm,rfl,hf,hbl,hx⟩:=hrel
  have HF:=Lib.hid hf
  have HBL:=Lib.hid hbl
  have HX:=Lib.hid hx
  clear hf hbl
  by_cases hlt:m < n
  ·obtain ⟨h0,h1,h2,h3,h4,h5,h6,h7⟩:=hx
   have hlt2:(m:Int) < (n:Int):=by omega
   have HWH:=Lib.hid (sqwhole_any k b bn s i f c x n F wr (fun W hb=>HN.out W (bel_both HBL.out hb)) m hlt)
   go_wp2_with fail
   refine HWH.out.mono ?_
   rintro e w3 ⟨hres,hb3⟩
   have HB3:=Lib.hid (bel_both HBL.out hb3)
   have HX3:=Lib.hid (HX.out.below hb3)
   have HF3:=Lib.hid (HF.out.below hb3)
   clear hb3 h0 h1 h2 h3 h4 h5 h6 h7
   by_cases hmK:m < K
   ·obtain ⟨z,hwz⟩:=HY.out m hmK
    have hez:zOf (F m)=z:=zOf_of hwz
    have HP3:=Lib.hid (HF3.out.put hlt)
    have HB4:=Lib.hid (HF3.out.bel HB3.out m (.int .i64 (zOf (F m))))
    have HX4:=Lib.hid (HX3.out.set (p:=⟨w1.heap.size,m,none⟩) (by have:=HGN.out;show w1.heap.size≠w.heap.size;omega) (.int .i64 (zOf (F m))))
    have hc3:=HF3.out.cell hlt
    have hz3:=HF3.out.frozen m
    rw [hez] at HP3 HB4 HX4
    rcases hres with ⟨z',e1,rfl⟩ | ⟨e1,_⟩
    ·rw [hwz] at e1
     injection e1 with e1
     subst e1
     clear hwz hez
     go_wp2
     go_roundw
     case rel=>exact ⟨m+1,by omega,by go_num,HP3.out,HB4.out,HX4.out⟩
     case measure=>simp [intOf];omega
    ·rw [hwz] at e1;cases e1
   ·obtain rfl:m=K:=by omega
    have hbad:=HNO.out hlt
    rcases hres with ⟨z',e1,rfl⟩ | ⟨e1,mm,rfl⟩
    ·rw [hbad] at e1;cases e1
    ·clear e1 hbad
     go_wp2
     go_ret2
     exact .inr ⟨hlt,rfl,HB3.out⟩
  ·obtain rfl:m=n:=by omega
   obtain rfl:K=m:=by omega
   clear hx
   go_wp2
   go_ret2
   exact .inl ⟨rfl,_,rfl,HF.out.own,HBL.out⟩
noncomputable def fitB (kd:Int) (F:Nat->Nat) (n:Nat):Bool :=
 if kd=1 then (List.range n).all fun j=>isT (F j) else if kd=2 then (List.range n).all fun j=>smallB (F j) else if kd=3 then (List.range n).all fun j=>(wholeP (F j)).isSome else true
def PI (kd:Int) (n:Nat) (F:Nat->Nat) (u:Value) (t:Bool) (W:World):Prop :=
 t=fitB kd F n/\(t=true->NumV u kd n F W)/\(t=false->u=vecV 0 vnil 0 vnil vnil vnil vnil vnil)
def Sub (H:Nat->Prop) (W:World) (P:Value->Bool->World->Prop) (e:Ending) (w':World):Prop :=
 ∃ (k:Int) (b:Sl) (bn:Int) (s i f c x:Sl) (t:Bool),e= .returned (.tuple #[vecW k b bn s i f c x,.bool t])/\Keeps H w' (P (vecW k b bn s i f c x) t)/\Below W.heap.size W w'
theorem NumV.congr {v:Value}{k:Int}{n:Nat}{F F':Nat->Nat}{w:World} (h:NumV v k n F w) (e:∀ j,j < n->F' j=F j):NumV v k n F' w :=
 ⟨h.cls,h.len,fun j hj=>by rw [e j hj];exact h.num j hj,fun hk j hj z hz hz2=>h.wholeI hk j hj z hz (by rw [<- e j hj];exact hz2),h.wholeF,fun hk j hj=>by rw [e j hj];exact h.ints hk j hj,fun j hj=>by rw [e j hj];exact h.tf j hj,h.kind,fun hk=>by obtain ⟨l,s,h1,h2,h3⟩:=h.bitsX hk;exact ⟨l,s,h1,h2,fun j hj=>by rw [e j hj];exact h3 j hj⟩,fun hk=>by obtain ⟨l,s,h1,h2,h3⟩:=h.intsX hk;exact ⟨l,s,h1,h2,fun j hj=>by rw [e j hj];exact h3 j hj⟩,h.shape⟩
theorem all_range {n:Nat}{p:Nat->Bool}:(List.range n).all p=true↔∀ j,j < n->p j=true:=by
 rw [List.all_eq_true]
 exact ⟨fun h j hj=>h j (List.mem_range.2 hj),fun h j hj=>h j (List.mem_range.1 hj)⟩
theorem all_bad {n K:Nat}{p:Nat->Bool} (hK:K < n) (hp:p K=false):(List.range n).all p=false:=by
 cases h:(List.range n).all p with
 | false=>rfl
 | true=>rw [all_range.1 h K hK] at hp;cases hp
theorem flag_tv {b:Nat} (h:isT b=true):flagF (tv b)=b:=by
 unfold isT at h
 rcases of_decide_eq_true h with rfl | rfl
 ·rfl
 ·rfl
theorem Keeps.noVec {H:Nat->Prop}{W:World}{kd:Int}{n:Nat}{F:Nat->Nat} (h:fitB kd F n=false):Keeps H W (PI kd n F (vecW 0 (none,0,0) 0 (none,0,0) (none,0,0) (none,0,0) (none,0,0) (none,0,0)) false) :=
 fun _ _ _=>⟨h.symm,(fun e=>by cases e),fun _=>rfl⟩
theorem intoBits_sub (H:Nat->Prop) (k:Int) (b:Value) (bn:Int) (s i f c x:Value) (n:Nat) (F:Nat->Nat) (w:World) (hH:∀ b,H b->b < w.heap.size) (hn:n<=1000000)
  (hN:∀ W,Below w.heap.size w W->NumV (vecV k b bn s i f c x) k n F W) :
  Calls Tryz.prog 234 #[vecV k b bn s i f c x] w (Sub H w (PI 1 n F)):=by
 have main:∀ K,K<=n->(∀ j,j < K->isT (F j)=true)->(K < n->isT (F K)=false)->Calls Tryz.prog 234 #[vecV k b bn s i f c x] w (Sub H w (PI 1 n F)):=by
  intro K hK hy hno
  refine (intoBits_any k b bn s i f c x n K F w (by omega) hN hK hy hno).mono ?_
  rintro e w' (⟨hKn,g,rfl,hr,hb⟩ | ⟨hKn,rfl,hb⟩)
  ·have hfit:fitB 1 F n=true:=by
    unfold fitB
    rw [if_pos rfl,all_range]
    intro j hj
    exact hy j (by omega)
   refine ⟨1,(some ⟨g,0,none⟩,(n+63) / 64,(n+63) / 64),n,(none,0,0),(none,0,0),(none,0,0),(none,0,0),(none,0,0),true,rfl,?_,hb⟩
   refine (Own1.keepsH hr hH).imp fun W' h2=>⟨hfit.symm,fun _=>?_,fun e=>by cases e⟩
   exact (numV_bits (by omega) ⟨_,rfl,⟨g,0,_,rfl,fun j hj=>reads_cell h2 j hj⟩⟩).congr fun j hj=>(flag_tv (hy j (by omega))).symm
  ·have hfit:fitB 1 F n=false:=by unfold fitB;rw [if_pos rfl];exact all_bad hKn (hno hKn)
   exact ⟨0,(none,0,0),0,(none,0,0),(none,0,0),(none,0,0),(none,0,0),(none,0,0),false,rfl,Keeps.noVec hfit,hb⟩
 rcases first_bad (fun j=>isT (F j)) n with h | ⟨K,h1,h2,h3⟩
 ·exact main n (Nat.le_refl _) h (fun h=>absurd h (Nat.lt_irrefl _))
 ·exact main K (by omega) h3 (fun _=>h2)
theorem fi_zOf {b:Nat}{z:Int} (h:wholeP b=some z):fi (zOf b)=b:=by rw [zOf_of h];exact (wholeP_some h).2.symm
theorem intoSmalls_sub (H:Nat->Prop) (k:Int) (b:Value) (bn:Int) (s i f c x:Value) (n:Nat) (F:Nat->Nat) (w:World) (hH:∀ b,H b->b < w.heap.size) (hn:n<=1000000)
  (hN:∀ W,Below w.heap.size w W->NumV (vecV k b bn s i f c x) k n F W) :
  Calls Tryz.prog 235 #[vecV k b bn s i f c x] w (Sub H w (PI 2 n F)):=by
 have main:∀ K,K<=n->(∀ j,j < K->smallB (F j)=true)->(K < n->smallB (F K)=false)->Calls Tryz.prog 235 #[vecV k b bn s i f c x] w (Sub H w (PI 2 n F)):=by
  intro K hK hy hno
  refine (intoSmalls_any k b bn s i f c x n K F w hn hN hK hy hno).mono ?_
  rintro e w' (⟨hKn,a,n',c',rfl,ho,hb⟩ | ⟨hKn,rfl,hb⟩)
  ·have hfit:fitB 2 F n=true:=by
    unfold fitB
    rw [if_neg (by decide),if_pos rfl,all_range]
    intro j hj
    exact hy j (by omega)
   refine ⟨2,(none,0,0),0,(a,n',c'),(none,0,0),(none,0,0),(none,0,0),(none,0,0),true,rfl,?_,hb⟩
   refine (Own1.keepsH ho hH).imp fun W' h2=>⟨hfit.symm,fun _=>?_,fun e=>by cases e⟩
   refine (numV_small (l:=fun j=>zOf (F j)) ⟨⟨_,rfl,h2⟩,fun j hj=>?_⟩).congr fun j hj=>?_
   ·obtain ⟨z,hz,h3,h4⟩:=smallB_of (hy j (by omega))
    show -128<=zOf (F j)/\zOf (F j)<=127
    rw [zOf_of hz]
    exact ⟨h3,h4⟩
   ·obtain ⟨z,hz,h3,h4⟩:=smallB_of (hy j (by omega))
    exact (fi_zOf hz).symm
  ·have hfit:fitB 2 F n=false:=by unfold fitB;rw [if_neg (by decide),if_pos rfl];exact all_bad hKn (hno hKn)
   exact ⟨0,(none,0,0),0,(none,0,0),(none,0,0),(none,0,0),(none,0,0),(none,0,0),false,rfl,Keeps.noVec hfit,hb⟩
 rcases first_bad (fun j=>smallB (F j)) n with h | ⟨K,h1,h2,h3⟩
 ·exact main n (Nat.le_refl _) h (fun h=>absurd h (Nat.lt_irrefl _))
 ·exact main K (by omega) h3 (fun _=>h2)
theorem into_1 (H:Nat->Prop) (P:Value->Bool->World->Prop) (k:Int) (b:Value) (bn:Int) (s i f c x:Value) (w:World) (hk:k≠1) (hk0:k≠0) (hH:∀ b,H b->b < w.heap.size)
  (hcl:∀ W,Below w.heap.size w W->Calls Tryz.prog 135 #[vecV k b bn s i f c x] W fun e w2=>e= .returned (.int .i64 0)/\Below W.heap.size W w2)
  (hs:∀ W H',Below w.heap.size w W->(∀ b,H' b->b < W.heap.size)->Calls Tryz.prog 234 #[vecV k b bn s i f c x] W (Sub H' W P)) :
  Calls Tryz.prog 194 #[vecV k b bn s i f c x,.int .i64 1] w (Sub H w P):=by
 have HK:=Lib.hid (fun W=>kind_any k b bn s i f c x W)
 have HC:=Lib.hid hcl
 have HI:=Lib.hid (fun (W:World) (hb:Below w.heap.size w W)=>hs W (Hole H w W) hb (Hole.lt hH hb))
 clear hcl hs hH
 have e2:(k==1)=false:=by simpa using hk
 have e0:(k==0)=false:=by simpa using hk0
 go_enter Tryz.func194,Tryz.ntmps194
 go_wp2_with fail
 refine (HK.out _).mono ?_
 rintro e w1 ⟨rfl,hb1⟩
 have HS1:=Lib.hid ((St.new w k b bn s i f c x).step hb1)
 obtain ⟨h0,h1,h2,h3,h4,h5,h6,h7⟩:=HS1.out.box
 clear hb1
 go_wp2_with fail
 refine (HC.out _ HS1.out.bel).mono ?_
 rintro e w2 ⟨rfl,hb2⟩
 have HS2:=Lib.hid (HS1.out.step hb2)
 clear hb2 h0 h1 h2 h3 h4 h5 h6 h7 HS1
 obtain ⟨h0,h1,h2,h3,h4,h5,h6,h7⟩:=HS2.out.box
 go_wp2_with fail
 refine (HK.out _).mono ?_
 rintro e w3 ⟨rfl,hb3⟩
 have HS3:=Lib.hid (HS2.out.step hb3)
 clear hb3 h0 h1 h2 h3 h4 h5 h6 h7 HS2
 obtain ⟨h0,h1,h2,h3,h4,h5,h6,h7⟩:=HS3.out.box
 go_wp2_with fail
 refine (HI.out _ HS3.out.bel).mono ?_
 rintro e w4 ⟨k4,b4,bn4,s4,i4,f4,c4,x4,t,rfl,hk4,hb4⟩
 have HS4:=Lib.hid (HS3.out.step hb4)
 have HKE:=Lib.hid (hk4.sub (H':=fun j=>H j\/j=w.heap.size+1) fun j _ e=>e.imp id fun e=>by have:=HS3.out.sz;omega)
 clear hb4 hk4 h0 h1 h2 h3 h4 h5 h6 h7 HS3
 obtain ⟨⟨h0,h1,h2,h3,h4,h5,h6,h7⟩,hz⟩:=boxed_of HS4.out.res
 go_wp2
 refine bodyPost_ret (v := .tuple #[vecW k4 b4 bn4 s4 i4 f4 c4 x4,.bool t]) ?_ rfl ⟨k4,b4,bn4,s4,i4,f4,c4,x4,t,rfl,(HKE.out.set8 (.inr rfl) _ _ _ _ _ _ _ _).sub (fun _ _ e => .inl e),below_set8 HS4.out.bel (Nat.le_succ _) _ _ _ _ _ _ _ _⟩
 exact ret_vec2 (fn:=Tryz.f194) (p:=4) (u:=5) rfl _ _ (w.heap.size+1) (by rfl) (set8_block HS4.out.res _ _ _ _ _ _ _ _)
theorem into_2 (H:Nat->Prop) (P:Value->Bool->World->Prop) (k:Int) (b:Value) (bn:Int) (s i f c x:Value) (w:World) (hk:k≠2) (hk0:k≠0) (hH:∀ b,H b->b < w.heap.size)
  (hcl:∀ W,Below w.heap.size w W->Calls Tryz.prog 135 #[vecV k b bn s i f c x] W fun e w2=>e= .returned (.int .i64 0)/\Below W.heap.size W w2)
  (hs:∀ W H',Below w.heap.size w W->(∀ b,H' b->b < W.heap.size)->Calls Tryz.prog 235 #[vecV k b bn s i f c x] W (Sub H' W P)) :
  Calls Tryz.prog 194 #[vecV k b bn s i f c x,.int .i64 2] w (Sub H w P):=by
 have HK:=Lib.hid (fun W=>kind_any k b bn s i f c x W)
 have HC:=Lib.hid hcl
 have HI:=Lib.hid (fun (W:World) (hb:Below w.heap.size w W)=>hs W (Hole H w W) hb (Hole.lt hH hb))
 clear hcl hs hH
 have e2:(k==2)=false:=by simpa using hk
 have e0:(k==0)=false:=by simpa using hk0
 go_enter Tryz.func194,Tryz.ntmps194
 go_wp2_with fail
 refine (HK.out _).mono ?_
 rintro e w1 ⟨rfl,hb1⟩
 have HS1:=Lib.hid ((St.new w k b bn s i f c x).step hb1)
 obtain ⟨h0,h1,h2,h3,h4,h5,h6,h7⟩:=HS1.out.box
 clear hb1
 go_wp2_with fail
 refine (HC.out _ HS1.out.bel).mono ?_
 rintro e w2 ⟨rfl,hb2⟩
 have HS2:=Lib.hid (HS1.out.step hb2)
 clear hb2 h0 h1 h2 h3 h4 h5 h6 h7 HS1
 obtain ⟨h0,h1,h2,h3,h4,h5,h6,h7⟩:=HS2.out.box
 go_wp2_with fail
 refine (HK.out _).mono ?_
 rintro e w3 ⟨rfl,hb3⟩
 have HS3:=Lib.hid (HS2.out.step hb3)
 clear hb3 h0 h1 h2 h3 h4 h5 h6 h7 HS2
 obtain ⟨h0,h1,h2,h3,h4,h5,h6,h7⟩:=HS3.out.box
 go_wp2_with fail
 refine (HI.out _ HS3.out.bel).mono ?_
 rintro e w4 ⟨k4,b4,bn4,s4,i4,f4,c4,x4,t,rfl,hk4,hb4⟩
 have HS4:=Lib.hid (HS3.out.step hb4)
 have HKE:=Lib.hid (hk4.sub (H':=fun j=>H j\/j=w.heap.size+1) fun j _ e=>e.imp id fun e=>by have:=HS3.out.sz;omega)
 clear hb4 hk4 h0 h1 h2 h3 h4 h5 h6 h7 HS3
 obtain ⟨⟨h0,h1,h2,h3,h4,h5,h6,h7⟩,hz⟩:=boxed_of HS4.out.res
 go_wp2
 refine bodyPost_ret (v := .tuple #[vecW k4 b4 bn4 s4 i4 f4 c4 x4,.bool t]) ?_ rfl ⟨k4,b4,bn4,s4,i4,f4,c4,x4,t,rfl,(HKE.out.set8 (.inr rfl) _ _ _ _ _ _ _ _).sub (fun _ _ e => .inl e),below_set8 HS4.out.bel (Nat.le_succ _) _ _ _ _ _ _ _ _⟩
 exact ret_vec2 (fn:=Tryz.f194) (p:=4) (u:=5) rfl _ _ (w.heap.size+1) (by rfl) (set8_block HS4.out.res _ _ _ _ _ _ _ _)
end Go.Proofs.YtbakjaliponbbaaGreatDoor
