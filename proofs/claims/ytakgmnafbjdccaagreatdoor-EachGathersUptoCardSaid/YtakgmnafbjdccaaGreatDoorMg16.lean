/- The walk of num.Power at a whole number of at most 1023. The walk of the reference's Power; powers are what both .. Conditions: as each theorem says. -/
import Derived.Test.YtakgmnafbjdccaaGreatDoorMg15
import Derived.Test.YtakgmnafbjdccaaGreatDoorMg08
set_option maxRecDepth 100000
set_option maxHeartbeats 1000000
namespace Go.Proofs.YtakgmnafbjdccaaGreatDoor
open Go Go.RowKit Go.Proofs Fl
theorem powP_up {a:Nat}{n:Int} (h0:0<=n) (h1:n<=1023):powP a n=doneP (powF n.natAbs 4607182418800017408 a):=by
 unfold powP
 rw [if_neg (by omega),if_pos h0]
theorem powP_down {a:Nat}{n:Int} (h0:n < 0) (h1:-1023<=n):powP a n=if (doneP (powF n.natAbs 4607182418800017408 a)).2=0/\(doneP (powF n.natAbs 4607182418800017408 a)).1≠0 then doneP (opB .quo 4607182418800017408 (powF n.natAbs 4607182418800017408 a)) else (0,24):=by
 unfold powP
 rw [if_neg (by omega),if_neg (by omega)]
theorem npow_up (a:Nat) (t:Bool) (ha:Cl t a) (n:Int) (hn0:0<=n) (hn1:n<=1023) (w:World) :
  Calls Tryz.prog 271 #[.float .f64 a,.float .f64 (fi n)] w fun e w'=>e= .returned (.tuple #[.float .f64 (powP a n).1,.int .i64 (powP a n).2])/\w=w':=by
 have HW:=Lib.hid (fun W=>nwhole_fi n ⟨by omega,by omega⟩ W)
 have HP:=Lib.hid (powP_up (a:=a) hn0 hn1)
 generalize powP a n=R at *
 have HA:=Lib.hid ha
 have HO:=Lib.hid (cl_one t)
 have nn:¬ n < 0:=by omega
 have n3:¬ 1023 < n:=by omega
 have n4:¬ n < -1023:=by omega
 clear ha
 go_enter Tryz.func271,Tryz.ntmps271
 go_wp2_with fail
 refine (HW.out _).mono ?_
 rintro e w1 ⟨rfl,rfl⟩
 go_wp2
 go_loop [8,9,10] (fun k o x=>∃ (K O X:Nat),K<=1023/\k= .int .i64 K/\o= .float .f64 O/\x= .float .f64 X/\Cl t O/\Cl t X/\powF K O X=powF n.natAbs 4607182418800017408 a) (fun k _ _=>(intOf k).toNat)
 case atStart=>exact ⟨n.natAbs,4607182418800017408,a,by omega,by congr 1;omega,rfl,rfl,HO.out,HA.out,rfl⟩
 case round =>
  obtain ⟨K,O,X,hK,rfl,rfl,rfl,ho,hx,hpw⟩:=hrel
  have HOO:=Lib.hid ho
  have HXX:=Lib.hid hx
  have HPW:=Lib.hid hpw
  clear ho hx hpw
  by_cases h0:K=0
  ·subst h0
   have HQ:Hid (R=doneP O):=by
    show _=_
    rw [HP.out,<- HPW.out,powF_zero]
   have HD:=Lib.hid (fun W=>done_any O HOO.out.lt W)
   go_wp2_with fail
   refine (HD.out _).mono ?_
   rintro e w2 ⟨rfl,rfl⟩
   go_wp2
   go_ret2
   exact ⟨by rw [HQ.out];rfl,rfl⟩
  ·have e1:=and1 K (by omega)
   have HM1:=HOO.out.mul HXX.out
   have HM2:=HXX.out.mul HXX.out
   have hop1:=fun w=>run_float_arith (P:=Tryz.prog) w .mul 51 .f64 _ _ _ HM1.1
   have hop2:=fun w=>run_float_arith (P:=Tryz.prog) w .mul 51 .f64 _ _ _ HM2.1
   have HN1:=Lib.hid HM1.2
   have HN2:=Lib.hid HM2.2
   have HPP:=Lib.hid (powF_pos O X h0)
   clear HM1 HM2
   generalize opB .mul O X=OX at *
   generalize opB .mul X X=XX at *
   have p0:0 < K:=by omega
   by_cases h2:K % 2=1
   ·have e2:(((K % 2:Nat):Int)==1)=true:=by simp;omega
    have HP2:Hid ((if K % 2=1 then OX else O)=OX):=if_pos h2
    clear h2
    by_cases h1:1 < K
    ·have HP3:Hid ((if 1 < K then XX else X)=XX):=if_pos h1
     go_wp2
     go_round
     case rel=>exact ⟨K / 2,OX,XX,by omega,by go_num,rfl,rfl,HN1.out,HN2.out,by rw [<- HPW.out,HPP.out,HP2.out,HP3.out]⟩
     case measure=>simp [intOf];omega
    ·have HP3:Hid ((if 1 < K then XX else X)=X):=if_neg h1
     go_wp2
     go_round
     case rel=>exact ⟨K / 2,OX,X,by omega,by go_num,rfl,rfl,HN1.out,HXX.out,by rw [<- HPW.out,HPP.out,HP2.out,HP3.out]⟩
     case measure=>simp [intOf];omega
   ·have e2:(((K % 2:Nat):Int)==1)=false:=by simp;omega
    have HP2:Hid ((if K % 2=1 then OX else O)=O):=if_neg h2
    have h1:1 < K:=by omega
    clear h2
    have HP3:Hid ((if 1 < K then XX else X)=XX):=if_pos h1
    go_wp2
    go_round
    case rel=>exact ⟨K / 2,O,XX,by omega,by go_num,rfl,rfl,HOO.out,HN2.out,by rw [<- HPW.out,HPP.out,HP2.out,HP3.out]⟩
    case measure=>simp [intOf];omega
theorem npow_down (a:Nat) (t:Bool) (ha:Cl t a) (n:Int) (hn0:n < 0) (hn1:-1023<=n) (w:World) :
  Calls Tryz.prog 271 #[.float .f64 a,.float .f64 (fi n)] w fun e w'=>e= .returned (.tuple #[.float .f64 (powP a n).1,.int .i64 (powP a n).2])/\w=w':=by
 have HW:=Lib.hid (fun W=>nwhole_fi n ⟨by omega,by omega⟩ W)
 have HP:=Lib.hid (powP_down (a:=a) hn0 hn1)
 generalize powP a n=R at *
 have HA:=Lib.hid ha
 have HO:=Lib.hid (cl_one t)
 have n3:¬ 1023 < n:=by omega
 have n4:¬ n < -1023:=by omega
 have n5:¬ 0<=n:=by omega
 clear ha
 go_enter Tryz.func271,Tryz.ntmps271
 go_wp2_with fail
 refine (HW.out _).mono ?_
 rintro e w1 ⟨rfl,rfl⟩
 go_wp2
 go_loop [8,9,10] (fun k o x=>∃ (K O X:Nat),K<=1023/\k= .int .i64 K/\o= .float .f64 O/\x= .float .f64 X/\Cl t O/\Cl t X/\powF K O X=powF n.natAbs 4607182418800017408 a) (fun k _ _=>(intOf k).toNat)
 case atStart=>exact ⟨n.natAbs,4607182418800017408,a,by omega,by congr 1;omega,rfl,rfl,HO.out,HA.out,rfl⟩
 case round =>
  obtain ⟨K,O,X,hK,rfl,rfl,rfl,ho,hx,hpw⟩:=hrel
  have HOO:=Lib.hid ho
  have HXX:=Lib.hid hx
  have HPW:=Lib.hid hpw
  clear ho hx hpw
  by_cases h0:K=0
  ·subst h0
   have HQ:Hid (R=if (doneP O).2=0/\(doneP O).1≠0 then doneP (opB .quo 4607182418800017408 O) else (0,24)):=by
    show _=_
    rw [HP.out,<- HPW.out,powF_zero]
   rcases cl_cases HOO.out with ⟨s,Z,hz,rfl⟩ | ⟨s,rfl⟩
   ·have hd:=doneP_num s hz
    have HD:=Lib.hid (fun W=>done_any _ HOO.out.lt W)
    rw [hd] at HD HQ
    have h3:=fo_eq s false hz rep_zero
    rw [W_zero,sg_zero] at h3
    by_cases hz0:Z=0
    ·have HQ2:Hid (R=(0,24)):=by
      show _=_
      rw [HQ.out,if_neg (fun h=>h.2 (if_pos hz0))]
     rw [decide_eq_true (by rw [sg_eq_zero];exact hz0)] at h3
     have h3':=beq_iff_eq.1 h3
     clear hd hz hz0
     generalize W s Z=O at *
     generalize tid s Z=O' at *
     go_wp2_with fail
     refine (HD.out _).mono ?_
     rintro e w2 ⟨rfl,rfl⟩
     go_wp2
     go_ret2
     exact ⟨by rw [HQ2.out];rfl,rfl⟩
    ·obtain ⟨hq1,hq2⟩:=quo_one s hz hz0
     have hne:tid s Z≠0:=fun e=>by
      have e2:tid s Z=W s Z:=if_neg hz0
      have e:W s Z=0:=e2▸e
      have h4:=fo_eq s false hz rep_zero
      rw [W_zero,sg_zero,e,decide_eq_false (by rw [sg_eq_zero];exact hz0)] at h4
      have:(FloatKind.f64.format.order 0 0==some .eq)=true:=by decide
      rw [this] at h4
      cases h4
     have HQ2:Hid (R=doneP (opB .quo 4607182418800017408 (W s Z))):=by
      show _=_
      rw [HQ.out,if_pos ⟨rfl,hne⟩]
     rw [decide_eq_false (by rw [sg_eq_zero];exact hz0)] at h3
     have h3':=beq_eq_false_iff_ne.1 h3
     have hop:=fun w=>run_float_arith (P:=Tryz.prog) w .quo 51 .f64 _ _ _ hq1
     have HD2:=Lib.hid (fun W=>done_any _ hq2 W)
     clear hd hz hz0 hq1 hq2 hne
     generalize opB .quo 4607182418800017408 (W s Z)=P at *
     generalize W s Z=O at *
     generalize tid s Z=O' at *
     go_wp2_with fail
     refine (HD.out _).mono ?_
     rintro e w2 ⟨rfl,rfl⟩
     go_wp2_with fail
     refine (HD2.out _).mono ?_
     rintro e w2 ⟨rfl,rfl⟩
     go_wp2
     go_ret2
     exact ⟨by rw [HQ2.out];rfl,rfl⟩
   ·have HD:=Lib.hid (fun W=>done_any _ HOO.out.lt W)
    rw [doneP_inf] at HD HQ
    have HQ2:Hid (R=(0,24)):=by
     show _=_
     rw [HQ.out,if_neg (fun h=>absurd h.1 (by decide))]
    generalize infw s=O at *
    go_wp2_with fail
    refine (HD.out _).mono ?_
    rintro e w2 ⟨rfl,rfl⟩
    go_wp2
    go_ret2
    exact ⟨by rw [HQ2.out];rfl,rfl⟩
  ·have e1:=and1 K (by omega)
   have HM1:=HOO.out.mul HXX.out
   have HM2:=HXX.out.mul HXX.out
   have hop1:=fun w=>run_float_arith (P:=Tryz.prog) w .mul 51 .f64 _ _ _ HM1.1
   have hop2:=fun w=>run_float_arith (P:=Tryz.prog) w .mul 51 .f64 _ _ _ HM2.1
   have HN1:=Lib.hid HM1.2
   have HN2:=Lib.hid HM2.2
   have HPP:=Lib.hid (powF_pos O X h0)
   clear HM1 HM2
   generalize opB .mul O X=OX at *
   generalize opB .mul X X=XX at *
   have p0:0 < K:=by omega
   by_cases h2:K % 2=1
   ·have e2:(((K % 2:Nat):Int)==1)=true:=by simp;omega
    have HP2:Hid ((if K % 2=1 then OX else O)=OX):=if_pos h2
    clear h2
    by_cases h1:1 < K
    ·have HP3:Hid ((if 1 < K then XX else X)=XX):=if_pos h1
     go_wp2
     go_round
     case rel=>exact ⟨K / 2,OX,XX,by omega,by go_num,rfl,rfl,HN1.out,HN2.out,by rw [<- HPW.out,HPP.out,HP2.out,HP3.out]⟩
     case measure=>simp [intOf];omega
    ·have HP3:Hid ((if 1 < K then XX else X)=X):=if_neg h1
     go_wp2
     go_round
     case rel=>exact ⟨K / 2,OX,X,by omega,by go_num,rfl,rfl,HN1.out,HXX.out,by rw [<- HPW.out,HPP.out,HP2.out,HP3.out]⟩
     case measure=>simp [intOf];omega
   ·have e2:(((K % 2:Nat):Int)==1)=false:=by simp;omega
    have HP2:Hid ((if K % 2=1 then OX else O)=O):=if_neg h2
    have h1:1 < K:=by omega
    clear h2
    have HP3:Hid ((if 1 < K then XX else X)=XX):=if_pos h1
    go_wp2
    go_round
    case rel=>exact ⟨K / 2,O,XX,by omega,by go_num,rfl,rfl,HOO.out,HN2.out,by rw [<- HPW.out,HPP.out,HP2.out,HP3.out]⟩
    case measure=>simp [intOf];omega
theorem npow_far (a:Nat) (n:Int) (hg:Good n) (hn:n < -1023\/1023 < n) (w:World) :
  Calls Tryz.prog 271 #[.float .f64 a,.float .f64 (fi n)] w fun e w'=>e= .returned (.tuple #[.float .f64 (powP a n).1,.int .i64 (powP a n).2])/\w=w':=by
 have HW:=Lib.hid (fun W=>nwhole_fi n hg W)
 have hp:powP a n=(0,24):=if_pos hn
 rw [hp]
 clear hp hg
 rcases hn with hn | hn
 ·have n3:¬ 1023 < n:=by omega
  go_enter Tryz.func271,Tryz.ntmps271
  go_wp2_with fail
  refine (HW.out _).mono ?_
  rintro e w1 ⟨rfl,rfl⟩
  go_wp2
  go_ret2
  exact ⟨rfl,rfl⟩
 ·go_enter Tryz.func271,Tryz.ntmps271
  go_wp2_with fail
  refine (HW.out _).mono ?_
  rintro e w1 ⟨rfl,rfl⟩
  go_wp2
  go_ret2
  exact ⟨rfl,rfl⟩
theorem npow_not (a:Nat) (s:Bool){Z:Nat} (hz:Rep Z) (hn:¬ IsWhole Z) (w:World) :
  Calls Tryz.prog 271 #[.float .f64 a,.float .f64 (W s Z)] w fun e w'=>e= .returned (.tuple #[.float .f64 0,.int .i64 24])/\w=w':=by
 have HW:=Lib.hid (fun W=>nwhole_no s hz hn W)
 generalize W s Z=b at *
 clear hz hn
 go_enter Tryz.func271,Tryz.ntmps271
 go_wp2_with fail
 refine (HW.out _).mono ?_
 rintro e w1 ⟨⟨n,rfl⟩,rfl⟩
 go_wp2
 go_ret2
 exact ⟨rfl,rfl⟩
theorem npow_any (a b:Nat) (ha:TF a) (hb:TF b) (w:World) :
  Calls Tryz.prog 271 #[.float .f64 a,.float .f64 b] w fun e w'=>e= .returned (.tuple #[.float .f64 (pwP a b).1,.int .i64 (pwP a b).2])/\w=w':=by
 rcases whole_cases hb with ⟨n,hg,rfl,e⟩ | ⟨e,s,Z,hz,rfl,hn⟩
 ·have e2:pwP a (fi n)=powP a n:=by unfold pwP;rw [e]
  rw [e2]
  obtain ⟨t,hc⟩:=cl_tf ha
  by_cases h1:n < -1023\/1023 < n
  ·exact npow_far a n hg h1 w
  ·by_cases h0:0<=n
   ·exact npow_up a t hc n h0 (by omega) w
   ·exact npow_down a t hc n (by omega) (by omega) w
 ·have e2:pwP a (W s Z)=(0,24):=by unfold pwP;rw [e]
  rw [e2]
  exact npow_not a s hz hn w
theorem ret_i64 {a b:Int} (h:a=b):Ending.returned (.int .i64 a)= .returned (.int .i64 b):=by rw [h]
theorem fi_1023:(4652209618980700160:Nat)=fi 1023:=by decide+kernel
theorem fi_n1023:(13875581655835475968:Nat)=fi (-1023):=by decide+kernel
theorem ord_fi (n m:Int) (hn:Good n) (hm:Good m):FloatKind.f64.format.order (fi n) (fi m)=some (compare n m):=order_fi n m (natAbs_good hn) (natAbs_good hm)
theorem ord_gt (n m:Int) (hn:Good n) (hm:Good m):(FloatKind.f64.format.order (fi n) (fi m)==some .gt)=decide (m < n):=by
 rw [ord_fi n m hn hm]
 rcases Int.lt_trichotomy n m with h | h | h
 ·rw [cmp_lt h,decide_eq_false (by omega)];rfl
 ·rw [h,cmp_eq,decide_eq_false (by omega)];rfl
 ·rw [cmp_gt h,decide_eq_true h];rfl
theorem ord_lt (n m:Int) (hn:Good n) (hm:Good m):(FloatKind.f64.format.order (fi n) (fi m)==some .lt)=decide (n < m):=by
 rw [ord_fi n m hn hm]
 rcases Int.lt_trichotomy n m with h | h | h
 ·rw [cmp_lt h,decide_eq_true h];rfl
 ·rw [h,cmp_eq,decide_eq_false (by omega)];rfl
 ·rw [cmp_gt h,decide_eq_false (by omega)];rfl
theorem ord_eq (n m:Int) (hn:Good n) (hm:Good m):(FloatKind.f64.format.order (fi n) (fi m)==some .eq)=decide (n=m):=by
 rw [ord_fi n m hn hm]
 rcases Int.lt_trichotomy n m with h | h | h
 ·rw [cmp_lt h,decide_eq_false (by omega)];rfl
 ·rw [h,cmp_eq,decide_eq_true rfl];rfl
 ·rw [cmp_gt h,decide_eq_false (by omega)];rfl
theorem range_up {n:Int} (hg:Good n) (h0:0<=n) (h1:n<=1023) :
  (FloatKind.f64.format.order (fi n) 4652209618980700160==some .gt)=false/\¬ FloatKind.f64.format.order (fi n) 4652209618980700160=some .gt /\
  (FloatKind.f64.format.order (fi n) 13875581655835475968==some .lt)=false/\¬ FloatKind.f64.format.order (fi n) 13875581655835475968=some .lt /\
  (FloatKind.f64.format.order (fi n) 0==some .gt||FloatKind.f64.format.order (fi n) 0==some .eq)=true:=by
 have a:=ord_gt n 1023 hg (by decide)
 have b:=ord_lt n (-1023) hg (by decide)
 have c:=ord_gt n 0 hg (by decide)
 have d:=ord_eq n 0 hg (by decide)
 rw [<- fi_1023,decide_eq_false (by omega)] at a
 rw [<- fi_n1023,decide_eq_false (by omega)] at b
 rw [fi_zero] at c d
 refine ⟨a,beq_eq_false_iff_ne.1 a,b,beq_eq_false_iff_ne.1 b,?_⟩
 rw [c,d]
 simp;omega
theorem range_down {n:Int} (hg:Good n) (h0:n < 0) (h1:-1023<=n) :
  (FloatKind.f64.format.order (fi n) 4652209618980700160==some .gt)=false/\¬ FloatKind.f64.format.order (fi n) 4652209618980700160=some .gt /\
  (FloatKind.f64.format.order (fi n) 13875581655835475968==some .lt)=false/\¬ FloatKind.f64.format.order (fi n) 13875581655835475968=some .lt /\
  (FloatKind.f64.format.order (fi n) 0==some .gt||FloatKind.f64.format.order (fi n) 0==some .eq)=false:=by
 have a:=ord_gt n 1023 hg (by decide)
 have b:=ord_lt n (-1023) hg (by decide)
 have c:=ord_gt n 0 hg (by decide)
 have d:=ord_eq n 0 hg (by decide)
 rw [<- fi_1023,decide_eq_false (by omega)] at a
 rw [<- fi_n1023,decide_eq_false (by omega)] at b
 rw [fi_zero] at c d
 refine ⟨a,beq_eq_false_iff_ne.1 a,b,beq_eq_false_iff_ne.1 b,?_⟩
 rw [c,d]
 simp;omega
theorem size_any (n:Int) (hg:Good n) (w:World) :
  Calls Tryz.prog 285 #[.int .i64 n] w fun e w'=>e= .returned (.int .i64 (n.natAbs:Nat))/\w=w':=by
 obtain ⟨g1,g2⟩:=hg
 by_cases h:n < 0
 ·go_enter Tryz.func285,Tryz.ntmps285
  go_wp2
  go_ret
  exact ⟨ret_i64 (by omega),rfl⟩
 ·go_enter Tryz.func285,Tryz.ntmps285
  go_wp2
  go_ret
  exact ⟨ret_i64 (by omega),rfl⟩
theorem rpow_up (a:Nat) (t:Bool) (ha:Cl t a) (n:Int) (hn0:0<=n) (hn1:n<=1023) (w:World) :
  Calls Tryz.prog 281 #[.float .f64 a,.float .f64 (fi n)] w fun e w'=>e= .returned (.tuple #[.float .f64 (powP a n).1,.int .i64 (powP a n).2])/\w=w':=by
 have hgn:Good n:=⟨by omega,by omega⟩
 have HW:=Lib.hid (fun W=>rwhole_fi n hgn W)
 have hcv:=fun W=>conv_fi n hgn W
 have HSZ:=Lib.hid (fun W=>size_any n hgn W)
 obtain ⟨g1,g2,g3,g4,g5⟩:=range_up hgn hn0 hn1
 have HP:=Lib.hid (powP_up (a:=a) hn0 hn1)
 generalize powP a n=R at *
 have HA:=Lib.hid ha
 have HO:=Lib.hid (cl_one t)
 have hnb:n.natAbs<=1023:=by omega
 clear hgn hn0 hn1
 clear ha
 go_enter Tryz.func281,Tryz.ntmps281
 go_wp2_with fail
 refine (HW.out _).mono ?_
 rintro e w1 ⟨rfl,rfl⟩
 go_wp2_with fail
 refine (HSZ.out _).mono ?_
 rintro e w1 ⟨rfl,rfl⟩
 go_wp2
 go_loop [6,7,8] (fun k o x=>∃ (K O X:Nat),K<=1023/\k= .int .i64 K/\o= .float .f64 O/\x= .float .f64 X/\Cl t O/\Cl t X/\powF K O X=powF n.natAbs 4607182418800017408 a) (fun k _ _=>(intOf k).toNat)
 case atStart=>exact ⟨n.natAbs,4607182418800017408,a,hnb,rfl,rfl,rfl,HO.out,HA.out,rfl⟩
 case round =>
  obtain ⟨K,O,X,hK,rfl,rfl,rfl,ho,hx,hpw⟩:=hrel
  have HOO:=Lib.hid ho
  have HXX:=Lib.hid hx
  have HPW:=Lib.hid hpw
  clear ho hx hpw
  by_cases h0:K=0
  ·subst h0
   have HQ:Hid (R=doneP O):=by
    show _=_
    rw [HP.out,<- HPW.out,powF_zero]
   have HD:=Lib.hid (fun W=>rdone_any O HOO.out.lt W)
   go_wp2_with fail
   refine (HD.out _).mono ?_
   rintro e w2 ⟨rfl,rfl⟩
   go_wp2
   go_ret2
   exact ⟨by rw [HQ.out];rfl,rfl⟩
  ·skip
   have HM1:=HOO.out.mul HXX.out
   have HM2:=HXX.out.mul HXX.out
   have hop1:=fun w=>run_float_arith (P:=Tryz.prog) w .mul 51 .f64 _ _ _ HM1.1
   have hop2:=fun w=>run_float_arith (P:=Tryz.prog) w .mul 51 .f64 _ _ _ HM2.1
   have HN1:=Lib.hid HM1.2
   have HN2:=Lib.hid HM2.2
   have HPP:=Lib.hid (powF_pos O X h0)
   clear HM1 HM2
   generalize opB .mul O X=OX at *
   generalize opB .mul X X=XX at *
   have p0:0 < K:=by omega
   by_cases h2:K % 2=1
   ·have e2:(((K:Int) % 2)==1)=true:=by simp;omega
    have HP2:Hid ((if K % 2=1 then OX else O)=OX):=if_pos h2
    clear h2
    by_cases h1:1 < K
    ·have HP3:Hid ((if 1 < K then XX else X)=XX):=if_pos h1
     go_wp2
     go_round
     case rel=>exact ⟨K / 2,OX,XX,by omega,by go_num,rfl,rfl,HN1.out,HN2.out,by rw [<- HPW.out,HPP.out,HP2.out,HP3.out]⟩
     case measure=>simp [intOf];omega
    ·have HP3:Hid ((if 1 < K then XX else X)=X):=if_neg h1
     go_wp2
     go_round
     case rel=>exact ⟨K / 2,OX,X,by omega,by go_num,rfl,rfl,HN1.out,HXX.out,by rw [<- HPW.out,HPP.out,HP2.out,HP3.out]⟩
     case measure=>simp [intOf];omega
   ·have e2:(((K:Int) % 2)==1)=false:=by simp;omega
    have HP2:Hid ((if K % 2=1 then OX else O)=O):=if_neg h2
    have h1:1 < K:=by omega
    clear h2
    have HP3:Hid ((if 1 < K then XX else X)=XX):=if_pos h1
    go_wp2
    go_round
    case rel=>exact ⟨K / 2,O,XX,by omega,by go_num,rfl,rfl,HOO.out,HN2.out,by rw [<- HPW.out,HPP.out,HP2.out,HP3.out]⟩
    case measure=>simp [intOf];omega
theorem rpow_down (a:Nat) (t:Bool) (ha:Cl t a) (n:Int) (hn0:n < 0) (hn1:-1023<=n) (w:World) :
  Calls Tryz.prog 281 #[.float .f64 a,.float .f64 (fi n)] w fun e w'=>e= .returned (.tuple #[.float .f64 (powP a n).1,.int .i64 (powP a n).2])/\w=w':=by
 have hgn:Good n:=⟨by omega,by omega⟩
 have HW:=Lib.hid (fun W=>rwhole_fi n hgn W)
 have hcv:=fun W=>conv_fi n hgn W
 have HSZ:=Lib.hid (fun W=>size_any n hgn W)
 obtain ⟨g1,g2,g3,g4,g5⟩:=range_down hgn hn0 hn1
 have HP:=Lib.hid (powP_down (a:=a) hn0 hn1)
 generalize powP a n=R at *
 have HA:=Lib.hid ha
 have HO:=Lib.hid (cl_one t)
 have hnb:n.natAbs<=1023:=by omega
 clear hgn hn0 hn1
 clear ha
 go_enter Tryz.func281,Tryz.ntmps281
 go_wp2_with fail
 refine (HW.out _).mono ?_
 rintro e w1 ⟨rfl,rfl⟩
 go_wp2_with fail
 refine (HSZ.out _).mono ?_
 rintro e w1 ⟨rfl,rfl⟩
 go_wp2
 go_loop [6,7,8] (fun k o x=>∃ (K O X:Nat),K<=1023/\k= .int .i64 K/\o= .float .f64 O/\x= .float .f64 X/\Cl t O/\Cl t X/\powF K O X=powF n.natAbs 4607182418800017408 a) (fun k _ _=>(intOf k).toNat)
 case atStart=>exact ⟨n.natAbs,4607182418800017408,a,hnb,rfl,rfl,rfl,HO.out,HA.out,rfl⟩
 case round =>
  obtain ⟨K,O,X,hK,rfl,rfl,rfl,ho,hx,hpw⟩:=hrel
  have HOO:=Lib.hid ho
  have HXX:=Lib.hid hx
  have HPW:=Lib.hid hpw
  clear ho hx hpw
  by_cases h0:K=0
  ·subst h0
   have HQ:Hid (R=if (doneP O).2=0/\(doneP O).1≠0 then doneP (opB .quo 4607182418800017408 O) else (0,24)):=by
    show _=_
    rw [HP.out,<- HPW.out,powF_zero]
   rcases cl_cases HOO.out with ⟨s,Z,hz,rfl⟩ | ⟨s,rfl⟩
   ·have hd:=doneP_num s hz
    have HD:=Lib.hid (fun W=>finite_num s hz W)
    rw [hd] at HQ
    have h3:=fo_eq s false hz rep_zero
    rw [W_zero,sg_zero] at h3
    by_cases hz0:Z=0
    ·have HQ2:Hid (R=(0,24)):=by
      show _=_
      rw [HQ.out,if_neg (fun h=>h.2 (if_pos hz0))]
     rw [decide_eq_true (by rw [sg_eq_zero];exact hz0)] at h3
     have h3':=beq_iff_eq.1 h3
     clear hd hz hz0
     generalize W s Z=O at *
     generalize tid s Z=O' at *
     go_wp2_with fail
     refine (HD.out _).mono ?_
     rintro e w2 ⟨rfl,rfl⟩
     go_wp2
     go_ret2
     exact ⟨by rw [HQ2.out];rfl,rfl⟩
    ·obtain ⟨hq1,hq2⟩:=quo_one s hz hz0
     have hne:tid s Z≠0:=fun e=>by
      have e2:tid s Z=W s Z:=if_neg hz0
      have e:W s Z=0:=e2▸e
      have h4:=fo_eq s false hz rep_zero
      rw [W_zero,sg_zero,e,decide_eq_false (by rw [sg_eq_zero];exact hz0)] at h4
      have:(FloatKind.f64.format.order 0 0==some .eq)=true:=by decide
      rw [this] at h4
      cases h4
     have HQ2:Hid (R=doneP (opB .quo 4607182418800017408 (W s Z))):=by
      show _=_
      rw [HQ.out,if_pos ⟨rfl,hne⟩]
     rw [decide_eq_false (by rw [sg_eq_zero];exact hz0)] at h3
     have h3':=beq_eq_false_iff_ne.1 h3
     have hop:=fun w=>run_float_arith (P:=Tryz.prog) w .quo 51 .f64 _ _ _ hq1
     have HD2:=Lib.hid (fun W=>rdone_any _ hq2 W)
     clear hd hz hz0 hq1 hq2 hne
     generalize opB .quo 4607182418800017408 (W s Z)=P at *
     generalize W s Z=O at *
     generalize tid s Z=O' at *
     go_wp2_with fail
     refine (HD.out _).mono ?_
     rintro e w2 ⟨rfl,rfl⟩
     go_wp2_with fail
     refine (HD2.out _).mono ?_
     rintro e w2 ⟨rfl,rfl⟩
     go_wp2
     go_ret2
     exact ⟨by rw [HQ2.out];rfl,rfl⟩
   ·have HD:=Lib.hid (fun W=>finite_inf s W)
    rw [doneP_inf] at HQ
    have HQ2:Hid (R=(0,24)):=by
     show _=_
     rw [HQ.out,if_neg (fun h=>absurd h.1 (by decide))]
    generalize infw s=O at *
    go_wp2_with fail
    refine (HD.out _).mono ?_
    rintro e w2 ⟨rfl,rfl⟩
    go_wp2
    go_ret2
    exact ⟨by rw [HQ2.out];rfl,rfl⟩
  ·skip
   have HM1:=HOO.out.mul HXX.out
   have HM2:=HXX.out.mul HXX.out
   have hop1:=fun w=>run_float_arith (P:=Tryz.prog) w .mul 51 .f64 _ _ _ HM1.1
   have hop2:=fun w=>run_float_arith (P:=Tryz.prog) w .mul 51 .f64 _ _ _ HM2.1
   have HN1:=Lib.hid HM1.2
   have HN2:=Lib.hid HM2.2
   have HPP:=Lib.hid (powF_pos O X h0)
   clear HM1 HM2
   generalize opB .mul O X=OX at *
   generalize opB .mul X X=XX at *
   have p0:0 < K:=by omega
   by_cases h2:K % 2=1
   ·have e2:(((K:Int) % 2)==1)=true:=by simp;omega
    have HP2:Hid ((if K % 2=1 then OX else O)=OX):=if_pos h2
    clear h2
    by_cases h1:1 < K
    ·have HP3:Hid ((if 1 < K then XX else X)=XX):=if_pos h1
     go_wp2
     go_round
     case rel=>exact ⟨K / 2,OX,XX,by omega,by go_num,rfl,rfl,HN1.out,HN2.out,by rw [<- HPW.out,HPP.out,HP2.out,HP3.out]⟩
     case measure=>simp [intOf];omega
    ·have HP3:Hid ((if 1 < K then XX else X)=X):=if_neg h1
     go_wp2
     go_round
     case rel=>exact ⟨K / 2,OX,X,by omega,by go_num,rfl,rfl,HN1.out,HXX.out,by rw [<- HPW.out,HPP.out,HP2.out,HP3.out]⟩
     case measure=>simp [intOf];omega
   ·have e2:(((K:Int) % 2)==1)=false:=by simp;omega
    have HP2:Hid ((if K % 2=1 then OX else O)=O):=if_neg h2
    have h1:1 < K:=by omega
    clear h2
    have HP3:Hid ((if 1 < K then XX else X)=XX):=if_pos h1
    go_wp2
    go_round
    case rel=>exact ⟨K / 2,O,XX,by omega,by go_num,rfl,rfl,HOO.out,HN2.out,by rw [<- HPW.out,HPP.out,HP2.out,HP3.out]⟩
    case measure=>simp [intOf];omega
theorem rpow_far (a:Nat) (n:Int) (hg:Good n) (hn:n < -1023\/1023 < n) (w:World) :
  Calls Tryz.prog 281 #[.float .f64 a,.float .f64 (fi n)] w fun e w'=>e= .returned (.tuple #[.float .f64 (powP a n).1,.int .i64 (powP a n).2])/\w=w':=by
 have HW:=Lib.hid (fun W=>rwhole_fi n hg W)
 have hp:powP a n=(0,24):=if_pos hn
 rw [hp]
 clear hp
 have p:=ord_gt n 1023 hg (by decide)
 have q:=ord_lt n (-1023) hg (by decide)
 rw [<- fi_1023] at p
 rw [<- fi_n1023] at q
 by_cases h1:1023 < n
 ·rw [decide_eq_true h1] at p
  have p':=beq_iff_eq.1 p
  clear hn hg q h1
  go_enter Tryz.func281,Tryz.ntmps281
  go_wp2_with fail
  refine (HW.out _).mono ?_
  rintro e w1 ⟨rfl,rfl⟩
  go_wp2
  go_ret2
  exact ⟨rfl,rfl⟩
 ·rw [decide_eq_false h1] at p
  rw [decide_eq_true (by omega)] at q
  have p':=beq_eq_false_iff_ne.1 p
  have q':=beq_iff_eq.1 q
  clear hn hg h1
  go_enter Tryz.func281,Tryz.ntmps281
  go_wp2_with fail
  refine (HW.out _).mono ?_
  rintro e w1 ⟨rfl,rfl⟩
  go_wp2
  go_ret2
  exact ⟨rfl,rfl⟩
theorem rpow_not (a:Nat) (s:Bool){Z:Nat} (hz:Rep Z) (hn:¬ IsWhole Z) (w:World) :
  Calls Tryz.prog 281 #[.float .f64 a,.float .f64 (W s Z)] w fun e w'=>e= .returned (.tuple #[.float .f64 0,.int .i64 24])/\w=w':=by
 have HW:=Lib.hid (fun W=>rwhole_no' s hz hn W)
 generalize W s Z=b at *
 clear hz hn
 go_enter Tryz.func281,Tryz.ntmps281
 go_wp2_with fail
 refine (HW.out _).mono ?_
 rintro e w1 ⟨rfl,rfl⟩
 go_wp2
 go_ret2
 exact ⟨rfl,rfl⟩
theorem rpow_any (a b:Nat) (ha:TF a) (hb:TF b) (w:World) :
  Calls Tryz.prog 281 #[.float .f64 a,.float .f64 b] w fun e w'=>e= .returned (.tuple #[.float .f64 (pwP a b).1,.int .i64 (pwP a b).2])/\w=w':=by
 rcases whole_cases hb with ⟨n,hg,rfl,e⟩ | ⟨e,s,Z,hz,rfl,hn⟩
 ·have e2:pwP a (fi n)=powP a n:=by unfold pwP;rw [e]
  rw [e2]
  obtain ⟨t,hc⟩:=cl_tf ha
  by_cases h1:n < -1023\/1023 < n
  ·exact rpow_far a n hg h1 w
  ·by_cases h0:0<=n
   ·exact rpow_up a t hc n h0 (by omega) w
   ·exact rpow_down a t hc n (by omega) (by omega) w
 ·have e2:pwP a (W s Z)=(0,24):=by unfold pwP;rw [e]
  rw [e2]
  exact rpow_not a s hz hn w
theorem powIs:PowIs pwP:=by
 refine ⟨fun a b ha hb W=>npow_any a b ha hb W,fun a b ha hb W=>rpow_any a b ha hb W,fun a b ha hb=>?_⟩
 unfold pwP
 split
 ·exact .inr rfl
 ·exact powP_tf ha _
end Go.Proofs.YtakgmnafbjdccaaGreatDoor
