/- Plain law of powers by repeated squares: no product of a zero and an infinity ever comes up. The walk of num.Power at a whole number of at most 1023. The walk .. Conditions: as each theorem says. -/
import Derived.Test.YtiahegjdkejjpaaGreatDoorMg03
import Derived.Test.YtiahegjdkejjpaaGreatDoorMg10
import Derived.Test.YtiahegjdkejjpaaGreatDoorMg08
set_option maxRecDepth 100000
set_option maxHeartbeats 1000000
namespace Go.Proofs.YtiahegjdkejjpaaGreatDoor
open Go Go.RowKit Go.Proofs Fl Ieee
def BigR (b:Nat):Prop:=∃ s r,1023*4503599627370496<=r/\r<=9218868437227405312/\b=double.word s r
def LowR (b:Nat):Prop:=∃ s r,r<=1023*4503599627370496/\b=double.word s r
theorem word_lt {s:Bool}{r:Nat} (h:r<=9218868437227405312):double.word s r < 18446744073709551616:=by
 show (if s then double.signWeight+r else r) < _
 rw [signWeight]
 split <;> omega
theorem BigR.lt {b:Nat} (h:BigR b):b < 18446744073709551616:=by
 obtain ⟨s,r,_,h2,rfl⟩:=h
 exact word_lt h2
theorem LowR.lt {b:Nat} (h:LowR b):b < 18446744073709551616:=by
 obtain ⟨s,r,h2,rfl⟩:=h
 exact word_lt (by omega)
theorem BigR.read {b:Nat} (h:BigR b):(∃ s,double.read b= .infinity s)\/∃ s m i,double.read b= .number s m i/\m≠0/\0<=(m.log2:Int)+i:=by
 obtain ⟨s,r,h1,h2,rfl⟩:=h
 by_cases e:r=9218868437227405312
 ·subst e
  exact .inl ⟨s,read_inf s⟩
 ·have hr:r < 9218868437227405312:=by omega
  refine .inr ⟨s,_,_,read_word s hr,?_,?_⟩
  ·unfold mg
   rw [if_neg (by omega)]
   omega
  ·have hm:52<=(mg r).log2:=le_log2_of (by unfold mg;rw [if_neg (by omega)];omega)
   have he:1022<=ex r:=by unfold ex;rw [if_neg (by omega)];omega
   omega
theorem LowR.read {b:Nat} (h:LowR b):∃ s m q,double.read b= .number s m (-(q:Nat))/\m<=2 ^ q:=by
 obtain ⟨s,r,h1,rfl⟩:=h
 have hr:r < 9218868437227405312:=by omega
 have he:ex r<=1022:=by unfold ex;split <;> omega
 have e0:(-1074+(ex r:Int))=-((1074 - ex r:Nat):Int):=by omega
 refine ⟨s,mg r,1074 - ex r,by rw [read_word s hr,e0],?_⟩
 by_cases h52:ex r=1022
 ·rw [h52]
  have:mg r=2 ^ 52:=by
   unfold ex at h52
   unfold mg
   split at h52
   ·omega
   ·rw [if_neg (by omega)];omega
  rw [this]
  exact Nat.le_refl _
 ·have h1:=mg_lt r
  have h2:2 ^ 53<=2 ^ (1074 - ex r):=Nat.pow_le_pow_right (by decide) (by omega)
  omega
theorem log2_mul_ge {m n:Nat} (hm:m≠0) (hn:n≠0):m.log2+n.log2<=(m*n).log2:=by
 apply le_log2_of
 rw [Nat.pow_add]
 exact Nat.mul_le_mul (Nat.log2_self_le hm) (Nat.log2_self_le hn)
theorem rhe_ge (n d:Nat):n / 2^d<=rhe n d:=by unfold rhe;omega
theorem nearest_big (s:Bool){m:Nat}{i:Int} (hm:m≠0) (h:0<=(m.log2:Int)+i):BigR (double.nearest s m i):=by
 rw [nearest_eq s hm]
 have e1:max (i+(m.log2:Int) - 52) (-1074)=i+m.log2 - 52:=by omega
 rw [e1]
 generalize hL:i+(m.log2:Int) - 52=L
 have hl:-52<=L:=by omega
 have h2:2 ^ 52<=rhe (m*2 ^ (i - L).toNat) (L - i).toNat:=by
  refine Nat.le_trans ?_ (rhe_ge _ _)
  rw [Nat.le_div_iff_mul_le (Nat.two_pow_pos _),<- Nat.pow_add]
  have h3:2 ^ (m.log2+(i - L).toNat)<=m*2 ^ (i - L).toNat:=by
   rw [Nat.pow_add];exact Nat.mul_le_mul_right _ (Nat.log2_self_le hm)
  refine Nat.le_trans (Nat.pow_le_pow_right (by decide) ?_) h3
  omega
 have h4:1022<=(L+1074).toNat:=by omega
 have h5:1022*4503599627370496<=(L+1074).toNat*4503599627370496:=Nat.mul_le_mul_right _ h4
 refine ⟨s,_,?_,Nat.min_le_right _ _,rfl⟩
 rw [Nat.le_min]
 exact ⟨by omega,by omega⟩
theorem rhe_le' {n d B:Nat} (h:n<=B*2 ^ d):rhe n d<=B:=by
 have hp:=Nat.two_pow_pos d
 by_cases e:n=B*2 ^ d
 ·rw [e,rhe_exact];exact Nat.le_refl _
 ·have h1:n / 2 ^ d < B:=(Nat.div_lt_iff_lt_mul hp).2 (by omega)
  have h2:rhe n d<=n / 2 ^ d+1:=by
   unfold rhe
   have:∀ b:Bool,b.toNat<=1:=by intro b;cases b <;> decide
   have:=this (decide (2^d < 2*(n % 2^d))||(2^d==2*(n % 2^d)&&(n / 2^d) % 2==1))
   omega
  omega
theorem nearest_zero (s:Bool) (i:Int):double.nearest s 0 i=double.word s 0:=by simp [Format.nearest]
theorem nearest_low (s:Bool){m q:Nat} (h:m<=2 ^ q):LowR (double.nearest s m (-(q:Nat))):=by
 by_cases hm:m=0
 ·subst hm
  exact ⟨s,0,by omega,nearest_zero s _⟩
 by_cases e:m=2 ^ q
 ·have h1:=nearest_shift s 1 q (-(q:Nat))
  rw [Nat.one_mul,show -(q:Int)+(q:Nat)=0 by omega] at h1
  rw [e,h1]
  exact ⟨s,1023*4503599627370496,Nat.le_refl _,by cases s <;> decide⟩
 ·have hlt:m < 2 ^ q:=by omega
  have hq:1<=q:=by
   rcases Nat.eq_zero_or_pos q with h0 | h0
   ·subst h0;simp at hlt;omega
   ·exact h0
  have hl:m.log2<=q - 1:=log2_lt_of (by rw [Nat.sub_add_cancel hq];exact hlt)
  rw [nearest_eq s hm]
  generalize hL:max (-(q:Nat)+(m.log2:Int) - 52) (-1074)=L
  have hm2:m < 2 ^ (m.log2+1):=Nat.lt_log2_self
  have h1:rhe (m*2 ^ (-(q:Nat) - L).toNat) (L - -(q:Nat)).toNat<=2 ^ (m.log2+1+(-(q:Nat) - L).toNat - (L - -(q:Nat)).toNat):=by
   apply rhe_le'
   rw [<- Nat.pow_add]
   have h3:m*2 ^ (-(q:Nat) - L).toNat<=2 ^ (m.log2+1+(-(q:Nat) - L).toNat):=by
    rw [Nat.pow_add];exact Nat.mul_le_mul_right _ (Nat.le_of_lt hm2)
   exact Nat.le_trans h3 (Nat.pow_le_pow_right (by decide) (by omega))
  refine ⟨s,_,?_,rfl⟩
  refine Nat.le_trans (Nat.min_le_left _ _) ?_
  by_cases hc:-1074<=-(q:Nat)+(m.log2:Int) - 52
  ·have e2:m.log2+1+(-(q:Nat) - L).toNat - (L - -(q:Nat)).toNat=53:=by omega
   rw [e2] at h1
   have h4:(L+1074).toNat<=1021:=by omega
   have h5:(L+1074).toNat*4503599627370496<=1021*4503599627370496:=Nat.mul_le_mul_right _ h4
   rw [show (2:Nat) ^ 53=9007199254740992 from rfl] at h1
   exact Nat.le_trans (Nat.add_le_add h5 h1) (by decide)
  ·have e3:L=-1074:=by omega
   subst e3
   have e2:m.log2+1+(-(q:Nat) - (-1074:Int)).toNat - ((-1074:Int) - -(q:Nat)).toNat<=52:=by omega
   have h6:=Nat.le_trans h1 (Nat.pow_le_pow_right (by decide) e2)
   have e4:((-1074:Int)+1074).toNat=0:=by decide
   rw [e4,Nat.zero_mul,Nat.zero_add]
   exact Nat.le_trans h6 (by decide)
theorem big_mul {a b:Nat} (ha:BigR a) (hb:BigR b):∃ c,floatBits .mul .f64 a b=some c/\BigR c:=by
 show ∃ c,((double.read a).product (double.read b)).map double.write=some c/\BigR c
 have hi:∀ s,BigR (double.write (.infinity s)):=fun s=>⟨s,9218868437227405312,by decide,Nat.le_refl _,by cases s <;> decide⟩
 rcases ha.read with ⟨s,h1⟩ | ⟨s,m,i,h1,hm,h2⟩ <;> rcases hb.read with ⟨t,h3⟩ | ⟨t,n,j,h3,hn,h4⟩ <;> rw [h1,h3]
 ·exact ⟨_,rfl,hi _⟩
 ·refine ⟨_,by unfold Datum.product;dsimp only;rw [if_neg hn];rfl,hi _⟩
 ·refine ⟨_,by unfold Datum.product;dsimp only;rw [if_neg hm];rfl,hi _⟩
 ·refine ⟨_,rfl,nearest_big _ (Nat.mul_ne_zero hm hn) ?_⟩
  have:=log2_mul_ge hm hn
  omega
theorem low_mul {a b:Nat} (ha:LowR a) (hb:LowR b):∃ c,floatBits .mul .f64 a b=some c/\LowR c:=by
 show ∃ c,((double.read a).product (double.read b)).map double.write=some c/\LowR c
 obtain ⟨s,m,p,h1,h2⟩:=ha.read
 obtain ⟨t,n,q,h3,h4⟩:=hb.read
 rw [h1,h3]
 refine ⟨_,rfl,?_⟩
 show LowR (double.nearest (s ^^ t) (m*n) (-(p:Nat)+-(q:Nat)))
 have e:-(p:Int)+-(q:Nat)=-((p+q:Nat):Int):=by omega
 rw [e]
 exact nearest_low _ (by rw [Nat.pow_add];exact Nat.mul_le_mul h2 h4)
def Cl (t:Bool) (b:Nat):Prop:=if t=true then BigR b else LowR b
theorem Cl.lt {t:Bool}{b:Nat} (h:Cl t b):b < 18446744073709551616:=by
 cases t
 ·exact LowR.lt h
 ·exact BigR.lt h
theorem Cl.mul {t:Bool}{a b:Nat} (ha:Cl t a) (hb:Cl t b):floatBits .mul .f64 a b=some (opB .mul a b)/\Cl t (opB .mul a b):=by
 cases t
 ·obtain ⟨c,h1,h2⟩:=low_mul ha hb
  have e:opB .mul a b=c:=by unfold opB;rw [h1];rfl
  rw [e]
  exact ⟨h1,h2⟩
 ·obtain ⟨c,h1,h2⟩:=big_mul ha hb
  have e:opB .mul a b=c:=by unfold opB;rw [h1];rfl
  rw [e]
  exact ⟨h1,h2⟩
theorem cl_one (t:Bool):Cl t 4607182418800017408:=by
 cases t
 ·exact ⟨false,1023*4503599627370496,Nat.le_refl _,by decide⟩
 ·exact ⟨false,1023*4503599627370496,Nat.le_refl _,by decide,by decide⟩
theorem cl_tf {b:Nat} (h:TF b):∃ t,Cl t b:=by
 obtain ⟨s,Z,hz,rfl,_⟩:=h
 have hr:=rung_lt hz
 by_cases hc:rung Z<=1023*4503599627370496
 ·exact ⟨false,s,rung Z,hc,rfl⟩
 ·exact ⟨true,s,rung Z,by omega,by omega,rfl⟩
theorem cl_cases {t:Bool}{b:Nat} (h:Cl t b):(∃ s Z,Rep Z/\b=W s Z)\/∃ s,b=infw s:=by
 have hw:∀ s r,r<=9218868437227405312->b=double.word s r->(∃ s Z,Rep Z/\b=W s Z)\/∃ s,b=infw s:=by
  intro s r hr e
  by_cases h2:r=9218868437227405312
  ·subst h2
   exact .inr ⟨s,e⟩
  ·exact .inl ⟨s,mag r,rep_mag (by omega),by rw [W_mag];exact e⟩
 cases t
 ·obtain ⟨s,r,h1,h2⟩:=h
  exact hw s r (by omega) h2
 ·obtain ⟨s,r,_,h1,h2⟩:=h
  exact hw s r h1 h2
def powF (k o x:Nat):Nat:=if k=0 then o else powF (k / 2) (if k % 2=1 then opB .mul o x else o) (if 1 < k then opB .mul x x else x)
termination_by k
decreasing_by omega
theorem powF_zero (o x:Nat):powF 0 o x=o:=by rw [powF];rfl
theorem powF_pos {k:Nat} (o x:Nat) (h:k≠0):powF k o x=powF (k / 2) (if k % 2=1 then opB .mul o x else o) (if 1 < k then opB .mul x x else x):=by
 rw [powF,if_neg h]
theorem powF_cl {t:Bool} (k:Nat):∀ {o x:Nat},Cl t o->Cl t x->Cl t (powF k o x):=by
 induction k using Nat.strongRecOn with
 | _ k ih =>
  intro o x ho hx
  by_cases h:k=0
  ·subst h;rw [powF_zero];exact ho
  ·rw [powF_pos o x h]
   refine ih (k / 2) (by omega) ?_ ?_
   ·split
    ·exact (ho.mul hx).2
    ·exact ho
   ·split
    ·exact (hx.mul hx).2
    ·exact hx
theorem quo_one (s:Bool){Z:Nat} (hz:Rep Z) (h0:Z≠0):floatBits .quo .f64 4607182418800017408 (W s Z)=some (opB .quo 4607182418800017408 (W s Z))/\opB .quo 4607182418800017408 (W s Z) < 18446744073709551616:=by
 refine opB_some ?_
 show ((Datum.quotient (double.fractionBits+2) (double.read 4607182418800017408) (double.read (W s Z))).map double.write).isSome=true
 rw [read_W s hz,read_one]
 unfold Datum.quotient
 dsimp only
 rw [if_neg (fun e=>h0 ((mg_zero hz).1 e))]
 rfl
noncomputable def powP (a:Nat) (n:Int):Nat×Int :=
 if n < -1023\/1023 < n then (0,24) else if 0<=n then doneP (powF n.natAbs 4607182418800017408 a)
 else if (doneP (powF n.natAbs 4607182418800017408 a)).2=0/\(doneP (powF n.natAbs 4607182418800017408 a)).1≠0 then doneP (opB .quo 4607182418800017408 (powF n.natAbs 4607182418800017408 a)) else (0,24)
noncomputable def pwP (a b:Nat):Nat×Int:=match wholeP b with
 | none=>(0,24)
 | some n=>powP a n
theorem powP_tf {a:Nat} (ha:TF a) (n:Int):(∃ c,TF c/\powP a n=(c,0))\/powP a n=(0,24):=by
 unfold powP
 obtain ⟨t,hc⟩:=cl_tf ha
 have ho:=powF_cl n.natAbs (cl_one t) hc
 generalize powF n.natAbs 4607182418800017408 a=o at *
 split
 ·exact .inr rfl
 ·split
  ·exact doneP_cases ho.lt
  ·split
   ·rename_i h
    rcases cl_cases ho with ⟨s,Z,hz,rfl⟩ | ⟨s,rfl⟩
    ·have h0:Z≠0:=by
      rintro rfl
      rw [doneP_num s hz] at h
      exact h.2 rfl
     exact doneP_cases (quo_one s hz h0).2
    ·rw [doneP_inf] at h
     cases h.1
   ·exact .inr rfl
end Go.Proofs.YtiahegjdkejjpaaGreatDoor
namespace Go.Proofs.YtiahegjdkejjpaaGreatDoor
open Go Go.RowKit Go.Proofs Fl
theorem powP_up {a:Nat}{n:Int} (h0:0<=n) (h1:n<=1023):powP a n=doneP (powF n.natAbs 4607182418800017408 a):=by
 unfold powP
 rw [if_neg (by omega),if_pos h0]
theorem powP_down {a:Nat}{n:Int} (h0:n < 0) (h1:-1023<=n):powP a n=if (doneP (powF n.natAbs 4607182418800017408 a)).2=0/\(doneP (powF n.natAbs 4607182418800017408 a)).1≠0 then doneP (opB .quo 4607182418800017408 (powF n.natAbs 4607182418800017408 a)) else (0,24):=by
 unfold powP
 rw [if_neg (by omega),if_neg (by omega)]
theorem npow_up (a:Nat) (t:Bool) (ha:Cl t a) (n:Int) (hn0:0<=n) (hn1:n<=1023) (w:World) :
  Calls Tryz.prog 301 #[.float .f64 a,.float .f64 (fi n)] w fun e w'=>e= .returned (.tuple #[.float .f64 (powP a n).1,.int .i64 (powP a n).2])/\w=w':=by
 have HW:=Lib.hid (fun W=>nwhole_fi n ⟨by omega,by omega⟩ W)
 have HP:=Lib.hid (powP_up (a:=a) hn0 hn1)
 generalize powP a n=R at *
 have HA:=Lib.hid ha
 have HO:=Lib.hid (cl_one t)
 have nn:¬ n < 0:=by omega
 have n3:¬ 1023 < n:=by omega
 have n4:¬ n < -1023:=by omega
 clear ha
 go_enter Tryz.func301,Tryz.ntmps301
 go_wp2_with fail
 refine (HW.out _).mono ?_
 rintro e w1 ⟨rfl,rfl⟩
 go_wp2
 go_loop [8,9,10] (fun k o x=>∃ (K O X:Nat),K<=1023/\k= .int .i64 K/\o= .float .f64 O/\x= .float .f64 X/\Cl t O/\Cl t X/\powF K O X=powF n.natAbs 4607182418800017408 a) (fun k _ _=>(intOf k).toNat)
 case atStart=>exact ⟨n.natAbs,4607182418800017408,a,by omega,by congr 1;omega,rfl,rfl,HO.out,HA.out,rfl⟩
 case round =>
  obtain ⟨K,O,X,hK,rfl,rfl,rfl,ho,hx,hpw⟩:=hrel
  have HOO:=Lib.hid ho
  have HXX:=Lib.hid hx
  have HPW:=Lib.hid hpw
  clear ho hx hpw
  by_cases h0:K=0
  ·subst h0
   have HQ:Hid (R=doneP O):=by
    show _=_
    rw [HP.out,<- HPW.out,powF_zero]
   have HD:=Lib.hid (fun W=>done_any O HOO.out.lt W)
   go_wp2_with fail
   refine (HD.out _).mono ?_
   rintro e w2 ⟨rfl,rfl⟩
   go_wp2
   go_ret2
   exact ⟨by rw [HQ.out];rfl,rfl⟩
  ·have e1:=and1 K (by omega)
   have HM1:=HOO.out.mul HXX.out
   have HM2:=HXX.out.mul HXX.out
   have hop1:=fun w=>run_float_arith (P:=Tryz.prog) w .mul 55 .f64 _ _ _ HM1.1
   have hop2:=fun w=>run_float_arith (P:=Tryz.prog) w .mul 55 .f64 _ _ _ HM2.1
   have HN1:=Lib.hid HM1.2
   have HN2:=Lib.hid HM2.2
   have HPP:=Lib.hid (powF_pos O X h0)
   clear HM1 HM2
   generalize opB .mul O X=OX at *
   generalize opB .mul X X=XX at *
   have p0:0 < K:=by omega
   by_cases h2:K % 2=1
   ·have e2:(((K % 2:Nat):Int)==1)=true:=by simp;omega
    have HP2:Hid ((if K % 2=1 then OX else O)=OX):=if_pos h2
    clear h2
    by_cases h1:1 < K
    ·have HP3:Hid ((if 1 < K then XX else X)=XX):=if_pos h1
     go_wp2
     go_round
     case rel=>exact ⟨K / 2,OX,XX,by omega,by go_num,rfl,rfl,HN1.out,HN2.out,by rw [<- HPW.out,HPP.out,HP2.out,HP3.out]⟩
     case measure=>simp [intOf];omega
    ·have HP3:Hid ((if 1 < K then XX else X)=X):=if_neg h1
     go_wp2
     go_round
     case rel=>exact ⟨K / 2,OX,X,by omega,by go_num,rfl,rfl,HN1.out,HXX.out,by rw [<- HPW.out,HPP.out,HP2.out,HP3.out]⟩
     case measure=>simp [intOf];omega
   ·have e2:(((K % 2:Nat):Int)==1)=false:=by simp;omega
    have HP2:Hid ((if K % 2=1 then OX else O)=O):=if_neg h2
    have h1:1 < K:=by omega
    clear h2
    have HP3:Hid ((if 1 < K then XX else X)=XX):=if_pos h1
    go_wp2
    go_round
    case rel=>exact ⟨K / 2,O,XX,by omega,by go_num,rfl,rfl,HOO.out,HN2.out,by rw [<- HPW.out,HPP.out,HP2.out,HP3.out]⟩
    case measure=>simp [intOf];omega
theorem npow_down (a:Nat) (t:Bool) (ha:Cl t a) (n:Int) (hn0:n < 0) (hn1:-1023<=n) (w:World) :
  Calls Tryz.prog 301 #[.float .f64 a,.float .f64 (fi n)] w fun e w'=>e= .returned (.tuple #[.float .f64 (powP a n).1,.int .i64 (powP a n).2])/\w=w':=by
 have HW:=Lib.hid (fun W=>nwhole_fi n ⟨by omega,by omega⟩ W)
 have HP:=Lib.hid (powP_down (a:=a) hn0 hn1)
 generalize powP a n=R at *
 have HA:=Lib.hid ha
 have HO:=Lib.hid (cl_one t)
 have n3:¬ 1023 < n:=by omega
 have n4:¬ n < -1023:=by omega
 have n5:¬ 0<=n:=by omega
 clear ha
 go_enter Tryz.func301,Tryz.ntmps301
 go_wp2_with fail
 refine (HW.out _).mono ?_
 rintro e w1 ⟨rfl,rfl⟩
 go_wp2
 go_loop [8,9,10] (fun k o x=>∃ (K O X:Nat),K<=1023/\k= .int .i64 K/\o= .float .f64 O/\x= .float .f64 X/\Cl t O/\Cl t X/\powF K O X=powF n.natAbs 4607182418800017408 a) (fun k _ _=>(intOf k).toNat)
 case atStart=>exact ⟨n.natAbs,4607182418800017408,a,by omega,by congr 1;omega,rfl,rfl,HO.out,HA.out,rfl⟩
 case round =>
  obtain ⟨K,O,X,hK,rfl,rfl,rfl,ho,hx,hpw⟩:=hrel
  have HOO:=Lib.hid ho
  have HXX:=Lib.hid hx
  have HPW:=Lib.hid hpw
  clear ho hx hpw
  by_cases h0:K=0
  ·subst h0
   have HQ:Hid (R=if (doneP O).2=0/\(doneP O).1≠0 then doneP (opB .quo 4607182418800017408 O) else (0,24)):=by
    show _=_
    rw [HP.out,<- HPW.out,powF_zero]
   rcases cl_cases HOO.out with ⟨s,Z,hz,rfl⟩ | ⟨s,rfl⟩
   ·have hd:=doneP_num s hz
    have HD:=Lib.hid (fun W=>done_any _ HOO.out.lt W)
    rw [hd] at HD HQ
    have h3:=fo_eq s false hz rep_zero
    rw [W_zero,sg_zero] at h3
    by_cases hz0:Z=0
    ·have HQ2:Hid (R=(0,24)):=by
      show _=_
      rw [HQ.out,if_neg (fun h=>h.2 (if_pos hz0))]
     rw [decide_eq_true (by rw [sg_eq_zero];exact hz0)] at h3
     have h3':=beq_iff_eq.1 h3
     clear hd hz hz0
     generalize W s Z=O at *
     generalize tid s Z=O' at *
     go_wp2_with fail
     refine (HD.out _).mono ?_
     rintro e w2 ⟨rfl,rfl⟩
     go_wp2
     go_ret2
     exact ⟨by rw [HQ2.out];rfl,rfl⟩
    ·obtain ⟨hq1,hq2⟩:=quo_one s hz hz0
     have hne:tid s Z≠0:=fun e=>by
      have e2:tid s Z=W s Z:=if_neg hz0
      have e:W s Z=0:=e2▸e
      have h4:=fo_eq s false hz rep_zero
      rw [W_zero,sg_zero,e,decide_eq_false (by rw [sg_eq_zero];exact hz0)] at h4
      have:(FloatKind.f64.format.order 0 0==some .eq)=true:=by decide
      rw [this] at h4
      cases h4
     have HQ2:Hid (R=doneP (opB .quo 4607182418800017408 (W s Z))):=by
      show _=_
      rw [HQ.out,if_pos ⟨rfl,hne⟩]
     rw [decide_eq_false (by rw [sg_eq_zero];exact hz0)] at h3
     have h3':=beq_eq_false_iff_ne.1 h3
     have hop:=fun w=>run_float_arith (P:=Tryz.prog) w .quo 55 .f64 _ _ _ hq1
     have HD2:=Lib.hid (fun W=>done_any _ hq2 W)
     clear hd hz hz0 hq1 hq2 hne
     generalize opB .quo 4607182418800017408 (W s Z)=P at *
     generalize W s Z=O at *
     generalize tid s Z=O' at *
     go_wp2_with fail
     refine (HD.out _).mono ?_
     rintro e w2 ⟨rfl,rfl⟩
     go_wp2_with fail
     refine (HD2.out _).mono ?_
     rintro e w2 ⟨rfl,rfl⟩
     go_wp2
     go_ret2
     exact ⟨by rw [HQ2.out];rfl,rfl⟩
   ·have HD:=Lib.hid (fun W=>done_any _ HOO.out.lt W)
    rw [doneP_inf] at HD HQ
    have HQ2:Hid (R=(0,24)):=by
     show _=_
     rw [HQ.out,if_neg (fun h=>absurd h.1 (by decide))]
    generalize infw s=O at *
    go_wp2_with fail
    refine (HD.out _).mono ?_
    rintro e w2 ⟨rfl,rfl⟩
    go_wp2
    go_ret2
    exact ⟨by rw [HQ2.out];rfl,rfl⟩
  ·have e1:=and1 K (by omega)
   have HM1:=HOO.out.mul HXX.out
   have HM2:=HXX.out.mul HXX.out
   have hop1:=fun w=>run_float_arith (P:=Tryz.prog) w .mul 55 .f64 _ _ _ HM1.1
   have hop2:=fun w=>run_float_arith (P:=Tryz.prog) w .mul 55 .f64 _ _ _ HM2.1
   have HN1:=Lib.hid HM1.2
   have HN2:=Lib.hid HM2.2
   have HPP:=Lib.hid (powF_pos O X h0)
   clear HM1 HM2
   generalize opB .mul O X=OX at *
   generalize opB .mul X X=XX at *
   have p0:0 < K:=by omega
   by_cases h2:K % 2=1
   ·have e2:(((K % 2:Nat):Int)==1)=true:=by simp;omega
    have HP2:Hid ((if K % 2=1 then OX else O)=OX):=if_pos h2
    clear h2
    by_cases h1:1 < K
    ·have HP3:Hid ((if 1 < K then XX else X)=XX):=if_pos h1
     go_wp2
     go_round
     case rel=>exact ⟨K / 2,OX,XX,by omega,by go_num,rfl,rfl,HN1.out,HN2.out,by rw [<- HPW.out,HPP.out,HP2.out,HP3.out]⟩
     case measure=>simp [intOf];omega
    ·have HP3:Hid ((if 1 < K then XX else X)=X):=if_neg h1
     go_wp2
     go_round
     case rel=>exact ⟨K / 2,OX,X,by omega,by go_num,rfl,rfl,HN1.out,HXX.out,by rw [<- HPW.out,HPP.out,HP2.out,HP3.out]⟩
     case measure=>simp [intOf];omega
   ·have e2:(((K % 2:Nat):Int)==1)=false:=by simp;omega
    have HP2:Hid ((if K % 2=1 then OX else O)=O):=if_neg h2
    have h1:1 < K:=by omega
    clear h2
    have HP3:Hid ((if 1 < K then XX else X)=XX):=if_pos h1
    go_wp2
    go_round
    case rel=>exact ⟨K / 2,O,XX,by omega,by go_num,rfl,rfl,HOO.out,HN2.out,by rw [<- HPW.out,HPP.out,HP2.out,HP3.out]⟩
    case measure=>simp [intOf];omega
theorem npow_far (a:Nat) (n:Int) (hg:Good n) (hn:n < -1023\/1023 < n) (w:World) :
  Calls Tryz.prog 301 #[.float .f64 a,.float .f64 (fi n)] w fun e w'=>e= .returned (.tuple #[.float .f64 (powP a n).1,.int .i64 (powP a n).2])/\w=w':=by
 have HW:=Lib.hid (fun W=>nwhole_fi n hg W)
 have hp:powP a n=(0,24):=if_pos hn
 rw [hp]
 clear hp hg
 rcases hn with hn | hn
 ·have n3:¬ 1023 < n:=by omega
  go_enter Tryz.func301,Tryz.ntmps301
  go_wp2_with fail
  refine (HW.out _).mono ?_
  rintro e w1 ⟨rfl,rfl⟩
  go_wp2
  go_ret2
  exact ⟨rfl,rfl⟩
 ·go_enter Tryz.func301,Tryz.ntmps301
  go_wp2_with fail
  refine (HW.out _).mono ?_
  rintro e w1 ⟨rfl,rfl⟩
  go_wp2
  go_ret2
  exact ⟨rfl,rfl⟩
theorem npow_not (a:Nat) (s:Bool){Z:Nat} (hz:Rep Z) (hn:¬ IsWhole Z) (w:World) :
  Calls Tryz.prog 301 #[.float .f64 a,.float .f64 (W s Z)] w fun e w'=>e= .returned (.tuple #[.float .f64 0,.int .i64 24])/\w=w':=by
 have HW:=Lib.hid (fun W=>nwhole_no s hz hn W)
 generalize W s Z=b at *
 clear hz hn
 go_enter Tryz.func301,Tryz.ntmps301
 go_wp2_with fail
 refine (HW.out _).mono ?_
 rintro e w1 ⟨⟨n,rfl⟩,rfl⟩
 go_wp2
 go_ret2
 exact ⟨rfl,rfl⟩
theorem npow_any (a b:Nat) (ha:TF a) (hb:TF b) (w:World) :
  Calls Tryz.prog 301 #[.float .f64 a,.float .f64 b] w fun e w'=>e= .returned (.tuple #[.float .f64 (pwP a b).1,.int .i64 (pwP a b).2])/\w=w':=by
 rcases whole_cases hb with ⟨n,hg,rfl,e⟩ | ⟨e,s,Z,hz,rfl,hn⟩
 ·have e2:pwP a (fi n)=powP a n:=by unfold pwP;rw [e]
  rw [e2]
  obtain ⟨t,hc⟩:=cl_tf ha
  by_cases h1:n < -1023\/1023 < n
  ·exact npow_far a n hg h1 w
  ·by_cases h0:0<=n
   ·exact npow_up a t hc n h0 (by omega) w
   ·exact npow_down a t hc n (by omega) (by omega) w
 ·have e2:pwP a (W s Z)=(0,24):=by unfold pwP;rw [e]
  rw [e2]
  exact npow_not a s hz hn w
theorem ret_i64 {a b:Int} (h:a=b):Ending.returned (.int .i64 a)= .returned (.int .i64 b):=by rw [h]
theorem fi_1023:(4652209618980700160:Nat)=fi 1023:=by decide+kernel
theorem fi_n1023:(13875581655835475968:Nat)=fi (-1023):=by decide+kernel
theorem ord_fi (n m:Int) (hn:Good n) (hm:Good m):FloatKind.f64.format.order (fi n) (fi m)=some (compare n m):=order_fi n m (natAbs_good hn) (natAbs_good hm)
theorem ord_gt (n m:Int) (hn:Good n) (hm:Good m):(FloatKind.f64.format.order (fi n) (fi m)==some .gt)=decide (m < n):=by
 rw [ord_fi n m hn hm]
 rcases Int.lt_trichotomy n m with h | h | h
 ·rw [cmp_lt h,decide_eq_false (by omega)];rfl
 ·rw [h,cmp_eq,decide_eq_false (by omega)];rfl
 ·rw [cmp_gt h,decide_eq_true h];rfl
theorem ord_lt (n m:Int) (hn:Good n) (hm:Good m):(FloatKind.f64.format.order (fi n) (fi m)==some .lt)=decide (n < m):=by
 rw [ord_fi n m hn hm]
 rcases Int.lt_trichotomy n m with h | h | h
 ·rw [cmp_lt h,decide_eq_true h];rfl
 ·rw [h,cmp_eq,decide_eq_false (by omega)];rfl
 ·rw [cmp_gt h,decide_eq_false (by omega)];rfl
theorem ord_eq (n m:Int) (hn:Good n) (hm:Good m):(FloatKind.f64.format.order (fi n) (fi m)==some .eq)=decide (n=m):=by
 rw [ord_fi n m hn hm]
 rcases Int.lt_trichotomy n m with h | h | h
 ·rw [cmp_lt h,decide_eq_false (by omega)];rfl
 ·rw [h,cmp_eq,decide_eq_true rfl];rfl
 ·rw [cmp_gt h,decide_eq_false (by omega)];rfl
theorem range_up {n:Int} (hg:Good n) (h0:0<=n) (h1:n<=1023) :
  (FloatKind.f64.format.order (fi n) 4652209618980700160==some .gt)=false/\¬ FloatKind.f64.format.order (fi n) 4652209618980700160=some .gt /\
  (FloatKind.f64.format.order (fi n) 13875581655835475968==some .lt)=false/\¬ FloatKind.f64.format.order (fi n) 13875581655835475968=some .lt /\
  (FloatKind.f64.format.order (fi n) 0==some .gt||FloatKind.f64.format.order (fi n) 0==some .eq)=true:=by
 have a:=ord_gt n 1023 hg (by decide)
 have b:=ord_lt n (-1023) hg (by decide)
 have c:=ord_gt n 0 hg (by decide)
 have d:=ord_eq n 0 hg (by decide)
 rw [<- fi_1023,decide_eq_false (by omega)] at a
 rw [<- fi_n1023,decide_eq_false (by omega)] at b
 rw [fi_zero] at c d
 refine ⟨a,beq_eq_false_iff_ne.1 a,b,beq_eq_false_iff_ne.1 b,?_⟩
 rw [c,d]
 simp;omega
theorem range_down {n:Int} (hg:Good n) (h0:n < 0) (h1:-1023<=n) :
  (FloatKind.f64.format.order (fi n) 4652209618980700160==some .gt)=false/\¬ FloatKind.f64.format.order (fi n) 4652209618980700160=some .gt /\
  (FloatKind.f64.format.order (fi n) 13875581655835475968==some .lt)=false/\¬ FloatKind.f64.format.order (fi n) 13875581655835475968=some .lt /\
  (FloatKind.f64.format.order (fi n) 0==some .gt||FloatKind.f64.format.order (fi n) 0==some .eq)=false:=by
 have a:=ord_gt n 1023 hg (by decide)
 have b:=ord_lt n (-1023) hg (by decide)
 have c:=ord_gt n 0 hg (by decide)
 have d:=ord_eq n 0 hg (by decide)
 rw [<- fi_1023,decide_eq_false (by omega)] at a
 rw [<- fi_n1023,decide_eq_false (by omega)] at b
 rw [fi_zero] at c d
 refine ⟨a,beq_eq_false_iff_ne.1 a,b,beq_eq_false_iff_ne.1 b,?_⟩
 rw [c,d]
 simp;omega
theorem size_any (n:Int) (hg:Good n) (w:World) :
  Calls Tryz.prog 317 #[.int .i64 n] w fun e w'=>e= .returned (.int .i64 (n.natAbs:Nat))/\w=w':=by
 obtain ⟨g1,g2⟩:=hg
 by_cases h:n < 0
 ·go_enter Tryz.func317,Tryz.ntmps317
  go_wp2
  go_ret
  exact ⟨ret_i64 (by omega),rfl⟩
 ·go_enter Tryz.func317,Tryz.ntmps317
  go_wp2
  go_ret
  exact ⟨ret_i64 (by omega),rfl⟩
theorem rpow_up (a:Nat) (t:Bool) (ha:Cl t a) (n:Int) (hn0:0<=n) (hn1:n<=1023) (w:World) :
  Calls Tryz.prog 312 #[.float .f64 a,.float .f64 (fi n)] w fun e w'=>e= .returned (.tuple #[.float .f64 (powP a n).1,.int .i64 (powP a n).2])/\w=w':=by
 have hgn:Good n:=⟨by omega,by omega⟩
 have HW:=Lib.hid (fun W=>rwhole_fi n hgn W)
 have hcv:=fun W=>conv_fi n hgn W
 have HSZ:=Lib.hid (fun W=>size_any n hgn W)
 obtain ⟨g1,g2,g3,g4,g5⟩:=range_up hgn hn0 hn1
 have HP:=Lib.hid (powP_up (a:=a) hn0 hn1)
 generalize powP a n=R at *
 have HA:=Lib.hid ha
 have HO:=Lib.hid (cl_one t)
 have hnb:n.natAbs<=1023:=by omega
 clear hgn hn0 hn1
 clear ha
 go_enter Tryz.func312,Tryz.ntmps312
 go_wp2_with fail
 refine (HW.out _).mono ?_
 rintro e w1 ⟨rfl,rfl⟩
 go_wp2_with fail
 refine (HSZ.out _).mono ?_
 rintro e w1 ⟨rfl,rfl⟩
 go_wp2
 go_loop [6,7,8] (fun k o x=>∃ (K O X:Nat),K<=1023/\k= .int .i64 K/\o= .float .f64 O/\x= .float .f64 X/\Cl t O/\Cl t X/\powF K O X=powF n.natAbs 4607182418800017408 a) (fun k _ _=>(intOf k).toNat)
 case atStart=>exact ⟨n.natAbs,4607182418800017408,a,hnb,rfl,rfl,rfl,HO.out,HA.out,rfl⟩
 case round =>
  obtain ⟨K,O,X,hK,rfl,rfl,rfl,ho,hx,hpw⟩:=hrel
  have HOO:=Lib.hid ho
  have HXX:=Lib.hid hx
  have HPW:=Lib.hid hpw
  clear ho hx hpw
  by_cases h0:K=0
  ·subst h0
   have HQ:Hid (R=doneP O):=by
    show _=_
    rw [HP.out,<- HPW.out,powF_zero]
   have HD:=Lib.hid (fun W=>rdone_any O HOO.out.lt W)
   go_wp2_with fail
   refine (HD.out _).mono ?_
   rintro e w2 ⟨rfl,rfl⟩
   go_wp2
   go_ret2
   exact ⟨by rw [HQ.out];rfl,rfl⟩
  ·skip
   have HM1:=HOO.out.mul HXX.out
   have HM2:=HXX.out.mul HXX.out
   have hop1:=fun w=>run_float_arith (P:=Tryz.prog) w .mul 55 .f64 _ _ _ HM1.1
   have hop2:=fun w=>run_float_arith (P:=Tryz.prog) w .mul 55 .f64 _ _ _ HM2.1
   have HN1:=Lib.hid HM1.2
   have HN2:=Lib.hid HM2.2
   have HPP:=Lib.hid (powF_pos O X h0)
   clear HM1 HM2
   generalize opB .mul O X=OX at *
   generalize opB .mul X X=XX at *
   have p0:0 < K:=by omega
   by_cases h2:K % 2=1
   ·have e2:(((K:Int) % 2)==1)=true:=by simp;omega
    have HP2:Hid ((if K % 2=1 then OX else O)=OX):=if_pos h2
    clear h2
    by_cases h1:1 < K
    ·have HP3:Hid ((if 1 < K then XX else X)=XX):=if_pos h1
     go_wp2
     go_round
     case rel=>exact ⟨K / 2,OX,XX,by omega,by go_num,rfl,rfl,HN1.out,HN2.out,by rw [<- HPW.out,HPP.out,HP2.out,HP3.out]⟩
     case measure=>simp [intOf];omega
    ·have HP3:Hid ((if 1 < K then XX else X)=X):=if_neg h1
     go_wp2
     go_round
     case rel=>exact ⟨K / 2,OX,X,by omega,by go_num,rfl,rfl,HN1.out,HXX.out,by rw [<- HPW.out,HPP.out,HP2.out,HP3.out]⟩
     case measure=>simp [intOf];omega
   ·have e2:(((K:Int) % 2)==1)=false:=by simp;omega
    have HP2:Hid ((if K % 2=1 then OX else O)=O):=if_neg h2
    have h1:1 < K:=by omega
    clear h2
    have HP3:Hid ((if 1 < K then XX else X)=XX):=if_pos h1
    go_wp2
    go_round
    case rel=>exact ⟨K / 2,O,XX,by omega,by go_num,rfl,rfl,HOO.out,HN2.out,by rw [<- HPW.out,HPP.out,HP2.out,HP3.out]⟩
    case measure=>simp [intOf];omega
theorem rpow_down (a:Nat) (t:Bool) (ha:Cl t a) (n:Int) (hn0:n < 0) (hn1:-1023<=n) (w:World) :
  Calls Tryz.prog 312 #[.float .f64 a,.float .f64 (fi n)] w fun e w'=>e= .returned (.tuple #[.float .f64 (powP a n).1,.int .i64 (powP a n).2])/\w=w':=by
 have hgn:Good n:=⟨by omega,by omega⟩
 have HW:=Lib.hid (fun W=>rwhole_fi n hgn W)
 have hcv:=fun W=>conv_fi n hgn W
 have HSZ:=Lib.hid (fun W=>size_any n hgn W)
 obtain ⟨g1,g2,g3,g4,g5⟩:=range_down hgn hn0 hn1
 have HP:=Lib.hid (powP_down (a:=a) hn0 hn1)
 generalize powP a n=R at *
 have HA:=Lib.hid ha
 have HO:=Lib.hid (cl_one t)
 have hnb:n.natAbs<=1023:=by omega
 clear hgn hn0 hn1
 clear ha
 go_enter Tryz.func312,Tryz.ntmps312
 go_wp2_with fail
 refine (HW.out _).mono ?_
 rintro e w1 ⟨rfl,rfl⟩
 go_wp2_with fail
 refine (HSZ.out _).mono ?_
 rintro e w1 ⟨rfl,rfl⟩
 go_wp2
 go_loop [6,7,8] (fun k o x=>∃ (K O X:Nat),K<=1023/\k= .int .i64 K/\o= .float .f64 O/\x= .float .f64 X/\Cl t O/\Cl t X/\powF K O X=powF n.natAbs 4607182418800017408 a) (fun k _ _=>(intOf k).toNat)
 case atStart=>exact ⟨n.natAbs,4607182418800017408,a,hnb,rfl,rfl,rfl,HO.out,HA.out,rfl⟩
 case round =>
  obtain ⟨K,O,X,hK,rfl,rfl,rfl,ho,hx,hpw⟩:=hrel
  have HOO:=Lib.hid ho
  have HXX:=Lib.hid hx
  have HPW:=Lib.hid hpw
  clear ho hx hpw
  by_cases h0:K=0
  ·subst h0
   have HQ:Hid (R=if (doneP O).2=0/\(doneP O).1≠0 then doneP (opB .quo 4607182418800017408 O) else (0,24)):=by
    show _=_
    rw [HP.out,<- HPW.out,powF_zero]
   rcases cl_cases HOO.out with ⟨s,Z,hz,rfl⟩ | ⟨s,rfl⟩
   ·have hd:=doneP_num s hz
    have HD:=Lib.hid (fun W=>finite_num s hz W)
    rw [hd] at HQ
    have h3:=fo_eq s false hz rep_zero
    rw [W_zero,sg_zero] at h3
    by_cases hz0:Z=0
    ·have HQ2:Hid (R=(0,24)):=by
      show _=_
      rw [HQ.out,if_neg (fun h=>h.2 (if_pos hz0))]
     rw [decide_eq_true (by rw [sg_eq_zero];exact hz0)] at h3
     have h3':=beq_iff_eq.1 h3
     clear hd hz hz0
     generalize W s Z=O at *
     generalize tid s Z=O' at *
     go_wp2_with fail
     refine (HD.out _).mono ?_
     rintro e w2 ⟨rfl,rfl⟩
     go_wp2
     go_ret2
     exact ⟨by rw [HQ2.out];rfl,rfl⟩
    ·obtain ⟨hq1,hq2⟩:=quo_one s hz hz0
     have hne:tid s Z≠0:=fun e=>by
      have e2:tid s Z=W s Z:=if_neg hz0
      have e:W s Z=0:=e2▸e
      have h4:=fo_eq s false hz rep_zero
      rw [W_zero,sg_zero,e,decide_eq_false (by rw [sg_eq_zero];exact hz0)] at h4
      have:(FloatKind.f64.format.order 0 0==some .eq)=true:=by decide
      rw [this] at h4
      cases h4
     have HQ2:Hid (R=doneP (opB .quo 4607182418800017408 (W s Z))):=by
      show _=_
      rw [HQ.out,if_pos ⟨rfl,hne⟩]
     rw [decide_eq_false (by rw [sg_eq_zero];exact hz0)] at h3
     have h3':=beq_eq_false_iff_ne.1 h3
     have hop:=fun w=>run_float_arith (P:=Tryz.prog) w .quo 55 .f64 _ _ _ hq1
     have HD2:=Lib.hid (fun W=>rdone_any _ hq2 W)
     clear hd hz hz0 hq1 hq2 hne
     generalize opB .quo 4607182418800017408 (W s Z)=P at *
     generalize W s Z=O at *
     generalize tid s Z=O' at *
     go_wp2_with fail
     refine (HD.out _).mono ?_
     rintro e w2 ⟨rfl,rfl⟩
     go_wp2_with fail
     refine (HD2.out _).mono ?_
     rintro e w2 ⟨rfl,rfl⟩
     go_wp2
     go_ret2
     exact ⟨by rw [HQ2.out];rfl,rfl⟩
   ·have HD:=Lib.hid (fun W=>finite_inf s W)
    rw [doneP_inf] at HQ
    have HQ2:Hid (R=(0,24)):=by
     show _=_
     rw [HQ.out,if_neg (fun h=>absurd h.1 (by decide))]
    generalize infw s=O at *
    go_wp2_with fail
    refine (HD.out _).mono ?_
    rintro e w2 ⟨rfl,rfl⟩
    go_wp2
    go_ret2
    exact ⟨by rw [HQ2.out];rfl,rfl⟩
  ·skip
   have HM1:=HOO.out.mul HXX.out
   have HM2:=HXX.out.mul HXX.out
   have hop1:=fun w=>run_float_arith (P:=Tryz.prog) w .mul 55 .f64 _ _ _ HM1.1
   have hop2:=fun w=>run_float_arith (P:=Tryz.prog) w .mul 55 .f64 _ _ _ HM2.1
   have HN1:=Lib.hid HM1.2
   have HN2:=Lib.hid HM2.2
   have HPP:=Lib.hid (powF_pos O X h0)
   clear HM1 HM2
   generalize opB .mul O X=OX at *
   generalize opB .mul X X=XX at *
   have p0:0 < K:=by omega
   by_cases h2:K % 2=1
   ·have e2:(((K:Int) % 2)==1)=true:=by simp;omega
    have HP2:Hid ((if K % 2=1 then OX else O)=OX):=if_pos h2
    clear h2
    by_cases h1:1 < K
    ·have HP3:Hid ((if 1 < K then XX else X)=XX):=if_pos h1
     go_wp2
     go_round
     case rel=>exact ⟨K / 2,OX,XX,by omega,by go_num,rfl,rfl,HN1.out,HN2.out,by rw [<- HPW.out,HPP.out,HP2.out,HP3.out]⟩
     case measure=>simp [intOf];omega
    ·have HP3:Hid ((if 1 < K then XX else X)=X):=if_neg h1
     go_wp2
     go_round
     case rel=>exact ⟨K / 2,OX,X,by omega,by go_num,rfl,rfl,HN1.out,HXX.out,by rw [<- HPW.out,HPP.out,HP2.out,HP3.out]⟩
     case measure=>simp [intOf];omega
   ·have e2:(((K:Int) % 2)==1)=false:=by simp;omega
    have HP2:Hid ((if K % 2=1 then OX else O)=O):=if_neg h2
    have h1:1 < K:=by omega
    clear h2
    have HP3:Hid ((if 1 < K then XX else X)=XX):=if_pos h1
    go_wp2
    go_round
    case rel=>exact ⟨K / 2,O,XX,by omega,by go_num,rfl,rfl,HOO.out,HN2.out,by rw [<- HPW.out,HPP.out,HP2.out,HP3.out]⟩
    case measure=>simp [intOf];omega
theorem rpow_far (a:Nat) (n:Int) (hg:Good n) (hn:n < -1023\/1023 < n) (w:World) :
  Calls Tryz.prog 312 #[.float .f64 a,.float .f64 (fi n)] w fun e w'=>e= .returned (.tuple #[.float .f64 (powP a n).1,.int .i64 (powP a n).2])/\w=w':=by
 have HW:=Lib.hid (fun W=>rwhole_fi n hg W)
 have hp:powP a n=(0,24):=if_pos hn
 rw [hp]
 clear hp
 have p:=ord_gt n 1023 hg (by decide)
 have q:=ord_lt n (-1023) hg (by decide)
 rw [<- fi_1023] at p
 rw [<- fi_n1023] at q
 by_cases h1:1023 < n
 ·rw [decide_eq_true h1] at p
  have p':=beq_iff_eq.1 p
  clear hn hg q h1
  go_enter Tryz.func312,Tryz.ntmps312
  go_wp2_with fail
  refine (HW.out _).mono ?_
  rintro e w1 ⟨rfl,rfl⟩
  go_wp2
  go_ret2
  exact ⟨rfl,rfl⟩
 ·rw [decide_eq_false h1] at p
  rw [decide_eq_true (by omega)] at q
  have p':=beq_eq_false_iff_ne.1 p
  have q':=beq_iff_eq.1 q
  clear hn hg h1
  go_enter Tryz.func312,Tryz.ntmps312
  go_wp2_with fail
  refine (HW.out _).mono ?_
  rintro e w1 ⟨rfl,rfl⟩
  go_wp2
  go_ret2
  exact ⟨rfl,rfl⟩
theorem rpow_not (a:Nat) (s:Bool){Z:Nat} (hz:Rep Z) (hn:¬ IsWhole Z) (w:World) :
  Calls Tryz.prog 312 #[.float .f64 a,.float .f64 (W s Z)] w fun e w'=>e= .returned (.tuple #[.float .f64 0,.int .i64 24])/\w=w':=by
 have HW:=Lib.hid (fun W=>rwhole_no' s hz hn W)
 generalize W s Z=b at *
 clear hz hn
 go_enter Tryz.func312,Tryz.ntmps312
 go_wp2_with fail
 refine (HW.out _).mono ?_
 rintro e w1 ⟨rfl,rfl⟩
 go_wp2
 go_ret2
 exact ⟨rfl,rfl⟩
theorem rpow_any (a b:Nat) (ha:TF a) (hb:TF b) (w:World) :
  Calls Tryz.prog 312 #[.float .f64 a,.float .f64 b] w fun e w'=>e= .returned (.tuple #[.float .f64 (pwP a b).1,.int .i64 (pwP a b).2])/\w=w':=by
 rcases whole_cases hb with ⟨n,hg,rfl,e⟩ | ⟨e,s,Z,hz,rfl,hn⟩
 ·have e2:pwP a (fi n)=powP a n:=by unfold pwP;rw [e]
  rw [e2]
  obtain ⟨t,hc⟩:=cl_tf ha
  by_cases h1:n < -1023\/1023 < n
  ·exact rpow_far a n hg h1 w
  ·by_cases h0:0<=n
   ·exact rpow_up a t hc n h0 (by omega) w
   ·exact rpow_down a t hc n (by omega) (by omega) w
 ·have e2:pwP a (W s Z)=(0,24):=by unfold pwP;rw [e]
  rw [e2]
  exact rpow_not a s hz hn w
theorem powIs:PowIs pwP:=by
 refine ⟨fun a b ha hb W=>npow_any a b ha hb W,fun a b ha hb W=>rpow_any a b ha hb W,fun a b ha hb=>?_⟩
 unfold pwP
 split
 ·exact .inr rfl
 ·exact powP_tf ha _
end Go.Proofs.YtiahegjdkejjpaaGreatDoor
