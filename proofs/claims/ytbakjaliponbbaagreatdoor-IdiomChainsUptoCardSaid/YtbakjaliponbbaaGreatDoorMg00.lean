/- Plain laws of 64-bit floats: a finite float is a sign and a whole number of least units (2^-1074); what order, product with 2, half, conversion to and from .. Conditions: as each theorem says. -/
import Derived.Laws.FloatArith
import Derived.Test.YtbakjaliponbbaaGreatDoorProg
import Derived.WalkKit
import Derived.WalkLawsBesides
import Derived.Lib.Hide
import Derived.Outline
import Derived.Maps.AppendAt
import Derived.OwnWalk
import Derived.Laws.OwnMore
import Derived.Deep.OwnRows
set_option maxHeartbeats 400000
namespace Go.Proofs.YtbakjaliponbbaaGreatDoor.Fl
open Ieee Go
theorem log2_mul_pow {m:Nat} (j:Nat) (h:m≠0):(m*2^j).log2=m.log2+j:=by
 have hm:m*2^j≠0:=Nat.mul_ne_zero h (by have:=Nat.two_pow_pos j;omega)
 rw [Nat.log2_eq_iff hm]
 have h1:=Nat.log2_self_le h
 have h2:=@Nat.lt_log2_self m
 constructor
 ·rw [Nat.pow_add];exact Nat.mul_le_mul_right _ h1
 ·rw [show m.log2+j+1=(m.log2+1)+j by omega,Nat.pow_add]
  exact Nat.mul_lt_mul_of_pos_right h2 (Nat.two_pow_pos j)
def rhe (n d:Nat):Nat:=n / 2^d+(decide (2^d < 2*(n % 2^d))||(2^d==2*(n % 2^d)&&(n / 2^d) % 2==1)).toNat
theorem cut_even (neg:Bool) (n d:Nat):Toward.even.cut neg n d=rhe n d:=by
 unfold Toward.cut rhe
 rcases Nat.le_total d (n.log2+2) with h | h
 ·simp only [Nat.min_eq_left h,Nat.one_shiftLeft]
 ·simp only [Nat.min_eq_right h,Nat.one_shiftLeft]
  have h2:=@Nat.lt_log2_self n
  have h3:2*2^(n.log2+1)=2^(n.log2+2):=by rw [Nat.pow_succ _ (n.log2+1)];omega
  have h4:2^(n.log2+2)<=2^d:=Nat.pow_le_pow_right (by omega) h
  have e1:n / 2^(n.log2+2)=0:=Nat.div_eq_of_lt (by omega)
  have e2:n % 2^(n.log2+2)=n:=Nat.mod_eq_of_lt (by omega)
  have e3:n / 2^d=0:=Nat.div_eq_of_lt (by omega)
  have e4:n % 2^d=n:=Nat.mod_eq_of_lt (by omega)
  rw [e1,e2,e3,e4]
  have a1:decide (2^(n.log2+2) < 2*n)=false:=by simp;omega
  have a2:decide (2^d < 2*n)=false:=by simp;omega
  have a3:(2^(n.log2+2)==2*n)=false:=by simp;omega
  have a4:(2^d==2*n)=false:=by simp;omega
  simp [a1,a2,a3,a4]
theorem cut_zero (neg:Bool) (n d:Nat):Toward.zero.cut neg n d=n / 2^d:=by
 unfold Toward.cut
 rcases Nat.le_total d (n.log2+2) with h | h
 ·simp only [Nat.min_eq_left h,Nat.one_shiftLeft];rfl
 ·simp only [Nat.min_eq_right h,Nat.one_shiftLeft]
  have h2:=@Nat.lt_log2_self n
  have h3:2*2^(n.log2+1)=2^(n.log2+2):=by rw [Nat.pow_succ _ (n.log2+1)];omega
  have h4:2^(n.log2+2)<=2^d:=Nat.pow_le_pow_right (by omega) h
  have e1:n / 2^(n.log2+2)=0:=Nat.div_eq_of_lt (by omega)
  have e3:n / 2^d=0:=Nat.div_eq_of_lt (by omega)
  rw [e1,e3];rfl
theorem rhe_mul (n d j:Nat):rhe (n*2^j) (d+j)=rhe n d:=by
 unfold rhe
 have hj:=Nat.two_pow_pos j
 have e1:n*2^j / 2^(d+j)=n / 2^d:=by rw [Nat.pow_add,Nat.mul_div_mul_right _ _ hj]
 have e2:n*2^j % 2^(d+j)=n % 2^d*2^j:=by rw [Nat.pow_add,Nat.mul_mod_mul_right]
 rw [e1,e2]
 have e3:decide (2^(d+j) < 2*(n % 2^d*2^j))=decide (2^d < 2*(n % 2^d)):=by
  rw [decide_eq_decide,Nat.pow_add,<- Nat.mul_assoc];exact Nat.mul_lt_mul_right hj
 have e4:(2^(d+j)==2*(n % 2^d*2^j))=(2^d==2*(n % 2^d)):=by
  rw [Bool.eq_iff_iff,beq_iff_eq,beq_iff_eq,Nat.pow_add,<- Nat.mul_assoc]
  exact ⟨fun h=>Nat.eq_of_mul_eq_mul_right hj h,fun h=>congrArg (·*2^j) h⟩
 rw [e3,e4]
theorem rhe_shift (n x y x' y':Nat) (h:x+y'=x'+y):rhe (n*2^x) y=rhe (n*2^x') y':=by
 rw [<- rhe_mul (n*2^x) y y',<- rhe_mul (n*2^x') y' y,Nat.mul_assoc,Nat.mul_assoc,<- Nat.pow_add,<- Nat.pow_add,h,Nat.add_comm y y']
theorem rhe_exact (n d:Nat):rhe (n*2^d) d=n:=by
 have:=rhe_mul n 0 d
 rw [Nat.zero_add] at this
 rw [this];simp [rhe,Nat.mod_one]
theorem rhe_zero (n:Nat):rhe n 0=n:=by simp [rhe,Nat.mod_one]
theorem leastPlace:double.leastPlace=-1074:=by decide
theorem fractionBits:double.fractionBits=52:=rfl
theorem binade:double.binade=4503599627370496:=by decide
theorem infRung:double.infRung=9218868437227405312:=by decide
theorem signWeight:double.signWeight=9223372036854775808:=by decide
theorem nearest_eq (neg:Bool){m:Nat} (h:m≠0) (p:Int) :
  double.nearest neg m p=double.word neg (min ((max (p+m.log2 - 52) (-1074)+1074).toNat*4503599627370496
   + rhe (m*2^(p - max (p+m.log2 - 52) (-1074)).toNat) (max (p+m.log2 - 52) (-1074) - p).toNat) 9218868437227405312):=by
 unfold Format.nearest
 simp only [h,if_false,fractionBits,leastPlace,binade,infRung,cut_even,Nat.shiftLeft_eq,Int.sub_neg]
 rfl
theorem nearest_shift (neg:Bool) (m j:Nat) (p:Int):double.nearest neg (m*2^j) p=double.nearest neg m (p+j):=by
 by_cases h:m=0
 ·subst h;simp [Format.nearest]
 have hm:m*2^j≠0:=Nat.mul_ne_zero h (by have:=Nat.two_pow_pos j;omega)
 rw [nearest_eq neg hm,nearest_eq neg h,log2_mul_pow j h]
 have e:max (p+((m.log2+j:Nat):Int) - 52) (-1074)=max (p+j+m.log2 - 52) (-1074):=by congr 1;omega
 rw [e]
 generalize max (p+j+m.log2 - 52) (-1074)=L
 congr 2
 rw [Nat.mul_assoc,<- Nat.pow_add]
 congr 1
 apply rhe_shift
 omega
def rung (Z:Nat):Nat:=if Z < 2^53 then Z else (Z.log2 - 52)*2^52+Z / 2^(Z.log2 - 52)
def Rep (Z:Nat):Prop:=Z.log2<=2097/\∃ m k,m < 2^53/\Z=m*2^k
theorem log2_lt_of {Z k:Nat} (h:Z < 2^(k+1)):Z.log2<=k:=by
 by_cases hz:Z=0
 ·subst hz;simp
 have:=Nat.log2_self_le hz
 have h3:2^Z.log2 < 2^(k+1):=by omega
 have:=(Nat.pow_lt_pow_iff_right (a:=2) (by omega)).1 h3
 omega
theorem le_log2_of {Z k:Nat} (h:2^k<=Z):k<=Z.log2:=by
 have h2:=@Nat.lt_log2_self Z
 have h3:2^k < 2^(Z.log2+1):=by omega
 have:=(Nat.pow_lt_pow_iff_right (a:=2) (by omega)).1 h3
 omega
theorem Rep.dvd {Z:Nat} (h:Rep Z):∃ q,q < 2^53/\Z=q*2^(Z.log2 - 52):=by
 obtain ⟨_,m,k,hm,e⟩:=h
 by_cases hz:Z=0
 ·exact ⟨0,by omega,by omega⟩
 have hm0:m≠0:=by rintro rfl;simp at e;exact hz e
 have hl:Z.log2=m.log2+k:=by rw [e];exact log2_mul_pow k hm0
 have hml:m.log2<=52:=log2_lt_of hm
 have hk:Z.log2 - 52<=k:=by omega
 refine ⟨m*2^(k - (Z.log2 - 52)),?_,?_⟩
 ·have h1:m*2^(k - (Z.log2 - 52))*2^(Z.log2 - 52)=Z:=by
   rw [Nat.mul_assoc,<- Nat.pow_add,Nat.sub_add_cancel hk,<- e]
  by_cases h52:Z.log2<=52
  ·have:Z.log2 - 52=0:=by omega
   rw [this] at h1;simp only [Nat.pow_zero,Nat.mul_one] at h1
   rw [this]
   have h2:=@Nat.lt_log2_self Z
   have:2^(Z.log2+1)<=2^53:=Nat.pow_le_pow_right (by omega) (by omega)
   rw [h1];omega
  ·have h2:=@Nat.lt_log2_self Z
   have h3:2^(Z.log2+1)=2^53*2^(Z.log2 - 52):=by rw [<- Nat.pow_add];congr 1;omega
   generalize Z.log2 - 52=l at *
   rw [h3] at h2
   generalize m*2^(k - l)=q at *
   rw [<- h1] at h2
   exact Nat.lt_of_mul_lt_mul_right h2
 ·rw [Nat.mul_assoc,<- Nat.pow_add,Nat.sub_add_cancel hk,<- e]
theorem rung_lt {Z:Nat} (h:Rep Z):rung Z < 9218868437227405312:=by
 unfold rung
 split
 ·omega
 ·have hl:=h.1
  obtain ⟨q,hq,e⟩:=h.dvd
  have:Z / 2^(Z.log2 - 52)=q:=by
   conv=>lhs;rw [e]
   rw [show (q*2 ^ (Z.log2 - 52)).log2=Z.log2 by rw [<- e]]
   exact Nat.mul_div_cancel _ (Nat.two_pow_pos _)
  rw [this];omega
theorem nearest_rep (neg:Bool){Z:Nat} (h:Rep Z):double.nearest neg Z (-1074)=double.word neg (rung Z):=by
 by_cases hz:Z=0
 ·subst hz;simp [Format.nearest,rung]
 rw [nearest_eq neg hz]
 have hl:=rung_lt h
 have hr:(max (-1074+(Z.log2:Int) - 52) (-1074)+1074).toNat*4503599627370496
   + rhe (Z*2^(-1074 - max (-1074+(Z.log2:Int) - 52) (-1074)).toNat) (max (-1074+(Z.log2:Int) - 52) (-1074) - -1074).toNat=rung Z:=by
  obtain ⟨q,hq,e⟩:=h.dvd
  by_cases h53:Z < 2^53
  ·have hl2:Z.log2<=52:=log2_lt_of h53
   have e1:max (-1074+(Z.log2:Int) - 52) (-1074)=-1074:=by omega
   rw [e1]
   simp [rung,h53,rhe_zero]
  ·have hl2:53<=Z.log2:=le_log2_of (by omega)
   have e1:max (-1074+(Z.log2:Int) - 52) (-1074)=-1074+((Z.log2 - 52:Nat):Int):=by omega
   rw [e1]
   have e2:(-1074+((Z.log2 - 52:Nat):Int)+1074).toNat=Z.log2 - 52:=by omega
   have e3:(-1074 - (-1074+((Z.log2 - 52:Nat):Int))).toNat=0:=by omega
   have e4:(-1074+((Z.log2 - 52:Nat):Int) - -1074).toNat=Z.log2 - 52:=by omega
   rw [e2,e3,e4]
   simp only [rung,h53,if_false,Nat.pow_zero,Nat.mul_one]
   have e5:rhe Z (Z.log2 - 52)=q:=by
    generalize hk:Z.log2 - 52=k at *
    rw [e];exact rhe_exact q k
   have e6:Z / 2^(Z.log2 - 52)=q:=by
    generalize hk:Z.log2 - 52=k at *
    rw [e];exact Nat.mul_div_cancel _ (Nat.two_pow_pos _)
   rw [e5,e6]
 rw [hr,Nat.min_eq_left (by omega)]
def mg (r:Nat):Nat:=if r < 2^52 then r else 2^52+r % 2^52
def ex (r:Nat):Nat:=if r < 2^52 then 0 else r / 2^52 - 1
def mag (r:Nat):Nat:=mg r*2^(ex r)
theorem mg_lt (r:Nat):mg r < 2^53:=by
 unfold mg;split
 ·omega
 ·have:=Nat.mod_lt r (show 2^52 > 0 by omega);omega
theorem ex_le {r:Nat} (h:r < 9218868437227405312):ex r<=2045:=by
 unfold ex;split
 ·omega
 ·omega
theorem read_word (neg:Bool){r:Nat} (h:r < 9218868437227405312) :
  double.read (double.word neg r)= .number neg (mg r) (-1074+ex r):=by
 have e1:double.word neg r / 9223372036854775808 % 2=neg.toNat:=by
  unfold Format.word;rw [signWeight];cases neg <;> simp <;> omega
 have e2:double.word neg r % 9223372036854775808=r:=by
  unfold Format.word;rw [signWeight];cases neg <;> simp <;> omega
 unfold Format.read
 simp only [signWeight,binade,infRung,leastPlace,e1,e2,h,if_true]
 have e3:(neg.toNat==1)=neg:=by cases neg <;> rfl
 rw [e3]
 unfold mg ex
 by_cases hr:r < 4503599627370496
 ·simp [hr]
 ·simp [hr]
theorem rep_mag {r:Nat} (h:r < 9218868437227405312):Rep (mag r):=by
 refine ⟨?_,mg r,ex r,mg_lt r,rfl⟩
 have h1:=mg_lt r
 have h2:=ex_le h
 by_cases h0:mg r=0
 ·simp [mag,h0]
 have:(mag r).log2=(mg r).log2+ex r:=log2_mul_pow _ h0
 have h3:(mg r).log2<=52:=log2_lt_of h1
 omega
theorem rung_mag (r:Nat):rung (mag r)=r:=by
 unfold mag
 by_cases hr:r < 2^52
 ·have:mg r*2^(ex r)=r:=by simp [mg,ex,hr]
  rw [this];unfold rung;rw [if_pos (by omega)]
 ·have hm:mg r=2^52+r % 2^52:=by simp [mg,hr]
  have he:ex r=r / 2^52 - 1:=by simp [ex,hr]
  have hmod:=Nat.mod_lt r (show 2^52 > 0 by omega)
  have hml:(mg r).log2=52:=by
   rw [Nat.log2_eq_iff (by omega)];omega
  have hl:(mg r*2^(ex r)).log2=52+ex r:=by rw [log2_mul_pow _ (by omega),hml]
  unfold rung
  rw [hl,Nat.add_sub_cancel_left,Nat.mul_div_cancel _ (Nat.two_pow_pos _)]
  split
  ·rename_i h53
   have:ex r=0:=by
    have:=log2_lt_of (k:=52) h53
    omega
   rw [this];omega
  ·omega
theorem mag_rung {Z:Nat} (h:Rep Z):mag (rung Z)=Z:=by
 obtain ⟨q,hq,e⟩:=h.dvd
 unfold rung
 by_cases h53:Z < 2^53
 ·rw [if_pos h53]
  unfold mag mg ex
  by_cases h52:Z < 2^52
  ·simp [h52]
  ·simp only [h52,if_false]
   have:Z / 2^52 - 1=0:=by omega
   rw [this];omega
 ·rw [if_neg h53]
  have hl2:53<=Z.log2:=le_log2_of (by omega)
  have hz:Z≠0:=by omega
  have hll:=Nat.log2_self_le hz
  generalize hk:Z.log2 - 52=k at *
  have hzl:Z.log2=k+52:=by omega
  have e6:Z / 2^k=q:=by rw [e];exact Nat.mul_div_cancel _ (Nat.two_pow_pos _)
  have hq2:2^52<=q:=by
   rw [hzl,e,Nat.pow_add,Nat.mul_comm] at hll
   exact Nat.le_of_mul_le_mul_right hll (Nat.two_pow_pos k)
  rw [e6]
  have h1:¬ (k*2^52+q < 2^52):=by omega
  unfold mag mg ex
  simp only [h1,if_false]
  have h2:(k*2^52+q) % 2^52=q - 2^52:=by omega
  have h3:(k*2^52+q) / 2^52 - 1=k:=by omega
  rw [h2,h3,show 2^52+(q - 2^52)=q by omega]
  exact e.symm
def K:Nat:=1074
def W (s:Bool) (Z:Nat):Nat:=double.word s (rung Z)
def infw (s:Bool):Nat:=double.word s 9218868437227405312
def sg (s:Bool) (Z:Nat):Int:=if s then -(Z:Int) else Z
theorem W_mag (s:Bool) (r:Nat):W s (mag r)=double.word s r:=by unfold W;rw [rung_mag]
theorem read_W (s:Bool){Z:Nat} (h:Rep Z):double.read (W s Z)= .number s (mg (rung Z)) (-1074+ex (rung Z)):=read_word s (rung_lt h)
theorem mg_ex {Z:Nat} (h:Rep Z):mg (rung Z)*2^(ex (rung Z))=Z:=mag_rung h
theorem nearest_W (s:Bool){Z:Nat} (h:Rep Z):double.nearest s Z (-1074)=W s Z:=nearest_rep s h
theorem Rep.of_log {m k:Nat} (h:m < 2^53) (hl:(m*2^k).log2<=2097):Rep (m*2^k):=⟨hl,m,k,h,rfl⟩
theorem rep_zero:Rep 0:=⟨by simp,0,0,by omega,rfl⟩
def two:Nat:=4611686018427387904
def hlf (Z:Nat):Nat:=rhe Z 1
theorem hlf_even (Z:Nat):hlf (Z*2)=Z:=by
 have:=rhe_exact Z 1
 simpa [hlf] using this
theorem hlf_le (Z:Nat):hlf Z<=Z:=by
 unfold hlf rhe
 have h2:Z % 2^1 < 2:=Nat.mod_lt _ (by decide)
 rcases Nat.eq_zero_or_pos (Z % 2) with h | h
 ·have a1:decide (2^1 < 2*(Z % 2^1))=false:=by simp;omega
  have a2:(2^1==2*(Z % 2^1))=false:=by simp;omega
  simp only [a1,a2,Bool.false_or,Bool.false_and,Bool.toNat_false];omega
 ·have:=Bool.toNat_le (decide (2^1 < 2*(Z % 2^1))||(2^1==2*(Z % 2^1)&&(Z / 2^1) % 2==1))
  omega
theorem Rep.hlf {Z:Nat} (h:Rep Z):Rep (hlf Z):=by
 obtain ⟨hl,m,k,hm,e⟩:=h
 cases k with
 | zero =>
  have hz:Z < 2^53:=by rw [e];simpa using hm
  have:=hlf_le Z
  refine ⟨?_,Go.Proofs.YtbakjaliponbbaaGreatDoor.Fl.hlf Z,0,by omega,by simp⟩
  have:=log2_lt_of (Z:=Go.Proofs.YtbakjaliponbbaaGreatDoor.Fl.hlf Z) (k:=52) (by omega)
  omega
 | succ k =>
  have e2:Z=m*2^k*2:=by rw [e,Nat.pow_succ,Nat.mul_assoc]
  rw [e2,hlf_even]
  refine ⟨?_,m,k,hm,rfl⟩
  by_cases h0:m=0
  ·simp [h0]
  have:(m*2^(k+1)).log2=m.log2+(k+1):=log2_mul_pow _ h0
  have:(m*2^k).log2=m.log2+k:=log2_mul_pow _ h0
  rw [e] at hl
  omega
theorem sg_shift (s:Bool) (m k:Nat):Ieee.signed s m k=sg s (m*2^k):=by
 unfold signed sg;simp only [Nat.shiftLeft_eq]
theorem sg_mul (s:Bool) (Z n:Nat):sg s (Z*n)=sg s Z*n:=by
 unfold sg;split <;> simp [Int.neg_mul]
theorem cmp_lt {a b:Int} (h:a < b):compare a b= .lt:=by simp [compare,compareOfLessAndEq,h]
theorem cmp_eq (a:Int):compare a a= .eq:=by simp [compare,compareOfLessAndEq]
theorem cmp_gt {a b:Int} (h:b < a):compare a b= .gt:=by
 have h1:¬ a < b:=by omega
 have h2:¬ a=b:=by omega
 simp [compare,compareOfLessAndEq,h1,h2]
theorem compare_mul (a b:Int) (n:Nat) (h:0 < n):compare (a*n) (b*n)=compare a b:=by
 have hn:(0:Int) < n:=by omega
 rcases Int.lt_trichotomy a b with h1 | h1 | h1
 ·rw [cmp_lt h1,cmp_lt (Int.mul_lt_mul_of_pos_right h1 hn)]
 ·subst h1;rw [cmp_eq,cmp_eq]
 ·rw [cmp_gt h1,cmp_gt (Int.mul_lt_mul_of_pos_right h1 hn)]
theorem order_W (s t:Bool){Z Y:Nat} (hz:Rep Z) (hy:Rep Y):double.order (W s Z) (W t Y)=some (compare (sg s Z) (sg t Y)):=by
 simp only [Format.order,read_W s hz,read_W t hy,Datum.order,sg_shift]
 congr 1
 have h1:=mg_ex hz
 have h2:=mg_ex hy
 generalize ex (rung Z)=i at *
 generalize ex (rung Y)=j at *
 generalize mg (rung Z)=m at *
 generalize mg (rung Y)=n at *
 subst h1;subst h2
 rcases Nat.le_total i j with h | h
 ·rw [<- compare_mul _ _ (2^i) (Nat.two_pow_pos _),<- sg_mul,<- sg_mul,Nat.mul_assoc,Nat.mul_assoc,<- Nat.pow_add,<- Nat.pow_add]
  congr 4 <;> omega
 ·rw [<- compare_mul _ _ (2^j) (Nat.two_pow_pos _),<- sg_mul,<- sg_mul,Nat.mul_assoc,Nat.mul_assoc,<- Nat.pow_add,<- Nat.pow_add]
  congr 4 <;> omega
theorem rep_int {n:Nat} (j:Nat) (h:n<=2^53) (hj:j<=2000):Rep (n*2^j):=by
 by_cases h0:n=0
 ·subst h0;simpa using rep_zero
 by_cases h53:n=2^53
 ·subst h53
  refine ⟨?_,1,53+j,by decide,by rw [Nat.one_mul,Nat.pow_add]⟩
  rw [log2_mul_pow j h0]
  have:(2^53:Nat).log2=53:=by decide
  omega
 ·refine Rep.of_log (by omega) ?_
  rw [log2_mul_pow j h0]
  have:n.log2<=52:=log2_lt_of (by omega)
  omega
theorem ofInt (n:Int) (h:n.natAbs<=2^53):floatOfInt .f64 n=W (decide (n < 0)) (n.natAbs*2^K):=by
 rw [<- nearest_W _ (rep_int K h (by unfold K;omega)),nearest_shift]
 rfl
theorem toInt_W (s:Bool){Z:Nat} (hz:Rep Z):(double.read (W s Z)).toInt .zero=some (sg s (Z / 2^K)):=by
 rw [read_W s hz]
 have h1:=mg_ex hz
 generalize ex (rung Z)=i at *
 generalize mg (rung Z)=m at *
 subst h1
 simp only [Datum.toInt,Datum.integral,cut_zero,Nat.shiftLeft_eq,sg_shift,Nat.pow_zero,Nat.mul_one]
 congr 2
 rcases Nat.le_total K i with h | h
 ·have e1:(-1074+(i:Int)).toNat=i - K:=by unfold K at *;omega
  have e2:(-(-1074+(i:Int))).toNat=0:=by unfold K at *;omega
  rw [e1,e2]
  have e3:m*2^i=m*2^(i - K)*2^K:=by rw [Nat.mul_assoc,<- Nat.pow_add,Nat.sub_add_cancel h]
  rw [e3,Nat.mul_div_cancel _ (Nat.two_pow_pos _)];simp
 ·have e1:(-1074+(i:Int)).toNat=0:=by unfold K at *;omega
  have e2:(-(-1074+(i:Int))).toNat=K - i:=by unfold K at *;omega
  rw [e1,e2]
  have e3:(2:Nat)^K=2^(K - i)*2^i:=by rw [<- Nat.pow_add,Nat.sub_add_cancel h]
  rw [e3,Nat.mul_div_mul_right _ _ (Nat.two_pow_pos _)];simp
theorem toInt64_W (s:Bool){Z:Nat} (hz:Rep Z) (h:Z / 2^K < 9223372036854775808):floatToIntVal .f64 (W s Z) .i64=some (sg s (Z / 2^K)):=by
 unfold floatToIntVal
 have:(FloatKind.f64.decode (W s Z)).toInt .zero=some (sg s (Z / 2^K)):=toInt_W s hz
 rw [this]
 simp only
 rw [if_pos]
 have e1:IntKind.i64.min=-9223372036854775808:=by decide
 have e2:IntKind.i64.max=9223372036854775807:=by decide
 rw [e1,e2]
 generalize Z / 2^K=q at *
 unfold sg;split <;> omega
theorem word_of (b:Nat) (h:b < 18446744073709551616):∃ s r,r < 9223372036854775808/\b=double.word s r:=by
 by_cases hb:b < 9223372036854775808
 ·exact ⟨false,b,hb,rfl⟩
 ·refine ⟨true,b - 9223372036854775808,by omega,?_⟩
  unfold Format.word;rw [signWeight];simp;omega
theorem read_inf (s:Bool):double.read (infw s)= .infinity s:=by cases s <;> decide
theorem read_nan (s:Bool){r:Nat} (h:9218868437227405312 < r) (h2:r < 9223372036854775808):(double.read (double.word s r)).isNaN=true:=by
 have e2:double.word s r % 9223372036854775808=r:=by
  unfold Format.word;rw [signWeight];cases s <;> simp <;> omega
 unfold Format.read
 simp only [signWeight,binade,infRung,e2]
 rw [if_neg (by omega),if_neg (by omega),if_neg (by omega)]
 rfl
theorem classify (b:Nat) (h:b < 18446744073709551616) :
  (∃ s Z,Rep Z/\b=W s Z)\/(∃ s,b=infw s)\/(double.read b).isNaN=true:=by
 obtain ⟨s,r,hr,rfl⟩:=word_of b h
 rcases Nat.lt_trichotomy r 9218868437227405312 with h1 | h1 | h1
 ·exact .inl ⟨s,mag r,rep_mag h1,(W_mag s r).symm⟩
 ·subst h1;exact .inr (.inl ⟨s,rfl⟩)
 ·exact .inr (.inr (read_nan s h1 hr))
theorem order_nan {a b:Nat} (h:(double.read a).isNaN=true):double.order a b=none:=by
 unfold Format.order
 cases h1:double.read a with
 | nan s f=>rfl
 | number s m e=>rw [h1] at h;cases h
 | infinity s=>rw [h1] at h;cases h
theorem order_inf (s t:Bool){Z:Nat} (hz:Rep Z):double.order (infw s) (W t Z)=some (if s then .lt else .gt):=by
 simp only [Format.order,read_inf,read_W t hz,Datum.order]
theorem W_lt (s:Bool){Z:Nat} (hz:Rep Z):W s Z < 18446744073709551616:=by
 have:=rung_lt hz
 unfold W Format.word;rw [signWeight];cases s <;> simp <;> omega
def K2:Nat:=2045
def Top:Nat:=(2^53 - 1)*2^K2
theorem rep_top:Rep Top:=by
 refine Rep.of_log (by decide) ?_
 rw [log2_mul_pow _ (by decide)]
 have:(2^53 - 1:Nat).log2=52:=by decide
 unfold K2;omega
theorem rep_le {Z:Nat} (h:Rep Z):Z<=Top:=by
 obtain ⟨q,hq,e⟩:=h.dvd
 have h1:Z.log2 - 52<=K2:=by have:=h.1;unfold K2;omega
 rw [e]
 exact Nat.mul_le_mul (by omega) (Nat.pow_le_pow_right (by omega) h1)
theorem W_top:W false Top=9218868437227405311:=by decide+kernel
theorem W_ntop:W true Top=18442240474082181119:=by decide+kernel
theorem W_zero:W false 0=0:=by decide
end Go.Proofs.YtbakjaliponbbaaGreatDoor.Fl
namespace Go.Proofs.YtbakjaliponbbaaGreatDoor
open Go Go.RowKit Go.Proofs Fl
theorem fo_gt (s t:Bool){Z Y:Nat} (hz:Rep Z) (hy:Rep Y):(FloatKind.f64.format.order (W s Z) (W t Y)==some .gt)=decide (sg t Y < sg s Z):=by
 have h:FloatKind.f64.format.order (W s Z) (W t Y)=some (compare (sg s Z) (sg t Y)):=order_W s t hz hy
 rw [h]
 rcases Int.lt_trichotomy (sg s Z) (sg t Y) with h1 | h1 | h1
 ·rw [cmp_lt h1,decide_eq_false (by omega)];rfl
 ·rw [h1,cmp_eq,decide_eq_false (by omega)];rfl
 ·rw [cmp_gt h1,decide_eq_true h1];rfl
theorem fo_lt (s t:Bool){Z Y:Nat} (hz:Rep Z) (hy:Rep Y):(FloatKind.f64.format.order (W s Z) (W t Y)==some .lt)=decide (sg s Z < sg t Y):=by
 have h:FloatKind.f64.format.order (W s Z) (W t Y)=some (compare (sg s Z) (sg t Y)):=order_W s t hz hy
 rw [h]
 rcases Int.lt_trichotomy (sg s Z) (sg t Y) with h1 | h1 | h1
 ·rw [cmp_lt h1,decide_eq_true h1];rfl
 ·rw [h1,cmp_eq,decide_eq_false (by omega)];rfl
 ·rw [cmp_gt h1,decide_eq_false (by omega)];rfl
theorem fo_eq (s t:Bool){Z Y:Nat} (hz:Rep Z) (hy:Rep Y):(FloatKind.f64.format.order (W s Z) (W t Y)==some .eq)=decide (sg s Z=sg t Y):=by
 have h:FloatKind.f64.format.order (W s Z) (W t Y)=some (compare (sg s Z) (sg t Y)):=order_W s t hz hy
 rw [h]
 rcases Int.lt_trichotomy (sg s Z) (sg t Y) with h1 | h1 | h1
 ·rw [cmp_lt h1,decide_eq_false (by omega)];rfl
 ·rw [h1,cmp_eq,decide_eq_true rfl];rfl
 ·rw [cmp_gt h1,decide_eq_false (by omega)];rfl
theorem fo_ne (s t:Bool){Z Y:Nat} (hz:Rep Z) (hy:Rep Y):(FloatKind.f64.format.order (W s Z) (W t Y) != some .eq) = !decide (sg s Z=sg t Y):=by
 rw [bne,fo_eq s t hz hy]
theorem fo_inf (s t:Bool){Z:Nat} (hz:Rep Z):FloatKind.f64.format.order (infw s) (W t Z)=some (if s then .lt else .gt):=order_inf s t hz
theorem fo_nan {a:Nat} (b:Nat) (h:(Ieee.double.read a).isNaN=true):FloatKind.f64.format.order a b=none:=order_nan h
theorem fo_infinf (s:Bool):FloatKind.f64.format.order (infw s) (infw s)=some .eq:=by
 have:FloatKind.f64.format.order (infw s) (infw s)=Ieee.double.order (infw s) (infw s):=rfl
 rw [this,Ieee.Format.order,read_inf];cases s <;> rfl
theorem sg_bounds (s:Bool){Z:Nat} (hz:Rep Z):-(Top:Int)<=sg s Z/\sg s Z<=Top:=by
 have:=rep_le hz
 unfold sg;split <;> omega
theorem sg_true (Z:Nat):sg true Z=-(Z:Int):=rfl
theorem sg_false (Z:Nat):sg false Z=(Z:Int):=rfl
theorem sg_zero (s:Bool):sg s 0=0:=by cases s <;> rfl
theorem sg_eq_zero {s:Bool}{Z:Nat}:sg s Z=0↔Z=0:=by unfold sg;split <;> omega
theorem finite_num (s:Bool){Z:Nat} (hz:Rep Z) (w:World) :
  Calls Tryz.prog 54 #[.float .f64 (W s Z)] w fun e w'=>e= .returned (.bool true)/\w=w':=by
 have hb:=sg_bounds s hz
 have h1:=fo_gt s true hz rep_top
 have h2:=fo_eq s true hz rep_top
 have h3:=fo_lt s false hz rep_top
 have h4:=fo_eq s false hz rep_top
 rw [W_ntop,sg_true] at h1 h2
 rw [W_top,sg_false] at h3 h4
 have a1:(FloatKind.f64.format.order (W s Z) 18442240474082181119==some .gt||FloatKind.f64.format.order (W s Z) 18442240474082181119==some .eq)=true:=by
  rw [h1,h2];simp;omega
 have a2:(FloatKind.f64.format.order (W s Z) 9218868437227405311==some .lt||FloatKind.f64.format.order (W s Z) 9218868437227405311==some .eq)=true:=by
  rw [h3,h4];simp;omega
 clear h1 h2 h3 h4 hb hz
 go_enter Tryz.func54,Tryz.ntmps54
 go_wp2
 all_goals go_ret
 all_goals exact ⟨by first | rfl | simp_all,rfl⟩
theorem finite_inf (s:Bool) (w:World) :
  Calls Tryz.prog 54 #[.float .f64 (infw s)] w fun e w'=>e= .returned (.bool false)/\w=w':=by
 have h1:=fo_inf s true rep_top
 have h2:=fo_inf s false rep_top
 rw [W_ntop] at h1
 rw [W_top] at h2
 cases s
 all_goals
  simp only [if_true,if_false,Bool.false_eq_true] at h1 h2
  go_enter Tryz.func54,Tryz.ntmps54
  go_wp2
  all_goals go_ret
  all_goals exact ⟨by first | rfl | simp_all,rfl⟩
theorem finite_nan {b:Nat} (h:(Ieee.double.read b).isNaN=true) (w:World) :
  Calls Tryz.prog 54 #[.float .f64 b] w fun e w'=>e= .returned (.bool false)/\w=w':=by
 have h1:=fo_nan 18442240474082181119 h
 have h2:=fo_nan 9218868437227405311 h
 clear h
 go_enter Tryz.func54,Tryz.ntmps54
 go_wp2
 all_goals go_ret
 all_goals exact ⟨by first | rfl | simp_all,rfl⟩
def tid (s:Bool) (Z:Nat):Nat:=if Z=0 then 0 else W s Z
theorem rtidy_num (s:Bool){Z:Nat} (hz:Rep Z) (w:World) :
  Calls Tryz.prog 51 #[.float .f64 (W s Z)] w fun e w'=>e= .returned (.tuple #[.float .f64 (tid s Z),.bool true])/\w=w':=by
 have h1:=fo_eq s false hz rep_zero
 rw [W_zero,sg_zero] at h1
 by_cases h0:Z=0
 ·subst h0
  simp [sg_zero] at h1
  go_enter Tryz.func51,Tryz.ntmps51
  go_wp2_with (go_at_call 54;refine (finite_num s hz _).mono ?_;rintro e w' ⟨rfl,rfl⟩)
  go_ret2
  exact ⟨rfl,rfl⟩
 ·have HT:Hid (tid s Z=W s Z):=if_neg h0
  rw [decide_eq_false (by rw [sg_eq_zero];exact h0)] at h1
  have h1':=beq_eq_false_iff_ne.1 h1
  go_enter Tryz.func51,Tryz.ntmps51
  go_wp2_with (go_at_call 54;refine (finite_num s hz _).mono ?_;rintro e w' ⟨rfl,rfl⟩)
  go_ret2
  exact ⟨by rw [HT.out];rfl,rfl⟩
theorem rtidy_bad {b:Nat} (h:(∃ s,b=infw s)\/(Ieee.double.read b).isNaN=true) (w:World) :
  Calls Tryz.prog 51 #[.float .f64 b] w fun e w'=>e= .returned (.tuple #[.float .f64 0,.bool false])/\w=w':=by
 have hf:∀ w,Calls Tryz.prog 54 #[.float .f64 b] w fun e w'=>e= .returned (.bool false)/\w=w':=by
  intro w
  rcases h with ⟨s,rfl⟩ | h
  ·exact finite_inf s w
  ·exact finite_nan h w
 have HF:=Lib.hid hf
 clear hf h
 go_enter Tryz.func51,Tryz.ntmps51
 go_wp2_with (go_at_call 54;refine (HF.out _).mono ?_;rintro e w' ⟨rfl,rfl⟩)
 go_ret2
 exact ⟨rfl,rfl⟩
theorem ntidy_num (s:Bool){Z:Nat} (hz:Rep Z) (w:World) :
  Calls Tryz.prog 166 #[.float .f64 (W s Z)] w fun e w'=>e= .returned (.tuple #[.float .f64 (tid s Z),.bool true])/\w=w':=by
 have hb:=sg_bounds s hz
 have h1:=fo_eq s false hz rep_zero
 have h2:=fo_ne s s hz hz
 have h3:=fo_gt s false hz rep_top
 have h4:=fo_lt s true hz rep_top
 rw [W_zero,sg_zero] at h1
 rw [W_top,sg_false] at h3
 rw [W_ntop,sg_true] at h4
 rw [decide_eq_true rfl] at h2
 rw [decide_eq_false (by omega)] at h3
 rw [decide_eq_false (by omega)] at h4
 simp only [Bool.not_true] at h2
 have h2':FloatKind.f64.format.order (W s Z) (W s Z)=some .eq:=by simpa using h2
 have h3':¬ FloatKind.f64.format.order (W s Z) 9218868437227405311=some .gt:=by simpa using h3
 have h4':¬ FloatKind.f64.format.order (W s Z) 18442240474082181119=some .lt:=by simpa using h4
 clear hb hz
 by_cases h0:Z=0
 ·subst h0
  simp [sg_zero] at h1
  go_enter Tryz.func166,Tryz.ntmps166
  go_wp2
  go_ret2
  exact ⟨rfl,rfl⟩
 ·have HT:Hid (tid s Z=W s Z):=if_neg h0
  rw [decide_eq_false (by rw [sg_eq_zero];exact h0)] at h1
  have h1':=beq_eq_false_iff_ne.1 h1
  go_enter Tryz.func166,Tryz.ntmps166
  go_wp2
  go_ret2
  exact ⟨by rw [HT.out];rfl,rfl⟩
theorem W_max:W false (9007199254740992*2^K)=4845873199050653696:=by decide+kernel
theorem W_nmax:W true (9007199254740992*2^K)=14069245235905429504:=by decide+kernel
theorem rep_max:Rep (9007199254740992*2^K):=rep_int K (by decide) (by unfold K;omega)
def IsWhole (Z:Nat):Prop:=∃ m,m<=9007199254740992/\Z=m*2^K
theorem K_pos:0 < 2^K:=Nat.two_pow_pos K
theorem natAbs_sg (s:Bool) (m:Nat):(sg s m).natAbs=m:=by unfold sg;split <;> omega
theorem sg_neg_iff (s:Bool) (m:Nat):(sg s m < 0)↔(s=true/\m≠0):=by
 unfold sg;cases s <;> simp <;> omega
theorem ofInt_sg (s:Bool) (m:Nat) (h:m<=9007199254740992):floatOfInt .f64 (sg s m)=W (decide (sg s m < 0)) (m*2^K):=by
 have:=ofInt (sg s m) (by rw [natAbs_sg];exact h)
 rw [natAbs_sg] at this
 exact this
theorem sg_dec (s:Bool) (m k:Nat):sg (decide (sg s m < 0)) (m*k)=sg s (m*k):=by
 by_cases h:m=0
 ·subst h;simp [sg_zero]
 ·cases s
  ·have:decide (sg false m < 0)=false:=decide_eq_false (by rw [sg_false];omega)
   rw [this]
  ·have:decide (sg true m < 0)=true:=decide_eq_true (by rw [sg_true];omega)
   rw [this]
theorem sg_inj (s:Bool) (a b:Nat):sg s a=sg s b↔a=b:=by unfold sg;split <;> omega
theorem div_le_of {Z:Nat} (h:Z<=9007199254740992*2^K):Z / 2^K<=9007199254740992:=by
 have:=Nat.div_le_div_right (c:=2^K) h
 rwa [Nat.mul_div_cancel _ K_pos] at this
structure WholeFacts (s:Bool) (Z:Nat):Prop where
 ge:(FloatKind.f64.format.order (W s Z) 14069245235905429504==some .gt||FloatKind.f64.format.order (W s Z) 14069245235905429504==some .eq)=true
 le:(FloatKind.f64.format.order (W s Z) 4845873199050653696==some .lt||FloatKind.f64.format.order (W s Z) 4845873199050653696==some .eq)=true
 conv:∀ w,(convert 96 2 (.float .f64 (W s Z))).run Tryz.prog w= .ok (.int .i64 (sg s (Z / 2^K))) w
 back:(FloatKind.f64.format.order (floatOfInt .f64 (sg s (Z / 2^K))) (W s Z)==some .eq)=decide (Z / 2^K*2^K=Z)
theorem whole_facts (s:Bool){Z:Nat} (hz:Rep Z) (h:Z<=9007199254740992*2^K):WholeFacts s Z:=by
 have hq:=div_le_of h
 have hr:=rep_int K hq (by unfold K;omega)
 refine ⟨?_,?_,?_,?_⟩
 ·rw [<- W_nmax,fo_gt s true hz rep_max,fo_eq s true hz rep_max,sg_true]
  generalize 9007199254740992*2^K=T at *
  rw [<- Bool.decide_or,decide_eq_true_eq];unfold sg;split <;> omega
 ·rw [<- W_max,fo_lt s false hz rep_max,fo_eq s false hz rep_max,sg_false]
  generalize 9007199254740992*2^K=T at *
  rw [<- Bool.decide_or,decide_eq_true_eq];unfold sg;split <;> omega
 ·intro w
  exact run_convert_float_int (P:=Tryz.prog) w 96 2 .f64 .i64 (W s Z) _ (by kernel_rfl) Tryz.underlying2 (toInt64_W s hz (by omega))
 ·rw [ofInt_sg s _ hq,fo_eq _ s hr hz,sg_dec,decide_eq_decide]
  exact sg_inj s _ _
theorem big_facts (s:Bool){Z:Nat} (hz:Rep Z) (h:¬ Z<=9007199254740992*2^K) :
  (s=true->(FloatKind.f64.format.order (W s Z) 14069245235905429504=some .lt)) /\
  (s=false->(FloatKind.f64.format.order (W s Z) 14069245235905429504=some .gt)/\(FloatKind.f64.format.order (W s Z) 4845873199050653696=some .gt)):=by
 have a1:FloatKind.f64.format.order (W s Z) 14069245235905429504=some (compare (sg s Z) (sg true (9007199254740992*2^K))):=by
  rw [<- W_nmax];exact order_W s true hz rep_max
 have a2:FloatKind.f64.format.order (W s Z) 4845873199050653696=some (compare (sg s Z) (sg false (9007199254740992*2^K))):=by
  rw [<- W_max];exact order_W s false hz rep_max
 rw [a1,a2]
 refine ⟨?_,?_⟩
 ·rintro rfl;rw [cmp_lt (by rw [sg_true,sg_true];omega)]
 ·rintro rfl;rw [cmp_gt (by rw [sg_true,sg_false];omega),cmp_gt (by rw [sg_false,sg_false];omega)];exact ⟨rfl,rfl⟩
theorem nwhole_yes (s:Bool) (m:Nat) (hm:m<=9007199254740992) (w:World) :
  Calls Tryz.prog 174 #[.float .f64 (W s (m*2^K))] w fun e w'=>e= .returned (.tuple #[.int .i64 (sg s m),.bool true])/\w=w':=by
 have hz:Rep (m*2^K):=rep_int K hm (by unfold K;omega)
 obtain ⟨h1,h2,h3,h4⟩:=whole_facts s hz (Nat.mul_le_mul_right _ hm)
 rw [Nat.mul_div_cancel _ K_pos] at h3 h4
 rw [decide_eq_true rfl] at h4
 generalize W s (m*2^K)=b at *
 have h1':=h1
 have h2':=h2
 simp only [Bool.or_eq_true,beq_iff_eq] at h1' h2'
 clear hz hm
 go_enter Tryz.func174,Tryz.ntmps174
 go_wp2
 go_ret2
 exact ⟨rfl,rfl⟩
theorem nwhole_no (s:Bool){Z:Nat} (hz:Rep Z) (h:¬ IsWhole Z) (w:World) :
  Calls Tryz.prog 174 #[.float .f64 (W s Z)] w fun e w'=>(∃ n,e= .returned (.tuple #[.int .i64 n,.bool false]))/\w=w':=by
 by_cases hle:Z<=9007199254740992*2^K
 ·obtain ⟨h1,h2,h3,h4⟩:=whole_facts s hz hle
  rw [decide_eq_false (fun e=>h ⟨Z / 2^K,div_le_of hle,e.symm⟩)] at h4
  generalize W s Z=b at *
  generalize sg s (Z / 2^K)=n at *
  have h1':=h1
  have h2':=h2
  simp only [Bool.or_eq_true,beq_iff_eq] at h1' h2'
  have h4':=beq_eq_false_iff_ne.1 h4
  clear hz h hle
  go_enter Tryz.func174,Tryz.ntmps174
  go_wp2
  go_ret2
  exact ⟨⟨n,rfl⟩,rfl⟩
 ·obtain ⟨h1,h2⟩:=big_facts s hz hle
  cases s
  ·obtain ⟨h2,h3⟩:=h2 rfl
   clear h1 hle h hz
   go_enter Tryz.func174,Tryz.ntmps174
   go_wp2
   go_ret2
   exact ⟨⟨0,rfl⟩,rfl⟩
  ·have h1:=h1 rfl
   clear h2 hle h hz
   go_enter Tryz.func174,Tryz.ntmps174
   go_wp2
   go_ret2
   exact ⟨⟨0,rfl⟩,rfl⟩
end Go.Proofs.YtbakjaliponbbaaGreatDoor
namespace Go.Proofs.YtbakjaliponbbaaGreatDoor.Fl
open Ieee Go
def fi (n:Int):Nat:=floatOfInt .f64 n
theorem fi_W (n:Int) (h:n.natAbs<=9007199254740992):fi n=W (decide (n < 0)) (n.natAbs*2^K):=ofInt n h
theorem fi_sg (n:Int):sg (decide (n < 0)) (n.natAbs*2^K)=n*(2^K:Nat):=by
 rw [sg_mul]
 congr 1
 unfold sg
 by_cases h0:n < 0
 ·simp [h0];omega
 ·simp [h0];omega
theorem rep_fi (n:Int) (h:n.natAbs<=9007199254740992):Rep (n.natAbs*2^K):=rep_int K h (by unfold K;omega)
theorem order_fi (a b:Int) (ha:a.natAbs<=9007199254740992) (hb:b.natAbs<=9007199254740992):double.order (fi a) (fi b)=some (compare a b):=by
 have hp:0 < 2 ^ K:=Nat.two_pow_pos K
 rw [fi_W a ha,fi_W b hb,order_W _ _ (rep_fi a ha) (rep_fi b hb),fi_sg a,fi_sg b,compare_mul _ _ _ hp]
end Go.Proofs.YtbakjaliponbbaaGreatDoor.Fl
namespace Go.Proofs.YtbakjaliponbbaaGreatDoor
open Go Go.RowKit Go.Proofs Fl
def TF (b:Nat):Prop:=∃ s Z,Rep Z/\b=W s Z/\(Z=0->s=false)
theorem TF.lt {b:Nat} (h:TF b):b < 18446744073709551616:=by
 obtain ⟨s,Z,hz,rfl,_⟩:=h
 exact W_lt s hz
theorem tf_zero:TF 0:=⟨false,0,rep_zero,W_zero.symm,fun _=>rfl⟩
theorem tf_tid (s:Bool){Z:Nat} (hz:Rep Z):TF (tid s Z):=by
 unfold tid
 split
 ·exact tf_zero
 ·rename_i h;exact ⟨s,Z,hz,rfl,fun e=>absurd e h⟩
theorem tf_one:TF 4607182418800017408:=⟨false,1*2^K,rep_int K (by decide) (by unfold K;omega),by decide+kernel,fun _=>rfl⟩
def doneP (b:Nat):Nat×Int:=match Ieee.double.read b with
 | .number _ m _=>(if m=0 then 0 else b,0)
 | _=>(0,24)
theorem mg_zero {Z:Nat} (hz:Rep Z):mg (rung Z)=0↔Z=0:=by
 have h:=mg_ex hz
 constructor
 ·intro e;rw [e,Nat.zero_mul] at h;exact h.symm
 ·intro e
  rw [e] at h
  rcases Nat.mul_eq_zero.1 h with h | h
  ·rw [e];exact h
  ·exact absurd h (Nat.ne_of_gt (Nat.two_pow_pos _))
theorem doneP_num (s:Bool){Z:Nat} (hz:Rep Z):doneP (W s Z)=(tid s Z,0):=by
 unfold doneP
 rw [read_W s hz]
 show (if mg (rung Z)=0 then 0 else W s Z,0)=_
 unfold tid
 by_cases h:Z=0
 ·rw [if_pos h,if_pos ((mg_zero hz).2 h)]
 ·rw [if_neg h,if_neg (fun e=>h ((mg_zero hz).1 e))]
theorem doneP_inf (s:Bool):doneP (infw s)=(0,24):=by unfold doneP;rw [read_inf]
theorem doneP_nan {b:Nat} (h:(Ieee.double.read b).isNaN=true):doneP b=(0,24):=by
 unfold doneP
 cases hd:Ieee.double.read b <;> rw [hd] at h <;> first | rfl | cases h
theorem doneP_cases {b:Nat} (hb:b < 18446744073709551616):(∃ c,TF c/\doneP b=(c,0))\/doneP b=(0,24):=by
 rcases classify b hb with ⟨s,Z,hz,rfl⟩ | ⟨s,rfl⟩ | h
 ·exact .inl ⟨_,tf_tid s hz,doneP_num s hz⟩
 ·exact .inr (doneP_inf s)
 ·exact .inr (doneP_nan h)
theorem doneP_tf {b:Nat} (h:TF b):doneP b=(b,0):=by
 obtain ⟨s,Z,hz,rfl,h0⟩:=h
 rw [doneP_num s hz]
 unfold tid
 split
 ·rename_i e;rw [e,h0 e,W_zero]
 ·rfl
theorem inf_gt_top:FloatKind.f64.format.order (infw false) 9218868437227405311=some .gt:=by rw [<- W_top];exact fo_inf false false rep_top
theorem inf_lt_ntop:FloatKind.f64.format.order (infw true) 18442240474082181119=some .lt:=by rw [<- W_ntop];exact fo_inf true true rep_top
theorem inf_lt_top:FloatKind.f64.format.order (infw true) 9218868437227405311=some .lt:=by rw [<- W_top];exact fo_inf true false rep_top
theorem ntidy_bad {b:Nat} (h:(∃ s,b=infw s)\/(Ieee.double.read b).isNaN=true) (w:World) :
  Calls Tryz.prog 166 #[.float .f64 b] w fun e w'=>e= .returned (.tuple #[.float .f64 0,.bool false])/\w=w':=by
 rcases h with ⟨s,rfl⟩ | h
 ·have h1:=fo_infinf s
  cases s
  ·have h2:=inf_gt_top
   generalize infw false=b at *
   go_enter Tryz.func166,Tryz.ntmps166
   go_wp2
   go_ret2
   exact ⟨rfl,rfl⟩
  ·have h2:=inf_lt_ntop
   have h3:=inf_lt_top
   generalize infw true=b at *
   go_enter Tryz.func166,Tryz.ntmps166
   go_wp2
   go_ret2
   exact ⟨rfl,rfl⟩
 ·have h1:=fo_nan b h
  clear h
  go_enter Tryz.func166,Tryz.ntmps166
  go_wp2
  go_ret2
  exact ⟨rfl,rfl⟩
theorem tf_eq_zero {b:Nat} (h:TF b):FloatKind.f64.format.order b 0=some (if b=0 then .eq else if (Ieee.double.order b 0)=some .lt then .lt else .gt):=by
 obtain ⟨s,Z,hz,rfl,h0⟩:=h
 have h1:=order_W s false hz rep_zero
 rw [W_zero,sg_zero] at h1
 show Ieee.double.order (W s Z) 0=_
 by_cases e:Z=0
 ·rw [e,h0 e,W_zero,if_pos rfl];decide
 ·have hne:W s Z≠0:=by
   intro e2
   have h2:=read_W s hz
   rw [e2] at h2
   have h3:Ieee.double.read 0= .number false 0 (-1074):=by decide
   rw [h3] at h2
   injection h2 with _ h4 _
   exact e ((mg_zero hz).1 h4.symm)
  rw [if_neg hne,h1]
  rcases Int.lt_trichotomy (sg s Z) 0 with h | h | h
  ·rw [cmp_lt h];rfl
  ·exact absurd (sg_eq_zero.1 h) e
  ·rw [cmp_gt h];rfl
theorem tf_is_zero {b:Nat} (h:TF b):(FloatKind.f64.format.order b 0==some .eq)=decide (b=0):=by
 rw [tf_eq_zero h]
 by_cases e:b=0
 ·rw [if_pos e,decide_eq_true e];rfl
 ·rw [if_neg e,decide_eq_false e];split <;> rfl
end Go.Proofs.YtbakjaliponbbaaGreatDoor
namespace Go.Proofs.YtbakjaliponbbaaGreatDoor
open Go Go.RowKit Go.Proofs
def Runes (w:World) (v:Value) (l:List Int):Prop :=
 (∃ a c,v= .slice a 0 c/\l=[]) \/
 (∃ b o n c,v= .slice (some ⟨b,o,none⟩) n c/\n=l.length/\∀ i (h:i < l.length),w.cell? ⟨b,o+i,none⟩=some (.int .i32 l[i]))
theorem cell_lt {w:World}{a:Addr}{v:Value} (h:w.cell? a=some v):a.block < w.heap.size:=by
 unfold World.cell? at h
 rcases Nat.lt_or_ge a.block w.heap.size with hlt | hge
 ·exact hlt
 ·rw [Array.getElem?_eq_none hge] at h;simp at h
theorem Runes.below {w w':World}{v:Value}{l:List Int} (h:Runes w v l) (hb:Below w.heap.size w w'):Runes w' v l:=by
 rcases h with h | ⟨b,o,n,c,rfl,hn,hc⟩
 ·exact .inl h
 ·exact .inr ⟨b,o,n,c,rfl,hn,fun i hi=>by rw [hb.cell (cell_lt (hc i hi))];exact hc i hi⟩
def OwnR (w:World) (B:Nat) (v:Value) (l:List Int):Prop:=w.ownsRow B 21 1 v l.length (l.map (Value.int .i32))
theorem OwnR.nil (w:World) (B:Nat):OwnR w B (.slice none 0 0) []:=World.ownsRow_nil w B _ _
theorem OwnR.runes {w:World}{B:Nat}{v:Value}{l:List Int} (h:OwnR w B v l):Runes w v l:=by
 have h':=h
 rcases h.2 with ⟨rfl,hn⟩ | ⟨g,cap,cur,rfl,hbg,hg,hnc,hcm,hcs,htake⟩
 ·exact .inl ⟨none,0,rfl,List.eq_nil_of_length_eq_zero hn⟩
 ·refine .inr ⟨g,0,l.length,cap,rfl,rfl,fun i hi=>?_⟩
  have:=World.ownsRow.cellAt h' i (by omega)
  rw [Nat.zero_add,this]
  simp [hi]
theorem OwnR.len {w:World}{B:Nat}{v:Value}{l:List Int} (h:OwnR w B v l):∃ a c,v= .slice a l.length c:=by
 rcases h.2 with ⟨rfl,hn⟩ | ⟨g,cap,cur,rfl,_⟩
 ·exact ⟨none,0,by rw [hn]⟩
 ·exact ⟨_,_,rfl⟩
theorem OwnR.below {w w':World}{B:Nat}{v:Value}{l:List Int} (h:OwnR w B v l) (hb:Below w.heap.size w w'):OwnR w' B v l:=by
 refine ⟨h.1,?_⟩
 rcases h.2 with h2 | ⟨g,cap,cur,hv,hbg,hg,r⟩
 ·exact .inl h2
 ·refine .inr ⟨g,cap,cur,hv,hbg,?_,r⟩
  have hlt:g < w.heap.size:=by
   rcases Nat.lt_or_ge g w.heap.size with hlt | hge
   ·exact hlt
   ·rw [Array.getElem?_eq_none hge] at hg;cases hg
  rw [hb.block g hlt];exact hg
theorem OwnR.lower {w:World}{B B':Nat}{v:Value}{l:List Int} (h:OwnR w B v l) (hB:B'<=B):OwnR w B' v l:=by
 refine ⟨h.1,?_⟩
 rcases h.2 with h2 | ⟨g,cap,cur,hv,hbg,r⟩
 ·exact .inl h2
 ·exact .inr ⟨g,cap,cur,hv,by omega,r⟩
theorem OwnR.alloc {w:World}{B:Nat}{v:Value}{l:List Int} (h:OwnR w B v l) (o:Obj):OwnR (w.alloc o) B v l:=World.ownsRow.alloc h o
def Apart (v d:Value):Prop:=v.ownBlock=none\/d.ownBlock=none\/v.ownBlock≠d.ownBlock
theorem Apart.symm {v d:Value} (h:Apart v d):Apart d v:=by
 rcases h with h | h | h
 ·exact .inr (.inl h)
 ·exact .inl h
 ·exact .inr (.inr fun e=>h e.symm)
theorem info_i32:(Tryz.prog.info? 21).map (fun i=>(i.zero,i.size,i.bytes))=some (some (.int .i32 0),1,4):=by kernel_rfl
theorem OwnR.form {w:World}{B:Nat}{v:Value}{l:List Int} (h:OwnR w B v l) (hl:l≠[]) :
  ∃ g c,v= .slice (some ⟨g,0,none⟩) l.length c/\∀ w' B',OwnR w' B' v l->∀ i (hi:i < l.length),w'.cell? ⟨g,i,none⟩=some (.int .i32 l[i]):=by
 rcases h.2 with ⟨rfl,hn⟩ | ⟨g,cap,cur,rfl,hbg,hg,hnc,hcm,hcs,htake⟩
 ·exact absurd (List.eq_nil_of_length_eq_zero hn) hl
 ·refine ⟨g,cap,rfl,fun w' B' h' i hi=>?_⟩
  have:=World.ownsRow.cellAt h' i (by omega)
  rw [this]
  simp [hi]
def Reads1 (w:World) (v:Value) (xs:List Value):Prop :=
 (∃ a c,v= .slice a 0 c/\xs=[]) \/
 (∃ b o n c,v= .slice (some ⟨b,o,none⟩) n c/\n=xs.length/\∀ i (h:i < xs.length),w.cell? ⟨b,o+i,none⟩=some xs[i])
theorem Reads1.below {w w':World}{v:Value}{xs:List Value} (h:Reads1 w v xs) (hb:Below w.heap.size w w'):Reads1 w' v xs:=by
 rcases h with h | ⟨b,o,n,c,rfl,hn,hc⟩
 ·exact .inl h
 ·exact .inr ⟨b,o,n,c,rfl,hn,fun i hi=>by rw [hb.cell (cell_lt (hc i hi))];exact hc i hi⟩
theorem Reads1.len {w:World}{v:Value}{xs:List Value} (h:Reads1 w v xs):∃ a c,v= .slice a xs.length c:=by
 rcases h with ⟨a,c,rfl,rfl⟩ | ⟨b,o,n,c,rfl,hn,hc⟩
 ·exact ⟨a,c,rfl⟩
 ·exact ⟨_,c,by rw [hn]⟩
theorem Reads1.cells {w:World}{v:Value}{xs:List Value} (h:Reads1 w v xs) (hne:xs≠[]) :
  ∃ b o c,v= .slice (some ⟨b,o,none⟩) xs.length c/\∀ i (h:i < xs.length),w.cell? ⟨b,o+i,none⟩=some xs[i]:=by
 rcases h with ⟨a,c,rfl,rfl⟩ | ⟨b,o,n,c,rfl,hn,hc⟩
 ·exact absurd rfl hne
 ·exact ⟨b,o,c,by rw [hn],hc⟩
def Own1 (w:World) (B:Nat) (e:TypeId) (v:Value) (xs:List Value):Prop:=w.ownsRow B e 1 v xs.length xs
theorem Own1.nil (w:World) (B:Nat) (e:TypeId):Own1 w B e (.slice none 0 0) []:=World.ownsRow_nil w B _ _
theorem Own1.reads {w:World}{B:Nat}{e:TypeId}{v:Value}{xs:List Value} (h:Own1 w B e v xs):Reads1 w v xs:=by
 have h':=h
 rcases h.2 with ⟨rfl,hn⟩ | ⟨g,cap,cur,rfl,hbg,hg,hnc,hcm,hcs,htake⟩
 ·exact .inl ⟨none,0,rfl,List.eq_nil_of_length_eq_zero hn⟩
 ·refine .inr ⟨g,0,xs.length,cap,rfl,rfl,fun i hi=>?_⟩
  have:=World.ownsRow.cellAt h' i (by omega)
  rw [Nat.zero_add,this]
  simp [hi]
theorem Own1.below {w w':World}{B:Nat}{e:TypeId}{v:Value}{xs:List Value} (h:Own1 w B e v xs) (hb:Below w.heap.size w w'):Own1 w' B e v xs:=by
 refine ⟨h.1,?_⟩
 rcases h.2 with h2 | ⟨g,cap,cur,hv,hbg,hg,r⟩
 ·exact .inl h2
 ·refine .inr ⟨g,cap,cur,hv,hbg,?_,r⟩
  have hlt:g < w.heap.size:=by
   rcases Nat.lt_or_ge g w.heap.size with hlt | hge
   ·exact hlt
   ·rw [Array.getElem?_eq_none hge] at hg;cases hg
  rw [hb.block g hlt];exact hg
theorem Own1.alloc {w:World}{B:Nat}{e:TypeId}{v:Value}{xs:List Value} (h:Own1 w B e v xs) (o:Obj):Own1 (w.alloc o) B e v xs:=World.ownsRow.alloc h o
theorem OwnR.own {w:World}{B:Nat}{v:Value}{l:List Int} (h:OwnR w B v l):Own1 w B 21 v (l.map (Value.int .i32)):=by
 unfold Own1;rw [List.length_map];exact h
theorem wpList_push1 {ops:Array Oper}{rest:List Oper}{o:Oper}{a:Act}{Q:Exit->Act->World->Prop}{w:World} (hgd:o.guard=none) (s x:Operand) (t e:TypeId)
  (ho:o.op= .call { callee := .builtin .append,args:=#[s,x],argTypes:=#[t,t]}) (ht:Tryz.prog.underlying t=some (.slice e)) (z:Value) (bytes:Nat)
  (hinfo:(Tryz.prog.info? e).map (fun i=>(i.zero,i.size,i.bytes))=some (some z,1,bytes)) (hz:z.cells.size=1)
  (B:Nat) (v:Value) (xs:List Value) (hs:a.eval s=v) (hown:Own1 w B e v xs) (c:Value) (hc1:c.oneCell'=true)
  (hx:a.eval x= .slice (some ⟨w.heap.size,0,none⟩) 1 1) (hl:(xs.length+1)*bytes<=140737488355328) (hl2:xs.length+1<=140737488355328) (hB:B<=w.heap.size)
  (h:∀ v' w',Own1 w' B e v' (xs++[c])->(∀ w0,Below B w0 w->Below B w0 w')->(∀ e2 d m,w.ownsRow B e2 1 d m.length m->Apart v d->w'.ownsRow B e2 1 d m.length m/\Apart v' d)->w.heap.size<=w'.heap.size ->
   wpList Tryz.prog ops Q rest (a.put o.dst v') w'):wpList Tryz.prog ops Q (o::rest) a (w.alloc (.cells #[c] e)):=by
 obtain ⟨i0,hi0,hz0,hz1,hz2⟩:=info_parts hinfo
 refine wpList_append_own_at _ hgd s x t ho B e i0 z 1 bytes ht hi0 hz0 hz1 hz2 hz (by omega) v xs.length _ hs
  (World.ownsRow.alloc hown _) ⟨w.heap.size,0,none⟩ 1 1 [c] hx rfl (cell_one_new w _ _) (by simpa using hc1) (by unfold maxLen;omega) hl (by simp;omega) ?_
 intro v' w' hown' hg _ hat
 have hsz:w.heap.size+1<=w'.heap.size:=by have:=hg.size;simpa using this
 refine h v' w' ?_ ?_ ?_ (by omega)
 ·unfold Own1
  rw [List.length_append]
  exact hown'
 ·intro w0 hb
  exact ((hb.alloc hB _).grown hg (by simp;omega) fun k hk=>(World.ownsRow.lt hown k hk).1)
 ·intro e2 d m hd hap
  have hd':(w.alloc (.cells #[c] e)).ownsRow B e2 1 d m.length m:=World.ownsRow.alloc hd _
  refine ⟨World.ownsRow.kept hd' hg ?_,?_⟩
  ·rcases hap with h1 | h1 | h1
   ·cases hdb:d.ownBlock with
    | none=>exact .inl rfl
    | some k=>right;rw [h1];simp
   ·exact .inl h1
   ·exact .inr fun e=>h1 e.symm
  ·rcases hat with e | e
   ·unfold Apart;rw [e];exact hap
   ·refine .inr (.inr ?_)
    rw [e]
    intro he
    have:=(World.ownsRow.lt hd _ he.symm).2
    simp at this
    omega
def fillL (f:Nat->Value) (z:Value) (n k:Nat):List Value:=(List.range n).map fun i=>if i < k then f i else z
theorem fillL_len (f:Nat->Value) (z:Value) (n k:Nat):(fillL f z n k).length=n:=by simp [fillL]
theorem fillL_get (f:Nat->Value) (z:Value) (n k i:Nat) (h:i < n):(fillL f z n k)[i]?=some (if i < k then f i else z):=by simp [fillL,h]
theorem fillL_none (f:Nat->Value) (z:Value) (n k i:Nat) (h:¬ i < n):(fillL f z n k)[i]?=none:=by
 rw [List.getElem?_eq_none_iff,fillL_len];omega
theorem fillL_zero (f:Nat->Value) (z:Value) (n:Nat):List.replicate n z=fillL f z n 0:=by
 apply List.ext_getElem?
 intro i
 by_cases h:i < n
 ·rw [fillL_get _ _ _ _ _ h,List.getElem?_replicate,if_pos h];simp
 ·rw [fillL_none _ _ _ _ _ h,List.getElem?_replicate,if_neg h]
theorem fillL_set (f:Nat->Value) (z:Value) (n k:Nat) (h:k < n):(fillL f z n k).set k (f k)=fillL f z n (k+1):=by
 apply List.ext_getElem?
 intro i
 rw [List.getElem?_set]
 by_cases hi:i < n
 ·rw [fillL_get _ _ _ _ _ hi,fillL_get _ _ _ _ _ hi,fillL_len]
  by_cases hk:k=i
  ·subst hk;rw [if_pos rfl,if_pos h,if_pos (by omega)]
  ·rw [if_neg hk]
   by_cases h2:i < k
   ·rw [if_pos h2,if_pos (by omega)]
   ·rw [if_neg h2,if_neg (by omega)]
 ·rw [fillL_none _ _ _ _ _ hi,fillL_none _ _ _ _ _ hi,if_neg (by omega)]
theorem fillL_full (f:Nat->Value) (z:Value) (n:Nat):fillL f z n n=(List.range n).map f:=by
 unfold fillL
 apply List.map_congr_left
 intro i hi
 rw [if_pos (List.mem_range.1 hi)]
def Fill (w:World) (B g:Nat) (e:TypeId) (f:Nat->Value) (z:Value) (n k:Nat):Prop:=w.ownsRow B e 1 (.slice (some ⟨g,0,none⟩) n n) n (fillL f z n k)
theorem Fill.made (w:World) (B:Nat) (hB:B<=w.heap.size) (e:TypeId) (f:Nat->Value) (z:Value) (n:Nat) (hn:n<=maxLen):Fill (w.alloc (.cells (madeCells #[z] n) e)) B w.heap.size e f z n 0:=by
 have h:=World.ownsRow_lit (base:=B) (e:=e) (size:=1) w (madeCells #[z] n) n hB hn (by rw [size_madeCells];omega)
 rw [toList_madeCells_one,fillL_zero f] at h
 exact h
theorem Fill.cell {w:World}{B g:Nat}{e:TypeId}{f:Nat->Value}{z:Value}{n k:Nat} (h:Fill w B g e f z n k) (hk:k < n):w.cell? ⟨g,k,none⟩=some z:=by
 have:=World.ownsRow.cellAt h k (by omega)
 rw [this,fillL_get _ _ _ _ _ hk,if_neg (by omega)]
theorem Fill.done {w:World}{B g:Nat}{e:TypeId}{f:Nat->Value}{z:Value}{n k:Nat} (h:Fill w B g e f z n k) (i:Nat) (hi:i < k) (hk:k<=n):w.cell? ⟨g,i,none⟩=some (f i):=by
 have:=World.ownsRow.cellAt h i (by omega)
 rw [this,fillL_get _ _ _ _ _ (by omega),if_pos hi]
theorem Fill.frozen {w:World}{B g:Nat}{e:TypeId}{f:Nat->Value}{z:Value}{n k:Nat} (h:Fill w B g e f z n k) (i:Nat):w.frozen? ⟨g,i,none⟩=false:=World.ownsRow.frozenAt h i
theorem Fill.put {w:World}{B g:Nat}{e:TypeId}{f:Nat->Value}{z:Value}{n k:Nat} (h:Fill w B g e f z n k) (hk:k < n):Fill (w.setCell ⟨g,k,none⟩ (f k)) B g e f z n (k+1):=by
 have:=(World.ownsRow.stored h k (f k)).1
 rw [fillL_set _ _ _ _ hk] at this
 exact this
theorem Fill.low {w:World}{B g:Nat}{e:TypeId}{f:Nat->Value}{z:Value}{n k:Nat} (h:Fill w B g e f z n k):B<=g/\g < w.heap.size:=World.ownsRow.lt h g rfl
theorem Fill.bel {w w0:World}{B g:Nat}{e:TypeId}{f:Nat->Value}{z:Value}{n k:Nat} (h:Fill w B g e f z n k) (hb:Below B w0 w) (i:Nat) (u:Value):Below B w0 (w.setCell ⟨g,i,none⟩ u):=hb.setCell h.low.1 _
theorem Fill.below {w w':World}{B g:Nat}{e:TypeId}{f:Nat->Value}{z:Value}{n k:Nat} (h:Fill w B g e f z n k) (hb:Below w.heap.size w w'):Fill w' B g e f z n k:=by
 have h2:Own1 w B e (.slice (some ⟨g,0,none⟩) n n) (fillL f z n k):=by unfold Own1;rw [fillL_len];exact h
 have:=h2.below hb
 unfold Own1 at this
 rw [fillL_len] at this
 exact this
theorem Fill.own {w:World}{B g:Nat}{e:TypeId}{f:Nat->Value}{z:Value}{n:Nat} (h:Fill w B g e f z n n):Own1 w B e (.slice (some ⟨g,0,none⟩) n n) ((List.range n).map f):=by
 unfold Own1
 rw [<- fillL_full f z n,fillL_len]
 exact h
theorem map_range_getD {α:Type} (l:List α) (d:α) (f:α->Value):(List.range l.length).map (fun i=>f (l.getD i d))=l.map f:=by
 apply List.ext_getElem?
 intro i
 by_cases h:i < l.length
 ·simp [h,List.getD]
 ·simp [h]
theorem Reads1.at {w:World}{v:Value}{xs:List Value} (h:Reads1 w v xs):(∃ a c,v= .slice a 0 c/\xs=[])\/∃ b o c,v= .slice (some ⟨b,o,none⟩) xs.length c/\∀ i (h:i < xs.length),w.cell? ⟨b,o+i,none⟩=some xs[i]:=by
 rcases h with h | ⟨b,o,n,c,rfl,hn,hc⟩
 ·exact .inl h
 ·exact .inr ⟨b,o,c,by rw [hn],hc⟩
theorem bel1 (w:World) (a:Obj):Below w.heap.size w (w.alloc a):=(Below.refl _ w).alloc (Nat.le_refl _) a
theorem bel2 (w:World) (a b:Obj):Below w.heap.size w ((w.alloc a).alloc b):=(bel1 w a).alloc (by simp) b
theorem bel3 (w:World) (a b c:Obj):Below w.heap.size w (((w.alloc a).alloc b).alloc c):=(bel2 w a b).alloc (by simp;omega) c
theorem bel4 (w:World) (a b c d:Obj):Below w.heap.size w ((((w.alloc a).alloc b).alloc c).alloc d):=(bel3 w a b c).alloc (by simp;omega) d
theorem cell_box1 {w:World}{p:Addr}{v:Value} (h:w.cell? p=some v) (a:Obj):(w.alloc a).cell? p=some v:=by rw [(bel1 w a).cell (cell_lt h)];exact h
theorem cell_box2 {w:World}{p:Addr}{v:Value} (h:w.cell? p=some v) (a b:Obj):((w.alloc a).alloc b).cell? p=some v:=cell_box1 (cell_box1 h a) b
theorem cell_box3 {w:World}{p:Addr}{v:Value} (h:w.cell? p=some v) (a b c:Obj):(((w.alloc a).alloc b).alloc c).cell? p=some v:=cell_box1 (cell_box2 h a b) c
theorem cell_box4 {w:World}{p:Addr}{v:Value} (h:w.cell? p=some v) (a b c d:Obj):((((w.alloc a).alloc b).alloc c).alloc d).cell? p=some v:=cell_box1 (cell_box3 h a b c) d
abbrev vnil:Value := .slice none 0 0
abbrev vecV (k:Int) (bw:Value) (bn:Int) (s i f c x:Value):Value := .agg #[.int .i64 k,bw,.int .i64 bn,s,i,f,c,x]
structure BitsOf (ws:List Nat) (l:List Bool):Prop where
 len:ws.length=(l.length+63) / 64
 word:∀ x∈ws,x < 18446744073709551616
 bit:∀ i (h:i < ws.length) j,j < 64->ws[i].testBit j=l.getD (64*i+j) false
inductive VecS where
 | none | bits (l:List Bool) | small (l:List Int) | ints (l:List Int) | floats (l:List Nat) | chars (l:List Int) | boxes (s:Value)
def VecS.kind:VecS->Nat
 | .none=>0 | .bits _=>1 | .small _=>2 | .ints _=>3 | .floats _=>4 | .chars _=>5 | .boxes _=>6
def VR (w:World) (v:Value):VecS->Prop
 | .none=>v=vecV 0 vnil 0 vnil vnil vnil vnil vnil
 | .bits l=>∃ b ws,v=vecV 1 b l.length vnil vnil vnil vnil vnil/\Reads1 w b (ws.map fun x:Nat => .int .u64 x)/\BitsOf ws l
 | .small l=>∃ s,v=vecV 2 vnil 0 s vnil vnil vnil vnil/\Reads1 w s (l.map (.int .i8))/\∀ n∈l,-128<=n/\n<=127
 | .ints l=>∃ s,v=vecV 3 vnil 0 vnil s vnil vnil vnil/\Reads1 w s (l.map (.int .i64))/\∀ n∈l,-9007199254740992<=n/\n<=9007199254740992
 | .floats l=>∃ s,v=vecV 4 vnil 0 vnil vnil s vnil vnil/\Reads1 w s (l.map (.float .f64))
 | .chars l=>∃ s,v=vecV 5 vnil 0 vnil vnil vnil s vnil/\Reads1 w s (l.map (.int .i32))
 | .boxes s=>v=vecV 6 vnil 0 vnil vnil vnil vnil s
theorem VR.below {w w':World}{v:Value}{x:VecS} (h:VR w v x) (hb:Below w.heap.size w w'):VR w' v x:=by
 cases x with
 | none=>exact h
 | bits l=>obtain ⟨b,ws,e,h1,h2⟩:=h;exact ⟨b,ws,e,h1.below hb,h2⟩
 | small l=>obtain ⟨s,e,h1,h2⟩:=h;exact ⟨s,e,h1.below hb,h2⟩
 | ints l=>obtain ⟨s,e,h1,h2⟩:=h;exact ⟨s,e,h1.below hb,h2⟩
 | floats l=>obtain ⟨s,e,h1⟩:=h;exact ⟨s,e,h1.below hb⟩
 | chars l=>obtain ⟨s,e,h1⟩:=h;exact ⟨s,e,h1.below hb⟩
 | boxes s=>exact h
end Go.Proofs.YtbakjaliponbbaaGreatDoor
