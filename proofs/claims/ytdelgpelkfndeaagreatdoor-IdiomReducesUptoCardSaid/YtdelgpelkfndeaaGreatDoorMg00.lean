/- Plain laws of 64-bit floats: a finite float is a sign and a whole number of least units (2^-1074); what order, product with 2, half, conversion to and from .. Conditions: as each theorem says. -/
import Derived.Test.YtdelgpelkfndeaaGreatDoorMgA
import Derived.Laws.FloatArith
import Derived.Test.YtdelgpelkfndeaaGreatDoorProg
import Derived.WalkKit
import Derived.WalkLawsBesides
import Derived.Lib.Hide
import Derived.Outline
set_option maxHeartbeats 400000
namespace Go.Proofs.YtdelgpelkfndeaaGreatDoor.Fl
open Ieee Go
theorem Qa7 {m:Nat} (j:Nat) (h:m≠0):(m*2^j).log2=m.log2+j:=by
 have hm:m*2^j≠0:=Nat.mul_ne_zero h (by have:=Nat.two_pow_pos j;omega)
 rw [Nat.log2_eq_iff hm]
 have h1:=Nat.log2_self_le h
 have h2:=@Nat.lt_log2_self m
 constructor
 ·rw [Nat.pow_add];exact Nat.mul_le_mul_right _ h1
 ·rw [show m.log2+j+1=(m.log2+1)+j by omega,Nat.pow_add]
  exact Nat.mul_lt_mul_of_pos_right h2 (Nat.two_pow_pos j)
def rhe (n d:Nat):Nat:=n / 2^d+(decide (2^d < 2*(n % 2^d))||(2^d==2*(n % 2^d)&&(n / 2^d) % 2==1)).toNat
theorem Qoj (neg:Bool) (n d:Nat):Toward.even.cut neg n d=rhe n d:=by
 unfold Toward.cut rhe
 rcases Nat.le_total d (n.log2+2) with h | h
 ·simp only [Nat.min_eq_left h,Nat.one_shiftLeft]
 ·simp only [Nat.min_eq_right h,Nat.one_shiftLeft]
  have h2:=@Nat.lt_log2_self n
  have h3:2*2^(n.log2+1)=2^(n.log2+2):=by rw [Nat.pow_succ _ (n.log2+1)];omega
  have h4:2^(n.log2+2)<=2^d:=Nat.pow_le_pow_right (by omega) h
  have e1:n / 2^(n.log2+2)=0:=Nat.div_eq_of_lt (by omega)
  have e2:n % 2^(n.log2+2)=n:=Nat.mod_eq_of_lt (by omega)
  have e3:n / 2^d=0:=Nat.div_eq_of_lt (by omega)
  have e4:n % 2^d=n:=Nat.mod_eq_of_lt (by omega)
  rw [e1,e2,e3,e4]
  have a1:decide (2^(n.log2+2) < 2*n)=false:=by simp;omega
  have a2:decide (2^d < 2*n)=false:=by simp;omega
  have a3:(2^(n.log2+2)==2*n)=false:=by simp;omega
  have a4:(2^d==2*n)=false:=by simp;omega
  simp [a1,a2,a3,a4]
theorem Qok (neg:Bool) (n d:Nat):Toward.zero.cut neg n d=n / 2^d:=by
 unfold Toward.cut
 rcases Nat.le_total d (n.log2+2) with h | h
 ·simp only [Nat.min_eq_left h,Nat.one_shiftLeft];rfl
 ·simp only [Nat.min_eq_right h,Nat.one_shiftLeft]
  have h2:=@Nat.lt_log2_self n
  have h3:2*2^(n.log2+1)=2^(n.log2+2):=by rw [Nat.pow_succ _ (n.log2+1)];omega
  have h4:2^(n.log2+2)<=2^d:=Nat.pow_le_pow_right (by omega) h
  have e1:n / 2^(n.log2+2)=0:=Nat.div_eq_of_lt (by omega)
  have e3:n / 2^d=0:=Nat.div_eq_of_lt (by omega)
  rw [e1,e3];rfl
theorem Qiq (n d j:Nat):rhe (n*2^j) (d+j)=rhe n d:=by
 unfold rhe
 have hj:=Nat.two_pow_pos j
 have e1:n*2^j / 2^(d+j)=n / 2^d:=by rw [Nat.pow_add,Nat.mul_div_mul_right _ _ hj]
 have e2:n*2^j % 2^(d+j)=n % 2^d*2^j:=by rw [Nat.pow_add,Nat.mul_mod_mul_right]
 rw [e1,e2]
 have e3:decide (2^(d+j) < 2*(n % 2^d*2^j))=decide (2^d < 2*(n % 2^d)):=by
  rw [decide_eq_decide,Nat.pow_add,<- Nat.mul_assoc];exact Nat.mul_lt_mul_right hj
 have e4:(2^(d+j)==2*(n % 2^d*2^j))=(2^d==2*(n % 2^d)):=by
  rw [Bool.eq_iff_iff,beq_iff_eq,beq_iff_eq,Nat.pow_add,<- Nat.mul_assoc]
  exact ⟨fun h=>Nat.eq_of_mul_eq_mul_right hj h,fun h=>congrArg (·*2^j) h⟩
 rw [e3,e4]
theorem QlC (n x y x' y':Nat) (h:x+y'=x'+y):rhe (n*2^x) y=rhe (n*2^x') y':=by
 rw [<- Qiq (n*2^x) y y',<- Qiq (n*2^x') y' y,Nat.mul_assoc,Nat.mul_assoc,<- Nat.pow_add,<- Nat.pow_add,h,Nat.add_comm y y']
theorem Qhc (n d:Nat):rhe (n*2^d) d=n:=by
 have:=Qiq n 0 d
 rw [Nat.zero_add] at this
 rw [this];simp [rhe,Nat.mod_one]
theorem Qol (n:Nat):rhe n 0=n:=by simp [rhe,Nat.mod_one]
theorem leastPlace:double.leastPlace=-1074:=by decide
theorem fractionBits:double.fractionBits=52:=rfl
theorem binade:double.binade=4503599627370496:=by decide
theorem infRung:double.infRung=9218868437227405312:=by decide
theorem signWeight:double.signWeight=9223372036854775808:=by decide
theorem Qca (neg:Bool){m:Nat} (h:m≠0) (p:Int) :
  double.nearest neg m p=double.word neg (min ((max (p+m.log2 - 52) (-1074)+1074).toNat*4503599627370496
   + rhe (m*2^(p - max (p+m.log2 - 52) (-1074)).toNat) (max (p+m.log2 - 52) (-1074) - p).toNat) 9218868437227405312):=by
 unfold Format.nearest
 simp only [h,if_false,fractionBits,leastPlace,binade,infRung,Qoj,Nat.shiftLeft_eq,Int.sub_neg]
 rfl
theorem Qbb (neg:Bool) (m j:Nat) (p:Int):double.nearest neg (m*2^j) p=double.nearest neg m (p+j):=by
 by_cases h:m=0
 ·subst h;simp [Format.nearest]
 have hm:m*2^j≠0:=Nat.mul_ne_zero h (by have:=Nat.two_pow_pos j;omega)
 rw [Qca neg hm,Qca neg h,Qa7 j h]
 have e:max (p+((m.log2+j:Nat):Int) - 52) (-1074)=max (p+j+m.log2 - 52) (-1074):=by congr 1;omega
 rw [e]
 generalize max (p+j+m.log2 - 52) (-1074)=L
 congr 2
 rw [Nat.mul_assoc,<- Nat.pow_add]
 congr 1
 apply QlC
 omega
def rung (Z:Nat):Nat:=if Z < 2^53 then Z else (Z.log2 - 52)*2^52+Z / 2^(Z.log2 - 52)
def Rep (Z:Nat):Prop:=Z.log2<=2097/\∃ m k,m < 2^53/\Z=m*2^k
theorem QbP {Z k:Nat} (h:Z < 2^(k+1)):Z.log2<=k:=by
 by_cases hz:Z=0
 ·subst hz;simp
 have:=Nat.log2_self_le hz
 have h3:2^Z.log2 < 2^(k+1):=by omega
 have:=(Nat.pow_lt_pow_iff_right (a:=2) (by omega)).1 h3
 omega
theorem QcR {Z k:Nat} (h:2^k<=Z):k<=Z.log2:=by
 have h2:=@Nat.lt_log2_self Z
 have h3:2^k < 2^(Z.log2+1):=by omega
 have:=(Nat.pow_lt_pow_iff_right (a:=2) (by omega)).1 h3
 omega
theorem Rep.dvd {Z:Nat} (h:Rep Z):∃ q,q < 2^53/\Z=q*2^(Z.log2 - 52):=by
 obtain ⟨_,m,k,hm,e⟩:=h
 by_cases hz:Z=0
 ·exact ⟨0,by omega,by omega⟩
 have hm0:m≠0:=by rintro rfl;simp at e;exact hz e
 have hl:Z.log2=m.log2+k:=by rw [e];exact Qa7 k hm0
 have hml:m.log2<=52:=QbP hm
 have hk:Z.log2 - 52<=k:=by omega
 refine ⟨m*2^(k - (Z.log2 - 52)),?_,?_⟩
 ·have h1:m*2^(k - (Z.log2 - 52))*2^(Z.log2 - 52)=Z:=by
   rw [Nat.mul_assoc,<- Nat.pow_add,Nat.sub_add_cancel hk,<- e]
  by_cases h52:Z.log2<=52
  ·have:Z.log2 - 52=0:=by omega
   rw [this] at h1;simp only [Nat.pow_zero,Nat.mul_one] at h1
   rw [this]
   have h2:=@Nat.lt_log2_self Z
   have:2^(Z.log2+1)<=2^53:=Nat.pow_le_pow_right (by omega) (by omega)
   rw [h1];omega
  ·have h2:=@Nat.lt_log2_self Z
   have h3:2^(Z.log2+1)=2^53*2^(Z.log2 - 52):=by rw [<- Nat.pow_add];congr 1;omega
   generalize Z.log2 - 52=l at *
   rw [h3] at h2
   generalize m*2^(k - l)=q at *
   rw [<- h1] at h2
   exact Nat.lt_of_mul_lt_mul_right h2
 ·rw [Nat.mul_assoc,<- Nat.pow_add,Nat.sub_add_cancel hk,<- e]
theorem Qgv {Z:Nat} (h:Rep Z):rung Z < 9218868437227405312:=by
 unfold rung
 split
 ·omega
 ·have hl:=h.1
  obtain ⟨q,hq,e⟩:=h.dvd
  have:Z / 2^(Z.log2 - 52)=q:=by
   conv=>lhs;rw [e]
   rw [show (q*2 ^ (Z.log2 - 52)).log2=Z.log2 by rw [<- e]]
   exact Nat.mul_div_cancel _ (Nat.two_pow_pos _)
  rw [this];omega
theorem Qir (neg:Bool){Z:Nat} (h:Rep Z):double.nearest neg Z (-1074)=double.word neg (rung Z):=by
 by_cases hz:Z=0
 ·subst hz;simp [Format.nearest,rung]
 rw [Qca neg hz]
 have hl:=Qgv h
 have hr:(max (-1074+(Z.log2:Int) - 52) (-1074)+1074).toNat*4503599627370496
   + rhe (Z*2^(-1074 - max (-1074+(Z.log2:Int) - 52) (-1074)).toNat) (max (-1074+(Z.log2:Int) - 52) (-1074) - -1074).toNat=rung Z:=by
  obtain ⟨q,hq,e⟩:=h.dvd
  by_cases h53:Z < 2^53
  ·have hl2:Z.log2<=52:=QbP h53
   have e1:max (-1074+(Z.log2:Int) - 52) (-1074)=-1074:=by omega
   rw [e1]
   simp [rung,h53,Qol]
  ·have hl2:53<=Z.log2:=QcR (by omega)
   have e1:max (-1074+(Z.log2:Int) - 52) (-1074)=-1074+((Z.log2 - 52:Nat):Int):=by omega
   rw [e1]
   have e2:(-1074+((Z.log2 - 52:Nat):Int)+1074).toNat=Z.log2 - 52:=by omega
   have e3:(-1074 - (-1074+((Z.log2 - 52:Nat):Int))).toNat=0:=by omega
   have e4:(-1074+((Z.log2 - 52:Nat):Int) - -1074).toNat=Z.log2 - 52:=by omega
   rw [e2,e3,e4]
   simp only [rung,h53,if_false,Nat.pow_zero,Nat.mul_one]
   have e5:rhe Z (Z.log2 - 52)=q:=by
    generalize hk:Z.log2 - 52=k at *
    rw [e];exact Qhc q k
   have e6:Z / 2^(Z.log2 - 52)=q:=by
    generalize hk:Z.log2 - 52=k at *
    rw [e];exact Nat.mul_div_cancel _ (Nat.two_pow_pos _)
   rw [e5,e6]
 rw [hr,Nat.min_eq_left (by omega)]
def mg (r:Nat):Nat:=if r < 2^52 then r else 2^52+r % 2^52
def ex (r:Nat):Nat:=if r < 2^52 then 0 else r / 2^52 - 1
def mag (r:Nat):Nat:=mg r*2^(ex r)
theorem QqD (r:Nat):mg r < 2^53:=by
 unfold mg;split
 ·omega
 ·have:=Nat.mod_lt r (show 2^52 > 0 by omega);omega
theorem QtL {r:Nat} (h:r < 9218868437227405312):ex r<=2045:=by
 unfold ex;split
 ·omega
 ·omega
theorem QeQ (neg:Bool){r:Nat} (h:r < 9218868437227405312) :
  double.read (double.word neg r)= .number neg (mg r) (-1074+ex r):=by
 have e1:double.word neg r / 9223372036854775808 % 2=neg.toNat:=by
  unfold Format.word;rw [signWeight];cases neg <;> simp <;> omega
 have e2:double.word neg r % 9223372036854775808=r:=by
  unfold Format.word;rw [signWeight];cases neg <;> simp <;> omega
 unfold Format.read
 simp only [signWeight,binade,infRung,leastPlace,e1,e2,h,if_true]
 have e3:(neg.toNat==1)=neg:=by cases neg <;> rfl
 rw [e3]
 unfold mg ex
 by_cases hr:r < 4503599627370496
 ·simp [hr]
 ·simp [hr]
theorem QlD {r:Nat} (h:r < 9218868437227405312):Rep (mag r):=by
 refine ⟨?_,mg r,ex r,QqD r,rfl⟩
 have h1:=QqD r
 have h2:=QtL h
 by_cases h0:mg r=0
 ·simp [mag,h0]
 have:(mag r).log2=(mg r).log2+ex r:=Qa7 _ h0
 have h3:(mg r).log2<=52:=QbP h1
 omega
theorem Qom (r:Nat):rung (mag r)=r:=by
 unfold mag
 by_cases hr:r < 2^52
 ·have:mg r*2^(ex r)=r:=by simp [mg,ex,hr]
  rw [this];unfold rung;rw [if_pos (by omega)]
 ·have hm:mg r=2^52+r % 2^52:=by simp [mg,hr]
  have he:ex r=r / 2^52 - 1:=by simp [ex,hr]
  have hmod:=Nat.mod_lt r (show 2^52 > 0 by omega)
  have hml:(mg r).log2=52:=by
   rw [Nat.log2_eq_iff (by omega)];omega
  have hl:(mg r*2^(ex r)).log2=52+ex r:=by rw [Qa7 _ (by omega),hml]
  unfold rung
  rw [hl,Nat.add_sub_cancel_left,Nat.mul_div_cancel _ (Nat.two_pow_pos _)]
  split
  ·rename_i h53
   have:ex r=0:=by
    have:=QbP (k:=52) h53
    omega
   rw [this];omega
  ·omega
theorem Qon {Z:Nat} (h:Rep Z):mag (rung Z)=Z:=by
 obtain ⟨q,hq,e⟩:=h.dvd
 unfold rung
 by_cases h53:Z < 2^53
 ·rw [if_pos h53]
  unfold mag mg ex
  by_cases h52:Z < 2^52
  ·simp [h52]
  ·simp only [h52,if_false]
   have:Z / 2^52 - 1=0:=by omega
   rw [this];omega
 ·rw [if_neg h53]
  have hl2:53<=Z.log2:=QcR (by omega)
  have hz:Z≠0:=by omega
  have hll:=Nat.log2_self_le hz
  generalize hk:Z.log2 - 52=k at *
  have hzl:Z.log2=k+52:=by omega
  have e6:Z / 2^k=q:=by rw [e];exact Nat.mul_div_cancel _ (Nat.two_pow_pos _)
  have hq2:2^52<=q:=by
   rw [hzl,e,Nat.pow_add,Nat.mul_comm] at hll
   exact Nat.le_of_mul_le_mul_right hll (Nat.two_pow_pos k)
  rw [e6]
  have h1:¬ (k*2^52+q < 2^52):=by omega
  unfold mag mg ex
  simp only [h1,if_false]
  have h2:(k*2^52+q) % 2^52=q - 2^52:=by omega
  have h3:(k*2^52+q) / 2^52 - 1=k:=by omega
  rw [h2,h3,show 2^52+(q - 2^52)=q by omega]
  exact e.symm
def K:Nat:=1074
def W (s:Bool) (Z:Nat):Nat:=double.word s (rung Z)
def infw (s:Bool):Nat:=double.word s 9218868437227405312
def sg (s:Bool) (Z:Nat):Int:=if s then -(Z:Int) else Z
theorem QsN (s:Bool) (r:Nat):W s (mag r)=double.word s r:=by unfold W;rw [Qom]
theorem QbS (s:Bool){Z:Nat} (h:Rep Z):double.read (W s Z)= .number s (mg (rung Z)) (-1074+ex (rung Z)):=QeQ s (Qgv h)
theorem Qhd {Z:Nat} (h:Rep Z):mg (rung Z)*2^(ex (rung Z))=Z:=Qon h
theorem QeR (s:Bool){Z:Nat} (h:Rep Z):double.nearest s Z (-1074)=W s Z:=Qir s h
theorem Rep.of_log {m k:Nat} (h:m < 2^53) (hl:(m*2^k).log2<=2097):Rep (m*2^k):=⟨hl,m,k,h,rfl⟩
theorem QbD:Rep 0:=⟨by simp,0,0,by omega,rfl⟩
theorem QtM (s t:Bool){Z Y:Nat} (hz:Rep Z) (hy:Rep Y) :
  double.mul (W s Z) (W t Y)=some (double.nearest (s ^^ t) (mg (rung Z)*mg (rung Y)) (-1074+ex (rung Z)+(-1074+ex (rung Y)))):=by
 simp [Format.mul,QbS s hz,QbS t hy,Datum.product,Format.write]
def two:Nat:=4611686018427387904
def hlf (Z:Nat):Nat:=rhe Z 1
theorem QcS (s:Bool) (m k:Nat):Ieee.signed s m k=sg s (m*2^k):=by
 unfold signed sg;simp only [Nat.shiftLeft_eq]
theorem Qdp (s:Bool) (Z n:Nat):sg s (Z*n)=sg s Z*n:=by
 unfold sg;split <;> simp [Int.neg_mul]
theorem QbL {a b:Int} (h:a < b):compare a b= .lt:=by simp [compare,compareOfLessAndEq,h]
theorem Qb0 (a:Int):compare a a= .eq:=by simp [compare,compareOfLessAndEq]
theorem QbH {a b:Int} (h:b < a):compare a b= .gt:=by
 have h1:¬ a < b:=by omega
 have h2:¬ a=b:=by omega
 simp [compare,compareOfLessAndEq,h1,h2]
theorem Qda (a b:Int) (n:Nat) (h:0 < n):compare (a*n) (b*n)=compare a b:=by
 have hn:(0:Int) < n:=by omega
 rcases Int.lt_trichotomy a b with h1 | h1 | h1
 ·rw [QbL h1,QbL (Int.mul_lt_mul_of_pos_right h1 hn)]
 ·subst h1;rw [Qb0,Qb0]
 ·rw [QbH h1,QbH (Int.mul_lt_mul_of_pos_right h1 hn)]
theorem Qbn (s t:Bool){Z Y:Nat} (hz:Rep Z) (hy:Rep Y):double.order (W s Z) (W t Y)=some (compare (sg s Z) (sg t Y)):=by
 simp only [Format.order,QbS s hz,QbS t hy,Datum.order,QcS]
 congr 1
 have h1:=Qhd hz
 have h2:=Qhd hy
 generalize ex (rung Z)=i at *
 generalize ex (rung Y)=j at *
 generalize mg (rung Z)=m at *
 generalize mg (rung Y)=n at *
 subst h1;subst h2
 rcases Nat.le_total i j with h | h
 ·rw [<- Qda _ _ (2^i) (Nat.two_pow_pos _),<- Qdp,<- Qdp,Nat.mul_assoc,Nat.mul_assoc,<- Nat.pow_add,<- Nat.pow_add]
  congr 4 <;> omega
 ·rw [<- Qda _ _ (2^j) (Nat.two_pow_pos _),<- Qdp,<- Qdp,Nat.mul_assoc,Nat.mul_assoc,<- Nat.pow_add,<- Nat.pow_add]
  congr 4 <;> omega
theorem Qdb {n:Nat} (j:Nat) (h:n<=2^53) (hj:j<=2000):Rep (n*2^j):=by
 by_cases h0:n=0
 ·subst h0;simpa using QbD
 by_cases h53:n=2^53
 ·subst h53
  refine ⟨?_,1,53+j,by decide,by rw [Nat.one_mul,Nat.pow_add]⟩
  rw [Qa7 j h0]
  have:(2^53:Nat).log2=53:=by decide
  omega
 ·refine Rep.of_log (by omega) ?_
  rw [Qa7 j h0]
  have:n.log2<=52:=QbP (by omega)
  omega
theorem ofInt (n:Int) (h:n.natAbs<=2^53):floatOfInt .f64 n=W (decide (n < 0)) (n.natAbs*2^K):=by
 rw [<- QeR _ (Qdb K h (by unfold K;omega)),Qbb]
 rfl
theorem QqE (s:Bool){Z:Nat} (hz:Rep Z):(double.read (W s Z)).toInt .zero=some (sg s (Z / 2^K)):=by
 rw [QbS s hz]
 have h1:=Qhd hz
 generalize ex (rung Z)=i at *
 generalize mg (rung Z)=m at *
 subst h1
 simp only [Datum.toInt,Datum.integral,Qok,Nat.shiftLeft_eq,QcS,Nat.pow_zero,Nat.mul_one]
 congr 2
 rcases Nat.le_total K i with h | h
 ·have e1:(-1074+(i:Int)).toNat=i - K:=by unfold K at *;omega
  have e2:(-(-1074+(i:Int))).toNat=0:=by unfold K at *;omega
  rw [e1,e2]
  have e3:m*2^i=m*2^(i - K)*2^K:=by rw [Nat.mul_assoc,<- Nat.pow_add,Nat.sub_add_cancel h]
  rw [e3,Nat.mul_div_cancel _ (Nat.two_pow_pos _)];simp
 ·have e1:(-1074+(i:Int)).toNat=0:=by unfold K at *;omega
  have e2:(-(-1074+(i:Int))).toNat=K - i:=by unfold K at *;omega
  rw [e1,e2]
  have e3:(2:Nat)^K=2^(K - i)*2^i:=by rw [<- Nat.pow_add,Nat.sub_add_cancel h]
  rw [e3,Nat.mul_div_mul_right _ _ (Nat.two_pow_pos _)];simp
theorem QlE (s:Bool){Z:Nat} (hz:Rep Z) (h:Z / 2^K < 9223372036854775808):floatToIntVal .f64 (W s Z) .i64=some (sg s (Z / 2^K)):=by
 unfold floatToIntVal
 have:(FloatKind.f64.decode (W s Z)).toInt .zero=some (sg s (Z / 2^K)):=QqE s hz
 rw [this]
 simp only
 rw [if_pos]
 have e1:IntKind.i64.min=-9223372036854775808:=by decide
 have e2:IntKind.i64.max=9223372036854775807:=by decide
 rw [e1,e2]
 generalize Z / 2^K=q at *
 unfold sg;split <;> omega
theorem QqF (b:Nat) (h:b < 18446744073709551616):∃ s r,r < 9223372036854775808/\b=double.word s r:=by
 by_cases hb:b < 9223372036854775808
 ·exact ⟨false,b,hb,rfl⟩
 ·refine ⟨true,b - 9223372036854775808,by omega,?_⟩
  unfold Format.word;rw [signWeight];simp;omega
theorem Qex (s:Bool):double.read (infw s)= .infinity s:=by cases s <;> decide
theorem Qoo (s:Bool){r:Nat} (h:9218868437227405312 < r) (h2:r < 9223372036854775808):(double.read (double.word s r)).isNaN=true:=by
 have e2:double.word s r % 9223372036854775808=r:=by
  unfold Format.word;rw [signWeight];cases s <;> simp <;> omega
 unfold Format.read
 simp only [signWeight,binade,infRung,e2]
 rw [if_neg (by omega),if_neg (by omega),if_neg (by omega)]
 rfl
theorem classify (b:Nat) (h:b < 18446744073709551616) :
  (∃ s Z,Rep Z/\b=W s Z)\/(∃ s,b=infw s)\/(double.read b).isNaN=true:=by
 obtain ⟨s,r,hr,rfl⟩:=QqF b h
 rcases Nat.lt_trichotomy r 9218868437227405312 with h1 | h1 | h1
 ·exact .inl ⟨s,mag r,QlD h1,(QsN s r).symm⟩
 ·subst h1;exact .inr (.inl ⟨s,rfl⟩)
 ·exact .inr (.inr (Qoo s h1 hr))
theorem QlF {a b:Nat} (h:(double.read a).isNaN=true):double.order a b=none:=by
 unfold Format.order
 cases h1:double.read a with
 | nan s f=>rfl
 | number s m e=>rw [h1] at h;cases h
 | infinity s=>rw [h1] at h;cases h
theorem QlG (s t:Bool){Z:Nat} (hz:Rep Z):double.order (infw s) (W t Z)=some (if s then .lt else .gt):=by
 simp only [Format.order,Qex,QbS t hz,Datum.order]
theorem W_lt (s:Bool){Z:Nat} (hz:Rep Z):W s Z < 18446744073709551616:=by
 have:=Qgv hz
 unfold W Format.word;rw [signWeight];cases s <;> simp <;> omega
def K2:Nat:=2045
def Top:Nat:=(2^53 - 1)*2^K2
theorem Qbw:Rep Top:=by
 refine Rep.of_log (by decide) ?_
 rw [Qa7 _ (by decide)]
 have:(2^53 - 1:Nat).log2=52:=by decide
 unfold K2;omega
theorem QsO {Z:Nat} (h:Rep Z):Z<=Top:=by
 obtain ⟨q,hq,e⟩:=h.dvd
 have h1:Z.log2 - 52<=K2:=by have:=h.1;unfold K2;omega
 rw [e]
 exact Nat.mul_le_mul (by omega) (Nat.pow_le_pow_right (by omega) h1)
theorem Qko:W false Top=9218868437227405311:=by decide+kernel
theorem Qhe:W true Top=18442240474082181119:=by decide+kernel
theorem W_zero:W false 0=0:=by decide
end Go.Proofs.YtdelgpelkfndeaaGreatDoor.Fl
namespace Go.Proofs.YtdelgpelkfndeaaGreatDoor
open Go Go.RowKit Go.Proofs Fl
theorem QqG (s t:Bool){Z Y:Nat} (hz:Rep Z) (hy:Rep Y):(FloatKind.f64.format.order (W s Z) (W t Y)==some .gt)=decide (sg t Y < sg s Z):=by
 have h:FloatKind.f64.format.order (W s Z) (W t Y)=some (compare (sg s Z) (sg t Y)):=Qbn s t hz hy
 rw [h]
 rcases Int.lt_trichotomy (sg s Z) (sg t Y) with h1 | h1 | h1
 ·rw [QbL h1,decide_eq_false (by omega)];rfl
 ·rw [h1,Qb0,decide_eq_false (by omega)];rfl
 ·rw [QbH h1,decide_eq_true h1];rfl
theorem QqH (s t:Bool){Z Y:Nat} (hz:Rep Z) (hy:Rep Y):(FloatKind.f64.format.order (W s Z) (W t Y)==some .lt)=decide (sg s Z < sg t Y):=by
 have h:FloatKind.f64.format.order (W s Z) (W t Y)=some (compare (sg s Z) (sg t Y)):=Qbn s t hz hy
 rw [h]
 rcases Int.lt_trichotomy (sg s Z) (sg t Y) with h1 | h1 | h1
 ·rw [QbL h1,decide_eq_true h1];rfl
 ·rw [h1,Qb0,decide_eq_false (by omega)];rfl
 ·rw [QbH h1,decide_eq_false (by omega)];rfl
theorem QdW (s t:Bool){Z Y:Nat} (hz:Rep Z) (hy:Rep Y):(FloatKind.f64.format.order (W s Z) (W t Y)==some .eq)=decide (sg s Z=sg t Y):=by
 have h:FloatKind.f64.format.order (W s Z) (W t Y)=some (compare (sg s Z) (sg t Y)):=Qbn s t hz hy
 rw [h]
 rcases Int.lt_trichotomy (sg s Z) (sg t Y) with h1 | h1 | h1
 ·rw [QbL h1,decide_eq_false (by omega)];rfl
 ·rw [h1,Qb0,decide_eq_true rfl];rfl
 ·rw [QbH h1,decide_eq_false (by omega)];rfl
theorem QtN (s t:Bool){Z Y:Nat} (hz:Rep Z) (hy:Rep Y):(FloatKind.f64.format.order (W s Z) (W t Y) != some .eq) = !decide (sg s Z=sg t Y):=by
 rw [bne,QdW s t hz hy]
theorem Qhf (s t:Bool){Z:Nat} (hz:Rep Z):FloatKind.f64.format.order (infw s) (W t Z)=some (if s then .lt else .gt):=QlG s t hz
theorem QlH {a:Nat} (b:Nat) (h:(Ieee.double.read a).isNaN=true):FloatKind.f64.format.order a b=none:=QlF h
theorem Qhg (s:Bool):FloatKind.f64.format.order (infw s) (infw s)=some .eq:=by
 have:FloatKind.f64.format.order (infw s) (infw s)=Ieee.double.order (infw s) (infw s):=rfl
 rw [this,Ieee.Format.order,Qex];cases s <;> rfl
theorem Qhh (s:Bool){Z:Nat} (hz:Rep Z):-(Top:Int)<=sg s Z/\sg s Z<=Top:=by
 have:=QsO hz
 unfold sg;split <;> omega
theorem Qdc (Z:Nat):sg true Z=-(Z:Int):=rfl
theorem Qcp (Z:Nat):sg false Z=(Z:Int):=rfl
theorem Qbx (s:Bool):sg s 0=0:=by cases s <;> rfl
theorem sg_eq_zero {s:Bool}{Z:Nat}:sg s Z=0↔Z=0:=by unfold sg;split <;> omega
theorem QlI:0 < Top:=Nat.mul_pos (by decide) (Nat.two_pow_pos _)
theorem QcT (s:Bool){Z:Nat} (hz:Rep Z) (w:World) :
  Calls Tryz.prog 81 #[.float .f64 (W s Z)] w fun e w'=>e= .returned (.bool true)/\w=w':=by
 have hb:=Qhh s hz
 have h1:=QqG s true hz Qbw
 have h2:=QdW s true hz Qbw
 have h3:=QqH s false hz Qbw
 have h4:=QdW s false hz Qbw
 rw [Qhe,Qdc] at h1 h2
 rw [Qko,Qcp] at h3 h4
 have a1:(FloatKind.f64.format.order (W s Z) 18442240474082181119==some .gt||FloatKind.f64.format.order (W s Z) 18442240474082181119==some .eq)=true:=by
  rw [h1,h2];simp;omega
 have a2:(FloatKind.f64.format.order (W s Z) 9218868437227405311==some .lt||FloatKind.f64.format.order (W s Z) 9218868437227405311==some .eq)=true:=by
  rw [h3,h4];simp;omega
 clear h1 h2 h3 h4 hb hz
 go_enter Tryz.func81,Tryz.ntmps81
 go_wp2
 all_goals go_ret
 all_goals exact ⟨by first | rfl | simp_all,rfl⟩
theorem QdX (s:Bool) (w:World) :
  Calls Tryz.prog 81 #[.float .f64 (infw s)] w fun e w'=>e= .returned (.bool false)/\w=w':=by
 have h1:=Qhf s true Qbw
 have h2:=Qhf s false Qbw
 rw [Qhe] at h1
 rw [Qko] at h2
 cases s
 all_goals
  simp only [if_true,if_false,Bool.false_eq_true] at h1 h2
  go_enter Tryz.func81,Tryz.ntmps81
  go_wp2
  all_goals go_ret
  all_goals exact ⟨by first | rfl | simp_all,rfl⟩
theorem QfU {b:Nat} (h:(Ieee.double.read b).isNaN=true) (w:World) :
  Calls Tryz.prog 81 #[.float .f64 b] w fun e w'=>e= .returned (.bool false)/\w=w':=by
 have h1:=QlH 18442240474082181119 h
 have h2:=QlH 9218868437227405311 h
 clear h
 go_enter Tryz.func81,Tryz.ntmps81
 go_wp2
 all_goals go_ret
 all_goals exact ⟨by first | rfl | simp_all,rfl⟩
def tid (s:Bool) (Z:Nat):Nat:=if Z=0 then 0 else W s Z
theorem QeS (s:Bool){Z:Nat} (hz:Rep Z) (w:World) :
  Calls Tryz.prog 42 #[.float .f64 (W s Z)] w fun e w'=>e= .returned (.tuple #[.float .f64 (tid s Z),.bool true])/\w=w':=by
 have h1:=QdW s false hz QbD
 rw [W_zero,Qbx] at h1
 by_cases h0:Z=0
 ·subst h0
  simp [Qbx] at h1
  go_enter Tryz.func42,Tryz.ntmps42
  go_wp2_with (go_at_call 81;refine (QcT s hz _).mono ?_;rintro e w' ⟨rfl,rfl⟩)
  go_ret2
  exact ⟨rfl,rfl⟩
 ·have HT:Hid (tid s Z=W s Z):=if_neg h0
  rw [decide_eq_false (by rw [sg_eq_zero];exact h0)] at h1
  have h1':=beq_eq_false_iff_ne.1 h1
  go_enter Tryz.func42,Tryz.ntmps42
  go_wp2_with (go_at_call 81;refine (QcT s hz _).mono ?_;rintro e w' ⟨rfl,rfl⟩)
  go_ret2
  exact ⟨by rw [HT.out];rfl,rfl⟩
theorem Qhi {b:Nat} (h:(∃ s,b=infw s)\/(Ieee.double.read b).isNaN=true) (w:World) :
  Calls Tryz.prog 42 #[.float .f64 b] w fun e w'=>e= .returned (.tuple #[.float .f64 0,.bool false])/\w=w':=by
 have hf:∀ w,Calls Tryz.prog 81 #[.float .f64 b] w fun e w'=>e= .returned (.bool false)/\w=w':=by
  intro w
  rcases h with ⟨s,rfl⟩ | h
  ·exact QdX s w
  ·exact QfU h w
 have HF:=hD hf
 clear hf h
 go_enter Tryz.func42,Tryz.ntmps42
 go_wp2_with (go_at_call 81;refine (HF.out _).mono ?_;rintro e w' ⟨rfl,rfl⟩)
 go_ret2
 exact ⟨rfl,rfl⟩
theorem QeT (s:Bool){Z:Nat} (hz:Rep Z) (w:World) :
  Calls Tryz.prog 172 #[.float .f64 (W s Z)] w fun e w'=>e= .returned (.tuple #[.float .f64 (tid s Z),.bool true])/\w=w':=by
 have hb:=Qhh s hz
 have h1:=QdW s false hz QbD
 have h2:=QtN s s hz hz
 have h3:=QqG s false hz Qbw
 have h4:=QqH s true hz Qbw
 rw [W_zero,Qbx] at h1
 rw [Qko,Qcp] at h3
 rw [Qhe,Qdc] at h4
 rw [decide_eq_true rfl] at h2
 rw [decide_eq_false (by omega)] at h3
 rw [decide_eq_false (by omega)] at h4
 simp only [Bool.not_true] at h2
 have h2':FloatKind.f64.format.order (W s Z) (W s Z)=some .eq:=by simpa using h2
 have h3':¬ FloatKind.f64.format.order (W s Z) 9218868437227405311=some .gt:=by simpa using h3
 have h4':¬ FloatKind.f64.format.order (W s Z) 18442240474082181119=some .lt:=by simpa using h4
 clear hb hz
 by_cases h0:Z=0
 ·subst h0
  simp [Qbx] at h1
  go_enter Tryz.func172,Tryz.ntmps172
  go_wp2
  go_ret2
  exact ⟨rfl,rfl⟩
 ·have HT:Hid (tid s Z=W s Z):=if_neg h0
  rw [decide_eq_false (by rw [sg_eq_zero];exact h0)] at h1
  have h1':=beq_eq_false_iff_ne.1 h1
  go_enter Tryz.func172,Tryz.ntmps172
  go_wp2
  go_ret2
  exact ⟨by rw [HT.out];rfl,rfl⟩
theorem QsP:W false (9007199254740992*2^K)=4845873199050653696:=by decide+kernel
theorem Qqf:W true (9007199254740992*2^K)=14069245235905429504:=by decide+kernel
theorem QdY:Rep (9007199254740992*2^K):=Qdb K (by decide) (by unfold K;omega)
def QeU (Z:Nat):Prop:=∃ m,m<=9007199254740992/\Z=m*2^K
theorem Qop:0 < 2^K:=Nat.two_pow_pos K
theorem QbT (s:Bool) (m:Nat):(sg s m).natAbs=m:=by unfold sg;split <;> omega
theorem Qkp (s:Bool) (m:Nat):(sg s m < 0)↔(s=true/\m≠0):=by
 unfold sg;cases s <;> simp <;> omega
theorem Qoq (s:Bool) (m:Nat) (h:m<=9007199254740992):floatOfInt .f64 (sg s m)=W (decide (sg s m < 0)) (m*2^K):=by
 have:=ofInt (sg s m) (by rw [QbT];exact h)
 rw [QbT] at this
 exact this
theorem QsQ (s:Bool) (m k:Nat):sg (decide (sg s m < 0)) (m*k)=sg s (m*k):=by
 by_cases h:m=0
 ·subst h;simp [Qbx]
 ·cases s
  ·have:decide (sg false m < 0)=false:=decide_eq_false (by rw [Qcp];omega)
   rw [this]
  ·have:decide (sg true m < 0)=true:=decide_eq_true (by rw [Qdc];omega)
   rw [this]
theorem QsR (s:Bool) (a b:Nat):sg s a=sg s b↔a=b:=by unfold sg;split <;> omega
theorem QeV {Z:Nat} (h:Z<=9007199254740992*2^K):Z / 2^K<=9007199254740992:=by
 have:=Nat.div_le_div_right (c:=2^K) h
 rwa [Nat.mul_div_cancel _ Qop] at this
structure WholeFacts (s:Bool) (Z:Nat):Prop where
 ge:(FloatKind.f64.format.order (W s Z) 14069245235905429504==some .gt||FloatKind.f64.format.order (W s Z) 14069245235905429504==some .eq)=true
 le:(FloatKind.f64.format.order (W s Z) 4845873199050653696==some .lt||FloatKind.f64.format.order (W s Z) 4845873199050653696==some .eq)=true
 conv:∀ w,(convert 60 2 (.float .f64 (W s Z))).run Tryz.prog w= .ok (.int .i64 (sg s (Z / 2^K))) w
 back:(FloatKind.f64.format.order (floatOfInt .f64 (sg s (Z / 2^K))) (W s Z)==some .eq)=decide (Z / 2^K*2^K=Z)
theorem QbU (s:Bool){Z:Nat} (hz:Rep Z) (h:Z<=9007199254740992*2^K):WholeFacts s Z:=by
 have hq:=QeV h
 have hr:=Qdb K hq (by unfold K;omega)
 refine ⟨?_,?_,?_,?_⟩
 ·rw [<- Qqf,QqG s true hz QdY,QdW s true hz QdY,Qdc]
  generalize 9007199254740992*2^K=T at *
  rw [<- Bool.decide_or,decide_eq_true_eq];unfold sg;split <;> omega
 ·rw [<- QsP,QqH s false hz QdY,QdW s false hz QdY,Qcp]
  generalize 9007199254740992*2^K=T at *
  rw [<- Bool.decide_or,decide_eq_true_eq];unfold sg;split <;> omega
 ·intro w
  exact run_convert_float_int (P:=Tryz.prog) w 60 2 .f64 .i64 (W s Z) _ (by kernel_rfl) Tryz.underlying2 (QlE s hz (by omega))
 ·rw [Qoq s _ hq,QdW _ s hr hz,QsQ,decide_eq_decide]
  exact QsR s _ _
theorem Qhj (s:Bool){Z:Nat} (hz:Rep Z) (h:¬ Z<=9007199254740992*2^K) :
  (s=true->(FloatKind.f64.format.order (W s Z) 14069245235905429504=some .lt)) /\
  (s=false->(FloatKind.f64.format.order (W s Z) 14069245235905429504=some .gt)/\(FloatKind.f64.format.order (W s Z) 4845873199050653696=some .gt)):=by
 have a1:FloatKind.f64.format.order (W s Z) 14069245235905429504=some (compare (sg s Z) (sg true (9007199254740992*2^K))):=by
  rw [<- Qqf];exact Qbn s true hz QdY
 have a2:FloatKind.f64.format.order (W s Z) 4845873199050653696=some (compare (sg s Z) (sg false (9007199254740992*2^K))):=by
  rw [<- QsP];exact Qbn s false hz QdY
 rw [a1,a2]
 refine ⟨?_,?_⟩
 ·rintro rfl;rw [QbL (by rw [Qdc,Qdc];omega)]
 ·rintro rfl;rw [QbH (by rw [Qdc,Qcp];omega),QbH (by rw [Qcp,Qcp];omega)];exact ⟨rfl,rfl⟩
theorem Qkq (s:Bool) (m:Nat) (hm:m<=9007199254740992) (w:World) :
  Calls Tryz.prog 235 #[.float .f64 (W s (m*2^K))] w fun e w'=>e= .returned (.tuple #[.int .i64 (sg s m),.bool true])/\w=w':=by
 have hz:Rep (m*2^K):=Qdb K hm (by unfold K;omega)
 obtain ⟨h1,h2,h3,h4⟩:=QbU s hz (Nat.mul_le_mul_right _ hm)
 rw [Nat.mul_div_cancel _ Qop] at h3 h4
 rw [decide_eq_true rfl] at h4
 generalize W s (m*2^K)=b at *
 have h1':=h1
 have h2':=h2
 simp only [Bool.or_eq_true,beq_iff_eq] at h1' h2'
 clear hz hm
 go_enter Tryz.func235,Tryz.ntmps235
 go_wp2
 go_ret2
 exact ⟨rfl,rfl⟩
theorem Qcb (s:Bool){Z:Nat} (hz:Rep Z) (h:¬ QeU Z) (w:World) :
  Calls Tryz.prog 235 #[.float .f64 (W s Z)] w fun e w'=>(∃ n,e= .returned (.tuple #[.int .i64 n,.bool false]))/\w=w':=by
 by_cases hle:Z<=9007199254740992*2^K
 ·obtain ⟨h1,h2,h3,h4⟩:=QbU s hz hle
  rw [decide_eq_false (fun e=>h ⟨Z / 2^K,QeV hle,e.symm⟩)] at h4
  generalize W s Z=b at *
  generalize sg s (Z / 2^K)=n at *
  have h1':=h1
  have h2':=h2
  simp only [Bool.or_eq_true,beq_iff_eq] at h1' h2'
  have h4':=beq_eq_false_iff_ne.1 h4
  clear hz h hle
  go_enter Tryz.func235,Tryz.ntmps235
  go_wp2
  go_ret2
  exact ⟨⟨n,rfl⟩,rfl⟩
 ·obtain ⟨h1,h2⟩:=Qhj s hz hle
  cases s
  ·obtain ⟨h2,h3⟩:=h2 rfl
   clear h1 hle h hz
   go_enter Tryz.func235,Tryz.ntmps235
   go_wp2
   go_ret2
   exact ⟨⟨0,rfl⟩,rfl⟩
  ·have h1:=h1 rfl
   clear h2 hle h hz
   go_enter Tryz.func235,Tryz.ntmps235
   go_wp2
   go_ret2
   exact ⟨⟨0,rfl⟩,rfl⟩
end Go.Proofs.YtdelgpelkfndeaaGreatDoor
namespace Go.Proofs.YtdelgpelkfndeaaGreatDoor.Fl
open Ieee Go
theorem QsS (s:Bool) (Z:Nat):sg (!s) Z=- sg s Z:=by unfold sg;cases s <;> simp
def QdZ (z:Bool) (T:Int):Nat:=double.nearest (if T=0 then z else decide (T < 0)) T.natAbs (-1074)
theorem Qdd (z:Bool) (t:Int) (d:Nat):double.nearest (if t=0 then z else decide (t < 0)) t.natAbs (-1074+d)=QdZ z (t*(2 ^ d:Nat)):=by
 have hp:(0:Int) < (2 ^ d:Nat):=by have:=Nat.two_pow_pos d;omega
 unfold QdZ
 have e1:(t*(2 ^ d:Nat)=0)=(t=0):=by
  rw [Int.mul_eq_zero];apply propext;constructor
  ·rintro (h | h)
   ·exact h
   ·exfalso;omega
  ·exact .inl
 have e2:decide (t*(2 ^ d:Nat) < 0)=decide (t < 0):=by
  rw [decide_eq_decide]
  constructor
  ·intro h
   rcases Int.lt_or_le t 0 with h2 | h2
   ·exact h2
   ·have:=Int.mul_nonneg h2 (Int.le_of_lt hp);omega
  ·intro h;exact Int.mul_neg_of_neg_of_pos h hp
 rw [Int.natAbs_mul,Int.natAbs_natCast,Qbb]
 simp only [e1,e2]
theorem QsT (s t:Bool){Z Y:Nat} (hz:Rep Z) (hy:Rep Y):double.add (W s Z) (W t Y)=some (QdZ (s&&t) (sg s Z+sg t Y)):=by
 simp only [Format.add,QbS s hz,QbS t hy,Datum.sum,Format.write,Option.map_some]
 have hz2:=Qhd hz
 have hy2:=Qhd hy
 generalize mg (rung Z)=m at *
 generalize mg (rung Y)=n at *
 generalize ex (rung Z)=i at *
 generalize ex (rung Y)=j at *
 rcases Nat.le_total i j with h | h
 ·have e0:min (-1074+(i:Int)) (-1074+(j:Int))=-1074+(i:Int):=by omega
  have e1:(-1074+(i:Int) - (-1074+(i:Int))).toNat=0:=by omega
  have e2:(-1074+(j:Int) - (-1074+(i:Int))).toNat=j - i:=by omega
  rw [e0,e1,e2,QcS,QcS,Qdd,Int.add_mul,<- Qdp,<- Qdp,Nat.mul_assoc,Nat.mul_assoc,<- Nat.pow_add,<- Nat.pow_add]
  have e3:0+i=i:=by omega
  have e4:j - i+i=j:=by omega
  rw [e3,e4,hz2,hy2]
 ·have e0:min (-1074+(i:Int)) (-1074+(j:Int))=-1074+(j:Int):=by omega
  have e1:(-1074+(i:Int) - (-1074+(j:Int))).toNat=i - j:=by omega
  have e2:(-1074+(j:Int) - (-1074+(j:Int))).toNat=0:=by omega
  rw [e0,e1,e2,QcS,QcS,Qdd,Int.add_mul,<- Qdp,<- Qdp,Nat.mul_assoc,Nat.mul_assoc,<- Nat.pow_add,<- Nat.pow_add]
  have e3:i - j+j=i:=by omega
  have e4:0+j=j:=by omega
  rw [e3,e4,hz2,hy2]
theorem QtO (s t:Bool){Z Y:Nat} (hz:Rep Z) (hy:Rep Y):double.sub (W s Z) (W t Y)=some (QdZ (s&&!t) (sg s Z - sg t Y)):=by
 have h:=QsT s (!t) hz hy
 rw [QsS,<- Int.sub_eq_add_neg] at h
 rw [<- h]
 simp only [Format.sub,Format.add,QbS s hz,QbS t hy,QbS (!t) hy,Datum.opposite]
def fi (n:Int):Nat:=floatOfInt .f64 n
theorem fi_W (n:Int) (h:n.natAbs<=9007199254740992):fi n=W (decide (n < 0)) (n.natAbs*2^K):=ofInt n h
theorem Qkr (n:Int):sg (decide (n < 0)) (n.natAbs*2^K)=n*(2^K:Nat):=by
 rw [Qdp]
 congr 1
 unfold sg
 by_cases h0:n < 0
 ·simp [h0];omega
 ·simp [h0];omega
theorem Qcc (n:Int) (h:n.natAbs<=9007199254740992):Rep (n.natAbs*2^K):=Qdb K h (by unfold K;omega)
theorem Qdq (z:Bool) (n:Int) (h:n.natAbs<=9007199254740992) (hz:z=false):QdZ z (n*(2^K:Nat))=fi n:=by
 subst hz
 have hp:(0:Int) < (2 ^ K:Nat):=by have:=Nat.two_pow_pos K;omega
 rw [fi_W n h,<- QeR _ (Qcc n h)]
 have:=Qdd false n K
 unfold QdZ at this
 unfold QdZ
 rw [<- this,<- Qbb]
 congr 1
 by_cases h0:n=0
 ·subst h0;simp
 ·rw [if_neg h0]
theorem QsU (a b:Int) (ha:a.natAbs<=9007199254740992) (hb:b.natAbs<=9007199254740992) (h:(a+b).natAbs<=9007199254740992):double.add (fi a) (fi b)=some (fi (a+b)):=by
 rw [fi_W a ha,fi_W b hb,QsT _ _ (Qcc a ha) (Qcc b hb),Qkr a,Qkr b,<- Int.add_mul]
 by_cases h0:a+b=0
 ·by_cases h1:a < 0
  ·have:decide (b < 0)=false:=decide_eq_false (by omega)
   rw [this,Bool.and_false,Qdq _ _ h rfl]
  ·have:decide (a < 0)=false:=decide_eq_false h1
   rw [this,Bool.false_and,Qdq _ _ h rfl]
 ·have hp:(0:Int) < (2 ^ K:Nat):=by have:=Nat.two_pow_pos K;omega
  have hne:(a+b)*(2^K:Nat)≠0:=Int.mul_ne_zero h0 (by omega)
  have e:∀ z,QdZ z ((a+b)*(2^K:Nat))=QdZ false ((a+b)*(2^K:Nat)):=fun z=>by unfold QdZ;rw [if_neg hne,if_neg hne]
  rw [e,Qdq _ _ h rfl]
theorem QsV (a b:Int) (ha:a.natAbs<=9007199254740992) (hb:b.natAbs<=9007199254740992) (h:(a - b).natAbs<=9007199254740992):double.sub (fi a) (fi b)=some (fi (a - b)):=by
 rw [fi_W a ha,fi_W b hb,QtO _ _ (Qcc a ha) (Qcc b hb),Qkr a,Qkr b,<- Int.sub_mul]
 by_cases h0:a - b=0
 ·have e:a=b:=by omega
  subst e
  have:(decide (a < 0)&&!decide (a < 0))=false:=by simp
  rw [this,Qdq _ _ h rfl]
 ·have hp:(0:Int) < (2 ^ K:Nat):=by have:=Nat.two_pow_pos K;omega
  have hne:(a - b)*(2^K:Nat)≠0:=Int.mul_ne_zero h0 (by omega)
  have e:∀ z,QdZ z ((a - b)*(2^K:Nat))=QdZ false ((a - b)*(2^K:Nat)):=fun z=>by unfold QdZ;rw [if_neg hne,if_neg hne]
  rw [e,Qdq _ _ h rfl]
theorem QsW (a b:Int) (ha:a.natAbs<=9007199254740992) (hb:b.natAbs<=9007199254740992) (h:(a*b).natAbs<=9007199254740992):double.mul (fi a) (fi b)=some (W (decide (a < 0) ^^ decide (b < 0)) ((a*b).natAbs*2^K)):=by
 have hra:=Qcc a ha
 have hrb:=Qcc b hb
 rw [fi_W a ha,fi_W b hb,QtM _ _ hra hrb]
 have h1:=Qhd hra
 have h2:=Qhd hrb
 generalize mg (rung (a.natAbs*2^K))=m at *
 generalize mg (rung (b.natAbs*2^K))=n at *
 generalize ex (rung (a.natAbs*2^K))=i at *
 generalize ex (rung (b.natAbs*2^K))=j at *
 have e1:(-1074:Int)+i+(-1074+j)=-2148+((i+j:Nat):Int):=by omega
 have hprod:m*n*2^(i+j)=(a*b).natAbs*2^(K+K):=by
  rw [Int.natAbs_mul,Nat.pow_add,Nat.pow_add]
  calc m*n*(2^i*2^j)=(m*2^i)*(n*2^j):=by rw [Nat.mul_mul_mul_comm]
   _=(a.natAbs*2^K)*(b.natAbs*2^K):=by rw [h1,h2]
   _=a.natAbs*b.natAbs*(2^K*2^K):=by rw [Nat.mul_mul_mul_comm]
 rw [e1,<- Qbb,hprod,Nat.pow_add,<- Nat.mul_assoc,Qbb,<- QeR _ (Qcc (a*b) h)]
 congr 2
theorem Qey (a b:Int) (ha:a.natAbs<=9007199254740992) (hb:b.natAbs<=9007199254740992):double.order (fi a) (fi b)=some (compare a b):=by
 have hp:0 < 2 ^ K:=Nat.two_pow_pos K
 rw [fi_W a ha,fi_W b hb,Qbn _ _ (Qcc a ha) (Qcc b hb),Qkr a,Qkr b,Qda _ _ _ hp]
end Go.Proofs.YtdelgpelkfndeaaGreatDoor.Fl
namespace Go.Proofs.YtdelgpelkfndeaaGreatDoor
open Go Go.RowKit Go.Proofs Fl
def TF (b:Nat):Prop:=∃ s Z,Rep Z/\b=W s Z/\(Z=0->s=false)
theorem TF.lt {b:Nat} (h:TF b):b < 18446744073709551616:=by
 obtain ⟨s,Z,hz,rfl,_⟩:=h
 exact W_lt s hz
theorem Qa8:TF 0:=⟨false,0,QbD,W_zero.symm,fun _=>rfl⟩
theorem QsX (s:Bool){Z:Nat} (hz:Rep Z):TF (tid s Z):=by
 unfold tid
 split
 ·exact Qa8
 ·rename_i h;exact ⟨s,Z,hz,rfl,fun e=>absurd e h⟩
theorem QfV:TF 4607182418800017408:=⟨false,1*2^K,Qdb K (by decide) (by unfold K;omega),by decide+kernel,fun _=>rfl⟩
def Qau (b:Nat):Nat×Int:=match Ieee.double.read b with
 | .number _ m _=>(if m=0 then 0 else b,0)
 | _=>(0,24)
theorem QeW {Z:Nat} (hz:Rep Z):mg (rung Z)=0↔Z=0:=by
 have h:=Qhd hz
 constructor
 ·intro e;rw [e,Nat.zero_mul] at h;exact h.symm
 ·intro e
  rw [e] at h
  rcases Nat.mul_eq_zero.1 h with h | h
  ·rw [e];exact h
  ·exact absurd h (Nat.ne_of_gt (Nat.two_pow_pos _))
theorem QaX (s:Bool){Z:Nat} (hz:Rep Z):Qau (W s Z)=(tid s Z,0):=by
 unfold Qau
 rw [QbS s hz]
 show (if mg (rung Z)=0 then 0 else W s Z,0)=_
 unfold tid
 by_cases h:Z=0
 ·rw [if_pos h,if_pos ((QeW hz).2 h)]
 ·rw [if_neg h,if_neg (fun e=>h ((QeW hz).1 e))]
theorem Qbo (s:Bool):Qau (infw s)=(0,24):=by unfold Qau;rw [Qex]
theorem Qcd {b:Nat} (h:(Ieee.double.read b).isNaN=true):Qau b=(0,24):=by
 unfold Qau
 cases hd:Ieee.double.read b <;> rw [hd] at h <;> first | rfl | cases h
theorem Qa9 {b:Nat} (hb:b < 18446744073709551616):(∃ c,TF c/\Qau b=(c,0))\/Qau b=(0,24):=by
 rcases classify b hb with ⟨s,Z,hz,rfl⟩ | ⟨s,rfl⟩ | h
 ·exact .inl ⟨_,QsX s hz,QaX s hz⟩
 ·exact .inr (Qbo s)
 ·exact .inr (Qcd h)
theorem Qez {b:Nat} (h:TF b):Qau b=(b,0):=by
 obtain ⟨s,Z,hz,rfl,h0⟩:=h
 rw [QaX s hz]
 unfold tid
 split
 ·rename_i e;rw [e,h0 e,W_zero]
 ·rfl
theorem Qks:FloatKind.f64.format.order (infw false) 9218868437227405311=some .gt:=by rw [<- Qko];exact Qhf false false Qbw
theorem Qis:FloatKind.f64.format.order (infw true) 18442240474082181119=some .lt:=by rw [<- Qhe];exact Qhf true true Qbw
theorem Qkt:FloatKind.f64.format.order (infw true) 9218868437227405311=some .lt:=by rw [<- Qko];exact Qhf true false Qbw
theorem Qhk {b:Nat} (h:(∃ s,b=infw s)\/(Ieee.double.read b).isNaN=true) (w:World) :
  Calls Tryz.prog 172 #[.float .f64 b] w fun e w'=>e= .returned (.tuple #[.float .f64 0,.bool false])/\w=w':=by
 rcases h with ⟨s,rfl⟩ | h
 ·have h1:=Qhg s
  cases s
  ·have h2:=Qks
   generalize infw false=b at *
   go_enter Tryz.func172,Tryz.ntmps172
   go_wp2
   go_ret2
   exact ⟨rfl,rfl⟩
  ·have h2:=Qis
   have h3:=Qkt
   generalize infw true=b at *
   go_enter Tryz.func172,Tryz.ntmps172
   go_wp2
   go_ret2
   exact ⟨rfl,rfl⟩
 ·have h1:=QlH b h
  clear h
  go_enter Tryz.func172,Tryz.ntmps172
  go_wp2
  go_ret2
  exact ⟨rfl,rfl⟩
theorem Qb1 (b:Nat) (hb:b < 18446744073709551616) (w:World):Calls Tryz.prog 251 #[.float .f64 b] w fun e w'=>e= .returned (.tuple #[.float .f64 (Qau b).1,.int .i64 (Qau b).2])/\w=w':=by
 rcases classify b hb with ⟨s,Z,hz,rfl⟩ | h
 ·rw [QaX s hz]
  have HT:=hD (fun W=>QeT s hz W)
  clear hz
  go_enter Tryz.func251,Tryz.ntmps251
  go_wp2_with fail
  refine (HT.out _).mono ?_
  rintro e w' ⟨rfl,rfl⟩
  go_wp2
  go_ret2
  exact ⟨rfl,rfl⟩
 ·have e:Qau b=(0,24):=by rcases h with ⟨s,rfl⟩ | h;exact Qbo s;exact Qcd h
  rw [e]
  have HT:=hD (fun W=>Qhk h W)
  clear e h
  go_enter Tryz.func251,Tryz.ntmps251
  go_wp2_with fail
  refine (HT.out _).mono ?_
  rintro e w' ⟨rfl,rfl⟩
  go_wp2
  go_ret2
  exact ⟨rfl,rfl⟩
theorem Qce (b:Nat) (hb:b < 18446744073709551616) (w:World):Calls Tryz.prog 256 #[.float .f64 b] w fun e w'=>e= .returned (.tuple #[.float .f64 (Qau b).1,.int .i64 (Qau b).2])/\w=w':=by
 rcases classify b hb with ⟨s,Z,hz,rfl⟩ | h
 ·rw [QaX s hz]
  have HT:=hD (fun W=>QeS s hz W)
  clear hz
  go_enter Tryz.func256,Tryz.ntmps256
  go_wp2_with fail
  refine (HT.out _).mono ?_
  rintro e w' ⟨rfl,rfl⟩
  go_wp2
  go_ret2
  exact ⟨rfl,rfl⟩
 ·have e:Qau b=(0,24):=by rcases h with ⟨s,rfl⟩ | h;exact Qbo s;exact Qcd h
  rw [e]
  have HT:=hD (fun W=>Qhi h W)
  clear e h
  go_enter Tryz.func256,Tryz.ntmps256
  go_wp2_with fail
  refine (HT.out _).mono ?_
  rintro e w' ⟨rfl,rfl⟩
  go_wp2
  go_ret2
  exact ⟨rfl,rfl⟩
def opB (op:BinOp) (a b:Nat):Nat:=(floatBits op .f64 a b).getD 0
theorem QsY {op:BinOp}{a b c:Nat} (h:floatBits op .f64 a b=some c):floatBits op .f64 a b=some (opB op a b)/\opB op a b < 18446744073709551616:=by
 have e:opB op a b=c:=by unfold opB;rw [h];rfl
 rw [e]
 exact ⟨h,by simpa [Lit.wf] using floatBits_wf h⟩
theorem Qdr {op:BinOp}{a b:Nat} (h:(floatBits op .f64 a b).isSome=true):floatBits op .f64 a b=some (opB op a b)/\opB op a b < 18446744073709551616:=by
 obtain ⟨c,hc⟩:=Option.isSome_iff_exists.1 h
 exact QsY hc
theorem QcD {b:Nat} (h:TF b):∃ s m i,Ieee.double.read b= .number s m i/\(m=0->b=0):=by
 obtain ⟨s,Z,hz,rfl,h0⟩:=h
 refine ⟨s,_,_,QbS s hz,fun e=>?_⟩
 have e0:=(QeW hz).1 e
 rw [e0,h0 e0,W_zero]
theorem Qit {a b:Nat} (ha:TF a) (hb:TF b):floatBits .add .f64 a b=some (opB .add a b)/\opB .add a b < 18446744073709551616:=by
 obtain ⟨s,m,i,h1,_⟩:=QcD ha
 obtain ⟨t,n,j,h2,_⟩:=QcD hb
 refine Qdr ?_
 show (((Ieee.double.read a).sum (Ieee.double.read b)).map Ieee.double.write).isSome=true
 rw [h1,h2]
 rfl
theorem Qiu {a b:Nat} (ha:TF a) (hb:TF b):floatBits .sub .f64 a b=some (opB .sub a b)/\opB .sub a b < 18446744073709551616:=by
 obtain ⟨s,m,i,h1,_⟩:=QcD ha
 obtain ⟨t,n,j,h2,_⟩:=QcD hb
 refine Qdr ?_
 show (((Ieee.double.read a).sum (Ieee.double.read b).opposite).map Ieee.double.write).isSome=true
 rw [h1,h2]
 rfl
theorem Qiv {a b:Nat} (ha:TF a) (hb:TF b):floatBits .mul .f64 a b=some (opB .mul a b)/\opB .mul a b < 18446744073709551616:=by
 obtain ⟨s,m,i,h1,_⟩:=QcD ha
 obtain ⟨t,n,j,h2,_⟩:=QcD hb
 refine Qdr ?_
 show (((Ieee.double.read a).product (Ieee.double.read b)).map Ieee.double.write).isSome=true
 rw [h1,h2]
 rfl
theorem Qiw {a b:Nat} (ha:TF a) (hb:TF b) (h0:b≠0):floatBits .quo .f64 a b=some (opB .quo a b)/\opB .quo a b < 18446744073709551616:=by
 obtain ⟨s,m,i,h1,_⟩:=QcD ha
 obtain ⟨t,n,j,h2,h3⟩:=QcD hb
 refine Qdr ?_
 show ((Ieee.Datum.quotient (Ieee.double.fractionBits+2) (Ieee.double.read a) (Ieee.double.read b)).map Ieee.double.write).isSome=true
 rw [h1,h2]
 unfold Ieee.Datum.quotient
 dsimp only
 rw [if_neg (fun e=>h0 (h3 e))]
 rfl
theorem Qku {b:Nat} (h:TF b):FloatKind.f64.format.order b 0=some (if b=0 then .eq else if (Ieee.double.order b 0)=some .lt then .lt else .gt):=by
 obtain ⟨s,Z,hz,rfl,h0⟩:=h
 have h1:=Qbn s false hz QbD
 rw [W_zero,Qbx] at h1
 show Ieee.double.order (W s Z) 0=_
 by_cases e:Z=0
 ·rw [e,h0 e,W_zero,if_pos rfl];decide
 ·have hne:W s Z≠0:=by
   intro e2
   have h2:=QbS s hz
   rw [e2] at h2
   have h3:Ieee.double.read 0= .number false 0 (-1074):=by decide
   rw [h3] at h2
   injection h2 with _ h4 _
   exact e ((QeW hz).1 h4.symm)
  rw [if_neg hne,h1]
  rcases Int.lt_trichotomy (sg s Z) 0 with h | h | h
  ·rw [QbL h];rfl
  ·exact absurd (sg_eq_zero.1 h) e
  ·rw [QbH h];rfl
theorem Qor (a b:Nat) (ha:TF a) (hb:TF b) (w:World):Calls Tryz.prog 204 #[.float .f64 a,.float .f64 b] w fun e w'=>e= .returned (.tuple #[.float .f64 (Qau (opB .add a b)).1,.int .i64 (Qau (opB .add a b)).2])/\w=w':=by
 obtain ⟨h1,h2⟩:=Qit ha hb
 have hop:=fun w=>run_float_arith (P:=Tryz.prog) w .add 60 .f64 _ _ _ h1
 have HD:=hD (fun W=>Qb1 _ h2 W)
 clear h1 h2 ha hb
 generalize opB .add a b=c at *
 go_enter Tryz.func204,Tryz.ntmps204
 go_wp2_with fail
 refine (HD.out _).mono ?_
 rintro e w' ⟨rfl,rfl⟩
 go_wp2
 go_ret2
 exact ⟨rfl,rfl⟩
theorem Qos (a b:Nat) (ha:TF a) (hb:TF b) (w:World):Calls Tryz.prog 205 #[.float .f64 a,.float .f64 b] w fun e w'=>e= .returned (.tuple #[.float .f64 (Qau (opB .sub a b)).1,.int .i64 (Qau (opB .sub a b)).2])/\w=w':=by
 obtain ⟨h1,h2⟩:=Qiu ha hb
 have hop:=fun w=>run_float_arith (P:=Tryz.prog) w .sub 60 .f64 _ _ _ h1
 have HD:=hD (fun W=>Qb1 _ h2 W)
 clear h1 h2 ha hb
 generalize opB .sub a b=c at *
 go_enter Tryz.func205,Tryz.ntmps205
 go_wp2_with fail
 refine (HD.out _).mono ?_
 rintro e w' ⟨rfl,rfl⟩
 go_wp2
 go_ret2
 exact ⟨rfl,rfl⟩
theorem Qot (a b:Nat) (ha:TF a) (hb:TF b) (w:World):Calls Tryz.prog 206 #[.float .f64 a,.float .f64 b] w fun e w'=>e= .returned (.tuple #[.float .f64 (Qau (opB .mul a b)).1,.int .i64 (Qau (opB .mul a b)).2])/\w=w':=by
 obtain ⟨h1,h2⟩:=Qiv ha hb
 have hop:=fun w=>run_float_arith (P:=Tryz.prog) w .mul 60 .f64 _ _ _ h1
 have HD:=hD (fun W=>Qb1 _ h2 W)
 clear h1 h2 ha hb
 generalize opB .mul a b=c at *
 go_enter Tryz.func206,Tryz.ntmps206
 go_wp2_with fail
 refine (HD.out _).mono ?_
 rintro e w' ⟨rfl,rfl⟩
 go_wp2
 go_ret2
 exact ⟨rfl,rfl⟩
def divP (a b:Nat):Nat×Int:=if b=0 then (if a=0 then (4607182418800017408,0) else (0,24)) else Qau (opB .quo a b)
theorem Qcf {b:Nat} (h:TF b):(FloatKind.f64.format.order b 0==some .eq)=decide (b=0):=by
 rw [Qku h]
 by_cases e:b=0
 ·rw [if_pos e,decide_eq_true e];rfl
 ·rw [if_neg e,decide_eq_false e];split <;> rfl
theorem Qou (a b:Nat) (ha:TF a) (hb:TF b) (w:World):Calls Tryz.prog 207 #[.float .f64 a,.float .f64 b] w fun e w'=>e= .returned (.tuple #[.float .f64 (divP a b).1,.int .i64 (divP a b).2])/\w=w':=by
 have z1:=Qcf ha
 have z2:=Qcf hb
 unfold divP
 by_cases hb0:b=0
 ·rw [if_pos hb0]
  rw [decide_eq_true hb0] at z2
  have z2':=beq_iff_eq.1 z2
  by_cases ha0:a=0
  ·rw [if_pos ha0]
   rw [decide_eq_true ha0] at z1
   have z1':=beq_iff_eq.1 z1
   clear hb0 ha0 ha hb
   go_enter Tryz.func207,Tryz.ntmps207
   go_wp2
   go_ret2
   exact ⟨rfl,rfl⟩
  ·rw [if_neg ha0]
   rw [decide_eq_false ha0] at z1
   have z1':=beq_eq_false_iff_ne.1 z1
   clear hb0 ha0 ha hb
   go_enter Tryz.func207,Tryz.ntmps207
   go_wp2
   go_ret2
   exact ⟨rfl,rfl⟩
 ·rw [if_neg hb0]
  rw [decide_eq_false hb0] at z2
  have z2':=beq_eq_false_iff_ne.1 z2
  obtain ⟨h1,h2⟩:=Qiw ha hb hb0
  have hop:=fun w=>run_float_arith (P:=Tryz.prog) w .quo 60 .f64 _ _ _ h1
  have HD:=hD (fun W=>Qb1 _ h2 W)
  clear h1 h2 ha hb hb0 z1
  generalize opB .quo a b=c at *
  go_enter Tryz.func207,Tryz.ntmps207
  go_wp2_with fail
  refine (HD.out _).mono ?_
  rintro e w' ⟨rfl,rfl⟩
  go_wp2
  go_ret2
  exact ⟨rfl,rfl⟩
theorem Qkv (a b:Nat) (ha:TF a) (hb:TF b) (w:World):Calls Tryz.prog 238 #[.int .i64 0,.float .f64 a,.float .f64 b] w fun e w'=>e= .returned (.tuple #[.float .f64 (Qau (opB .add a b)).1,.int .i64 (Qau (opB .add a b)).2])/\w=w':=by
 obtain ⟨h1,h2⟩:=Qit ha hb
 have hop:=fun w=>run_float_arith (P:=Tryz.prog) w .add 60 .f64 _ _ _ h1
 have HD:=hD (fun W=>Qce _ h2 W)
 clear h1 h2 ha hb
 generalize opB .add a b=c at *
 go_enter Tryz.func238,Tryz.ntmps238
 go_wp2_with fail
 refine (HD.out _).mono ?_
 rintro e w' ⟨rfl,rfl⟩
 go_wp2
 go_ret2
 exact ⟨rfl,rfl⟩
theorem Qkw (a b:Nat) (ha:TF a) (hb:TF b) (w:World):Calls Tryz.prog 238 #[.int .i64 1,.float .f64 a,.float .f64 b] w fun e w'=>e= .returned (.tuple #[.float .f64 (Qau (opB .sub a b)).1,.int .i64 (Qau (opB .sub a b)).2])/\w=w':=by
 obtain ⟨h1,h2⟩:=Qiu ha hb
 have hop:=fun w=>run_float_arith (P:=Tryz.prog) w .sub 60 .f64 _ _ _ h1
 have HD:=hD (fun W=>Qce _ h2 W)
 clear h1 h2 ha hb
 generalize opB .sub a b=c at *
 go_enter Tryz.func238,Tryz.ntmps238
 go_wp2_with fail
 refine (HD.out _).mono ?_
 rintro e w' ⟨rfl,rfl⟩
 go_wp2
 go_ret2
 exact ⟨rfl,rfl⟩
theorem Qkx (a b:Nat) (ha:TF a) (hb:TF b) (w:World):Calls Tryz.prog 238 #[.int .i64 2,.float .f64 a,.float .f64 b] w fun e w'=>e= .returned (.tuple #[.float .f64 (Qau (opB .mul a b)).1,.int .i64 (Qau (opB .mul a b)).2])/\w=w':=by
 obtain ⟨h1,h2⟩:=Qiv ha hb
 have hop:=fun w=>run_float_arith (P:=Tryz.prog) w .mul 60 .f64 _ _ _ h1
 have HD:=hD (fun W=>Qce _ h2 W)
 clear h1 h2 ha hb
 generalize opB .mul a b=c at *
 go_enter Tryz.func238,Tryz.ntmps238
 go_wp2_with fail
 refine (HD.out _).mono ?_
 rintro e w' ⟨rfl,rfl⟩
 go_wp2
 go_ret2
 exact ⟨rfl,rfl⟩
theorem Qky (a b:Nat) (ha:TF a) (hb:TF b) (w:World):Calls Tryz.prog 238 #[.int .i64 3,.float .f64 a,.float .f64 b] w fun e w'=>e= .returned (.tuple #[.float .f64 (divP a b).1,.int .i64 (divP a b).2])/\w=w':=by
 have z1:=Qcf ha
 have z2:=Qcf hb
 unfold divP
 by_cases hb0:b=0
 ·rw [if_pos hb0]
  rw [decide_eq_true hb0] at z2
  have z2':=beq_iff_eq.1 z2
  by_cases ha0:a=0
  ·rw [if_pos ha0]
   rw [decide_eq_true ha0] at z1
   have z1':=beq_iff_eq.1 z1
   clear hb0 ha0 ha hb
   go_enter Tryz.func238,Tryz.ntmps238
   go_wp2
   go_ret2
   exact ⟨rfl,rfl⟩
  ·rw [if_neg ha0]
   rw [decide_eq_false ha0] at z1
   have z1':=beq_eq_false_iff_ne.1 z1
   clear hb0 ha0 ha hb
   go_enter Tryz.func238,Tryz.ntmps238
   go_wp2
   go_ret2
   exact ⟨rfl,rfl⟩
 ·rw [if_neg hb0]
  rw [decide_eq_false hb0] at z2
  have z2':=beq_eq_false_iff_ne.1 z2
  obtain ⟨h1,h2⟩:=Qiw ha hb hb0
  have hop:=fun w=>run_float_arith (P:=Tryz.prog) w .quo 60 .f64 _ _ _ h1
  have HD:=hD (fun W=>Qce _ h2 W)
  clear h1 h2 ha hb hb0
  generalize opB .quo a b=c at *
  generalize Qau c=d at *
  rcases Bool.eq_false_or_eq_true (decide (a=0)) with hz | hz
  all_goals
   rw [hz] at z1
   first | have z1':=beq_iff_eq.1 z1 | have z1':=beq_eq_false_iff_ne.1 z1
   clear hz
   go_enter Tryz.func238,Tryz.ntmps238
   go_wp2_with fail
   refine (HD.out _).mono ?_
   rintro e w' ⟨rfl,rfl⟩
   go_wp2
   go_ret2
   exact ⟨rfl,rfl⟩
end Go.Proofs.YtdelgpelkfndeaaGreatDoor
