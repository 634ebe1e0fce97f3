/- Plain laws of 64-bit floats: a finite float is a sign and a whole number of least units (2^-1074); what order, product with 2, half, conversion to and from .. Conditions: as each theorem says. -/
import Derived.Laws.FloatArith
import Derived.Test.YtbakjaliponbbaaGreatDoorProg
import Derived.WalkKit
import Derived.WalkLawsBesides
import Derived.Lib.Hide
import Derived.Outline
import Derived.Laws.BitsAllLaws
set_option maxHeartbeats 400000
namespace Go.Proofs.YtbakjaliponbbaaGreatDoor.Fl
open Ieee Go
theorem log2_mul_pow {m:Nat} (j:Nat) (h:m≠0):(m*2^j).log2=m.log2+j:=by
 have hm:m*2^j≠0:=Nat.mul_ne_zero h (by have:=Nat.two_pow_pos j;omega)
 rw [Nat.log2_eq_iff hm]
 have h1:=Nat.log2_self_le h
 have h2:=@Nat.lt_log2_self m
 constructor
 ·rw [Nat.pow_add];exact Nat.mul_le_mul_right _ h1
 ·rw [show m.log2+j+1=(m.log2+1)+j by omega,Nat.pow_add]
  exact Nat.mul_lt_mul_of_pos_right h2 (Nat.two_pow_pos j)
def rhe (n d:Nat):Nat:=n / 2^d+(decide (2^d < 2*(n % 2^d))||(2^d==2*(n % 2^d)&&(n / 2^d) % 2==1)).toNat
theorem cut_even (neg:Bool) (n d:Nat):Toward.even.cut neg n d=rhe n d:=by
 unfold Toward.cut rhe
 rcases Nat.le_total d (n.log2+2) with h | h
 ·simp only [Nat.min_eq_left h,Nat.one_shiftLeft]
 ·simp only [Nat.min_eq_right h,Nat.one_shiftLeft]
  have h2:=@Nat.lt_log2_self n
  have h3:2*2^(n.log2+1)=2^(n.log2+2):=by rw [Nat.pow_succ _ (n.log2+1)];omega
  have h4:2^(n.log2+2)<=2^d:=Nat.pow_le_pow_right (by omega) h
  have e1:n / 2^(n.log2+2)=0:=Nat.div_eq_of_lt (by omega)
  have e2:n % 2^(n.log2+2)=n:=Nat.mod_eq_of_lt (by omega)
  have e3:n / 2^d=0:=Nat.div_eq_of_lt (by omega)
  have e4:n % 2^d=n:=Nat.mod_eq_of_lt (by omega)
  rw [e1,e2,e3,e4]
  have a1:decide (2^(n.log2+2) < 2*n)=false:=by simp;omega
  have a2:decide (2^d < 2*n)=false:=by simp;omega
  have a3:(2^(n.log2+2)==2*n)=false:=by simp;omega
  have a4:(2^d==2*n)=false:=by simp;omega
  simp [a1,a2,a3,a4]
theorem cut_zero (neg:Bool) (n d:Nat):Toward.zero.cut neg n d=n / 2^d:=by
 unfold Toward.cut
 rcases Nat.le_total d (n.log2+2) with h | h
 ·simp only [Nat.min_eq_left h,Nat.one_shiftLeft];rfl
 ·simp only [Nat.min_eq_right h,Nat.one_shiftLeft]
  have h2:=@Nat.lt_log2_self n
  have h3:2*2^(n.log2+1)=2^(n.log2+2):=by rw [Nat.pow_succ _ (n.log2+1)];omega
  have h4:2^(n.log2+2)<=2^d:=Nat.pow_le_pow_right (by omega) h
  have e1:n / 2^(n.log2+2)=0:=Nat.div_eq_of_lt (by omega)
  have e3:n / 2^d=0:=Nat.div_eq_of_lt (by omega)
  rw [e1,e3];rfl
theorem rhe_mul (n d j:Nat):rhe (n*2^j) (d+j)=rhe n d:=by
 unfold rhe
 have hj:=Nat.two_pow_pos j
 have e1:n*2^j / 2^(d+j)=n / 2^d:=by rw [Nat.pow_add,Nat.mul_div_mul_right _ _ hj]
 have e2:n*2^j % 2^(d+j)=n % 2^d*2^j:=by rw [Nat.pow_add,Nat.mul_mod_mul_right]
 rw [e1,e2]
 have e3:decide (2^(d+j) < 2*(n % 2^d*2^j))=decide (2^d < 2*(n % 2^d)):=by
  rw [decide_eq_decide,Nat.pow_add,<- Nat.mul_assoc];exact Nat.mul_lt_mul_right hj
 have e4:(2^(d+j)==2*(n % 2^d*2^j))=(2^d==2*(n % 2^d)):=by
  rw [Bool.eq_iff_iff,beq_iff_eq,beq_iff_eq,Nat.pow_add,<- Nat.mul_assoc]
  exact ⟨fun h=>Nat.eq_of_mul_eq_mul_right hj h,fun h=>congrArg (·*2^j) h⟩
 rw [e3,e4]
theorem rhe_shift (n x y x' y':Nat) (h:x+y'=x'+y):rhe (n*2^x) y=rhe (n*2^x') y':=by
 rw [<- rhe_mul (n*2^x) y y',<- rhe_mul (n*2^x') y' y,Nat.mul_assoc,Nat.mul_assoc,<- Nat.pow_add,<- Nat.pow_add,h,Nat.add_comm y y']
theorem rhe_exact (n d:Nat):rhe (n*2^d) d=n:=by
 have:=rhe_mul n 0 d
 rw [Nat.zero_add] at this
 rw [this];simp [rhe,Nat.mod_one]
theorem rhe_zero (n:Nat):rhe n 0=n:=by simp [rhe,Nat.mod_one]
theorem leastPlace:double.leastPlace=-1074:=by decide
theorem fractionBits:double.fractionBits=52:=rfl
theorem binade:double.binade=4503599627370496:=by decide
theorem infRung:double.infRung=9218868437227405312:=by decide
theorem signWeight:double.signWeight=9223372036854775808:=by decide
theorem nearest_eq (neg:Bool){m:Nat} (h:m≠0) (p:Int) :
  double.nearest neg m p=double.word neg (min ((max (p+m.log2 - 52) (-1074)+1074).toNat*4503599627370496
   + rhe (m*2^(p - max (p+m.log2 - 52) (-1074)).toNat) (max (p+m.log2 - 52) (-1074) - p).toNat) 9218868437227405312):=by
 unfold Format.nearest
 simp only [h,if_false,fractionBits,leastPlace,binade,infRung,cut_even,Nat.shiftLeft_eq,Int.sub_neg]
 rfl
theorem nearest_shift (neg:Bool) (m j:Nat) (p:Int):double.nearest neg (m*2^j) p=double.nearest neg m (p+j):=by
 by_cases h:m=0
 ·subst h;simp [Format.nearest]
 have hm:m*2^j≠0:=Nat.mul_ne_zero h (by have:=Nat.two_pow_pos j;omega)
 rw [nearest_eq neg hm,nearest_eq neg h,log2_mul_pow j h]
 have e:max (p+((m.log2+j:Nat):Int) - 52) (-1074)=max (p+j+m.log2 - 52) (-1074):=by congr 1;omega
 rw [e]
 generalize max (p+j+m.log2 - 52) (-1074)=L
 congr 2
 rw [Nat.mul_assoc,<- Nat.pow_add]
 congr 1
 apply rhe_shift
 omega
def rung (Z:Nat):Nat:=if Z < 2^53 then Z else (Z.log2 - 52)*2^52+Z / 2^(Z.log2 - 52)
def Rep (Z:Nat):Prop:=Z.log2<=2097/\∃ m k,m < 2^53/\Z=m*2^k
theorem log2_lt_of {Z k:Nat} (h:Z < 2^(k+1)):Z.log2<=k:=by
 by_cases hz:Z=0
 ·subst hz;simp
 have:=Nat.log2_self_le hz
 have h3:2^Z.log2 < 2^(k+1):=by omega
 have:=(Nat.pow_lt_pow_iff_right (a:=2) (by omega)).1 h3
 omega
theorem le_log2_of {Z k:Nat} (h:2^k<=Z):k<=Z.log2:=by
 have h2:=@Nat.lt_log2_self Z
 have h3:2^k < 2^(Z.log2+1):=by omega
 have:=(Nat.pow_lt_pow_iff_right (a:=2) (by omega)).1 h3
 omega
theorem Rep.dvd {Z:Nat} (h:Rep Z):∃ q,q < 2^53/\Z=q*2^(Z.log2 - 52):=by
 obtain ⟨_,m,k,hm,e⟩:=h
 by_cases hz:Z=0
 ·exact ⟨0,by omega,by omega⟩
 have hm0:m≠0:=by rintro rfl;simp at e;exact hz e
 have hl:Z.log2=m.log2+k:=by rw [e];exact log2_mul_pow k hm0
 have hml:m.log2<=52:=log2_lt_of hm
 have hk:Z.log2 - 52<=k:=by omega
 refine ⟨m*2^(k - (Z.log2 - 52)),?_,?_⟩
 ·have h1:m*2^(k - (Z.log2 - 52))*2^(Z.log2 - 52)=Z:=by
   rw [Nat.mul_assoc,<- Nat.pow_add,Nat.sub_add_cancel hk,<- e]
  by_cases h52:Z.log2<=52
  ·have:Z.log2 - 52=0:=by omega
   rw [this] at h1;simp only [Nat.pow_zero,Nat.mul_one] at h1
   rw [this]
   have h2:=@Nat.lt_log2_self Z
   have:2^(Z.log2+1)<=2^53:=Nat.pow_le_pow_right (by omega) (by omega)
   rw [h1];omega
  ·have h2:=@Nat.lt_log2_self Z
   have h3:2^(Z.log2+1)=2^53*2^(Z.log2 - 52):=by rw [<- Nat.pow_add];congr 1;omega
   generalize Z.log2 - 52=l at *
   rw [h3] at h2
   generalize m*2^(k - l)=q at *
   rw [<- h1] at h2
   exact Nat.lt_of_mul_lt_mul_right h2
 ·rw [Nat.mul_assoc,<- Nat.pow_add,Nat.sub_add_cancel hk,<- e]
theorem rung_lt {Z:Nat} (h:Rep Z):rung Z < 9218868437227405312:=by
 unfold rung
 split
 ·omega
 ·have hl:=h.1
  obtain ⟨q,hq,e⟩:=h.dvd
  have:Z / 2^(Z.log2 - 52)=q:=by
   conv=>lhs;rw [e]
   rw [show (q*2 ^ (Z.log2 - 52)).log2=Z.log2 by rw [<- e]]
   exact Nat.mul_div_cancel _ (Nat.two_pow_pos _)
  rw [this];omega
theorem nearest_rep (neg:Bool){Z:Nat} (h:Rep Z):double.nearest neg Z (-1074)=double.word neg (rung Z):=by
 by_cases hz:Z=0
 ·subst hz;simp [Format.nearest,rung]
 rw [nearest_eq neg hz]
 have hl:=rung_lt h
 have hr:(max (-1074+(Z.log2:Int) - 52) (-1074)+1074).toNat*4503599627370496
   + rhe (Z*2^(-1074 - max (-1074+(Z.log2:Int) - 52) (-1074)).toNat) (max (-1074+(Z.log2:Int) - 52) (-1074) - -1074).toNat=rung Z:=by
  obtain ⟨q,hq,e⟩:=h.dvd
  by_cases h53:Z < 2^53
  ·have hl2:Z.log2<=52:=log2_lt_of h53
   have e1:max (-1074+(Z.log2:Int) - 52) (-1074)=-1074:=by omega
   rw [e1]
   simp [rung,h53,rhe_zero]
  ·have hl2:53<=Z.log2:=le_log2_of (by omega)
   have e1:max (-1074+(Z.log2:Int) - 52) (-1074)=-1074+((Z.log2 - 52:Nat):Int):=by omega
   rw [e1]
   have e2:(-1074+((Z.log2 - 52:Nat):Int)+1074).toNat=Z.log2 - 52:=by omega
   have e3:(-1074 - (-1074+((Z.log2 - 52:Nat):Int))).toNat=0:=by omega
   have e4:(-1074+((Z.log2 - 52:Nat):Int) - -1074).toNat=Z.log2 - 52:=by omega
   rw [e2,e3,e4]
   simp only [rung,h53,if_false,Nat.pow_zero,Nat.mul_one]
   have e5:rhe Z (Z.log2 - 52)=q:=by
    generalize hk:Z.log2 - 52=k at *
    rw [e];exact rhe_exact q k
   have e6:Z / 2^(Z.log2 - 52)=q:=by
    generalize hk:Z.log2 - 52=k at *
    rw [e];exact Nat.mul_div_cancel _ (Nat.two_pow_pos _)
   rw [e5,e6]
 rw [hr,Nat.min_eq_left (by omega)]
def mg (r:Nat):Nat:=if r < 2^52 then r else 2^52+r % 2^52
def ex (r:Nat):Nat:=if r < 2^52 then 0 else r / 2^52 - 1
def mag (r:Nat):Nat:=mg r*2^(ex r)
theorem mg_lt (r:Nat):mg r < 2^53:=by
 unfold mg;split
 ·omega
 ·have:=Nat.mod_lt r (show 2^52 > 0 by omega);omega
theorem ex_le {r:Nat} (h:r < 9218868437227405312):ex r<=2045:=by
 unfold ex;split
 ·omega
 ·omega
theorem read_word (neg:Bool){r:Nat} (h:r < 9218868437227405312) :
  double.read (double.word neg r)= .number neg (mg r) (-1074+ex r):=by
 have e1:double.word neg r / 9223372036854775808 % 2=neg.toNat:=by
  unfold Format.word;rw [signWeight];cases neg <;> simp <;> omega
 have e2:double.word neg r % 9223372036854775808=r:=by
  unfold Format.word;rw [signWeight];cases neg <;> simp <;> omega
 unfold Format.read
 simp only [signWeight,binade,infRung,leastPlace,e1,e2,h,if_true]
 have e3:(neg.toNat==1)=neg:=by cases neg <;> rfl
 rw [e3]
 unfold mg ex
 by_cases hr:r < 4503599627370496
 ·simp [hr]
 ·simp [hr]
theorem rep_mag {r:Nat} (h:r < 9218868437227405312):Rep (mag r):=by
 refine ⟨?_,mg r,ex r,mg_lt r,rfl⟩
 have h1:=mg_lt r
 have h2:=ex_le h
 by_cases h0:mg r=0
 ·simp [mag,h0]
 have:(mag r).log2=(mg r).log2+ex r:=log2_mul_pow _ h0
 have h3:(mg r).log2<=52:=log2_lt_of h1
 omega
theorem rung_mag (r:Nat):rung (mag r)=r:=by
 unfold mag
 by_cases hr:r < 2^52
 ·have:mg r*2^(ex r)=r:=by simp [mg,ex,hr]
  rw [this];unfold rung;rw [if_pos (by omega)]
 ·have hm:mg r=2^52+r % 2^52:=by simp [mg,hr]
  have he:ex r=r / 2^52 - 1:=by simp [ex,hr]
  have hmod:=Nat.mod_lt r (show 2^52 > 0 by omega)
  have hml:(mg r).log2=52:=by
   rw [Nat.log2_eq_iff (by omega)];omega
  have hl:(mg r*2^(ex r)).log2=52+ex r:=by rw [log2_mul_pow _ (by omega),hml]
  unfold rung
  rw [hl,Nat.add_sub_cancel_left,Nat.mul_div_cancel _ (Nat.two_pow_pos _)]
  split
  ·rename_i h53
   have:ex r=0:=by
    have:=log2_lt_of (k:=52) h53
    omega
   rw [this];omega
  ·omega
theorem mag_rung {Z:Nat} (h:Rep Z):mag (rung Z)=Z:=by
 obtain ⟨q,hq,e⟩:=h.dvd
 unfold rung
 by_cases h53:Z < 2^53
 ·rw [if_pos h53]
  unfold mag mg ex
  by_cases h52:Z < 2^52
  ·simp [h52]
  ·simp only [h52,if_false]
   have:Z / 2^52 - 1=0:=by omega
   rw [this];omega
 ·rw [if_neg h53]
  have hl2:53<=Z.log2:=le_log2_of (by omega)
  have hz:Z≠0:=by omega
  have hll:=Nat.log2_self_le hz
  generalize hk:Z.log2 - 52=k at *
  have hzl:Z.log2=k+52:=by omega
  have e6:Z / 2^k=q:=by rw [e];exact Nat.mul_div_cancel _ (Nat.two_pow_pos _)
  have hq2:2^52<=q:=by
   rw [hzl,e,Nat.pow_add,Nat.mul_comm] at hll
   exact Nat.le_of_mul_le_mul_right hll (Nat.two_pow_pos k)
  rw [e6]
  have h1:¬ (k*2^52+q < 2^52):=by omega
  unfold mag mg ex
  simp only [h1,if_false]
  have h2:(k*2^52+q) % 2^52=q - 2^52:=by omega
  have h3:(k*2^52+q) / 2^52 - 1=k:=by omega
  rw [h2,h3,show 2^52+(q - 2^52)=q by omega]
  exact e.symm
def K:Nat:=1074
def W (s:Bool) (Z:Nat):Nat:=double.word s (rung Z)
def infw (s:Bool):Nat:=double.word s 9218868437227405312
def sg (s:Bool) (Z:Nat):Int:=if s then -(Z:Int) else Z
theorem W_mag (s:Bool) (r:Nat):W s (mag r)=double.word s r:=by unfold W;rw [rung_mag]
theorem read_W (s:Bool){Z:Nat} (h:Rep Z):double.read (W s Z)= .number s (mg (rung Z)) (-1074+ex (rung Z)):=read_word s (rung_lt h)
theorem mg_ex {Z:Nat} (h:Rep Z):mg (rung Z)*2^(ex (rung Z))=Z:=mag_rung h
theorem nearest_W (s:Bool){Z:Nat} (h:Rep Z):double.nearest s Z (-1074)=W s Z:=nearest_rep s h
theorem nearest_over (s:Bool){Z:Nat} (h:2098<=Z.log2):double.nearest s Z (-1074)=infw s:=by
 have hz:Z≠0:=by rintro rfl;simp at h
 rw [nearest_eq s hz]
 have e1:max (-1074+(Z.log2:Int) - 52) (-1074)=-1074+((Z.log2 - 52:Nat):Int):=by omega
 rw [e1]
 have e2:(-1074+((Z.log2 - 52:Nat):Int)+1074).toNat=Z.log2 - 52:=by omega
 have e3:(-1074 - (-1074+((Z.log2 - 52:Nat):Int))).toNat=0:=by omega
 have e4:(-1074+((Z.log2 - 52:Nat):Int) - -1074).toNat=Z.log2 - 52:=by omega
 rw [e2,e3,e4]
 have h1:2^52<=Z / 2^(Z.log2 - 52):=by
  rw [Nat.le_div_iff_mul_le (Nat.two_pow_pos _),<- Nat.pow_add,show 52+(Z.log2 - 52)=Z.log2 by omega]
  exact Nat.log2_self_le hz
 have h2:Z / 2^(Z.log2 - 52)<=rhe (Z*2^0) (Z.log2 - 52):=by simp only [Nat.pow_zero,Nat.mul_one];unfold rhe;omega
 rw [Nat.min_eq_right (by omega)]
 rfl
theorem Rep.of_log {m k:Nat} (h:m < 2^53) (hl:(m*2^k).log2<=2097):Rep (m*2^k):=⟨hl,m,k,h,rfl⟩
theorem rep_zero:Rep 0:=⟨by simp,0,0,by omega,rfl⟩
theorem Rep.mul {Z:Nat} (h:Rep Z) (j:Nat) (hl:(Z*2^j).log2<=2097):Rep (Z*2^j):=by
 obtain ⟨_,m,k,hm,rfl⟩:=h
 exact ⟨hl,m,k+j,hm,by rw [Nat.mul_assoc,<- Nat.pow_add]⟩
def two:Nat:=4611686018427387904
theorem read_two:double.read two= .number false (2^52) (-51):=by decide
theorem mul_two (s:Bool){Z:Nat} (hz:Rep Z):double.mul (W s Z) two=some (double.nearest s (Z*2) (-1074)):=by
 have e:Z*2=mg (rung Z)*2^(ex (rung Z)+1):=by rw [Nat.pow_succ,<- Nat.mul_assoc,mg_ex hz]
 rw [e,nearest_shift]
 simp only [Format.mul,read_W s hz,read_two,Datum.product,Format.write,Option.map_some,nearest_shift]
 congr 2
 ·simp
 ·omega
theorem div_two_aux (s:Bool){m:Nat} (hm:m < 2^53) (p:Int) :
  ((Datum.number s m p).quotient 54 (.number false (2^52) (-51))).map double.write=some (double.nearest s m (p - 1)):=by
 have hl:m.log2<=52:=log2_lt_of hm
 have e0:(2^52:Nat).log2=52:=by decide
 have h0:(2^52:Nat)≠0:=by decide
 simp only [Datum.quotient,h0,if_false,e0,Nat.shiftLeft_eq,Option.map_some,Format.write]
 have e1:m*2^(54+52 - m.log2)=m*2^(54 - m.log2)*2^52:=by
  rw [Nat.mul_assoc,<- Nat.pow_add];congr 2;omega
 rw [e1,Nat.mul_div_cancel _ (by decide),Nat.mul_mod_left]
 have e2:2*(m*2^(54 - m.log2))+(0 != 0:Bool).toNat=m*2^(55 - m.log2):=by
  rw [show 55 - m.log2=(54 - m.log2)+1 by omega,Nat.pow_succ,Nat.mul_comm 2,Nat.mul_assoc];rfl
 rw [e2,nearest_shift]
 congr 2
 ·simp
 ·omega
def hlf (Z:Nat):Nat:=rhe Z 1
theorem hlf_even (Z:Nat):hlf (Z*2)=Z:=by
 have:=rhe_exact Z 1
 simpa [hlf] using this
theorem hlf_le (Z:Nat):hlf Z<=Z:=by
 unfold hlf rhe
 have h2:Z % 2^1 < 2:=Nat.mod_lt _ (by decide)
 rcases Nat.eq_zero_or_pos (Z % 2) with h | h
 ·have a1:decide (2^1 < 2*(Z % 2^1))=false:=by simp;omega
  have a2:(2^1==2*(Z % 2^1))=false:=by simp;omega
  simp only [a1,a2,Bool.false_or,Bool.false_and,Bool.toNat_false];omega
 ·have:=Bool.toNat_le (decide (2^1 < 2*(Z % 2^1))||(2^1==2*(Z % 2^1)&&(Z / 2^1) % 2==1))
  omega
theorem Rep.hlf {Z:Nat} (h:Rep Z):Rep (hlf Z):=by
 obtain ⟨hl,m,k,hm,e⟩:=h
 cases k with
 | zero =>
  have hz:Z < 2^53:=by rw [e];simpa using hm
  have:=hlf_le Z
  refine ⟨?_,Go.Proofs.YtbakjaliponbbaaGreatDoor.Fl.hlf Z,0,by omega,by simp⟩
  have:=log2_lt_of (Z:=Go.Proofs.YtbakjaliponbbaaGreatDoor.Fl.hlf Z) (k:=52) (by omega)
  omega
 | succ k =>
  have e2:Z=m*2^k*2:=by rw [e,Nat.pow_succ,Nat.mul_assoc]
  rw [e2,hlf_even]
  refine ⟨?_,m,k,hm,rfl⟩
  by_cases h0:m=0
  ·simp [h0]
  have:(m*2^(k+1)).log2=m.log2+(k+1):=log2_mul_pow _ h0
  have:(m*2^k).log2=m.log2+k:=log2_mul_pow _ h0
  rw [e] at hl
  omega
theorem div_two (s:Bool){Z:Nat} (hz:Rep Z):double.div (W s Z) two=some (W s (hlf Z)):=by
 have:double.div (W s Z) two=some (double.nearest s (mg (rung Z)) (-1074+ex (rung Z) - 1)):=by
  simp only [Format.div,read_W s hz,read_two,fractionBits]
  exact div_two_aux s (mg_lt _) _
 rw [this]
 congr 1
 have hm:=mg_ex hz
 have hr:=hz.hlf
 generalize ex (rung Z)=k at *
 have hmlt:=mg_lt (rung Z)
 generalize mg (rung Z)=m at *
 subst hm
 cases k with
 | zero =>
  simp only [Nat.pow_zero,Nat.mul_one] at *
  by_cases h0:m=0
  ·subst h0;simp [Format.nearest,W,rung,hlf,rhe]
  rw [nearest_eq s h0]
  have hl:m.log2<=52:=log2_lt_of hmlt
  have e1:max (-1074+((0:Nat):Int) - 1+(m.log2:Int) - 52) (-1074)=-1074:=by omega
  rw [e1]
  have e3:(-1074+((0:Nat):Int) - 1 - (-1074)).toNat=0:=by omega
  have e4:(-1074 - (-1074+((0:Nat):Int) - 1)).toNat=1:=by omega
  rw [e3,e4]
  have:=hlf_le m
  have e5:rung (hlf m)=rhe m 1:=by unfold rung;rw [if_pos (by omega)];rfl
  have e6:rhe m 1=hlf m:=rfl
  rw [W,e5]
  simp only [Nat.pow_zero,Nat.mul_one]
  rw [Nat.min_eq_left (by rw [e6];omega)]
  simp
 | succ k =>
  have e:m*2^(k+1)=m*2^k*2:=by rw [Nat.pow_succ,Nat.mul_assoc]
  rw [e,hlf_even] at hr ⊢
  rw [<- nearest_W s hr,nearest_shift]
  congr 1;omega
theorem sg_shift (s:Bool) (m k:Nat):Ieee.signed s m k=sg s (m*2^k):=by
 unfold signed sg;simp only [Nat.shiftLeft_eq]
theorem sg_mul (s:Bool) (Z n:Nat):sg s (Z*n)=sg s Z*n:=by
 unfold sg;split <;> simp [Int.neg_mul]
theorem cmp_lt {a b:Int} (h:a < b):compare a b= .lt:=by simp [compare,compareOfLessAndEq,h]
theorem cmp_eq (a:Int):compare a a= .eq:=by simp [compare,compareOfLessAndEq]
theorem cmp_gt {a b:Int} (h:b < a):compare a b= .gt:=by
 have h1:¬ a < b:=by omega
 have h2:¬ a=b:=by omega
 simp [compare,compareOfLessAndEq,h1,h2]
theorem compare_mul (a b:Int) (n:Nat) (h:0 < n):compare (a*n) (b*n)=compare a b:=by
 have hn:(0:Int) < n:=by omega
 rcases Int.lt_trichotomy a b with h1 | h1 | h1
 ·rw [cmp_lt h1,cmp_lt (Int.mul_lt_mul_of_pos_right h1 hn)]
 ·subst h1;rw [cmp_eq,cmp_eq]
 ·rw [cmp_gt h1,cmp_gt (Int.mul_lt_mul_of_pos_right h1 hn)]
theorem order_W (s t:Bool){Z Y:Nat} (hz:Rep Z) (hy:Rep Y):double.order (W s Z) (W t Y)=some (compare (sg s Z) (sg t Y)):=by
 simp only [Format.order,read_W s hz,read_W t hy,Datum.order,sg_shift]
 congr 1
 have h1:=mg_ex hz
 have h2:=mg_ex hy
 generalize ex (rung Z)=i at *
 generalize ex (rung Y)=j at *
 generalize mg (rung Z)=m at *
 generalize mg (rung Y)=n at *
 subst h1;subst h2
 rcases Nat.le_total i j with h | h
 ·rw [<- compare_mul _ _ (2^i) (Nat.two_pow_pos _),<- sg_mul,<- sg_mul,Nat.mul_assoc,Nat.mul_assoc,<- Nat.pow_add,<- Nat.pow_add]
  congr 4 <;> omega
 ·rw [<- compare_mul _ _ (2^j) (Nat.two_pow_pos _),<- sg_mul,<- sg_mul,Nat.mul_assoc,Nat.mul_assoc,<- Nat.pow_add,<- Nat.pow_add]
  congr 4 <;> omega
theorem rep_int {n:Nat} (j:Nat) (h:n<=2^53) (hj:j<=2000):Rep (n*2^j):=by
 by_cases h0:n=0
 ·subst h0;simpa using rep_zero
 by_cases h53:n=2^53
 ·subst h53
  refine ⟨?_,1,53+j,by decide,by rw [Nat.one_mul,Nat.pow_add]⟩
  rw [log2_mul_pow j h0]
  have:(2^53:Nat).log2=53:=by decide
  omega
 ·refine Rep.of_log (by omega) ?_
  rw [log2_mul_pow j h0]
  have:n.log2<=52:=log2_lt_of (by omega)
  omega
theorem ofInt (n:Int) (h:n.natAbs<=2^53):floatOfInt .f64 n=W (decide (n < 0)) (n.natAbs*2^K):=by
 rw [<- nearest_W _ (rep_int K h (by unfold K;omega)),nearest_shift]
 rfl
theorem toInt_W (s:Bool){Z:Nat} (hz:Rep Z):(double.read (W s Z)).toInt .zero=some (sg s (Z / 2^K)):=by
 rw [read_W s hz]
 have h1:=mg_ex hz
 generalize ex (rung Z)=i at *
 generalize mg (rung Z)=m at *
 subst h1
 simp only [Datum.toInt,Datum.integral,cut_zero,Nat.shiftLeft_eq,sg_shift,Nat.pow_zero,Nat.mul_one]
 congr 2
 rcases Nat.le_total K i with h | h
 ·have e1:(-1074+(i:Int)).toNat=i - K:=by unfold K at *;omega
  have e2:(-(-1074+(i:Int))).toNat=0:=by unfold K at *;omega
  rw [e1,e2]
  have e3:m*2^i=m*2^(i - K)*2^K:=by rw [Nat.mul_assoc,<- Nat.pow_add,Nat.sub_add_cancel h]
  rw [e3,Nat.mul_div_cancel _ (Nat.two_pow_pos _)];simp
 ·have e1:(-1074+(i:Int)).toNat=0:=by unfold K at *;omega
  have e2:(-(-1074+(i:Int))).toNat=K - i:=by unfold K at *;omega
  rw [e1,e2]
  have e3:(2:Nat)^K=2^(K - i)*2^i:=by rw [<- Nat.pow_add,Nat.sub_add_cancel h]
  rw [e3,Nat.mul_div_mul_right _ _ (Nat.two_pow_pos _)];simp
theorem toInt64_W (s:Bool){Z:Nat} (hz:Rep Z) (h:Z / 2^K < 9223372036854775808):floatToIntVal .f64 (W s Z) .i64=some (sg s (Z / 2^K)):=by
 unfold floatToIntVal
 have:(FloatKind.f64.decode (W s Z)).toInt .zero=some (sg s (Z / 2^K)):=toInt_W s hz
 rw [this]
 simp only
 rw [if_pos]
 have e1:IntKind.i64.min=-9223372036854775808:=by decide
 have e2:IntKind.i64.max=9223372036854775807:=by decide
 rw [e1,e2]
 generalize Z / 2^K=q at *
 unfold sg;split <;> omega
theorem word_of (b:Nat) (h:b < 18446744073709551616):∃ s r,r < 9223372036854775808/\b=double.word s r:=by
 by_cases hb:b < 9223372036854775808
 ·exact ⟨false,b,hb,rfl⟩
 ·refine ⟨true,b - 9223372036854775808,by omega,?_⟩
  unfold Format.word;rw [signWeight];simp;omega
theorem read_inf (s:Bool):double.read (infw s)= .infinity s:=by cases s <;> decide
theorem read_nan (s:Bool){r:Nat} (h:9218868437227405312 < r) (h2:r < 9223372036854775808):(double.read (double.word s r)).isNaN=true:=by
 have e2:double.word s r % 9223372036854775808=r:=by
  unfold Format.word;rw [signWeight];cases s <;> simp <;> omega
 unfold Format.read
 simp only [signWeight,binade,infRung,e2]
 rw [if_neg (by omega),if_neg (by omega),if_neg (by omega)]
 rfl
theorem classify (b:Nat) (h:b < 18446744073709551616) :
  (∃ s Z,Rep Z/\b=W s Z)\/(∃ s,b=infw s)\/(double.read b).isNaN=true:=by
 obtain ⟨s,r,hr,rfl⟩:=word_of b h
 rcases Nat.lt_trichotomy r 9218868437227405312 with h1 | h1 | h1
 ·exact .inl ⟨s,mag r,rep_mag h1,(W_mag s r).symm⟩
 ·subst h1;exact .inr (.inl ⟨s,rfl⟩)
 ·exact .inr (.inr (read_nan s h1 hr))
theorem order_nan {a b:Nat} (h:(double.read a).isNaN=true):double.order a b=none:=by
 unfold Format.order
 cases h1:double.read a with
 | nan s f=>rfl
 | number s m e=>rw [h1] at h;cases h
 | infinity s=>rw [h1] at h;cases h
theorem order_inf (s t:Bool){Z:Nat} (hz:Rep Z):double.order (infw s) (W t Z)=some (if s then .lt else .gt):=by
 simp only [Format.order,read_inf,read_W t hz,Datum.order]
theorem W_lt (s:Bool){Z:Nat} (hz:Rep Z):W s Z < 18446744073709551616:=by
 have:=rung_lt hz
 unfold W Format.word;rw [signWeight];cases s <;> simp <;> omega
def K2:Nat:=2045
def Top:Nat:=(2^53 - 1)*2^K2
theorem rep_top:Rep Top:=by
 refine Rep.of_log (by decide) ?_
 rw [log2_mul_pow _ (by decide)]
 have:(2^53 - 1:Nat).log2=52:=by decide
 unfold K2;omega
theorem rep_le {Z:Nat} (h:Rep Z):Z<=Top:=by
 obtain ⟨q,hq,e⟩:=h.dvd
 have h1:Z.log2 - 52<=K2:=by have:=h.1;unfold K2;omega
 rw [e]
 exact Nat.mul_le_mul (by omega) (Nat.pow_le_pow_right (by omega) h1)
theorem W_top:W false Top=9218868437227405311:=by decide+kernel
theorem W_ntop:W true Top=18442240474082181119:=by decide+kernel
theorem W_zero:W false 0=0:=by decide
end Go.Proofs.YtbakjaliponbbaaGreatDoor.Fl
namespace Go.Proofs.YtbakjaliponbbaaGreatDoor
open Go Go.RowKit Go.Proofs Fl
theorem fo_gt (s t:Bool){Z Y:Nat} (hz:Rep Z) (hy:Rep Y):(FloatKind.f64.format.order (W s Z) (W t Y)==some .gt)=decide (sg t Y < sg s Z):=by
 have h:FloatKind.f64.format.order (W s Z) (W t Y)=some (compare (sg s Z) (sg t Y)):=order_W s t hz hy
 rw [h]
 rcases Int.lt_trichotomy (sg s Z) (sg t Y) with h1 | h1 | h1
 ·rw [cmp_lt h1,decide_eq_false (by omega)];rfl
 ·rw [h1,cmp_eq,decide_eq_false (by omega)];rfl
 ·rw [cmp_gt h1,decide_eq_true h1];rfl
theorem fo_lt (s t:Bool){Z Y:Nat} (hz:Rep Z) (hy:Rep Y):(FloatKind.f64.format.order (W s Z) (W t Y)==some .lt)=decide (sg s Z < sg t Y):=by
 have h:FloatKind.f64.format.order (W s Z) (W t Y)=some (compare (sg s Z) (sg t Y)):=order_W s t hz hy
 rw [h]
 rcases Int.lt_trichotomy (sg s Z) (sg t Y) with h1 | h1 | h1
 ·rw [cmp_lt h1,decide_eq_true h1];rfl
 ·rw [h1,cmp_eq,decide_eq_false (by omega)];rfl
 ·rw [cmp_gt h1,decide_eq_false (by omega)];rfl
theorem fo_eq (s t:Bool){Z Y:Nat} (hz:Rep Z) (hy:Rep Y):(FloatKind.f64.format.order (W s Z) (W t Y)==some .eq)=decide (sg s Z=sg t Y):=by
 have h:FloatKind.f64.format.order (W s Z) (W t Y)=some (compare (sg s Z) (sg t Y)):=order_W s t hz hy
 rw [h]
 rcases Int.lt_trichotomy (sg s Z) (sg t Y) with h1 | h1 | h1
 ·rw [cmp_lt h1,decide_eq_false (by omega)];rfl
 ·rw [h1,cmp_eq,decide_eq_true rfl];rfl
 ·rw [cmp_gt h1,decide_eq_false (by omega)];rfl
theorem fo_ne (s t:Bool){Z Y:Nat} (hz:Rep Z) (hy:Rep Y):(FloatKind.f64.format.order (W s Z) (W t Y) != some .eq) = !decide (sg s Z=sg t Y):=by
 rw [bne,fo_eq s t hz hy]
theorem fo_inf (s t:Bool){Z:Nat} (hz:Rep Z):FloatKind.f64.format.order (infw s) (W t Z)=some (if s then .lt else .gt):=order_inf s t hz
theorem fo_nan {a:Nat} (b:Nat) (h:(Ieee.double.read a).isNaN=true):FloatKind.f64.format.order a b=none:=order_nan h
theorem fo_infinf (s:Bool):FloatKind.f64.format.order (infw s) (infw s)=some .eq:=by
 have:FloatKind.f64.format.order (infw s) (infw s)=Ieee.double.order (infw s) (infw s):=rfl
 rw [this,Ieee.Format.order,read_inf];cases s <;> rfl
theorem sg_bounds (s:Bool){Z:Nat} (hz:Rep Z):-(Top:Int)<=sg s Z/\sg s Z<=Top:=by
 have:=rep_le hz
 unfold sg;split <;> omega
theorem sg_true (Z:Nat):sg true Z=-(Z:Int):=rfl
theorem sg_false (Z:Nat):sg false Z=(Z:Int):=rfl
theorem sg_zero (s:Bool):sg s 0=0:=by cases s <;> rfl
theorem sg_eq_zero {s:Bool}{Z:Nat}:sg s Z=0↔Z=0:=by unfold sg;split <;> omega
def isFin (b:Nat):Bool:=match Ieee.double.read b with | .number .. => true | _=>false
theorem isFin_W (s:Bool){Z:Nat} (hz:Rep Z):isFin (W s Z)=true:=by unfold isFin;rw [read_W s hz]
theorem isFin_inf (s:Bool):isFin (infw s)=false:=by unfold isFin;rw [read_inf]
theorem isFin_nan {a:Nat} (h:(Ieee.double.read a).isNaN=true):isFin a=false:=by
 unfold isFin;cases hr:Ieee.double.read a <;> rw [hr] at h <;> first | rfl | cases h
theorem finite_num (s:Bool){Z:Nat} (hz:Rep Z) (w:World) :
  Calls Tryz.prog 54 #[.float .f64 (W s Z)] w fun e w'=>e= .returned (.bool true)/\w=w':=by
 have hb:=sg_bounds s hz
 have h1:=fo_gt s true hz rep_top
 have h2:=fo_eq s true hz rep_top
 have h3:=fo_lt s false hz rep_top
 have h4:=fo_eq s false hz rep_top
 rw [W_ntop,sg_true] at h1 h2
 rw [W_top,sg_false] at h3 h4
 have a1:(FloatKind.f64.format.order (W s Z) 18442240474082181119==some .gt||FloatKind.f64.format.order (W s Z) 18442240474082181119==some .eq)=true:=by
  rw [h1,h2];simp;omega
 have a2:(FloatKind.f64.format.order (W s Z) 9218868437227405311==some .lt||FloatKind.f64.format.order (W s Z) 9218868437227405311==some .eq)=true:=by
  rw [h3,h4];simp;omega
 clear h1 h2 h3 h4 hb hz
 go_enter Tryz.func54,Tryz.ntmps54
 go_wp2
 all_goals go_ret
 all_goals exact ⟨by first | rfl | simp_all,rfl⟩
theorem finite_inf (s:Bool) (w:World) :
  Calls Tryz.prog 54 #[.float .f64 (infw s)] w fun e w'=>e= .returned (.bool false)/\w=w':=by
 have h1:=fo_inf s true rep_top
 have h2:=fo_inf s false rep_top
 rw [W_ntop] at h1
 rw [W_top] at h2
 cases s
 all_goals
  simp only [if_true,if_false,Bool.false_eq_true] at h1 h2
  go_enter Tryz.func54,Tryz.ntmps54
  go_wp2
  all_goals go_ret
  all_goals exact ⟨by first | rfl | simp_all,rfl⟩
theorem finite_nan {b:Nat} (h:(Ieee.double.read b).isNaN=true) (w:World) :
  Calls Tryz.prog 54 #[.float .f64 b] w fun e w'=>e= .returned (.bool false)/\w=w':=by
 have h1:=fo_nan 18442240474082181119 h
 have h2:=fo_nan 9218868437227405311 h
 clear h
 go_enter Tryz.func54,Tryz.ntmps54
 go_wp2
 all_goals go_ret
 all_goals exact ⟨by first | rfl | simp_all,rfl⟩
def tid (s:Bool) (Z:Nat):Nat:=if Z=0 then 0 else W s Z
theorem ntidy_num (s:Bool){Z:Nat} (hz:Rep Z) (w:World) :
  Calls Tryz.prog 166 #[.float .f64 (W s Z)] w fun e w'=>e= .returned (.tuple #[.float .f64 (tid s Z),.bool true])/\w=w':=by
 have hb:=sg_bounds s hz
 have h1:=fo_eq s false hz rep_zero
 have h2:=fo_ne s s hz hz
 have h3:=fo_gt s false hz rep_top
 have h4:=fo_lt s true hz rep_top
 rw [W_zero,sg_zero] at h1
 rw [W_top,sg_false] at h3
 rw [W_ntop,sg_true] at h4
 rw [decide_eq_true rfl] at h2
 rw [decide_eq_false (by omega)] at h3
 rw [decide_eq_false (by omega)] at h4
 simp only [Bool.not_true] at h2
 have h2':FloatKind.f64.format.order (W s Z) (W s Z)=some .eq:=by simpa using h2
 have h3':¬ FloatKind.f64.format.order (W s Z) 9218868437227405311=some .gt:=by simpa using h3
 have h4':¬ FloatKind.f64.format.order (W s Z) 18442240474082181119=some .lt:=by simpa using h4
 clear hb hz
 by_cases h0:Z=0
 ·subst h0
  simp [sg_zero] at h1
  go_enter Tryz.func166,Tryz.ntmps166
  go_wp2
  go_ret2
  exact ⟨rfl,rfl⟩
 ·have HT:Hid (tid s Z=W s Z):=if_neg h0
  rw [decide_eq_false (by rw [sg_eq_zero];exact h0)] at h1
  have h1':=beq_eq_false_iff_ne.1 h1
  go_enter Tryz.func166,Tryz.ntmps166
  go_wp2
  go_ret2
  exact ⟨by rw [HT.out];rfl,rfl⟩
theorem W_max:W false (9007199254740992*2^K)=4845873199050653696:=by decide+kernel
theorem W_nmax:W true (9007199254740992*2^K)=14069245235905429504:=by decide+kernel
theorem rep_max:Rep (9007199254740992*2^K):=rep_int K (by decide) (by unfold K;omega)
def IsWhole (Z:Nat):Prop:=∃ m,m<=9007199254740992/\Z=m*2^K
theorem K_pos:0 < 2^K:=Nat.two_pow_pos K
theorem natAbs_sg (s:Bool) (m:Nat):(sg s m).natAbs=m:=by unfold sg;split <;> omega
theorem ofInt_sg (s:Bool) (m:Nat) (h:m<=9007199254740992):floatOfInt .f64 (sg s m)=W (decide (sg s m < 0)) (m*2^K):=by
 have:=ofInt (sg s m) (by rw [natAbs_sg];exact h)
 rw [natAbs_sg] at this
 exact this
theorem sg_dec (s:Bool) (m k:Nat):sg (decide (sg s m < 0)) (m*k)=sg s (m*k):=by
 by_cases h:m=0
 ·subst h;simp [sg_zero]
 ·cases s
  ·have:decide (sg false m < 0)=false:=decide_eq_false (by rw [sg_false];omega)
   rw [this]
  ·have:decide (sg true m < 0)=true:=decide_eq_true (by rw [sg_true];omega)
   rw [this]
theorem sg_inj (s:Bool) (a b:Nat):sg s a=sg s b↔a=b:=by unfold sg;split <;> omega
theorem div_le_of {Z:Nat} (h:Z<=9007199254740992*2^K):Z / 2^K<=9007199254740992:=by
 have:=Nat.div_le_div_right (c:=2^K) h
 rwa [Nat.mul_div_cancel _ K_pos] at this
structure WholeFacts (s:Bool) (Z:Nat):Prop where
 ge:(FloatKind.f64.format.order (W s Z) 14069245235905429504==some .gt||FloatKind.f64.format.order (W s Z) 14069245235905429504==some .eq)=true
 le:(FloatKind.f64.format.order (W s Z) 4845873199050653696==some .lt||FloatKind.f64.format.order (W s Z) 4845873199050653696==some .eq)=true
 conv:∀ w,(convert 96 2 (.float .f64 (W s Z))).run Tryz.prog w= .ok (.int .i64 (sg s (Z / 2^K))) w
 back:(FloatKind.f64.format.order (floatOfInt .f64 (sg s (Z / 2^K))) (W s Z)==some .eq)=decide (Z / 2^K*2^K=Z)
theorem whole_facts (s:Bool){Z:Nat} (hz:Rep Z) (h:Z<=9007199254740992*2^K):WholeFacts s Z:=by
 have hq:=div_le_of h
 have hr:=rep_int K hq (by unfold K;omega)
 refine ⟨?_,?_,?_,?_⟩
 ·rw [<- W_nmax,fo_gt s true hz rep_max,fo_eq s true hz rep_max,sg_true]
  generalize 9007199254740992*2^K=T at *
  rw [<- Bool.decide_or,decide_eq_true_eq];unfold sg;split <;> omega
 ·rw [<- W_max,fo_lt s false hz rep_max,fo_eq s false hz rep_max,sg_false]
  generalize 9007199254740992*2^K=T at *
  rw [<- Bool.decide_or,decide_eq_true_eq];unfold sg;split <;> omega
 ·intro w
  exact run_convert_float_int (P:=Tryz.prog) w 96 2 .f64 .i64 (W s Z) _ (by kernel_rfl) Tryz.underlying2 (toInt64_W s hz (by omega))
 ·rw [ofInt_sg s _ hq,fo_eq _ s hr hz,sg_dec,decide_eq_decide]
  exact sg_inj s _ _
theorem big_facts (s:Bool){Z:Nat} (hz:Rep Z) (h:¬ Z<=9007199254740992*2^K) :
  (s=true->(FloatKind.f64.format.order (W s Z) 14069245235905429504=some .lt)) /\
  (s=false->(FloatKind.f64.format.order (W s Z) 14069245235905429504=some .gt)/\(FloatKind.f64.format.order (W s Z) 4845873199050653696=some .gt)):=by
 have a1:FloatKind.f64.format.order (W s Z) 14069245235905429504=some (compare (sg s Z) (sg true (9007199254740992*2^K))):=by
  rw [<- W_nmax];exact order_W s true hz rep_max
 have a2:FloatKind.f64.format.order (W s Z) 4845873199050653696=some (compare (sg s Z) (sg false (9007199254740992*2^K))):=by
  rw [<- W_max];exact order_W s false hz rep_max
 rw [a1,a2]
 refine ⟨?_,?_⟩
 ·rintro rfl;rw [cmp_lt (by rw [sg_true,sg_true];omega)]
 ·rintro rfl;rw [cmp_gt (by rw [sg_true,sg_false];omega),cmp_gt (by rw [sg_false,sg_false];omega)];exact ⟨rfl,rfl⟩
theorem nwhole_yes (s:Bool) (m:Nat) (hm:m<=9007199254740992) (w:World) :
  Calls Tryz.prog 174 #[.float .f64 (W s (m*2^K))] w fun e w'=>e= .returned (.tuple #[.int .i64 (sg s m),.bool true])/\w=w':=by
 have hz:Rep (m*2^K):=rep_int K hm (by unfold K;omega)
 obtain ⟨h1,h2,h3,h4⟩:=whole_facts s hz (Nat.mul_le_mul_right _ hm)
 rw [Nat.mul_div_cancel _ K_pos] at h3 h4
 rw [decide_eq_true rfl] at h4
 generalize W s (m*2^K)=b at *
 have h1':=h1
 have h2':=h2
 simp only [Bool.or_eq_true,beq_iff_eq] at h1' h2'
 clear hz hm
 go_enter Tryz.func174,Tryz.ntmps174
 go_wp2
 go_ret2
 exact ⟨rfl,rfl⟩
theorem nwhole_no (s:Bool){Z:Nat} (hz:Rep Z) (h:¬ IsWhole Z) (w:World) :
  Calls Tryz.prog 174 #[.float .f64 (W s Z)] w fun e w'=>(∃ n,e= .returned (.tuple #[.int .i64 n,.bool false]))/\w=w':=by
 by_cases hle:Z<=9007199254740992*2^K
 ·obtain ⟨h1,h2,h3,h4⟩:=whole_facts s hz hle
  rw [decide_eq_false (fun e=>h ⟨Z / 2^K,div_le_of hle,e.symm⟩)] at h4
  generalize W s Z=b at *
  generalize sg s (Z / 2^K)=n at *
  have h1':=h1
  have h2':=h2
  simp only [Bool.or_eq_true,beq_iff_eq] at h1' h2'
  have h4':=beq_eq_false_iff_ne.1 h4
  clear hz h hle
  go_enter Tryz.func174,Tryz.ntmps174
  go_wp2
  go_ret2
  exact ⟨⟨n,rfl⟩,rfl⟩
 ·obtain ⟨h1,h2⟩:=big_facts s hz hle
  cases s
  ·obtain ⟨h2,h3⟩:=h2 rfl
   clear h1 hle h hz
   go_enter Tryz.func174,Tryz.ntmps174
   go_wp2
   go_ret2
   exact ⟨⟨0,rfl⟩,rfl⟩
  ·have h1:=h1 rfl
   clear h2 hle h hz
   go_enter Tryz.func174,Tryz.ntmps174
   go_wp2
   go_ret2
   exact ⟨⟨0,rfl⟩,rfl⟩
end Go.Proofs.YtbakjaliponbbaaGreatDoor
namespace Go.Proofs.YtbakjaliponbbaaGreatDoor.Fl
open Ieee Go
def wd (s:Bool) (E F:Nat):Nat:=s.toNat*9223372036854775808+E*4503599627370496+F
theorem wd_word (s:Bool) (E F:Nat):wd s E F=double.word s (E*4503599627370496+F):=by
 unfold wd Format.word;rw [signWeight];cases s <;> simp <;> omega
theorem wd_lt (s:Bool){E F:Nat} (hE:E < 2048) (hF:F < 4503599627370496):wd s E F < 18446744073709551616:=by
 unfold wd;cases s <;> simp <;> omega
theorem wd_shr (s:Bool){E F:Nat} (hE:E < 2048) (hF:F < 4503599627370496):wd s E F / 4503599627370496 % 2048=E:=by
 unfold wd;cases s <;> simp <;> omega
theorem and_sign (x:Nat):x &&& 9223372036854775808=x / 9223372036854775808 % 2*9223372036854775808:=nat_bit 63 x
theorem and_rest (x:Nat):x &&& 9223372036854775807=x % 9223372036854775808:=Nat.and_two_pow_sub_one_eq_mod x 63
theorem and_frac (x:Nat):x &&& 4503599627370495=x % 4503599627370496:=Nat.and_two_pow_sub_one_eq_mod x 52
theorem and_unexp (s:Bool){E F:Nat} (hE:E < 2048) (hF:F < 4503599627370496):wd s E F &&& 9227875636482146303=wd s 0 F:=by
 have e:(9227875636482146303:Nat)=9223372036854775808 ||| 4503599627370495:=by decide
 rw [e,Nat.and_or_distrib_left,and_sign,and_frac]
 have e1:wd s E F / 9223372036854775808 % 2=s.toNat:=by unfold wd;cases s <;> simp <;> omega
 have e2:wd s E F % 4503599627370496=F:=by unfold wd;cases s <;> simp <;> omega
 rw [e1,e2,nat_join 63 _ _ (by omega) (by omega)]
 unfold wd;omega
theorem or_exp (s:Bool){E F:Nat} (hE:E < 2048) (hF:F < 4503599627370496):wd s 0 F ||| E*4503599627370496=wd s E F:=by
 have e:wd s 0 F=s.toNat*9223372036854775808 ||| F:=by
  rw [nat_join 63 _ _ (by omega) (by omega)];unfold wd;omega
 rw [e,Nat.or_assoc,Nat.or_comm F,nat_join 52 (E*4503599627370496) F (by omega) (by omega),nat_join 63 _ _ (by omega) (by omega)]
 unfold wd;omega
theorem W_wd (s:Bool){Z:Nat} (hz:Rep Z) (h:4503599627370496<=Z) :
  ∃ E F,1<=E/\E<=2046/\F < 4503599627370496/\W s Z=wd s E F/\Z=(4503599627370496+F)*2^(E - 1):=by
 have hr:=rung_lt hz
 have hm:=mg_ex hz
 have h52:¬ rung Z < 4503599627370496:=by
  intro hlt
  unfold mg ex at hm
  have h2:rung Z < 2^52:=by omega
  simp only [h2,if_true] at hm;omega
 refine ⟨rung Z / 4503599627370496,rung Z % 4503599627370496,?_,?_,?_,?_,?_⟩
 ·omega
 ·omega
 ·omega
 ·rw [wd_word];unfold W;congr 1;omega
 ·unfold mg ex at hm
  have h2:¬ rung Z < 2^52:=by omega
  simp only [h2,if_false] at hm
  exact hm.symm
theorem read_wd (s:Bool){E F:Nat} (h1:1<=E) (h2:E<=2046) (hF:F < 4503599627370496) :
  double.read (wd s E F)= .number s (4503599627370496+F) (-1074+(E - 1:Nat)):=by
 rw [wd_word,read_word s (by omega)]
 have h3:¬ (E*4503599627370496+F < 2^52):=by omega
 unfold mg ex
 simp only [h3,if_false]
 have e1:(E*4503599627370496+F) % 2^52=F:=by omega
 have e2:(E*4503599627370496+F) / 2^52 - 1=E - 1:=by omega
 rw [e1,e2]
theorem mul_pow_l (c:Nat) (p:Int) (hc:double.read c= .number false 4503599627370496 p) (b:Nat) (s:Bool) (m:Nat) (i:Int) (hb:double.read b= .number s m i) :
  double.mul c b=some (double.nearest s m (i+p+52)):=by
 simp only [Format.mul,hb,hc,Datum.product,Format.write,Option.map_some]
 have e:(4503599627370496:Nat)*m=m*2^52:=by omega
 have e2:(false ^^ s)=s:=by simp
 rw [e,nearest_shift,e2,show p+i+((52:Nat):Int)=i+p+52 by omega]
theorem mul_pow_r (c:Nat) (p:Int) (hc:double.read c= .number false 4503599627370496 p) (b:Nat) (s:Bool) (m:Nat) (i:Int) (hb:double.read b= .number s m i) :
  double.mul b c=some (double.nearest s m (i+p+52)):=by
 simp only [Format.mul,hb,hc,Datum.product,Format.write,Option.map_some]
 have e:m*(4503599627370496:Nat)=m*2^52:=by omega
 have e2:(s ^^ false)=s:=by simp
 rw [e,nearest_shift,e2,show i+p+((52:Nat):Int)=i+p+52 by omega]
theorem read_one:double.read 4607182418800017408= .number false 4503599627370496 (-52):=by decide
theorem read_m53:double.read 4368491638549381120= .number false 4503599627370496 (-105):=by decide
theorem read_p52:double.read 4841369599423283200= .number false 4503599627370496 0:=by decide
theorem mul_p52 (s:Bool){Z:Nat} (hz:Rep Z) (hl:Z < 4503599627370496):Rep (Z*2^52)/\double.mul (W s Z) 4841369599423283200=some (W s (Z*2^52)):=by
 have hr:Rep (Z*2^52):=by
  refine ⟨?_,Z,52,by omega,rfl⟩
  by_cases h0:Z=0
  ·subst h0;simp
  rw [log2_mul_pow 52 h0]
  have:Z.log2<=51:=log2_lt_of (by omega)
  omega
 refine ⟨hr,?_⟩
 rw [mul_pow_r _ _ read_p52 _ _ _ _ (read_W s hz),<- nearest_W s hr]
 congr 1
 have e:Z*2^52=mg (rung Z)*2^(ex (rung Z)+52):=by rw [Nat.pow_add,<- Nat.mul_assoc,mg_ex hz]
 rw [e,nearest_shift];congr 1;omega
theorem nearest_small (s:Bool){m:Nat} (hm:m < 2^53) (p:Int) (hp:p < -1127):double.nearest s m p=W s 0:=by
 by_cases h0:m=0
 ·subst h0;simp [Format.nearest,W,rung]
 rw [nearest_eq s h0]
 have hl:m.log2<=52:=log2_lt_of hm
 have e1:max (p+(m.log2:Int) - 52) (-1074)=-1074:=by omega
 rw [e1]
 have e3:(p - (-1074)).toNat=0:=by omega
 rw [e3]
 obtain ⟨d,hd,hd2⟩:∃ d,(-1074 - p).toNat=d/\54<=d:=⟨_,rfl,by omega⟩
 rw [hd]
 have h54:2^54<=2^d:=Nat.pow_le_pow_right (by omega) hd2
 have a0:(2^54:Nat)=18014398509481984:=by decide
 have a9:(2^53:Nat)=9007199254740992:=by decide
 have e5:rhe (m*2^0) d=0:=by
  unfold rhe
  simp only [Nat.pow_zero,Nat.mul_one]
  have b1:m / 2^d=0:=Nat.div_eq_of_lt (by omega)
  have b2:m % 2^d=m:=Nat.mod_eq_of_lt (by omega)
  rw [b1,b2]
  have a1:decide (2^d < 2*m)=false:=by simp;omega
  have a2:(2^d==2*m)=false:=by simp;omega
  simp [a1,a2]
 rw [e5];simp [W,rung]
def ldx (s:Bool) (Z:Nat) (k:Int):Nat:=double.nearest s Z (-1074+k)
theorem ldx_shift (s:Bool) (Z j:Nat) (k:Int):ldx s (Z*2^j) k=ldx s Z (k+j):=by
 unfold ldx;rw [nearest_shift];congr 1;omega
theorem ldx_parts (s:Bool) (M E:Nat) (k:Int):ldx s (M*2^(E - 1)) k=double.nearest s M (-1074+k+(E - 1:Nat)):=by
 unfold ldx;rw [nearest_shift]
end Go.Proofs.YtbakjaliponbbaaGreatDoor.Fl
