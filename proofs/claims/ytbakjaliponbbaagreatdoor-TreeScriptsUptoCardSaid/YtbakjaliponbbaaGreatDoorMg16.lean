/- The walk of the reference's Parts: it tells what lit.Parts tells. The walks of the reference's whole and Write and of lit.Write. The walks of the reference's .. Conditions: as each theorem says. -/
import Derived.Test.YtbakjaliponbbaaGreatDoorMg15
import Derived.Test.YtbakjaliponbbaaGreatDoorMg02
import Derived.Test.YtbakjaliponbbaaGreatDoorMg14
import Derived.Test.YtbakjaliponbbaaGreatDoorMg00
import Derived.Deep.RegionHeld3
import Derived.Test.YtbakjaliponbbaaGreatDoorMg08
set_option maxRecDepth 100000
set_option maxHeartbeats 1000000
namespace Go.Proofs.YtbakjaliponbbaaGreatDoor
open Go Go.RowKit Go.Proofs Fl
theorem rwhole_yes (s:Bool) (m:Nat) (hm:m<=9007199254740992) (w:World) :
  Calls Tryz.prog 177 #[.float .f64 (W s (m*2^K))] w fun e w'=>e= .returned (.bool true)/\w=w':=by
 have hz:Rep (m*2^K):=rep_int K hm (by unfold K;omega)
 obtain ⟨h1,h2,h3,h4⟩:=whole_facts s hz (Nat.mul_le_mul_right _ hm)
 rw [Nat.mul_div_cancel _ K_pos] at h3 h4
 rw [decide_eq_true rfl] at h4
 generalize W s (m*2^K)=b at *
 have h1':=h1
 have h2':=h2
 simp only [Bool.or_eq_true,beq_iff_eq] at h1' h2'
 clear hz hm
 go_enter Tryz.func177,Tryz.ntmps177
 go_wp2
 go_ret
 exact ⟨rfl,rfl⟩
theorem rwhole_no (s:Bool){Z:Nat} (hz:Rep Z) (h:¬ IsWhole Z) (w:World) :
  Calls Tryz.prog 177 #[.float .f64 (W s Z)] w fun e w'=>e= .returned (.bool false)/\w=w':=by
 by_cases hle:Z<=9007199254740992*2^K
 ·obtain ⟨h1,h2,h3,h4⟩:=whole_facts s hz hle
  rw [decide_eq_false (fun e=>h ⟨Z / 2^K,div_le_of hle,e.symm⟩)] at h4
  generalize W s Z=b at *
  generalize sg s (Z / 2^K)=n at *
  have h1':=h1
  have h2':=h2
  simp only [Bool.or_eq_true,beq_iff_eq] at h1' h2'
  have h4':=beq_eq_false_iff_ne.1 h4
  clear hz h hle
  go_enter Tryz.func177,Tryz.ntmps177
  go_wp2
  go_ret
  exact ⟨rfl,rfl⟩
 ·obtain ⟨h1,h2⟩:=big_facts s hz hle
  cases s
  ·obtain ⟨h2,h3⟩:=h2 rfl
   clear h1 hle h hz
   go_enter Tryz.func177,Tryz.ntmps177
   go_wp2
   go_ret
   exact ⟨rfl,rfl⟩
  ·have h1:=h1 rfl
   clear h2 hle h hz
   go_enter Tryz.func177,Tryz.ntmps177
   go_wp2
   go_ret
   exact ⟨rfl,rfl⟩
def MX:Nat:=9007199254740992*2^K
def Inv1 (Z k X:Nat) (p:Int):Prop :=
 Rep X/\X≠0/\((∃ e,k+K<=e/\e<=2045/\Z=X*2^k/\(∃ q,q < 2^53/\X=q*2^(e - k))/\p=k)\/(k<=K/\X=Z*2^k/\X<=MX/\p=-(k:Int)))
theorem inv1_start {Z:Nat} (hz:Rep Z) (h0:Z≠0):Inv1 Z 0 Z 0:=by
 refine ⟨hz,h0,?_⟩
 by_cases h:Z<=MX
 ·exact .inr ⟨by omega,by simp,h,rfl⟩
 ·refine .inl ⟨Z.log2 - 52,?_,by have:=hz.1;omega,by simp,by simpa using hz.dvd,rfl⟩
  have h2:2^(53+K)<=Z:=by
   rw [Nat.pow_add];unfold MX at h
   rw [show (2^53:Nat)=9007199254740992 by decide];omega
  have:=le_log2_of h2
  omega
theorem mul_le_cancel {a b:Nat} (h:a*2^K<=b*2^K):a<=b:=Nat.le_of_mul_le_mul_right h K_pos
theorem rep_whole {X:Nat} (hX:Rep X) (h1:2^52*2^K<=X) (h2:X<=MX):IsWhole X:=by
 obtain ⟨q,hq,e⟩:=hX.dvd
 have hl:52+K<=X.log2:=le_log2_of (by rw [Nat.pow_add];exact h1)
 have e2:X=q*2^(X.log2 - 52 - K)*2^K:=by
  rw [Nat.mul_assoc,<- Nat.pow_add,show X.log2 - 52 - K+K=X.log2 - 52 by omega];exact e
 exact ⟨_,mul_le_cancel (by rw [<- e2];exact h2),e2⟩
theorem inv1_step {Z k X:Nat}{p:Int} (h:Inv1 Z k X p) (hn:¬ IsWhole X) :
  k < 2199/\((¬ X<=MX/\Inv1 Z (k+1) (hlf X) (p+1))\/(X < MX/\Rep (X*2)/\Inv1 Z (k+1) (X*2) (p - 1))):=by
 obtain ⟨hr,hne,h | h⟩:=h
 ·obtain ⟨e,he,he2,hZ,⟨q,hq,hX⟩,hp⟩:=h
  have hK:K=1074:=rfl
  refine ⟨by omega,.inl ⟨?_,?_⟩⟩
  ·intro hle
   refine hn ⟨q*2^(e - k - K),mul_le_cancel ?_,?_⟩
   ·rw [Nat.mul_assoc,<- Nat.pow_add,show e - k - K+K=e - k by omega,<- hX];exact hle
   ·rw [Nat.mul_assoc,<- Nat.pow_add,show e - k - K+K=e - k by omega];exact hX
  ·have hlt:k+1+K<=e:=by
    refine Nat.lt_of_le_of_ne he ?_
    intro heq
    refine hn ⟨q,by omega,?_⟩
    rw [hX];congr 2;omega
   have hX2:X=q*2^(e - (k+1))*2:=by
    rw [Nat.mul_assoc,<- Nat.pow_succ,show (e - (k+1)).succ=e - k by omega];exact hX
   have e1:hlf X=q*2^(e - (k+1)):=by rw [hX2,hlf_even]
   have hr2:=hr.hlf
   refine ⟨hr2,?_,.inl ⟨e,hlt,he2,?_,⟨q,hq,e1⟩,by omega⟩⟩
   ·rw [e1];intro h0;rw [h0] at hX2;omega
   ·rw [e1,Nat.pow_succ,Nat.mul_comm (2^k),<- Nat.mul_assoc,<- hX2];exact hZ
 ·obtain ⟨hk,hX,hle,hp⟩:=h
  have hK:K=1074:=rfl
  have hlt:X < 2^52*2^K:=by
   refine Nat.lt_of_not_le fun h1=>hn (rep_whole hr h1 hle)
  have hMX:MX=2*(2^52*2^K):=by unfold MX;rw [<- Nat.mul_assoc]
  have hkK:k≠K:=by
   intro e
   rw [e] at hX
   exact hn ⟨Z,mul_le_cancel (by rw [<- hX];exact hle),hX⟩
  have hp0:0 < 2^52*2^K:=Nat.mul_pos (by omega) K_pos
  have hr2:Rep (X*2):=by
   obtain ⟨hl,m,j,hm,e⟩:=hr
   refine ⟨?_,m,j+1,hm,by rw [e,Nat.pow_succ,Nat.mul_assoc]⟩
   have h2:X*2 < 2^(53+K+1):=by
    rw [Nat.pow_succ,Nat.pow_add]
    generalize 2^K=T at *
    omega
   have:=log2_lt_of h2
   omega
  refine ⟨by omega,.inr ⟨by omega,hr2,hr2,by omega,.inr ⟨by omega,?_,by omega,by omega⟩⟩⟩
  rw [hX,Nat.pow_succ,Nat.mul_assoc]
theorem inv1_rel {Z k X:Nat}{p:Int} (h:Inv1 Z k X p):∃ a b:Nat,Z*2^a=X*2^b/\(b:Int) - a=p:=by
 obtain ⟨hr,hne,h | h⟩:=h
 ·obtain ⟨e,he,he2,hZ,_,hp⟩:=h
  exact ⟨0,k,by simpa using hZ,by omega⟩
 ·obtain ⟨hk,hX,hle,hp⟩:=h
  exact ⟨k,0,by simpa using hX.symm,by omega⟩
theorem inv1_pow {Z k X:Nat}{p:Int} (h:Inv1 Z k X p):-3000<=p/\p<=3000:=by
 have hK:K=1074:=rfl
 obtain ⟨hr,hne,h | h⟩:=h
 ·obtain ⟨e,he,he2,hZ,_,hp⟩:=h;omega
 ·obtain ⟨hk,hX,hle,hp⟩:=h;omega
def Inv2 (Z k m:Nat) (p:Int):Prop:=m<=9007199254740992/\m≠0/\m*2^k<=9007199254740992/\∃ a b:Nat,Z*2^a=m*2^(K+b)/\(b:Int) - a=p
theorem inv2_start {Z k m:Nat}{p:Int} (hm:m<=9007199254740992) (h:Inv1 Z k (m*2^K) p):Inv2 Z 0 m p:=by
 obtain ⟨a,b,e,hp⟩:=inv1_rel h
 refine ⟨hm,?_,by simpa using hm,a,b,by rw [e,Nat.pow_add,Nat.mul_assoc],hp⟩
 rintro rfl
 exact h.2.1 (by simp)
theorem inv2_bound {Z k m:Nat}{p:Int} (h:Inv2 Z k m p):k<=53:=by
 obtain ⟨_,h0,h,_⟩:=h
 have h1:2^k<=m*2^k:=Nat.le_mul_of_pos_left _ (by omega)
 have h2:2^k<=2^53:=by omega
 exact (Nat.pow_le_pow_iff_right (by omega)).1 h2
theorem inv2_even {Z k m:Nat}{p:Int} (h:Inv2 Z k m p) (hm:m % 2=0):hlf (m*2^K)=m / 2*2^K/\Inv2 Z (k+1) (m / 2) (p+1):=by
 have e:m=m / 2*2:=by omega
 obtain ⟨h1,h0,h2,a,b,h3,h4⟩:=h
 refine ⟨?_,by omega,by omega,?_,a,b+1,?_,by omega⟩
 ·have e2:m*2^K=m / 2*2^K*2:=by rw [Nat.mul_right_comm,<- e]
  rw [e2,hlf_even]
 ·rw [Nat.pow_succ,Nat.mul_comm (2^k),<- Nat.mul_assoc,<- e];exact h2
 ·rw [h3,<- Nat.add_assoc,Nat.pow_succ,Nat.mul_comm _ 2,<- Nat.mul_assoc,<- e]
theorem hlf_oddK {m:Nat} (hm:m % 2=1):¬ IsWhole (hlf (m*2^K)):=by
 obtain ⟨J,hJ⟩:∃ J,K=J+1:=⟨1073,rfl⟩
 have e:m*2^K=m*2^J*2:=by rw [hJ,Nat.pow_succ,Nat.mul_assoc]
 rw [e,hlf_even]
 rintro ⟨n,_,h⟩
 rw [hJ,Nat.pow_succ,Nat.mul_comm (2^J),<- Nat.mul_assoc] at h
 have:=Nat.eq_of_mul_eq_mul_right (Nat.two_pow_pos J) h
 omega
theorem inv2_end {Z k m:Nat}{p:Int} (s:Bool) (h:Inv2 Z k m p) (hm:m % 2=1):PartsIs s Z (.returned (.tuple #[.int .i64 (sg s m),.int .i64 p])):=by
 obtain ⟨h1,h0,h2,a,b,h3,h4⟩:=h
 obtain ⟨j,hj,hZ⟩:=parts_shift (z:=0) (r:=m / 2) h3 (by simp;omega)
 have e:2*(m / 2)+1=m:=by omega
 rw [e] at hZ
 refine ⟨m,j,?_,hm,hZ⟩
 have hK:K=1074:=rfl
 rw [show (j:Int) - 1074=p by omega]
theorem W_MX:W false MX=4845873199050653696:=W_max
theorem W_nMX:W true MX=14069245235905429504:=W_nmax
theorem rep_MX:Rep MX:=rep_max
theorem lt_facts (s:Bool){X:Nat} (hX:Rep X) (h:X<=MX) :
  (FloatKind.f64.format.order (W s X) 4845873199050653696==some .gt)=false/\(FloatKind.f64.format.order (W s X) 14069245235905429504==some .lt)=false:=by
 rw [<- W_MX,<- W_nMX,fo_gt s false hX rep_MX,fo_lt s true hX rep_MX,sg_true,sg_false]
 unfold sg
 constructor
 ·apply decide_eq_false;split <;> omega
 ·apply decide_eq_false;split <;> omega
theorem gt_facts (s:Bool){X:Nat} (hX:Rep X) (h:¬ X<=MX) :
  (s=false->(FloatKind.f64.format.order (W s X) 4845873199050653696==some .gt)=true) /\
  (s=true->(FloatKind.f64.format.order (W s X) 4845873199050653696==some .gt)=false/\(FloatKind.f64.format.order (W s X) 14069245235905429504==some .lt)=true):=by
 rw [<- W_MX,<- W_nMX,fo_gt s false hX rep_MX,fo_lt s true hX rep_MX,sg_true,sg_false]
 constructor
 ·rintro rfl;rw [sg_false];exact decide_eq_true (by omega)
 ·rintro rfl;rw [sg_true];exact ⟨decide_eq_false (by omega),decide_eq_true (by omega)⟩
structure RpB (s:Bool) (B:Nat->Nat):Prop where
 yes:∀ m,m<=9007199254740992->∀ w,Calls Tryz.prog 177 #[.float .f64 (B m)] w fun e w'=>e= .returned (.bool true)/\w=w'
 even:∀ m,m<=9007199254740992->m % 2=0->∀ w,(binOp .quo 96 (.float .f64 (B m)) (.float .f64 4611686018427387904)).run Tryz.prog w= .ok (.float .f64 (B (m / 2))) w
 odd:∀ m,m<=9007199254740992->m % 2=1->∃ h,(∀ w,(binOp .quo 96 (.float .f64 (B m)) (.float .f64 4611686018427387904)).run Tryz.prog w= .ok (.float .f64 h) w) /\
  ∀ w,Calls Tryz.prog 177 #[.float .f64 h] w fun e w'=>e= .returned (.bool false)/\w=w'
 int:∀ m,m<=9007199254740992->∀ w,(convert 96 2 (.float .f64 (B m))).run Tryz.prog w= .ok (.int .i64 (sg s m)) w
theorem rpB (s:Bool):RpB s (fun m=>W s (m*2^K)) where
 yes:=fun m hm w=>rwhole_yes s m hm w
 even:=fun m hm he w=>by
  have:=div_two_run s (rep_unit hm) w
  have e:m*2^K=m / 2*2^K*2:=by rw [Nat.mul_right_comm];congr 1;omega
  rw [show hlf (m*2^K)=m / 2*2^K by rw [e,hlf_even]] at this
  exact this
 odd:=fun m hm ho=>⟨W s (hlf (m*2^K)),div_two_run s (rep_unit hm),rwhole_no s (rep_unit hm).hlf (hlf_oddK ho)⟩
 int:=fun m hm w=>by
  have:=toInt64_W s (rep_unit hm) (by rw [Nat.mul_div_cancel _ K_pos];omega)
  rw [Nat.mul_div_cancel _ K_pos] at this
  exact run_convert_float_int (P:=Tryz.prog) w 96 2 .f64 .i64 (W s (m*2^K)) _ (by kernel_rfl) Tryz.underlying2 this
theorem rparts_any (s:Bool){Z:Nat} (hz:Rep Z) (h0:Z≠0) (w:World) :
  Calls Tryz.prog 179 #[.float .f64 (W s Z)] w fun e w'=>PartsIs s Z e/\w=w':=by
 have h1:=fo_eq s false hz rep_zero
 rw [W_zero,sg_zero,decide_eq_false (by rw [sg_eq_zero];exact h0)] at h1
 have h1':=beq_eq_false_iff_ne.1 h1
 have HS:=Lib.hid (inv1_start hz h0)
 obtain ⟨B,hB⟩:∃ B:Nat->Nat,B=fun m=>W s (m*2^K):=⟨_,rfl⟩
 have HB:Hid (RpB s B):=by rw [hB];exact rpB s
 have HBe:Hid (∀ m,W s (m*2^K)=B m):=by rw [hB];exact fun _=>rfl
 obtain ⟨N,hN,hN2⟩:∃ N:Nat,2200<=N/\N<=2200:=⟨2200,by omega,by omega⟩
 obtain ⟨N3,hN3,hN4⟩:∃ N:Nat,60<=N/\N<=60:=⟨60,by omega,by omega⟩
 clear hz h0 hB
 go_enter Tryz.func179,Tryz.ntmps179
 go_wp2
 go_loop [0,4,5] (fun x p i=>∃ (k X:Nat) (q:Int),k < N/\i= .int .i64 k/\x= .float .f64 (W s X)/\p= .int .i64 q/\Hid (Inv1 Z k X q)/\-3000<=q/\q<=3000) (fun _ _ i=>N - (intOf i).toNat)
 case atStart=>exact ⟨0,Z,0,by omega,rfl,rfl,rfl,HS,by omega,by omega⟩
 case round =>
  obtain ⟨k,X,q,hk,rfl,rfl,rfl,hq,hq1,hq2⟩:=hrel
  clear h1 h1'
  have hrX:Rep X:=hq.out.1
  by_cases hw:IsWhole X
  ·obtain ⟨m,hm,hXm⟩:=hw
   have H2:=Lib.hid (inv2_start hm (by rw [<- hXm];exact hq.out))
   rw [hXm,HBe.out]
   clear hq hrX hXm
   go_wp2_with (go_at_call 177;refine (HB.out.yes m hm _).mono ?_;rintro e w' ⟨rfl,rfl⟩)
   go_loop [0,4,6] (fun x p i=>∃ (k m:Nat) (q:Int),k < N3/\i= .int .i64 k/\x= .float .f64 (B m)/\p= .int .i64 q/\m<=9007199254740992/\Hid (Inv2 Z k m q)/\-3000<=q/\q<=3000+k) (fun _ _ i=>N3 - (intOf i).toNat)
   case atStart=>exact ⟨0,m,q,by omega,rfl,rfl,rfl,hm,H2,by omega,by omega⟩
   case round =>
    obtain ⟨k,m,q,hk,rfl,rfl,rfl,hm,hq,hq1,hq2⟩:=hrel
    have hb:=inv2_bound hq.out
    rcases Nat.mod_two_eq_zero_or_one m with hme | hmo
    ·have f1:=HB.out.even m hm hme
     obtain ⟨e1,i2⟩:=inv2_even hq.out hme
     have I2:=Lib.hid i2
     have hb2:=inv2_bound i2
     have hm2:m / 2<=9007199254740992:=by omega
     clear hq hme e1 i2 hm
     generalize m / 2=m2 at *
     go_wp2_with (go_at_call 177;refine (HB.out.yes m2 hm2 _).mono ?_;rintro e w' ⟨rfl,rfl⟩)
     go_round
     case rel=>exact ⟨k+1,m2,q+1,by omega,by go_num,rfl,rfl,hm2,I2,by omega,by omega⟩
     case measure=>simp [intOf];omega
    ·obtain ⟨h,f1,hn⟩:=HB.out.odd m hm hmo
     have hend:=inv2_end s hq.out hmo
     have HE:=Lib.hid hend
     have HN:=Lib.hid hn
     have c1:=HB.out.int m hm
     clear hq hmo hend hn
     go_wp2_with (go_at_call 177;refine (HN.out _).mono ?_;rintro e w' ⟨rfl,rfl⟩)
     go_ret2
     exact ⟨HE.out,rfl⟩
  ·obtain ⟨hk2,h | h⟩:=inv1_step hq.out hw
   ·obtain ⟨hgt,hi⟩:=h
    have HI:=Lib.hid hi
    obtain ⟨g1,g2⟩:=gt_facts s hrX hgt
    have f1:=div_two_run s hrX
    have hp:=inv1_pow hi
    have HW:=Lib.hid (rwhole_no s hrX hw)
    clear hi hgt hq hw
    generalize hlf X=X2 at *
    cases s
    ·have g1:=g1 rfl
     clear g2
     go_wp2_with (go_at_call 177;refine (HW.out _).mono ?_;rintro e w' ⟨rfl,rfl⟩)
     go_round
     case rel=>exact ⟨k+1,X2,q+1,by omega,by go_num,rfl,rfl,HI,by omega,by omega⟩
     case measure=>simp [intOf];omega
    ·obtain ⟨g2,g3⟩:=g2 rfl
     have g2':=beq_eq_false_iff_ne.1 g2
     clear g1
     go_wp2_with (go_at_call 177;refine (HW.out _).mono ?_;rintro e w' ⟨rfl,rfl⟩)
     go_round
     case rel=>exact ⟨k+1,X2,q+1,by omega,by go_num,rfl,rfl,HI,by omega,by omega⟩
     case measure=>simp [intOf];omega
   ·obtain ⟨hlt,hr2,hi⟩:=h
    have HI:=Lib.hid hi
    obtain ⟨g1,g2⟩:=lt_facts s hrX (by omega)
    have g1':=beq_eq_false_iff_ne.1 g1
    have g2':=beq_eq_false_iff_ne.1 g2
    have f1:=mul_two_fits s hrX hr2
    have hp:=inv1_pow hi
    have HW:=Lib.hid (rwhole_no s hrX hw)
    clear hi hlt hq hr2 hw
    generalize X*2=X2 at *
    go_wp2_with (go_at_call 177;refine (HW.out _).mono ?_;rintro e w' ⟨rfl,rfl⟩)
    go_round
    case rel=>exact ⟨k+1,X2,q - 1,by omega,by go_num,rfl,rfl,HI,by omega,by omega⟩
    case measure=>simp [intOf];omega
theorem encode_high:Utf8.encode 175=⟨#[194,175]⟩:=by decide+kernel
theorem encode_p:Utf8.encode 112=⟨#[112]⟩:=by decide+kernel
theorem decR_len16 (m:Nat) (h:m<=9007199254740992):(decR m).length<=16:=by
 rcases decR_len 16 m (by omega) with h | h
 ·exact h
 ·omega
theorem writeS_len (n:Int) (h1:-9007199254740992<=n) (h2:n<=9007199254740992):(writeS n).length<=17:=by
 unfold writeS
 have:=decR_len16 n.natAbs (by omega)
 split <;> simp <;> omega
theorem writeS_ne (n:Int):writeS n≠[]:=by
 unfold writeS
 intro h
 have:=(List.append_eq_nil_iff.1 h).2
 exact decR_ne _ (List.reverse_eq_nil_iff.1 this)
theorem size_writeS (n:Int) (h1:-9007199254740992<=n) (h2:n<=9007199254740992):(runesBytes (writeS n)).size<=68:=by
 have:=runesBytes_size_le (writeS n)
 have:=writeS_len n h1 h2
 omega
theorem rwhole_text (n:Int) (h1:-9007199254740992<=n) (h2:n<=9007199254740992) (w:World) :
  Calls Tryz.prog 178 #[.int .i64 n] w fun e w'=>Texts w (runesBytes (writeS n)) e w':=by
 by_cases h:n < 0
 ·obtain ⟨m,hm⟩:=Int.eq_ofNat_of_zero_le (show 0<=-n by omega)
  obtain rfl:n=-(m:Int):=by omega
  have hd:=rdigits_any m (by omega) w
  have hsz:=runesBytes_size_le (decR m).reverse
  have hl:=decR_len16 m (by omega)
  have HE:Hid (runesBytes (writeS (-(m:Int)))=⟨#[194,175]⟩++runesBytes (decR m).reverse):=by
   show _=_
   unfold writeS;rw [if_pos h,show (-(m:Int)).natAbs=m by omega,runesBytes_append,runesBytes_cons,runesBytes_nil,encode_high];simp
  rw [List.length_reverse] at hsz
  generalize runesBytes (decR m).reverse=S at *
  have hs:S.size<=64:=by omega
  clear hsz
  have HD:=Lib.hid hd
  clear hd
  go_enter Tryz.func178,Tryz.ntmps178
  go_wp2_with fail
  refine (HD.out).mono ?_
  rintro e w' ⟨rfl,hb⟩
  go_wp2
  go_ret
  exact ⟨by rw [HE.out];rfl,hb⟩
 ·obtain ⟨m,rfl⟩:=Int.eq_ofNat_of_zero_le (show 0<=n by omega)
  have HD:=Lib.hid (rdigits_any m (by omega) w)
  have HE:Hid (runesBytes (writeS (m:Int))=runesBytes (decR m).reverse):=by
   show _=_
   unfold writeS;rw [if_neg h,Int.natAbs_natCast,List.nil_append]
  go_enter Tryz.func178,Tryz.ntmps178
  go_wp2_with fail
  refine (HD.out).mono ?_
  rintro e w' ⟨rfl,hb⟩
  go_wp2
  go_ret
  exact ⟨by rw [HE.out];rfl,hb⟩
def WrIs (s:Bool) (Z:Nat) (l:List Int):Prop :=
 (∃ m,m<=9007199254740992/\Z=m*2^K/\l=writeS (sg s m)) \/
 (¬ IsWhole Z/\∃ q j:Nat,q % 2=1/\Z=q*2^j/\l=writeS (sg s q)++112::writeS ((j:Int) - 1074))
theorem odd_unique {q q' j j':Nat} (h:q*2^j=q'*2^j') (hq:q % 2=1) (hq':q' % 2=1):q=q'/\j=j':=by
 have key:∀ (q q' j j':Nat),q % 2=1->j < j'->q*2^j=q'*2^j'->False:=by
  intro q q' j j' hq hlt h
  obtain ⟨d,rfl⟩:∃ d,j'=d+1+j:=⟨j' - j - 1,by omega⟩
  rw [Nat.pow_add,<- Nat.mul_assoc] at h
  have h2:=Nat.eq_of_mul_eq_mul_right (Nat.two_pow_pos j) h
  rw [Nat.pow_succ,<- Nat.mul_assoc] at h2
  omega
 rcases Nat.lt_trichotomy j j' with hlt | rfl | hlt
 ·exact (key q q' j j' hq hlt h).elim
 ·exact ⟨Nat.eq_of_mul_eq_mul_right (Nat.two_pow_pos j) h,rfl⟩
 ·exact (key q' q j' j hq' hlt h.symm).elim
theorem odd_bounds {Z q j:Nat} (hz:Rep Z) (hq:q % 2=1) (h:Z=q*2^j):q < 9007199254740992/\j<=2097:=by
 obtain ⟨hl,m,k,hm,e⟩:=hz
 have hm0:m≠0:=by
  rintro rfl
  rw [Nat.zero_mul,h] at e
  have:=Nat.two_pow_pos j
  rcases Nat.mul_eq_zero.1 e with h1 | h1 <;> omega
 obtain ⟨z,r,hr⟩:=odd_parts m hm0
 have hp:=Nat.two_pow_pos z
 have e2:q*2^j=(2*r+1)*2^(z+k):=by rw [<- h,e,hr,Nat.pow_add,Nat.mul_comm (2^z),Nat.mul_assoc]
 obtain ⟨rfl,rfl⟩:=odd_unique e2 hq (by omega)
 have h1:2*r+1<=2^z*(2*r+1):=Nat.le_mul_of_pos_left _ hp
 refine ⟨by omega,?_⟩
 have h0:2*r+1≠0:=by omega
 rw [h,log2_mul_pow _ h0] at hl
 omega
theorem rparts_exact (s:Bool){q j:Nat} (hq:q % 2=1) (hz:Rep (q*2^j)) (w:World) :
  Calls Tryz.prog 179 #[.float .f64 (W s (q*2^j))] w fun e w'=>e= .returned (.tuple #[.int .i64 (sg s q),.int .i64 ((j:Int) - 1074)])/\w=w':=by
 have h0:q*2^j≠0:=by have:=Nat.two_pow_pos j;intro h;rcases Nat.mul_eq_zero.1 h with h1 | h1 <;> omega
 refine (rparts_any s hz h0 w).mono ?_
 rintro e w' ⟨⟨q',j',rfl,h1,h2⟩,rfl⟩
 obtain ⟨rfl,rfl⟩:=odd_unique h2 hq h1
 exact ⟨rfl,rfl⟩
theorem lparts_exact (s:Bool){q j:Nat} (hq:q % 2=1) (hz:Rep (q*2^j)) (w:World) (ht:TzTab w) :
  Calls Tryz.prog 176 #[.float .f64 (W s (q*2^j))] w fun e w'=>e= .returned (.tuple #[.int .i64 (sg s q),.int .i64 ((j:Int) - 1074)])/\w=w':=by
 have h0:q*2^j≠0:=by have:=Nat.two_pow_pos j;intro h;rcases Nat.mul_eq_zero.1 h with h1 | h1 <;> omega
 refine (lparts_any s hz h0 w ht).mono ?_
 rintro e w' ⟨⟨q',j',rfl,h1,h2⟩,rfl⟩
 obtain ⟨rfl,rfl⟩:=odd_unique h2 hq h1
 exact ⟨rfl,rfl⟩
theorem conv_whole (s:Bool) (m:Nat) (hm:m<=9007199254740992) (w:World):(convert 96 2 (.float .f64 (W s (m*2^K)))).run Tryz.prog w= .ok (.int .i64 (sg s m)) w:=by
 have:=toInt64_W s (rep_unit hm) (by rw [Nat.mul_div_cancel _ K_pos];omega)
 rw [Nat.mul_div_cancel _ K_pos] at this
 exact run_convert_float_int (P:=Tryz.prog) w 96 2 .f64 .i64 (W s (m*2^K)) _ (by kernel_rfl) Tryz.underlying2 this
theorem sg_bd (s:Bool){m:Nat} (hm:m<=9007199254740992):-9007199254740992<=sg s m/\sg s m<=9007199254740992:=by
 unfold sg;split <;> omega
theorem rWrite_whole (b:Nat) (n:Int) (h1:-9007199254740992<=n) (h2:n<=9007199254740992)
  (hw:∀ w,Calls Tryz.prog 177 #[.float .f64 b] w fun e w'=>e= .returned (.bool true)/\w=w')
  (hc:∀ w,(convert 96 2 (.float .f64 b)).run Tryz.prog w= .ok (.int .i64 n) w) (w:World) :
  Calls Tryz.prog 127 #[.float .f64 b] w fun e w'=>Texts w (runesBytes (writeS n)) e w':=by
 have HW:=Lib.hid hw
 clear hw
 generalize hS:runesBytes (writeS n)=S
 have HD:Hid (∀ w,Calls Tryz.prog 178 #[.int .i64 n] w fun e w'=>Texts w S e w'):=by
  rw [<- hS];exact fun w=>rwhole_text n h1 h2 w
 clear hS
 go_enter Tryz.func127,Tryz.ntmps127
 go_wp2_with fail
 refine (HW.out _).mono ?_
 rintro e w' ⟨rfl,rfl⟩
 go_wp2_with fail
 refine (HD.out _).mono ?_
 rintro e w' ⟨rfl,hb⟩
 go_wp2
 go_ret
 exact ⟨rfl,hb⟩
theorem rWrite_parts (b:Nat) (n p:Int) (h1:-9007199254740992<=n) (h2:n<=9007199254740992) (h3:-9007199254740992<=p) (h4:p<=9007199254740992)
  (hw:∀ w,Calls Tryz.prog 177 #[.float .f64 b] w fun e w'=>e= .returned (.bool false)/\w=w')
  (hp:∀ w,Calls Tryz.prog 179 #[.float .f64 b] w fun e w'=>e= .returned (.tuple #[.int .i64 n,.int .i64 p])/\w=w') (w:World) :
  Calls Tryz.prog 127 #[.float .f64 b] w fun e w'=>Texts w (runesBytes (writeS n++112::writeS p)) e w':=by
 have HW:=Lib.hid hw
 have HP:=Lib.hid hp
 clear hw hp
 have HE:Hid (runesBytes (writeS n++112::writeS p)=runesBytes (writeS n)++⟨#[112]⟩++runesBytes (writeS p)):=by
  show _=_
  rw [runesBytes_append,runesBytes_cons,encode_p,ByteArray.append_assoc]
 have z1:=size_writeS n h1 h2
 have z2:=size_writeS p h3 h4
 have HD1:=Lib.hid (rwhole_text n h1 h2)
 have HD2:=Lib.hid (rwhole_text p h3 h4)
 generalize runesBytes (writeS n)=S at *
 generalize runesBytes (writeS p)=T at *
 go_enter Tryz.func127,Tryz.ntmps127
 go_wp2_with fail
 refine (HW.out _).mono ?_
 rintro e w' ⟨rfl,rfl⟩
 go_wp2_with fail
 refine (HP.out _).mono ?_
 rintro e w' ⟨rfl,rfl⟩
 go_wp2_with fail
 refine (HD1.out _).mono ?_
 rintro e w1 ⟨rfl,hb1⟩
 go_wp2_with fail
 refine (HD2.out _).mono ?_
 rintro e w2 ⟨rfl,hb2⟩
 go_wp2
 go_ret
 exact ⟨by rw [HE.out];rfl,hb1.trans (hb2.mono hb1.size)⟩
theorem rWrite_any (s:Bool){Z:Nat} (hz:Rep Z){l:List Int} (hl:WrIs s Z l) (w:World) :
  Calls Tryz.prog 127 #[.float .f64 (W s Z)] w fun e w'=>Texts w (runesBytes l) e w':=by
 rcases hl with ⟨m,hm,hZ,hl⟩ | ⟨hn,q,j,hq,hZ,hl⟩ <;> rw [hl,hZ]
 ·obtain ⟨b1,b2⟩:=sg_bd s hm
  exact rWrite_whole (W s (m*2^K)) (sg s m) b1 b2 (rwhole_yes s m hm) (conv_whole s m hm) w
 ·rw [hZ] at hz hn
  obtain ⟨b0,b3⟩:=odd_bounds hz hq rfl
  obtain ⟨b1,b2⟩:=sg_bd s (show q<=9007199254740992 by omega)
  exact rWrite_parts _ _ _ b1 b2 (by omega) (by omega) (rwhole_no s hz hn) (rparts_exact s hq hz) w
theorem lWrite_whole (b:Nat) (n:Int) (h1:-9007199254740992<=n) (h2:n<=9007199254740992)
  (hw:∀ w,Calls Tryz.prog 174 #[.float .f64 b] w fun e w'=>e= .returned (.tuple #[.int .i64 n,.bool true])/\w=w') (w:World) :
  Calls Tryz.prog 123 #[.float .f64 b] w fun e w'=>Wrote w (writeS n) e w':=by
 have HW:=Lib.hid hw
 clear hw
 have HD:=Lib.hid (write_any n h1 h2)
 generalize writeS n=l at *
 go_enter Tryz.func123,Tryz.ntmps123
 go_wp2_with fail
 refine (HW.out _).mono ?_
 rintro e w' ⟨rfl,rfl⟩
 go_wp2_with fail
 refine (HD.out _).mono ?_
 rintro e w' ⟨v,rfl,ho,hb⟩
 have HO:=Lib.hid ho
 clear ho
 go_wp2
 go_ret
 exact ⟨v,rfl,HO.out,hb⟩
theorem lWrite_parts (b:Nat) (n p:Int) (h1:-9007199254740992<=n) (h2:n<=9007199254740992) (h3:-9007199254740992<=p) (h4:p<=9007199254740992)
  (hw:∀ w,Calls Tryz.prog 174 #[.float .f64 b] w fun e w'=>(∃ x,e= .returned (.tuple #[.int .i64 x,.bool false]))/\w=w') (w:World)
  (hp:Calls Tryz.prog 176 #[.float .f64 b] w fun e w'=>e= .returned (.tuple #[.int .i64 n,.int .i64 p])/\w=w') :
  Calls Tryz.prog 123 #[.float .f64 b] w fun e w'=>Wrote w (writeS n++112::writeS p) e w':=by
 have HW:=Lib.hid hw
 have HP:=Lib.hid hp
 clear hw hp
 have z1:=writeS_len n h1 h2
 have z2:=writeS_len p h3 h4
 have HD1:=Lib.hid (write_any n h1 h2)
 have HD2:=Lib.hid (write_any p h3 h4)
 have HN:=Lib.hid (writeS_ne p)
 generalize writeS n=l1 at *
 generalize writeS p=l2 at *
 have HX:Hid (∀ e w',Wrote w (l1++112::l2) e w'=∃ v,e= .returned v/\OwnR w' w.heap.size v ((l1++[112])++l2)/\Below w.heap.size w w'):=by
  show ∀ e w',_=_
  intro e w'
  rw [List.append_assoc];rfl
 go_enter Tryz.func123,Tryz.ntmps123
 go_wp2_with fail
 refine (HW.out _).mono ?_
 rintro e w' ⟨⟨x0,rfl⟩,rfl⟩
 go_wp2_with fail
 refine (HP.out).mono ?_
 rintro e w' ⟨rfl,rfl⟩
 go_wp2_with fail
 refine (HD1.out _).mono ?_
 rintro e w1 ⟨v1,rfl,ho1,hb1⟩
 have HO1:=Lib.hid ho1
 have hB1:=hb1.size
 have hlen1:l1.length<=1099511627776:=by omega
 clear ho1
 go_wp2_with (at_builtin;refine wpList_app1 rfl (.tmp 21) (.tmp 22) rfl w.heap.size v1 l1 rfl HO1.out 112 rfl hlen1 hB1 ?_;intro v2 w2 hv2 hbk hk2 hs2;have HV2:=Lib.hid hv2;have HB2:=Lib.hid (hbk w hb1);clear hbk hk2 hv2)
 refine (HD2.out _).mono ?_
 rintro e w3 ⟨v3,rfl,ho3,hb3⟩
 obtain ⟨g,c,hv3,hcl⟩:=ho3.form HN.out
 rw [hv3]
 have hv2':=HV2.out.below hb3
 have HV3:=Lib.hid hv2'
 have hcl':∀ i (hi:i < l2.length),w3.cell? ⟨g,0+i,none⟩=some (.int .i32 l2[i]):=fun i hi=>by rw [Nat.zero_add];exact hcl w3 _ ho3 i hi
 have HCL:=Lib.hid hcl'
 have hB3:w.heap.size<=w3.heap.size:=by have:=HB2.out.size;have:=hb3.size;omega
 have HB3:=Lib.hid (HB2.out.trans (hb3.mono HB2.out.size))
 have hlen3:(l1++[112]).length+l2.length<=1099511627776:=by simp;omega
 clear hv3 hcl hcl' hv2' ho3 hb3
 go_wp2_with (at_builtin;refine wpList_appL rfl (.tmp 23) (.tmp 25) rfl w.heap.size v2 (l1++[112]) rfl HV3.out g 0 c l2 rfl HCL.out hlen3 hB3 ?_;intro v4 w4 hv4 hbk hk4 hs4;have HV4:=Lib.hid hv4;have HB4:=Lib.hid (hbk w HB3.out);clear hbk hk4 hv4)
 go_ret
 rw [HX.out]
 exact ⟨v4,rfl,HV4.out,HB4.out⟩
theorem lWrite_any (s:Bool){Z:Nat} (hz:Rep Z){l:List Int} (hl:WrIs s Z l) (w:World) (ht:TzTab w) :
  Calls Tryz.prog 123 #[.float .f64 (W s Z)] w fun e w'=>Wrote w l e w':=by
 rcases hl with ⟨m,hm,hZ,hl⟩ | ⟨hn,q,j,hq,hZ,hl⟩ <;> rw [hl,hZ]
 ·obtain ⟨b1,b2⟩:=sg_bd s hm
  exact lWrite_whole _ _ b1 b2 (nwhole_yes s m hm) w
 ·rw [hZ] at hz hn
  obtain ⟨b0,b3⟩:=odd_bounds hz hq rfl
  obtain ⟨b1,b2⟩:=sg_bd s (show q<=9007199254740992 by omega)
  exact lWrite_parts _ _ _ b1 b2 (by omega) (by omega) (nwhole_no s hz hn) w (lparts_exact s hq hz w ht)
theorem conv_runes {w:World}{v:Value}{l:List Int} (h:Runes w v l) :
  (convert 27 9 v).run Tryz.prog w= .ok (.string (runesBytes l)) w:=by
 rcases h with ⟨a,c,rfl,rfl⟩ | ⟨b,o,n,c,rfl,hn,hc⟩
 ·rw [run_convert_runes_string (P:=Tryz.prog) w 27 9 21 _ _ _ Tryz.underlying27 Tryz.underlying21 Tryz.underlying9]
  cases a with
  | none=>rfl
  | some a=>exact run_runesToString w a 0 c [] (by simp [go_sem,loadCells,loadCellsFrom])
 ·have:=run_convert_runes (P:=Tryz.prog) w 27 9 21 ⟨b,o,none⟩ n c l (by omega) Tryz.underlying27 Tryz.underlying21 Tryz.underlying9 (by
   intro j hj
   have e:(⟨b,o,none⟩:Addr).add j=⟨b,o+j,none⟩:=by
    unfold Addr.add;split
    ·rename_i h0;subst h0;rfl
    ·rfl
   rw [e,hc j hj]
   simp [List.getD,hj])
  rw [this,hn,List.take_length]
theorem wr_ex (s:Bool){Z:Nat} (hz:Rep Z):∃ l,WrIs s Z l:=by
 by_cases hw:IsWhole Z
 ·obtain ⟨m,hm,hZ⟩:=hw
  exact ⟨_,.inl ⟨m,hm,hZ,rfl⟩⟩
 ·have h0:Z≠0:=by rintro rfl;exact hw ⟨0,by omega,by simp⟩
  obtain ⟨z,r,hr⟩:=odd_parts Z h0
  exact ⟨_,.inr ⟨hw,2*r+1,z,by omega,by rw [hr,Nat.mul_comm],rfl⟩⟩
theorem wr_len {s:Bool}{Z:Nat} (hz:Rep Z){l:List Int} (h:WrIs s Z l):0 < l.length/\l.length<=60:=by
 rcases h with ⟨m,hm,hZ,hl⟩ | ⟨hn,q,j,hq,hZ,hl⟩
 ·obtain ⟨b1,b2⟩:=sg_bd s hm
  rw [hl]
  exact ⟨List.length_pos_iff.2 (writeS_ne _),by have:=writeS_len _ b1 b2;omega⟩
 ·rw [hZ] at hz
  obtain ⟨b0,b3⟩:=odd_bounds hz hq rfl
  obtain ⟨b1,b2⟩:=sg_bd s (show q<=9007199254740992 by omega)
  have h1:=writeS_len _ b1 b2
  have h2:=writeS_len ((j:Int) - 1074) (by omega) (by omega)
  rw [hl];simp;omega
def HeldS (w0 W:World) (v:Value) (l:List Int):Prop:=Runes W v l/\TzTab W/\Below w0.heap.size w0 W
theorem HeldS.step {w0 W W2:World}{v:Value}{l:List Int}{S:ByteArray} (hS:S=runesBytes l) (h:(convert 27 9 v).run Tryz.prog W= .ok (.string S) W/\HeldS w0 W v l) (hb:Below W.heap.size W W2) :
  (convert 27 9 v).run Tryz.prog W2= .ok (.string S) W2/\HeldS w0 W2 v l:=by
 obtain ⟨_,h1,h2,h3⟩:=h
 have h1':=h1.below hb
 exact ⟨by rw [hS];exact conv_runes h1',h1',h2.below hb,h3.trans (hb.mono h3.size)⟩
def fl (p:Bool×Nat):Value := .float .f64 (W p.1 p.2)
def flist (p:Nat->Bool×Nat) (k:Nat):List Value:=(List.range k).map fun i=>fl (p i)
theorem flist_len (p:Nat->Bool×Nat) (k:Nat):(flist p k).length=k:=by simp [flist]
theorem flist_get (p:Nat->Bool×Nat) (k i:Nat) (h:i < (flist p k).length):(flist p k)[i]=fl (p i):=by simp [flist]
end Go.Proofs.YtbakjaliponbbaaGreatDoor
