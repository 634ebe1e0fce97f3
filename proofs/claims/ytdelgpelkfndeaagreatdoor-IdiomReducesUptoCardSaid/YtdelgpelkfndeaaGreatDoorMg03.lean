/- The walks of fold.One and of the reference's One of layer 13: both tell the same, whatever the powers are. Packed truths: words of bits, in plain words; the .. Conditions: as each theorem says. -/
import Derived.Test.YtdelgpelkfndeaaGreatDoorMgA
import Derived.Test.YtdelgpelkfndeaaGreatDoorMg02
import Derived.Laws.BitsAllLaws
set_option maxRecDepth 100000
set_option maxHeartbeats 1000000
namespace Go.Proofs.YtdelgpelkfndeaaGreatDoor
open Go Go.RowKit Go.Proofs Fl
theorem QgF (t:Bool) (w:World):Calls Tryz.prog 150 #[.bool t] w fun e w'=>e= .returned (.float .f64 (Qai t))/\w=w':=by
 cases t
 all_goals
  go_enter Tryz.func150,Tryz.ntmps150
  go_wp2
  go_ret
  exact ⟨rfl,rfl⟩
theorem Qhr (t:Bool) (w:World):Calls Tryz.prog 181 #[.bool t] w fun e w'=>e= .returned (.float .f64 (Qai t))/\w=w':=by
 cases t
 all_goals
  go_enter Tryz.func181,Tryz.ntmps181
  go_wp2
  go_ret
  exact ⟨rfl,rfl⟩
structure TruthF (a:Nat) (z o:Bool):Prop where
 e0:(FloatKind.f64.format.order a 0==some .eq)=z
 e1:(FloatKind.f64.format.order a 4607182418800017408==some .eq)=o
 n0:(FloatKind.f64.format.order a 0 != some .eq) = !z
 n1:(FloatKind.f64.format.order a 4607182418800017408 != some .eq) = !o
 tz:z=decide (a=0)
 tone:o=decide (a=one)
theorem QlZ {a:Nat} (h:TF a):∃ z o,TruthF a z o:=by
 have h0:(FloatKind.f64.format.order a 0==some .eq)=decide (a=0):=Qcf h
 have h1:(FloatKind.f64.format.order a 4607182418800017408==some .eq)=decide (a=one):=by
  rw [QbE h QfV,Bool.eq_iff_iff]
  rw [beq_iff_eq,decide_eq_true_eq]
  constructor
  ·intro e;injection e with e;exact (Qrb h QfV).1 e
  ·intro e;rw [(Qrb h QfV).2 e]
 exact ⟨_,_,h0,h1,by rw [bne,h0],by rw [bne,h1],rfl,rfl⟩
theorem Qc8 {p:Option Ordering} (h:(p==some .eq)=true):p=some .eq:=beq_iff_eq.1 h
theorem Qc9 {p:Option Ordering} (h:(p==some .eq)=false):¬ p=some .eq:=beq_eq_false_iff_ne.1 h
theorem Qe0 (a:Nat) (h:TF a) (w:World):Calls Tryz.prog 201 #[.float .f64 a] w fun e w'=>e= .returned (.tuple #[.bool (tv a),.bool (isT a)])/\w=w':=by
 obtain ⟨z,o,h0,h1,h2,h3,hz,ho⟩:=QlZ h
 have ht:tv a=o:=ho.symm
 have hi:isT a=(z||o):=by rw [hz,ho];unfold isT;rw [Bool.decide_or]
 rw [ht,hi]
 clear h ht hi hz ho
 cases z <;> cases o
 all_goals
  first | have h0':=Qc8 h0 | have h0':=Qc9 h0
  first | have h1':=Qc8 h1 | have h1':=Qc9 h1
  go_enter Tryz.func201,Tryz.ntmps201
  go_wp2
  go_ret2
  exact ⟨rfl,rfl⟩
noncomputable def oneP (pw:Nat->Nat->Nat×Int) (f:Int) (a b:Nat):Nat×Int :=
 if f=1 then Qau (opB .add a b) else if f=2 then Qau (opB .sub a b) else if f=3 then Qau (opB .mul a b) else if f=4 then divP a b
 else if f=5 then (maxP a b,0) else if f=6 then (minP a b,0) else if f=7 then Qd2 a b else if f=8 then pw a b
 else if 11<=f/\f<=16 then (Qai (relB f a b),0) else logP f a b
structure PowIs (pw:Nat->Nat->Nat×Int):Prop where
 prog:∀ a b,TF a->TF b->∀ W,Calls Tryz.prog 211 #[.float .f64 a,.float .f64 b] W fun e w'=>e= .returned (.tuple #[.float .f64 (pw a b).1,.int .i64 (pw a b).2])/\W=w'
 ref:∀ a b,TF a->TF b->∀ W,Calls Tryz.prog 240 #[.float .f64 a,.float .f64 b] W fun e w'=>e= .returned (.tuple #[.float .f64 (pw a b).1,.int .i64 (pw a b).2])/\W=w'
 tf:∀ a b,TF a->TF b->(∃ c,TF c/\pw a b=(c,0))\/pw a b=(0,24)
theorem Qrc {pw:Nat->Nat->Nat×Int} (hp:PowIs pw) (a b:Nat) (ha:TF a) (hb:TF b) (w:World):Calls Tryz.prog 147 #[.int .i64 8,.float .f64 a,.float .f64 b] w fun e w'=>e= .returned (.tuple #[.float .f64 (pw a b).1,.int .i64 (pw a b).2])/\w=w':=by
 have HC:=hD (fun W=>hp.prog a b ha hb W)
 clear ha hb hp
 generalize pw a b=d at *
 go_enter Tryz.func147,Tryz.ntmps147
 go_wp2_with fail
 refine (HC.out _).mono ?_
 rintro e w' ⟨rfl,rfl⟩
 go_wp2
 go_ret2
 exact ⟨rfl,rfl⟩
theorem Qrd {pw:Nat->Nat->Nat×Int} (hp:PowIs pw) (a b:Nat) (ha:TF a) (hb:TF b) (w:World):Calls Tryz.prog 179 #[.int .i64 8,.float .f64 a,.float .f64 b] w fun e w'=>e= .returned (.tuple #[.float .f64 (pw a b).1,.int .i64 (pw a b).2])/\w=w':=by
 have HC:=hD (fun W=>hp.ref a b ha hb W)
 clear ha hb hp
 generalize pw a b=d at *
 go_enter Tryz.func179,Tryz.ntmps179
 go_wp2_with fail
 refine (HC.out _).mono ?_
 rintro e w' ⟨rfl,rfl⟩
 go_wp2
 go_ret2
 exact ⟨rfl,rfl⟩
theorem int8 {P:Int->Prop} (f:Int) (h1:1<=f) (h2:f<=8) (a:P 1) (b:P 2) (c:P 3) (d:P 4) (e:P 5) (g:P 6) (h:P 7) (i:P 8):P f:=by
 have:f=1\/f=2\/f=3\/f=4\/f=5\/f=6\/f=7\/f=8:=by omega
 rcases this with rfl | rfl | rfl | rfl | rfl | rfl | rfl | rfl <;> assumption
theorem Ql0 {pw:Nat->Nat->Nat×Int} (hp:PowIs pw) (f:Int) (hf:1<=f) (hf2:f<=8) (a b:Nat) (ha:TF a) (hb:TF b) (w:World):Calls Tryz.prog 147 #[.int .i64 f,.float .f64 a,.float .f64 b] w fun e w'=>e= .returned (.tuple #[.float .f64 (oneP pw f a b).1,.int .i64 (oneP pw f a b).2])/\w=w' :=
 int8 (P:=fun f=>Calls Tryz.prog 147 #[.int .i64 f,.float .f64 a,.float .f64 b] w fun e w'=>e= .returned (.tuple #[.float .f64 (oneP pw f a b).1,.int .i64 (oneP pw f a b).2])/\w=w') f hf hf2
  (QqX a b ha hb w) (QqZ a b ha hb w) (Qq1 a b ha hb w) (Qq3 a b ha hb w) (Qq5 a b ha hb w) (Qq7 a b ha hb w) (Qq9 a b ha hb w) (Qrc hp a b ha hb w)
theorem Ql1 {pw:Nat->Nat->Nat×Int} (hp:PowIs pw) (f:Int) (hf:1<=f) (hf2:f<=8) (a b:Nat) (ha:TF a) (hb:TF b) (w:World):Calls Tryz.prog 179 #[.int .i64 f,.float .f64 a,.float .f64 b] w fun e w'=>e= .returned (.tuple #[.float .f64 (oneP pw f a b).1,.int .i64 (oneP pw f a b).2])/\w=w' :=
 int8 (P:=fun f=>Calls Tryz.prog 179 #[.int .i64 f,.float .f64 a,.float .f64 b] w fun e w'=>e= .returned (.tuple #[.float .f64 (oneP pw f a b).1,.int .i64 (oneP pw f a b).2])/\w=w') f hf hf2
  (QqY a b ha hb w) (Qq0 a b ha hb w) (Qq2 a b ha hb w) (Qq4 a b ha hb w) (Qq6 a b ha hb w) (Qq8 a b ha hb w) (Qra a b ha hb w) (Qrd hp a b ha hb w)
theorem Qjz {pw:Nat->Nat->Nat×Int}{f:Int} (h1:11<=f) (h2:f<=16) (a b:Nat):oneP pw f a b=(Qai (relB f a b),0):=by
 unfold oneP
 rw [if_neg (by omega),if_neg (by omega),if_neg (by omega),if_neg (by omega),if_neg (by omega),if_neg (by omega),if_neg (by omega),if_neg (by omega),if_pos ⟨h1,h2⟩]
theorem QjA {pw:Nat->Nat->Nat×Int}{f:Int} (h1:21<=f) (a b:Nat):oneP pw f a b=logP f a b:=by
 unfold oneP
 rw [if_neg (by omega),if_neg (by omega),if_neg (by omega),if_neg (by omega),if_neg (by omega),if_neg (by omega),if_neg (by omega),if_neg (by omega),if_neg (by omega)]
theorem QjB {f:Int}{a b:Nat} (h:(isT a&&isT b)=true):logP f a b=(Qai (logB f (tv a) (tv b)),0):=if_pos h
theorem Ql2 {f:Int}{a b:Nat} (h:(isT a&&isT b)=false):logP f a b=(0,24):=if_neg (by rw [h];decide)
theorem QtW {pw:Nat->Nat->Nat×Int} (hp:PowIs pw) (f:Int) (hk:Qaz f=true) (a b:Nat) (ha:TF a) (hb:TF b) (w:World):Calls Tryz.prog 145 #[.int .i64 f,.float .f64 a,.float .f64 b] w fun e w'=>e= .returned (.tuple #[.float .f64 (oneP pw f a b).1,.int .i64 (oneP pw f a b).2])/\w=w':=by
 unfold Qaz at hk
 rw [decide_eq_true_eq] at hk
 rcases hk with ⟨h1,h2⟩ | ⟨h1,h2⟩ | ⟨h1,h2⟩
 ·have HC:=hD (fun W=>Ql0 hp f h1 h2 a b ha hb W)
  clear ha hb hp
  generalize oneP pw f a b=d at *
  go_enter Tryz.func145,Tryz.ntmps145
  go_wp2_with fail
  refine (HC.out _).mono ?_
  rintro e w' ⟨rfl,rfl⟩
  go_wp2
  go_ret2
  exact ⟨rfl,rfl⟩
 ·rw [Qjz h1 h2]
  have HC:=hD (fun W=>Qd3 f h1 h2 a b ha hb W)
  have h3:¬ f<=8:=by omega
  have h4:1<=f:=by omega
  clear ha hb hp
  generalize relB f a b=t at *
  go_enter Tryz.func145,Tryz.ntmps145
  go_wp2_with fail
  refine (HC.out _).mono ?_
  rintro e w' ⟨rfl,rfl⟩
  go_wp2_with fail
  refine (QgF _ _).mono ?_
  rintro e w' ⟨rfl,rfl⟩
  go_wp2
  go_ret2
  exact ⟨rfl,rfl⟩
 ·rw [QjA h1]
  have HA:=hD (fun W=>Qe0 a ha W)
  have HB:=hD (fun W=>Qe0 b hb W)
  have HL:=hD (fun x y W=>QlY f h1 h2 x y W)
  have h3:¬ f<=8:=by omega
  have h4:¬ f<=16:=by omega
  have h5:1<=f:=by omega
  have h6:11<=f:=by omega
  clear ha hb hp
  by_cases hi:(isT a&&isT b)=true
  ·rw [QjB hi]
   rw [Bool.and_eq_true] at hi
   rw [hi.1] at HA
   rw [hi.2] at HB
   clear hi
   generalize tv a=x at *
   generalize tv b=y at *
   have HL2:=hD (HL.out x y)
   clear HL
   generalize logB f x y=t at *
   go_enter Tryz.func145,Tryz.ntmps145
   go_wp2_with fail
   refine (HA.out _).mono ?_
   rintro e w' ⟨rfl,rfl⟩
   go_wp2_with fail
   refine (HB.out _).mono ?_
   rintro e w' ⟨rfl,rfl⟩
   go_wp2_with fail
   refine (HL2.out _).mono ?_
   rintro e w' ⟨rfl,rfl⟩
   go_wp2_with fail
   refine (QgF _ _).mono ?_
   rintro e w' ⟨rfl,rfl⟩
   go_wp2
   go_ret2
   exact ⟨rfl,rfl⟩
  ·have hi':(isT a&&isT b)=false:=by simpa using hi
   rw [Ql2 hi']
   clear hi HL
   generalize tv a=x at *
   generalize tv b=y at *
   generalize isT a=p at *
   generalize isT b=q at *
   cases p <;> cases q <;> simp at hi'
   all_goals
    go_enter Tryz.func145,Tryz.ntmps145
    go_wp2_with fail
    refine (HA.out _).mono ?_
    rintro e w' ⟨rfl,rfl⟩
    go_wp2_with fail
    refine (HB.out _).mono ?_
    rintro e w' ⟨rfl,rfl⟩
    go_wp2
    go_ret2
    exact ⟨rfl,rfl⟩
theorem QoK {pw:Nat->Nat->Nat×Int} (hp:PowIs pw) (f:Int) (hk:Qaz f=true) (a b:Nat) (ha:TF a) (hb:TF b) (w:World):Calls Tryz.prog 122 #[.int .i64 f,.float .f64 a,.float .f64 b] w fun e w'=>e= .returned (.tuple #[.float .f64 (oneP pw f a b).1,.int .i64 (oneP pw f a b).2])/\w=w':=by
 have HK:=hD (fun W=>hk▸Qby f W)
 unfold Qaz at hk
 rw [decide_eq_true_eq] at hk
 rcases hk with ⟨h1,h2⟩ | ⟨h1,h2⟩ | ⟨h1,h2⟩
 ·have HC:=hD (fun W=>Ql1 hp f h1 h2 a b ha hb W)
  clear ha hb hp
  generalize oneP pw f a b=d at *
  go_enter Tryz.func122,Tryz.ntmps122
  go_wp2_with fail
  refine (HK.out _).mono ?_
  rintro e w' ⟨rfl,rfl⟩
  go_wp2_with fail
  refine (HC.out _).mono ?_
  rintro e w' ⟨rfl,rfl⟩
  go_wp2
  go_ret2
  exact ⟨rfl,rfl⟩
 ·rw [Qjz h1 h2]
  have HC:=hD (fun W=>Qhq f h1 h2 a b ha hb W)
  have h3:¬ f<=8:=by omega
  clear ha hb hp
  generalize relB f a b=t at *
  go_enter Tryz.func122,Tryz.ntmps122
  go_wp2_with fail
  refine (HK.out _).mono ?_
  rintro e w' ⟨rfl,rfl⟩
  go_wp2_with fail
  refine (HC.out _).mono ?_
  rintro e w' ⟨rfl,rfl⟩
  go_wp2_with fail
  refine (Qhr _ _).mono ?_
  rintro e w' ⟨rfl,rfl⟩
  go_wp2
  go_ret2
  exact ⟨rfl,rfl⟩
 ·rw [QjA h1]
  obtain ⟨z,o,a0,a1,a2,a3,hz,ho⟩:=QlZ ha
  obtain ⟨z2,o2,b0,b1,b2,b3,hz2,ho2⟩:=QlZ hb
  have HL:=hD (fun x y W=>QlW f h1 h2 x y W)
  have h3:¬ f<=8:=by omega
  have h4:¬ f<=16:=by omega
  have et:tv a=o:=ho.symm
  have ei:isT a=(z||o):=by rw [hz,ho];unfold isT;rw [Bool.decide_or]
  have et2:tv b=o2:=ho2.symm
  have ei2:isT b=(z2||o2):=by rw [hz2,ho2];unfold isT;rw [Bool.decide_or]
  have hno:¬ (z=true/\o=true):=by
   rintro ⟨e1,e2⟩
   rw [hz,decide_eq_true_eq] at e1
   rw [ho,decide_eq_true_eq,e1] at e2
   exact absurd e2 (by decide)
  have hno2:¬ (z2=true/\o2=true):=by
   rintro ⟨e1,e2⟩
   rw [hz2,decide_eq_true_eq] at e1
   rw [ho2,decide_eq_true_eq,e1] at e2
   exact absurd e2 (by decide)
  by_cases hi:(isT a&&isT b)=true
  ·rw [QjB hi,et,et2]
   rw [ei,ei2] at hi
   clear ha hb hp et et2 ei ei2 hz ho hz2 ho2
   cases z <;> cases o <;> simp at hi hno <;> cases z2 <;> cases o2 <;> simp at hi hno2
   all_goals
    clear hi hno hno2
    first | have a0':=Qc8 a0 | have a0':=Qc9 a0
    first | have a1':=Qc8 a1 | have a1':=Qc9 a1
    first | have b0':=Qc8 b0 | have b0':=Qc9 b0
    first | have b1':=Qc8 b1 | have b1':=Qc9 b1
    go_enter Tryz.func122,Tryz.ntmps122
    go_wp2_with fail
    refine (HK.out _).mono ?_
    rintro e w' ⟨rfl,rfl⟩
    go_wp2_with fail
    refine (HL.out _ _ _).mono ?_
    rintro e w' ⟨rfl,rfl⟩
    go_wp2_with fail
    refine (Qhr _ _).mono ?_
    rintro e w' ⟨rfl,rfl⟩
    go_wp2
    go_ret2
    exact ⟨rfl,rfl⟩
  ·have hi':(isT a&&isT b)=false:=by simpa using hi
   rw [Ql2 hi']
   rw [ei,ei2] at hi'
   clear ha hb hp et et2 ei ei2 hz ho hz2 ho2 hi HL
   cases z <;> cases o <;> simp at hi' hno <;> cases z2 <;> cases o2 <;> simp at hi' hno2
   all_goals
    first | have a0':=Qc8 a0 | have a0':=Qc9 a0
    first | have a1':=Qc8 a1 | have a1':=Qc9 a1
    first | have b0':=Qc8 b0 | have b0':=Qc9 b0
    first | have b1':=Qc8 b1 | have b1':=Qc9 b1
    go_enter Tryz.func122,Tryz.ntmps122
    go_wp2_with fail
    refine (HK.out _).mono ?_
    rintro e w' ⟨rfl,rfl⟩
    go_wp2
    go_ret2
    exact ⟨rfl,rfl⟩
theorem and63 (i:Nat) (h:i<=2097152):bits .and .i64 (i:Int) 63=((i % 64:Nat):Int):=by
 show IntKind.i64.wrap ((BitVec.ofInt 64 (i:Int) &&& BitVec.ofInt 64 ((63:Nat):Int)).toNat:Int)=_
 have e:i &&& 63=i % 64:=Nat.and_two_pow_sub_one_eq_mod i 6
 rw [BitVec.toNat_and,ofInt_u64 i (by omega),ofInt_u64 63 (by omega),e,IntKind.wrap_i64]
 omega
theorem Qb2 (n:Nat) (h:n < 18446744073709551616):IntKind.u64.wrap (n:Int)=n:=by rw [IntKind.wrap_u64];omega
theorem Ql3 (x r:Nat):(x:Int) / 2 ^ r=((x / 2 ^ r:Nat):Int):=by
 rw [Int.natCast_ediv,Int.natCast_pow]
 rfl
theorem QoL (x r:Nat):x.testBit r=decide (x / 2 ^ r % 2=1):=Nat.testBit_eq_decide_div_mod_eq
theorem Qs4 (x i:Nat) (hx:x < 18446744073709551616) (hi:i<=2097152) :
  (bits .and .u64 ((x:Int) / 2 ^ min (IntKind.u64.wrap (bits .and .i64 (i:Int) 63)).toNat 64) 1==1)=x.testBit (i % 64):=by
 rw [and63 i hi,Qb2 _ (by omega),Int.toNat_natCast,Nat.min_eq_left (by omega),Ql3]
 have h2:x / 2 ^ (i % 64)<=x:=Nat.div_le_self _ _
 have h1:=u64_and_nat (x / 2 ^ (i % 64)) 1 (by omega) (by omega)
 rw [show ((1:Nat):Int)=1 from rfl] at h1
 rw [h1,Nat.and_one_is_mod,QoL,Bool.eq_iff_iff,beq_iff_eq,decide_eq_true_eq]
 omega
theorem Qre (b o n c len i x:Nat) (w:World) (hi:i < len) (hl:len<=1048576) (hin:i / 64 < n) (hc:w.cell? ⟨b,o+i / 64,none⟩=some (.int .u64 x)) (hx:x < 18446744073709551616) :
  Calls Tryz.prog 114 #[.agg #[.slice (some ⟨b,o,none⟩) n c,.int .i64 (len:Int)],.int .i64 (i:Int)] w fun e w'=>e= .returned (.bool (x.testBit (i % 64)))/\Below w.heap.size w w':=by
 have h1:=fun a=>Qab hc a
 have HE:=hD (Qs4 x i hx (by omega))
 go_enter Tryz.func114,Tryz.ntmps114
 go_wp2
 go_ret
 exact ⟨by rw [<- HE.out];rfl,bel1 _ _⟩
theorem QeB (a:Value) (len:Int) (w:World) :
  Calls Tryz.prog 29 #[.agg #[a,.int .i64 len]] w fun e w'=>e= .returned (.int .i64 len)/\Below w.heap.size w w':=by
 go_enter Tryz.func29,Tryz.ntmps29
 go_wp2
 go_ret
 exact ⟨rfl,bel1 _ _⟩
def wd (f:Nat->Bool):Nat->Nat
 | 0=>0
 | m+1=>wd f m+(if f m then 2 ^ m else 0)
theorem wd_lt (f:Nat->Bool) (m:Nat):Go.Proofs.YtdelgpelkfndeaaGreatDoor.wd f m < 2 ^ m:=by
 induction m with
 | zero=>simp [Go.Proofs.YtdelgpelkfndeaaGreatDoor.wd]
 | succ m ih =>
  have:2 ^ (m+1)=2 ^ m+2 ^ m:=by rw [Nat.pow_succ];omega
  unfold Go.Proofs.YtdelgpelkfndeaaGreatDoor.wd
  split <;> omega
theorem Qs5 (f:Nat->Bool) (m j:Nat):(Go.Proofs.YtdelgpelkfndeaaGreatDoor.wd f m).testBit j=(decide (j < m)&&f j):=by
 induction m with
 | zero=>simp [Go.Proofs.YtdelgpelkfndeaaGreatDoor.wd]
 | succ m ih =>
  have hlt:=wd_lt f m
  unfold Go.Proofs.YtdelgpelkfndeaaGreatDoor.wd
  by_cases hf:f m=true
  ·rw [if_pos hf]
   rcases Nat.lt_trichotomy j m with h | h | h
   ·rw [Nat.add_comm,Nat.testBit_two_pow_add_gt h,ih]
    simp [h,Nat.lt_succ_of_lt h]
   ·subst h
    rw [Nat.add_comm,Nat.testBit_two_pow_add_eq,ih]
    simp [hf]
   ·have h2:Go.Proofs.YtdelgpelkfndeaaGreatDoor.wd f m+2 ^ m < 2 ^ j:=by
     have h3:2 ^ (m+1)<=2 ^ j:=Nat.pow_le_pow_right (by omega) h
     have:2 ^ (m+1)=2 ^ m+2 ^ m:=by rw [Nat.pow_succ];omega
     omega
    rw [Nat.testBit_lt_two_pow h2]
    have:¬ j < m+1:=by omega
    simp [this]
  ·rw [if_neg hf,Nat.add_zero,ih]
   by_cases h:j < m
   ·simp [h,Nat.lt_succ_of_lt h]
   ·by_cases h2:j=m
    ·subst h2
     have:f j=false:=by simpa using hf
     simp [this]
    ·have h3:¬ j < m+1:=by omega
     simp [h,h3]
def packW (l:Nat->Bool) (i j:Nat):Nat:=Go.Proofs.YtdelgpelkfndeaaGreatDoor.wd (fun m=>decide (64*j+m < i)&&l (64*j+m)) 64
theorem QaR (l:Nat->Bool) (i j:Nat):packW l i j < 18446744073709551616:=wd_lt _ 64
theorem Qay (l:Nat->Bool) (i j m:Nat) (hm:m < 64):(packW l i j).testBit m=(decide (64*j+m < i)&&l (64*j+m)):=by
 unfold packW
 rw [Qs5]
 simp [hm]
theorem Qa0 (l:Nat->Bool) (i j m:Nat) (hm:¬ m < 64):(packW l i j).testBit m=false :=
 Nat.testBit_lt_two_pow (Nat.lt_of_lt_of_le (QaR l i j) (Nat.pow_le_pow_right (n:=2) (i:=64) (by decide) (by omega)))
theorem QkG (l:Nat->Bool) (j:Nat):packW l 0 j=0:=by
 apply Nat.eq_of_testBit_eq
 intro m
 by_cases hm:m < 64
 ·rw [Qay _ _ _ _ hm];simp
 ·rw [Nat.zero_testBit,Qa0 _ _ _ _ hm]
theorem QfW (l:Nat->Bool) (i j:Nat) (h:l i=false\/j≠i / 64):packW l (i+1) j=packW l i j:=by
 apply Nat.eq_of_testBit_eq
 intro m
 by_cases hm:m < 64
 ·rw [Qay _ _ _ _ hm,Qay _ _ _ _ hm]
  by_cases e:64*j+m=i
  ·rcases h with h | h
   ·rw [e,h];simp
   ·exact absurd (by omega) h
  ·congr 1
   rw [decide_eq_decide]
   omega
 ·rw [Qa0 _ _ _ _ hm,Qa0 _ _ _ _ hm]
theorem Ql4 (l:Nat->Bool) (i:Nat) (h:l i=true):packW l (i+1) (i / 64)=packW l i (i / 64) ||| 2 ^ (i % 64):=by
 apply Nat.eq_of_testBit_eq
 intro m
 rw [Nat.testBit_or,Nat.testBit_two_pow]
 by_cases hm:m < 64
 ·rw [Qay _ _ _ _ hm,Qay _ _ _ _ hm]
  by_cases e:i % 64=m
  ·have e2:64*(i / 64)+m=i:=by omega
   rw [e2,h]
   simp [e]
  ·have e2:64*(i / 64)+m≠i:=by omega
   simp only [e,decide_false,Bool.or_false]
   congr 1
   rw [decide_eq_decide]
   omega
 ·rw [Qa0 _ _ _ _ hm,Qa0 _ _ _ _ hm]
  have e:¬ i % 64=m:=by omega
  simp [e]
def cnt (f:Nat->Bool):Nat->Nat
 | 0=>0
 | n+1=>cnt f n+(if f n then 1 else 0)
theorem Qcj (f:Nat->Bool) (n:Nat):cnt f n<=n:=by
 induction n with
 | zero=>exact Nat.le_refl _
 | succ n ih=>unfold cnt;split <;> omega
theorem Qdv {f g:Nat->Bool} (n:Nat) (h:∀ i,i < n->f i=g i):cnt f n=cnt g n:=by
 induction n with
 | zero=>rfl
 | succ n ih=>unfold cnt;rw [ih fun i hi=>h i (by omega),h n (by omega)]
theorem QgG (f:Nat->Bool) (a b:Nat):cnt f (a+b)=cnt f a+cnt (fun i=>f (a+i)) b:=by
 induction b with
 | zero=>rfl
 | succ b ih=>show cnt f (a+b)+_=_+(cnt _ b+_);rw [ih,Nat.add_assoc];rfl
def ofB:List Nat->Nat
 | []=>0
 | b::l=>b+256*ofB l
theorem bit8 (b h j:Nat) (hb:b < 256):(b+256*h).testBit j=if j < 8 then b.testBit j else h.testBit (j - 8):=by
 rw [Nat.add_comm]
 exact Nat.testBit_two_pow_mul_add h (i:=8) hb j
theorem QjC (b h c m s:Nat) (hb:b < 256) (hc:c < 2 ^ (8 - s)) (hs:s<=8):((b+256*h) / 2 ^ s) &&& (c+256*m)=((b / 2 ^ s) &&& c)+256*((h / 2 ^ s) &&& m):=by
 have hc8:c < 256:=Nat.lt_of_lt_of_le hc (Nat.pow_le_pow_right (n:=2) (i:=8 - s) (j:=8) (by decide) (by omega))
 have hr:(b / 2 ^ s) &&& c < 256:=Nat.lt_of_le_of_lt Nat.and_le_right hc8
 apply Nat.eq_of_testBit_eq
 intro j
 rw [Nat.testBit_and,Nat.testBit_div_two_pow,bit8 _ _ _ hb,bit8 _ _ _ hc8,bit8 _ _ _ hr]
 by_cases h1:j < 8
 ·rw [if_pos h1,if_pos h1,Nat.testBit_and,Nat.testBit_div_two_pow]
  by_cases h2:j+s < 8
  ·rw [if_pos (by omega)]
  ·have hz:c.testBit j=false:=Nat.testBit_lt_two_pow (Nat.lt_of_lt_of_le hc (Nat.pow_le_pow_right (by decide) (by omega)))
   rw [hz,Bool.and_false,Bool.and_false]
 ·rw [if_neg h1,if_neg h1,if_neg (by omega),Nat.testBit_and,Nat.testBit_div_two_pow]
  congr 2
  omega
theorem andB (s c:Nat) (hc:c < 2 ^ (8 - s)) (hs:s<=8):∀ l:List Nat,(∀ b∈l,b < 256)->(ofB l / 2 ^ s) &&& ofB (l.map fun _=>c)=ofB (l.map fun b=>(b / 2 ^ s) &&& c)
 | [],_=>by simp [ofB]
 | b::l,h=>by
  show ((b+256*ofB l) / 2 ^ s) &&& (c+256*_)=_+256*_
  rw [QjC _ _ _ _ _ (h b (by simp)) hc hs,andB s c hc hs l fun x hx=>h x (by simp [hx])]
theorem addB (f g:Nat->Nat):∀ l:List Nat,ofB (l.map f)+ofB (l.map g)=ofB (l.map fun b=>f b+g b)
 | []=>rfl
 | b::l=>by
  have:=addB f g l
  show (f b+256*ofB (l.map f))+(g b+256*ofB (l.map g))=(f b+g b)+256*ofB (l.map fun b=>f b+g b)
  omega
theorem nibB:∀ l:List Nat,(∀ b∈l,b % 16<=4/\b / 16<=4)->(ofB l / 16+ofB l) &&& ofB (l.map fun _=>15)=ofB (l.map fun b=>(b / 16+b) % 16)
 | [],_=>by simp [ofB]
 | b::l,h=>by
  have ih:=nibB l fun x hx=>h x (by simp [hx])
  have hb:=h b (by simp)
  have hh:ofB l % 16<=4:=by
   cases l with
   | nil=>simp [ofB]
   | cons d l =>
    have:=h d (by simp)
    show (d+256*ofB l) % 16<=4
    omega
  show ((b+256*ofB l) / 16+(b+256*ofB l)) &&& (15+256*ofB (l.map fun _=>15))=(b / 16+b) % 16+256*ofB (l.map fun b=>(b / 16+b) % 16)
  have e:(b+256*ofB l) / 16+(b+256*ofB l)=(b+b / 16+16*(ofB l % 16))+256*(ofB l / 16+ofB l):=by omega
  have hs:=QjC (b+b / 16+16*(ofB l % 16)) (ofB l / 16+ofB l) 15 (ofB (l.map fun _=>15)) 0 (by omega) (by decide) (by decide)
  rw [Nat.pow_zero,Nat.div_one,Nat.div_one,Nat.div_one] at hs
  rw [e,hs,ih]
  congr 1
  have:=Nat.and_two_pow_sub_one_eq_mod (b+b / 16+16*(ofB l % 16)) 4
  show _ &&& (2 ^ 4 - 1)=_
  rw [this]
  omega
def Qdf:Nat->Nat->List Nat
 | _,0=>[]
 | x,m+1=>x % 256::Qdf (x / 256) m
theorem Ql5 (m:Nat):∀ x,x < 256 ^ m->ofB (Qdf x m)=x:=by
 induction m with
 | zero =>
      intro x h;have:x=0:=by simpa using h
      subst this;rfl
 | succ m ih =>
  intro x h
  show x % 256+256*ofB (Qdf (x / 256) m)=x
  rw [ih (x / 256) (Nat.div_lt_of_lt_mul (by rw [Nat.pow_succ,Nat.mul_comm] at h;exact h))]
  omega
theorem QoM (m:Nat):∀ x,∀ b∈Qdf x m,b < 256:=by
 induction m with
 | zero=>intro x b h;cases h
 | succ m ih =>
  intro x b h
  rcases List.mem_cons.1 h with rfl | h
  ·omega
  ·exact ih _ b h
theorem Ql6 (m:Nat):∀ x,cnt x.testBit (8*m)=((Qdf x m).map fun b=>cnt b.testBit 8).sum:=by
 induction m with
 | zero=>intro x;rfl
 | succ m ih =>
  intro x
  show _=cnt (x % 256).testBit 8+((Qdf (x / 256) m).map fun b=>cnt b.testBit 8).sum
  rw [<- ih (x / 256),show 8*(m+1)=8+8*m by omega,QgG]
  congr 1
  ·refine Qdv 8 fun i hi=>?_
   have:=Nat.testBit_mod_two_pow x 8 i
   rw [show (2:Nat) ^ 8=256 from rfl] at this
   rw [this];simp [hi]
  ·refine Qdv _ fun i _=>?_
   show x.testBit (8+i)=(x / 2 ^ 8).testBit i
   rw [Nat.testBit_div_two_pow,Nat.add_comm]
def bA (b:Nat):Nat:=(b / 2 &&& 85)+(b &&& 85)
def bB (b:Nat):Nat:=(b / 4 &&& 51)+(b &&& 51)
def bC (b:Nat):Nat:=(b / 16+b) % 16
theorem QeC:∀ b,b < 256->bA b < 256/\bB (bA b) % 16<=4/\bB (bA b) / 16<=4/\bC (bB (bA b))=cnt b.testBit 8:=by decide+kernel
theorem fin8a (a b c Y0 Y1 Y2 Y3:Nat) (ha:a<=8) (hb:b<=8) (hc:c<=8) (h0:Y0=a+256*Y1) (h1:Y1=b+256*Y2) (h2:Y2=c+256*Y3):(Y0+Y1) / 65536=Y2+Y3:=by
 have:Y0+Y1=(a+b+256*(b+c))+65536*(Y2+Y3):=by omega
 rw [this,Nat.add_mul_div_left _ _ (by decide),Nat.div_eq_of_lt (by omega)]
 omega
theorem fin8b (a b c d Y0 Y1 Y2 Y3 Y4:Nat) (ha:a<=8) (hb:b<=8) (hc:c<=8) (hd:d<=8) (h0:Y0=a+256*Y1) (h1:Y1=b+256*Y2) (h2:Y2=c+256*Y3) (h3:Y3=d+256*Y4):∃ L,Y0=L+4294967296*Y4/\L<=135000000:=⟨a+256*b+65536*c+16777216*d,by omega,by omega⟩
theorem fin8c (L0 L1 L2 L3 Y0 Y1 Y2 Y3 Y4 Y5 Y6 Y7:Nat) (h0:Y0=L0+4294967296*Y4) (h1:Y1=L1+4294967296*Y5) (h2:Y2=L2+4294967296*Y6) (h3:Y3=L3+4294967296*Y7) (l0:L0<=135000000) (l1:L1<=135000000) (l2:L2<=135000000) (l3:L3<=135000000) :
  (Y0+Y1+Y2+Y3) / 4294967296=Y4+Y5+Y6+Y7:=by
 have:Y0+Y1+Y2+Y3=(L0+L1+L2+L3)+4294967296*(Y4+Y5+Y6+Y7):=by omega
 rw [this,Nat.add_mul_div_left _ _ (by decide),Nat.div_eq_of_lt (by omega)]
 omega
theorem up8 (a Y Z B C:Nat) (ha:a<=8) (h:Y=a+256*Z) (hz:Z<=B) (hC:8+256*B<=C):Y<=C:=by omega
theorem half8 (a Y Z:Nat) (h:Y=a+256*Z):∃ t,Y=a+128*t:=⟨2*Z,by omega⟩
theorem fin8 (a b c d e f g h:Nat) (ha:a<=8) (hb:b<=8) (hc:c<=8) (hd:d<=8) (he:e<=8) (hf:f<=8) (hg:g<=8) (hh:h<=8) (y0 y1 y2 y3:Nat) (e0:y0=ofB [a,b,c,d,e,f,g,h]) (e1:y1=y0+y0 / 256) (e2:y2=y1+y1 / 65536) (e3:y3=y2+y2 / 4294967296) :
  y3 % 128=a+b+c+d+e+f+g+h/\y1<=2000000000000000000/\y2<=2000000000000000000/\y3<=2000000000000000000:=by
 obtain ⟨Y1,k1⟩:∃ Y,Y=ofB [b,c,d,e,f,g,h]:=⟨_,rfl⟩
 obtain ⟨Y2,k2⟩:∃ Y,Y=ofB [c,d,e,f,g,h]:=⟨_,rfl⟩
 obtain ⟨Y3,k3⟩:∃ Y,Y=ofB [d,e,f,g,h]:=⟨_,rfl⟩
 obtain ⟨Y4,k4⟩:∃ Y,Y=ofB [e,f,g,h]:=⟨_,rfl⟩
 obtain ⟨Y5,k5⟩:∃ Y,Y=ofB [f,g,h]:=⟨_,rfl⟩
 obtain ⟨Y6,k6⟩:∃ Y,Y=ofB [g,h]:=⟨_,rfl⟩
 obtain ⟨Y7,k7⟩:∃ Y,Y=ofB [h]:=⟨_,rfl⟩
 have j0:y0=a+256*Y1:=by rw [k1];exact e0
 have j1:Y1=b+256*Y2:=by rw [k2];exact k1
 have j2:Y2=c+256*Y3:=by rw [k3];exact k2
 have j3:Y3=d+256*Y4:=by rw [k4];exact k3
 have j4:Y4=e+256*Y5:=by rw [k5];exact k4
 have j5:Y5=f+256*Y6:=by rw [k6];exact k5
 have j6:Y6=g+256*Y7:=by rw [k7];exact k6
 have j7:Y7=h:=by rw [k7];rfl
 clear k1 k2 k3 k4 k5 k6 k7 e0
 have d0:y0 / 256=Y1:=by rw [j0,Nat.add_mul_div_left _ _ (by decide),Nat.div_eq_of_lt (by omega)];omega
 have d1:=fin8a a b c y0 Y1 Y2 Y3 ha hb hc j0 j1 j2
 obtain ⟨L0,q0,l0⟩:=fin8b a b c d y0 Y1 Y2 Y3 Y4 ha hb hc hd j0 j1 j2 j3
 obtain ⟨L1,q1,l1⟩:=fin8b b c d e Y1 Y2 Y3 Y4 Y5 hb hc hd he j1 j2 j3 j4
 obtain ⟨L2,q2,l2⟩:=fin8b c d e f Y2 Y3 Y4 Y5 Y6 hc hd he hf j2 j3 j4 j5
 obtain ⟨L3,q3,l3⟩:=fin8b d e f g Y3 Y4 Y5 Y6 Y7 hd he hf hg j3 j4 j5 j6
 have d2:=fin8c L0 L1 L2 L3 y0 Y1 Y2 Y3 Y4 Y5 Y6 Y7 q0 q1 q2 q3 l0 l1 l2 l3
 have e1':y1=y0+Y1:=by rw [e1,d0]
 have e2':y2=y0+Y1+Y2+Y3:=by rw [e2,e1',d1];exact (Nat.add_assoc _ _ _).symm
 have e3:y3=y0+Y1+Y2+Y3+Y4+Y5+Y6+Y7:=by rw [e3,e2',d2];simp only [Nat.add_assoc]
 clear d0 d1 d2 q0 q1 q2 q3 l0 l1 l2 l3 e1 e2
 have b7:Y7<=8:=by rw [j7];exact hh
 have b6:=up8 g Y6 Y7 8 2056 hg j6 b7 (by decide)
 have b5:=up8 f Y5 Y6 2056 526344 hf j5 b6 (by decide)
 have b4:=up8 e Y4 Y5 526344 134744072 he j4 b5 (by decide)
 have b3:=up8 d Y3 Y4 134744072 34494482440 hd j3 b4 (by decide)
 have b2:=up8 c Y2 Y3 34494482440 8830587504648 hc j2 b3 (by decide)
 have b1:=up8 b Y1 Y2 8830587504648 2260630401189896 hb j1 b2 (by decide)
 have b0:=up8 a y0 Y1 2260630401189896 578721382704613384 ha j0 b1 (by decide)
 have c1:y1<=2000000000000000000:=by rw [e1'];clear e3 e2' e1' j0 j1 j2 j3 j4 j5 j6 j7;omega
 have c2:y2<=2000000000000000000:=by rw [e2'];clear e3 e2' e1' j0 j1 j2 j3 j4 j5 j6 j7;omega
 have c3:y3<=2000000000000000000:=by rw [e3];clear e3 e2' e1' j0 j1 j2 j3 j4 j5 j6 j7;omega
 refine ⟨?_,c1,c2,c3⟩
 clear c1 c2 c3 b0 b1 b2 b3 b4 b5 b6 b7 e1' e2'
 have s0:=half8 a y0 Y1 j0
 have s1:=half8 b Y1 Y2 j1
 have s2:=half8 c Y2 Y3 j2
 have s3:=half8 d Y3 Y4 j3
 have s4:=half8 e Y4 Y5 j4
 have s5:=half8 f Y5 Y6 j5
 have s6:=half8 g Y6 Y7 j6
 obtain ⟨t0,s0⟩:=s0
 obtain ⟨t1,s1⟩:=s1
 obtain ⟨t2,s2⟩:=s2
 obtain ⟨t3,s3⟩:=s3
 obtain ⟨t4,s4⟩:=s4
 obtain ⟨t5,s5⟩:=s5
 obtain ⟨t6,s6⟩:=s6
 clear j0 j1 j2 j3 j4 j5 j6
 have:y3=(a+b+c+d+e+f+g+h)+128*(t0+t1+t2+t3+t4+t5+t6):=by rw [e3,s0,s1,s2,s3,s4,s5,s6,j7];omega
 rw [this,Nat.add_mul_mod_self_left]
 clear e3 this s0 s1 s2 s3 s4 s5 s6
 exact Nat.mod_eq_of_lt (by omega)
theorem Qrf (x:Nat) (hx:x < 18446744073709551616) (a1 a2 x1 b1 b2 x2 s x3 x4 x5 x6:Nat)
  (e1:a1=x / 2 &&& 6148914691236517205) (e2:a2=x &&& 6148914691236517205) (e3:x1=a1+a2) (e4:b1=x1 / 4 &&& 3689348814741910323) (e5:b2=x1 &&& 3689348814741910323) (e6:x2=b1+b2)
  (e7:s=x2 / 16+x2) (e8:x3=s &&& 1085102592571150095) (e9:x4=x3+x3 / 256) (e10:x5=x4+x4 / 65536) (e11:x6=x5+x5 / 4294967296) :
  x6 % 128=cnt x.testBit 64/\x4<=2000000000000000000/\x5<=2000000000000000000/\x6<=2000000000000000000:=by
 obtain ⟨l,hl⟩:∃ l,l=Qdf x 8:=⟨_,rfl⟩
 have hlt:∀ b∈l,b < 256:=by rw [hl];exact QoM 8 x
 have hxl:ofB l=x:=by rw [hl];exact Ql5 8 x hx
 have hlen:∀ c,ofB (l.map fun _=>c)=ofB (List.replicate 8 c):=by intro c;rw [hl];rfl
 have k1:x1=ofB (l.map bA):=by
  have q1:=andB 1 85 (by decide) (by decide) l hlt
  have q2:=andB 0 85 (by decide) (by decide) l hlt
  rw [hlen,hxl] at q1 q2
  rw [Nat.pow_zero,Nat.div_one] at q2
  have m:ofB (List.replicate 8 85)=6148914691236517205:=by decide
  rw [m] at q1 q2
  rw [e3,e1,e2]
  rw [show x / 2=x / 2 ^ 1 by rw [Nat.pow_one],q1,q2,addB]
  congr 1
  refine List.map_congr_left fun b _=>?_
  rw [Nat.pow_one,Nat.div_one];rfl
 have hltA:∀ b∈l.map bA,b < 256:=by
  intro b hb
  obtain ⟨d,hd,rfl⟩:=List.mem_map.1 hb
  exact (QeC d (hlt d hd)).1
 have hlenA:∀ c,ofB ((l.map bA).map fun _=>c)=ofB (List.replicate 8 c):=by intro c;rw [hl];rfl
 have k2:x2=ofB ((l.map bA).map bB):=by
  have q1:=andB 2 51 (by decide) (by decide) (l.map bA) hltA
  have q2:=andB 0 51 (by decide) (by decide) (l.map bA) hltA
  rw [hlenA,<- k1] at q1 q2
  rw [Nat.pow_zero,Nat.div_one] at q2
  have m:ofB (List.replicate 8 51)=3689348814741910323:=by decide
  rw [m] at q1 q2
  rw [e6,e4,e5]
  rw [show x1 / 4=x1 / 2 ^ 2 from rfl,q1,q2,addB]
  congr 1
  refine List.map_congr_left fun b _=>?_
  rw [Nat.div_one];rfl
 have k3:x3=ofB (((l.map bA).map bB).map bC):=by
  have q:=nibB ((l.map bA).map bB) (by
   intro b hb
   obtain ⟨d,hd,rfl⟩:=List.mem_map.1 hb
   obtain ⟨c,hc,rfl⟩:=List.mem_map.1 hd
   exact ⟨(QeC c (hlt c hc)).2.1,(QeC c (hlt c hc)).2.2.1⟩)
  have m:ofB (((l.map bA).map bB).map fun _=>15)=1085102592571150095:=by rw [hl];show ofB (List.replicate 8 15)=_;decide
  rw [m,<- k2] at q
  rw [e8,e7,q]
  rfl
 rw [List.map_map,List.map_map] at k3
 have hc:∀ b∈l,((bC∘bB)∘bA) b=cnt b.testBit 8:=fun b hb=>(QeC b (hlt b hb)).2.2.2
 rw [List.map_congr_left hc] at k3
 have hsum:=Ql6 8 x
 rw [<- hl] at hsum
 have h8:l=[l[0]!,l[1]!,l[2]!,l[3]!,l[4]!,l[5]!,l[6]!,l[7]!]:=by rw [hl];rfl
 generalize l[0]! = a0 at h8
 generalize l[1]! = a1' at h8
 generalize l[2]! = a2' at h8
 generalize l[3]! = a3' at h8
 generalize l[4]! = a4' at h8
 generalize l[5]! = a5' at h8
 generalize l[6]! = a6' at h8
 generalize l[7]! = a7' at h8
 rw [h8] at k3 hsum
 have:=fin8 (cnt a0.testBit 8) (cnt a1'.testBit 8) (cnt a2'.testBit 8) (cnt a3'.testBit 8) (cnt a4'.testBit 8) (cnt a5'.testBit 8) (cnt a6'.testBit 8) (cnt a7'.testBit 8) (Qcj _ _) (Qcj _ _) (Qcj _ _) (Qcj _ _) (Qcj _ _) (Qcj _ _) (Qcj _ _) (Qcj _ _) x3 x4 x5 x6 k3 e9 e10 e11
 refine ⟨?_,this.2⟩
 rw [this.1,show (64:Nat)=8*8 from rfl,hsum]
 simp
 omega
theorem QeD:(Tryz.prog.info? 104).map (fun i=>(i.zero,i.size,i.bytes))=some (some (.int .u64 0),1,8):=by kernel_rfl
abbrev set2 (w:World) (G:Nat) (a0 a1:Value):World:=(w.setCell ⟨G,0,none⟩ a0).setCell ⟨G,1,none⟩ a1
theorem Qa1 {B:Nat}{w0 w:World} (h:Below B w0 w){G:Nat} (hG:B<=G) (a0 a1:Value):Below B w0 (set2 w G a0 a1):=(h.setCell hG _).setCell hG _
theorem Qct {w:World}{B:Nat}{e:TypeId}{v:Value}{xs:List Value} (h:Own1 w B e v xs){G:Nat} (hG:v.ownBlock≠some G) (a0 a1:Value):Own1 (set2 w G a0 a1) B e v xs:=by
 unfold Own1 at *
 exact ownsRow_setCell_other (ownsRow_setCell_other h hG _) hG _
theorem Qa2 {w:World}{G:Nat}{e:TypeId}{z0 z1:Value} (h:w.heap[G]?=some (.cells #[z0,z1] e)) (a0 a1:Value):(set2 w G a0 a1).heap[G]?=some (.cells #[a0,a1] e):=by
 have h0:=heap_setCell_same _ G 0 _ e a0 h
 rw [show (#[z0,z1]:Array Value).setIfInBounds 0 a0=#[a0,z1] by simp] at h0
 have h1:=heap_setCell_same _ G 1 _ e a1 h0
 rw [show (#[a0,z1]:Array Value).setIfInBounds 1 a1=#[a0,a1] by simp] at h1
 exact h1
theorem QeE {fn:Func}{p:Tmp} (h:fn.results=#[.cell p 33]) (tmps:Array Value) (w:World) (G:Nat){e:TypeId}{a0 a1:Value}
  (hp:tmps.getD p undef= .pointer (some ⟨G,0,none⟩)) (hg:w.heap[G]?=some (.cells #[a0,a1] e)) :
  (results fn tmps).run Tryz.prog w= .ok (.agg #[a0,a1]) w :=
 results_cell_row h tmps w G e _ (0,0) _ hp hg Tryz.underlying33 rfl Qhp
theorem Qaj {w:World}{G:Nat}{e:TypeId}{a b:Value} (h:w.heap[G]?=some (.cells #[a,b] e)):w.cell? ⟨G,0,none⟩=some a/\w.cell? ⟨G,1,none⟩=some b/\∀ j,w.frozen? ⟨G,j,none⟩=false :=
 ⟨by rw [cell_of_row _ G 0 _ e (0,0) h];rfl,by rw [cell_of_row _ G 1 _ e (0,0) h];rfl,fun j=>frozen_of_row _ _ j _ e h⟩
def RowU (w:World) (B g T:Nat) (F:Nat->Nat):Prop:=Own1 w B 104 (.slice (some ⟨g,0,none⟩) T T) ((List.range T).map fun j => .int .u64 (F j:Nat))
theorem RowU.ow {w:World}{B g T:Nat}{F:Nat->Nat} (h:RowU w B g T F):w.ownsRow B 104 1 (.slice (some ⟨g,0,none⟩) T T) T ((List.range T).map fun j => .int .u64 (F j:Nat)):=by
 have:=h
 unfold RowU Own1 at this
 rw [List.length_map,List.length_range] at this
 exact this
theorem RowU.of_ow {w:World}{B g T:Nat}{F:Nat->Nat} (h:w.ownsRow B 104 1 (.slice (some ⟨g,0,none⟩) T T) T ((List.range T).map fun j => .int .u64 (F j:Nat))):RowU w B g T F:=by
 unfold RowU Own1
 rw [List.length_map,List.length_range]
 exact h
theorem QfN {T k:Nat}{f:Nat->Value} (hk:k < T) (u:Value):((List.range T).map f).set k u=(List.range T).map fun j=>if j=k then u else f j:=by
 apply List.ext_getElem?
 intro i
 rw [List.getElem?_set]
 by_cases hi:i < T
 ·by_cases e:k=i
  ·subst e;simp [hk]
  ·have e':¬ i=k:=fun h=>e h.symm
   simp [e,e',hi]
 ·have h1:((List.range T).map f)[i]?=none:=by simp;omega
  have h2:((List.range T).map fun j=>if j=k then u else f j)[i]?=none:=by simp;omega
  rw [h2,if_neg (by omega),h1]
theorem RowU.put {w:World}{B g T:Nat}{F F':Nat->Nat} (h:RowU w B g T F){k:Nat} (hk:k < T) (z:Nat) (hF:∀ j,j < T->F' j=if j=k then z else F j):RowU (w.setCell ⟨g,k,none⟩ (.int .u64 (z:Nat))) B g T F':=by
 have h2:=(World.ownsRow.stored h.ow k (.int .u64 (z:Nat))).1
 rw [QfN hk] at h2
 refine RowU.of_ow ?_
 have e:((List.range T).map fun j=>Value.int .u64 (F' j:Nat))=(List.range T).map fun j=>if j=k then .int .u64 (z:Nat) else .int .u64 (F j:Nat):=by
  apply List.map_congr_left
  intro j hj
  rw [hF j (List.mem_range.1 hj)]
  split <;> rfl
 rw [e]
 exact h2
theorem RowU.cell {w:World}{B g T:Nat}{F:Nat->Nat} (h:RowU w B g T F){k:Nat} (hk:k < T):w.cell? ⟨g,k,none⟩=some (.int .u64 (F k:Nat)):=by
 have:=World.ownsRow.cellAt h.ow k (by omega)
 rw [this]
 simp [hk]
theorem RowU.frozen {w:World}{B g T:Nat}{F:Nat->Nat} (h:RowU w B g T F) (k:Nat):w.frozen? ⟨g,k,none⟩=false:=World.ownsRow.frozenAt h.ow k
theorem RowU.low {w:World}{B g T:Nat}{F:Nat->Nat} (h:RowU w B g T F):B<=g/\g < w.heap.size:=World.ownsRow.lt h.ow g rfl
theorem RowU.same {w:World}{B g T:Nat}{F F':Nat->Nat} (h:RowU w B g T F) (e:∀ j,j < T->F' j=F j):RowU w B g T F':=by
 have e2:((List.range T).map fun j=>Value.int .u64 (F' j:Nat))=(List.range T).map fun j => .int .u64 (F j:Nat):=by
  apply List.map_congr_left
  intro j hj
  rw [e j (List.mem_range.1 hj)]
 unfold RowU
 rw [e2]
 exact h
theorem RowU.below {w w':World}{B g T:Nat}{F:Nat->Nat} (h:RowU w B g T F) (hb:Below w.heap.size w w'):RowU w' B g T F:=Own1.below h hb
theorem RowU.lower {w:World}{B B' g T:Nat}{F:Nat->Nat} (h:RowU w B g T F) (hB:B'<=B):RowU w B' g T F:=Own1.lower h hB
theorem RowU.made (w:World) (B:Nat) (hB:B<=w.heap.size) (T:Nat) (hT:T<=maxLen):RowU (w.alloc (.cells (madeCells #[.int .u64 0] T) 104)) B w.heap.size T (fun _=>0):=by
 have h:=World.ownsRow_lit (base:=B) (e:=104) (size:=1) w (madeCells #[.int .u64 0] T) T hB hT (by rw [size_madeCells];omega)
 rw [toList_madeCells_one] at h
 refine RowU.of_ow ?_
 have e:((List.range T).map fun _:Nat=>Value.int .u64 ((0:Nat):Int))=List.replicate T (.int .u64 0):=by
  rw [List.map_const',List.length_range]
  rfl
 rw [e]
 exact h
abbrev bcells:Array Value:=#[.slice none 0 0,.int .i64 0]
theorem Qd4 (n:Nat) (hn:n<=1048576) (w:World) :
  Calls Tryz.prog 57 #[.int .i64 (n:Int),.bool false] w fun e w'=>∃ g,e= .returned (.agg #[.slice (some ⟨g,0,none⟩) ((n+63) / 64) ((n+63) / 64),.int .i64 (n:Int)])/\RowU w' w.heap.size g ((n+63) / 64) (fun _=>0)/\Below w.heap.size w w':=by
 obtain ⟨M,hM⟩:∃ M,M=(n+63) / 64:=⟨_,rfl⟩
 have hMi:((n:Int)+63) / 64=(M:Int):=by omega
 have hmm:max (0:Int) (min (n:Int) 1048576)=(n:Int):=by omega
 have hmk:=run_make_row' (P:=Tryz.prog) 31 104 (.int .u64 0) 8 Tryz.underlying31 QeD rfl .i64 .i64 M (by omega) (by omega)
 rw [<- hM]
 have hMb:M<=16384:=by omega
 clear hM
 go_enter Tryz.func57,Tryz.ntmps57
 have HR:=hD ((RowU.made (w.alloc (.cells #[.slice (some ⟨w.heap.size+1,0,none⟩) M M,.int .i64 (n:Int)] 33)) w.heap.size (by simp) M (by unfold maxLen;omega)).below (bel1 _ (.cells #[.slice (some ⟨w.heap.size+1,0,none⟩) M M,.int .i64 (n:Int)] 33)))
 have hsz:(w.alloc (.cells #[.slice (some ⟨w.heap.size+1,0,none⟩) M M,.int .i64 (n:Int)] 33)).heap.size=w.heap.size+1:=by simp
 rw [hsz] at HR
 clear hsz
 have HB:=hD (bel3 w (.cells #[.slice (some ⟨w.heap.size+1,0,none⟩) M M,.int .i64 (n:Int)] 33) (.cells (madeCells #[.int .u64 0] M) 104) (.cells #[.slice (some ⟨w.heap.size+1,0,none⟩) M M,.int .i64 (n:Int)] 33))
 have HK:=hD (Qar ((bel2 (w.alloc (.cells #[.slice (some ⟨w.heap.size+1,0,none⟩) M M,.int .i64 (n:Int)] 33)) (.cells (madeCells #[.int .u64 0] M) 104) (.cells #[.slice (some ⟨w.heap.size+1,0,none⟩) M M,.int .i64 (n:Int)] 33))))
 go_wp2
 exact bodyPost_ret (QeE rfl _ _ _ rfl HK.out) rfl ⟨w.heap.size+1,rfl,HR.out,HB.out⟩
theorem QkH (x r:Nat) (hx:x < 18446744073709551616) (hr:r < 64):bits .or .u64 (x:Int) ((2 ^ r:Nat):Int)=((x ||| 2 ^ r:Nat):Int):=by
 refine u64_or_nat x (2 ^ r) hx ?_
 have:2 ^ r<=2 ^ 63:=Nat.pow_le_pow_right (by decide) (by omega)
 omega
theorem QiB (x r:Nat) (hx:x < 18446744073709551616) (hr:r < 64):bits .or .u64 (x:Int) (IntKind.u64.wrap ((2:Int) ^ r))=((x ||| 2 ^ r:Nat):Int):=by
 have e:((2:Int) ^ r)=((2 ^ r:Nat):Int):=by rw [Int.natCast_pow];rfl
 have:2 ^ r<=2 ^ 63:=Nat.pow_le_pow_right (by decide) (by omega)
 rw [e,Qb2 _ (by omega),QkH x r hx hr]
theorem QcV (b o n c:Nat) (l:Nat->Bool) (hn:n<=1048576) (hnc:n<=c) (w:World) (hc:∀ i,i < n->w.cell? ⟨b,o+i,none⟩=some (.bool (l i))) :
  Calls Tryz.prog 25 #[.slice (some ⟨b,o,none⟩) n c] w fun e w'=>∃ g,e= .returned (.agg #[.slice (some ⟨g,0,none⟩) ((n+63) / 64) ((n+63) / 64),.int .i64 (n:Int)])/\RowU w' w.heap.size g ((n+63) / 64) (packW l n)/\Below w.heap.size w w':=by
 have HM:=hD (fun W=>Qd4 n hn W)
 have HC:=hD hc
 have hmm:min (n:Int) 1048576=(n:Int):=by omega
 obtain ⟨M,hM⟩:∃ M,M=(n+63) / 64:=⟨_,rfl⟩
 rw [<- hM] at HM ⊢
 have HMM:=hD hM
 clear hc hM
 go_enter Tryz.func25,Tryz.ntmps25
 go_wp2_with fail
 refine (HM.out _).mono ?_
 rintro e w1 ⟨g,rfl,hr,hb1⟩
 have HB1:=hD (Qaa (bel1 w _) hb1)
 have HK1:=hD (Qar hb1)
 have HR1:=hD (hr.lower (show w.heap.size+1<=_ by simp))
 clear hb1 hr
 have HR2:=hD (HR1.out.below (bel1 w1 (.cells #[.slice (some ⟨g,0,none⟩) M M,.int .i64 (n:Int)] 33)))
 have HB2:=hD (Qaa HB1.out (bel1 w1 (.cells #[.slice (some ⟨g,0,none⟩) M M,.int .i64 (n:Int)] 33)))
 have HK2:=hD (show (w1.alloc (.cells #[.slice (some ⟨g,0,none⟩) M M,.int .i64 (n:Int)] 33)).heap[w.heap.size]?=_ from (Below.heap_alloc _ _ _ (lt_of_block HK1.out)).trans HK1.out)
 have HV2:=hD (heap_alloc_new w1 (.cells #[.slice (some ⟨g,0,none⟩) M M,.int .i64 (n:Int)] 33))
 have hg1:g < w1.heap.size:=HR1.out.low.2
 have hg0:w.heap.size < g:=HR1.out.low.1
 go_wp2_with fail
 go_loopw [16] (fun ii wr=>∃ i:Nat,i<=n/\ii= .int .i64 i/\RowU wr (w.heap.size+1) g M (packW l i)/\Below w.heap.size w wr/\wr.heap[w.heap.size]?=some (.cells bcells 33)/\wr.heap[w1.heap.size]?=some (.cells #[.slice (some ⟨g,0,none⟩) M M,.int .i64 (n:Int)] 33)) (fun ii _=>n - (intOf ii).toNat)
 case atStart=>exact ⟨0,Nat.zero_le _,rfl,HR2.out.same (fun j _=>QkG l j),HB2.out,HK2.out,HV2.out⟩
 case round =>
  clear HM HR1 HR2 HB2 HK2 HV2 HK1 HB1
  obtain ⟨i,hi,rfl,hrow,hbl,hk,hv⟩:=hrel
  have HROW:=hD hrow
  have HBL:=hD hbl
  have HK:=hD hk
  have HV:=hD hv
  clear hrow hbl hk hv
  by_cases hlt:i < n
  ·have hcell:wr.cell? ⟨b,o+i,none⟩=some (.bool (l i)):=by rw [HBL.out.cell (Qav (HC.out i hlt))];exact HC.out i hlt
   by_cases hli:l i=true
   ·rw [hli] at hcell
    obtain ⟨k,hk⟩:∃ k,k=i / 64:=⟨_,rfl⟩
    have hkM:k < M:=by rw [hk,HMM.out];omega
    have hki:(i:Int) / 64=(k:Int):=by omega
    have hcw:=HROW.out.cell hkM
    have hfw:=HROW.out.frozen k
    obtain ⟨hv0,hv1,hvf⟩:=Qaj HV.out
    have h63:=and63 i (by omega)
    obtain ⟨r,hr⟩:∃ r,r=i % 64:=⟨_,rfl⟩
    have hr64:r < 64:=by omega
    rw [<- hr] at h63
    have hpw:=Ql4 l i hli
    rw [<- hk,<- hr] at hpw
    have HPUT:=hD (HROW.out.put hkM (packW l i k ||| 2 ^ r) (F':=packW l (i+1)) (fun j _=>by
     by_cases e:j=k
     ·rw [if_pos e,e];exact hpw
     ·rw [if_neg e];exact QfW l i j (.inr (by rw [<- hk];exact e))))
    have hxlt:=QaR l i k
    clear hpw hr hk
    generalize packW l i k=x at *
    have HOR:=hD (QiB x r hxlt hr64)
    have HB3:=hD (HBL.out.setCell (p:=⟨g,k,none⟩) (by show _<=g;omega) (.int .u64 ((x ||| 2 ^ r:Nat):Int)))
    have HK3:=hD ((Below.heap_setCell wr ⟨g,k,none⟩ (.int .u64 ((x ||| 2 ^ r:Nat):Int)) w.heap.size (by show _≠g;omega)).trans HK.out)
    have HV3:=hD ((Below.heap_setCell wr ⟨g,k,none⟩ (.int .u64 ((x ||| 2 ^ r:Nat):Int)) w1.heap.size (by show _≠g;omega)).trans HV.out)
    go_wp2
    rw [HOR.out]
    exact ⟨⟨i+1,by omega,by go_num,HPUT.out,HB3.out,HK3.out,HV3.out⟩,by simp [intOf];omega⟩
   ·have hlf:l i=false:=by simpa using hli
    rw [hlf] at hcell
    have HS:=hD (HROW.out.same (F':=packW l (i+1)) (fun j _=>QfW l i j (.inl hlf)))
    go_wp2
    go_roundw
    case rel=>exact ⟨i+1,by omega,by go_num,HS.out,HBL.out,HK.out,HV.out⟩
    case measure=>simp [intOf];omega
  ·obtain rfl:i=n:=by omega
   obtain ⟨hv0,hv1,hvf⟩:=Qaj HV.out
   obtain ⟨hk0,hk1,hkf⟩:=Qaj HK.out
   go_wp2
   refine bodyPost_ret (QeE rfl _ _ _ rfl (Qa2 HK.out _ _)) rfl ⟨g,rfl,?_,Qa1 HBL.out (Nat.le_refl _) _ _⟩
   exact Qct (HROW.out.lower (Nat.le_succ _)) (by show some g≠_;intro e;injection e;omega) _ _
def BitsIn (W:World) (v:Value) (n:Nat) (l:Nat->Bool):Prop :=
 ∃ b o c,v= .agg #[.slice (some ⟨b,o,none⟩) ((n+63) / 64) c,.int .i64 (n:Int)]/\∀ j,j < (n+63) / 64->W.cell? ⟨b,o+j,none⟩=some (.int .u64 (packW l n j:Nat))
theorem BitsIn.below {w w':World}{v:Value}{n:Nat}{l:Nat->Bool} (h:BitsIn w v n l) (hb:Below w.heap.size w w'):BitsIn w' v n l:=by
 obtain ⟨b,o,c,e,hc⟩:=h
 exact ⟨b,o,c,e,fun j hj=>by rw [hb.cell (Qav (hc j hj))];exact hc j hj⟩
theorem and127 (i:Nat) (h:i<=2000000000000000000):bits .and .i64 (i:Int) 127=((i % 128:Nat):Int):=by
 show IntKind.i64.wrap ((BitVec.ofInt 64 (i:Int) &&& BitVec.ofInt 64 ((127:Nat):Int)).toNat:Int)=_
 have e:i &&& 127=i % 128:=Nat.and_two_pow_sub_one_eq_mod i 7
 rw [BitVec.toNat_and,ofInt_u64 i (by omega),ofInt_u64 127 (by omega),e,IntKind.wrap_i64]
 omega
theorem andM (x m:Nat) (mi:Int) (hmi:(m:Int)=mi) (hx:x < 18446744073709551616) (hm:m < 18446744073709551616):bits .and .u64 (x:Int) mi=((x &&& m:Nat):Int)/\x &&& m<=m:=⟨by rw [<- hmi];exact u64_and_nat x m hx hm,Nat.and_le_right⟩
theorem QoN (x:Nat) (hx:x < 18446744073709551616) (w:World):Calls Tryz.prog 66 #[.int .u64 (x:Int)] w fun e w'=>e= .returned (.int .i64 (cnt x.testBit 64:Nat))/\w=w':=by
 obtain ⟨h1,eh1⟩:∃ h,h=x / 2:=⟨_,rfl⟩
 obtain ⟨a1,e1⟩:∃ a,a=h1 &&& 6148914691236517205:=⟨_,rfl⟩
 obtain ⟨a2,e2⟩:∃ a,a=x &&& 6148914691236517205:=⟨_,rfl⟩
 obtain ⟨x1,e3⟩:∃ a,a=a1+a2:=⟨_,rfl⟩
 obtain ⟨h2,eh2⟩:∃ h,h=x1 / 4:=⟨_,rfl⟩
 obtain ⟨b1,e4⟩:∃ a,a=h2 &&& 3689348814741910323:=⟨_,rfl⟩
 obtain ⟨b2,e5⟩:∃ a,a=x1 &&& 3689348814741910323:=⟨_,rfl⟩
 obtain ⟨x2,e6⟩:∃ a,a=b1+b2:=⟨_,rfl⟩
 obtain ⟨h3,eh3⟩:∃ h,h=x2 / 16:=⟨_,rfl⟩
 obtain ⟨s,e7⟩:∃ a,a=h3+x2:=⟨_,rfl⟩
 obtain ⟨x3,e8⟩:∃ a,a=s &&& 1085102592571150095:=⟨_,rfl⟩
 obtain ⟨h4,eh4⟩:∃ h,h=x3 / 256:=⟨_,rfl⟩
 obtain ⟨x4,e9⟩:∃ a,a=x3+h4:=⟨_,rfl⟩
 obtain ⟨h5,eh5⟩:∃ h,h=x4 / 65536:=⟨_,rfl⟩
 obtain ⟨x5,e10⟩:∃ a,a=x4+h5:=⟨_,rfl⟩
 obtain ⟨h6,eh6⟩:∃ h,h=x5 / 4294967296:=⟨_,rfl⟩
 obtain ⟨x6,e11⟩:∃ a,a=x5+h6:=⟨_,rfl⟩
 obtain ⟨hpop,l4,l5,l6⟩:=Qrf x hx a1 a2 x1 b1 b2 x2 s x3 x4 x5 x6 (by rw [e1,eh1]) e2 e3 (by rw [e4,eh2]) e5 e6 (by rw [e7,eh3]) e8 (by rw [e9,eh4]) (by rw [e10,eh5]) (by rw [e11,eh6])
 have HP:=hD hpop
 clear hpop
 have i1:(x:Int) / 2=(h1:Int):=by rw [eh1];rfl
 have hh1:h1 < 18446744073709551616:=by omega
 obtain ⟨i2,k1⟩:=andM h1 6148914691236517205 6148914691236517205 rfl hh1 (by decide)
 obtain ⟨i3,k2⟩:=andM x 6148914691236517205 6148914691236517205 rfl hx (by decide)
 rw [<- e1] at i2 k1
 rw [<- e2] at i3 k2
 have i4:(a1:Int)+(a2:Int)=(x1:Int):=by rw [e3];rfl
 have hx1:x1 < 18446744073709551616:=by omega
 have i5:(x1:Int) / 4=(h2:Int):=by rw [eh2];rfl
 have hh2:h2 < 18446744073709551616:=by omega
 obtain ⟨i6,k3⟩:=andM h2 3689348814741910323 3689348814741910323 rfl hh2 (by decide)
 obtain ⟨i7,k4⟩:=andM x1 3689348814741910323 3689348814741910323 rfl hx1 (by decide)
 rw [<- e4] at i6 k3
 rw [<- e5] at i7 k4
 have i8:(b1:Int)+(b2:Int)=(x2:Int):=by rw [e6];rfl
 have hx2:x2<=7378697629483820646:=by omega
 have i9:(x2:Int) / 16=(h3:Int):=by rw [eh3];rfl
 have hh3:h3<=461168601842738790:=by omega
 have i10:(h3:Int)+(x2:Int)=(s:Int):=by rw [e7];rfl
 have hs:s < 18446744073709551616:=by omega
 obtain ⟨i11,k5⟩:=andM s 1085102592571150095 1085102592571150095 rfl hs (by decide)
 rw [<- e8] at i11 k5
 have i12:(x3:Int) / 256=(h4:Int):=by rw [eh4];rfl
 have i13:(x3:Int)+(h4:Int)=(x4:Int):=by rw [e9];rfl
 have i14:(x4:Int) / 65536=(h5:Int):=by rw [eh5];rfl
 have i15:(x4:Int)+(h5:Int)=(x5:Int):=by rw [e10];rfl
 have i16:(x5:Int) / 4294967296=(h6:Int):=by rw [eh6];rfl
 have i17:(x5:Int)+(h6:Int)=(x6:Int):=by rw [e11];rfl
 have i18:=and127 x6 l6
 have hh4:h4<=2000000000000000000:=by omega
 have hh5:h5<=2000000000000000000:=by omega
 have hh6:h6<=2000000000000000000:=by omega
 clear eh1 e1 e2 e3 eh2 e4 e5 e6 eh3 e7 e8 eh4 e9 eh5 e10 eh6 e11
 go_enter Tryz.func66,Tryz.ntmps66
 go_wp2
 go_ret
 exact ⟨by rw [<- HP.out];rfl,rfl⟩
def cntW (X:Nat->Nat):Nat->Nat
 | 0=>0
 | i+1=>cntW X i+cnt (X i).testBit 64
theorem Qhs (X:Nat->Nat) (i:Nat):cntW X (i+1)=cntW X i+cnt (X i).testBit 64:=rfl
theorem Ql7 (X:Nat->Nat) (i:Nat):cntW X i<=64*i:=by
 induction i with
 | zero=>exact Nat.le_refl _
 | succ i ih=>have:=Qcj (X i).testBit 64;unfold cntW;omega
theorem Ql8 (l:Nat->Bool) (n:Nat):∀ M,cntW (packW l n) M=cnt (fun i=>decide (i < n)&&l i) (64*M):=by
 intro M
 induction M with
 | zero=>rfl
 | succ M ih =>
  have h:=Qdv (f:=(packW l n M).testBit) (g:=fun i=>decide (64*M+i < n)&&l (64*M+i)) 64 fun i hi=>Qay l n M i hi
  rw [Nat.mul_add,Nat.mul_one,QgG,<- ih,Qhs,h]
theorem Qrg (l:Nat->Bool) (n k:Nat):cnt (fun i=>decide (i < n)&&l i) (n+k)=cnt l n:=by
 rw [QgG]
 have h1:cnt (fun i=>decide (i < n)&&l i) n=cnt l n:=Qdv n fun i hi=>by simp [hi]
 have h2:cnt (fun i=>decide (n+i < n)&&l (n+i)) k=0:=by
  induction k with
  | zero=>rfl
  | succ k ih =>
   unfold cnt
   have:¬ n+k < n:=by omega
   rw [ih];simp [this]
 rw [h1,h2];rfl
theorem Ql9 (l:Nat->Bool) (n:Nat):cntW (packW l n) ((n+63) / 64)=cnt l n:=by
 rw [Ql8,show 64*((n+63) / 64)=n+(64*((n+63) / 64) - n) by omega,Qrg]
theorem QiC (b o M c:Nat) (len:Int) (X:Nat->Nat) (w:World) (hM:M<=16384) (hc:∀ j,j < M->w.cell? ⟨b,o+j,none⟩=some (.int .u64 (X j:Nat))) (hX:∀ j,j < M->X j < 18446744073709551616) :
  Calls Tryz.prog 31 #[.agg #[.slice (some ⟨b,o,none⟩) M c,.int .i64 len]] w fun e w'=>e= .returned (.int .i64 (cntW X M:Nat))/\Below w.heap.size w w':=by
 have HC:=hD hc
 have HX:=hD hX
 have HB0:=hD (bel1 w (.cells #[.slice (some ⟨b,o,none⟩) M c,.int .i64 len] 33))
 clear hc hX
 go_enter Tryz.func31,Tryz.ntmps31
 go_wp2_with fail
 go_loopw [3,9] (fun nn ii wr=>∃ i:Nat,i<=M/\ii= .int .i64 i/\nn= .int .i64 (cntW X i:Nat)/\Below w.heap.size w wr) (fun _ ii _=>M - (intOf ii).toNat)
 case atStart=>exact ⟨0,Nat.zero_le _,rfl,rfl,HB0.out⟩
 case round =>
  obtain ⟨i,hi,rfl,rfl,hbl⟩:=hrel
  have HBL:=hD hbl
  clear hbl
  by_cases hlt:i < M
  ·have hcell:wr.cell? ⟨b,o+i,none⟩=some (.int .u64 (X i:Nat)):=by rw [HBL.out.cell (Qav (HC.out i hlt))];exact HC.out i hlt
   have HON:=hD (fun W=>QoN (X i) (HX.out i hlt) W)
   have hst:(cntW X i:Int)+(cnt (X i).testBit 64:Int)=(cntW X (i+1):Nat):=by rw [Qhs];rfl
   have hle:=Ql7 X i
   have hle2:=Ql7 X (i+1)
   have hl3:=Qcj (X i).testBit 64
   obtain ⟨s2,hs2⟩:∃ s,cntW X (i+1)=s:=⟨_,rfl⟩
   rw [hs2] at hst hle2
   generalize cntW X i=s1 at *
   generalize X i=x at *
   generalize cnt x.testBit 64=k at *
   go_wp2_with fail
   refine (HON.out _).mono ?_
   rintro e w1 ⟨rfl,rfl⟩
   go_wp2
   go_roundw
   case rel=>exact ⟨i+1,by omega,by go_num,by rw [hs2],HBL.out⟩
   case measure=>simp [intOf];omega
  ·obtain rfl:i=M:=by omega
   go_wp2
   go_ret
   exact ⟨rfl,HBL.out⟩
def trimF (n M:Nat) (X:Nat->Nat) (j:Nat):Nat:=if n % 64≠0/\j+1=M then X j &&& (2 ^ (n % 64) - 1) else X j
theorem QcW (n M:Nat) (X:Nat->Nat) (l:Nat->Bool) (hM:M=(n+63) / 64) (hX:∀ j,j < M->X j < 18446744073709551616) (h:∀ j,j < M->∀ m,m < 64->64*j+m < n->(X j).testBit m=l (64*j+m)):∀ j,j < M->trimF n M X j=packW l n j:=by
 intro j hj
 apply Nat.eq_of_testBit_eq
 intro m
 by_cases hm:m < 64
 ·rw [Qay _ _ _ _ hm]
  unfold trimF
  split
  ·rename_i hc
   rw [Nat.testBit_and,Nat.testBit_two_pow_sub_one]
   by_cases hin:64*j+m < n
   ·have h2:m < n % 64:=by omega
    rw [h j hj m hm hin];simp [hin,h2]
   ·have h2:¬ m < n % 64:=by omega
    simp [hin,h2]
  ·rename_i hc
   have hin:64*j+m < n:=by omega
   rw [h j hj m hm hin];simp [hin]
 ·rw [Qa0 _ _ _ _ hm]
  refine Nat.testBit_lt_two_pow (Nat.lt_of_lt_of_le (m:=2 ^ 64) ?_ (Nat.pow_le_pow_right (by decide) (by omega)))
  unfold trimF
  split
  ·exact Nat.lt_of_le_of_lt Nat.and_le_left (hX j hj)
  ·exact hX j hj
theorem QeF (B g n M:Nat) (X:Nat->Nat) (w:World) (hn:n<=1048576) (hM:M=(n+63) / 64) (hr:RowU w B g M X) (hX:∀ j,j < M->X j < 18446744073709551616) :
  Calls Tryz.prog 109 #[.agg #[.slice (some ⟨g,0,none⟩) M M,.int .i64 (n:Int)]] w fun e w'=>e= .returned (.tuple #[])/\RowU w' B g M (trimF n M X)/\Below B w w'/\∀ k,k < w.heap.size->k≠g->w'.heap[k]?=w.heap[k]?:=by
 have hlow:=hr.low
 have h63:=and63 n (by omega)
 have HR:=hD (hr.below (bel1 w (.cells #[.slice (some ⟨g,0,none⟩) M M,.int .i64 (n:Int)] 33)))
 have HB:=hD ((Below.refl B w).alloc (by omega) (.cells #[.slice (some ⟨g,0,none⟩) M M,.int .i64 (n:Int)] 33))
 by_cases h0:n % 64=0
 ·rw [h0] at h63
  have HS:=hD (HR.out.same (F':=trimF n M X) (fun j _=>by unfold trimF;rw [if_neg (by simp [h0])]))
  clear hr hX hM
  go_enter Tryz.func109,Tryz.ntmps109
  go_wp2
  go_end0
  exact ⟨rfl,HS.out,HB.out,fun k hk _=>Below.heap_alloc _ _ _ hk⟩
 ·obtain ⟨k,hk⟩:∃ k,M=k+1:=⟨M - 1,by omega⟩
  obtain ⟨r,er⟩:∃ r,r=n % 64:=⟨_,rfl⟩
  obtain ⟨p,ep⟩:∃ p,p=2 ^ r - 1:=⟨_,rfl⟩
  have hp2:2 ^ r<=2 ^ 63:=Nat.pow_le_pow_right (by decide) (by omega)
  have hp1:1<=2 ^ r:=Nat.one_le_two_pow
  have hpp:p+1<=9223372036854775808:=by omega
  have hpw:IntKind.u64.wrap ((2:Int) ^ r)=((p+1:Nat):Int):=by
   have e:((2:Int) ^ r)=((2 ^ r:Nat):Int):=by rw [Int.natCast_pow];rfl
   rw [e,Qb2 _ (by omega)]
   omega
  have hxk:=hX k (by omega)
  have hand:=u64_and_nat (X k) p hxk (by omega)
  have hPUT0:=hr.put (k:=k) (by omega) (X k &&& p) (F':=trimF n M X) (fun j _=>by
   unfold trimF
   by_cases e:j=k
   ·rw [if_pos ⟨h0,by omega⟩,if_pos e,e,ep,er]
   ·rw [if_neg (by omega),if_neg e])
  have hPUT:=hPUT0.below (bel1 _ (.cells #[.slice (some ⟨g,0,none⟩) M M,.int .i64 (n:Int)] 33))
  have HBP:=hD (((Below.refl B w).setCell (p:=⟨g,k,none⟩) hlow.1 (.int .u64 ((X k &&& p:Nat):Int))).alloc (Nat.le_trans (by omega:B<=w.heap.size) ((Below.refl B w).setCell (p:=⟨g,k,none⟩) hlow.1 (.int .u64 ((X k &&& p:Nat):Int))).size) (.cells #[.slice (some ⟨g,0,none⟩) M M,.int .i64 (n:Int)] 33))
  have hck:=HR.out.cell (k:=k) (by omega)
  have hfk:=HR.out.frozen k
  have HPUT:=hD hPUT
  have HSZ:Hid (∀ _:Nat,w.heap.size<=(w.setCell ⟨g,k,none⟩ (.int .u64 ((X k &&& p:Nat):Int))).heap.size):=fun _=>((Below.refl B w).setCell (p:=⟨g,k,none⟩) hlow.1 _).size
  rw [<- er] at h63
  have hr64:r < 64:=by omega
  have hr0:r≠0:=by omega
  have hMi:(M:Int) - 1=(k:Int):=by omega
  have hkM:k < M:=by omega
  have hMb:M<=16384:=by omega
  generalize trimF n M X=TX at *
  generalize X k=x at *
  generalize x &&& p=y at *
  clear hr hX hPUT hPUT0 ep er hp2 hp1 h0 hk hM
  go_enter Tryz.func109,Tryz.ntmps109
  go_wp2
  go_end0
  exact ⟨rfl,HPUT.out,HBP.out,fun k' hk' hne=>(Below.heap_alloc _ _ _ (Nat.lt_of_lt_of_le hk' (HSZ.out k'))).trans (Below.heap_setCell _ _ _ _ hne)⟩
theorem QgH (x m:Nat) (hm:m < 64) (hx:x < 18446744073709551616):(18446744073709551615 - x).testBit m = !x.testBit m:=by
 have h:=Nat.testBit_two_pow_sub_succ (n:=64) (x:=x) hx m
 rw [show 2 ^ 64 - (x+1)=18446744073709551615 - x by omega] at h
 rw [h]
 simp [hm]
end Go.Proofs.YtdelgpelkfndeaaGreatDoor
