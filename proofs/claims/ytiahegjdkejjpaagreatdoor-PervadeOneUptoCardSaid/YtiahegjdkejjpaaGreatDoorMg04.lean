/- The walks of Max, Min and of arith.One and the reference's One of layer 10, function by function. The walks of fold.One and of the reference's One of layer 13: .. Conditions: as each theorem says. -/
import Derived.Test.YtiahegjdkejjpaaGreatDoorMg03
set_option maxHeartbeats 2000000
namespace Go.Proofs.YtiahegjdkejjpaaGreatDoor
open Go Go.RowKit Go.Proofs Fl
def cmpF (a b:Nat):Ordering:=(Ieee.double.order a b).getD .eq
theorem order_tf {a b:Nat} (ha:TF a) (hb:TF b):FloatKind.f64.format.order a b=some (cmpF a b):=by
 obtain ⟨s,Z,hz,rfl,_⟩:=ha
 obtain ⟨t,Y,hy,rfl,_⟩:=hb
 show Ieee.double.order _ _=_
 unfold cmpF
 rw [order_W s t hz hy]
 rfl
theorem cmpF_swap {a b:Nat} (ha:TF a) (hb:TF b):cmpF b a=(cmpF a b).swap:=by
 obtain ⟨s,Z,hz,rfl,_⟩:=ha
 obtain ⟨t,Y,hy,rfl,_⟩:=hb
 unfold cmpF
 rw [order_W s t hz hy,order_W t s hy hz]
 show compare _ _=(compare _ _).swap
 rcases Int.lt_trichotomy (sg s Z) (sg t Y) with h | h | h
 ·rw [cmp_lt h,cmp_gt h];rfl
 ·rw [h,cmp_eq];rfl
 ·rw [cmp_lt h,cmp_gt h];rfl
theorem cmpF_fi {a b:Int} (ha:Good a) (hb:Good b):cmpF (fi a) (fi b)=compare a b:=by
 unfold cmpF
 rw [order_fi a b (natAbs_good ha) (natAbs_good hb)]
 rfl
def maxP (a b:Nat):Nat:=if cmpF a b= .lt then b else a
def minP (a b:Nat):Nat:=if cmpF a b= .gt then b else a
theorem maxP_tf {a b:Nat} (ha:TF a) (hb:TF b):TF (maxP a b):=by unfold maxP;split <;> assumption
theorem minP_tf {a b:Nat} (ha:TF a) (hb:TF b):TF (minP a b):=by unfold minP;split <;> assumption
theorem nmax_any (a b:Nat) (ha:TF a) (hb:TF b) (w:World):Calls Tryz.prog 298 #[.float .f64 a,.float .f64 b] w fun e w'=>e= .returned (.float .f64 (maxP a b))/\w=w':=by
 have h1:=order_tf ha hb
 have h2:=order_tf hb ha
 rw [cmpF_swap ha hb] at h2
 unfold maxP
 clear ha hb
 cases hc:cmpF a b
 all_goals
  rw [hc] at h1 h2
  clear hc
  simp only [Ordering.swap] at h2
  go_enter Tryz.func298,Tryz.ntmps298
  go_wp2
  go_ret
  exact ⟨rfl,rfl⟩
theorem nmin_any (a b:Nat) (ha:TF a) (hb:TF b) (w:World):Calls Tryz.prog 299 #[.float .f64 a,.float .f64 b] w fun e w'=>e= .returned (.float .f64 (minP a b))/\w=w':=by
 have h1:=order_tf ha hb
 have h2:=order_tf hb ha
 rw [cmpF_swap ha hb] at h2
 unfold minP
 clear ha hb
 cases hc:cmpF a b
 all_goals
  rw [hc] at h1 h2
  clear hc
  simp only [Ordering.swap] at h2
  go_enter Tryz.func299,Tryz.ntmps299
  go_wp2
  go_ret
  exact ⟨rfl,rfl⟩
theorem arith_1 (a b:Nat) (ha:TF a) (hb:TF b) (w:World):Calls Tryz.prog 269 #[.int .i64 1,.float .f64 a,.float .f64 b] w fun e w'=>e= .returned (.tuple #[.float .f64 (doneP (opB .add a b)).1,.int .i64 (doneP (opB .add a b)).2])/\w=w':=by
 have HC:=Lib.hid (fun W=>nadd_any a b ha hb W)
 clear ha hb
 generalize doneP (opB .add a b)=d at *
 go_enter Tryz.func269,Tryz.ntmps269
 go_wp2_with fail
 refine (HC.out _).mono ?_
 rintro e w' ⟨rfl,rfl⟩
 go_wp2
 go_ret2
 exact ⟨rfl,rfl⟩
theorem arith_2 (a b:Nat) (ha:TF a) (hb:TF b) (w:World):Calls Tryz.prog 269 #[.int .i64 2,.float .f64 a,.float .f64 b] w fun e w'=>e= .returned (.tuple #[.float .f64 (doneP (opB .sub a b)).1,.int .i64 (doneP (opB .sub a b)).2])/\w=w':=by
 have HC:=Lib.hid (fun W=>nsub_any a b ha hb W)
 clear ha hb
 generalize doneP (opB .sub a b)=d at *
 go_enter Tryz.func269,Tryz.ntmps269
 go_wp2_with fail
 refine (HC.out _).mono ?_
 rintro e w' ⟨rfl,rfl⟩
 go_wp2
 go_ret2
 exact ⟨rfl,rfl⟩
theorem arith_3 (a b:Nat) (ha:TF a) (hb:TF b) (w:World):Calls Tryz.prog 269 #[.int .i64 3,.float .f64 a,.float .f64 b] w fun e w'=>e= .returned (.tuple #[.float .f64 (doneP (opB .mul a b)).1,.int .i64 (doneP (opB .mul a b)).2])/\w=w':=by
 have HC:=Lib.hid (fun W=>nmul_any a b ha hb W)
 clear ha hb
 generalize doneP (opB .mul a b)=d at *
 go_enter Tryz.func269,Tryz.ntmps269
 go_wp2_with fail
 refine (HC.out _).mono ?_
 rintro e w' ⟨rfl,rfl⟩
 go_wp2
 go_ret2
 exact ⟨rfl,rfl⟩
theorem arith_4 (a b:Nat) (ha:TF a) (hb:TF b) (w:World):Calls Tryz.prog 269 #[.int .i64 4,.float .f64 a,.float .f64 b] w fun e w'=>e= .returned (.tuple #[.float .f64 (divP a b).1,.int .i64 (divP a b).2])/\w=w':=by
 have HC:=Lib.hid (fun W=>ndiv_any a b ha hb W)
 clear ha hb
 generalize divP a b=d at *
 go_enter Tryz.func269,Tryz.ntmps269
 go_wp2_with fail
 refine (HC.out _).mono ?_
 rintro e w' ⟨rfl,rfl⟩
 go_wp2
 go_ret2
 exact ⟨rfl,rfl⟩
theorem arith_5 (a b:Nat) (ha:TF a) (hb:TF b) (w:World):Calls Tryz.prog 269 #[.int .i64 5,.float .f64 a,.float .f64 b] w fun e w'=>e= .returned (.tuple #[.float .f64 (maxP a b),.int .i64 0])/\w=w':=by
 have HC:=Lib.hid (fun W=>nmax_any a b ha hb W)
 clear ha hb
 generalize maxP a b=d at *
 go_enter Tryz.func269,Tryz.ntmps269
 go_wp2_with fail
 refine (HC.out _).mono ?_
 rintro e w' ⟨rfl,rfl⟩
 go_wp2
 go_ret2
 exact ⟨rfl,rfl⟩
theorem arith_6 (a b:Nat) (ha:TF a) (hb:TF b) (w:World):Calls Tryz.prog 269 #[.int .i64 6,.float .f64 a,.float .f64 b] w fun e w'=>e= .returned (.tuple #[.float .f64 (minP a b),.int .i64 0])/\w=w':=by
 have HC:=Lib.hid (fun W=>nmin_any a b ha hb W)
 clear ha hb
 generalize minP a b=d at *
 go_enter Tryz.func269,Tryz.ntmps269
 go_wp2_with fail
 refine (HC.out _).mono ?_
 rintro e w' ⟨rfl,rfl⟩
 go_wp2
 go_ret2
 exact ⟨rfl,rfl⟩
theorem arith_7 (a b:Nat) (ha:TF a) (hb:TF b) (w:World):Calls Tryz.prog 269 #[.int .i64 7,.float .f64 a,.float .f64 b] w fun e w'=>e= .returned (.tuple #[.float .f64 (restP a b).1,.int .i64 (restP a b).2])/\w=w':=by
 have HC:=Lib.hid (fun W=>nrest_any a b ha hb W)
 clear ha hb
 generalize restP a b=d at *
 go_enter Tryz.func269,Tryz.ntmps269
 go_wp2_with fail
 refine (HC.out _).mono ?_
 rintro e w' ⟨rfl,rfl⟩
 go_wp2
 go_ret2
 exact ⟨rfl,rfl⟩
abbrev one:Nat:=4607182418800017408
theorem tf_eq {a b:Nat} (ha:TF a) (hb:TF b):cmpF a b= .eq↔a=b:=by
 constructor
 ·obtain ⟨s,Z,hz,rfl,h1⟩:=ha
  obtain ⟨t,Y,hy,rfl,h2⟩:=hb
  intro h
  unfold cmpF at h
  rw [order_W s t hz hy] at h
  have hsg:sg s Z=sg t Y:=by
   rcases Int.lt_trichotomy (sg s Z) (sg t Y) with h3 | h3 | h3
   ·rw [cmp_lt h3] at h;cases h
   ·exact h3
   ·rw [cmp_gt h3] at h;cases h
  have hzy:Z=Y:=by
   have e1:=natAbs_sg s Z
   have e2:=natAbs_sg t Y
   rw [hsg] at e1
   omega
  subst hzy
  by_cases h0:Z=0
  ·rw [h1 h0,h2 h0]
  ·have:s=t:=by
    cases s <;> cases t <;> first | rfl | (simp [sg] at hsg;omega)
   rw [this]
 ·rintro rfl
  obtain ⟨s,Z,hz,rfl,h1⟩:=ha
  unfold cmpF
  rw [order_W s s hz hz,cmp_eq]
  rfl
def relB (f:Int) (a b:Nat):Bool :=
 if f=11 then cmpF a b== .lt else if f=12 then cmpF a b != .gt else if f=13 then cmpF a b== .eq else if f=14 then cmpF a b != .lt else if f=15 then cmpF a b== .gt else cmpF a b != .eq
def flagF (t:Bool):Nat:=if t then one else 0
theorem tf_flag (t:Bool):TF (flagF t):=by cases t;exact tf_zero;exact tf_one
def logB (f:Int) (x y:Bool):Bool:=if f=21 then x&&y else if f=22 then x||y else if f=23 then !(x&&y) else !(x||y)
def isT (a:Nat):Bool:=decide (a=0\/a=one)
def tv (a:Nat):Bool:=decide (a=one)
def logP (f:Int) (a b:Nat):Nat×Int:=if isT a&&isT b then (flagF (logB f (tv a) (tv b)),0) else (0,24)
theorem int6 {P:Int->Prop} (f:Int) (h1:11<=f) (h2:f<=16) (a:P 11) (b:P 12) (c:P 13) (d:P 14) (e:P 15) (g:P 16):P f:=by
 have:f=11\/f=12\/f=13\/f=14\/f=15\/f=16:=by omega
 rcases this with rfl | rfl | rfl | rfl | rfl | rfl <;> assumption
theorem int4 {P:Int->Prop} (f:Int) (h1:21<=f) (h2:f<=24) (a:P 21) (b:P 22) (c:P 23) (d:P 24):P f:=by
 have:f=21\/f=22\/f=23\/f=24:=by omega
 rcases this with rfl | rfl | rfl | rfl <;> assumption
theorem relate_any (f:Int) (hf:11<=f) (hf2:f<=16) (a b:Nat) (ha:TF a) (hb:TF b) (w:World):Calls Tryz.prog 272 #[.int .i64 f,.float .f64 a,.float .f64 b] w fun e w'=>e= .returned (.tuple #[.bool (relB f a b),.int .i64 0])/\w=w':=by
 have h1:=order_tf ha hb
 refine int6 (P:=fun f=>Calls Tryz.prog 272 #[.int .i64 f,.float .f64 a,.float .f64 b] w fun e w'=>e= .returned (.tuple #[.bool (relB f a b),.int .i64 0])/\w=w') f hf hf2 ?_ ?_ ?_ ?_ ?_ ?_
 all_goals
  unfold relB
  clear ha hb hf hf2
  cases hc:cmpF a b
  all_goals
   rw [hc] at h1
   clear hc
   go_enter Tryz.func272,Tryz.ntmps272
   go_wp2
   go_ret2
   exact ⟨rfl,rfl⟩
def tabN (f:Int):Nat:=if f=21 then 8 else if f=22 then 14 else if f=23 then 7 else 1
theorem table_any (f:Int) (hf:21<=f) (hf2:f<=24) (w:World):Calls Tryz.prog 210 #[.int .i64 f] w fun e w'=>e= .returned (.tuple #[.int .u8 (tabN f:Nat),.bool true])/\w=w':=by
 refine int4 (P:=fun f=>Calls Tryz.prog 210 #[.int .i64 f] w fun e w'=>e= .returned (.tuple #[.int .u8 (tabN f:Nat),.bool true])/\w=w') f hf hf2 ?_ ?_ ?_ ?_
 all_goals
  clear hf hf2
  go_enter Tryz.func210,Tryz.ntmps210
  go_wp2
  go_ret2
  exact ⟨rfl,rfl⟩
theorem flag_any (t:Bool) (w:World):Calls Tryz.prog 201 #[.bool t] w fun e w'=>e= .returned (.float .f64 (flagF t))/\w=w':=by
 cases t
 all_goals
  go_enter Tryz.func201,Tryz.ntmps201
  go_wp2
  go_ret
  exact ⟨rfl,rfl⟩
structure TruthF (a:Nat) (z o:Bool):Prop where
 e0:(FloatKind.f64.format.order a 0==some .eq)=z
 e1:(FloatKind.f64.format.order a 4607182418800017408==some .eq)=o
 n0:(FloatKind.f64.format.order a 0 != some .eq) = !z
 n1:(FloatKind.f64.format.order a 4607182418800017408 != some .eq) = !o
 tz:z=decide (a=0)
 tone:o=decide (a=one)
theorem truthF {a:Nat} (h:TF a):∃ z o,TruthF a z o:=by
 have h0:(FloatKind.f64.format.order a 0==some .eq)=decide (a=0):=tf_is_zero h
 have h1:(FloatKind.f64.format.order a 4607182418800017408==some .eq)=decide (a=one):=by
  rw [order_tf h tf_one,Bool.eq_iff_iff]
  rw [beq_iff_eq,decide_eq_true_eq]
  constructor
  ·intro e;injection e with e;exact (tf_eq h tf_one).1 e
  ·intro e;rw [(tf_eq h tf_one).2 e]
 exact ⟨_,_,h0,h1,by rw [bne,h0],by rw [bne,h1],rfl,rfl⟩
theorem beq_of {p:Option Ordering} (h:(p==some .eq)=true):p=some .eq:=beq_iff_eq.1 h
theorem bne_of {p:Option Ordering} (h:(p==some .eq)=false):¬ p=some .eq:=beq_eq_false_iff_ne.1 h
theorem truth_any (a:Nat) (h:TF a) (w:World):Calls Tryz.prog 200 #[.float .f64 a] w fun e w'=>e= .returned (.tuple #[.bool (tv a),.bool (isT a)])/\w=w':=by
 obtain ⟨z,o,h0,h1,h2,h3,hz,ho⟩:=truthF h
 have ht:tv a=o:=ho.symm
 have hi:isT a=(z||o):=by rw [hz,ho];unfold isT;rw [Bool.decide_or]
 rw [ht,hi]
 clear h ht hi hz ho
 cases z <;> cases o
 all_goals
  first | have h0':=beq_of h0 | have h0':=bne_of h0
  first | have h1':=beq_of h1 | have h1':=bne_of h1
  go_enter Tryz.func200,Tryz.ntmps200
  go_wp2
  go_ret2
  exact ⟨rfl,rfl⟩
noncomputable def oneP (pw:Nat->Nat->Nat×Int) (f:Int) (a b:Nat):Nat×Int :=
 if f=1 then doneP (opB .add a b) else if f=2 then doneP (opB .sub a b) else if f=3 then doneP (opB .mul a b) else if f=4 then divP a b
 else if f=5 then (maxP a b,0) else if f=6 then (minP a b,0) else if f=7 then restP a b else if f=8 then pw a b
 else if 11<=f/\f<=16 then (flagF (relB f a b),0) else logP f a b
structure PowIs (pw:Nat->Nat->Nat×Int):Prop where
 prog:∀ a b,TF a->TF b->∀ W,Calls Tryz.prog 301 #[.float .f64 a,.float .f64 b] W fun e w'=>e= .returned (.tuple #[.float .f64 (pw a b).1,.int .i64 (pw a b).2])/\W=w'
 ref:∀ a b,TF a->TF b->∀ W,Calls Tryz.prog 312 #[.float .f64 a,.float .f64 b] W fun e w'=>e= .returned (.tuple #[.float .f64 (pw a b).1,.int .i64 (pw a b).2])/\W=w'
 tf:∀ a b,TF a->TF b->(∃ c,TF c/\pw a b=(c,0))\/pw a b=(0,24)
theorem arith_8 {pw:Nat->Nat->Nat×Int} (hp:PowIs pw) (a b:Nat) (ha:TF a) (hb:TF b) (w:World):Calls Tryz.prog 269 #[.int .i64 8,.float .f64 a,.float .f64 b] w fun e w'=>e= .returned (.tuple #[.float .f64 (pw a b).1,.int .i64 (pw a b).2])/\w=w':=by
 have HC:=Lib.hid (fun W=>hp.prog a b ha hb W)
 clear ha hb hp
 generalize pw a b=d at *
 go_enter Tryz.func269,Tryz.ntmps269
 go_wp2_with fail
 refine (HC.out _).mono ?_
 rintro e w' ⟨rfl,rfl⟩
 go_wp2
 go_ret2
 exact ⟨rfl,rfl⟩
theorem int8 {P:Int->Prop} (f:Int) (h1:1<=f) (h2:f<=8) (a:P 1) (b:P 2) (c:P 3) (d:P 4) (e:P 5) (g:P 6) (h:P 7) (i:P 8):P f:=by
 have:f=1\/f=2\/f=3\/f=4\/f=5\/f=6\/f=7\/f=8:=by omega
 rcases this with rfl | rfl | rfl | rfl | rfl | rfl | rfl | rfl <;> assumption
theorem arith_any {pw:Nat->Nat->Nat×Int} (hp:PowIs pw) (f:Int) (hf:1<=f) (hf2:f<=8) (a b:Nat) (ha:TF a) (hb:TF b) (w:World):Calls Tryz.prog 269 #[.int .i64 f,.float .f64 a,.float .f64 b] w fun e w'=>e= .returned (.tuple #[.float .f64 (oneP pw f a b).1,.int .i64 (oneP pw f a b).2])/\w=w' :=
 int8 (P:=fun f=>Calls Tryz.prog 269 #[.int .i64 f,.float .f64 a,.float .f64 b] w fun e w'=>e= .returned (.tuple #[.float .f64 (oneP pw f a b).1,.int .i64 (oneP pw f a b).2])/\w=w') f hf hf2
  (arith_1 a b ha hb w) (arith_2 a b ha hb w) (arith_3 a b ha hb w) (arith_4 a b ha hb w) (arith_5 a b ha hb w) (arith_6 a b ha hb w) (arith_7 a b ha hb w) (arith_8 hp a b ha hb w)
theorem oneP_rel {pw:Nat->Nat->Nat×Int}{f:Int} (h1:11<=f) (h2:f<=16) (a b:Nat):oneP pw f a b=(flagF (relB f a b),0):=by
 unfold oneP
 rw [if_neg (by omega),if_neg (by omega),if_neg (by omega),if_neg (by omega),if_neg (by omega),if_neg (by omega),if_neg (by omega),if_neg (by omega),if_pos ⟨h1,h2⟩]
theorem oneP_log {pw:Nat->Nat->Nat×Int}{f:Int} (h1:21<=f) (a b:Nat):oneP pw f a b=logP f a b:=by
 unfold oneP
 rw [if_neg (by omega),if_neg (by omega),if_neg (by omega),if_neg (by omega),if_neg (by omega),if_neg (by omega),if_neg (by omega),if_neg (by omega),if_neg (by omega)]
theorem logP_yes {f:Int}{a b:Nat} (h:(isT a&&isT b)=true):logP f a b=(flagF (logB f (tv a) (tv b)),0):=if_pos h
theorem logP_no {f:Int}{a b:Nat} (h:(isT a&&isT b)=false):logP f a b=(0,24):=if_neg (by rw [h];decide)
end Go.Proofs.YtiahegjdkejjpaaGreatDoor
namespace Go.Proofs.YtiahegjdkejjpaaGreatDoor
open Ieee Go Fl
def dnB (b:Bool) (n d:Nat):Nat:=n / 2^d+(b&&n % 2^d != 0).toNat
theorem cut_down (neg:Bool) (n d:Nat):Toward.down.cut neg n d=dnB neg n d:=by
 unfold Toward.cut dnB
 rcases Nat.le_total d (n.log2+2) with h | h
 ·simp only [Nat.min_eq_left h,Nat.one_shiftLeft]
 ·simp only [Nat.min_eq_right h,Nat.one_shiftLeft]
  have h2:=@Nat.lt_log2_self n
  have h3:2*2^(n.log2+1)=2^(n.log2+2):=by rw [Nat.pow_succ _ (n.log2+1)];omega
  have h4:2^(n.log2+2)<=2^d:=Nat.pow_le_pow_right (by omega) h
  rw [Nat.div_eq_of_lt (by omega:n < 2^(n.log2+2)),Nat.mod_eq_of_lt (by omega:n < 2^(n.log2+2)),Nat.div_eq_of_lt (by omega:n < 2^d),Nat.mod_eq_of_lt (by omega:n < 2^d)]
theorem cut_up (neg:Bool) (n d:Nat):Toward.up.cut neg n d=dnB (!neg) n d:=by
 unfold Toward.cut dnB
 rcases Nat.le_total d (n.log2+2) with h | h
 ·simp only [Nat.min_eq_left h,Nat.one_shiftLeft]
 ·simp only [Nat.min_eq_right h,Nat.one_shiftLeft]
  have h2:=@Nat.lt_log2_self n
  have h3:2*2^(n.log2+1)=2^(n.log2+2):=by rw [Nat.pow_succ _ (n.log2+1)];omega
  have h4:2^(n.log2+2)<=2^d:=Nat.pow_le_pow_right (by omega) h
  rw [Nat.div_eq_of_lt (by omega:n < 2^(n.log2+2)),Nat.mod_eq_of_lt (by omega:n < 2^(n.log2+2)),Nat.div_eq_of_lt (by omega:n < 2^d),Nat.mod_eq_of_lt (by omega:n < 2^d)]
theorem dnB_mul (b:Bool) (n d j:Nat):dnB b (n*2^j) (d+j)=dnB b n d:=by
 unfold dnB
 have hj:=Nat.two_pow_pos j
 rw [Nat.pow_add,Nat.mul_div_mul_right _ _ hj,Nat.mul_mod_mul_right]
 congr 3
 rw [Bool.eq_iff_iff,bne_iff_ne,bne_iff_ne,ne_eq,ne_eq,Nat.mul_eq_zero]
 have:2^j≠0:=by omega
 exact ⟨fun h e=>h (.inl e),fun h e=>e.elim h this⟩
theorem dnB_exact (b:Bool) (n d:Nat):dnB b (n*2^d) d=n:=by
 unfold dnB;rw [Nat.mul_div_cancel _ (Nat.two_pow_pos d),Nat.mul_mod_left];simp
theorem integral_W {way:Toward}{b:Bool} (s:Bool){Z:Nat} (hw:∀ n d,way.cut s n d=dnB b n d) (hz:Rep Z):(double.read (W s Z)).integral way= .number s (dnB b Z K) 0:=by
 rw [read_W s hz]
 have h1:=mg_ex hz
 generalize ex (rung Z)=i at *
 generalize mg (rung Z)=m at *
 subst h1
 simp only [Datum.integral,hw,Nat.shiftLeft_eq]
 congr 1
 rcases Nat.le_total K i with h | h
 ·have e1:(-1074+(i:Int)).toNat=i - K:=by unfold K at *;omega
  have e2:(-(-1074+(i:Int))).toNat=0:=by unfold K at *;omega
  rw [e1,e2]
  have e3:m*2^i=m*2^(i - K)*2^K:=by rw [Nat.mul_assoc,<- Nat.pow_add,Nat.sub_add_cancel h]
  rw [e3,dnB_exact]
  have:=dnB_exact b (m*2^(i - K)) 0
  rwa [Nat.pow_zero,Nat.mul_one] at this
 ·have e1:(-1074+(i:Int)).toNat=0:=by unfold K at *;omega
  have e2:(-(-1074+(i:Int))).toNat=K - i:=by unfold K at *;omega
  rw [e1,e2,Nat.pow_zero,Nat.mul_one]
  have:=dnB_mul b m (K - i) i
  rw [Nat.sub_add_cancel h] at this
  exact this.symm
def M53:Nat:=9007199254740992*2^K
theorem big_whole {Z:Nat} (hz:Rep Z) (h:M53<=Z):∃ m,Z=m*2^K:=by
 obtain ⟨q,hq,e⟩:=hz.dvd
 have h2:M53=2^(53+K):=by unfold M53;rw [Nat.pow_add]
 rw [h2] at h
 have h1:53+K<=Z.log2:=le_log2_of h
 refine ⟨q*2^(Z.log2 - 52 - K),?_⟩
 rw [Nat.mul_assoc,<- Nat.pow_add,Nat.sub_add_cancel (by omega)]
 exact e
theorem dnB_le (b:Bool){Z:Nat} (h:Z<=M53):dnB b Z K<=9007199254740992:=by
 have h1:=div_le_of h
 unfold dnB
 by_cases h2:Z / 2^K=9007199254740992
 ·have h3:=Nat.div_add_mod Z (2^K)
  rw [h2,Nat.mul_comm] at h3
  unfold M53 at h
  have:Z % 2^K=0:=by
   generalize (2:Nat)^K=P at *
   omega
  rw [this,h2];simp
 ·have:(b&&Z % 2^K != 0).toNat<=1:=Bool.toNat_le _
  omega
theorem dnB_big (b:Bool){Z:Nat} (hz:Rep Z) (h:M53<=Z):dnB b Z K*2^K=Z:=by
 obtain ⟨m,hm⟩:=big_whole hz h
 clear h hz
 rw [hm,dnB_exact]
theorem rep_cut (b:Bool){Z:Nat} (hz:Rep Z):Rep (dnB b Z K*2^K):=by
 rcases Nat.le_total Z M53 with h | h
 ·have hc:=dnB_le b h
  generalize dnB b Z K=c at *
  exact rep_int K hc (by unfold K;omega)
 ·rw [dnB_big b hz h];exact hz
theorem encode_int (s:Bool){c:Nat} (hc:Rep (c*2^K)):FloatKind.f64.encode (.number s c 0)=W s (c*2^K):=by
 rw [<- nearest_W s hc,nearest_shift]
 rfl
theorem floor_W (s:Bool){Z:Nat} (hz:Rep Z):FloatKind.f64.encode ((FloatKind.f64.decode (W s Z)).integral .down)=W s (dnB s Z K*2^K):=by
 have:(FloatKind.f64.decode (W s Z)).integral .down= .number s (dnB s Z K) 0:=integral_W s (fun n d=>cut_down s n d) hz
 rw [this,encode_int s (rep_cut s hz)]
theorem ceil_W (s:Bool){Z:Nat} (hz:Rep Z):FloatKind.f64.encode ((FloatKind.f64.decode (W s Z)).integral .up)=W s (dnB (!s) Z K*2^K):=by
 have:(FloatKind.f64.decode (W s Z)).integral .up= .number s (dnB (!s) Z K) 0:=integral_W s (fun n d=>cut_up s n d) hz
 rw [this,encode_int s (rep_cut (!s) hz)]
theorem fi_tid (s:Bool){c:Nat} (hc:c<=9007199254740992):fi (sg s c)=tid s (c*2^K):=by
 rw [fi_W _ (by rw [natAbs_sg];exact hc),natAbs_sg]
 unfold tid
 by_cases h:c=0
 ·subst h
  rw [Nat.zero_mul,if_pos rfl,sg_zero];exact W_zero
 ·have hk:=K_pos
  rw [if_neg (by intro e;rcases Nat.mul_eq_zero.1 e with e | e <;> omega)]
  congr 1
  rw [Bool.eq_iff_iff,decide_eq_true_eq,sg_neg_iff]
  exact ⟨fun h=>h.1,fun e=>⟨e,h⟩⟩
theorem zero_less (s:Bool){Z:Nat} (hz:Rep Z):floatBits .sub .f64 0 (W s Z)=some (tid (!s) Z):=by
 have h:=sub_W false s rep_zero hz
 rw [W_zero] at h
 refine h.trans (congrArg some ?_)
 unfold nearI tid
 rw [sg_zero,Int.zero_sub,<- sg_not,sg_natAbs,Bool.false_and]
 by_cases h0:Z=0
 ·subst h0
  rw [sg_zero,if_pos rfl,if_pos rfl,nearest_W _ rep_zero];exact W_zero
 ·rw [if_neg (by rw [sg_eq_zero];exact h0),if_neg h0,nearest_W _ hz]
  congr 1
  rw [Bool.eq_iff_iff,decide_eq_true_eq,sg_neg_iff]
  exact ⟨fun h=>h.1,fun e=>⟨e,h0⟩⟩
end Go.Proofs.YtiahegjdkejjpaaGreatDoor
namespace Go.Proofs.YtiahegjdkejjpaaGreatDoor
open Go Go.RowKit Go.Proofs Fl
theorem toIntegral_num {name:String}{way:Ieee.Toward}{x:Nat}{s:Bool}{m:Nat}{i:Int} (h:FloatKind.f64.decode x= .number s m i):Extern.MathFloor.toIntegral name way #[.float .f64 x]=pure (.float .f64 (FloatKind.f64.encode ((Ieee.Datum.number s m i).integral way))):=by
 delta Extern.MathFloor.toIntegral
 conv=>lhs;whnf
 rw [h]
theorem run_archFloor (s:Bool){Z:Nat} (hz:Rep Z) (w:World):(callFunc 286 #[.float .f64 (W s Z)]).run Tryz.prog w= .ok (.value (.float .f64 (W s (dnB s Z K*2^K)))) w:=by
 rw [run_callFunc_extern (fn := Tryz.f286) (e := Extern.MathFloor.toIntegral "math.archFloor" .down) Tryz.func286 (by kernel_rfl) (by kernel_rfl) (by kernel_rfl) (by kernel_rfl)]
 have h:=floor_W s hz
 have hd:FloatKind.f64.decode (W s Z)= .number s (mg (rung Z)) (-1074+ex (rung Z)):=read_W s hz
 rw [hd] at h
 rw [toIntegral_num hd,h]
 rfl
theorem run_archCeil (s:Bool){Z:Nat} (hz:Rep Z) (w:World):(callFunc 284 #[.float .f64 (W s Z)]).run Tryz.prog w= .ok (.value (.float .f64 (W s (dnB (!s) Z K*2^K)))) w:=by
 rw [run_callFunc_extern (fn := Tryz.f284) (e := Extern.MathFloor.toIntegral "math.archCeil" .up) Tryz.func284 (by kernel_rfl) (by kernel_rfl) (by kernel_rfl) (by kernel_rfl)]
 have h:=ceil_W s hz
 have hd:FloatKind.f64.decode (W s Z)= .number s (mg (rung Z)) (-1074+ex (rung Z)):=read_W s hz
 rw [hd] at h
 rw [toIntegral_num hd,h]
 rfl
theorem mfloor_W (s:Bool){Z:Nat} (hz:Rep Z) (w:World):Calls Tryz.prog 254 #[.float .f64 (W s Z)] w fun e w'=>e= .returned (.float .f64 (W s (dnB s Z K*2^K)))/\w=w':=by
 have c1:=fun w=>run_archFloor s hz w
 generalize W s Z=x at *
 generalize W s (dnB s Z K*2^K)=y at *
 clear hz
 go_enter Tryz.func254,Tryz.ntmps254
 go_wp2
 go_ret
 exact ⟨rfl,rfl⟩
theorem mceil_W (s:Bool){Z:Nat} (hz:Rep Z) (w:World):Calls Tryz.prog 253 #[.float .f64 (W s Z)] w fun e w'=>e= .returned (.float .f64 (W s (dnB (!s) Z K*2^K)))/\w=w':=by
 have c1:=fun w=>run_archCeil s hz w
 generalize W s Z=x at *
 generalize W s (dnB (!s) Z K*2^K)=y at *
 clear hz
 go_enter Tryz.func253,Tryz.ntmps253
 go_wp2
 go_ret
 exact ⟨rfl,rfl⟩
def flT (s:Bool) (Z:Nat):Nat:=tid s (dnB s Z K*2^K)
def ceT (s:Bool) (Z:Nat):Nat:=tid s (dnB (!s) Z K*2^K)
theorem nfloor_W (s:Bool){Z:Nat} (hz:Rep Z) (w:World):Calls Tryz.prog 198 #[.float .f64 (W s Z)] w fun e w'=>e= .returned (.float .f64 (flT s Z))/\w=w':=by
 have H1:=Lib.hid (fun w=>mfloor_W s hz w)
 have H2:=Lib.hid (fun w=>ntidy_num s (rep_cut s hz) w)
 rw [show tid s (dnB s Z K*2^K)=flT s Z from rfl] at H2
 generalize W s Z=x at *
 generalize W s (dnB s Z K*2^K)=y at *
 clear hz
 generalize flT s Z=R at *
 go_enter Tryz.func198,Tryz.ntmps198
 go_wp2_with fail
 refine (H1.out _).mono ?_
 rintro e w' ⟨rfl,rfl⟩
 go_wp2_with fail
 refine (H2.out _).mono ?_
 rintro e w' ⟨rfl,rfl⟩
 go_wp2
 go_ret
 exact ⟨rfl,rfl⟩
theorem nceil_W (s:Bool){Z:Nat} (hz:Rep Z) (w:World):Calls Tryz.prog 197 #[.float .f64 (W s Z)] w fun e w'=>e= .returned (.float .f64 (ceT s Z))/\w=w':=by
 have H1:=Lib.hid (fun w=>mceil_W s hz w)
 have H2:=Lib.hid (fun w=>ntidy_num s (rep_cut (!s) hz) w)
 rw [show tid s (dnB (!s) Z K*2^K)=ceT s Z from rfl] at H2
 generalize W s Z=x at *
 generalize W s (dnB (!s) Z K*2^K)=y at *
 clear hz
 generalize ceT s Z=R at *
 go_enter Tryz.func197,Tryz.ntmps197
 go_wp2_with fail
 refine (H1.out _).mono ?_
 rintro e w' ⟨rfl,rfl⟩
 go_wp2_with fail
 refine (H2.out _).mono ?_
 rintro e w' ⟨rfl,rfl⟩
 go_wp2
 go_ret
 exact ⟨rfl,rfl⟩
theorem fo_geB (s t:Bool){Z Y:Nat} (hz:Rep Z) (hy:Rep Y):(FloatKind.f64.format.order (W s Z) (W t Y)==some .gt||FloatKind.f64.format.order (W s Z) (W t Y)==some .eq)=decide (sg t Y<=sg s Z):=by
 rw [fo_gt s t hz hy,fo_eq s t hz hy,<- Bool.decide_or,decide_eq_decide];omega
theorem fo_leB (s t:Bool){Z Y:Nat} (hz:Rep Z) (hy:Rep Y):(FloatKind.f64.format.order (W s Z) (W t Y)==some .lt||FloatKind.f64.format.order (W s Z) (W t Y)==some .eq)=decide (sg s Z<=sg t Y):=by
 rw [fo_lt s t hz hy,fo_eq s t hz hy,<- Bool.decide_or,decide_eq_decide];omega
theorem flT_big (s:Bool){Z:Nat} (hz:Rep Z) (h:M53<=Z):flT s Z=W s Z:=by
 unfold flT
 rw [dnB_big s hz h]
 unfold tid
 rw [if_neg (by intro e;rw [e] at h;exact absurd h (by unfold M53;have:=K_pos;generalize (2:Nat)^K=P at *;omega))]
theorem floor_small (s:Bool){Z:Nat} (hz:Rep Z) (h:Z<=M53) :
  (FloatKind.f64.format.order (floatOfInt .f64 (sg s (Z / 2^K))) (W s Z)==some .gt)=(s&&Z % 2^K != 0):=by
 have hq:=div_le_of h
 rw [ofInt_sg s _ hq,fo_gt _ s (rep_int K hq (by unfold K;omega)) hz,sg_dec]
 have h3:=Nat.div_add_mod Z (2^K)
 rw [Nat.mul_comm] at h3
 clear hq h hz
 generalize Z / 2^K*2^K=A at *
 generalize Z % 2^K=B at *
 cases s
 ·rw [sg_false,sg_false,Bool.false_and,decide_eq_false_iff_not];omega
 ·rw [sg_true,sg_true,Bool.true_and,Bool.eq_iff_iff,decide_eq_true_eq,bne_iff_ne];omega
theorem flT_small (s:Bool){Z:Nat} (h:Z<=M53):flT s Z=fi (sg s (Z / 2^K) - if (s&&Z % 2^K != 0)=true then 1 else 0):=by
 unfold flT
 rw [<- fi_tid s (dnB_le s h)]
 congr 1
 unfold dnB
 generalize Z / 2^K=q
 cases hb:(s&&Z % 2^K != 0)
 ·simp
 ·have:s=true:=by revert hb;cases s <;> simp
  subst this
  rw [if_pos rfl,sg_true,sg_true]
  simp only [Bool.toNat_true]
  omega
theorem sub_one_run (n:Int) (h:n.natAbs<=9007199254740991) (w:World):(binOp .sub 55 (.float .f64 (floatOfInt .f64 n)) (.float .f64 4607182418800017408)).run Tryz.prog w= .ok (.float .f64 (floatOfInt .f64 (n - 1))) w :=
 run_float_arith (P:=Tryz.prog) w .sub 55 .f64 _ _ _ (sub_fi n 1 (by omega) (by decide) (by omega))
theorem add_zero_run (n:Int) (h:n.natAbs<=9007199254740992) (w:World):(binOp .add 55 (.float .f64 (floatOfInt .f64 n)) (.float .f64 0)).run Tryz.prog w= .ok (.float .f64 (floatOfInt .f64 n)) w:=by
 have:=add_fi n 0 h (by decide) (by omega)
 rw [Int.add_zero] at this
 exact run_float_arith (P:=Tryz.prog) w .add 55 .f64 _ _ _ this
theorem and_some {s:Bool}{Z:Nat} (h:(s&&Z % 2^K != 0)=true) (h2:Z<=M53):Z / 2^K<=9007199254740991:=by
 have h3:=Nat.div_add_mod Z (2^K)
 have h4:Z % 2^K≠0:=by
  rw [Bool.and_eq_true,bne_iff_ne] at h
  exact h.2
 unfold M53 at h2
 have h5:=K_pos
 generalize (2:Nat)^K=P at *
 clear h
 generalize hq:Z / P=q at *
 generalize Z % P=r at *
 rcases Nat.lt_or_ge q 9007199254740992 with h | h
 ·omega
 ·have:=Nat.mul_le_mul_left P h
  rw [Nat.mul_comm 9007199254740992] at h2
  omega
theorem rfloor_W (s:Bool){Z:Nat} (hz:Rep Z) (w:World):Calls Tryz.prog 130 #[.float .f64 (W s Z)] w fun e w'=>e= .returned (.float .f64 (flT s Z))/\w=w':=by
 have h1:=fo_geB s false hz rep_max
 have h2:=fo_leB s true hz rep_max
 rw [W_max,sg_false] at h1
 rw [W_nmax,sg_true] at h2
 rcases Nat.lt_or_ge Z M53 with hlt | hge
 ·have hle:Z<=M53:=Nat.le_of_lt hlt
  have e1:decide (((9007199254740992*2^K:Nat):Int)<=sg s Z)=false:=decide_eq_false (by unfold M53 at hlt;generalize 9007199254740992*2^K=T at *;unfold sg;split <;> omega)
  have e2:decide (sg s Z<=-((9007199254740992*2^K:Nat):Int))=false:=decide_eq_false (by unfold M53 at hlt;generalize 9007199254740992*2^K=T at *;unfold sg;split <;> omega)
  rw [e1] at h1
  rw [e2] at h2
  have hq:=div_le_of hle
  have h3:=(whole_facts s hz hle).conv
  have h4:=floor_small s hz hle
  have h5:=flT_small s hle
  have h6:(s&&Z % 2^K != 0)=true->Z / 2^K<=9007199254740991:=fun h=>and_some h hle
  have h7:=natAbs_sg s (Z / 2^K)
  generalize (s&&Z % 2^K != 0)=t at *
  generalize sg s (Z / 2^K)=q at *
  generalize Z / 2^K=qq at *
  generalize flT s Z=R at *
  generalize W s Z=x at *
  have h1':=h1
  have h2':=h2
  simp only [Bool.or_eq_false_iff,beq_eq_false_iff_ne,ne_eq] at h1' h2'
  obtain ⟨n1,n2⟩:=h1'
  obtain ⟨n3,_⟩:=h2'
  clear hz hlt hle e1 e2
  cases t
  ·have c1:=add_zero_run q (by omega)
   rw [if_neg (by decide),Int.sub_zero] at h5
   have HR:Hid (floatOfInt .f64 q=R):=h5.symm
   have h4':=beq_eq_false_iff_ne.1 h4
   clear h5 h6 h7 hq
   go_enter Tryz.func130,Tryz.ntmps130
   go_wp2
   go_ret
   exact ⟨by rw [<- HR.out];rfl,rfl⟩
  ·have h8:=h6 rfl
   have c0:=sub_one_run q (by omega)
   have c1:=add_zero_run (q - 1) (by omega)
   rw [if_pos rfl] at h5
   have HR:Hid (floatOfInt .f64 (q - 1)=R):=h5.symm
   have h4':=beq_iff_eq.1 h4
   clear h5 h6 h7 hq h8
   generalize floatOfInt .f64 (q - 1)=y at *
   go_enter Tryz.func130,Tryz.ntmps130
   go_wp2
   go_ret
   exact ⟨by rw [<- HR.out];rfl,rfl⟩
 ·have HR:Hid (W s Z=flT s Z):=(flT_big s hz hge).symm
  cases s
  ·rw [decide_eq_true (by rw [sg_false];unfold M53 at hge;generalize 9007199254740992*2^K=T at *;omega)] at h1
   have h1':=h1
   simp only [Bool.or_eq_true,beq_iff_eq] at h1'
   generalize flT false Z=R at *
   generalize W false Z=x at *
   clear hz hge h2
   go_enter Tryz.func130,Tryz.ntmps130
   go_wp2
   go_ret
   exact ⟨by rw [<- HR.out];rfl,rfl⟩
  ·have e1:decide (((9007199254740992*2^K:Nat):Int)<=sg true Z)=false:=decide_eq_false (by rw [sg_true];have:=K_pos;generalize 9007199254740992*2^K=T at *;unfold M53 at hge;generalize (2:Nat)^K=P at *;omega)
   rw [e1] at h1
   rw [decide_eq_true (by rw [sg_true];unfold M53 at hge;generalize 9007199254740992*2^K=T at *;omega)] at h2
   have h1':=h1
   have h2':=h2
   simp only [Bool.or_eq_false_iff,beq_eq_false_iff_ne,ne_eq] at h1'
   simp only [Bool.or_eq_true,beq_iff_eq] at h2'
   obtain ⟨n1,n2⟩:=h1'
   generalize flT true Z=R at *
   generalize W true Z=x at *
   clear hz hge e1
   go_enter Tryz.func130,Tryz.ntmps130
   go_wp2
   go_ret
   exact ⟨by rw [<- HR.out];rfl,rfl⟩
theorem order_zero (s:Bool){Z:Nat} (hz:Rep Z):(FloatKind.f64.format.order (tid s Z) 0==some .eq)=decide (Z=0):=by
 unfold tid
 by_cases h:Z=0
 ·subst h
  rw [if_pos rfl]
  have:=fo_eq false false rep_zero rep_zero
  rw [W_zero] at this
  rw [this];rfl
 ·rw [if_neg h]
  have:=fo_eq s false hz rep_zero
  rw [W_zero,sg_zero] at this
  rw [this,decide_eq_decide,sg_eq_zero]
theorem less_tid (s:Bool){Z:Nat} (hz:Rep Z):floatBits .sub .f64 0 (tid s Z)=some (tid (!s) Z):=by
 by_cases h:Z=0
 ·subst h
  have:=zero_less false rep_zero
  rw [W_zero] at this
  exact this
 ·have:tid s Z=W s Z:=if_neg h
  rw [this];exact zero_less s hz
theorem rfloor_tid (s:Bool){Z:Nat} (hz:Rep Z) (w:World):Calls Tryz.prog 130 #[.float .f64 (tid s Z)] w fun e w'=>e= .returned (.float .f64 (flT s Z))/\w=w':=by
 by_cases h:Z=0
 ·subst h
  have:=rfloor_W false rep_zero w
  have e:∀ t,flT t 0=0:=fun t=>by
   have hc:dnB t 0 K*2^K=0:=by unfold dnB;rw [Nat.zero_div,Nat.zero_mod];simp
   unfold flT
   rw [hc];rfl
  rw [W_zero,e false] at this
  rw [e s]
  exact this
 ·have:tid s Z=W s Z:=if_neg h
  rw [this];exact rfloor_W s hz w
theorem rceil_W (s:Bool){Z:Nat} (hz:Rep Z) (w:World):Calls Tryz.prog 129 #[.float .f64 (W s Z)] w fun e w'=>e= .returned (.float .f64 (ceT s Z))/\w=w':=by
 have c1:=fun w=>run_float_arith (P:=Tryz.prog) w .sub 55 .f64 _ _ _ (zero_less s hz)
 have HF:=Lib.hid (fun w=>rfloor_tid (!s) hz w)
 have hC:=rep_cut (!s) hz
 have h0:=order_zero (!s) hC
 have c2:=fun w=>run_float_arith (P:=Tryz.prog) w .sub 55 .f64 _ _ _ (less_tid (!s) hC)
 rw [show flT (!s) Z=tid (!s) (dnB (!s) Z K*2^K) from rfl] at HF
 have hr:ceT s Z=tid s (dnB (!s) Z K*2^K):=rfl
 rw [Bool.not_not,<- hr] at c2
 generalize tid (!s) (dnB (!s) Z K*2^K)=y at *
 by_cases hc:dnB (!s) Z K*2^K=0
 ·rw [decide_eq_true hc] at h0
  have h0':=beq_iff_eq.1 h0
  have HR:Hid (ceT s Z=0):=by rw [hr,hc];exact if_pos rfl
  clear hr hc hC hz
  generalize ceT s Z=R at *
  generalize tid (!s) Z=x1 at *
  generalize W s Z=x at *
  go_enter Tryz.func129,Tryz.ntmps129
  go_wp2_with fail
  refine (HF.out _).mono ?_
  rintro e w' ⟨rfl,rfl⟩
  go_wp2
  go_ret
  exact ⟨by rw [HR.out];rfl,rfl⟩
 ·rw [decide_eq_false hc] at h0
  have h0':=beq_eq_false_iff_ne.1 h0
  clear hr hc hC hz
  generalize ceT s Z=R at *
  generalize tid (!s) Z=x1 at *
  generalize W s Z=x at *
  go_enter Tryz.func129,Tryz.ntmps129
  go_wp2_with fail
  refine (HF.out _).mono ?_
  rintro e w' ⟨rfl,rfl⟩
  go_wp2
  go_ret
  exact ⟨rfl,rfl⟩
def sgnF (b:Nat):Nat:=if (FloatKind.f64.format.order b 0==some .gt)=true then 4607182418800017408 else if (FloatKind.f64.format.order b 0==some .lt)=true then 13830554455654793216 else 0
theorem nsign_any (b:Nat) (w:World):Calls Tryz.prog 195 #[.float .f64 b] w fun e w'=>e= .returned (.float .f64 (sgnF b))/\w=w':=by
 unfold sgnF
 cases h1:(FloatKind.f64.format.order b 0==some .gt) <;> cases h2:(FloatKind.f64.format.order b 0==some .lt)
 all_goals
  first | have h1':=beq_iff_eq.1 h1 | have h1':=beq_eq_false_iff_ne.1 h1
  first | have h2':=beq_iff_eq.1 h2 | have h2':=beq_eq_false_iff_ne.1 h2
  go_enter Tryz.func195,Tryz.ntmps195
  go_wp2
  go_ret
  exact ⟨rfl,rfl⟩
def absF (b:Nat):Nat:=if (FloatKind.f64.format.order b 0==some .lt)=true then opB .sub 0 b else b
theorem xor_top {r:Nat} (h:r < 2^63):(9223372036854775808+r) ^^^ 2^63=r:=by
 have h1:9223372036854775808+r=2^63 ||| r:=by
  have:=Nat.two_pow_add_eq_or_of_lt h 1
  rw [Nat.mul_one] at this
  exact this
 rw [h1]
 apply Nat.eq_of_testBit_eq
 intro i
 rw [Nat.testBit_xor,Nat.testBit_or,Nat.testBit_two_pow]
 by_cases hi:63=i
 ·subst hi
  rw [Nat.testBit_lt_two_pow h];simp
 ·simp [hi]
theorem neg_W {Z:Nat} (hz:Rep Z):Op.negFloat .f64 (W true Z)=W false Z:=by
 have hr:=rung_lt hz
 have h:(9223372036854775808+rung Z) ^^^ 2^63=rung Z:=xor_top (by omega)
 unfold W Op.negFloat
 have e:FloatKind.f64.format.exponentBits+FloatKind.f64.format.fractionBits=63:=rfl
 rw [e]
 unfold Ieee.Format.word
 rw [signWeight]
 simp only [if_true,Bool.false_eq_true,if_false]
 first | exact h | (simp;exact h) | (rw [Nat.add_comm];exact h)
theorem abs_of {b:Nat} (h:TF b) (hl:(FloatKind.f64.format.order b 0==some .lt)=true):Op.negFloat .f64 b=opB .sub 0 b:=by
 obtain ⟨s,Z,hz,rfl,h0⟩:=h
 have h1:=fo_lt s false hz rep_zero
 rw [W_zero,sg_zero,hl] at h1
 have h2:=of_decide_eq_true h1.symm
 rw [sg_neg_iff] at h2
 obtain ⟨rfl,hn⟩:=h2
 rw [neg_W hz]
 unfold opB
 rw [zero_less true hz]
 exact (if_neg hn).symm
theorem nabs_any (b:Nat) (h:TF b) (w:World):Calls Tryz.prog 199 #[.float .f64 b] w fun e w'=>e= .returned (.float .f64 (absF b))/\w=w':=by
 have ha:=abs_of h
 unfold absF
 cases h2:(FloatKind.f64.format.order b 0==some .lt)
 ·have h2':=beq_eq_false_iff_ne.1 h2
  clear ha h
  go_enter Tryz.func199,Tryz.ntmps199
  go_wp2
  go_ret
  exact ⟨rfl,rfl⟩
 ·have h2':=beq_iff_eq.1 h2
  have ha':=ha h2
  rw [if_pos rfl,<- ha']
  have c1:∀ w,(Op.unary UnOp.neg (.float .f64 b)).run Tryz.prog w= .ok (.float .f64 (Op.negFloat .f64 b)) w:=fun _=>rfl
  generalize Op.negFloat .f64 b=R at *
  clear ha ha' h
  go_enter Tryz.func199,Tryz.ntmps199
  go_wp2
  go_ret
  exact ⟨rfl,rfl⟩
theorem turn_any (b:Nat) (h:TF b) (w:World):Calls Tryz.prog 196 #[.float .f64 b] w fun e w'=>e= .returned (.tuple #[.float .f64 (divP 4607182418800017408 b).1,.int .i64 (divP 4607182418800017408 b).2])/\w=w':=by
 have hz:=tf_is_zero h
 by_cases h0:b=0
 ·rw [decide_eq_true h0] at hz
  have hz':=beq_iff_eq.1 hz
  have hd:divP 4607182418800017408 b=(0,24):=by unfold divP;rw [if_pos h0,if_neg (by decide)]
  rw [hd]
  clear h h0 hd
  go_enter Tryz.func196,Tryz.ntmps196
  go_wp2
  go_ret2
  exact ⟨rfl,rfl⟩
 ·rw [decide_eq_false h0] at hz
  have hz':=beq_eq_false_iff_ne.1 hz
  have HD:=Lib.hid (fun w=>ndiv_any _ _ tf_one h w)
  clear h h0
  generalize divP 4607182418800017408 b=R at *
  go_enter Tryz.func196,Tryz.ntmps196
  go_wp2_with fail
  refine (HD.out _).mono ?_
  rintro e w' ⟨rfl,rfl⟩
  go_wp2
  go_ret2
  exact ⟨rfl,rfl⟩
end Go.Proofs.YtiahegjdkejjpaaGreatDoor
