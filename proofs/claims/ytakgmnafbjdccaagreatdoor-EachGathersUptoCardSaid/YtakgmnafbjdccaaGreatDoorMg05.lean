/- The walks of fold.One and of the reference's One of layer 13: both tell the same, whatever the powers are. Packed truths: words of bits, in plain words; the .. Conditions: as each theorem says. -/
import Derived.Test.YtakgmnafbjdccaaGreatDoorMg04
import Derived.Laws.BitsAllLaws
set_option maxRecDepth 100000
set_option maxHeartbeats 1000000
namespace Go.Proofs.YtakgmnafbjdccaaGreatDoor
open Go Go.RowKit Go.Proofs Fl
theorem flag_any (t:Bool) (w:World):Calls Tryz.prog 191 #[.bool t] w fun e w'=>e= .returned (.float .f64 (flagF t))/\w=w':=by
 cases t
 all_goals
  go_enter Tryz.func191,Tryz.ntmps191
  go_wp2
  go_ret
  exact ⟨rfl,rfl⟩
structure TruthF (a:Nat) (z o:Bool):Prop where
 e0:(FloatKind.f64.format.order a 0==some .eq)=z
 e1:(FloatKind.f64.format.order a 4607182418800017408==some .eq)=o
 n0:(FloatKind.f64.format.order a 0 != some .eq) = !z
 n1:(FloatKind.f64.format.order a 4607182418800017408 != some .eq) = !o
 tz:z=decide (a=0)
 tone:o=decide (a=one)
theorem truthF {a:Nat} (h:TF a):∃ z o,TruthF a z o:=by
 have h0:(FloatKind.f64.format.order a 0==some .eq)=decide (a=0):=tf_is_zero h
 have h1:(FloatKind.f64.format.order a 4607182418800017408==some .eq)=decide (a=one):=by
  rw [order_tf h tf_one,Bool.eq_iff_iff]
  rw [beq_iff_eq,decide_eq_true_eq]
  constructor
  ·intro e;injection e with e;exact (tf_eq h tf_one).1 e
  ·intro e;rw [(tf_eq h tf_one).2 e]
 exact ⟨_,_,h0,h1,by rw [bne,h0],by rw [bne,h1],rfl,rfl⟩
theorem beq_of {p:Option Ordering} (h:(p==some .eq)=true):p=some .eq:=beq_iff_eq.1 h
theorem bne_of {p:Option Ordering} (h:(p==some .eq)=false):¬ p=some .eq:=beq_eq_false_iff_ne.1 h
theorem truth_any (a:Nat) (h:TF a) (w:World):Calls Tryz.prog 250 #[.float .f64 a] w fun e w'=>e= .returned (.tuple #[.bool (tv a),.bool (isT a)])/\w=w':=by
 obtain ⟨z,o,h0,h1,h2,h3,hz,ho⟩:=truthF h
 have ht:tv a=o:=ho.symm
 have hi:isT a=(z||o):=by rw [hz,ho];unfold isT;rw [Bool.decide_or]
 rw [ht,hi]
 clear h ht hi hz ho
 cases z <;> cases o
 all_goals
  first | have h0':=beq_of h0 | have h0':=bne_of h0
  first | have h1':=beq_of h1 | have h1':=bne_of h1
  go_enter Tryz.func250,Tryz.ntmps250
  go_wp2
  go_ret2
  exact ⟨rfl,rfl⟩
noncomputable def oneP (pw:Nat->Nat->Nat×Int) (f:Int) (a b:Nat):Nat×Int :=
 if f=1 then doneP (opB .add a b) else if f=2 then doneP (opB .sub a b) else if f=3 then doneP (opB .mul a b) else if f=4 then divP a b
 else if f=5 then (maxP a b,0) else if f=6 then (minP a b,0) else if f=7 then restP a b else if f=8 then pw a b
 else if 11<=f/\f<=16 then (flagF (relB f a b),0) else logP f a b
structure PowIs (pw:Nat->Nat->Nat×Int):Prop where
 prog:∀ a b,TF a->TF b->∀ W,Calls Tryz.prog 271 #[.float .f64 a,.float .f64 b] W fun e w'=>e= .returned (.tuple #[.float .f64 (pw a b).1,.int .i64 (pw a b).2])/\W=w'
 ref:∀ a b,TF a->TF b->∀ W,Calls Tryz.prog 281 #[.float .f64 a,.float .f64 b] W fun e w'=>e= .returned (.tuple #[.float .f64 (pw a b).1,.int .i64 (pw a b).2])/\W=w'
 tf:∀ a b,TF a->TF b->(∃ c,TF c/\pw a b=(c,0))\/pw a b=(0,24)
theorem arith_8 {pw:Nat->Nat->Nat×Int} (hp:PowIs pw) (a b:Nat) (ha:TF a) (hb:TF b) (w:World):Calls Tryz.prog 238 #[.int .i64 8,.float .f64 a,.float .f64 b] w fun e w'=>e= .returned (.tuple #[.float .f64 (pw a b).1,.int .i64 (pw a b).2])/\w=w':=by
 have HC:=Lib.hid (fun W=>hp.prog a b ha hb W)
 clear ha hb hp
 generalize pw a b=d at *
 go_enter Tryz.func238,Tryz.ntmps238
 go_wp2_with fail
 refine (HC.out _).mono ?_
 rintro e w' ⟨rfl,rfl⟩
 go_wp2
 go_ret2
 exact ⟨rfl,rfl⟩
theorem int8 {P:Int->Prop} (f:Int) (h1:1<=f) (h2:f<=8) (a:P 1) (b:P 2) (c:P 3) (d:P 4) (e:P 5) (g:P 6) (h:P 7) (i:P 8):P f:=by
 have:f=1\/f=2\/f=3\/f=4\/f=5\/f=6\/f=7\/f=8:=by omega
 rcases this with rfl | rfl | rfl | rfl | rfl | rfl | rfl | rfl <;> assumption
theorem arith_any {pw:Nat->Nat->Nat×Int} (hp:PowIs pw) (f:Int) (hf:1<=f) (hf2:f<=8) (a b:Nat) (ha:TF a) (hb:TF b) (w:World):Calls Tryz.prog 238 #[.int .i64 f,.float .f64 a,.float .f64 b] w fun e w'=>e= .returned (.tuple #[.float .f64 (oneP pw f a b).1,.int .i64 (oneP pw f a b).2])/\w=w' :=
 int8 (P:=fun f=>Calls Tryz.prog 238 #[.int .i64 f,.float .f64 a,.float .f64 b] w fun e w'=>e= .returned (.tuple #[.float .f64 (oneP pw f a b).1,.int .i64 (oneP pw f a b).2])/\w=w') f hf hf2
  (arith_1 a b ha hb w) (arith_2 a b ha hb w) (arith_3 a b ha hb w) (arith_4 a b ha hb w) (arith_5 a b ha hb w) (arith_6 a b ha hb w) (arith_7 a b ha hb w) (arith_8 hp a b ha hb w)
theorem oneP_rel {pw:Nat->Nat->Nat×Int}{f:Int} (h1:11<=f) (h2:f<=16) (a b:Nat):oneP pw f a b=(flagF (relB f a b),0):=by
 unfold oneP
 rw [if_neg (by omega),if_neg (by omega),if_neg (by omega),if_neg (by omega),if_neg (by omega),if_neg (by omega),if_neg (by omega),if_neg (by omega),if_pos ⟨h1,h2⟩]
theorem oneP_log {pw:Nat->Nat->Nat×Int}{f:Int} (h1:21<=f) (a b:Nat):oneP pw f a b=logP f a b:=by
 unfold oneP
 rw [if_neg (by omega),if_neg (by omega),if_neg (by omega),if_neg (by omega),if_neg (by omega),if_neg (by omega),if_neg (by omega),if_neg (by omega),if_neg (by omega)]
theorem logP_yes {f:Int}{a b:Nat} (h:(isT a&&isT b)=true):logP f a b=(flagF (logB f (tv a) (tv b)),0):=if_pos h
theorem logP_no {f:Int}{a b:Nat} (h:(isT a&&isT b)=false):logP f a b=(0,24):=if_neg (by rw [h];decide)
theorem one_any {pw:Nat->Nat->Nat×Int} (hp:PowIs pw) (f:Int) (hk:knownB f=true) (a b:Nat) (ha:TF a) (hb:TF b) (w:World):Calls Tryz.prog 217 #[.int .i64 f,.float .f64 a,.float .f64 b] w fun e w'=>e= .returned (.tuple #[.float .f64 (oneP pw f a b).1,.int .i64 (oneP pw f a b).2])/\w=w':=by
 unfold knownB at hk
 rw [decide_eq_true_eq] at hk
 rcases hk with ⟨h1,h2⟩ | ⟨h1,h2⟩ | ⟨h1,h2⟩
 ·have HC:=Lib.hid (fun W=>arith_any hp f h1 h2 a b ha hb W)
  clear ha hb hp
  generalize oneP pw f a b=d at *
  go_enter Tryz.func217,Tryz.ntmps217
  go_wp2_with fail
  refine (HC.out _).mono ?_
  rintro e w' ⟨rfl,rfl⟩
  go_wp2
  go_ret2
  exact ⟨rfl,rfl⟩
 ·rw [oneP_rel h1 h2]
  have HC:=Lib.hid (fun W=>relate_any f h1 h2 a b ha hb W)
  have h3:¬ f<=8:=by omega
  have h4:1<=f:=by omega
  clear ha hb hp
  generalize relB f a b=t at *
  go_enter Tryz.func217,Tryz.ntmps217
  go_wp2_with fail
  refine (HC.out _).mono ?_
  rintro e w' ⟨rfl,rfl⟩
  go_wp2_with fail
  refine (flag_any _ _).mono ?_
  rintro e w' ⟨rfl,rfl⟩
  go_wp2
  go_ret2
  exact ⟨rfl,rfl⟩
 ·rw [oneP_log h1]
  have HA:=Lib.hid (fun W=>truth_any a ha W)
  have HB:=Lib.hid (fun W=>truth_any b hb W)
  have HL:=Lib.hid (fun x y W=>logic_any f h1 h2 x y W)
  have h3:¬ f<=8:=by omega
  have h4:¬ f<=16:=by omega
  have h5:1<=f:=by omega
  have h6:11<=f:=by omega
  clear ha hb hp
  by_cases hi:(isT a&&isT b)=true
  ·rw [logP_yes hi]
   rw [Bool.and_eq_true] at hi
   rw [hi.1] at HA
   rw [hi.2] at HB
   clear hi
   generalize tv a=x at *
   generalize tv b=y at *
   have HL2:=Lib.hid (HL.out x y)
   clear HL
   generalize logB f x y=t at *
   go_enter Tryz.func217,Tryz.ntmps217
   go_wp2_with fail
   refine (HA.out _).mono ?_
   rintro e w' ⟨rfl,rfl⟩
   go_wp2_with fail
   refine (HB.out _).mono ?_
   rintro e w' ⟨rfl,rfl⟩
   go_wp2_with fail
   refine (HL2.out _).mono ?_
   rintro e w' ⟨rfl,rfl⟩
   go_wp2_with fail
   refine (flag_any _ _).mono ?_
   rintro e w' ⟨rfl,rfl⟩
   go_wp2
   go_ret2
   exact ⟨rfl,rfl⟩
  ·have hi':(isT a&&isT b)=false:=by simpa using hi
   rw [logP_no hi']
   clear hi HL
   generalize tv a=x at *
   generalize tv b=y at *
   generalize isT a=p at *
   generalize isT b=q at *
   cases p <;> cases q <;> simp at hi'
   all_goals
    go_enter Tryz.func217,Tryz.ntmps217
    go_wp2_with fail
    refine (HA.out _).mono ?_
    rintro e w' ⟨rfl,rfl⟩
    go_wp2_with fail
    refine (HB.out _).mono ?_
    rintro e w' ⟨rfl,rfl⟩
    go_wp2
    go_ret2
    exact ⟨rfl,rfl⟩
theorem and63 (i:Nat) (h:i<=2097152):bits .and .i64 (i:Int) 63=((i % 64:Nat):Int):=by
 show IntKind.i64.wrap ((BitVec.ofInt 64 (i:Int) &&& BitVec.ofInt 64 ((63:Nat):Int)).toNat:Int)=_
 have e:i &&& 63=i % 64:=Nat.and_two_pow_sub_one_eq_mod i 6
 rw [BitVec.toNat_and,ofInt_u64 i (by omega),ofInt_u64 63 (by omega),e,IntKind.wrap_i64]
 omega
theorem wrap_u64_nat (n:Nat) (h:n < 18446744073709551616):IntKind.u64.wrap (n:Int)=n:=by rw [IntKind.wrap_u64];omega
theorem div_pow (x r:Nat):(x:Int) / 2 ^ r=((x / 2 ^ r:Nat):Int):=by
 rw [Int.natCast_ediv,Int.natCast_pow]
 rfl
theorem test_div (x r:Nat):x.testBit r=decide (x / 2 ^ r % 2=1):=Nat.testBit_eq_decide_div_mod_eq
theorem at_bit (x i:Nat) (hx:x < 18446744073709551616) (hi:i<=2097152) :
  (bits .and .u64 ((x:Int) / 2 ^ min (IntKind.u64.wrap (bits .and .i64 (i:Int) 63)).toNat 64) 1==1)=x.testBit (i % 64):=by
 rw [and63 i hi,wrap_u64_nat _ (by omega),Int.toNat_natCast,Nat.min_eq_left (by omega),div_pow]
 have h2:x / 2 ^ (i % 64)<=x:=Nat.div_le_self _ _
 have h1:=u64_and_nat (x / 2 ^ (i % 64)) 1 (by omega) (by omega)
 rw [show ((1:Nat):Int)=1 from rfl] at h1
 rw [h1,Nat.and_one_is_mod,test_div,Bool.eq_iff_iff,beq_iff_eq,decide_eq_true_eq]
 omega
theorem bat_any (b o n c len i x:Nat) (w:World) (hi:i < len) (hl:len<=1048576) (hin:i / 64 < n) (hc:w.cell? ⟨b,o+i / 64,none⟩=some (.int .u64 x)) (hx:x < 18446744073709551616) :
  Calls Tryz.prog 179 #[.agg #[.slice (some ⟨b,o,none⟩) n c,.int .i64 (len:Int)],.int .i64 (i:Int)] w fun e w'=>e= .returned (.bool (x.testBit (i % 64)))/\Below w.heap.size w w':=by
 have h1:=fun a=>cell_box1 hc a
 have HE:=Lib.hid (at_bit x i hx (by omega))
 go_enter Tryz.func179,Tryz.ntmps179
 go_wp2
 go_ret
 exact ⟨by rw [<- HE.out];rfl,bel1 _ _⟩
theorem blen_any (a:Value) (len:Int) (w:World) :
  Calls Tryz.prog 131 #[.agg #[a,.int .i64 len]] w fun e w'=>e= .returned (.int .i64 len)/\Below w.heap.size w w':=by
 go_enter Tryz.func131,Tryz.ntmps131
 go_wp2
 go_ret
 exact ⟨rfl,bel1 _ _⟩
def wd (f:Nat->Bool):Nat->Nat
 | 0=>0
 | m+1=>wd f m+(if f m then 2 ^ m else 0)
theorem wd_lt (f:Nat->Bool) (m:Nat):Go.Proofs.YtakgmnafbjdccaaGreatDoor.wd f m < 2 ^ m:=by
 induction m with
 | zero=>simp [Go.Proofs.YtakgmnafbjdccaaGreatDoor.wd]
 | succ m ih =>
  have:2 ^ (m+1)=2 ^ m+2 ^ m:=by rw [Nat.pow_succ];omega
  unfold Go.Proofs.YtakgmnafbjdccaaGreatDoor.wd
  split <;> omega
theorem wd_bit (f:Nat->Bool) (m j:Nat):(Go.Proofs.YtakgmnafbjdccaaGreatDoor.wd f m).testBit j=(decide (j < m)&&f j):=by
 induction m with
 | zero=>simp [Go.Proofs.YtakgmnafbjdccaaGreatDoor.wd]
 | succ m ih =>
  have hlt:=wd_lt f m
  unfold Go.Proofs.YtakgmnafbjdccaaGreatDoor.wd
  by_cases hf:f m=true
  ·rw [if_pos hf]
   rcases Nat.lt_trichotomy j m with h | h | h
   ·rw [Nat.add_comm,Nat.testBit_two_pow_add_gt h,ih]
    simp [h,Nat.lt_succ_of_lt h]
   ·subst h
    rw [Nat.add_comm,Nat.testBit_two_pow_add_eq,ih]
    simp [hf]
   ·have h2:Go.Proofs.YtakgmnafbjdccaaGreatDoor.wd f m+2 ^ m < 2 ^ j:=by
     have h3:2 ^ (m+1)<=2 ^ j:=Nat.pow_le_pow_right (by omega) h
     have:2 ^ (m+1)=2 ^ m+2 ^ m:=by rw [Nat.pow_succ];omega
     omega
    rw [Nat.testBit_lt_two_pow h2]
    have:¬ j < m+1:=by omega
    simp [this]
  ·rw [if_neg hf,Nat.add_zero,ih]
   by_cases h:j < m
   ·simp [h,Nat.lt_succ_of_lt h]
   ·by_cases h2:j=m
    ·subst h2
     have:f j=false:=by simpa using hf
     simp [this]
    ·have h3:¬ j < m+1:=by omega
     simp [h,h3]
def packW (l:Nat->Bool) (i j:Nat):Nat:=Go.Proofs.YtakgmnafbjdccaaGreatDoor.wd (fun m=>decide (64*j+m < i)&&l (64*j+m)) 64
theorem packW_lt (l:Nat->Bool) (i j:Nat):packW l i j < 18446744073709551616:=wd_lt _ 64
theorem packW_bit (l:Nat->Bool) (i j m:Nat) (hm:m < 64):(packW l i j).testBit m=(decide (64*j+m < i)&&l (64*j+m)):=by
 unfold packW
 rw [wd_bit]
 simp [hm]
theorem packW_high (l:Nat->Bool) (i j m:Nat) (hm:¬ m < 64):(packW l i j).testBit m=false :=
 Nat.testBit_lt_two_pow (Nat.lt_of_lt_of_le (packW_lt l i j) (Nat.pow_le_pow_right (n:=2) (i:=64) (by decide) (by omega)))
theorem packW_zero (l:Nat->Bool) (j:Nat):packW l 0 j=0:=by
 apply Nat.eq_of_testBit_eq
 intro m
 by_cases hm:m < 64
 ·rw [packW_bit _ _ _ _ hm];simp
 ·rw [Nat.zero_testBit,packW_high _ _ _ _ hm]
theorem packW_skip (l:Nat->Bool) (i j:Nat) (h:l i=false\/j≠i / 64):packW l (i+1) j=packW l i j:=by
 apply Nat.eq_of_testBit_eq
 intro m
 by_cases hm:m < 64
 ·rw [packW_bit _ _ _ _ hm,packW_bit _ _ _ _ hm]
  by_cases e:64*j+m=i
  ·rcases h with h | h
   ·rw [e,h];simp
   ·exact absurd (by omega) h
  ·congr 1
   rw [decide_eq_decide]
   omega
 ·rw [packW_high _ _ _ _ hm,packW_high _ _ _ _ hm]
theorem packW_set (l:Nat->Bool) (i:Nat) (h:l i=true):packW l (i+1) (i / 64)=packW l i (i / 64) ||| 2 ^ (i % 64):=by
 apply Nat.eq_of_testBit_eq
 intro m
 rw [Nat.testBit_or,Nat.testBit_two_pow]
 by_cases hm:m < 64
 ·rw [packW_bit _ _ _ _ hm,packW_bit _ _ _ _ hm]
  by_cases e:i % 64=m
  ·have e2:64*(i / 64)+m=i:=by omega
   rw [e2,h]
   simp [e]
  ·have e2:64*(i / 64)+m≠i:=by omega
   simp only [e,decide_false,Bool.or_false]
   congr 1
   rw [decide_eq_decide]
   omega
 ·rw [packW_high _ _ _ _ hm,packW_high _ _ _ _ hm]
  have e:¬ i % 64=m:=by omega
  simp [e]
def cnt (f:Nat->Bool):Nat->Nat
 | 0=>0
 | n+1=>cnt f n+(if f n then 1 else 0)
theorem cnt_le (f:Nat->Bool) (n:Nat):cnt f n<=n:=by
 induction n with
 | zero=>exact Nat.le_refl _
 | succ n ih=>unfold cnt;split <;> omega
theorem cnt_congr {f g:Nat->Bool} (n:Nat) (h:∀ i,i < n->f i=g i):cnt f n=cnt g n:=by
 induction n with
 | zero=>rfl
 | succ n ih=>unfold cnt;rw [ih fun i hi=>h i (by omega),h n (by omega)]
theorem cnt_add (f:Nat->Bool) (a b:Nat):cnt f (a+b)=cnt f a+cnt (fun i=>f (a+i)) b:=by
 induction b with
 | zero=>rfl
 | succ b ih=>show cnt f (a+b)+_=_+(cnt _ b+_);rw [ih,Nat.add_assoc];rfl
def ofB:List Nat->Nat
 | []=>0
 | b::l=>b+256*ofB l
theorem bit8 (b h j:Nat) (hb:b < 256):(b+256*h).testBit j=if j < 8 then b.testBit j else h.testBit (j - 8):=by
 rw [Nat.add_comm]
 exact Nat.testBit_two_pow_mul_add h (i:=8) hb j
theorem and_step (b h c m s:Nat) (hb:b < 256) (hc:c < 2 ^ (8 - s)) (hs:s<=8):((b+256*h) / 2 ^ s) &&& (c+256*m)=((b / 2 ^ s) &&& c)+256*((h / 2 ^ s) &&& m):=by
 have hc8:c < 256:=Nat.lt_of_lt_of_le hc (Nat.pow_le_pow_right (n:=2) (i:=8 - s) (j:=8) (by decide) (by omega))
 have hr:(b / 2 ^ s) &&& c < 256:=Nat.lt_of_le_of_lt Nat.and_le_right hc8
 apply Nat.eq_of_testBit_eq
 intro j
 rw [Nat.testBit_and,Nat.testBit_div_two_pow,bit8 _ _ _ hb,bit8 _ _ _ hc8,bit8 _ _ _ hr]
 by_cases h1:j < 8
 ·rw [if_pos h1,if_pos h1,Nat.testBit_and,Nat.testBit_div_two_pow]
  by_cases h2:j+s < 8
  ·rw [if_pos (by omega)]
  ·have hz:c.testBit j=false:=Nat.testBit_lt_two_pow (Nat.lt_of_lt_of_le hc (Nat.pow_le_pow_right (by decide) (by omega)))
   rw [hz,Bool.and_false,Bool.and_false]
 ·rw [if_neg h1,if_neg h1,if_neg (by omega),Nat.testBit_and,Nat.testBit_div_two_pow]
  congr 2
  omega
theorem andB (s c:Nat) (hc:c < 2 ^ (8 - s)) (hs:s<=8):∀ l:List Nat,(∀ b∈l,b < 256)->(ofB l / 2 ^ s) &&& ofB (l.map fun _=>c)=ofB (l.map fun b=>(b / 2 ^ s) &&& c)
 | [],_=>by simp [ofB]
 | b::l,h=>by
  show ((b+256*ofB l) / 2 ^ s) &&& (c+256*_)=_+256*_
  rw [and_step _ _ _ _ _ (h b (by simp)) hc hs,andB s c hc hs l fun x hx=>h x (by simp [hx])]
theorem addB (f g:Nat->Nat):∀ l:List Nat,ofB (l.map f)+ofB (l.map g)=ofB (l.map fun b=>f b+g b)
 | []=>rfl
 | b::l=>by
  have:=addB f g l
  show (f b+256*ofB (l.map f))+(g b+256*ofB (l.map g))=(f b+g b)+256*ofB (l.map fun b=>f b+g b)
  omega
theorem nibB:∀ l:List Nat,(∀ b∈l,b % 16<=4/\b / 16<=4)->(ofB l / 16+ofB l) &&& ofB (l.map fun _=>15)=ofB (l.map fun b=>(b / 16+b) % 16)
 | [],_=>by simp [ofB]
 | b::l,h=>by
  have ih:=nibB l fun x hx=>h x (by simp [hx])
  have hb:=h b (by simp)
  have hh:ofB l % 16<=4:=by
   cases l with
   | nil=>simp [ofB]
   | cons d l =>
    have:=h d (by simp)
    show (d+256*ofB l) % 16<=4
    omega
  show ((b+256*ofB l) / 16+(b+256*ofB l)) &&& (15+256*ofB (l.map fun _=>15))=(b / 16+b) % 16+256*ofB (l.map fun b=>(b / 16+b) % 16)
  have e:(b+256*ofB l) / 16+(b+256*ofB l)=(b+b / 16+16*(ofB l % 16))+256*(ofB l / 16+ofB l):=by omega
  have hs:=and_step (b+b / 16+16*(ofB l % 16)) (ofB l / 16+ofB l) 15 (ofB (l.map fun _=>15)) 0 (by omega) (by decide) (by decide)
  rw [Nat.pow_zero,Nat.div_one,Nat.div_one,Nat.div_one] at hs
  rw [e,hs,ih]
  congr 1
  have:=Nat.and_two_pow_sub_one_eq_mod (b+b / 16+16*(ofB l % 16)) 4
  show _ &&& (2 ^ 4 - 1)=_
  rw [this]
  omega
def bytesOf:Nat->Nat->List Nat
 | _,0=>[]
 | x,m+1=>x % 256::bytesOf (x / 256) m
theorem ofB_bytes (m:Nat):∀ x,x < 256 ^ m->ofB (bytesOf x m)=x:=by
 induction m with
 | zero =>
      intro x h;have:x=0:=by simpa using h
      subst this;rfl
 | succ m ih =>
  intro x h
  show x % 256+256*ofB (bytesOf (x / 256) m)=x
  rw [ih (x / 256) (Nat.div_lt_of_lt_mul (by rw [Nat.pow_succ,Nat.mul_comm] at h;exact h))]
  omega
theorem bytes_lt (m:Nat):∀ x,∀ b∈bytesOf x m,b < 256:=by
 induction m with
 | zero=>intro x b h;cases h
 | succ m ih =>
  intro x b h
  rcases List.mem_cons.1 h with rfl | h
  ·omega
  ·exact ih _ b h
theorem cnt_bytes (m:Nat):∀ x,cnt x.testBit (8*m)=((bytesOf x m).map fun b=>cnt b.testBit 8).sum:=by
 induction m with
 | zero=>intro x;rfl
 | succ m ih =>
  intro x
  show _=cnt (x % 256).testBit 8+((bytesOf (x / 256) m).map fun b=>cnt b.testBit 8).sum
  rw [<- ih (x / 256),show 8*(m+1)=8+8*m by omega,cnt_add]
  congr 1
  ·refine cnt_congr 8 fun i hi=>?_
   have:=Nat.testBit_mod_two_pow x 8 i
   rw [show (2:Nat) ^ 8=256 from rfl] at this
   rw [this];simp [hi]
  ·refine cnt_congr _ fun i _=>?_
   show x.testBit (8+i)=(x / 2 ^ 8).testBit i
   rw [Nat.testBit_div_two_pow,Nat.add_comm]
def bA (b:Nat):Nat:=(b / 2 &&& 85)+(b &&& 85)
def bB (b:Nat):Nat:=(b / 4 &&& 51)+(b &&& 51)
def bC (b:Nat):Nat:=(b / 16+b) % 16
theorem byte_all:∀ b,b < 256->bA b < 256/\bB (bA b) % 16<=4/\bB (bA b) / 16<=4/\bC (bB (bA b))=cnt b.testBit 8:=by decide+kernel
theorem fin8a (a b c Y0 Y1 Y2 Y3:Nat) (ha:a<=8) (hb:b<=8) (hc:c<=8) (h0:Y0=a+256*Y1) (h1:Y1=b+256*Y2) (h2:Y2=c+256*Y3):(Y0+Y1) / 65536=Y2+Y3:=by
 have:Y0+Y1=(a+b+256*(b+c))+65536*(Y2+Y3):=by omega
 rw [this,Nat.add_mul_div_left _ _ (by decide),Nat.div_eq_of_lt (by omega)]
 omega
theorem fin8b (a b c d Y0 Y1 Y2 Y3 Y4:Nat) (ha:a<=8) (hb:b<=8) (hc:c<=8) (hd:d<=8) (h0:Y0=a+256*Y1) (h1:Y1=b+256*Y2) (h2:Y2=c+256*Y3) (h3:Y3=d+256*Y4):∃ L,Y0=L+4294967296*Y4/\L<=135000000:=⟨a+256*b+65536*c+16777216*d,by omega,by omega⟩
theorem fin8c (L0 L1 L2 L3 Y0 Y1 Y2 Y3 Y4 Y5 Y6 Y7:Nat) (h0:Y0=L0+4294967296*Y4) (h1:Y1=L1+4294967296*Y5) (h2:Y2=L2+4294967296*Y6) (h3:Y3=L3+4294967296*Y7) (l0:L0<=135000000) (l1:L1<=135000000) (l2:L2<=135000000) (l3:L3<=135000000) :
  (Y0+Y1+Y2+Y3) / 4294967296=Y4+Y5+Y6+Y7:=by
 have:Y0+Y1+Y2+Y3=(L0+L1+L2+L3)+4294967296*(Y4+Y5+Y6+Y7):=by omega
 rw [this,Nat.add_mul_div_left _ _ (by decide),Nat.div_eq_of_lt (by omega)]
 omega
theorem up8 (a Y Z B C:Nat) (ha:a<=8) (h:Y=a+256*Z) (hz:Z<=B) (hC:8+256*B<=C):Y<=C:=by omega
theorem half8 (a Y Z:Nat) (h:Y=a+256*Z):∃ t,Y=a+128*t:=⟨2*Z,by omega⟩
theorem fin8 (a b c d e f g h:Nat) (ha:a<=8) (hb:b<=8) (hc:c<=8) (hd:d<=8) (he:e<=8) (hf:f<=8) (hg:g<=8) (hh:h<=8) (y0 y1 y2 y3:Nat) (e0:y0=ofB [a,b,c,d,e,f,g,h]) (e1:y1=y0+y0 / 256) (e2:y2=y1+y1 / 65536) (e3:y3=y2+y2 / 4294967296) :
  y3 % 128=a+b+c+d+e+f+g+h/\y1<=2000000000000000000/\y2<=2000000000000000000/\y3<=2000000000000000000:=by
 obtain ⟨Y1,k1⟩:∃ Y,Y=ofB [b,c,d,e,f,g,h]:=⟨_,rfl⟩
 obtain ⟨Y2,k2⟩:∃ Y,Y=ofB [c,d,e,f,g,h]:=⟨_,rfl⟩
 obtain ⟨Y3,k3⟩:∃ Y,Y=ofB [d,e,f,g,h]:=⟨_,rfl⟩
 obtain ⟨Y4,k4⟩:∃ Y,Y=ofB [e,f,g,h]:=⟨_,rfl⟩
 obtain ⟨Y5,k5⟩:∃ Y,Y=ofB [f,g,h]:=⟨_,rfl⟩
 obtain ⟨Y6,k6⟩:∃ Y,Y=ofB [g,h]:=⟨_,rfl⟩
 obtain ⟨Y7,k7⟩:∃ Y,Y=ofB [h]:=⟨_,rfl⟩
 have j0:y0=a+256*Y1:=by rw [k1];exact e0
 have j1:Y1=b+256*Y2:=by rw [k2];exact k1
 have j2:Y2=c+256*Y3:=by rw [k3];exact k2
 have j3:Y3=d+256*Y4:=by rw [k4];exact k3
 have j4:Y4=e+256*Y5:=by rw [k5];exact k4
 have j5:Y5=f+256*Y6:=by rw [k6];exact k5
 have j6:Y6=g+256*Y7:=by rw [k7];exact k6
 have j7:Y7=h:=by rw [k7];rfl
 clear k1 k2 k3 k4 k5 k6 k7 e0
 have d0:y0 / 256=Y1:=by rw [j0,Nat.add_mul_div_left _ _ (by decide),Nat.div_eq_of_lt (by omega)];omega
 have d1:=fin8a a b c y0 Y1 Y2 Y3 ha hb hc j0 j1 j2
 obtain ⟨L0,q0,l0⟩:=fin8b a b c d y0 Y1 Y2 Y3 Y4 ha hb hc hd j0 j1 j2 j3
 obtain ⟨L1,q1,l1⟩:=fin8b b c d e Y1 Y2 Y3 Y4 Y5 hb hc hd he j1 j2 j3 j4
 obtain ⟨L2,q2,l2⟩:=fin8b c d e f Y2 Y3 Y4 Y5 Y6 hc hd he hf j2 j3 j4 j5
 obtain ⟨L3,q3,l3⟩:=fin8b d e f g Y3 Y4 Y5 Y6 Y7 hd he hf hg j3 j4 j5 j6
 have d2:=fin8c L0 L1 L2 L3 y0 Y1 Y2 Y3 Y4 Y5 Y6 Y7 q0 q1 q2 q3 l0 l1 l2 l3
 have e1':y1=y0+Y1:=by rw [e1,d0]
 have e2':y2=y0+Y1+Y2+Y3:=by rw [e2,e1',d1];exact (Nat.add_assoc _ _ _).symm
 have e3:y3=y0+Y1+Y2+Y3+Y4+Y5+Y6+Y7:=by rw [e3,e2',d2];simp only [Nat.add_assoc]
 clear d0 d1 d2 q0 q1 q2 q3 l0 l1 l2 l3 e1 e2
 have b7:Y7<=8:=by rw [j7];exact hh
 have b6:=up8 g Y6 Y7 8 2056 hg j6 b7 (by decide)
 have b5:=up8 f Y5 Y6 2056 526344 hf j5 b6 (by decide)
 have b4:=up8 e Y4 Y5 526344 134744072 he j4 b5 (by decide)
 have b3:=up8 d Y3 Y4 134744072 34494482440 hd j3 b4 (by decide)
 have b2:=up8 c Y2 Y3 34494482440 8830587504648 hc j2 b3 (by decide)
 have b1:=up8 b Y1 Y2 8830587504648 2260630401189896 hb j1 b2 (by decide)
 have b0:=up8 a y0 Y1 2260630401189896 578721382704613384 ha j0 b1 (by decide)
 have c1:y1<=2000000000000000000:=by rw [e1'];clear e3 e2' e1' j0 j1 j2 j3 j4 j5 j6 j7;omega
 have c2:y2<=2000000000000000000:=by rw [e2'];clear e3 e2' e1' j0 j1 j2 j3 j4 j5 j6 j7;omega
 have c3:y3<=2000000000000000000:=by rw [e3];clear e3 e2' e1' j0 j1 j2 j3 j4 j5 j6 j7;omega
 refine ⟨?_,c1,c2,c3⟩
 clear c1 c2 c3 b0 b1 b2 b3 b4 b5 b6 b7 e1' e2'
 have s0:=half8 a y0 Y1 j0
 have s1:=half8 b Y1 Y2 j1
 have s2:=half8 c Y2 Y3 j2
 have s3:=half8 d Y3 Y4 j3
 have s4:=half8 e Y4 Y5 j4
 have s5:=half8 f Y5 Y6 j5
 have s6:=half8 g Y6 Y7 j6
 obtain ⟨t0,s0⟩:=s0
 obtain ⟨t1,s1⟩:=s1
 obtain ⟨t2,s2⟩:=s2
 obtain ⟨t3,s3⟩:=s3
 obtain ⟨t4,s4⟩:=s4
 obtain ⟨t5,s5⟩:=s5
 obtain ⟨t6,s6⟩:=s6
 clear j0 j1 j2 j3 j4 j5 j6
 have:y3=(a+b+c+d+e+f+g+h)+128*(t0+t1+t2+t3+t4+t5+t6):=by rw [e3,s0,s1,s2,s3,s4,s5,s6,j7];omega
 rw [this,Nat.add_mul_mod_self_left]
 clear e3 this s0 s1 s2 s3 s4 s5 s6
 exact Nat.mod_eq_of_lt (by omega)
theorem pop_law (x:Nat) (hx:x < 18446744073709551616) (a1 a2 x1 b1 b2 x2 s x3 x4 x5 x6:Nat)
  (e1:a1=x / 2 &&& 6148914691236517205) (e2:a2=x &&& 6148914691236517205) (e3:x1=a1+a2) (e4:b1=x1 / 4 &&& 3689348814741910323) (e5:b2=x1 &&& 3689348814741910323) (e6:x2=b1+b2)
  (e7:s=x2 / 16+x2) (e8:x3=s &&& 1085102592571150095) (e9:x4=x3+x3 / 256) (e10:x5=x4+x4 / 65536) (e11:x6=x5+x5 / 4294967296) :
  x6 % 128=cnt x.testBit 64/\x4<=2000000000000000000/\x5<=2000000000000000000/\x6<=2000000000000000000:=by
 obtain ⟨l,hl⟩:∃ l,l=bytesOf x 8:=⟨_,rfl⟩
 have hlt:∀ b∈l,b < 256:=by rw [hl];exact bytes_lt 8 x
 have hxl:ofB l=x:=by rw [hl];exact ofB_bytes 8 x hx
 have hlen:∀ c,ofB (l.map fun _=>c)=ofB (List.replicate 8 c):=by intro c;rw [hl];rfl
 have k1:x1=ofB (l.map bA):=by
  have q1:=andB 1 85 (by decide) (by decide) l hlt
  have q2:=andB 0 85 (by decide) (by decide) l hlt
  rw [hlen,hxl] at q1 q2
  rw [Nat.pow_zero,Nat.div_one] at q2
  have m:ofB (List.replicate 8 85)=6148914691236517205:=by decide
  rw [m] at q1 q2
  rw [e3,e1,e2]
  rw [show x / 2=x / 2 ^ 1 by rw [Nat.pow_one],q1,q2,addB]
  congr 1
  refine List.map_congr_left fun b _=>?_
  rw [Nat.pow_one,Nat.div_one];rfl
 have hltA:∀ b∈l.map bA,b < 256:=by
  intro b hb
  obtain ⟨d,hd,rfl⟩:=List.mem_map.1 hb
  exact (byte_all d (hlt d hd)).1
 have hlenA:∀ c,ofB ((l.map bA).map fun _=>c)=ofB (List.replicate 8 c):=by intro c;rw [hl];rfl
 have k2:x2=ofB ((l.map bA).map bB):=by
  have q1:=andB 2 51 (by decide) (by decide) (l.map bA) hltA
  have q2:=andB 0 51 (by decide) (by decide) (l.map bA) hltA
  rw [hlenA,<- k1] at q1 q2
  rw [Nat.pow_zero,Nat.div_one] at q2
  have m:ofB (List.replicate 8 51)=3689348814741910323:=by decide
  rw [m] at q1 q2
  rw [e6,e4,e5]
  rw [show x1 / 4=x1 / 2 ^ 2 from rfl,q1,q2,addB]
  congr 1
  refine List.map_congr_left fun b _=>?_
  rw [Nat.div_one];rfl
 have k3:x3=ofB (((l.map bA).map bB).map bC):=by
  have q:=nibB ((l.map bA).map bB) (by
   intro b hb
   obtain ⟨d,hd,rfl⟩:=List.mem_map.1 hb
   obtain ⟨c,hc,rfl⟩:=List.mem_map.1 hd
   exact ⟨(byte_all c (hlt c hc)).2.1,(byte_all c (hlt c hc)).2.2.1⟩)
  have m:ofB (((l.map bA).map bB).map fun _=>15)=1085102592571150095:=by rw [hl];show ofB (List.replicate 8 15)=_;decide
  rw [m,<- k2] at q
  rw [e8,e7,q]
  rfl
 rw [List.map_map,List.map_map] at k3
 have hc:∀ b∈l,((bC∘bB)∘bA) b=cnt b.testBit 8:=fun b hb=>(byte_all b (hlt b hb)).2.2.2
 rw [List.map_congr_left hc] at k3
 have hsum:=cnt_bytes 8 x
 rw [<- hl] at hsum
 have h8:l=[l[0]!,l[1]!,l[2]!,l[3]!,l[4]!,l[5]!,l[6]!,l[7]!]:=by rw [hl];rfl
 generalize l[0]! = a0 at h8
 generalize l[1]! = a1' at h8
 generalize l[2]! = a2' at h8
 generalize l[3]! = a3' at h8
 generalize l[4]! = a4' at h8
 generalize l[5]! = a5' at h8
 generalize l[6]! = a6' at h8
 generalize l[7]! = a7' at h8
 rw [h8] at k3 hsum
 have:=fin8 (cnt a0.testBit 8) (cnt a1'.testBit 8) (cnt a2'.testBit 8) (cnt a3'.testBit 8) (cnt a4'.testBit 8) (cnt a5'.testBit 8) (cnt a6'.testBit 8) (cnt a7'.testBit 8) (cnt_le _ _) (cnt_le _ _) (cnt_le _ _) (cnt_le _ _) (cnt_le _ _) (cnt_le _ _) (cnt_le _ _) (cnt_le _ _) x3 x4 x5 x6 k3 e9 e10 e11
 refine ⟨?_,this.2⟩
 rw [this.1,show (64:Nat)=8*8 from rfl,hsum]
 simp
 omega
end Go.Proofs.YtakgmnafbjdccaaGreatDoor
