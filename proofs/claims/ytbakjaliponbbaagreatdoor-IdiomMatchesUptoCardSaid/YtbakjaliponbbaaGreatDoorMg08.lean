/- Whole numbers among tidy ones; the walks of Max, Min, RestInt, Rest and of the reference's Whole and Rest. The walks of Max, Min and of arith.One and the .. Conditions: as each theorem says. -/
import Derived.Test.YtbakjaliponbbaaGreatDoorMg04
import Derived.Test.YtbakjaliponbbaaGreatDoorMg07
import Derived.Laws.BitsAllLaws
set_option maxRecDepth 100000
set_option maxHeartbeats 1000000
namespace Go.Proofs.YtbakjaliponbbaaGreatDoor
open Go Go.RowKit Go.Proofs Fl
theorem fi_inj {a b:Int} (ha:Good a) (hb:Good b) (h:fi a=fi b):a=b:=by
 have h1:=order_fi a b (natAbs_good ha) (natAbs_good hb)
 have h2:=order_fi b b (natAbs_good hb) (natAbs_good hb)
 rw [h] at h1
 rw [h1,cmp_eq] at h2
 rcases Int.lt_trichotomy a b with h3 | h3 | h3
 ·rw [cmp_lt h3] at h2;cases h2
 ·exact h3
 ·rw [cmp_gt h3] at h2;cases h2
theorem tf_fi {n:Int} (h:Good n):TF (fi n):=by
 refine ⟨decide (n < 0),n.natAbs*2^K,rep_fi n (natAbs_good h),fi_W n (natAbs_good h),fun e=>?_⟩
 have:n.natAbs=0:=by
  rcases Nat.mul_eq_zero.1 e with e | e
  ·exact e
  ·exact absurd e (Nat.ne_of_gt (Nat.two_pow_pos K))
 have:n=0:=by omega
 rw [this];rfl
open Classical in
noncomputable def wholeP (b:Nat):Option Int:=if h:∃ n,Good n/\b=fi n then some h.choose else none
theorem wholeP_fi {n:Int} (h:Good n):wholeP (fi n)=some n:=by
 have he:∃ m,Good m/\fi n=fi m:=⟨n,h,rfl⟩
 unfold wholeP
 rw [dif_pos he]
 exact congrArg some (fi_inj he.choose_spec.1 h he.choose_spec.2.symm)
theorem wholeP_some {b:Nat}{n:Int} (h:wholeP b=some n):Good n/\b=fi n:=by
 unfold wholeP at h
 split at h
 ·rename_i he
  injection h with h
  subst h
  exact he.choose_spec
 ·cases h
theorem whole_cases {b:Nat} (h:TF b):(∃ n,Good n/\b=fi n/\wholeP b=some n)\/(wholeP b=none/\∃ s Z,Rep Z/\b=W s Z/\¬ IsWhole Z):=by
 by_cases he:∃ n,Good n/\b=fi n
 ·obtain ⟨n,h1,rfl⟩:=he
  exact .inl ⟨n,h1,rfl,wholeP_fi h1⟩
 ·refine .inr ⟨by unfold wholeP;rw [dif_neg he],?_⟩
  obtain ⟨s,Z,hz,rfl,h0⟩:=h
  refine ⟨s,Z,hz,rfl,fun ⟨m,hm,e⟩=>he ⟨sg s m,?_,?_⟩⟩
  ·have:=natAbs_sg s m
   exact ⟨by omega,by omega⟩
  ·have hg:Good (sg s m):=by have:=natAbs_sg s m;exact ⟨by omega,by omega⟩
   rw [fi_W _ (natAbs_good hg),natAbs_sg,e]
   by_cases hm0:m=0
   ·subst hm0
    rw [Nat.zero_mul] at e ⊢
    rw [h0 e,sg_zero]
    rfl
   ·congr 1
    rw [Bool.eq_iff_iff,decide_eq_true_eq,sg_neg_iff]
    exact ⟨fun h=>⟨h,hm0⟩,fun h=>h.1⟩
def cmpF (a b:Nat):Ordering:=(Ieee.double.order a b).getD .eq
theorem order_tf {a b:Nat} (ha:TF a) (hb:TF b):FloatKind.f64.format.order a b=some (cmpF a b):=by
 obtain ⟨s,Z,hz,rfl,_⟩:=ha
 obtain ⟨t,Y,hy,rfl,_⟩:=hb
 show Ieee.double.order _ _=_
 unfold cmpF
 rw [order_W s t hz hy]
 rfl
abbrev one:Nat:=4607182418800017408
theorem tf_eq {a b:Nat} (ha:TF a) (hb:TF b):cmpF a b= .eq↔a=b:=by
 constructor
 ·obtain ⟨s,Z,hz,rfl,h1⟩:=ha
  obtain ⟨t,Y,hy,rfl,h2⟩:=hb
  intro h
  unfold cmpF at h
  rw [order_W s t hz hy] at h
  have hsg:sg s Z=sg t Y:=by
   rcases Int.lt_trichotomy (sg s Z) (sg t Y) with h3 | h3 | h3
   ·rw [cmp_lt h3] at h;cases h
   ·exact h3
   ·rw [cmp_gt h3] at h;cases h
  have hzy:Z=Y:=by
   have e1:=natAbs_sg s Z
   have e2:=natAbs_sg t Y
   rw [hsg] at e1
   omega
  subst hzy
  by_cases h0:Z=0
  ·rw [h1 h0,h2 h0]
  ·have:s=t:=by
    cases s <;> cases t <;> first | rfl | (simp [sg] at hsg;omega)
   rw [this]
 ·rintro rfl
  obtain ⟨s,Z,hz,rfl,h1⟩:=ha
  unfold cmpF
  rw [order_W s s hz hz,cmp_eq]
  rfl
def flagF (t:Bool):Nat:=if t then one else 0
theorem tf_flag (t:Bool):TF (flagF t):=by cases t;exact tf_zero;exact tf_one
def isT (a:Nat):Bool:=decide (a=0\/a=one)
def tv (a:Nat):Bool:=decide (a=one)
theorem flag_any (t:Bool) (w:World):Calls Tryz.prog 188 #[.bool t] w fun e w'=>e= .returned (.float .f64 (flagF t))/\w=w':=by
 cases t
 all_goals
  go_enter Tryz.func188,Tryz.ntmps188
  go_wp2
  go_ret
  exact ⟨rfl,rfl⟩
structure TruthF (a:Nat) (z o:Bool):Prop where
 e0:(FloatKind.f64.format.order a 0==some .eq)=z
 e1:(FloatKind.f64.format.order a 4607182418800017408==some .eq)=o
 n0:(FloatKind.f64.format.order a 0 != some .eq) = !z
 n1:(FloatKind.f64.format.order a 4607182418800017408 != some .eq) = !o
 tz:z=decide (a=0)
 tone:o=decide (a=one)
theorem truthF {a:Nat} (h:TF a):∃ z o,TruthF a z o:=by
 have h0:(FloatKind.f64.format.order a 0==some .eq)=decide (a=0):=tf_is_zero h
 have h1:(FloatKind.f64.format.order a 4607182418800017408==some .eq)=decide (a=one):=by
  rw [order_tf h tf_one,Bool.eq_iff_iff]
  rw [beq_iff_eq,decide_eq_true_eq]
  constructor
  ·intro e;injection e with e;exact (tf_eq h tf_one).1 e
  ·intro e;rw [(tf_eq h tf_one).2 e]
 exact ⟨_,_,h0,h1,by rw [bne,h0],by rw [bne,h1],rfl,rfl⟩
theorem beq_of {p:Option Ordering} (h:(p==some .eq)=true):p=some .eq:=beq_iff_eq.1 h
theorem bne_of {p:Option Ordering} (h:(p==some .eq)=false):¬ p=some .eq:=beq_eq_false_iff_ne.1 h
theorem truth_any (a:Nat) (h:TF a) (w:World):Calls Tryz.prog 254 #[.float .f64 a] w fun e w'=>e= .returned (.tuple #[.bool (tv a),.bool (isT a)])/\w=w':=by
 obtain ⟨z,o,h0,h1,h2,h3,hz,ho⟩:=truthF h
 have ht:tv a=o:=ho.symm
 have hi:isT a=(z||o):=by rw [hz,ho];unfold isT;rw [Bool.decide_or]
 rw [ht,hi]
 clear h ht hi hz ho
 cases z <;> cases o
 all_goals
  first | have h0':=beq_of h0 | have h0':=bne_of h0
  first | have h1':=beq_of h1 | have h1':=bne_of h1
  go_enter Tryz.func254,Tryz.ntmps254
  go_wp2
  go_ret2
  exact ⟨rfl,rfl⟩
theorem int8 {P:Int->Prop} (f:Int) (h1:1<=f) (h2:f<=8) (a:P 1) (b:P 2) (c:P 3) (d:P 4) (e:P 5) (g:P 6) (h:P 7) (i:P 8):P f:=by
 have:f=1\/f=2\/f=3\/f=4\/f=5\/f=6\/f=7\/f=8:=by omega
 rcases this with rfl | rfl | rfl | rfl | rfl | rfl | rfl | rfl <;> assumption
theorem and63 (i:Nat) (h:i<=2097152):bits .and .i64 (i:Int) 63=((i % 64:Nat):Int):=by
 show IntKind.i64.wrap ((BitVec.ofInt 64 (i:Int) &&& BitVec.ofInt 64 ((63:Nat):Int)).toNat:Int)=_
 have e:i &&& 63=i % 64:=Nat.and_two_pow_sub_one_eq_mod i 6
 rw [BitVec.toNat_and,ofInt_u64 i (by omega),ofInt_u64 63 (by omega),e,IntKind.wrap_i64]
 omega
theorem wrap_u64_nat (n:Nat) (h:n < 18446744073709551616):IntKind.u64.wrap (n:Int)=n:=by rw [IntKind.wrap_u64];omega
theorem div_pow (x r:Nat):(x:Int) / 2 ^ r=((x / 2 ^ r:Nat):Int):=by
 rw [Int.natCast_ediv,Int.natCast_pow]
 rfl
theorem test_div (x r:Nat):x.testBit r=decide (x / 2 ^ r % 2=1):=Nat.testBit_eq_decide_div_mod_eq
theorem at_bit (x i:Nat) (hx:x < 18446744073709551616) (hi:i<=2097152) :
  (bits .and .u64 ((x:Int) / 2 ^ min (IntKind.u64.wrap (bits .and .i64 (i:Int) 63)).toNat 64) 1==1)=x.testBit (i % 64):=by
 rw [and63 i hi,wrap_u64_nat _ (by omega),Int.toNat_natCast,Nat.min_eq_left (by omega),div_pow]
 have h2:x / 2 ^ (i % 64)<=x:=Nat.div_le_self _ _
 have h1:=u64_and_nat (x / 2 ^ (i % 64)) 1 (by omega) (by omega)
 rw [show ((1:Nat):Int)=1 from rfl] at h1
 rw [h1,Nat.and_one_is_mod,test_div,Bool.eq_iff_iff,beq_iff_eq,decide_eq_true_eq]
 omega
theorem bat_any (b o n c len i x:Nat) (w:World) (hi:i < len) (hl:len<=1048576) (hin:i / 64 < n) (hc:w.cell? ⟨b,o+i / 64,none⟩=some (.int .u64 x)) (hx:x < 18446744073709551616) :
  Calls Tryz.prog 189 #[.agg #[.slice (some ⟨b,o,none⟩) n c,.int .i64 (len:Int)],.int .i64 (i:Int)] w fun e w'=>e= .returned (.bool (x.testBit (i % 64)))/\Below w.heap.size w w':=by
 have h1:=fun a=>cell_box1 hc a
 have HE:=Lib.hid (at_bit x i hx (by omega))
 go_enter Tryz.func189,Tryz.ntmps189
 go_wp2
 go_ret
 exact ⟨by rw [<- HE.out];rfl,bel1 _ _⟩
def wd (f:Nat->Bool):Nat->Nat
 | 0=>0
 | m+1=>wd f m+(if f m then 2 ^ m else 0)
theorem wd_lt (f:Nat->Bool) (m:Nat):Go.Proofs.YtbakjaliponbbaaGreatDoor.wd f m < 2 ^ m:=by
 induction m with
 | zero=>simp [Go.Proofs.YtbakjaliponbbaaGreatDoor.wd]
 | succ m ih =>
  have:2 ^ (m+1)=2 ^ m+2 ^ m:=by rw [Nat.pow_succ];omega
  unfold Go.Proofs.YtbakjaliponbbaaGreatDoor.wd
  split <;> omega
theorem wd_bit (f:Nat->Bool) (m j:Nat):(Go.Proofs.YtbakjaliponbbaaGreatDoor.wd f m).testBit j=(decide (j < m)&&f j):=by
 induction m with
 | zero=>simp [Go.Proofs.YtbakjaliponbbaaGreatDoor.wd]
 | succ m ih =>
  have hlt:=wd_lt f m
  unfold Go.Proofs.YtbakjaliponbbaaGreatDoor.wd
  by_cases hf:f m=true
  ·rw [if_pos hf]
   rcases Nat.lt_trichotomy j m with h | h | h
   ·rw [Nat.add_comm,Nat.testBit_two_pow_add_gt h,ih]
    simp [h,Nat.lt_succ_of_lt h]
   ·subst h
    rw [Nat.add_comm,Nat.testBit_two_pow_add_eq,ih]
    simp [hf]
   ·have h2:Go.Proofs.YtbakjaliponbbaaGreatDoor.wd f m+2 ^ m < 2 ^ j:=by
     have h3:2 ^ (m+1)<=2 ^ j:=Nat.pow_le_pow_right (by omega) h
     have:2 ^ (m+1)=2 ^ m+2 ^ m:=by rw [Nat.pow_succ];omega
     omega
    rw [Nat.testBit_lt_two_pow h2]
    have:¬ j < m+1:=by omega
    simp [this]
  ·rw [if_neg hf,Nat.add_zero,ih]
   by_cases h:j < m
   ·simp [h,Nat.lt_succ_of_lt h]
   ·by_cases h2:j=m
    ·subst h2
     have:f j=false:=by simpa using hf
     simp [this]
    ·have h3:¬ j < m+1:=by omega
     simp [h,h3]
def packW (l:Nat->Bool) (i j:Nat):Nat:=Go.Proofs.YtbakjaliponbbaaGreatDoor.wd (fun m=>decide (64*j+m < i)&&l (64*j+m)) 64
theorem packW_lt (l:Nat->Bool) (i j:Nat):packW l i j < 18446744073709551616:=wd_lt _ 64
theorem packW_bit (l:Nat->Bool) (i j m:Nat) (hm:m < 64):(packW l i j).testBit m=(decide (64*j+m < i)&&l (64*j+m)):=by
 unfold packW
 rw [wd_bit]
 simp [hm]
theorem packW_high (l:Nat->Bool) (i j m:Nat) (hm:¬ m < 64):(packW l i j).testBit m=false :=
 Nat.testBit_lt_two_pow (Nat.lt_of_lt_of_le (packW_lt l i j) (Nat.pow_le_pow_right (n:=2) (i:=64) (by decide) (by omega)))
theorem packW_zero (l:Nat->Bool) (j:Nat):packW l 0 j=0:=by
 apply Nat.eq_of_testBit_eq
 intro m
 by_cases hm:m < 64
 ·rw [packW_bit _ _ _ _ hm];simp
 ·rw [Nat.zero_testBit,packW_high _ _ _ _ hm]
theorem packW_skip (l:Nat->Bool) (i j:Nat) (h:l i=false\/j≠i / 64):packW l (i+1) j=packW l i j:=by
 apply Nat.eq_of_testBit_eq
 intro m
 by_cases hm:m < 64
 ·rw [packW_bit _ _ _ _ hm,packW_bit _ _ _ _ hm]
  by_cases e:64*j+m=i
  ·rcases h with h | h
   ·rw [e,h];simp
   ·exact absurd (by omega) h
  ·congr 1
   rw [decide_eq_decide]
   omega
 ·rw [packW_high _ _ _ _ hm,packW_high _ _ _ _ hm]
theorem packW_set (l:Nat->Bool) (i:Nat) (h:l i=true):packW l (i+1) (i / 64)=packW l i (i / 64) ||| 2 ^ (i % 64):=by
 apply Nat.eq_of_testBit_eq
 intro m
 rw [Nat.testBit_or,Nat.testBit_two_pow]
 by_cases hm:m < 64
 ·rw [packW_bit _ _ _ _ hm,packW_bit _ _ _ _ hm]
  by_cases e:i % 64=m
  ·have e2:64*(i / 64)+m=i:=by omega
   rw [e2,h]
   simp [e]
  ·have e2:64*(i / 64)+m≠i:=by omega
   simp only [e,decide_false,Bool.or_false]
   congr 1
   rw [decide_eq_decide]
   omega
 ·rw [packW_high _ _ _ _ hm,packW_high _ _ _ _ hm]
  have e:¬ i % 64=m:=by omega
  simp [e]
theorem info_u64:(Tryz.prog.info? 203).map (fun i=>(i.zero,i.size,i.bytes))=some (some (.int .u64 0),1,8):=by kernel_rfl
abbrev set2 (w:World) (G:Nat) (a0 a1:Value):World:=(w.setCell ⟨G,0,none⟩ a0).setCell ⟨G,1,none⟩ a1
theorem below_set2 {B:Nat}{w0 w:World} (h:Below B w0 w){G:Nat} (hG:B<=G) (a0 a1:Value):Below B w0 (set2 w G a0 a1):=(h.setCell hG _).setCell hG _
theorem own_set2 {w:World}{B:Nat}{e:TypeId}{v:Value}{xs:List Value} (h:Own1 w B e v xs){G:Nat} (hG:v.ownBlock≠some G) (a0 a1:Value):Own1 (set2 w G a0 a1) B e v xs:=by
 unfold Own1 at *
 exact ownsRow_setCell_other (ownsRow_setCell_other h hG _) hG _
theorem set2_block {w:World}{G:Nat}{e:TypeId}{z0 z1:Value} (h:w.heap[G]?=some (.cells #[z0,z1] e)) (a0 a1:Value):(set2 w G a0 a1).heap[G]?=some (.cells #[a0,a1] e):=by
 have h0:=heap_setCell_same _ G 0 _ e a0 h
 rw [show (#[z0,z1]:Array Value).setIfInBounds 0 a0=#[a0,z1] by simp] at h0
 have h1:=heap_setCell_same _ G 1 _ e a1 h0
 rw [show (#[a0,z1]:Array Value).setIfInBounds 1 a1=#[a0,a1] by simp] at h1
 exact h1
theorem ret_bits {fn:Func}{p:Tmp} (h:fn.results=#[.cell p 52]) (tmps:Array Value) (w:World) (G:Nat){e:TypeId}{a0 a1:Value}
  (hp:tmps.getD p undef= .pointer (some ⟨G,0,none⟩)) (hg:w.heap[G]?=some (.cells #[a0,a1] e)) :
  (results fn tmps).run Tryz.prog w= .ok (.agg #[a0,a1]) w :=
 results_cell_row h tmps w G e _ (0,0) _ hp hg Tryz.underlying52 rfl bits_size
theorem pair_of {w:World}{G:Nat}{e:TypeId}{a b:Value} (h:w.heap[G]?=some (.cells #[a,b] e)):w.cell? ⟨G,0,none⟩=some a/\w.cell? ⟨G,1,none⟩=some b/\∀ j,w.frozen? ⟨G,j,none⟩=false :=
 ⟨by rw [cell_of_row _ G 0 _ e (0,0) h];rfl,by rw [cell_of_row _ G 1 _ e (0,0) h];rfl,fun j=>frozen_of_row _ _ j _ e h⟩
def RowU (w:World) (B g T:Nat) (F:Nat->Nat):Prop:=Own1 w B 203 (.slice (some ⟨g,0,none⟩) T T) ((List.range T).map fun j => .int .u64 (F j:Nat))
theorem RowU.ow {w:World}{B g T:Nat}{F:Nat->Nat} (h:RowU w B g T F):w.ownsRow B 203 1 (.slice (some ⟨g,0,none⟩) T T) T ((List.range T).map fun j => .int .u64 (F j:Nat)):=by
 have:=h
 unfold RowU Own1 at this
 rw [List.length_map,List.length_range] at this
 exact this
theorem RowU.of_ow {w:World}{B g T:Nat}{F:Nat->Nat} (h:w.ownsRow B 203 1 (.slice (some ⟨g,0,none⟩) T T) T ((List.range T).map fun j => .int .u64 (F j:Nat))):RowU w B g T F:=by
 unfold RowU Own1
 rw [List.length_map,List.length_range]
 exact h
theorem set_map_range' {T k:Nat}{f:Nat->Value} (hk:k < T) (u:Value):((List.range T).map f).set k u=(List.range T).map fun j=>if j=k then u else f j:=by
 apply List.ext_getElem?
 intro i
 rw [List.getElem?_set]
 by_cases hi:i < T
 ·by_cases e:k=i
  ·subst e;simp [hk]
  ·have e':¬ i=k:=fun h=>e h.symm
   simp [e,e',hi]
 ·have h1:((List.range T).map f)[i]?=none:=by simp;omega
  have h2:((List.range T).map fun j=>if j=k then u else f j)[i]?=none:=by simp;omega
  rw [h2,if_neg (by omega),h1]
theorem RowU.put {w:World}{B g T:Nat}{F F':Nat->Nat} (h:RowU w B g T F){k:Nat} (hk:k < T) (z:Nat) (hF:∀ j,j < T->F' j=if j=k then z else F j):RowU (w.setCell ⟨g,k,none⟩ (.int .u64 (z:Nat))) B g T F':=by
 have h2:=(World.ownsRow.stored h.ow k (.int .u64 (z:Nat))).1
 rw [set_map_range' hk] at h2
 refine RowU.of_ow ?_
 have e:((List.range T).map fun j=>Value.int .u64 (F' j:Nat))=(List.range T).map fun j=>if j=k then .int .u64 (z:Nat) else .int .u64 (F j:Nat):=by
  apply List.map_congr_left
  intro j hj
  rw [hF j (List.mem_range.1 hj)]
  split <;> rfl
 rw [e]
 exact h2
theorem RowU.cell {w:World}{B g T:Nat}{F:Nat->Nat} (h:RowU w B g T F){k:Nat} (hk:k < T):w.cell? ⟨g,k,none⟩=some (.int .u64 (F k:Nat)):=by
 have:=World.ownsRow.cellAt h.ow k (by omega)
 rw [this]
 simp [hk]
theorem RowU.frozen {w:World}{B g T:Nat}{F:Nat->Nat} (h:RowU w B g T F) (k:Nat):w.frozen? ⟨g,k,none⟩=false:=World.ownsRow.frozenAt h.ow k
theorem RowU.low {w:World}{B g T:Nat}{F:Nat->Nat} (h:RowU w B g T F):B<=g/\g < w.heap.size:=World.ownsRow.lt h.ow g rfl
theorem RowU.same {w:World}{B g T:Nat}{F F':Nat->Nat} (h:RowU w B g T F) (e:∀ j,j < T->F' j=F j):RowU w B g T F':=by
 have e2:((List.range T).map fun j=>Value.int .u64 (F' j:Nat))=(List.range T).map fun j => .int .u64 (F j:Nat):=by
  apply List.map_congr_left
  intro j hj
  rw [e j (List.mem_range.1 hj)]
 unfold RowU
 rw [e2]
 exact h
theorem RowU.below {w w':World}{B g T:Nat}{F:Nat->Nat} (h:RowU w B g T F) (hb:Below w.heap.size w w'):RowU w' B g T F:=Own1.below h hb
theorem RowU.lower {w:World}{B B' g T:Nat}{F:Nat->Nat} (h:RowU w B g T F) (hB:B'<=B):RowU w B' g T F:=Own1.lower h hB
theorem RowU.made (w:World) (B:Nat) (hB:B<=w.heap.size) (T:Nat) (hT:T<=maxLen):RowU (w.alloc (.cells (madeCells #[.int .u64 0] T) 203)) B w.heap.size T (fun _=>0):=by
 have h:=World.ownsRow_lit (base:=B) (e:=203) (size:=1) w (madeCells #[.int .u64 0] T) T hB hT (by rw [size_madeCells];omega)
 rw [toList_madeCells_one] at h
 refine RowU.of_ow ?_
 have e:((List.range T).map fun _:Nat=>Value.int .u64 ((0:Nat):Int))=List.replicate T (.int .u64 0):=by
  rw [List.map_const',List.length_range]
  rfl
 rw [e]
 exact h
abbrev bcells:Array Value:=#[.slice none 0 0,.int .i64 0]
theorem make_false (n:Nat) (hn:n<=1048576) (w:World) :
  Calls Tryz.prog 225 #[.int .i64 (n:Int),.bool false] w fun e w'=>∃ g,e= .returned (.agg #[.slice (some ⟨g,0,none⟩) ((n+63) / 64) ((n+63) / 64),.int .i64 (n:Int)])/\RowU w' w.heap.size g ((n+63) / 64) (fun _=>0)/\Below w.heap.size w w':=by
 obtain ⟨M,hM⟩:∃ M,M=(n+63) / 64:=⟨_,rfl⟩
 have hMi:((n:Int)+63) / 64=(M:Int):=by omega
 have hmm:max (0:Int) (min (n:Int) 1048576)=(n:Int):=by omega
 have hmk:=run_make_row' (P:=Tryz.prog) 50 203 (.int .u64 0) 8 Tryz.underlying50 info_u64 rfl .i64 .i64 M (by omega) (by omega)
 rw [<- hM]
 have hMb:M<=16384:=by omega
 clear hM
 go_enter Tryz.func225,Tryz.ntmps225
 have HR:=Lib.hid ((RowU.made (w.alloc (.cells #[.slice (some ⟨w.heap.size+1,0,none⟩) M M,.int .i64 (n:Int)] 52)) w.heap.size (by simp) M (by unfold maxLen;omega)).below (bel1 _ (.cells #[.slice (some ⟨w.heap.size+1,0,none⟩) M M,.int .i64 (n:Int)] 52)))
 have hsz:(w.alloc (.cells #[.slice (some ⟨w.heap.size+1,0,none⟩) M M,.int .i64 (n:Int)] 52)).heap.size=w.heap.size+1:=by simp
 rw [hsz] at HR
 clear hsz
 have HB:=Lib.hid (bel3 w (.cells #[.slice (some ⟨w.heap.size+1,0,none⟩) M M,.int .i64 (n:Int)] 52) (.cells (madeCells #[.int .u64 0] M) 203) (.cells #[.slice (some ⟨w.heap.size+1,0,none⟩) M M,.int .i64 (n:Int)] 52))
 have HK:=Lib.hid (block_up ((bel2 (w.alloc (.cells #[.slice (some ⟨w.heap.size+1,0,none⟩) M M,.int .i64 (n:Int)] 52)) (.cells (madeCells #[.int .u64 0] M) 203) (.cells #[.slice (some ⟨w.heap.size+1,0,none⟩) M M,.int .i64 (n:Int)] 52))))
 go_wp2
 exact bodyPost_ret (ret_bits rfl _ _ _ rfl HK.out) rfl ⟨w.heap.size+1,rfl,HR.out,HB.out⟩
theorem u64_or_pow (x r:Nat) (hx:x < 18446744073709551616) (hr:r < 64):bits .or .u64 (x:Int) ((2 ^ r:Nat):Int)=((x ||| 2 ^ r:Nat):Int):=by
 refine u64_or_nat x (2 ^ r) hx ?_
 have:2 ^ r<=2 ^ 63:=Nat.pow_le_pow_right (by decide) (by omega)
 omega
theorem u64_or_pow' (x r:Nat) (hx:x < 18446744073709551616) (hr:r < 64):bits .or .u64 (x:Int) (IntKind.u64.wrap ((2:Int) ^ r))=((x ||| 2 ^ r:Nat):Int):=by
 have e:((2:Int) ^ r)=((2 ^ r:Nat):Int):=by rw [Int.natCast_pow];rfl
 have:2 ^ r<=2 ^ 63:=Nat.pow_le_pow_right (by decide) (by omega)
 rw [e,wrap_u64_nat _ (by omega),u64_or_pow x r hx hr]
theorem pack_any (b o n c:Nat) (l:Nat->Bool) (hn:n<=1048576) (hnc:n<=c) (w:World) (hc:∀ i,i < n->w.cell? ⟨b,o+i,none⟩=some (.bool (l i))) :
  Calls Tryz.prog 251 #[.slice (some ⟨b,o,none⟩) n c] w fun e w'=>∃ g,e= .returned (.agg #[.slice (some ⟨g,0,none⟩) ((n+63) / 64) ((n+63) / 64),.int .i64 (n:Int)])/\RowU w' w.heap.size g ((n+63) / 64) (packW l n)/\Below w.heap.size w w':=by
 have HM:=Lib.hid (fun W=>make_false n hn W)
 have HC:=Lib.hid hc
 have hmm:min (n:Int) 1048576=(n:Int):=by omega
 obtain ⟨M,hM⟩:∃ M,M=(n+63) / 64:=⟨_,rfl⟩
 rw [<- hM] at HM ⊢
 have HMM:=Lib.hid hM
 clear hc hM
 go_enter Tryz.func251,Tryz.ntmps251
 go_wp2_with fail
 refine (HM.out _).mono ?_
 rintro e w1 ⟨g,rfl,hr,hb1⟩
 have HB1:=Lib.hid (bel_both (bel1 w _) hb1)
 have HK1:=Lib.hid (block_up hb1)
 have HR1:=Lib.hid (hr.lower (show w.heap.size+1<=_ by simp))
 clear hb1 hr
 have HR2:=Lib.hid (HR1.out.below (bel1 w1 (.cells #[.slice (some ⟨g,0,none⟩) M M,.int .i64 (n:Int)] 52)))
 have HB2:=Lib.hid (bel_both HB1.out (bel1 w1 (.cells #[.slice (some ⟨g,0,none⟩) M M,.int .i64 (n:Int)] 52)))
 have HK2:=Lib.hid (show (w1.alloc (.cells #[.slice (some ⟨g,0,none⟩) M M,.int .i64 (n:Int)] 52)).heap[w.heap.size]?=_ from (Below.heap_alloc _ _ _ (lt_of_block HK1.out)).trans HK1.out)
 have HV2:=Lib.hid (heap_alloc_new w1 (.cells #[.slice (some ⟨g,0,none⟩) M M,.int .i64 (n:Int)] 52))
 have hg1:g < w1.heap.size:=HR1.out.low.2
 have hg0:w.heap.size < g:=HR1.out.low.1
 go_wp2_with fail
 go_loopw [16] (fun ii wr=>∃ i:Nat,i<=n/\ii= .int .i64 i/\RowU wr (w.heap.size+1) g M (packW l i)/\Below w.heap.size w wr/\wr.heap[w.heap.size]?=some (.cells bcells 52)/\wr.heap[w1.heap.size]?=some (.cells #[.slice (some ⟨g,0,none⟩) M M,.int .i64 (n:Int)] 52)) (fun ii _=>n - (intOf ii).toNat)
 case atStart=>exact ⟨0,Nat.zero_le _,rfl,HR2.out.same (fun j _=>packW_zero l j),HB2.out,HK2.out,HV2.out⟩
 case round =>
  clear HM HR1 HR2 HB2 HK2 HV2 HK1 HB1
  obtain ⟨i,hi,rfl,hrow,hbl,hk,hv⟩:=hrel
  have HROW:=Lib.hid hrow
  have HBL:=Lib.hid hbl
  have HK:=Lib.hid hk
  have HV:=Lib.hid hv
  clear hrow hbl hk hv
  by_cases hlt:i < n
  ·have hcell:wr.cell? ⟨b,o+i,none⟩=some (.bool (l i)):=by rw [HBL.out.cell (cell_lt (HC.out i hlt))];exact HC.out i hlt
   by_cases hli:l i=true
   ·rw [hli] at hcell
    obtain ⟨k,hk⟩:∃ k,k=i / 64:=⟨_,rfl⟩
    have hkM:k < M:=by rw [hk,HMM.out];omega
    have hki:(i:Int) / 64=(k:Int):=by omega
    have hcw:=HROW.out.cell hkM
    have hfw:=HROW.out.frozen k
    obtain ⟨hv0,hv1,hvf⟩:=pair_of HV.out
    have h63:=and63 i (by omega)
    obtain ⟨r,hr⟩:∃ r,r=i % 64:=⟨_,rfl⟩
    have hr64:r < 64:=by omega
    rw [<- hr] at h63
    have hpw:=packW_set l i hli
    rw [<- hk,<- hr] at hpw
    have HPUT:=Lib.hid (HROW.out.put hkM (packW l i k ||| 2 ^ r) (F':=packW l (i+1)) (fun j _=>by
     by_cases e:j=k
     ·rw [if_pos e,e];exact hpw
     ·rw [if_neg e];exact packW_skip l i j (.inr (by rw [<- hk];exact e))))
    have hxlt:=packW_lt l i k
    clear hpw hr hk
    generalize packW l i k=x at *
    have HOR:=Lib.hid (u64_or_pow' x r hxlt hr64)
    have HB3:=Lib.hid (HBL.out.setCell (p:=⟨g,k,none⟩) (by show _<=g;omega) (.int .u64 ((x ||| 2 ^ r:Nat):Int)))
    have HK3:=Lib.hid ((Below.heap_setCell wr ⟨g,k,none⟩ (.int .u64 ((x ||| 2 ^ r:Nat):Int)) w.heap.size (by show _≠g;omega)).trans HK.out)
    have HV3:=Lib.hid ((Below.heap_setCell wr ⟨g,k,none⟩ (.int .u64 ((x ||| 2 ^ r:Nat):Int)) w1.heap.size (by show _≠g;omega)).trans HV.out)
    go_wp2
    rw [HOR.out]
    exact ⟨⟨i+1,by omega,by go_num,HPUT.out,HB3.out,HK3.out,HV3.out⟩,by simp [intOf];omega⟩
   ·have hlf:l i=false:=by simpa using hli
    rw [hlf] at hcell
    have HS:=Lib.hid (HROW.out.same (F':=packW l (i+1)) (fun j _=>packW_skip l i j (.inl hlf)))
    go_wp2
    go_roundw
    case rel=>exact ⟨i+1,by omega,by go_num,HS.out,HBL.out,HK.out,HV.out⟩
    case measure=>simp [intOf];omega
  ·obtain rfl:i=n:=by omega
   obtain ⟨hv0,hv1,hvf⟩:=pair_of HV.out
   obtain ⟨hk0,hk1,hkf⟩:=pair_of HK.out
   go_wp2
   refine bodyPost_ret (ret_bits rfl _ _ _ rfl (set2_block HK.out _ _)) rfl ⟨g,rfl,?_,below_set2 HBL.out (Nat.le_refl _) _ _⟩
   exact own_set2 (HROW.out.lower (Nat.le_succ _)) (by show some g≠_;intro e;injection e;omega) _ _
def BitsIn (W:World) (v:Value) (n:Nat) (l:Nat->Bool):Prop :=
 ∃ b o c,v= .agg #[.slice (some ⟨b,o,none⟩) ((n+63) / 64) c,.int .i64 (n:Int)]/\∀ j,j < (n+63) / 64->W.cell? ⟨b,o+j,none⟩=some (.int .u64 (packW l n j:Nat))
theorem BitsIn.below {w w':World}{v:Value}{n:Nat}{l:Nat->Bool} (h:BitsIn w v n l) (hb:Below w.heap.size w w'):BitsIn w' v n l:=by
 obtain ⟨b,o,c,e,hc⟩:=h
 exact ⟨b,o,c,e,fun j hj=>by rw [hb.cell (cell_lt (hc j hj))];exact hc j hj⟩
def trimF (n M:Nat) (X:Nat->Nat) (j:Nat):Nat:=if n % 64≠0/\j+1=M then X j &&& (2 ^ (n % 64) - 1) else X j
theorem trimF_pack (n M:Nat) (X:Nat->Nat) (l:Nat->Bool) (hM:M=(n+63) / 64) (hX:∀ j,j < M->X j < 18446744073709551616) (h:∀ j,j < M->∀ m,m < 64->64*j+m < n->(X j).testBit m=l (64*j+m)):∀ j,j < M->trimF n M X j=packW l n j:=by
 intro j hj
 apply Nat.eq_of_testBit_eq
 intro m
 by_cases hm:m < 64
 ·rw [packW_bit _ _ _ _ hm]
  unfold trimF
  split
  ·rename_i hc
   rw [Nat.testBit_and,Nat.testBit_two_pow_sub_one]
   by_cases hin:64*j+m < n
   ·have h2:m < n % 64:=by omega
    rw [h j hj m hm hin];simp [hin,h2]
   ·have h2:¬ m < n % 64:=by omega
    simp [hin,h2]
  ·rename_i hc
   have hin:64*j+m < n:=by omega
   rw [h j hj m hm hin];simp [hin]
 ·rw [packW_high _ _ _ _ hm]
  refine Nat.testBit_lt_two_pow (Nat.lt_of_lt_of_le (m:=2 ^ 64) ?_ (Nat.pow_le_pow_right (by decide) (by omega)))
  unfold trimF
  split
  ·exact Nat.lt_of_le_of_lt Nat.and_le_left (hX j hj)
  ·exact hX j hj
theorem trim_any (B g n M:Nat) (X:Nat->Nat) (w:World) (hn:n<=1048576) (hM:M=(n+63) / 64) (hr:RowU w B g M X) (hX:∀ j,j < M->X j < 18446744073709551616) :
  Calls Tryz.prog 226 #[.agg #[.slice (some ⟨g,0,none⟩) M M,.int .i64 (n:Int)]] w fun e w'=>e= .returned (.tuple #[])/\RowU w' B g M (trimF n M X)/\Below B w w'/\∀ k,k < w.heap.size->k≠g->w'.heap[k]?=w.heap[k]?:=by
 have hlow:=hr.low
 have h63:=and63 n (by omega)
 have HR:=Lib.hid (hr.below (bel1 w (.cells #[.slice (some ⟨g,0,none⟩) M M,.int .i64 (n:Int)] 52)))
 have HB:=Lib.hid ((Below.refl B w).alloc (by omega) (.cells #[.slice (some ⟨g,0,none⟩) M M,.int .i64 (n:Int)] 52))
 by_cases h0:n % 64=0
 ·rw [h0] at h63
  have HS:=Lib.hid (HR.out.same (F':=trimF n M X) (fun j _=>by unfold trimF;rw [if_neg (by simp [h0])]))
  clear hr hX hM
  go_enter Tryz.func226,Tryz.ntmps226
  go_wp2
  go_end0
  exact ⟨rfl,HS.out,HB.out,fun k hk _=>Below.heap_alloc _ _ _ hk⟩
 ·obtain ⟨k,hk⟩:∃ k,M=k+1:=⟨M - 1,by omega⟩
  obtain ⟨r,er⟩:∃ r,r=n % 64:=⟨_,rfl⟩
  obtain ⟨p,ep⟩:∃ p,p=2 ^ r - 1:=⟨_,rfl⟩
  have hp2:2 ^ r<=2 ^ 63:=Nat.pow_le_pow_right (by decide) (by omega)
  have hp1:1<=2 ^ r:=Nat.one_le_two_pow
  have hpp:p+1<=9223372036854775808:=by omega
  have hpw:IntKind.u64.wrap ((2:Int) ^ r)=((p+1:Nat):Int):=by
   have e:((2:Int) ^ r)=((2 ^ r:Nat):Int):=by rw [Int.natCast_pow];rfl
   rw [e,wrap_u64_nat _ (by omega)]
   omega
  have hxk:=hX k (by omega)
  have hand:=u64_and_nat (X k) p hxk (by omega)
  have hPUT0:=hr.put (k:=k) (by omega) (X k &&& p) (F':=trimF n M X) (fun j _=>by
   unfold trimF
   by_cases e:j=k
   ·rw [if_pos ⟨h0,by omega⟩,if_pos e,e,ep,er]
   ·rw [if_neg (by omega),if_neg e])
  have hPUT:=hPUT0.below (bel1 _ (.cells #[.slice (some ⟨g,0,none⟩) M M,.int .i64 (n:Int)] 52))
  have HBP:=Lib.hid (((Below.refl B w).setCell (p:=⟨g,k,none⟩) hlow.1 (.int .u64 ((X k &&& p:Nat):Int))).alloc (Nat.le_trans (by omega:B<=w.heap.size) ((Below.refl B w).setCell (p:=⟨g,k,none⟩) hlow.1 (.int .u64 ((X k &&& p:Nat):Int))).size) (.cells #[.slice (some ⟨g,0,none⟩) M M,.int .i64 (n:Int)] 52))
  have hck:=HR.out.cell (k:=k) (by omega)
  have hfk:=HR.out.frozen k
  have HPUT:=Lib.hid hPUT
  have HSZ:Hid (∀ _:Nat,w.heap.size<=(w.setCell ⟨g,k,none⟩ (.int .u64 ((X k &&& p:Nat):Int))).heap.size):=fun _=>((Below.refl B w).setCell (p:=⟨g,k,none⟩) hlow.1 _).size
  rw [<- er] at h63
  have hr64:r < 64:=by omega
  have hr0:r≠0:=by omega
  have hMi:(M:Int) - 1=(k:Int):=by omega
  have hkM:k < M:=by omega
  have hMb:M<=16384:=by omega
  generalize trimF n M X=TX at *
  generalize X k=x at *
  generalize x &&& p=y at *
  clear hr hX hPUT hPUT0 ep er hp2 hp1 h0 hk hM
  go_enter Tryz.func226,Tryz.ntmps226
  go_wp2
  go_end0
  exact ⟨rfl,HPUT.out,HBP.out,fun k' hk' hne=>(Below.heap_alloc _ _ _ (Nat.lt_of_lt_of_le hk' (HSZ.out k'))).trans (Below.heap_setCell _ _ _ _ hne)⟩
end Go.Proofs.YtbakjaliponbbaaGreatDoor
