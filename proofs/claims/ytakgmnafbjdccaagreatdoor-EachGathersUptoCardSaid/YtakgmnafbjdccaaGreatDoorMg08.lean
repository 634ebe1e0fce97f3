/- The walks of bitvec's First, of logic's Any and All. The walks of logic's Any and All over packed truths, of Count. The walks of bitvec's Ones and of .. Conditions: as each theorem says. -/
import Derived.Test.YtakgmnafbjdccaaGreatDoorMg07
import Derived.Test.YtakgmnafbjdccaaGreatDoorMg04
import Derived.Lib.TrailingZeros
import Derived.Test.YtakgmnafbjdccaaGreatDoorMg06
set_option maxRecDepth 100000
set_option maxHeartbeats 2000000
namespace Go.Proofs.YtakgmnafbjdccaaGreatDoor
open Go Go.RowKit Go.Proofs Fl
theorem tz_core (u p i:Nat) (z:Int) (h0:((u:Int)==0)=false) (w:World)
  (hf:bits .and .u64 (u:Int) (IntKind.u64.wrap (-(u:Int)))=(p:Int)) (hi:IntKind.u64.wrap ((p:Int)*285870213051353865) / 288230376151711744=(i:Int)) (h64:i < 64)
  (hc:w.cell? ⟨1,i,none⟩=some (.int .u8 z)) (hz:0<=z) (hz2:z < 64) :
  Calls Tryz.prog 284 #[.int .u64 u] w fun x w'=>x= .returned (.int .i64 z)/\w=w':=by
 go_enter Tryz.func284,Tryz.ntmps284
 go_wp2
 go_ret
 exact ⟨rfl,rfl⟩
def TzTab (w:World):Prop:=∀ i,i < 64->w.cell? ⟨1,i,none⟩=some (.int .u8 ((Lib.deBruijn64tab.getD i 0:Nat):Int))
theorem TzTab.below {w w':World} (h:TzTab w) (hb:Below w.heap.size w w'):TzTab w':=fun i hi=>by rw [hb.cell (cell_lt (h i hi))];exact h i hi
theorem cast3 (p a b c:Nat):((p:Int)*(a:Int)) % (b:Int) / (c:Int)=((p*a % b / c:Nat):Int):=by
 rw [Int.natCast_ediv,Int.natCast_emod,Int.natCast_mul]
theorem tz_any (k m:Nat) (h:2^k*(2*m+1) < 18446744073709551616) (w:World) (ht:TzTab w) :
  Calls Tryz.prog 284 #[.int .u64 ((2^k*(2*m+1):Nat):Int)] w fun x w'=>x= .returned (.int .i64 k)/\w=w':=by
 have hk:k < 64:=by
  have h1:2^k<=2^k*(2*m+1):=Nat.le_mul_of_pos_right _ (by omega)
  have h2:2^k < 2^64:=by omega
  exact (Nat.pow_lt_pow_iff_right (by omega)).1 h2
 have hn:=Lib.and_neg 64 k m (by omega)
 have hp:0 < 2^k*(2*m+1):=Nat.mul_pos (Nat.two_pow_pos k) (by omega)
 obtain ⟨d1,d2⟩:=Lib.deBruijn64_at k hk
 have hp64:2^k < 2^64:=Nat.pow_lt_pow_right (by omega) hk
 generalize 2^k*(2*m+1)=u at *
 generalize 2^k=p at *
 refine tz_core u p (p*285870213051353865 % 18446744073709551616 / 288230376151711744) k (beq_eq_false_iff_ne.2 (by omega)) w ?_ ?_ d1 ?_ (by omega) (by omega)
 ·rw [IntKind.wrap_u64]
  have e:(-(u:Int)) % 18446744073709551616=((2^64 - u:Nat):Int):=by omega
  rw [e,u64_and_nat u (2^64 - u) h (by omega),hn]
 ·rw [IntKind.wrap_u64];exact cast3 p _ _ _
 ·rw [ht _ d1,d2]
theorem low_bit (x:Nat) (h0:x≠0) (hx:x < 18446744073709551616):∃ k m,x=2 ^ k*(2*m+1)/\k < 64/\x.testBit k=true/\∀ j,j < k->x.testBit j=false:=by
 obtain ⟨m,e,hk⟩:=Lib.ctzFrom_spec 64 x (by omega) (by omega)
 refine ⟨Lib.ctzFrom 64 x,m,e,hk,?_,fun j hj=>?_⟩
 ·have:x.testBit (Lib.ctzFrom 64 x)=(2 ^ (Lib.ctzFrom 64 x)*(2*m+1)).testBit (Lib.ctzFrom 64 x):=by rw [<- e]
  rw [this,Nat.mul_comm,Nat.testBit_mul_two_pow]
  simp
 ·have:x.testBit j=(2 ^ (Lib.ctzFrom 64 x)*(2*m+1)).testBit j:=by rw [<- e]
  rw [this,Nat.mul_comm,Nat.testBit_mul_two_pow]
  have:¬ Lib.ctzFrom 64 x<=j:=by omega
  simp [this]
theorem tz_walk (x:Nat) (h0:x≠0) (hx:x < 18446744073709551616):∃ k,k < 64/\x.testBit k=true/\(∀ j,j < k->x.testBit j=false)/\∀ w,TzTab w->Calls Tryz.prog 284 #[.int .u64 (x:Int)] w fun e w'=>e= .returned (.int .i64 k)/\w=w':=by
 obtain ⟨k,m,e,hk,h1,h2⟩:=low_bit x h0 hx
 refine ⟨k,hk,h1,h2,fun w ht=>?_⟩
 have:=tz_any k m (by rw [<- e];exact hx) w ht
 rw [<- e] at this
 exact this
def FirstIs (l:Nat->Bool) (n z:Nat):Prop:=z<=n/\(z < n->l z=true)/\∀ j,j < z->l j=false
theorem packW_none {l:Nat->Bool}{n i:Nat} (h:packW l n i=0) (j:Nat) (h1:64*i<=j) (h2:j < 64*(i+1)) (h3:j < n):l j=false:=by
 have:=packW_bit l n i (j - 64*i) (by omega)
 rw [h,Nat.zero_testBit,show 64*i+(j - 64*i)=j by omega] at this
 simpa [h3] using this.symm
theorem first_any (v:Value) (n:Nat) (l:Nat->Bool) (w:World) (hn:n<=1048576) (hb:BitsIn w v n l) (ht:TzTab w) :
  Calls Tryz.prog 272 #[v] w fun e w'=>∃ z:Nat,e= .returned (.int .i64 z)/\FirstIs l n z/\Below w.heap.size w w':=by
 obtain ⟨b,o,c,rfl,hc⟩:=hb
 obtain ⟨M,hM⟩:∃ M,M=(n+63) / 64:=⟨_,rfl⟩
 rw [<- hM] at hc ⊢
 have HC:=Lib.hid hc
 have HM:=Lib.hid hM
 have HT:=Lib.hid ht
 have hMb:M<=16384:=by omega
 have HB0:=Lib.hid (bel1 w (.cells #[.slice (some ⟨b,o,none⟩) M c,.int .i64 (n:Int)] 31))
 have HK0:=Lib.hid (heap_alloc_new w (.cells #[.slice (some ⟨b,o,none⟩) M c,.int .i64 (n:Int)] 31))
 clear hc hM ht
 go_enter Tryz.func272,Tryz.ntmps272
 go_wp2_with fail
 go_loopw [8] (fun ii wr=>∃ i:Nat,i<=M/\ii= .int .i64 i/\(∀ j,j < i->packW l n j=0)/\Below w.heap.size w wr/\wr.heap[w.heap.size]?=some (.cells #[.slice (some ⟨b,o,none⟩) M c,.int .i64 (n:Int)] 31)) (fun ii _=>M - (intOf ii).toNat)
 case atStart=>exact ⟨0,Nat.zero_le _,rfl,fun j hj=>absurd hj (Nat.not_lt_zero _),HB0.out,HK0.out⟩
 case round =>
  clear HB0 HK0
  obtain ⟨i,hi,rfl,hz,hbl,hk⟩:=hrel
  have HBL:=Lib.hid hbl
  have HZ:=Lib.hid hz
  have HK:=Lib.hid hk
  clear hbl hz hk
  by_cases hlt:i < M
  ·have hcell:wr.cell? ⟨b,o+i,none⟩=some (.int .u64 (packW l n i:Nat)):=by rw [HBL.out.cell (cell_lt (HC.out i hlt))];exact HC.out i hlt
   by_cases h0:packW l n i=0
   ·rw [h0] at hcell
    have HZ2:Hid (∀ j,j < i+1->packW l n j=0):=fun j hj=>by
     by_cases e:j=i
     ·rw [e];exact h0
     ·exact HZ.out j (by omega)
    clear h0
    go_wp2
    go_roundw
    case rel=>exact ⟨i+1,by omega,by go_num,HZ2.out,HBL.out,HK.out⟩
    case measure=>simp [intOf];omega
   ·obtain ⟨k,hk64,hbit,hlow,htz⟩:=tz_walk (packW l n i) h0 (packW_lt l n i)
    have HTZ:=Lib.hid (htz wr (HT.out.below HBL.out))
    have hin:64*i+k < n/\l (64*i+k)=true:=by
     rw [packW_bit l n i k hk64] at hbit
     simpa using hbit
    have HRES:Hid (FirstIs l n (i*64+k)):=by
     refine ⟨by omega,fun _=>by rw [show i*64+k=64*i+k by omega];exact hin.2,fun j hj=>?_⟩
     by_cases h1:j / 64 < i
     ·exact packW_none (HZ.out (j / 64) h1) j (by omega) (by omega) (by omega)
     ·have h2:=hlow (j - 64*i) (by omega)
      rw [packW_bit l n i (j - 64*i) (by omega),show 64*i+(j - 64*i)=j by omega] at h2
      have h3:j < n:=by omega
      simpa [h3] using h2
    have hne:((packW l n i:Nat):Int)≠0:=by omega
    have hxl:=packW_lt l n i
    clear h0 hbit hlow htz hin
    generalize packW l n i=x at *
    go_wp2_with fail
    refine HTZ.out.mono ?_
    rintro e w3 ⟨rfl,rfl⟩
    go_wp2
    go_ret
    exact ⟨i*64+k,by push_cast;rfl,HRES.out,HBL.out⟩
  ·obtain rfl:i=M:=by omega
   obtain ⟨hk0,hk1,hkf⟩:=pair_of HK.out
   go_wp2
   go_ret
   exact ⟨n,rfl,⟨Nat.le_refl _,fun h=>absurd h (Nat.lt_irrefl _),fun j hj=>packW_none (HZ.out (j / 64) (by have:=HM.out;omega)) j (by omega) (by omega) hj⟩,HBL.out⟩
theorem count_any (v:Value) (n:Nat) (l:Nat->Bool) (w:World) (hn:n<=1048576) (hb:BitsIn w v n l) :
  Calls Tryz.prog 111 #[v] w fun e w'=>e= .returned (.int .i64 (cnt l n:Nat))/\Below w.heap.size w w':=by
 obtain ⟨b,o,c,rfl,hc⟩:=hb
 have h:=count_words b o ((n+63) / 64) c n (packW l n) w (by omega) hc (fun j _=>packW_lt l n j)
 rw [cntW_bits] at h
 exact h
theorem blen_in (v:Value) (n:Nat) (l:Nat->Bool) (w:World) (hb:BitsIn w v n l) :
  Calls Tryz.prog 131 #[v] w fun e w'=>e= .returned (.int .i64 n)/\Below w.heap.size w w':=by
 obtain ⟨b,o,c,rfl,hc⟩:=hb
 exact blen_any _ _ w
theorem cnt_zero (l:Nat->Bool) (n:Nat):cnt l n=0↔∀ j,j < n->l j=false:=by
 induction n with
 | zero=>exact ⟨fun _ j hj=>absurd hj (Nat.not_lt_zero _),fun _=>rfl⟩
 | succ n ih =>
  unfold cnt
  constructor
  ·intro h j hj
   by_cases e:j=n
   ·subst e
    cases hl:l j with
    | false=>rfl
    | true=>rw [hl] at h;simp at h
   ·exact ih.1 (by omega) j (by omega)
  ·intro h
   rw [ih.2 fun j hj=>h j (by omega),h n (by omega)];rfl
theorem first_cnt {l:Nat->Bool}{n z:Nat} (h:FirstIs l n z):decide ((z:Int) < (n:Int))=decide (cnt l n≠0):=by
 rw [decide_eq_decide]
 constructor
 ·intro h1 h2
  have h3:z < n:=by omega
  have:=(cnt_zero l n).1 h2 z h3
  rw [h.2.1 h3] at this
  cases this
 ·intro h1
  apply Classical.byContradiction
  intro h2
  have h3:z=n:=by have:=h.1;omega
  exact h1 ((cnt_zero l n).2 fun j hj=>h.2.2 j (by omega))
theorem lall_any (v:Value) (n:Nat) (l:Nat->Bool) (w:World) (hn:n<=1048576) (hb:BitsIn w v n l) :
  Calls Tryz.prog 244 #[v] w fun e w'=>e= .returned (.bool (decide (cnt l n=n)))/\Below w.heap.size w w':=by
 have HC:=Lib.hid (fun W (hw:Below w.heap.size w W)=>count_any v n l W hn (hb.below hw))
 have HL:=Lib.hid (fun W (hw:Below w.heap.size w W)=>blen_in v n l W (hb.below hw))
 obtain ⟨b,o,c,rfl,_⟩:=hb
 have HE:Hid ((((cnt l n:Nat):Int)==(n:Int))=decide (cnt l n=n)):=by
  show _=_
  rw [Bool.eq_iff_iff,beq_iff_eq,decide_eq_true_eq]
  omega
 go_enter Tryz.func244,Tryz.ntmps244
 go_wp2_with fail
 go_region_with (first
  | (go_at_call 111;(refine (HC.out _ ?_).mono ?_);(first | exact (bel1 w _).drew | (refine bel_both (bel1 w _).drew ?_;assumption));rintro e w1 ⟨rfl,hb1⟩;obtain ⟨hc1,hf1⟩:=bcell2 hb1;have hz1:=hb1.size)
  | (go_at_call 131;go_loud ((refine (HL.out _ ?_).mono ?_);(first | exact (bel1 w _).drew | exact bel_both (bel1 w _).drew hb1);rintro e w2 ⟨rfl,hb2⟩);obtain ⟨hc2,hf2⟩:=bcell2 hb2;have hz2:=hb2.size))
 all_goals
  go_wp2
  go_ret
  exact ⟨by rw [<- HE.out];rfl,bel_both (bel_both (bel1 w _).drew hb1) hb2⟩
theorem lany_any (v:Value) (n:Nat) (l:Nat->Bool) (w:World) (hn:n<=1048576) (hb:BitsIn w v n l) (ht:TzTab w) :
  Calls Tryz.prog 243 #[v] w fun e w'=>e= .returned (.bool (decide (cnt l n≠0)))/\Below w.heap.size w w':=by
 have HC:=Lib.hid (fun W (hw:Below w.heap.size w W)=>first_any v n l W hn (hb.below hw) (ht.below hw))
 have HL:=Lib.hid (fun W (hw:Below w.heap.size w W)=>blen_in v n l W (hb.below hw))
 obtain ⟨b,o,c,rfl,_⟩:=hb
 go_enter Tryz.func243,Tryz.ntmps243
 go_wp2_with fail
 go_region_with (first
  | (go_at_call 272;go_loud ((refine (HC.out _ ?_).mono ?_);exact (bel1 w _).drew;rintro e w1 ⟨z,rfl,hz,hb1⟩;have HZ:=Lib.hid hz;clear hz);obtain ⟨hc1,hf1⟩:=bcell2 hb1;have hz1:=hb1.size)
  | (go_at_call 131;go_loud ((refine (HL.out _ ?_).mono ?_);exact bel_both (bel1 w _).drew hb1;rintro e w2 ⟨rfl,hb2⟩);obtain ⟨hc2,hf2⟩:=bcell2 hb2;have hz2:=hb2.size))
 all_goals
  have HE:=Lib.hid (first_cnt HZ.out)
  have HE2:Hid (decide (z < n)=decide (cnt l n≠0)):=by have h:=HE.out;rw [<- h];show _=_;rw [decide_eq_decide];omega
  go_wp2
  go_ret
  exact ⟨by first | (rw [<- HE.out];rfl) | (rw [<- HE2.out];rfl),bel_both (bel_both (bel1 w _).drew hb1) hb2⟩
theorem clear_low (k m:Nat):(2 ^ k*(2*m+1)) &&& (2 ^ k*(2*m+1) - 1)=2 ^ (k+1)*m:=by
 have hp:0 < 2 ^ k:=Nat.two_pow_pos k
 have e1:2 ^ k*(2*m+1)=2 ^ (k+1)*m+2 ^ k:=by rw [Nat.mul_add,Nat.mul_one,<- Nat.mul_assoc,Nat.pow_succ]
 have e2:2 ^ k*(2*m+1) - 1=2 ^ (k+1)*m+(2 ^ k - 1):=by omega
 have hk1:2 ^ k < 2 ^ (k+1):=Nat.pow_lt_pow_right (by decide) (by omega)
 apply Nat.eq_of_testBit_eq
 intro j
 have e3:(2 ^ (k+1)*m).testBit j=(2 ^ (k+1)*m+0).testBit j:=rfl
 rw [Nat.testBit_and,e2,e1,e3,Nat.testBit_two_pow_mul_add m hk1,Nat.testBit_two_pow_mul_add m (by omega),Nat.testBit_two_pow_mul_add m (by omega)]
 by_cases h:j < k+1
 ·rw [if_pos h,if_pos h,if_pos h,Nat.testBit_two_pow,Nat.testBit_two_pow_sub_one,Nat.zero_testBit]
  by_cases h2:k=j
  ·have:¬ j < k:=by omega
   simp [this]
  ·simp [h2]
 ·rw [if_neg h,if_neg h,if_neg h,Bool.and_self]
theorem low_step (x:Nat) (h0:x≠0) (hx:x < 18446744073709551616):∃ k,k < 64/\x.testBit k=true/\(∀ j,j < k->x.testBit j=false)/\(∀ j,(x &&& (x - 1)).testBit j=(decide (k < j)&&x.testBit j)) /\
  ∀ w,TzTab w->Calls Tryz.prog 284 #[.int .u64 (x:Int)] w fun e w'=>e= .returned (.int .i64 k)/\w=w':=by
 obtain ⟨k,m,e,hk,h1,h2⟩:=low_bit x h0 hx
 refine ⟨k,hk,h1,h2,fun j=>?_,fun w ht=>?_⟩
 ·have hc:=clear_low k m
  rw [<- e] at hc
  rw [hc]
  have e1:x=2 ^ (k+1)*m+2 ^ k:=by rw [e,Nat.mul_add,Nat.mul_one,<- Nat.mul_assoc,Nat.pow_succ]
  have hk1:2 ^ k < 2 ^ (k+1):=Nat.pow_lt_pow_right (by decide) (by omega)
  have hb:x.testBit j=if j < k+1 then (2 ^ k).testBit j else m.testBit (j - (k+1)):=by
   have:=Nat.testBit_two_pow_mul_add m hk1 j
   rw [<- e1] at this
   exact this
  have hb0:=Nat.testBit_two_pow_mul_add m (show 0 < 2 ^ (k+1) by exact Nat.two_pow_pos _) j
  rw [Nat.add_zero] at hb0
  rw [hb0,hb]
  by_cases h:j < k+1
  ·have:¬ k < j:=by omega
   simp [h,this]
  ·have:k < j:=by omega
   simp [h,this]
 ·have:=tz_any k m (by rw [<- e];exact hx) w ht
  rw [<- e] at this
  exact this
def onesL (f:Nat->Bool) (p:Nat):List Nat:=(List.range p).filter f
theorem onesL_succ (f:Nat->Bool) (p:Nat):onesL f (p+1)=if f p then onesL f p++[p] else onesL f p:=by
 unfold onesL
 rw [List.range_succ,List.filter_append]
 by_cases h:f p=true
 ·simp [h]
 ·simp [h]
theorem onesL_skip (f:Nat->Bool) (p d:Nat) (h:∀ j,p<=j->j < p+d->f j=false):onesL f (p+d)=onesL f p:=by
 induction d with
 | zero=>rfl
 | succ d ih =>
  rw [show p+(d+1)=(p+d)+1 by omega,onesL_succ,h (p+d) (by omega) (by omega),ih fun j h1 h2=>h j h1 (by omega)]
  rfl
theorem onesL_next (f:Nat->Bool) (p q:Nat) (hpq:p<=q) (h:∀ j,p<=j->j < q->f j=false) (hq:f q=true):onesL f (q+1)=onesL f p++[q]:=by
 rw [onesL_succ,hq]
 have:=onesL_skip f p (q - p) fun j h1 h2=>h j h1 (by omega)
 rw [show p+(q - p)=q by omega] at this
 rw [this];rfl
theorem onesL_len (f:Nat->Bool) (p:Nat):(onesL f p).length<=p:=by
 have:=List.length_filter_le f (List.range p)
 rw [List.length_range] at this
 exact this
def onesV (f:Nat->Bool) (p:Nat):List Value:=(onesL f p).map fun j => .int .i64 (j:Nat)
theorem onesV_len (f:Nat->Bool) (p:Nat):(onesV f p).length<=p:=by unfold onesV;rw [List.length_map];exact onesL_len f p
def cutB (l:Nat->Bool) (n:Nat):Nat->Bool:=fun i=>decide (i < n)&&l i
theorem info_int:(Tryz.prog.info? 3).map (fun i=>(i.zero,i.size,i.bytes))=some (some (.int .i64 0),1,8):=by kernel_rfl
theorem make_capI (n:Nat) (hn:n<=2000000) (w:World):(Instr.makeSlice 22 (.int .i64 0) (.int .i64 (n:Int))).run Tryz.prog w= .ok (.slice (some ⟨w.heap.size,0,none⟩) 0 n) (w.alloc (.cells (madeCells #[.int .i64 0] n) 3)):=by
 obtain ⟨i,hi,hz,hs,hb⟩:=info_parts info_int
 have hr:=run_make (P:=Tryz.prog) w 22 3 i (.int .i64 0) Tryz.underlying22 hi hz .i64 .i64 0 (n:Int) (by omega) (by omega) (by rw [hb];omega) (by omega)
 simp only [Int.toNat_natCast,hs,Nat.mul_one] at hr
 exact hr
theorem bones_any (v:Value) (n:Nat) (l:Nat->Bool) (w:World) (hn:n<=1048576) (hb:BitsIn w v n l) (ht:TzTab w) :
  Calls Tryz.prog 273 #[v] w fun e w'=>∃ a m c,e= .returned (.slice a m c)/\Own1 w' w.heap.size 3 (.slice a m c) (onesV (cutB l n) (64*((n+63) / 64)))/\Below w.heap.size w w':=by
 have HCN:=Lib.hid (fun W (hw:Below w.heap.size w W)=>count_any v n l W hn (hb.below hw))
 obtain ⟨b,o,c,rfl,hc⟩:=hb
 obtain ⟨M,hM⟩:∃ M,M=(n+63) / 64:=⟨_,rfl⟩
 rw [<- hM] at hc HCN ⊢
 have HC:=Lib.hid hc
 have HM:=Lib.hid hM
 have HT:=Lib.hid ht
 have hMb:M<=16384:=by omega
 have HB0:=Lib.hid (bel1 w (.cells #[.slice (some ⟨b,o,none⟩) M c,.int .i64 (n:Int)] 31))
 have hmk:=make_capI (cnt l n) (by have:=cnt_le l n;omega)
 have hKb:cnt l n<=1048576:=by have:=cnt_le l n;omega
 generalize cnt l n=K at *
 clear hc hM ht
 go_enter Tryz.func273,Tryz.ntmps273
 go_wp2_with fail
 refine (HCN.out _ (bel1 w _)).mono ?_
 rintro e w1 ⟨rfl,hb1⟩
 have HB1:=Lib.hid (bel_both HB0.out hb1)
 have hk1:=block_up hb1
 clear hb1
 have HO0:Hid (Own1 (w1.alloc (.cells (madeCells #[.int .i64 0] K) 3)) w.heap.size 3 (.slice (some ⟨w1.heap.size,0,none⟩) 0 K) (onesV (cutB l n) (64*0))) :=
  World.ownsRow_made (base:=w.heap.size) (e:=3) (size:=1) w1 (madeCells #[.int .i64 0] K) K HB1.out.size (by unfold maxLen;omega) (by rw [size_madeCells];omega)
 have HBM:=Lib.hid (bel_both HB1.out (bel1 w1 (.cells (madeCells #[.int .i64 0] K) 3)))
 obtain ⟨hk0,hkx,_⟩:=pair_of hk1
 have hlt1:w.heap.size < w1.heap.size:=lt_of_block hk1
 clear hk1
 go_wp2_with fail
 go_loopw [3,12] (fun vv ii wr=>∃ i:Nat,i<=M/\ii= .int .i64 i/\Own1 wr w.heap.size 3 vv (onesV (cutB l n) (64*i))/\Below w.heap.size w wr) (fun _ ii _=>M - (intOf ii).toNat)
 case atStart=>exact ⟨0,Nat.zero_le _,rfl,HO0.out,HBM.out⟩
 case round =>
  clear HO0 HBM HB0 HB1 hk0 hkx hmk
  obtain ⟨i,hi,rfl,hown,hbl⟩:=hrel
  have HOWN:=Lib.hid hown
  have HBL:=Lib.hid hbl
  clear hown hbl
  by_cases hlt:i < M
  ·have hcell:wr.cell? ⟨b,o+i,none⟩=some (.int .u64 (packW l n i:Nat)):=by rw [HBL.out.cell (cell_lt (HC.out i hlt))];exact HC.out i hlt
   have HX0:Hid (packW l n i < 18446744073709551616/\∀ j,j < 64->(packW l n i).testBit j=(decide (64*i<=64*i+j)&&cutB l n (64*i+j))):=⟨packW_lt l n i,fun j hj=>by rw [packW_bit l n i j hj];unfold cutB;simp⟩
   generalize packW l n i=x0 at *
   go_wp2_with fail
   go_loopw [3,5] (fun vv xx wr=>∃ p x:Nat,64*i<=p/\p<=64*(i+1)/\xx= .int .u64 (x:Nat)/\x < 18446744073709551616/\(∀ j,j < 64->x.testBit j=(decide (p<=64*i+j)&&cutB l n (64*i+j)))/\Own1 wr w.heap.size 3 vv (onesV (cutB l n) p)/\Below w.heap.size w wr) (fun _ xx _=>(intOf xx).toNat)
   case atStart=>exact ⟨64*i,x0,Nat.le_refl _,by omega,rfl,HX0.out.1,HX0.out.2,HOWN.out,HBL.out⟩
   case round =>
    clear HX0 hcell HOWN HBL
    obtain ⟨p,x,hp1,hp2,rfl,hx,hbits,hown,hbl⟩:=hrel
    have HOWN:=Lib.hid hown
    have HBL:=Lib.hid hbl
    have HBITS:=Lib.hid hbits
    clear hown hbl hbits
    by_cases h0:x=0
    ·have HOWN2:Hid (Own1 wr w.heap.size 3 u3 (onesV (cutB l n) (64*(i+1)))):=by
      have e:onesL (cutB l n) (p+(64*(i+1) - p))=onesL (cutB l n) p:=onesL_skip _ _ _ fun j h1 h2=>by
       have h3:=HBITS.out (j - 64*i) (by omega)
       rw [h0,Nat.zero_testBit,show 64*i+(j - 64*i)=j by omega] at h3
       simpa [h1] using h3.symm
      rw [show p+(64*(i+1) - p)=64*(i+1) by omega] at e
      have h:=HOWN.out
      unfold onesV at h ⊢
      rw [e]
      exact h
     subst h0
     go_wp2
     go_roundw
     case rel=>exact ⟨i+1,by omega,by go_num,HOWN2.out,HBL.out⟩
     case measure=>simp [intOf];omega
    ·obtain ⟨k,hk64,hbit,hlow,hand,htz⟩:=low_step x h0 hx
     have HTZ:=Lib.hid (htz wr (HT.out.below HBL.out))
     obtain ⟨q,hq⟩:∃ q,q=64*i+k:=⟨_,rfl⟩
     rw [HBITS.out k hk64,<- hq] at hbit
     have hpq:p<=q/\cutB l n q=true:=by simpa using hbit
     have HNX:=Lib.hid (onesL_next (cutB l n) p q hpq.1 (fun j h1 h2=>by
      have h3:=hlow (j - 64*i) (by omega)
      rw [HBITS.out (j - 64*i) (by omega),show 64*i+(j - 64*i)=j by omega] at h3
      simpa [h1] using h3) hpq.2)
     have HOS:Hid (onesV (cutB l n) p++[.int .i64 (q:Nat)]=onesV (cutB l n) (q+1)):=by
      show _=_
      unfold onesV
      rw [HNX.out,List.map_append]
      rfl
     have HB2:Hid (∀ j,j < 64->(x &&& (x - 1)).testBit j=(decide (q+1<=64*i+j)&&cutB l n (64*i+j))):=fun j hj=>by
      rw [hand j,HBITS.out j hj]
      by_cases h1:k < j
      ·have h2:p<=64*i+j:=by omega
       have h3:q+1<=64*i+j:=by omega
       simp [h1,h2,h3]
      ·have h3:¬ q+1<=64*i+j:=by omega
       simp [h1,h3]
     obtain ⟨x1,hx1⟩:∃ x1,x1=x - 1:=⟨_,rfl⟩
     have g1:(x:Int) - 1=(x1:Int):=by omega
     have g2:=u64_and_nat x x1 hx (by omega)
     have g3:(i:Int)*64+(k:Int)=(q:Int):=by omega
     have hx1l:x1 < 18446744073709551616:=by omega
     have hle:x &&& x1<=x1:=Nat.and_le_right
     rw [<- hx1] at HB2
     have hql:q<=2000000:=by omega
     have hne:(x:Int)≠0:=by omega
     have HPQ:=Lib.hid hpq.1
     have HLN:=Lib.hid (onesV_len (cutB l n) p)
     have hBw:w.heap.size<=wr.heap.size:=HBL.out.size
     have HFL:Hid (((onesV (cutB l n) p).length+1)*8<=140737488355328):=by have:=HLN.out;show _<=_;omega
     have HFL2:Hid ((onesV (cutB l n) p).length+1<=140737488355328):=by have:=HLN.out;show _<=_;omega
     have HQ:=Lib.hid hq
     have HX1:=Lib.hid hx1
     have hxpos:0 < x:=by omega
     clear hbit hlow hand htz hpq hq hx1 h0
     generalize x &&& x1=x2 at *
     go_wp2_with fail
     refine HTZ.out.mono ?_
     rintro e w3 ⟨rfl,rfl⟩
     go_wp2_with (at_builtin;refine wpList_push1 rfl (.tmp 19) (.tmp 25) 22 3 rfl Tryz.underlying22 (.int .i64 0) 8 info_int rfl w.heap.size _ (onesV (cutB l n) p) rfl HOWN.out (.int .i64 q) rfl rfl HFL.out HFL2.out hBw ?_;intro v' w4 hv' hb' _ hs';rw [HOS.out] at hv';have HV:=Lib.hid hv';have HB':=Lib.hid (hb' _ (Below.refl _ _));clear hb' hv' hs')
     go_roundw
     case rel=>exact ⟨q+1,x2,by omega,by have:=HQ.out;omega,by go_num,by omega,HB2.out,HV.out,HBL.out.trans HB'.out⟩
     case measure=>have:=HX1.out;simp [intOf];omega
  ·obtain rfl:i=M:=by omega
   obtain ⟨sa,sm,sc,rfl⟩:∃ a m c,u3= .slice a m c:=by obtain ⟨a,c,e⟩:=HOWN.out.reads.len;exact ⟨a,_,c,e⟩
   go_wp2
   go_ret
   exact ⟨_,_,_,rfl,HOWN.out,HBL.out⟩
def altN (f:Nat->Bool):Nat->Int
 | 0=>0
 | p+1=>altN f p+if f p then 1 - 2*((p % 2:Nat):Int) else 0
def altL (L:List Nat):Int:=(L.map fun q=>1 - 2*((q % 2:Nat):Int)).sum
theorem altL_snoc (L:List Nat) (q:Nat):altL (L++[q])=altL L+(1 - 2*((q % 2:Nat):Int)):=by
 unfold altL
 rw [List.map_append,List.sum_append]
 simp
theorem altL_ones (f:Nat->Bool) (p:Nat):altL (onesL f p)=altN f p:=by
 induction p with
 | zero=>rfl
 | succ p ih =>
  rw [onesL_succ]
  unfold altN
  split
  ·rw [altL_snoc,ih]
  ·rw [ih,Int.add_zero]
theorem altN_cut (l:Nat->Bool) (n d:Nat):altN (cutB l n) (n+d)=altN l n:=by
 induction d with
 | zero =>
  have:∀ m,m<=n->altN (cutB l n) m=altN l m:=by
   intro m
   induction m with
   | zero=>intro _;rfl
   | succ m ih =>
    intro h
    unfold altN
    rw [ih (by omega)]
    have:m < n:=by omega
    simp [cutB,this]
  exact this n (Nat.le_refl _)
 | succ d ih =>
  show altN (cutB l n) (n+d)+_=_
  rw [ih]
  have:¬ n+d < n:=by omega
  simp [cutB,this]
theorem altL_bound (L:List Nat):-(L.length:Int)<=altL L/\altL L<=L.length:=by
 induction L with
 | nil=>exact ⟨by simp [altL],by simp [altL]⟩
 | cons q L ih =>
  have e:altL (q::L)=(1 - 2*((q % 2:Nat):Int))+altL L:=by unfold altL;simp
  rw [e,List.length_cons]
  omega
theorem and1 (i:Nat) (h:i<=2097152):bits .and .i64 (i:Int) 1=((i % 2:Nat):Int):=by
 show IntKind.i64.wrap ((BitVec.ofInt 64 (i:Int) &&& BitVec.ofInt 64 ((1:Nat):Int)).toNat:Int)=_
 have e:i &&& 1=i % 2:=Nat.and_two_pow_sub_one_eq_mod i 1
 rw [BitVec.toNat_and,ofInt_u64 i (by omega),ofInt_u64 1 (by omega),e,IntKind.wrap_i64]
 omega
theorem onesL_lt (f:Nat->Bool) (p i:Nat) (h:i < (onesL f p).length):(onesL f p).getD i 0 < p:=by
 have hm:(onesL f p)[i]∈onesL f p:=List.getElem_mem h
 unfold onesL at hm
 have:=(List.mem_filter.1 hm).1
 have h2:=List.mem_range.1 this
 rw [List.getD_eq_getElem?_getD,List.getElem?_eq_getElem h]
 exact h2
theorem less_any (v:Value) (n:Nat) (l:Nat->Bool) (w:World) (hn:n<=1048576) (hb:BitsIn w v n l) (ht:TzTab w) :
  Calls Tryz.prog 246 #[v] w fun e w'=>e= .returned (.int .i64 (altN l n))/\Below w.heap.size w w':=by
 have HON:=Lib.hid (fun W (hw:Below w.heap.size w W)=>bones_any v n l W hn (hb.below hw) (ht.below hw))
 obtain ⟨b,o,c,rfl,_⟩:=hb
 obtain ⟨M,hM⟩:∃ M,M=(n+63) / 64:=⟨_,rfl⟩
 rw [<- hM] at HON ⊢
 have HRES:Hid (altL (onesL (cutB l n) (64*M))=altN l n):=by
  show _=_
  rw [altL_ones,show 64*M=n+(64*M - n) by omega,altN_cut]
 have hlt:=onesL_lt (cutB l n) (64*M)
 have hlen:=onesL_len (cutB l n) (64*M)
 unfold onesV at HON
 generalize onesL (cutB l n) (64*M)=L at *
 have HLT:=Lib.hid hlt
 obtain ⟨N,hN⟩:∃ N,N=L.length:=⟨_,rfl⟩
 have hNb:N<=1048640:=by omega
 rw [<- hN] at HLT
 have HN:=Lib.hid hN
 have hMb:M<=16384:=by omega
 clear ht hlt hlen hM
 go_enter Tryz.func246,Tryz.ntmps246
 go_wp2_with fail
 refine (HON.out _ (bel1 w _)).mono ?_
 rintro e w1 ⟨a,m,c2,rfl,hown,hb1⟩
 have HB1:=Lib.hid (bel_both (bel1 w _) hb1)
 have hr:=hown.reads
 rw [<- map_range_getD L 0 (fun j=>Value.int .i64 (j:Nat)),<- hN] at hr
 obtain ⟨a2,c3,e2,hcell⟩:=reads_at hr
 injection e2 with e3 e4 e5
 subst e3 e4 e5
 have HC:=Lib.hid hcell
 clear hr hown hb1 hcell hN
 go_wp2_with fail
 go_loopw [3,9] (fun nn ii wr=>∃ i:Nat,i<=m/\ii= .int .i64 i/\nn= .int .i64 (altL (L.take i))/\Below w1.heap.size w1 wr) (fun _ ii _=>m - (intOf ii).toNat)
 case atStart=>exact ⟨0,Nat.zero_le _,rfl,rfl,Below.refl _ _⟩
 case round =>
  obtain ⟨i,hi,rfl,rfl,hbl⟩:=hrel
  have HBL:=Lib.hid hbl
  clear hbl
  by_cases hlt:i < m
  ·obtain ⟨b2,o2,ea,hc1⟩:=HC.out i hlt
   subst ea
   have hcell:wr.cell? ⟨b2,o2+i,none⟩=some (.int .i64 ((L.getD i 0:Nat):Int)):=by rw [HBL.out.cell (cell_lt hc1)];exact hc1
   have hx:=HLT.out i hlt
   have hq:=and1 (L.getD i 0) (by omega)
   have hst:Hid (altL (L.take i)+(1 - 2*((L.getD i 0 % 2:Nat):Int))=altL (L.take (i+1))):=by
    show _=_
    have hi2:i < L.length:=by rw [<- HN.out];exact hlt
    rw [List.take_succ_eq_append_getElem hi2,altL_snoc]
    congr 4
    rw [List.getD_eq_getElem?_getD,List.getElem?_eq_getElem hi2]
    rfl
   have hb2:=altL_bound (L.take i)
   have hl2:(L.take i).length<=i:=by rw [List.length_take];omega
   obtain ⟨hb2a,hb2b⟩:=hb2
   have hba:-1048640<=altL (L.take i):=by omega
   have hbb:altL (L.take i)<=1048640:=by omega
   have hq2:L.getD i 0 % 2<=1:=by omega
   clear hb2a hb2b hc1
   generalize altL (L.take i)=s1 at *
   generalize L.getD i 0=x at *
   generalize x % 2=q at *
   go_wp2
   go_roundw
   case rel=>exact ⟨i+1,by omega,by go_num,by rw [<- hst.out],HBL.out⟩
   case measure=>simp [intOf];omega
  ·obtain rfl:i=m:=by omega
   have HTK:Hid (altL (L.take i)=altL L):=by show _=_;rw [HN.out,List.take_length]
   go_wp2
   go_ret
   exact ⟨by rw [<- HRES.out,<- HTK.out];rfl,HB1.out.trans (HBL.out.mono HB1.out.size)⟩
theorem reads_cell {W:World}{g o n c:Nat}{F:Nat->Value} (h:Reads1 W (.slice (some ⟨g,o,none⟩) n c) ((List.range n).map F)) (j:Nat) (hj:j < n):W.cell? ⟨g,o+j,none⟩=some (F j):=by
 obtain ⟨a,c2,e1,hc⟩:=reads_at h
 injection e1 with e1 _ _
 obtain ⟨b',o',e3,h3⟩:=hc j hj
 rw [e3] at e1
 injection e1 with e1
 injection e1 with ea eb _
 subst ea;subst eb
 exact h3
structure NumV (v:Value) (k:Int) (n:Nat) (F:Nat->Nat) (w:World):Prop where
 cls:Calls Tryz.prog 66 #[v] w fun e w2=>e= .returned (.int .i64 0)/\Below w.heap.size w w2
 len:Calls Tryz.prog 74 #[v] w fun e w2=>e= .returned (.int .i64 n)/\Below w.heap.size w w2
 num:∀ j,j < n->Calls Tryz.prog 122 #[v,.int .i64 (j:Nat)] w fun e w2=>e= .returned (.float .f64 (F j))/\Below w.heap.size w w2
 wholeI:k≠4->∀ j,j < n->∀ z,Good z->F j=fi z->Calls Tryz.prog 142 #[v,.int .i64 (j:Nat)] w fun e w2=>e= .returned (.tuple #[.int .i64 z,.bool true])/\Below w.heap.size w w2
 wholeF:k=4->∀ j,j < n->Calls Tryz.prog 142 #[v,.int .i64 (j:Nat)] w fun e w2=>e= .returned (.tuple #[.int .i64 0,.bool false])/\Below w.heap.size w w2
 ints:k≠4->∀ j,j < n->∃ z,Good z/\F j=fi z
 tf:∀ j,j < n->TF (F j)
 kind:k=1\/k=2\/k=3\/k=4
 bitsX:k=1->∃ (l:Nat->Bool) (s:Value),v=vecV 1 s n vnil vnil vnil vnil vnil/\BitsIn w (.agg #[s,.int .i64 (n:Int)]) n l/\∀ j,j < n->F j=flagF (l j)
 intsX:k=3->∃ (L:Nat->Int) (s:Value),v=vecV 3 vnil 0 vnil s vnil vnil vnil/\Reads1 w s ((List.range n).map fun j => .int .i64 (L j))/\∀ j,j < n->F j=fi (L j)/\Good (L j)
 shape:∃ (b:Value) (bn:Int) (s i f c x:Value),v=vecV k b bn s i f c x
theorem in_1 (s:Value) (len:Nat) (sm i f c x:Value) (j:Nat) (hj:j < len) (w:World) :
  Calls Tryz.prog 124 #[vecV 1 s len sm i f c x,.int .i64 (j:Int)] w fun e w'=>e= .returned (.bool true)/\Below w.heap.size w w':=by
 have HL:=Lib.hid (fun W=>len_1 s len sm i f c x W)
 have h0:(0:Int)<=(j:Int):=by omega
 have h1:(j:Int) < (len:Int):=by omega
 go_enter Tryz.func124,Tryz.ntmps124
 go_wp2_with fail
 refine (HL.out _).mono ?_
 rintro e w1 ⟨rfl,hb1⟩
 have HB:=Lib.hid (bel_both (bel1 w _) hb1)
 clear hb1
 go_wp2
 go_ret
 exact ⟨by simp,HB.out⟩
theorem num_1 (s:Value) (len:Nat) (sm i f c x:Value) (j:Nat) (hj:j < len) (t:Bool) (w:World)
  (ha:∀ W,Below w.heap.size w W->Calls Tryz.prog 179 #[.agg #[s,.int .i64 (len:Int)],.int .i64 (j:Int)] W fun e w'=>e= .returned (.bool t)/\Below W.heap.size W w') :
  Calls Tryz.prog 122 #[vecV 1 s len sm i f c x,.int .i64 (j:Int)] w fun e w'=>e= .returned (.float .f64 (flagF t))/\Below w.heap.size w w':=by
 have HA:=Lib.hid ha
 have HI:=Lib.hid (fun W=>in_1 s len sm i f c x j hj W)
 clear ha
 go_enter Tryz.func122,Tryz.ntmps122
 go_wp2_with fail
 refine (HI.out _).mono ?_
 rintro e w1 ⟨rfl,hb1⟩
 have HB1:=Lib.hid (bel_both (bel1 w _) hb1)
 obtain ⟨h0,h1,h2,h3,h4,h5,h6,h7⟩:=(boxed_new w 38 1 s len sm i f c x).below hb1
 clear hb1
 go_wp2_with fail
 refine (HA.out _ HB1.out).mono ?_
 rintro e w2 ⟨rfl,hb2⟩
 have HB2:=Lib.hid (bel_both HB1.out hb2)
 clear hb2 h0 h1 h2 h3 h4 h5 h6 h7
 go_wp2_with fail
 refine (flag_any _ _).mono ?_
 rintro e w3 ⟨rfl,rfl⟩
 go_wp2
 go_ret
 exact ⟨rfl,HB2.out⟩
theorem vwhole_1 (s:Value) (len:Nat) (sm i f c x:Value) (j:Nat) (hj:j < len) (t:Bool) (w:World)
  (ha:∀ W,Below w.heap.size w W->Calls Tryz.prog 179 #[.agg #[s,.int .i64 (len:Int)],.int .i64 (j:Int)] W fun e w'=>e= .returned (.bool t)/\Below W.heap.size W w') :
  Calls Tryz.prog 142 #[vecV 1 s len sm i f c x,.int .i64 (j:Int)] w fun e w'=>e= .returned (.tuple #[.int .i64 (if t then 1 else 0),.bool true])/\Below w.heap.size w w':=by
 have HA:=Lib.hid ha
 have HI:=Lib.hid (fun W=>in_1 s len sm i f c x j hj W)
 clear ha
 cases t
 all_goals
  go_enter Tryz.func142,Tryz.ntmps142
  go_wp2_with fail
  refine (HI.out _).mono ?_
  rintro e w1 ⟨rfl,hb1⟩
  have HB1:=Lib.hid (bel_both (bel1 w _) hb1)
  obtain ⟨h0,h1,h2,h3,h4,h5,h6,h7⟩:=(boxed_new w 38 1 s len sm i f c x).below hb1
  clear hb1
  go_wp2_with fail
  refine (HA.out _ HB1.out).mono ?_
  rintro e w2 ⟨rfl,hb2⟩
  have HB2:=Lib.hid (bel_both HB1.out hb2)
  clear hb2 h0 h1 h2 h3 h4 h5 h6 h7
  go_wp2
  go_ret2
  exact ⟨rfl,HB2.out⟩
theorem fi_one:fi 1=one:=by decide+kernel
theorem flagF_fi (t:Bool):flagF t=fi (if t then 1 else 0):=by
 cases t
 ·exact fi_zero.symm
 ·exact fi_one.symm
theorem good_flag (t:Bool):Good (if t then 1 else 0):=by cases t <;> decide
def BitV (n:Nat) (l:Nat->Bool) (u:Value) (W:World):Prop:=∃ s,u=vecV 1 s n vnil vnil vnil vnil vnil/\BitsIn W (.agg #[s,.int .i64 (n:Int)]) n l
def Small8V (n:Nat) (l:Nat->Int) (u:Value) (W:World):Prop:=Small8 n l u W/\∀ j,j < n->-128<=l j/\l j<=127
def IntV (n:Nat) (l:Nat->Int) (u:Value) (W:World):Prop:=(∃ s,u=vecV 3 vnil 0 vnil s vnil vnil vnil/\Reads1 W s ((List.range n).map fun j => .int .i64 (l j)))/\∀ j,j < n->Good (l j)
def FloatV (n:Nat) (F:Nat->Nat) (u:Value) (W:World):Prop:=(∃ s,u=vecV 4 vnil 0 vnil vnil s vnil vnil/\Reads1 W s ((List.range n).map fun j => .float .f64 (F j)))/\∀ j,j < n->TF (F j)
theorem bitV_at {n:Nat}{l:Nat->Bool}{s:Value}{W:World} (hn:n<=1048576) (hr:BitsIn W (.agg #[s,.int .i64 (n:Int)]) n l) (j:Nat) (hj:j < n) :
  Calls Tryz.prog 179 #[.agg #[s,.int .i64 (n:Int)],.int .i64 (j:Int)] W fun e w'=>e= .returned (.bool (l j))/\Below W.heap.size W w':=by
 obtain ⟨b,o,c,ev,hc⟩:=hr
 have es:s= .slice (some ⟨b,o,none⟩) ((n+63) / 64) c:=by
  injection ev with ev
  have:=congrArg (fun x:Array Value=>x.getD 0 undef) ev
  exact this
 subst es
 have hcell:=hc (j / 64) (by omega)
 have h:=bat_any b o ((n+63) / 64) c n j _ W hj hn (by omega) hcell (packW_lt l n (j / 64))
 have e:(packW l n (j / 64)).testBit (j % 64)=l j:=by
  rw [packW_bit _ _ _ _ (Nat.mod_lt _ (by decide)),show 64*(j / 64)+j % 64=j by omega]
  simp [hj]
 rw [e] at h
 exact h
theorem numV_bits {n:Nat}{l:Nat->Bool}{u:Value}{W:World} (hn:n<=1048576) (h:BitV n l u W):NumV u 1 n (fun j=>flagF (l j)) W:=by
 obtain ⟨s,rfl,hr⟩:=h
 refine ⟨class_1 _ _ _ _ _ _ _ _,len_1 _ _ _ _ _ _ _ _,fun j hj=>num_1 _ _ _ _ _ _ _ j hj (l j) W (fun W' hb=>bitV_at hn (hr.below hb) j hj),fun _ j hj z hz e=>?_,fun h=>absurd h (by decide),fun _ j _=>⟨_,good_flag (l j),flagF_fi (l j)⟩,fun j _=>tf_flag _,.inl rfl,fun _=>⟨l,s,rfl,hr,fun _ _=>rfl⟩,fun h=>absurd h (by decide),⟨_,_,_,_,_,_,_,rfl⟩⟩
 have e2:z=if l j then 1 else 0:=fi_inj hz (good_flag _) (by rw [<- flagF_fi];exact e.symm)
 rw [e2]
 exact vwhole_1 _ _ _ _ _ _ _ j hj (l j) W fun W' hb=>bitV_at hn (hr.below hb) j hj
theorem numV_small {n:Nat}{l:Nat->Int}{u:Value}{W:World} (h:Small8V n l u W):NumV u 2 n (fun j=>fi (l j)) W:=by
 obtain ⟨⟨s,rfl,hr⟩,hl⟩:=h
 have hg:∀ j,j < n->Good (l j):=fun j hj=>by have:=hl j hj;exact ⟨by omega,by omega⟩
 obtain ⟨a,c,rfl,hc⟩:=reads_at hr
 refine ⟨class_2 _ _ _ _ _ _ _ _,len_2 _ _ _ _ _ _ _ _ _ _,fun j hj=>?_,fun _ j hj z hz e=>?_,fun h=>absurd h (by decide),fun _ j hj=>⟨_,hg j hj,rfl⟩,fun j hj=>tf_fi (hg j hj),.inr (.inl rfl),fun h=>absurd h (by decide),fun h=>absurd h (by decide),⟨_,_,_,_,_,_,_,rfl⟩⟩
 ·obtain ⟨b,o,rfl,hcell⟩:=hc j hj
  exact num_2 _ _ _ _ _ _ _ _ _ _ j hj _ W hcell
 ·obtain ⟨b,o,rfl,hcell⟩:=hc j hj
  have e2:z=l j:=fi_inj hz (hg j hj) e.symm
  rw [e2]
  exact vwhole_2 _ _ _ _ _ _ _ _ _ _ j hj _ (hl j hj).1 (hl j hj).2 W hcell
theorem numV_ints {n:Nat}{l:Nat->Int}{u:Value}{W:World} (h:IntV n l u W):NumV u 3 n (fun j=>fi (l j)) W:=by
 obtain ⟨⟨s,rfl,hr⟩,hg⟩:=h
 obtain ⟨a,c,rfl,hc⟩:=reads_at hr
 refine ⟨class_3 _ _ _ _ _ _ _ _,len_3 _ _ _ _ _ _ _ _ _ _,fun j hj=>?_,fun _ j hj z hz e=>?_,fun h=>absurd h (by decide),fun _ j hj=>⟨_,hg j hj,rfl⟩,fun j hj=>tf_fi (hg j hj),.inr (.inr (.inl rfl)),fun h=>absurd h (by decide),fun _=>⟨l,_,rfl,hr,fun j hj=>⟨rfl,hg j hj⟩⟩,⟨_,_,_,_,_,_,_,rfl⟩⟩
 ·obtain ⟨b,o,rfl,hcell⟩:=hc j hj
  exact num_3 _ _ _ _ _ _ _ _ _ _ j hj _ W hcell
 ·obtain ⟨b,o,rfl,hcell⟩:=hc j hj
  have e2:z=l j:=fi_inj hz (hg j hj) e.symm
  rw [e2]
  exact vwhole_3 _ _ _ _ _ _ _ _ _ _ j hj _ W hcell
theorem numV_floats {n:Nat}{F:Nat->Nat}{u:Value}{W:World} (h:FloatV n F u W):NumV u 4 n F W:=by
 obtain ⟨⟨s,rfl,hr⟩,ht⟩:=h
 obtain ⟨a,c,rfl,hc⟩:=reads_at hr
 refine ⟨class_4 _ _ _ _ _ _ _ _,len_4 _ _ _ _ _ _ _ _ _ _,fun j hj=>?_,fun h=>absurd rfl h,fun _ j hj=>?_,fun h=>absurd rfl h,ht,.inr (.inr (.inr rfl)),fun h=>absurd h (by decide),fun h=>absurd h (by decide),⟨_,_,_,_,_,_,_,rfl⟩⟩
 ·obtain ⟨b,o,rfl,hcell⟩:=hc j hj
  exact num_4 _ _ _ _ _ _ _ _ _ _ j hj _ W hcell
 ·obtain ⟨b,o,rfl,hcell⟩:=hc j hj
  exact vwhole_4 _ _ _ _ _ _ _ _ _ _ j hj W
end Go.Proofs.YtakgmnafbjdccaaGreatDoor
