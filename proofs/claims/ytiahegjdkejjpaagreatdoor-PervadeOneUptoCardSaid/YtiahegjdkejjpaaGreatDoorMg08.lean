/- The walks of bitvec's First, of logic's Any and All. The walks of logic's Any and All over packed truths, of Count. The walks of bitvec's Ones and of .. Conditions: as each theorem says. -/
import Derived.Test.YtiahegjdkejjpaaGreatDoorMg07
import Derived.Test.YtiahegjdkejjpaaGreatDoorMg03
import Derived.Lib.TrailingZeros
import Derived.Test.YtiahegjdkejjpaaGreatDoorMg06
set_option maxRecDepth 100000
set_option maxHeartbeats 2000000
namespace Go.Proofs.YtiahegjdkejjpaaGreatDoor
open Go Go.RowKit Go.Proofs Fl
theorem tz_core (u p i:Nat) (z:Int) (h0:((u:Int)==0)=false) (w:World)
  (hf:bits .and .u64 (u:Int) (IntKind.u64.wrap (-(u:Int)))=(p:Int)) (hi:IntKind.u64.wrap ((p:Int)*285870213051353865) / 288230376151711744=(i:Int)) (h64:i < 64)
  (hc:w.cell? ⟨1,i,none⟩=some (.int .u8 z)) (hz:0<=z) (hz2:z < 64) :
  Calls Tryz.prog 248 #[.int .u64 u] w fun x w'=>x= .returned (.int .i64 z)/\w=w':=by
 go_enter Tryz.func248,Tryz.ntmps248
 go_wp2
 go_ret
 exact ⟨rfl,rfl⟩
def TzTab (w:World):Prop:=∀ i,i < 64->w.cell? ⟨1,i,none⟩=some (.int .u8 ((Lib.deBruijn64tab.getD i 0:Nat):Int))
theorem TzTab.below {w w':World} (h:TzTab w) (hb:Below w.heap.size w w'):TzTab w':=fun i hi=>by rw [hb.cell (cell_lt (h i hi))];exact h i hi
theorem cast3 (p a b c:Nat):((p:Int)*(a:Int)) % (b:Int) / (c:Int)=((p*a % b / c:Nat):Int):=by
 rw [Int.natCast_ediv,Int.natCast_emod,Int.natCast_mul]
theorem tz_any (k m:Nat) (h:2^k*(2*m+1) < 18446744073709551616) (w:World) (ht:TzTab w) :
  Calls Tryz.prog 248 #[.int .u64 ((2^k*(2*m+1):Nat):Int)] w fun x w'=>x= .returned (.int .i64 k)/\w=w':=by
 have hk:k < 64:=by
  have h1:2^k<=2^k*(2*m+1):=Nat.le_mul_of_pos_right _ (by omega)
  have h2:2^k < 2^64:=by omega
  exact (Nat.pow_lt_pow_iff_right (by omega)).1 h2
 have hn:=Lib.and_neg 64 k m (by omega)
 have hp:0 < 2^k*(2*m+1):=Nat.mul_pos (Nat.two_pow_pos k) (by omega)
 obtain ⟨d1,d2⟩:=Lib.deBruijn64_at k hk
 have hp64:2^k < 2^64:=Nat.pow_lt_pow_right (by omega) hk
 generalize 2^k*(2*m+1)=u at *
 generalize 2^k=p at *
 refine tz_core u p (p*285870213051353865 % 18446744073709551616 / 288230376151711744) k (beq_eq_false_iff_ne.2 (by omega)) w ?_ ?_ d1 ?_ (by omega) (by omega)
 ·rw [IntKind.wrap_u64]
  have e:(-(u:Int)) % 18446744073709551616=((2^64 - u:Nat):Int):=by omega
  rw [e,u64_and_nat u (2^64 - u) h (by omega),hn]
 ·rw [IntKind.wrap_u64];exact cast3 p _ _ _
 ·rw [ht _ d1,d2]
theorem low_bit (x:Nat) (h0:x≠0) (hx:x < 18446744073709551616):∃ k m,x=2 ^ k*(2*m+1)/\k < 64/\x.testBit k=true/\∀ j,j < k->x.testBit j=false:=by
 obtain ⟨m,e,hk⟩:=Lib.ctzFrom_spec 64 x (by omega) (by omega)
 refine ⟨Lib.ctzFrom 64 x,m,e,hk,?_,fun j hj=>?_⟩
 ·have:x.testBit (Lib.ctzFrom 64 x)=(2 ^ (Lib.ctzFrom 64 x)*(2*m+1)).testBit (Lib.ctzFrom 64 x):=by rw [<- e]
  rw [this,Nat.mul_comm,Nat.testBit_mul_two_pow]
  simp
 ·have:x.testBit j=(2 ^ (Lib.ctzFrom 64 x)*(2*m+1)).testBit j:=by rw [<- e]
  rw [this,Nat.mul_comm,Nat.testBit_mul_two_pow]
  have:¬ Lib.ctzFrom 64 x<=j:=by omega
  simp [this]
theorem count_any (v:Value) (n:Nat) (l:Nat->Bool) (w:World) (hn:n<=1048576) (hb:BitsIn w v n l) :
  Calls Tryz.prog 140 #[v] w fun e w'=>e= .returned (.int .i64 (cnt l n:Nat))/\Below w.heap.size w w':=by
 obtain ⟨b,o,c,rfl,hc⟩:=hb
 have h:=count_words b o ((n+63) / 64) c n (packW l n) w (by omega) hc (fun j _=>packW_lt l n j)
 rw [cntW_bits] at h
 exact h
theorem clear_low (k m:Nat):(2 ^ k*(2*m+1)) &&& (2 ^ k*(2*m+1) - 1)=2 ^ (k+1)*m:=by
 have hp:0 < 2 ^ k:=Nat.two_pow_pos k
 have e1:2 ^ k*(2*m+1)=2 ^ (k+1)*m+2 ^ k:=by rw [Nat.mul_add,Nat.mul_one,<- Nat.mul_assoc,Nat.pow_succ]
 have e2:2 ^ k*(2*m+1) - 1=2 ^ (k+1)*m+(2 ^ k - 1):=by omega
 have hk1:2 ^ k < 2 ^ (k+1):=Nat.pow_lt_pow_right (by decide) (by omega)
 apply Nat.eq_of_testBit_eq
 intro j
 have e3:(2 ^ (k+1)*m).testBit j=(2 ^ (k+1)*m+0).testBit j:=rfl
 rw [Nat.testBit_and,e2,e1,e3,Nat.testBit_two_pow_mul_add m hk1,Nat.testBit_two_pow_mul_add m (by omega),Nat.testBit_two_pow_mul_add m (by omega)]
 by_cases h:j < k+1
 ·rw [if_pos h,if_pos h,if_pos h,Nat.testBit_two_pow,Nat.testBit_two_pow_sub_one,Nat.zero_testBit]
  by_cases h2:k=j
  ·have:¬ j < k:=by omega
   simp [this]
  ·simp [h2]
 ·rw [if_neg h,if_neg h,if_neg h,Bool.and_self]
theorem low_step (x:Nat) (h0:x≠0) (hx:x < 18446744073709551616):∃ k,k < 64/\x.testBit k=true/\(∀ j,j < k->x.testBit j=false)/\(∀ j,(x &&& (x - 1)).testBit j=(decide (k < j)&&x.testBit j)) /\
  ∀ w,TzTab w->Calls Tryz.prog 248 #[.int .u64 (x:Int)] w fun e w'=>e= .returned (.int .i64 k)/\w=w':=by
 obtain ⟨k,m,e,hk,h1,h2⟩:=low_bit x h0 hx
 refine ⟨k,hk,h1,h2,fun j=>?_,fun w ht=>?_⟩
 ·have hc:=clear_low k m
  rw [<- e] at hc
  rw [hc]
  have e1:x=2 ^ (k+1)*m+2 ^ k:=by rw [e,Nat.mul_add,Nat.mul_one,<- Nat.mul_assoc,Nat.pow_succ]
  have hk1:2 ^ k < 2 ^ (k+1):=Nat.pow_lt_pow_right (by decide) (by omega)
  have hb:x.testBit j=if j < k+1 then (2 ^ k).testBit j else m.testBit (j - (k+1)):=by
   have:=Nat.testBit_two_pow_mul_add m hk1 j
   rw [<- e1] at this
   exact this
  have hb0:=Nat.testBit_two_pow_mul_add m (show 0 < 2 ^ (k+1) by exact Nat.two_pow_pos _) j
  rw [Nat.add_zero] at hb0
  rw [hb0,hb]
  by_cases h:j < k+1
  ·have:¬ k < j:=by omega
   simp [h,this]
  ·have:k < j:=by omega
   simp [h,this]
 ·have:=tz_any k m (by rw [<- e];exact hx) w ht
  rw [<- e] at this
  exact this
def onesL (f:Nat->Bool) (p:Nat):List Nat:=(List.range p).filter f
theorem onesL_succ (f:Nat->Bool) (p:Nat):onesL f (p+1)=if f p then onesL f p++[p] else onesL f p:=by
 unfold onesL
 rw [List.range_succ,List.filter_append]
 by_cases h:f p=true
 ·simp [h]
 ·simp [h]
theorem onesL_skip (f:Nat->Bool) (p d:Nat) (h:∀ j,p<=j->j < p+d->f j=false):onesL f (p+d)=onesL f p:=by
 induction d with
 | zero=>rfl
 | succ d ih =>
  rw [show p+(d+1)=(p+d)+1 by omega,onesL_succ,h (p+d) (by omega) (by omega),ih fun j h1 h2=>h j h1 (by omega)]
  rfl
theorem onesL_next (f:Nat->Bool) (p q:Nat) (hpq:p<=q) (h:∀ j,p<=j->j < q->f j=false) (hq:f q=true):onesL f (q+1)=onesL f p++[q]:=by
 rw [onesL_succ,hq]
 have:=onesL_skip f p (q - p) fun j h1 h2=>h j h1 (by omega)
 rw [show p+(q - p)=q by omega] at this
 rw [this];rfl
theorem onesL_len (f:Nat->Bool) (p:Nat):(onesL f p).length<=p:=by
 have:=List.length_filter_le f (List.range p)
 rw [List.length_range] at this
 exact this
def onesV (f:Nat->Bool) (p:Nat):List Value:=(onesL f p).map fun j => .int .i64 (j:Nat)
theorem onesV_len (f:Nat->Bool) (p:Nat):(onesV f p).length<=p:=by unfold onesV;rw [List.length_map];exact onesL_len f p
def cutB (l:Nat->Bool) (n:Nat):Nat->Bool:=fun i=>decide (i < n)&&l i
theorem info_int:(Tryz.prog.info? 3).map (fun i=>(i.zero,i.size,i.bytes))=some (some (.int .i64 0),1,8):=by kernel_rfl
theorem make_capI (n:Nat) (hn:n<=2000000) (w:World):(Instr.makeSlice 22 (.int .i64 0) (.int .i64 (n:Int))).run Tryz.prog w= .ok (.slice (some ⟨w.heap.size,0,none⟩) 0 n) (w.alloc (.cells (madeCells #[.int .i64 0] n) 3)):=by
 obtain ⟨i,hi,hz,hs,hb⟩:=info_parts info_int
 have hr:=run_make (P:=Tryz.prog) w 22 3 i (.int .i64 0) Tryz.underlying22 hi hz .i64 .i64 0 (n:Int) (by omega) (by omega) (by rw [hb];omega) (by omega)
 simp only [Int.toNat_natCast,hs,Nat.mul_one] at hr
 exact hr
theorem bones_any (v:Value) (n:Nat) (l:Nat->Bool) (w:World) (hn:n<=1048576) (hb:BitsIn w v n l) (ht:TzTab w) :
  Calls Tryz.prog 191 #[v] w fun e w'=>∃ a m c,e= .returned (.slice a m c)/\Own1 w' w.heap.size 3 (.slice a m c) (onesV (cutB l n) (64*((n+63) / 64)))/\Below w.heap.size w w':=by
 have HCN:=Lib.hid (fun W (hw:Below w.heap.size w W)=>count_any v n l W hn (hb.below hw))
 obtain ⟨b,o,c,rfl,hc⟩:=hb
 obtain ⟨M,hM⟩:∃ M,M=(n+63) / 64:=⟨_,rfl⟩
 rw [<- hM] at hc HCN ⊢
 have HC:=Lib.hid hc
 have HM:=Lib.hid hM
 have HT:=Lib.hid ht
 have hMb:M<=16384:=by omega
 have HB0:=Lib.hid (bel1 w (.cells #[.slice (some ⟨b,o,none⟩) M c,.int .i64 (n:Int)] 30))
 have hmk:=make_capI (cnt l n) (by have:=cnt_le l n;omega)
 have hKb:cnt l n<=1048576:=by have:=cnt_le l n;omega
 generalize cnt l n=K at *
 clear hc hM ht
 go_enter Tryz.func191,Tryz.ntmps191
 go_wp2_with fail
 refine (HCN.out _ (bel1 w _)).mono ?_
 rintro e w1 ⟨rfl,hb1⟩
 have HB1:=Lib.hid (bel_both HB0.out hb1)
 have hk1:=block_up hb1
 clear hb1
 have HO0:Hid (Own1 (w1.alloc (.cells (madeCells #[.int .i64 0] K) 3)) w.heap.size 3 (.slice (some ⟨w1.heap.size,0,none⟩) 0 K) (onesV (cutB l n) (64*0))) :=
  World.ownsRow_made (base:=w.heap.size) (e:=3) (size:=1) w1 (madeCells #[.int .i64 0] K) K HB1.out.size (by unfold maxLen;omega) (by rw [size_madeCells];omega)
 have HBM:=Lib.hid (bel_both HB1.out (bel1 w1 (.cells (madeCells #[.int .i64 0] K) 3)))
 obtain ⟨hk0,hkx,_⟩:=pair_of hk1
 have hlt1:w.heap.size < w1.heap.size:=lt_of_block hk1
 clear hk1
 go_wp2_with fail
 go_loopw [3,12] (fun vv ii wr=>∃ i:Nat,i<=M/\ii= .int .i64 i/\Own1 wr w.heap.size 3 vv (onesV (cutB l n) (64*i))/\Below w.heap.size w wr) (fun _ ii _=>M - (intOf ii).toNat)
 case atStart=>exact ⟨0,Nat.zero_le _,rfl,HO0.out,HBM.out⟩
 case round =>
  clear HO0 HBM HB0 HB1 hk0 hkx hmk
  obtain ⟨i,hi,rfl,hown,hbl⟩:=hrel
  have HOWN:=Lib.hid hown
  have HBL:=Lib.hid hbl
  clear hown hbl
  by_cases hlt:i < M
  ·have hcell:wr.cell? ⟨b,o+i,none⟩=some (.int .u64 (packW l n i:Nat)):=by rw [HBL.out.cell (cell_lt (HC.out i hlt))];exact HC.out i hlt
   have HX0:Hid (packW l n i < 18446744073709551616/\∀ j,j < 64->(packW l n i).testBit j=(decide (64*i<=64*i+j)&&cutB l n (64*i+j))):=⟨packW_lt l n i,fun j hj=>by rw [packW_bit l n i j hj];unfold cutB;simp⟩
   generalize packW l n i=x0 at *
   go_wp2_with fail
   go_loopw [3,5] (fun vv xx wr=>∃ p x:Nat,64*i<=p/\p<=64*(i+1)/\xx= .int .u64 (x:Nat)/\x < 18446744073709551616/\(∀ j,j < 64->x.testBit j=(decide (p<=64*i+j)&&cutB l n (64*i+j)))/\Own1 wr w.heap.size 3 vv (onesV (cutB l n) p)/\Below w.heap.size w wr) (fun _ xx _=>(intOf xx).toNat)
   case atStart=>exact ⟨64*i,x0,Nat.le_refl _,by omega,rfl,HX0.out.1,HX0.out.2,HOWN.out,HBL.out⟩
   case round =>
    clear HX0 hcell HOWN HBL
    obtain ⟨p,x,hp1,hp2,rfl,hx,hbits,hown,hbl⟩:=hrel
    have HOWN:=Lib.hid hown
    have HBL:=Lib.hid hbl
    have HBITS:=Lib.hid hbits
    clear hown hbl hbits
    by_cases h0:x=0
    ·have HOWN2:Hid (Own1 wr w.heap.size 3 u3 (onesV (cutB l n) (64*(i+1)))):=by
      have e:onesL (cutB l n) (p+(64*(i+1) - p))=onesL (cutB l n) p:=onesL_skip _ _ _ fun j h1 h2=>by
       have h3:=HBITS.out (j - 64*i) (by omega)
       rw [h0,Nat.zero_testBit,show 64*i+(j - 64*i)=j by omega] at h3
       simpa [h1] using h3.symm
      rw [show p+(64*(i+1) - p)=64*(i+1) by omega] at e
      have h:=HOWN.out
      unfold onesV at h ⊢
      rw [e]
      exact h
     subst h0
     go_wp2
     go_roundw
     case rel=>exact ⟨i+1,by omega,by go_num,HOWN2.out,HBL.out⟩
     case measure=>simp [intOf];omega
    ·obtain ⟨k,hk64,hbit,hlow,hand,htz⟩:=low_step x h0 hx
     have HTZ:=Lib.hid (htz wr (HT.out.below HBL.out))
     obtain ⟨q,hq⟩:∃ q,q=64*i+k:=⟨_,rfl⟩
     rw [HBITS.out k hk64,<- hq] at hbit
     have hpq:p<=q/\cutB l n q=true:=by simpa using hbit
     have HNX:=Lib.hid (onesL_next (cutB l n) p q hpq.1 (fun j h1 h2=>by
      have h3:=hlow (j - 64*i) (by omega)
      rw [HBITS.out (j - 64*i) (by omega),show 64*i+(j - 64*i)=j by omega] at h3
      simpa [h1] using h3) hpq.2)
     have HOS:Hid (onesV (cutB l n) p++[.int .i64 (q:Nat)]=onesV (cutB l n) (q+1)):=by
      show _=_
      unfold onesV
      rw [HNX.out,List.map_append]
      rfl
     have HB2:Hid (∀ j,j < 64->(x &&& (x - 1)).testBit j=(decide (q+1<=64*i+j)&&cutB l n (64*i+j))):=fun j hj=>by
      rw [hand j,HBITS.out j hj]
      by_cases h1:k < j
      ·have h2:p<=64*i+j:=by omega
       have h3:q+1<=64*i+j:=by omega
       simp [h1,h2,h3]
      ·have h3:¬ q+1<=64*i+j:=by omega
       simp [h1,h3]
     obtain ⟨x1,hx1⟩:∃ x1,x1=x - 1:=⟨_,rfl⟩
     have g1:(x:Int) - 1=(x1:Int):=by omega
     have g2:=u64_and_nat x x1 hx (by omega)
     have g3:(i:Int)*64+(k:Int)=(q:Int):=by omega
     have hx1l:x1 < 18446744073709551616:=by omega
     have hle:x &&& x1<=x1:=Nat.and_le_right
     rw [<- hx1] at HB2
     have hql:q<=2000000:=by omega
     have hne:(x:Int)≠0:=by omega
     have HPQ:=Lib.hid hpq.1
     have HLN:=Lib.hid (onesV_len (cutB l n) p)
     have hBw:w.heap.size<=wr.heap.size:=HBL.out.size
     have HFL:Hid (((onesV (cutB l n) p).length+1)*8<=140737488355328):=by have:=HLN.out;show _<=_;omega
     have HFL2:Hid ((onesV (cutB l n) p).length+1<=140737488355328):=by have:=HLN.out;show _<=_;omega
     have HQ:=Lib.hid hq
     have HX1:=Lib.hid hx1
     have hxpos:0 < x:=by omega
     clear hbit hlow hand htz hpq hq hx1 h0
     generalize x &&& x1=x2 at *
     go_wp2_with fail
     refine HTZ.out.mono ?_
     rintro e w3 ⟨rfl,rfl⟩
     go_wp2_with (at_builtin;refine wpList_push1 rfl (.tmp 19) (.tmp 25) 22 3 rfl Tryz.underlying22 (.int .i64 0) 8 info_int rfl w.heap.size _ (onesV (cutB l n) p) rfl HOWN.out (.int .i64 q) rfl rfl HFL.out HFL2.out hBw ?_;intro v' w4 hv' hb' _ hs';rw [HOS.out] at hv';have HV:=Lib.hid hv';have HB':=Lib.hid (hb' _ (Below.refl _ _));clear hb' hv' hs')
     go_roundw
     case rel=>exact ⟨q+1,x2,by omega,by have:=HQ.out;omega,by go_num,by omega,HB2.out,HV.out,HBL.out.trans HB'.out⟩
     case measure=>have:=HX1.out;simp [intOf];omega
  ·obtain rfl:i=M:=by omega
   obtain ⟨sa,sm,sc,rfl⟩:∃ a m c,u3= .slice a m c:=by obtain ⟨a,c,e⟩:=HOWN.out.reads.len;exact ⟨a,_,c,e⟩
   go_wp2
   go_ret
   exact ⟨_,_,_,rfl,HOWN.out,HBL.out⟩
theorem and1 (i:Nat) (h:i<=2097152):bits .and .i64 (i:Int) 1=((i % 2:Nat):Int):=by
 show IntKind.i64.wrap ((BitVec.ofInt 64 (i:Int) &&& BitVec.ofInt 64 ((1:Nat):Int)).toNat:Int)=_
 have e:i &&& 1=i % 2:=Nat.and_two_pow_sub_one_eq_mod i 1
 rw [BitVec.toNat_and,ofInt_u64 i (by omega),ofInt_u64 1 (by omega),e,IntKind.wrap_i64]
 omega
theorem reads_cell {W:World}{g o n c:Nat}{F:Nat->Value} (h:Reads1 W (.slice (some ⟨g,o,none⟩) n c) ((List.range n).map F)) (j:Nat) (hj:j < n):W.cell? ⟨g,o+j,none⟩=some (F j):=by
 obtain ⟨a,c2,e1,hc⟩:=reads_at h
 injection e1 with e1 _ _
 obtain ⟨b',o',e3,h3⟩:=hc j hj
 rw [e3] at e1
 injection e1 with e1
 injection e1 with ea eb _
 subst ea;subst eb
 exact h3
structure NumV (v:Value) (k:Int) (n:Nat) (F:Nat->Nat) (w:World):Prop where
 cls:Calls Tryz.prog 58 #[v] w fun e w2=>e= .returned (.int .i64 0)/\Below w.heap.size w w2
 len:Calls Tryz.prog 85 #[v] w fun e w2=>e= .returned (.int .i64 n)/\Below w.heap.size w w2
 num:∀ j,j < n->Calls Tryz.prog 136 #[v,.int .i64 (j:Nat)] w fun e w2=>e= .returned (.float .f64 (F j))/\Below w.heap.size w w2
 wholeI:k≠4->∀ j,j < n->∀ z,Good z->F j=fi z->Calls Tryz.prog 160 #[v,.int .i64 (j:Nat)] w fun e w2=>e= .returned (.tuple #[.int .i64 z,.bool true])/\Below w.heap.size w w2
 wholeF:k=4->∀ j,j < n->Calls Tryz.prog 160 #[v,.int .i64 (j:Nat)] w fun e w2=>e= .returned (.tuple #[.int .i64 0,.bool false])/\Below w.heap.size w w2
 ints:k≠4->∀ j,j < n->∃ z,Good z/\F j=fi z
 tf:∀ j,j < n->TF (F j)
 kind:k=1\/k=2\/k=3\/k=4
 bitsX:k=1->∃ (l:Nat->Bool) (s:Value),v=vecV 1 s n vnil vnil vnil vnil vnil/\BitsIn w (.agg #[s,.int .i64 (n:Int)]) n l/\∀ j,j < n->F j=flagF (l j)
 intsX:k=3->∃ (L:Nat->Int) (s:Value),v=vecV 3 vnil 0 vnil s vnil vnil vnil/\Reads1 w s ((List.range n).map fun j => .int .i64 (L j))/\∀ j,j < n->F j=fi (L j)/\Good (L j)
 shape:∃ (b:Value) (bn:Int) (s i f c x:Value),v=vecV k b bn s i f c x
theorem in_1 (s:Value) (len:Nat) (sm i f c x:Value) (j:Nat) (hj:j < len) (w:World) :
  Calls Tryz.prog 145 #[vecV 1 s len sm i f c x,.int .i64 (j:Int)] w fun e w'=>e= .returned (.bool true)/\Below w.heap.size w w':=by
 have HL:=Lib.hid (fun W=>len_1 s len sm i f c x W)
 have h0:(0:Int)<=(j:Int):=by omega
 have h1:(j:Int) < (len:Int):=by omega
 go_enter Tryz.func145,Tryz.ntmps145
 go_wp2_with fail
 refine (HL.out _).mono ?_
 rintro e w1 ⟨rfl,hb1⟩
 have HB:=Lib.hid (bel_both (bel1 w _) hb1)
 clear hb1
 go_wp2
 go_ret
 exact ⟨by simp,HB.out⟩
theorem num_1 (s:Value) (len:Nat) (sm i f c x:Value) (j:Nat) (hj:j < len) (t:Bool) (w:World)
  (ha:∀ W,Below w.heap.size w W->Calls Tryz.prog 207 #[.agg #[s,.int .i64 (len:Int)],.int .i64 (j:Int)] W fun e w'=>e= .returned (.bool t)/\Below W.heap.size W w') :
  Calls Tryz.prog 136 #[vecV 1 s len sm i f c x,.int .i64 (j:Int)] w fun e w'=>e= .returned (.float .f64 (flagF t))/\Below w.heap.size w w':=by
 have HA:=Lib.hid ha
 have HI:=Lib.hid (fun W=>in_1 s len sm i f c x j hj W)
 clear ha
 go_enter Tryz.func136,Tryz.ntmps136
 go_wp2_with fail
 refine (HI.out _).mono ?_
 rintro e w1 ⟨rfl,hb1⟩
 have HB1:=Lib.hid (bel_both (bel1 w _) hb1)
 obtain ⟨h0,h1,h2,h3,h4,h5,h6,h7⟩:=(boxed_new w 37 1 s len sm i f c x).below hb1
 clear hb1
 go_wp2_with fail
 refine (HA.out _ HB1.out).mono ?_
 rintro e w2 ⟨rfl,hb2⟩
 have HB2:=Lib.hid (bel_both HB1.out hb2)
 clear hb2 h0 h1 h2 h3 h4 h5 h6 h7
 go_wp2_with fail
 refine (flag_any _ _).mono ?_
 rintro e w3 ⟨rfl,rfl⟩
 go_wp2
 go_ret
 exact ⟨rfl,HB2.out⟩
theorem vwhole_1 (s:Value) (len:Nat) (sm i f c x:Value) (j:Nat) (hj:j < len) (t:Bool) (w:World)
  (ha:∀ W,Below w.heap.size w W->Calls Tryz.prog 207 #[.agg #[s,.int .i64 (len:Int)],.int .i64 (j:Int)] W fun e w'=>e= .returned (.bool t)/\Below W.heap.size W w') :
  Calls Tryz.prog 160 #[vecV 1 s len sm i f c x,.int .i64 (j:Int)] w fun e w'=>e= .returned (.tuple #[.int .i64 (if t then 1 else 0),.bool true])/\Below w.heap.size w w':=by
 have HA:=Lib.hid ha
 have HI:=Lib.hid (fun W=>in_1 s len sm i f c x j hj W)
 clear ha
 cases t
 all_goals
  go_enter Tryz.func160,Tryz.ntmps160
  go_wp2_with fail
  refine (HI.out _).mono ?_
  rintro e w1 ⟨rfl,hb1⟩
  have HB1:=Lib.hid (bel_both (bel1 w _) hb1)
  obtain ⟨h0,h1,h2,h3,h4,h5,h6,h7⟩:=(boxed_new w 37 1 s len sm i f c x).below hb1
  clear hb1
  go_wp2_with fail
  refine (HA.out _ HB1.out).mono ?_
  rintro e w2 ⟨rfl,hb2⟩
  have HB2:=Lib.hid (bel_both HB1.out hb2)
  clear hb2 h0 h1 h2 h3 h4 h5 h6 h7
  go_wp2
  go_ret2
  exact ⟨rfl,HB2.out⟩
theorem fi_one:fi 1=one:=by decide+kernel
theorem flagF_fi (t:Bool):flagF t=fi (if t then 1 else 0):=by
 cases t
 ·exact fi_zero.symm
 ·exact fi_one.symm
theorem good_flag (t:Bool):Good (if t then 1 else 0):=by cases t <;> decide
def BitV (n:Nat) (l:Nat->Bool) (u:Value) (W:World):Prop:=∃ s,u=vecV 1 s n vnil vnil vnil vnil vnil/\BitsIn W (.agg #[s,.int .i64 (n:Int)]) n l
def Small8V (n:Nat) (l:Nat->Int) (u:Value) (W:World):Prop:=Small8 n l u W/\∀ j,j < n->-128<=l j/\l j<=127
def IntV (n:Nat) (l:Nat->Int) (u:Value) (W:World):Prop:=(∃ s,u=vecV 3 vnil 0 vnil s vnil vnil vnil/\Reads1 W s ((List.range n).map fun j => .int .i64 (l j)))/\∀ j,j < n->Good (l j)
def FloatV (n:Nat) (F:Nat->Nat) (u:Value) (W:World):Prop:=(∃ s,u=vecV 4 vnil 0 vnil vnil s vnil vnil/\Reads1 W s ((List.range n).map fun j => .float .f64 (F j)))/\∀ j,j < n->TF (F j)
theorem bitV_at {n:Nat}{l:Nat->Bool}{s:Value}{W:World} (hn:n<=1048576) (hr:BitsIn W (.agg #[s,.int .i64 (n:Int)]) n l) (j:Nat) (hj:j < n) :
  Calls Tryz.prog 207 #[.agg #[s,.int .i64 (n:Int)],.int .i64 (j:Int)] W fun e w'=>e= .returned (.bool (l j))/\Below W.heap.size W w':=by
 obtain ⟨b,o,c,ev,hc⟩:=hr
 have es:s= .slice (some ⟨b,o,none⟩) ((n+63) / 64) c:=by
  injection ev with ev
  have:=congrArg (fun x:Array Value=>x.getD 0 undef) ev
  exact this
 subst es
 have hcell:=hc (j / 64) (by omega)
 have h:=bat_any b o ((n+63) / 64) c n j _ W hj hn (by omega) hcell (packW_lt l n (j / 64))
 have e:(packW l n (j / 64)).testBit (j % 64)=l j:=by
  rw [packW_bit _ _ _ _ (Nat.mod_lt _ (by decide)),show 64*(j / 64)+j % 64=j by omega]
  simp [hj]
 rw [e] at h
 exact h
theorem numV_bits {n:Nat}{l:Nat->Bool}{u:Value}{W:World} (hn:n<=1048576) (h:BitV n l u W):NumV u 1 n (fun j=>flagF (l j)) W:=by
 obtain ⟨s,rfl,hr⟩:=h
 refine ⟨class_1 _ _ _ _ _ _ _ _,len_1 _ _ _ _ _ _ _ _,fun j hj=>num_1 _ _ _ _ _ _ _ j hj (l j) W (fun W' hb=>bitV_at hn (hr.below hb) j hj),fun _ j hj z hz e=>?_,fun h=>absurd h (by decide),fun _ j _=>⟨_,good_flag (l j),flagF_fi (l j)⟩,fun j _=>tf_flag _,.inl rfl,fun _=>⟨l,s,rfl,hr,fun _ _=>rfl⟩,fun h=>absurd h (by decide),⟨_,_,_,_,_,_,_,rfl⟩⟩
 have e2:z=if l j then 1 else 0:=fi_inj hz (good_flag _) (by rw [<- flagF_fi];exact e.symm)
 rw [e2]
 exact vwhole_1 _ _ _ _ _ _ _ j hj (l j) W fun W' hb=>bitV_at hn (hr.below hb) j hj
theorem numV_small {n:Nat}{l:Nat->Int}{u:Value}{W:World} (h:Small8V n l u W):NumV u 2 n (fun j=>fi (l j)) W:=by
 obtain ⟨⟨s,rfl,hr⟩,hl⟩:=h
 have hg:∀ j,j < n->Good (l j):=fun j hj=>by have:=hl j hj;exact ⟨by omega,by omega⟩
 obtain ⟨a,c,rfl,hc⟩:=reads_at hr
 refine ⟨class_2 _ _ _ _ _ _ _ _,len_2 _ _ _ _ _ _ _ _ _ _,fun j hj=>?_,fun _ j hj z hz e=>?_,fun h=>absurd h (by decide),fun _ j hj=>⟨_,hg j hj,rfl⟩,fun j hj=>tf_fi (hg j hj),.inr (.inl rfl),fun h=>absurd h (by decide),fun h=>absurd h (by decide),⟨_,_,_,_,_,_,_,rfl⟩⟩
 ·obtain ⟨b,o,rfl,hcell⟩:=hc j hj
  exact num_2 _ _ _ _ _ _ _ _ _ _ j hj _ W hcell
 ·obtain ⟨b,o,rfl,hcell⟩:=hc j hj
  have e2:z=l j:=fi_inj hz (hg j hj) e.symm
  rw [e2]
  exact vwhole_2 _ _ _ _ _ _ _ _ _ _ j hj _ (hl j hj).1 (hl j hj).2 W hcell
theorem numV_ints {n:Nat}{l:Nat->Int}{u:Value}{W:World} (h:IntV n l u W):NumV u 3 n (fun j=>fi (l j)) W:=by
 obtain ⟨⟨s,rfl,hr⟩,hg⟩:=h
 obtain ⟨a,c,rfl,hc⟩:=reads_at hr
 refine ⟨class_3 _ _ _ _ _ _ _ _,len_3 _ _ _ _ _ _ _ _ _ _,fun j hj=>?_,fun _ j hj z hz e=>?_,fun h=>absurd h (by decide),fun _ j hj=>⟨_,hg j hj,rfl⟩,fun j hj=>tf_fi (hg j hj),.inr (.inr (.inl rfl)),fun h=>absurd h (by decide),fun _=>⟨l,_,rfl,hr,fun j hj=>⟨rfl,hg j hj⟩⟩,⟨_,_,_,_,_,_,_,rfl⟩⟩
 ·obtain ⟨b,o,rfl,hcell⟩:=hc j hj
  exact num_3 _ _ _ _ _ _ _ _ _ _ j hj _ W hcell
 ·obtain ⟨b,o,rfl,hcell⟩:=hc j hj
  have e2:z=l j:=fi_inj hz (hg j hj) e.symm
  rw [e2]
  exact vwhole_3 _ _ _ _ _ _ _ _ _ _ j hj _ W hcell
theorem numV_floats {n:Nat}{F:Nat->Nat}{u:Value}{W:World} (h:FloatV n F u W):NumV u 4 n F W:=by
 obtain ⟨⟨s,rfl,hr⟩,ht⟩:=h
 obtain ⟨a,c,rfl,hc⟩:=reads_at hr
 refine ⟨class_4 _ _ _ _ _ _ _ _,len_4 _ _ _ _ _ _ _ _ _ _,fun j hj=>?_,fun h=>absurd rfl h,fun _ j hj=>?_,fun h=>absurd rfl h,ht,.inr (.inr (.inr rfl)),fun h=>absurd h (by decide),fun h=>absurd h (by decide),⟨_,_,_,_,_,_,_,rfl⟩⟩
 ·obtain ⟨b,o,rfl,hcell⟩:=hc j hj
  exact num_4 _ _ _ _ _ _ _ _ _ _ j hj _ W hcell
 ·obtain ⟨b,o,rfl,hcell⟩:=hc j hj
  exact vwhole_4 _ _ _ _ _ _ _ _ _ _ j hj W
noncomputable def rankF (b:Nat):Nat:=match wholeP b with
 | some z=>rankS z
 | none=>4
theorem rankF_fi {z:Int} (h:Good z):rankF (fi z)=rankS z:=by unfold rankF;rw [wholeP_fi h]
theorem rankF_no {b:Nat} (h:wholeP b=none):rankF b=4:=by unfold rankF;rw [h]
theorem rankF_le (b:Nat):1<=rankF b/\rankF b<=4:=by
 unfold rankF
 split
 ·rename_i z _;have:=rankS_le z;omega
 ·omega
noncomputable def leastF (F:Nat->Nat):Nat->Nat
 | 0=>1
 | k+1=>max (leastF F k) (rankF (F k))
theorem leastF_le (F:Nat->Nat) (k:Nat):1<=leastF F k/\leastF F k<=4:=by
 induction k with
 | zero=>simp [leastF]
 | succ k ih=>have:=rankF_le (F k);unfold leastF;omega
theorem leastF_mono (F:Nat->Nat){a b:Nat} (h:a<=b):leastF F a<=leastF F b:=by
 induction b with
 | zero =>
      have:a=0:=by omega
      subst this;exact Nat.le_refl _
 | succ b ih =>
  by_cases e:a=b+1
  ·subst e;exact Nat.le_refl _
  ·have h1:=ih (by omega)
   have h2:leastF F (b+1)=max (leastF F b) (rankF (F b)):=rfl
   omega
theorem leastF_rank (F:Nat->Nat){i n:Nat} (h:i < n):rankF (F i)<=leastF F n:=by
 have h1:=leastF_mono F (show i+1<=n by omega)
 have h2:leastF F (i+1)=max (leastF F i) (rankF (F i)):=rfl
 omega
theorem leastF_ints (F:Nat->Nat) (n:Nat) (h:∀ j,j < n->∃ z,Good z/\F j=fi z):leastF F n<=3:=by
 induction n with
 | zero=>simp [leastF]
 | succ k ih =>
  have h1:=ih fun j hj=>h j (by omega)
  obtain ⟨z,hz,e⟩:=h k (by omega)
  have h2:leastF F (k+1)=max (leastF F k) (rankF (F k)):=rfl
  rw [e,rankF_fi hz] at h2
  have:=rankS_le z
  omega
theorem least_whole (k:Int) (hk:k=1\/k=2\/k=3) (b:Value) (bn:Int) (s i f c x:Value) (n:Nat) (F:Nat->Nat) (w:World) (hn:n<=1048576)
  (hN:∀ W,Below w.heap.size w W->NumV (vecV k b bn s i f c x) k n F W) :
  Calls Tryz.prog 217 #[vecV k b bn s i f c x] w fun e w'=>e= .returned (.int .i64 (leastF F n:Nat))/\Below w.heap.size w w':=by
 have HK:=Lib.hid (fun W=>kind_any k b bn s i f c x W)
 have HN:=Lib.hid hN
 have H4:Hid (k≠4):=by show k≠4;omega
 have k0:(k==0)=false:=by simp;omega
 have HLE:=Lib.hid (leastF_ints F n ((hN w (Below.refl _ _)).ints (by omega)))
 clear hN
 go_enter Tryz.func217,Tryz.ntmps217
 go_wp2_with fail
 refine (HN.out _ (bel1 w _)).cls.mono ?_
 rintro e w1 ⟨rfl,hb1⟩
 have HX1:=Lib.hid ((boxed_new w 37 k b bn s i f c x).below hb1)
 have HB1:=Lib.hid (bel_both (bel1 w _) hb1)
 clear hb1
 obtain ⟨h0,h1,h2,h3,h4,h5,h6,h7⟩:=HX1.out
 go_wp2_with fail
 refine (HK.out _).mono ?_
 rintro e w2 ⟨rfl,hb2⟩
 have HX2:=Lib.hid (HX1.out.below hb2)
 have HB2:=Lib.hid (bel_both HB1.out hb2)
 clear hb2 h0 h1 h2 h3 h4 h5 h6 h7 HX1 HB1
 obtain ⟨h0,h1,h2,h3,h4,h5,h6,h7⟩:=HX2.out
 go_wp2_with fail
 refine (HN.out _ HB2.out).len.mono ?_
 rintro e w3 ⟨rfl,hb3⟩
 have HX3:=Lib.hid (HX2.out.below hb3)
 have HB3:=Lib.hid (bel_both HB2.out hb3)
 clear hb3 h0 h1 h2 h3 h4 h5 h6 h7 HX2 HB2
 go_wp2_with fail
 go_loopw [3,19] (fun q j wr=>∃ m:Nat,m<=n/\j= .int .i64 m/\q= .int .i64 (leastF F m:Nat)/\Below w.heap.size w wr/\Boxed wr w.heap.size k b bn s i f c x) (fun _ j _=>n - (intOf j).toNat)
 case atStart=>exact ⟨0,Nat.zero_le _,rfl,rfl,HB3.out,HX3.out⟩
 case round =>
  obtain ⟨m,hm,rfl,rfl,hbl,hx⟩:=hrel
  have HBL:=Lib.hid hbl
  have HX:=Lib.hid hx
  clear hbl
  by_cases hlt:m < n
  ·obtain ⟨h0,h1,h2,h3,h4,h5,h6,h7⟩:=hx
   obtain ⟨z,hz,hFz⟩:=(HN.out _ HBL.out).ints H4.out m hlt
   have HM:Hid (leastF F (m+1)=max (leastF F m) (rankS z)):=by
    show _=_
    rw [<- rankF_fi hz,<- hFz]
    rfl
   have HM3:=Lib.hid (leastF_mono F (show m+1<=n by omega))
   have HR:=Lib.hid (rank_any z)
   have HWM:=Lib.hid ((HN.out _ HBL.out).wholeI H4.out m hlt z hz hFz)
   have HL4:=Lib.hid (leastF_le F m)
   have HR4:=Lib.hid (rankS_le z)
   clear hFz hz
   go_wp2_with fail
   refine HWM.out.mono ?_
   rintro e w4 ⟨rfl,hb4⟩
   have HX4:=Lib.hid (HX.out.below hb4)
   have HB4:=Lib.hid (bel_both HBL.out hb4)
   clear hb4 h0 h1 h2 h3 h4 h5 h6 h7 HX
   obtain ⟨h0,h1,h2,h3,h4,h5,h6,h7⟩:=HX4.out
   generalize leastF F m=p at *
   generalize rankS z=r at *
   go_wp2_with fail
   refine (HR.out _).mono ?_
   rintro e w5 ⟨rfl,rfl⟩
   go_wp2_with fail
   case isTrue h3 =>
    refine (HK.out _).mono ?_
    rintro e w6 ⟨rfl,hb6⟩
    have HB6:=Lib.hid (bel_both HB4.out hb6)
    have HX6:=Lib.hid (HX4.out.below hb6)
    have HE:Hid (((leastF F n:Nat):Int)=3):=by
     have e1:=HM.out
     have e2:=HM3.out
     have e3:=HLE.out
     show _=_
     omega
    clear hb6
    by_cases hk3:k=3
    ·have ek:(k==3)=true:=by simpa using hk3
     clear hk3
     go_wp2
     go_ret
     exact ⟨by rw [HE.out];rfl,HB6.out⟩
    ·have ek:(k==3)=false:=by simpa using hk3
     clear hk3
     go_wp2
     go_roundw
     case rel=>exact ⟨m+1,by omega,by go_num,by rw [HM.out];exact congrArg _ (by omega),HB6.out,HX6.out⟩
     case measure=>simp [intOf];omega
   case roundEnd h3 =>
    exact ⟨⟨m+1,by omega,by go_num,by rw [HM.out];exact congrArg _ (by omega),HB4.out,HX4.out⟩,by simp [intOf];omega⟩
  ·obtain rfl:m=n:=by omega
   clear hx
   go_wp2
   go_ret
   exact ⟨rfl,HBL.out⟩
theorem least_float (b:Value) (bn:Int) (s i f c x:Value) (n:Nat) (F:Nat->Nat) (w:World) (hn:n<=1048576)
  (hN:∀ W,Below w.heap.size w W->NumV (vecV 4 b bn s i f c x) 4 n F W) :
  Calls Tryz.prog 217 #[vecV 4 b bn s i f c x] w fun e w'=>e= .returned (.int .i64 (leastF F n:Nat))/\Below w.heap.size w w':=by
 have HK:=Lib.hid (fun W=>kind_any 4 b bn s i f c x W)
 have HN:=Lib.hid hN
 clear hN
 go_enter Tryz.func217,Tryz.ntmps217
 go_wp2_with fail
 refine (HN.out _ (bel1 w _)).cls.mono ?_
 rintro e w1 ⟨rfl,hb1⟩
 have HX1:=Lib.hid ((boxed_new w 37 4 b bn s i f c x).below hb1)
 have HB1:=Lib.hid (bel_both (bel1 w _) hb1)
 clear hb1
 obtain ⟨h0,h1,h2,h3,h4,h5,h6,h7⟩:=HX1.out
 go_wp2_with fail
 refine (HK.out _).mono ?_
 rintro e w2 ⟨rfl,hb2⟩
 have HX2:=Lib.hid (HX1.out.below hb2)
 have HB2:=Lib.hid (bel_both HB1.out hb2)
 clear hb2 h0 h1 h2 h3 h4 h5 h6 h7 HX1 HB1
 obtain ⟨h0,h1,h2,h3,h4,h5,h6,h7⟩:=HX2.out
 go_wp2_with fail
 refine (HN.out _ HB2.out).len.mono ?_
 rintro e w3 ⟨rfl,hb3⟩
 have HX3:=Lib.hid (HX2.out.below hb3)
 have HB3:=Lib.hid (bel_both HB2.out hb3)
 clear hb3 h0 h1 h2 h3 h4 h5 h6 h7 HX2 HB2
 go_wp2_with fail
 go_loopw [3,19] (fun q j wr=>∃ m:Nat,m<=n/\j= .int .i64 m/\q= .int .i64 (leastF F m:Nat)/\Below w.heap.size w wr/\Boxed wr w.heap.size 4 b bn s i f c x) (fun _ j _=>n - (intOf j).toNat)
 case atStart=>exact ⟨0,Nat.zero_le _,rfl,rfl,HB3.out,HX3.out⟩
 case round =>
  obtain ⟨m,hm,rfl,rfl,hbl,hx⟩:=hrel
  have HBL:=Lib.hid hbl
  have HX:=Lib.hid hx
  clear hbl
  by_cases hlt:m < n
  ·obtain ⟨h0,h1,h2,h3,h4,h5,h6,h7⟩:=hx
   have HTF:=Lib.hid ((HN.out _ HBL.out).tf m hlt)
   have HWF:=Lib.hid ((HN.out _ HBL.out).wholeF rfl m hlt)
   go_wp2_with fail
   refine HWF.out.mono ?_
   rintro e w4 ⟨rfl,hb4⟩
   have HX4':=Lib.hid (HX.out.below hb4)
   have HB4':=Lib.hid (bel_both HBL.out hb4)
   clear hb4 h0 h1 h2 h3 h4 h5 h6 h7 HX
   obtain ⟨h0,h1,h2,h3,h4,h5,h6,h7⟩:=HX4'.out
   go_wp2_with fail
   refine ((HN.out _ HB4'.out).num m hlt).mono ?_
   rintro e w4b ⟨rfl,hb4⟩
   have HX4:=Lib.hid (HX4'.out.below hb4)
   have HB4:=Lib.hid (bel_both HB4'.out hb4)
   clear hb4 h0 h1 h2 h3 h4 h5 h6 h7 HX4' HB4'
   rcases whole_cases HTF.out with ⟨z,hz,hFz,hwz⟩ | ⟨hno,t,Z,hZ,hFz,hnw⟩
   rotate_left
   ·have HNO:=Lib.hid (fun W=>nwhole_no t hZ hnw W)
    have HE:Hid (((leastF F n:Nat):Int)=4):=by
     have e1:=leastF_rank F hlt
     rw [rankF_no hno] at e1
     have e2:=leastF_le F n
     show _=_
     omega
    rw [hFz]
    clear hFz hno hZ hnw
    go_wp2_with fail
    refine (HNO.out _).mono ?_
    rintro e w5 ⟨⟨zz,rfl⟩,rfl⟩
    go_wp2
    go_ret
    exact ⟨by rw [HE.out];rfl,HB4.out⟩
   have HM:Hid (leastF F (m+1)=max (leastF F m) (rankS z)):=by
    show _=_
    rw [<- rankF_fi hz,<- hFz]
    rfl
   have HR:=Lib.hid (rank_any z)
   have HWZ:=Lib.hid (fun W=>nwhole_fi z hz W)
   rw [hFz]
   clear hFz hz hwz
   go_wp2_with fail
   refine (HWZ.out _).mono ?_
   rintro e w5 ⟨rfl,rfl⟩
   obtain ⟨h0,h1,h2,h3,h4,h5,h6,h7⟩:=HX4.out
   generalize leastF F m=p at *
   generalize rankS z=r at *
   go_wp2_with fail
   refine (HR.out _).mono ?_
   rintro e w5 ⟨rfl,rfl⟩
   go_wp2_with fail
   case isTrue h3 =>
    refine (HK.out _).mono ?_
    rintro e w6 ⟨rfl,hb6⟩
    have HB6:=Lib.hid (bel_both HB4.out hb6)
    have HX6:=Lib.hid (HX4.out.below hb6)
    clear hb6
    go_wp2
    go_roundw
    case rel=>exact ⟨m+1,by omega,by go_num,by rw [HM.out];exact congrArg _ (by omega),HB6.out,HX6.out⟩
    case measure=>simp [intOf];omega
   case roundEnd h3 =>
    exact ⟨⟨m+1,by omega,by go_num,by rw [HM.out];exact congrArg _ (by omega),HB4.out,HX4.out⟩,by simp [intOf];omega⟩
  ·obtain rfl:m=n:=by omega
   clear hx
   go_wp2
   go_ret
   exact ⟨rfl,HBL.out⟩
theorem vbits_any (a:Option Addr) (m c:Nat) (len:Int) (w:World) :
  Calls Tryz.prog 137 #[.agg #[.slice a m c,.int .i64 len]] w fun e w'=>e= .returned (vecV 1 (.slice a m c) len vnil vnil vnil vnil vnil)/\Below w.heap.size w w':=by
 have HK:=Lib.hid (heap_alloc_new (w.alloc (.cells #[.slice a m c,.int .i64 len] 30)) (.cells #[.int .i64 1,.slice a m c,.int .i64 len,vnil,vnil,vnil,vnil,vnil] 37))
 go_enter Tryz.func137,Tryz.ntmps137
 go_wp2
 exact bodyPost_ret (ret_vec rfl _ _ _ rfl (by have h:=HK.out;simpa using h)) rfl ⟨rfl,bel2 _ _ _⟩
theorem info_bool:(Tryz.prog.info? 4).map (fun i=>(i.zero,i.size,i.bytes))=some (some (.bool false),1,1):=by kernel_rfl
def NoVec (w:World) (e:Ending) (w':World):Prop:=e= .returned (.tuple #[vecV 0 vnil 0 vnil vnil vnil vnil vnil,.bool false])/\Below w.heap.size w w'
def YesBits (n:Nat) (l:Nat->Bool) (w:World) (e:Ending) (w':World):Prop :=
 ∃ g,e= .returned (.tuple #[vecV 1 (.slice (some ⟨g,0,none⟩) ((n+63) / 64) ((n+63) / 64)) n vnil vnil vnil vnil vnil,.bool true])/\RowU w' w.heap.size g ((n+63) / 64) (packW l n)/\Below w.heap.size w w'
theorem first_bad (p:Nat->Bool) (n:Nat):(∀ j,j < n->p j=true)\/∃ K,K < n/\p K=false/\∀ j,j < K->p j=true:=by
 induction n with
 | zero=>exact .inl fun j hj=>absurd hj (Nat.not_lt_zero _)
 | succ n ih =>
  rcases ih with h | ⟨K,h1,h2,h3⟩
  ·cases hp:p n with
   | true =>
    refine .inl fun j hj=>?_
    by_cases e:j=n
    ·rw [e];exact hp
    ·exact h j (by omega)
   | false=>exact .inr ⟨n,by omega,hp,h⟩
  ·exact .inr ⟨K,by omega,h2,h3⟩
def BitsOut (n K:Nat) (F:Nat->Nat) (w:World) (e:Ending) (w':World):Prop:=(K=n/\YesBits n (fun j=>tv (F j)) w e w')\/(K < n/\NoVec w e w')
theorem intoBits_any (k:Int) (b:Value) (bn:Int) (s i f c x:Value) (n K:Nat) (F:Nat->Nat) (w:World) (hn:n<=1048576)
  (hN:∀ W,Below w.heap.size w W->NumV (vecV k b bn s i f c x) k n F W) (hK:K<=n) (hyes:∀ j,j < K->isT (F j)=true) (hno:K < n->isT (F K)=false) :
  Calls Tryz.prog 256 #[vecV k b bn s i f c x] w (BitsOut n K F w):=by
 have HN:=Lib.hid hN
 have HY:=Lib.hid hyes
 have HNO:=Lib.hid hno
 have hmk:=run_make_row' (P:=Tryz.prog) 242 4 (.bool false) 1 Tryz.underlying242 info_bool rfl .i64 .i64 n (by omega) (by omega)
 clear hN hyes hno
 go_enter Tryz.func256,Tryz.ntmps256
 go_wp2_with fail
 refine (HN.out _ (bel2 w _ _)).len.mono ?_
 rintro e w1 ⟨rfl,hb1⟩
 have HS1:=Lib.hid ((St.new w k b bn s i f c x).step hb1)
 clear hb1
 have HGN:Hid (w.heap.size+2<=w1.heap.size):=HS1.out.sz
 have HF0:=Lib.hid (Fill.made w1 (w.heap.size+2) HS1.out.sz 4 (fun j => .bool (tv (F j))) (.bool false) n (by unfold maxLen;omega))
 have HSM:=Lib.hid (HS1.out.al (.cells (madeCells #[.bool false] n) 4))
 go_wp2_with fail
 go_loopw [13] (fun j wr=>∃ m:Nat,m<=K/\j= .int .i64 m/\Fill wr (w.heap.size+2) w1.heap.size 4 (fun j => .bool (tv (F j))) (.bool false) n m/\St w wr k b bn s i f c x) (fun j _=>n - (intOf j).toNat)
 case atStart=>exact ⟨0,Nat.zero_le _,rfl,HF0.out,HSM.out⟩
 case round =>
  clear hmk HF0 HSM HS1
  obtain ⟨m,hm,rfl,hf,hst⟩:=hrel
  have HF:=Lib.hid hf
  have HST:=Lib.hid hst
  clear hf hst
  by_cases hlt:m < n
  ·obtain ⟨h0,h1,h2,h3,h4,h5,h6,h7⟩:=HST.out.box
   have HTR:=Lib.hid (fun W=>truth_any (F m) ((HN.out _ HST.out.bel).tf m hlt) W)
   have hlt2:(m:Int) < (n:Int):=by omega
   go_wp2_with fail
   refine ((HN.out _ HST.out.bel).num m hlt).mono ?_
   rintro e w3 ⟨rfl,hb3⟩
   have HS3:=Lib.hid (HST.out.step hb3)
   have HF3:=Lib.hid (HF.out.below hb3)
   clear hb3 h0 h1 h2 h3 h4 h5 h6 h7
   by_cases hmK:m < K
   ·rw [HY.out m hmK] at HTR
    have HP3:=Lib.hid (HF3.out.put hlt)
    have HS3':=Lib.hid (HS3.out.put (g:=w1.heap.size) (j:=m) HGN.out (.bool (tv (F m))))
    have hc3:=HF3.out.cell hlt
    have hz3:=HF3.out.frozen m
    generalize tv (F m)=t at *
    go_wp2_with fail
    refine (HTR.out _).mono ?_
    rintro e w4 ⟨rfl,rfl⟩
    go_wp2
    go_roundw
    case rel=>exact ⟨m+1,by omega,by go_num,HP3.out,HS3'.out⟩
    case measure=>simp [intOf];omega
   ·obtain rfl:m=K:=by omega
    rw [HNO.out hlt] at HTR
    generalize tv (F m)=t at *
    go_wp2_with fail
    refine (HTR.out _).mono ?_
    rintro e w4 ⟨rfl,rfl⟩
    obtain ⟨⟨h0,h1,h2,h3,h4,h5,h6,h7⟩,hz⟩:=boxed_of HS3.out.res
    go_wp2
    refine bodyPost_ret (v := .tuple #[vecV 0 vnil 0 vnil vnil vnil vnil vnil,.bool false]) ?_ rfl (.inr ⟨hlt,rfl,below_set8 HS3.out.bel (Nat.le_succ _) _ _ _ _ _ _ _ _⟩)
    exact ret_vec2 (fn:=Tryz.f256) (p:=2) (u:=3) rfl _ _ (w.heap.size+1) (by rfl) (set8_block HS3.out.res _ _ _ _ _ _ _ _)
  ·obtain rfl:m=n:=by omega
   obtain rfl:K=m:=by omega
   have HPK:=Lib.hid (pack_any w1.heap.size 0 K K (fun j=>tv (F j)) hn (Nat.le_refl _) wr (fun i hi=>by rw [Nat.zero_add];exact HF.out.done i hi (Nat.le_refl _)))
   go_wp2_with fail
   refine HPK.out.mono ?_
   rintro e w4 ⟨g,rfl,hr4,hb4⟩
   have HS4:=Lib.hid (HST.out.step hb4)
   have HR4:=Lib.hid (hr4.lower (show w.heap.size+2<=wr.heap.size from HST.out.sz))
   clear hb4 hr4
   go_wp2_with fail
   refine (vbits_any _ _ _ _ _).mono ?_
   rintro e w5 ⟨rfl,hb5⟩
   have HS5:=Lib.hid (HS4.out.step hb5)
   have HR5:=Lib.hid (HR4.out.below hb5)
   clear hb5
   obtain ⟨⟨h0,h1,h2,h3,h4,h5,h6,h7⟩,hz⟩:=boxed_of HS5.out.res
   have hgl:w.heap.size+2<=g:=HR5.out.low.1
   go_wp2
   refine bodyPost_ret (v := .tuple #[vecV 1 (.slice (some ⟨g,0,none⟩) ((K+63) / 64) ((K+63) / 64)) (K:Nat) vnil vnil vnil vnil vnil,.bool true]) ?_ rfl (.inl ⟨rfl,g,rfl,?_,below_set8 HS5.out.bel (Nat.le_succ _) _ _ _ _ _ _ _ _⟩)
   ·exact ret_vec2 (fn:=Tryz.f256) (p:=2) (u:=3) rfl _ _ (w.heap.size+1) (by rfl) (set8_block HS5.out.res _ _ _ _ _ _ _ _)
   ·exact own_set8 (HR5.out.lower (by omega)) (by show some g≠_;intro e;injection e;omega) _ _ _ _ _ _ _ _
end Go.Proofs.YtiahegjdkejjpaaGreatDoor
