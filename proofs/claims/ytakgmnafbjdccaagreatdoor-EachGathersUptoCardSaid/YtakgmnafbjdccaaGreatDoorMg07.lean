/- The walks of bitvec's trim and Not. The walk of bitvec's .. Conditions: as each theorem says. -/
import Derived.Test.YtakgmnafbjdccaaGreatDoorMg06
set_option maxRecDepth 100000
set_option maxHeartbeats 2000000
namespace Go.Proofs.YtakgmnafbjdccaaGreatDoor
open Go Go.RowKit Go.Proofs Fl
def trimF (n M:Nat) (X:Nat->Nat) (j:Nat):Nat:=if n % 64≠0/\j+1=M then X j &&& (2 ^ (n % 64) - 1) else X j
theorem trimF_pack (n M:Nat) (X:Nat->Nat) (l:Nat->Bool) (hM:M=(n+63) / 64) (hX:∀ j,j < M->X j < 18446744073709551616) (h:∀ j,j < M->∀ m,m < 64->64*j+m < n->(X j).testBit m=l (64*j+m)):∀ j,j < M->trimF n M X j=packW l n j:=by
 intro j hj
 apply Nat.eq_of_testBit_eq
 intro m
 by_cases hm:m < 64
 ·rw [packW_bit _ _ _ _ hm]
  unfold trimF
  split
  ·rename_i hc
   rw [Nat.testBit_and,Nat.testBit_two_pow_sub_one]
   by_cases hin:64*j+m < n
   ·have h2:m < n % 64:=by omega
    rw [h j hj m hm hin];simp [hin,h2]
   ·have h2:¬ m < n % 64:=by omega
    simp [hin,h2]
  ·rename_i hc
   have hin:64*j+m < n:=by omega
   rw [h j hj m hm hin];simp [hin]
 ·rw [packW_high _ _ _ _ hm]
  refine Nat.testBit_lt_two_pow (Nat.lt_of_lt_of_le (m:=2 ^ 64) ?_ (Nat.pow_le_pow_right (by decide) (by omega)))
  unfold trimF
  split
  ·exact Nat.lt_of_le_of_lt Nat.and_le_left (hX j hj)
  ·exact hX j hj
theorem trim_any (B g n M:Nat) (X:Nat->Nat) (w:World) (hn:n<=1048576) (hM:M=(n+63) / 64) (hr:RowU w B g M X) (hX:∀ j,j < M->X j < 18446744073709551616) :
  Calls Tryz.prog 174 #[.agg #[.slice (some ⟨g,0,none⟩) M M,.int .i64 (n:Int)]] w fun e w'=>e= .returned (.tuple #[])/\RowU w' B g M (trimF n M X)/\Below B w w'/\∀ k,k < w.heap.size->k≠g->w'.heap[k]?=w.heap[k]?:=by
 have hlow:=hr.low
 have h63:=and63 n (by omega)
 have HR:=Lib.hid (hr.below (bel1 w (.cells #[.slice (some ⟨g,0,none⟩) M M,.int .i64 (n:Int)] 31)))
 have HB:=Lib.hid ((Below.refl B w).alloc (by omega) (.cells #[.slice (some ⟨g,0,none⟩) M M,.int .i64 (n:Int)] 31))
 by_cases h0:n % 64=0
 ·rw [h0] at h63
  have HS:=Lib.hid (HR.out.same (F':=trimF n M X) (fun j _=>by unfold trimF;rw [if_neg (by simp [h0])]))
  clear hr hX hM
  go_enter Tryz.func174,Tryz.ntmps174
  go_wp2
  go_end0
  exact ⟨rfl,HS.out,HB.out,fun k hk _=>Below.heap_alloc _ _ _ hk⟩
 ·obtain ⟨k,hk⟩:∃ k,M=k+1:=⟨M - 1,by omega⟩
  obtain ⟨r,er⟩:∃ r,r=n % 64:=⟨_,rfl⟩
  obtain ⟨p,ep⟩:∃ p,p=2 ^ r - 1:=⟨_,rfl⟩
  have hp2:2 ^ r<=2 ^ 63:=Nat.pow_le_pow_right (by decide) (by omega)
  have hp1:1<=2 ^ r:=Nat.one_le_two_pow
  have hpp:p+1<=9223372036854775808:=by omega
  have hpw:IntKind.u64.wrap ((2:Int) ^ r)=((p+1:Nat):Int):=by
   have e:((2:Int) ^ r)=((2 ^ r:Nat):Int):=by rw [Int.natCast_pow];rfl
   rw [e,wrap_u64_nat _ (by omega)]
   omega
  have hxk:=hX k (by omega)
  have hand:=u64_and_nat (X k) p hxk (by omega)
  have hPUT0:=hr.put (k:=k) (by omega) (X k &&& p) (F':=trimF n M X) (fun j _=>by
   unfold trimF
   by_cases e:j=k
   ·rw [if_pos ⟨h0,by omega⟩,if_pos e,e,ep,er]
   ·rw [if_neg (by omega),if_neg e])
  have hPUT:=hPUT0.below (bel1 _ (.cells #[.slice (some ⟨g,0,none⟩) M M,.int .i64 (n:Int)] 31))
  have HBP:=Lib.hid (((Below.refl B w).setCell (p:=⟨g,k,none⟩) hlow.1 (.int .u64 ((X k &&& p:Nat):Int))).alloc (Nat.le_trans (by omega:B<=w.heap.size) ((Below.refl B w).setCell (p:=⟨g,k,none⟩) hlow.1 (.int .u64 ((X k &&& p:Nat):Int))).size) (.cells #[.slice (some ⟨g,0,none⟩) M M,.int .i64 (n:Int)] 31))
  have hck:=HR.out.cell (k:=k) (by omega)
  have hfk:=HR.out.frozen k
  have HPUT:=Lib.hid hPUT
  have HSZ:Hid (∀ _:Nat,w.heap.size<=(w.setCell ⟨g,k,none⟩ (.int .u64 ((X k &&& p:Nat):Int))).heap.size):=fun _=>((Below.refl B w).setCell (p:=⟨g,k,none⟩) hlow.1 _).size
  rw [<- er] at h63
  have hr64:r < 64:=by omega
  have hr0:r≠0:=by omega
  have hMi:(M:Int) - 1=(k:Int):=by omega
  have hkM:k < M:=by omega
  have hMb:M<=16384:=by omega
  generalize trimF n M X=TX at *
  generalize X k=x at *
  generalize x &&& p=y at *
  clear hr hX hPUT hPUT0 ep er hp2 hp1 h0 hk hM
  go_enter Tryz.func174,Tryz.ntmps174
  go_wp2
  go_end0
  exact ⟨rfl,HPUT.out,HBP.out,fun k' hk' hne=>(Below.heap_alloc _ _ _ (Nat.lt_of_lt_of_le hk' (HSZ.out k'))).trans (Below.heap_setCell _ _ _ _ hne)⟩
theorem not_bit (x m:Nat) (hm:m < 64) (hx:x < 18446744073709551616):(18446744073709551615 - x).testBit m = !x.testBit m:=by
 have h:=Nat.testBit_two_pow_sub_succ (n:=64) (x:=x) hx m
 rw [show 2 ^ 64 - (x+1)=18446744073709551615 - x by omega] at h
 rw [h]
 simp [hm]
theorem not_u64 (x:Nat) (hx:x < 18446744073709551616):bits .xor .u64 (if IntKind.u64.signed=true then -1 else IntKind.u64.max) (x:Int)=((18446744073709551615 - x:Nat):Int):=by
 have h:=u64_xor_nat 18446744073709551615 x (by decide) hx
 have e:(18446744073709551615:Nat) ^^^ x=18446744073709551615 - x:=by
  apply Nat.eq_of_testBit_eq
  intro m
  rw [Nat.testBit_xor]
  have h1:=Nat.testBit_two_pow_sub_one 64 m
  rw [show (2:Nat) ^ 64 - 1=18446744073709551615 from rfl] at h1
  rw [h1]
  by_cases hm:m < 64
  ·rw [not_bit x m hm hx];simp [hm]
  ·have h2:x.testBit m=false:=Nat.testBit_lt_two_pow (Nat.lt_of_lt_of_le (m:=2 ^ 64) hx (Nat.pow_le_pow_right (by decide) (by omega)))
   have h3:(18446744073709551615 - x).testBit m=false:=Nat.testBit_lt_two_pow (Nat.lt_of_lt_of_le (m:=2 ^ 64) (by omega) (Nat.pow_le_pow_right (by decide) (by omega)))
   rw [h2,h3];simp [hm]
 rw [e] at h
 exact h
def NotMid (w:World) (X:Obj) (n:Int) (M:Nat) (p:Value) (wx:World):Prop :=
 ∃ V g,p= .pointer (some ⟨V,0,none⟩)/\RowU wx (w.heap.size+2) g M (fun _=>0)/\Below w.heap.size w wx/\wx.heap[w.heap.size]?=some X/\wx.heap[w.heap.size+1]?=some (.cells bcells 31)/\wx.heap[V]?=some (.cells #[.slice (some ⟨g,0,none⟩) M M,.int .i64 n] 31)/\V≠g/\w.heap.size+2<=V
theorem notMid_a (w:World) (X:Obj) (n:Int) (M:Nat) (hM:M<=maxLen):NotMid w X n M (.pointer (some ⟨w.heap.size+1+1,0,none⟩)) ((((w.alloc X).alloc (.cells bcells 31)).alloc (.cells #[.slice (some ⟨w.heap.size+1+1+1,0,none⟩) M M,.int .i64 n] 31)).alloc (.cells (madeCells #[.int .u64 0] M) 206)).drew:=by
 have hs1:(w.alloc X).heap.size=w.heap.size+1:=by simp
 have hs2:((w.alloc X).alloc (.cells bcells 31)).heap.size=w.heap.size+1+1:=by simp
 have hs3:(((w.alloc X).alloc (.cells bcells 31)).alloc (.cells #[.slice (some ⟨w.heap.size+1+1+1,0,none⟩) M M,.int .i64 n] 31)).heap.size=w.heap.size+1+1+1:=by simp
 refine ⟨w.heap.size+1+1,w.heap.size+1+1+1,rfl,?_,?_,?_,?_,?_,by omega,by omega⟩
 ·have h:=RowU.made (((w.alloc X).alloc (.cells bcells 31)).alloc (.cells #[.slice (some ⟨w.heap.size+1+1+1,0,none⟩) M M,.int .i64 n] 31)) (w.heap.size+2) (by rw [hs3];omega) M hM
  rw [hs3] at h
  exact h
 ·exact ((bel3 w _ _ _).alloc (by rw [hs3];omega) _).drew
 ·exact block_up ((bel3 (w.alloc X) _ _ _).drew)
 ·have h:=block_up ((bel2 ((w.alloc X).alloc (.cells bcells 31)) (.cells #[.slice (some ⟨w.heap.size+1+1+1,0,none⟩) M M,.int .i64 n] 31) (.cells (madeCells #[.int .u64 0] M) 206)).drew)
  rw [hs1] at h
  exact h
 ·have h:=block_up ((bel1 (((w.alloc X).alloc (.cells bcells 31)).alloc (.cells #[.slice (some ⟨w.heap.size+1+1+1,0,none⟩) M M,.int .i64 n] 31)) (.cells (madeCells #[.int .u64 0] M) 206)).drew)
  rw [hs2] at h
  exact h
theorem notMid_b (w:World) (X:Obj) (n:Int) (M:Nat) (hM:M<=maxLen):NotMid w X n M (.pointer (some ⟨w.heap.size+1+1+1,0,none⟩)) ((((w.alloc X).alloc (.cells bcells 31)).alloc (.cells (madeCells #[.int .u64 0] M) 206)).alloc (.cells #[.slice (some ⟨w.heap.size+1+1,0,none⟩) M M,.int .i64 n] 31)).drew:=by
 have hs1:(w.alloc X).heap.size=w.heap.size+1:=by simp
 have hs2:((w.alloc X).alloc (.cells bcells 31)).heap.size=w.heap.size+1+1:=by simp
 have hs3:(((w.alloc X).alloc (.cells bcells 31)).alloc (.cells (madeCells #[.int .u64 0] M) 206)).heap.size=w.heap.size+1+1+1:=by simp
 refine ⟨w.heap.size+1+1+1,w.heap.size+1+1,rfl,?_,?_,?_,?_,?_,by omega,by omega⟩
 ·have h:=(RowU.made ((w.alloc X).alloc (.cells bcells 31)) (w.heap.size+2) (by rw [hs2];omega) M hM).below ((bel1 _ (.cells #[.slice (some ⟨w.heap.size+1+1,0,none⟩) M M,.int .i64 n] 31)).drew)
  rw [hs2] at h
  exact h
 ·exact ((bel3 w _ _ _).alloc (by rw [hs3];omega) _).drew
 ·exact block_up ((bel3 (w.alloc X) _ _ _).drew)
 ·have h:=block_up ((bel2 ((w.alloc X).alloc (.cells bcells 31)) (.cells (madeCells #[.int .u64 0] M) 206) (.cells #[.slice (some ⟨w.heap.size+1+1,0,none⟩) M M,.int .i64 n] 31)).drew)
  rw [hs1] at h
  exact h
 ·have h:=heap_alloc_new (((w.alloc X).alloc (.cells bcells 31)).alloc (.cells (madeCells #[.int .u64 0] M) 206)) (.cells #[.slice (some ⟨w.heap.size+1+1,0,none⟩) M M,.int .i64 n] 31)
  rw [hs3] at h
  exact h
theorem not_any (b o c n:Nat) (l:Nat->Bool) (w:World) (hn:n<=1048576) (hc:∀ j,j < (n+63) / 64->w.cell? ⟨b,o+j,none⟩=some (.int .u64 (packW l n j:Nat))) :
  Calls Tryz.prog 245 #[.agg #[.slice (some ⟨b,o,none⟩) ((n+63) / 64) c,.int .i64 (n:Int)]] w fun e w'=>∃ g,e= .returned (.agg #[.slice (some ⟨g,0,none⟩) ((n+63) / 64) ((n+63) / 64),.int .i64 (n:Int)])/\RowU w' w.heap.size g ((n+63) / 64) (packW (fun i => !l i) n)/\Below w.heap.size w w':=by
 obtain ⟨M,hM⟩:∃ M,M=(n+63) / 64:=⟨_,rfl⟩
 rw [<- hM] at hc ⊢
 have HC:=Lib.hid hc
 have HM:=Lib.hid hM
 have hMb:M<=16384:=by omega
 have hmk:=run_make_row' (P:=Tryz.prog) 29 206 (.int .u64 0) 8 Tryz.underlying29 info_u64 rfl .i64 .i64 M (by omega) (by omega)
 clear hc hM
 go_enter Tryz.func245,Tryz.ntmps245
 go_wp2_with fail
 have hma:=notMid_a w (.cells #[.slice (some ⟨b,o,none⟩) M c,.int .i64 (n:Int)] 31) (n:Int) M (by unfold maxLen;omega)
 have hmb:=notMid_b w (.cells #[.slice (some ⟨b,o,none⟩) M c,.int .i64 (n:Int)] 31) (n:Int) M (by unfold maxLen;omega)
 have HMA:=Lib.hid hma
 have HMB:=Lib.hid hmb
 clear hma hmb
 go_cut [3] from 6 (fun p wx=>NotMid w (.cells #[.slice (some ⟨b,o,none⟩) M c,.int .i64 (n:Int)] 31) (n:Int) M p wx)
 case first =>
  go_region
  all_goals
   go_wp2
   go_meet
   first | exact HMA.out | exact HMB.out
 obtain ⟨V,g,rfl,hr0,hb0,hk0,hk1,hk2,hVg,hV⟩:=hcut
 have HR0:=Lib.hid hr0
 have HB0:=Lib.hid hb0
 have HK0:=Lib.hid hk0
 have HK1:=Lib.hid hk1
 have HK2:=Lib.hid hk2
 have hg2:=hr0.low.1
 clear hr0 hb0 hk0 hk1 hk2 hmk
 obtain ⟨hx0,hx1,_⟩:=pair_of HK0.out
 go_wp2_with fail
 go_loopw [16] (fun ii wr=>∃ i:Nat,i<=M/\ii= .int .i64 i/\RowU wr (w.heap.size+2) g M (fun j=>if j < i then 18446744073709551615 - packW l n j else 0)/\Below w.heap.size w wr/\wr.heap[w.heap.size]?=some (.cells #[.slice (some ⟨b,o,none⟩) M c,.int .i64 (n:Int)] 31)/\wr.heap[w.heap.size+1]?=some (.cells bcells 31)/\wr.heap[V]?=some (.cells #[.slice (some ⟨g,0,none⟩) M M,.int .i64 (n:Int)] 31)) (fun ii _=>M - (intOf ii).toNat)
 case atStart=>exact ⟨0,Nat.zero_le _,rfl,HR0.out.same (fun j _=>by rw [if_neg (Nat.not_lt_zero _)]),HB0.out,HK0.out,HK1.out,HK2.out⟩
 case round =>
  clear HR0 HB0 HK0 HK1 HK2 hx0 hx1
  obtain ⟨i,hi,rfl,hrow,hbl,hk0,hk1,hk2⟩:=hrel
  have HROW:=Lib.hid hrow
  have HBL:=Lib.hid hbl
  have HK0:=Lib.hid hk0
  have HK1:=Lib.hid hk1
  have HK2:=Lib.hid hk2
  clear hrow hbl hk0 hk1 hk2
  by_cases hlt:i < M
  ·have hcell:wr.cell? ⟨b,o+i,none⟩=some (.int .u64 (packW l n i:Nat)):=by rw [HBL.out.cell (cell_lt (HC.out i hlt))];exact HC.out i hlt
   have hxlt:=packW_lt l n i
   obtain ⟨hv0,hv1,hvf⟩:=pair_of HK2.out
   have hcw:=HROW.out.cell hlt
   have hfw:=HROW.out.frozen i
   have HPUT:=Lib.hid (HROW.out.put hlt (18446744073709551615 - packW l n i) (F':=fun j=>if j < i+1 then 18446744073709551615 - packW l n j else 0) (fun j _=>by
    by_cases e:j=i
    ·rw [if_pos e,if_pos (by omega),e]
    ·rw [if_neg e]
     by_cases h2:j < i
     ·rw [if_pos h2,if_pos (by omega)]
     ·rw [if_neg h2,if_neg (by omega)]))
   have HXOR:=Lib.hid (not_u64 (packW l n i) hxlt)
   have HB3:=Lib.hid (HBL.out.setCell (p:=⟨g,i,none⟩) (by show _<=g;omega) (.int .u64 ((18446744073709551615 - packW l n i:Nat):Int)))
   have HK03:=Lib.hid ((Below.heap_setCell wr ⟨g,i,none⟩ (.int .u64 ((18446744073709551615 - packW l n i:Nat):Int)) w.heap.size (by show _≠g;omega)).trans HK0.out)
   have HK13:=Lib.hid ((Below.heap_setCell wr ⟨g,i,none⟩ (.int .u64 ((18446744073709551615 - packW l n i:Nat):Int)) (w.heap.size+1) (by show _≠g;omega)).trans HK1.out)
   have HK23:=Lib.hid ((Below.heap_setCell wr ⟨g,i,none⟩ (.int .u64 ((18446744073709551615 - packW l n i:Nat):Int)) V (by show _≠g;exact hVg)).trans HK2.out)
   generalize packW l n i=x at *
   go_wp2
   rw [HXOR.out]
   exact ⟨⟨i+1,by omega,by go_num,HPUT.out,HB3.out,HK03.out,HK13.out,HK23.out⟩,by simp [intOf];omega⟩
  ·obtain rfl:i=M:=by omega
   have HT:=Lib.hid (trim_any (w.heap.size+2) g n i _ wr hn HM.out HROW.out (fun j hj=>by
    show (if j < i then _ else _) < _
    rw [if_pos hj]
    omega))
   have HF:Hid (∀ j,j < i->trimF n i (fun j=>if j < i then 18446744073709551615 - packW l n j else 0) j=packW (fun i => !l i) n j):=by
    refine trimF_pack n i _ (fun i => !l i) HM.out (fun j hj=>?_) (fun j hj m hm hin=>?_)
    ·show (if j < i then _ else _) < _
     rw [if_pos hj]
     omega
    ·show Nat.testBit (if j < i then _ else _) m=_
     rw [if_pos hj,not_bit _ m hm (packW_lt l n j),packW_bit l n j m hm]
     simp [hin]
   obtain ⟨hv0,hv1,hvf⟩:=pair_of HK2.out
   go_wp2_with fail
   refine HT.out.mono ?_
   rintro e w5 ⟨rfl,hr5,hb5,ho5⟩
   have HR5:=Lib.hid (hr5.same (F':=packW (fun i => !l i) n) (fun j hj=>(HF.out j hj).symm))
   have HB5:=Lib.hid (HBL.out.trans (hb5.mono (by omega)))
   have HK5:=Lib.hid (show w5.heap[w.heap.size+1]?=some (.cells bcells 31) by rw [hb5.block _ (by omega)];exact HK1.out)
   have hVl:V < wr.heap.size:=lt_of_block HK2.out
   have HKV:=Lib.hid (show w5.heap[V]?=some (.cells #[.slice (some ⟨g,0,none⟩) i i,.int .i64 (n:Int)] 31) by rw [ho5 V hVl hVg];exact HK2.out)
   clear hr5 hb5 ho5 hv0 hv1 hvf
   obtain ⟨hv0,hv1,hvf⟩:=pair_of HKV.out
   obtain ⟨hk0,hk1,hkf⟩:=pair_of HK5.out
   go_wp2
   refine bodyPost_ret (ret_bits rfl _ _ _ rfl (set2_block HK5.out _ _)) rfl ⟨g,rfl,?_,below_set2 HB5.out (Nat.le_succ _) _ _⟩
   exact own_set2 (HR5.out.lower (by omega)) (by show some g≠_;intro e;injection e;omega) _ _
def cutW (X:Nat->Nat) (M a i:Nat):Nat :=
 if (a+i*64) % 64≠0/\(a+i*64) / 64+1 < M then (X ((a+i*64) / 64) / 2 ^ ((a+i*64) % 64)) ||| (X ((a+i*64) / 64+1)*2 ^ (64 - (a+i*64) % 64) % 18446744073709551616)
 else X ((a+i*64) / 64) / 2 ^ ((a+i*64) % 64)
theorem cutW_at (X:Nat->Nat) (M a i k r:Nat) (hk:k=(a+i*64) / 64) (hr:r=(a+i*64) % 64):cutW X M a i=if r≠0/\k+1 < M then (X k / 2 ^ r) ||| (X (k+1)*2 ^ (64 - r) % 18446744073709551616) else X k / 2 ^ r:=by
 rw [hk,hr];rfl
theorem cutW_lt (X:Nat->Nat) (M a i:Nat) (hX:X ((a+i*64) / 64) < 18446744073709551616):cutW X M a i < 18446744073709551616:=by
 have h1:X ((a+i*64) / 64) / 2 ^ ((a+i*64) % 64) < 2 ^ 64:=Nat.lt_of_le_of_lt (Nat.div_le_self _ _) hX
 unfold cutW
 split
 ·exact Nat.or_lt_two_pow (n:=64) h1 (Nat.mod_lt _ (by decide))
 ·exact h1
theorem cutW_bit (l:Nat->Bool) (n M a i m:Nat) (hM:M=(n+63) / 64) (hm:m < 64) (h:a+64*i+m < n):(cutW (packW l n) M a i).testBit m=l (a+(64*i+m)):=by
 obtain ⟨k,hk⟩:∃ k,k=(a+i*64) / 64:=⟨_,rfl⟩
 obtain ⟨r,hr⟩:∃ r,r=(a+i*64) % 64:=⟨_,rfl⟩
 have hkr:64*k+r=a+64*i:=by omega
 unfold cutW
 rw [<- hk,<- hr]
 have e1:(packW l n k / 2 ^ r).testBit m=(packW l n k).testBit (m+r):=Nat.testBit_div_two_pow (packW l n k) m
 by_cases hlow:m+r < 64
 ·have hb:(packW l n k).testBit (m+r)=l (a+(64*i+m)):=by
   rw [packW_bit l n k (m+r) hlow,show 64*k+(m+r)=a+(64*i+m) by omega]
   have:a+(64*i+m) < n:=by omega
   simp [this]
  split
  ·rw [Nat.testBit_or,e1,hb]
   have h64:=Nat.testBit_mod_two_pow (packW l n (k+1)*2 ^ (64 - r)) 64 m
   rw [show (2:Nat) ^ 64=18446744073709551616 from rfl] at h64
   rw [h64,Nat.testBit_mul_two_pow]
   have:¬ 64 - r<=m:=by omega
   simp [this]
  ·rw [e1,hb]
 ·have hc:r≠0/\k+1 < M:=by omega
  rw [if_pos hc,Nat.testBit_or,e1,packW_high _ _ _ _ hlow,Bool.false_or]
  have h64:=Nat.testBit_mod_two_pow (packW l n (k+1)*2 ^ (64 - r)) 64 m
  rw [show (2:Nat) ^ 64=18446744073709551616 from rfl] at h64
  rw [h64,Nat.testBit_mul_two_pow,packW_bit l n (k+1) (m - (64 - r)) (by omega),show 64*(k+1)+(m - (64 - r))=a+(64*i+m) by omega]
  have h1:64 - r<=m:=by omega
  have h2:a+(64*i+m) < n:=by omega
  simp [hm,h1,h2]
theorem shl_u64 (x s:Nat):IntKind.u64.wrap ((x:Int)*2 ^ s)=((x*2 ^ s % 18446744073709551616:Nat):Int):=by
 have e:((x:Int)*2 ^ s)=((x*2 ^ s:Nat):Int):=by rw [Int.natCast_mul,Int.natCast_pow];rfl
 rw [e,IntKind.wrap_u64]
 omega
theorem cut_any (b o c n a t:Nat) (l:Nat->Bool) (w:World) (hn:n<=1048576) (hat:a<=t) (htn:t<=n) (hc:∀ j,j < (n+63) / 64->w.cell? ⟨b,o+j,none⟩=some (.int .u64 (packW l n j:Nat))) :
  Calls Tryz.prog 109 #[.agg #[.slice (some ⟨b,o,none⟩) ((n+63) / 64) c,.int .i64 (n:Int)],.int .i64 (a:Int),.int .i64 (t:Int)] w fun e w'=>∃ g,e= .returned (.agg #[.slice (some ⟨g,0,none⟩) ((t - a+63) / 64) ((t - a+63) / 64),.int .i64 ((t - a:Nat):Int)])/\RowU w' w.heap.size g ((t - a+63) / 64) (packW (fun i=>l (a+i)) (t - a))/\Below w.heap.size w w':=by
 obtain ⟨M,hM⟩:∃ M,M=(n+63) / 64:=⟨_,rfl⟩
 rw [<- hM] at hc ⊢
 obtain ⟨d,hd⟩:∃ d,d=t - a:=⟨_,rfl⟩
 rw [<- hd]
 have HMK:=Lib.hid (fun W=>make_false d (by omega) W)
 obtain ⟨N,hN⟩:∃ N,N=(d+63) / 64:=⟨_,rfl⟩
 rw [<- hN] at HMK ⊢
 have HC:=Lib.hid hc
 have HM:=Lib.hid hM
 have HN:=Lib.hid hN
 have HD:=Lib.hid hd
 have HTN:=Lib.hid htn
 have hMb:M<=16384:=by omega
 have hNb:N<=16384:=by omega
 have m1:max (0:Int) (min (a:Int) (n:Int))=(a:Int):=by omega
 have m2:max (a:Int) (min (t:Int) (n:Int))=(t:Int):=by omega
 have m3:(t:Int) - (a:Int)=(d:Int):=by omega
 have hab:a<=1048576:=by omega
 have htb:t<=1048576:=by omega
 clear hc hM hd hN
 go_enter Tryz.func109,Tryz.ntmps109
 go_wp2_with fail
 refine (HMK.out _).mono ?_
 rintro e w1 ⟨g,rfl,hr,hb1⟩
 have hg2:w.heap.size+2<=g:=by have:=hr.low.1;simp at this;omega
 have hg1:g < w1.heap.size:=hr.low.2
 have HR1:=Lib.hid ((hr.lower (show w.heap.size+2<=_ by simp)).below (bel1 w1 (.cells #[.slice (some ⟨g,0,none⟩) N N,.int .i64 (d:Int)] 31)))
 have HB1:=Lib.hid (bel_both (bel_both (bel2 w _ _) hb1) (bel1 w1 (.cells #[.slice (some ⟨g,0,none⟩) N N,.int .i64 (d:Int)] 31)))
 have hk0:w1.heap[w.heap.size]?=some (.cells #[.slice (some ⟨b,o,none⟩) M c,.int .i64 (n:Int)] 31):=block_up (bel_both (bel1 (w.alloc _) (.cells bcells 31)) hb1)
 have hk1:w1.heap[w.heap.size+1]?=some (.cells bcells 31):=by
  have h:=block_up hb1
  rw [show (w.alloc (.cells #[.slice (some ⟨b,o,none⟩) M c,.int .i64 (n:Int)] 31)).heap.size=w.heap.size+1 by simp] at h
  exact h
 have HK0:=Lib.hid ((Below.heap_alloc w1 (.cells #[.slice (some ⟨g,0,none⟩) N N,.int .i64 (d:Int)] 31) _ (lt_of_block hk0)).trans hk0)
 have HK1:=Lib.hid ((Below.heap_alloc w1 (.cells #[.slice (some ⟨g,0,none⟩) N N,.int .i64 (d:Int)] 31) _ (lt_of_block hk1)).trans hk1)
 have HK2:=Lib.hid (heap_alloc_new w1 (.cells #[.slice (some ⟨g,0,none⟩) N N,.int .i64 (d:Int)] 31))
 obtain ⟨V,hV⟩:∃ V,V=w1.heap.size:=⟨_,rfl⟩
 have hVg:V≠g:=by omega
 have hV2:w.heap.size+2<=V:=by omega
 rw [<- hV] at HK2
 clear hr hb1 hk0 hk1 HMK m1 m2
 go_wp2_with fail
 rw [<- hV]
 clear hV
 go_loopw [30] (fun ii wr=>∃ i:Nat,i<=N/\ii= .int .i64 i/\RowU wr (w.heap.size+2) g N (fun j=>if j < i then cutW (packW l n) M a j else 0)/\Below w.heap.size w wr/\wr.heap[w.heap.size]?=some (.cells #[.slice (some ⟨b,o,none⟩) M c,.int .i64 (n:Int)] 31)/\wr.heap[w.heap.size+1]?=some (.cells bcells 31)/\wr.heap[V]?=some (.cells #[.slice (some ⟨g,0,none⟩) N N,.int .i64 (d:Int)] 31)) (fun ii _=>N - (intOf ii).toNat)
 case atStart=>exact ⟨0,Nat.zero_le _,rfl,HR1.out.same (fun j _=>by rw [if_neg (Nat.not_lt_zero _)]),HB1.out,HK0.out,HK1.out,HK2.out⟩
 case round =>
  clear HR1 HB1 HK0 HK1 HK2
  obtain ⟨i,hi,rfl,hrow,hbl,hk0,hk1,hk2⟩:=hrel
  have HROW:=Lib.hid hrow
  have HBL:=Lib.hid hbl
  have HK0:=Lib.hid hk0
  have HK1:=Lib.hid hk1
  have HK2:=Lib.hid hk2
  clear hrow hbl hk0 hk1 hk2
  by_cases hlt:i < N
  ·obtain ⟨S,eS⟩:∃ S,S=i*64:=⟨_,rfl⟩
   obtain ⟨A,eA⟩:∃ A,A=a+S:=⟨_,rfl⟩
   obtain ⟨k,ek⟩:∃ k,k=A / 64:=⟨_,rfl⟩
   obtain ⟨r,er⟩:∃ r,r=A % 64:=⟨_,rfl⟩
   have F1:Hid ((i:Int)*64=(S:Int)):=by rw [eS];show _=_;push_cast;rfl
   have f2:(a:Int)+(i:Int)*64=(A:Int):=by rw [F1.out,eA];push_cast;rfl
   have f3:(A:Int) / 64=(k:Int):=by rw [ek];rfl
   have hAb:A<=2097152:=by omega
   have f4:=and63 A hAb
   rw [<- er] at f4
   have hr64:r < 64:=by omega
   have hkM:k < M:=by
    have h1:=HM.out
    have h2:=HN.out
    have h3:=HD.out
    have h4:=HTN.out
    omega
   have hSb:S<=1048576:=by omega
   have hcell:wr.cell? ⟨b,o+k,none⟩=some (.int .u64 (packW l n k:Nat)):=by rw [HBL.out.cell (cell_lt (HC.out k hkM))];exact HC.out k hkM
   have hxlt:=packW_lt l n k
   obtain ⟨hv0,hv1,hvf⟩:=pair_of HK2.out
   obtain ⟨hw0,hw1,hwf⟩:=pair_of HK0.out
   have hcw:=HROW.out.cell hlt
   have hfw:=HROW.out.frozen i
   have HCW:=Lib.hid (cutW_at (packW l n) M a i k r (by rw [<- eS,<- eA];exact ek) (by rw [<- eS,<- eA];exact er))
   obtain ⟨y,ey⟩:∃ y,y=packW l n k / 2 ^ r:=⟨_,rfl⟩
   have hy:y < 18446744073709551616:=by rw [ey];exact Nat.lt_of_le_of_lt (Nat.div_le_self _ _) hxlt
   rw [<- ey] at HCW
   have f5:((packW l n k:Nat):Int) / 2 ^ r=(y:Int):=by rw [div_pow,ey]
   clear hw1 hv1
   have hwb:w.heap.size≠g:=by omega
   have hkM2:(k:Int) < (M:Int):=by omega
   clear eS eA ek er ey
   generalize packW l n k=x at *
   go_wp2_with fail
   go_region
   have HROW2:=Lib.hid ((HROW.out.put hlt y (F':=fun j=>if j=i then y else if j < i then cutW (packW l n) M a j else 0) (fun j _=>rfl)).below (Below.refl _ _).drew)
   have HBL2:=Lib.hid ((HBL.out.setCell (p:=⟨g,i,none⟩) (by show _<=g;omega) (.int .u64 ((y:Nat):Int))).drew)
   have HK02:=Lib.hid (show ((wr.setCell ⟨g,i,none⟩ (.int .u64 ((y:Nat):Int))).drew).heap[w.heap.size]?=_ from (Below.heap_setCell wr ⟨g,i,none⟩ (.int .u64 ((y:Nat):Int)) w.heap.size (by show _≠g;omega)).trans HK0.out)
   have HK12:=Lib.hid (show ((wr.setCell ⟨g,i,none⟩ (.int .u64 ((y:Nat):Int))).drew).heap[w.heap.size+1]?=_ from (Below.heap_setCell wr ⟨g,i,none⟩ (.int .u64 ((y:Nat):Int)) (w.heap.size+1) (by show _≠g;omega)).trans HK1.out)
   have HK22:=Lib.hid (show ((wr.setCell ⟨g,i,none⟩ (.int .u64 ((y:Nat):Int))).drew).heap[V]?=_ from (Below.heap_setCell wr ⟨g,i,none⟩ (.int .u64 ((y:Nat):Int)) V (by show _≠g;exact hVg)).trans HK2.out)
   obtain ⟨W2,eW2⟩:∃ W,W=(wr.setCell ⟨g,i,none⟩ (.int .u64 ((y:Nat):Int))).drew:=⟨_,rfl⟩
   rw [<- eW2] at HROW2 HBL2 HK02 HK12 HK22 ⊢
   clear eW2 hv0 hvf hw0 hwf hcw hfw hcell HROW HBL HK0 HK1 HK2
   obtain ⟨hv0,hv1,hvf⟩:=pair_of HK22.out
   obtain ⟨hw0,hw1,hwf⟩:=pair_of HK02.out
   by_cases hc:r≠0/\k+1 < M
   ·obtain ⟨hr0,hk1M⟩:=hc
    rw [if_pos ⟨hr0,hk1M⟩] at HCW
    obtain ⟨k2,hk2⟩:∃ k2,k2=k+1:=⟨_,rfl⟩
    rw [<- hk2] at HCW hk1M
    have g1:(k:Int)+1=(k2:Int):=by omega
    have hcell2:W2.cell? ⟨b,o+k2,none⟩=some (.int .u64 (packW l n k2:Nat)):=by rw [HBL2.out.cell (cell_lt (HC.out k2 hk1M))];exact HC.out k2 hk1M
    have hzlt:=packW_lt l n k2
    generalize packW l n k2=x2 at *
    obtain ⟨s,hs⟩:∃ s,s=64 - r:=⟨_,rfl⟩
    have g2:(64:Int) - (r:Int)=(s:Int):=by omega
    have hs64:s < 64:=by omega
    rw [<- hs] at HCW
    obtain ⟨z,ez⟩:∃ z,z=x2*2 ^ s % 18446744073709551616:=⟨_,rfl⟩
    have hz:z < 18446744073709551616:=by omega
    have g3:=shl_u64 x2 s
    rw [<- ez] at g3 HCW
    have g4:=u64_or_nat y z hy hz
    have hcw2:W2.cell? ⟨g,i,none⟩=some (.int .u64 (y:Nat)):=by have h:=HROW2.out.cell hlt;rw [if_pos rfl] at h;exact h
    have hfw2:=HROW2.out.frozen i
    have hk2M:(k2:Int) < (M:Int):=by omega
    clear hs ez hk2
    go_wp2_with fail
    go_region
    have HPUT:=Lib.hid ((HROW2.out.put hlt (y ||| z) (F':=fun j=>if j < i+1 then cutW (packW l n) M a j else 0) (fun j _=>by
     by_cases e:j=i
     ·rw [if_pos e,if_pos (by omega),e];exact HCW.out
     ·rw [if_neg e,if_neg e]
      by_cases h2:j < i
      ·rw [if_pos h2,if_pos (by omega)]
      ·rw [if_neg h2,if_neg (by omega)])).below (Below.refl _ _).drew)
    have HBL3:=Lib.hid ((HBL2.out.setCell (p:=⟨g,i,none⟩) (by show _<=g;omega) (.int .u64 ((y ||| z:Nat):Int))).drew)
    have HK03:=Lib.hid (show ((W2.setCell ⟨g,i,none⟩ (.int .u64 ((y ||| z:Nat):Int))).drew).heap[w.heap.size]?=_ from (Below.heap_setCell W2 ⟨g,i,none⟩ (.int .u64 ((y ||| z:Nat):Int)) w.heap.size (by show _≠g;omega)).trans HK02.out)
    have HK13:=Lib.hid (show ((W2.setCell ⟨g,i,none⟩ (.int .u64 ((y ||| z:Nat):Int))).drew).heap[w.heap.size+1]?=_ from (Below.heap_setCell W2 ⟨g,i,none⟩ (.int .u64 ((y ||| z:Nat):Int)) (w.heap.size+1) (by show _≠g;omega)).trans HK12.out)
    have HK23:=Lib.hid (show ((W2.setCell ⟨g,i,none⟩ (.int .u64 ((y ||| z:Nat):Int))).drew).heap[V]?=_ from (Below.heap_setCell W2 ⟨g,i,none⟩ (.int .u64 ((y ||| z:Nat):Int)) V (by show _≠g;exact hVg)).trans HK22.out)
    go_wp2
    go_roundw
    case rel=>exact ⟨i+1,by omega,by go_num,HPUT.out,HBL3.out,HK03.out,HK13.out,HK23.out⟩
    case measure=>simp [intOf];omega
   ·have HPUT:=Lib.hid (HROW2.out.same (F':=fun j=>if j < i+1 then cutW (packW l n) M a j else 0) (fun j _=>by
     rw [if_neg hc] at HCW
     by_cases e:j=i
     ·rw [if_pos e,if_pos (by omega),e];exact HCW.out
     ·rw [if_neg e]
      by_cases h2:j < i
      ·rw [if_pos h2,if_pos (by omega)]
      ·rw [if_neg h2,if_neg (by omega)]))
    have hc2:r=0\/(r≠0/\M<=k+1):=by omega
    clear hc
    rcases hc2 with h0 | ⟨h0,h1⟩
    ·subst h0
     go_wp2
     go_roundw
     case rel=>exact ⟨i+1,by omega,by go_num,HPUT.out,HBL2.out,HK02.out,HK12.out,HK22.out⟩
     case measure=>simp [intOf];omega
    ·go_wp2
     go_roundw
     case rel=>exact ⟨i+1,by omega,by go_num,HPUT.out,HBL2.out,HK02.out,HK12.out,HK22.out⟩
     case measure=>simp [intOf];omega
  ·obtain rfl:i=N:=by omega
   have hlt2:∀ j,j < i->cutW (packW l n) M a j < 18446744073709551616:=fun j hj=>cutW_lt _ _ _ _ (packW_lt _ _ _)
   have HT:=Lib.hid (trim_any (w.heap.size+2) g d i _ wr (by have:=HD.out;omega) HN.out HROW.out (fun j hj=>by
    show (if j < i then _ else _) < _
    rw [if_pos hj]
    exact hlt2 j hj))
   have HF:Hid (∀ j,j < i->trimF d i (fun j=>if j < i then cutW (packW l n) M a j else 0) j=packW (fun i=>l (a+i)) d j):=by
    refine trimF_pack d i _ (fun i=>l (a+i)) HN.out (fun j hj=>?_) (fun j hj m hm hin=>?_)
    ·show (if j < i then _ else _) < _
     rw [if_pos hj]
     exact hlt2 j hj
    ·show Nat.testBit (if j < i then _ else _) m=_
     rw [if_pos hj,cutW_bit l n M a j m HM.out hm (by have h1:=HD.out;have h2:=HTN.out;omega)]
   clear hlt2
   obtain ⟨hv0,hv1,hvf⟩:=pair_of HK2.out
   go_wp2_with fail
   refine HT.out.mono ?_
   rintro e w5 ⟨rfl,hr5,hb5,ho5⟩
   have HR5:=Lib.hid (hr5.same (F':=packW (fun i=>l (a+i)) d) (fun j hj=>(HF.out j hj).symm))
   have HB5:=Lib.hid (HBL.out.trans (hb5.mono (by omega)))
   have HK5:=Lib.hid (show w5.heap[w.heap.size+1]?=some (.cells bcells 31) by rw [hb5.block _ (by omega)];exact HK1.out)
   have hVl:V < wr.heap.size:=lt_of_block HK2.out
   have HKV:=Lib.hid (show w5.heap[V]?=some (.cells #[.slice (some ⟨g,0,none⟩) i i,.int .i64 (d:Int)] 31) by rw [ho5 V hVl hVg];exact HK2.out)
   clear hr5 hb5 ho5 hv0 hv1 hvf
   obtain ⟨hv0,hv1,hvf⟩:=pair_of HKV.out
   obtain ⟨hk0,hk1,hkf⟩:=pair_of HK5.out
   go_wp2
   refine bodyPost_ret (ret_bits rfl _ _ _ rfl (set2_block HK5.out _ _)) rfl ⟨g,rfl,?_,below_set2 HB5.out (Nat.le_succ _) _ _⟩
   exact own_set2 (HR5.out.lower (by omega)) (by show some g≠_;intro e;injection e;omega) _ _
end Go.Proofs.YtakgmnafbjdccaaGreatDoor
