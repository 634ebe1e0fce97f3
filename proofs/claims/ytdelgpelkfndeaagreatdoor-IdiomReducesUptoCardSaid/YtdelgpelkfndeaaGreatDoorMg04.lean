/- The walk of bitvec's Cut. The walks of bitvec's First, of logic's Any and All. The walks of logic's Any and All over packed truths, of Count. The walks of .. Conditions: as each theorem says. -/
import Derived.Test.YtdelgpelkfndeaaGreatDoorMgA
import Derived.Test.YtdelgpelkfndeaaGreatDoorMg03
import Derived.Test.YtdelgpelkfndeaaGreatDoorMg02
import Derived.Lib.TrailingZeros
set_option maxRecDepth 100000
set_option maxHeartbeats 2000000
namespace Go.Proofs.YtdelgpelkfndeaaGreatDoor
open Go Go.RowKit Go.Proofs Fl
def cutW (X:Nat->Nat) (M a i:Nat):Nat :=
 if (a+i*64) % 64≠0/\(a+i*64) / 64+1 < M then (X ((a+i*64) / 64) / 2 ^ ((a+i*64) % 64)) ||| (X ((a+i*64) / 64+1)*2 ^ (64 - (a+i*64) % 64) % 18446744073709551616)
 else X ((a+i*64) / 64) / 2 ^ ((a+i*64) % 64)
theorem Qrh (X:Nat->Nat) (M a i k r:Nat) (hk:k=(a+i*64) / 64) (hr:r=(a+i*64) % 64):cutW X M a i=if r≠0/\k+1 < M then (X k / 2 ^ r) ||| (X (k+1)*2 ^ (64 - r) % 18446744073709551616) else X k / 2 ^ r:=by
 rw [hk,hr];rfl
theorem Qri (X:Nat->Nat) (M a i:Nat) (hX:X ((a+i*64) / 64) < 18446744073709551616):cutW X M a i < 18446744073709551616:=by
 have h1:X ((a+i*64) / 64) / 2 ^ ((a+i*64) % 64) < 2 ^ 64:=Nat.lt_of_le_of_lt (Nat.div_le_self _ _) hX
 unfold cutW
 split
 ·exact Nat.or_lt_two_pow (n:=64) h1 (Nat.mod_lt _ (by decide))
 ·exact h1
theorem QoO (l:Nat->Bool) (n M a i m:Nat) (hM:M=(n+63) / 64) (hm:m < 64) (h:a+64*i+m < n):(cutW (packW l n) M a i).testBit m=l (a+(64*i+m)):=by
 obtain ⟨k,hk⟩:∃ k,k=(a+i*64) / 64:=⟨_,rfl⟩
 obtain ⟨r,hr⟩:∃ r,r=(a+i*64) % 64:=⟨_,rfl⟩
 have hkr:64*k+r=a+64*i:=by omega
 unfold cutW
 rw [<- hk,<- hr]
 have e1:(packW l n k / 2 ^ r).testBit m=(packW l n k).testBit (m+r):=Nat.testBit_div_two_pow (packW l n k) m
 by_cases hlow:m+r < 64
 ·have hb:(packW l n k).testBit (m+r)=l (a+(64*i+m)):=by
   rw [Qay l n k (m+r) hlow,show 64*k+(m+r)=a+(64*i+m) by omega]
   have:a+(64*i+m) < n:=by omega
   simp [this]
  split
  ·rw [Nat.testBit_or,e1,hb]
   have h64:=Nat.testBit_mod_two_pow (packW l n (k+1)*2 ^ (64 - r)) 64 m
   rw [show (2:Nat) ^ 64=18446744073709551616 from rfl] at h64
   rw [h64,Nat.testBit_mul_two_pow]
   have:¬ 64 - r<=m:=by omega
   simp [this]
  ·rw [e1,hb]
 ·have hc:r≠0/\k+1 < M:=by omega
  rw [if_pos hc,Nat.testBit_or,e1,Qa0 _ _ _ _ hlow,Bool.false_or]
  have h64:=Nat.testBit_mod_two_pow (packW l n (k+1)*2 ^ (64 - r)) 64 m
  rw [show (2:Nat) ^ 64=18446744073709551616 from rfl] at h64
  rw [h64,Nat.testBit_mul_two_pow,Qay l n (k+1) (m - (64 - r)) (by omega),show 64*(k+1)+(m - (64 - r))=a+(64*i+m) by omega]
  have h1:64 - r<=m:=by omega
  have h2:a+(64*i+m) < n:=by omega
  simp [hm,h1,h2]
theorem Qrj (x s:Nat):IntKind.u64.wrap ((x:Int)*2 ^ s)=((x*2 ^ s % 18446744073709551616:Nat):Int):=by
 have e:((x:Int)*2 ^ s)=((x*2 ^ s:Nat):Int):=by rw [Int.natCast_mul,Int.natCast_pow];rfl
 rw [e,IntKind.wrap_u64]
 omega
theorem Qrk (b o c n a t:Nat) (l:Nat->Bool) (w:World) (hn:n<=1048576) (hat:a<=t) (htn:t<=n) (hc:∀ j,j < (n+63) / 64->w.cell? ⟨b,o+j,none⟩=some (.int .u64 (packW l n j:Nat))) :
  Calls Tryz.prog 142 #[.agg #[.slice (some ⟨b,o,none⟩) ((n+63) / 64) c,.int .i64 (n:Int)],.int .i64 (a:Int),.int .i64 (t:Int)] w fun e w'=>∃ g,e= .returned (.agg #[.slice (some ⟨g,0,none⟩) ((t - a+63) / 64) ((t - a+63) / 64),.int .i64 ((t - a:Nat):Int)])/\RowU w' w.heap.size g ((t - a+63) / 64) (packW (fun i=>l (a+i)) (t - a))/\Below w.heap.size w w':=by
 obtain ⟨M,hM⟩:∃ M,M=(n+63) / 64:=⟨_,rfl⟩
 rw [<- hM] at hc ⊢
 obtain ⟨d,hd⟩:∃ d,d=t - a:=⟨_,rfl⟩
 rw [<- hd]
 have HMK:=hD (fun W=>Qd4 d (by omega) W)
 obtain ⟨N,hN⟩:∃ N,N=(d+63) / 64:=⟨_,rfl⟩
 rw [<- hN] at HMK ⊢
 have HC:=hD hc
 have HM:=hD hM
 have HN:=hD hN
 have HD:=hD hd
 have HTN:=hD htn
 have hMb:M<=16384:=by omega
 have hNb:N<=16384:=by omega
 have m1:max (0:Int) (min (a:Int) (n:Int))=(a:Int):=by omega
 have m2:max (a:Int) (min (t:Int) (n:Int))=(t:Int):=by omega
 have m3:(t:Int) - (a:Int)=(d:Int):=by omega
 have hab:a<=1048576:=by omega
 have htb:t<=1048576:=by omega
 clear hc hM hd hN
 go_enter Tryz.func142,Tryz.ntmps142
 go_wp2_with fail
 refine (HMK.out _).mono ?_
 rintro e w1 ⟨g,rfl,hr,hb1⟩
 have hg2:w.heap.size+2<=g:=by have:=hr.low.1;simp at this;omega
 have hg1:g < w1.heap.size:=hr.low.2
 have HR1:=hD ((hr.lower (show w.heap.size+2<=_ by simp)).below (bel1 w1 (.cells #[.slice (some ⟨g,0,none⟩) N N,.int .i64 (d:Int)] 33)))
 have HB1:=hD (Qaa (Qaa (bel2 w _ _) hb1) (bel1 w1 (.cells #[.slice (some ⟨g,0,none⟩) N N,.int .i64 (d:Int)] 33)))
 have hk0:w1.heap[w.heap.size]?=some (.cells #[.slice (some ⟨b,o,none⟩) M c,.int .i64 (n:Int)] 33):=Qar (Qaa (bel1 (w.alloc _) (.cells bcells 33)) hb1)
 have hk1:w1.heap[w.heap.size+1]?=some (.cells bcells 33):=by
  have h:=Qar hb1
  rw [show (w.alloc (.cells #[.slice (some ⟨b,o,none⟩) M c,.int .i64 (n:Int)] 33)).heap.size=w.heap.size+1 by simp] at h
  exact h
 have HK0:=hD ((Below.heap_alloc w1 (.cells #[.slice (some ⟨g,0,none⟩) N N,.int .i64 (d:Int)] 33) _ (lt_of_block hk0)).trans hk0)
 have HK1:=hD ((Below.heap_alloc w1 (.cells #[.slice (some ⟨g,0,none⟩) N N,.int .i64 (d:Int)] 33) _ (lt_of_block hk1)).trans hk1)
 have HK2:=hD (heap_alloc_new w1 (.cells #[.slice (some ⟨g,0,none⟩) N N,.int .i64 (d:Int)] 33))
 obtain ⟨V,hV⟩:∃ V,V=w1.heap.size:=⟨_,rfl⟩
 have hVg:V≠g:=by omega
 have hV2:w.heap.size+2<=V:=by omega
 rw [<- hV] at HK2
 clear hr hb1 hk0 hk1 HMK m1 m2
 go_wp2_with fail
 rw [<- hV]
 clear hV
 go_loopw [30] (fun ii wr=>∃ i:Nat,i<=N/\ii= .int .i64 i/\RowU wr (w.heap.size+2) g N (fun j=>if j < i then cutW (packW l n) M a j else 0)/\Below w.heap.size w wr/\wr.heap[w.heap.size]?=some (.cells #[.slice (some ⟨b,o,none⟩) M c,.int .i64 (n:Int)] 33)/\wr.heap[w.heap.size+1]?=some (.cells bcells 33)/\wr.heap[V]?=some (.cells #[.slice (some ⟨g,0,none⟩) N N,.int .i64 (d:Int)] 33)) (fun ii _=>N - (intOf ii).toNat)
 case atStart=>exact ⟨0,Nat.zero_le _,rfl,HR1.out.same (fun j _=>by rw [if_neg (Nat.not_lt_zero _)]),HB1.out,HK0.out,HK1.out,HK2.out⟩
 case round =>
  clear HR1 HB1 HK0 HK1 HK2
  obtain ⟨i,hi,rfl,hrow,hbl,hk0,hk1,hk2⟩:=hrel
  have HROW:=hD hrow
  have HBL:=hD hbl
  have HK0:=hD hk0
  have HK1:=hD hk1
  have HK2:=hD hk2
  clear hrow hbl hk0 hk1 hk2
  by_cases hlt:i < N
  ·obtain ⟨S,eS⟩:∃ S,S=i*64:=⟨_,rfl⟩
   obtain ⟨A,eA⟩:∃ A,A=a+S:=⟨_,rfl⟩
   obtain ⟨k,ek⟩:∃ k,k=A / 64:=⟨_,rfl⟩
   obtain ⟨r,er⟩:∃ r,r=A % 64:=⟨_,rfl⟩
   have F1:Hid ((i:Int)*64=(S:Int)):=by rw [eS];show _=_;push_cast;rfl
   have f2:(a:Int)+(i:Int)*64=(A:Int):=by rw [F1.out,eA];push_cast;rfl
   have f3:(A:Int) / 64=(k:Int):=by rw [ek];rfl
   have hAb:A<=2097152:=by omega
   have f4:=and63 A hAb
   rw [<- er] at f4
   have hr64:r < 64:=by omega
   have hkM:k < M:=by
    have h1:=HM.out
    have h2:=HN.out
    have h3:=HD.out
    have h4:=HTN.out
    omega
   have hSb:S<=1048576:=by omega
   have hcell:wr.cell? ⟨b,o+k,none⟩=some (.int .u64 (packW l n k:Nat)):=by rw [HBL.out.cell (Qav (HC.out k hkM))];exact HC.out k hkM
   have hxlt:=QaR l n k
   obtain ⟨hv0,hv1,hvf⟩:=Qaj HK2.out
   obtain ⟨hw0,hw1,hwf⟩:=Qaj HK0.out
   have hcw:=HROW.out.cell hlt
   have hfw:=HROW.out.frozen i
   have HCW:=hD (Qrh (packW l n) M a i k r (by rw [<- eS,<- eA];exact ek) (by rw [<- eS,<- eA];exact er))
   obtain ⟨y,ey⟩:∃ y,y=packW l n k / 2 ^ r:=⟨_,rfl⟩
   have hy:y < 18446744073709551616:=by rw [ey];exact Nat.lt_of_le_of_lt (Nat.div_le_self _ _) hxlt
   rw [<- ey] at HCW
   have f5:((packW l n k:Nat):Int) / 2 ^ r=(y:Int):=by rw [Ql3,ey]
   clear hw1 hv1
   have hwb:w.heap.size≠g:=by omega
   have hkM2:(k:Int) < (M:Int):=by omega
   clear eS eA ek er ey
   generalize packW l n k=x at *
   go_wp2_with fail
   go_region
   have HROW2:=hD ((HROW.out.put hlt y (F':=fun j=>if j=i then y else if j < i then cutW (packW l n) M a j else 0) (fun j _=>rfl)).below (Below.refl _ _).drew)
   have HBL2:=hD ((HBL.out.setCell (p:=⟨g,i,none⟩) (by show _<=g;omega) (.int .u64 ((y:Nat):Int))).drew)
   have HK02:=hD (show ((wr.setCell ⟨g,i,none⟩ (.int .u64 ((y:Nat):Int))).drew).heap[w.heap.size]?=_ from (Below.heap_setCell wr ⟨g,i,none⟩ (.int .u64 ((y:Nat):Int)) w.heap.size (by show _≠g;omega)).trans HK0.out)
   have HK12:=hD (show ((wr.setCell ⟨g,i,none⟩ (.int .u64 ((y:Nat):Int))).drew).heap[w.heap.size+1]?=_ from (Below.heap_setCell wr ⟨g,i,none⟩ (.int .u64 ((y:Nat):Int)) (w.heap.size+1) (by show _≠g;omega)).trans HK1.out)
   have HK22:=hD (show ((wr.setCell ⟨g,i,none⟩ (.int .u64 ((y:Nat):Int))).drew).heap[V]?=_ from (Below.heap_setCell wr ⟨g,i,none⟩ (.int .u64 ((y:Nat):Int)) V (by show _≠g;exact hVg)).trans HK2.out)
   obtain ⟨W2,eW2⟩:∃ W,W=(wr.setCell ⟨g,i,none⟩ (.int .u64 ((y:Nat):Int))).drew:=⟨_,rfl⟩
   rw [<- eW2] at HROW2 HBL2 HK02 HK12 HK22 ⊢
   clear eW2 hv0 hvf hw0 hwf hcw hfw hcell HROW HBL HK0 HK1 HK2
   obtain ⟨hv0,hv1,hvf⟩:=Qaj HK22.out
   obtain ⟨hw0,hw1,hwf⟩:=Qaj HK02.out
   by_cases hc:r≠0/\k+1 < M
   ·obtain ⟨hr0,hk1M⟩:=hc
    rw [if_pos ⟨hr0,hk1M⟩] at HCW
    obtain ⟨k2,hk2⟩:∃ k2,k2=k+1:=⟨_,rfl⟩
    rw [<- hk2] at HCW hk1M
    have g1:(k:Int)+1=(k2:Int):=by omega
    have hcell2:W2.cell? ⟨b,o+k2,none⟩=some (.int .u64 (packW l n k2:Nat)):=by rw [HBL2.out.cell (Qav (HC.out k2 hk1M))];exact HC.out k2 hk1M
    have hzlt:=QaR l n k2
    generalize packW l n k2=x2 at *
    obtain ⟨s,hs⟩:∃ s,s=64 - r:=⟨_,rfl⟩
    have g2:(64:Int) - (r:Int)=(s:Int):=by omega
    have hs64:s < 64:=by omega
    rw [<- hs] at HCW
    obtain ⟨z,ez⟩:∃ z,z=x2*2 ^ s % 18446744073709551616:=⟨_,rfl⟩
    have hz:z < 18446744073709551616:=by omega
    have g3:=Qrj x2 s
    rw [<- ez] at g3 HCW
    have g4:=u64_or_nat y z hy hz
    have hcw2:W2.cell? ⟨g,i,none⟩=some (.int .u64 (y:Nat)):=by have h:=HROW2.out.cell hlt;rw [if_pos rfl] at h;exact h
    have hfw2:=HROW2.out.frozen i
    have hk2M:(k2:Int) < (M:Int):=by omega
    clear hs ez hk2
    go_wp2_with fail
    go_region
    have HPUT:=hD ((HROW2.out.put hlt (y ||| z) (F':=fun j=>if j < i+1 then cutW (packW l n) M a j else 0) (fun j _=>by
     by_cases e:j=i
     ·rw [if_pos e,if_pos (by omega),e];exact HCW.out
     ·rw [if_neg e,if_neg e]
      by_cases h2:j < i
      ·rw [if_pos h2,if_pos (by omega)]
      ·rw [if_neg h2,if_neg (by omega)])).below (Below.refl _ _).drew)
    have HBL3:=hD ((HBL2.out.setCell (p:=⟨g,i,none⟩) (by show _<=g;omega) (.int .u64 ((y ||| z:Nat):Int))).drew)
    have HK03:=hD (show ((W2.setCell ⟨g,i,none⟩ (.int .u64 ((y ||| z:Nat):Int))).drew).heap[w.heap.size]?=_ from (Below.heap_setCell W2 ⟨g,i,none⟩ (.int .u64 ((y ||| z:Nat):Int)) w.heap.size (by show _≠g;omega)).trans HK02.out)
    have HK13:=hD (show ((W2.setCell ⟨g,i,none⟩ (.int .u64 ((y ||| z:Nat):Int))).drew).heap[w.heap.size+1]?=_ from (Below.heap_setCell W2 ⟨g,i,none⟩ (.int .u64 ((y ||| z:Nat):Int)) (w.heap.size+1) (by show _≠g;omega)).trans HK12.out)
    have HK23:=hD (show ((W2.setCell ⟨g,i,none⟩ (.int .u64 ((y ||| z:Nat):Int))).drew).heap[V]?=_ from (Below.heap_setCell W2 ⟨g,i,none⟩ (.int .u64 ((y ||| z:Nat):Int)) V (by show _≠g;exact hVg)).trans HK22.out)
    go_wp2
    go_roundw
    case rel=>exact ⟨i+1,by omega,by go_num,HPUT.out,HBL3.out,HK03.out,HK13.out,HK23.out⟩
    case measure=>simp [intOf];omega
   ·have HPUT:=hD (HROW2.out.same (F':=fun j=>if j < i+1 then cutW (packW l n) M a j else 0) (fun j _=>by
     rw [if_neg hc] at HCW
     by_cases e:j=i
     ·rw [if_pos e,if_pos (by omega),e];exact HCW.out
     ·rw [if_neg e]
      by_cases h2:j < i
      ·rw [if_pos h2,if_pos (by omega)]
      ·rw [if_neg h2,if_neg (by omega)]))
    have hc2:r=0\/(r≠0/\M<=k+1):=by omega
    clear hc
    rcases hc2 with h0 | ⟨h0,h1⟩
    ·subst h0
     go_wp2
     go_roundw
     case rel=>exact ⟨i+1,by omega,by go_num,HPUT.out,HBL2.out,HK02.out,HK12.out,HK22.out⟩
     case measure=>simp [intOf];omega
    ·go_wp2
     go_roundw
     case rel=>exact ⟨i+1,by omega,by go_num,HPUT.out,HBL2.out,HK02.out,HK12.out,HK22.out⟩
     case measure=>simp [intOf];omega
  ·obtain rfl:i=N:=by omega
   have hlt2:∀ j,j < i->cutW (packW l n) M a j < 18446744073709551616:=fun j hj=>Qri _ _ _ _ (QaR _ _ _)
   have HT:=hD (QeF (w.heap.size+2) g d i _ wr (by have:=HD.out;omega) HN.out HROW.out (fun j hj=>by
    show (if j < i then _ else _) < _
    rw [if_pos hj]
    exact hlt2 j hj))
   have HF:Hid (∀ j,j < i->trimF d i (fun j=>if j < i then cutW (packW l n) M a j else 0) j=packW (fun i=>l (a+i)) d j):=by
    refine QcW d i _ (fun i=>l (a+i)) HN.out (fun j hj=>?_) (fun j hj m hm hin=>?_)
    ·show (if j < i then _ else _) < _
     rw [if_pos hj]
     exact hlt2 j hj
    ·show Nat.testBit (if j < i then _ else _) m=_
     rw [if_pos hj,QoO l n M a j m HM.out hm (by have h1:=HD.out;have h2:=HTN.out;omega)]
   clear hlt2
   obtain ⟨hv0,hv1,hvf⟩:=Qaj HK2.out
   go_wp2_with fail
   refine HT.out.mono ?_
   rintro e w5 ⟨rfl,hr5,hb5,ho5⟩
   have HR5:=hD (hr5.same (F':=packW (fun i=>l (a+i)) d) (fun j hj=>(HF.out j hj).symm))
   have HB5:=hD (HBL.out.trans (hb5.mono (by omega)))
   have HK5:=hD (show w5.heap[w.heap.size+1]?=some (.cells bcells 33) by rw [hb5.block _ (by omega)];exact HK1.out)
   have hVl:V < wr.heap.size:=lt_of_block HK2.out
   have HKV:=hD (show w5.heap[V]?=some (.cells #[.slice (some ⟨g,0,none⟩) i i,.int .i64 (d:Int)] 33) by rw [ho5 V hVl hVg];exact HK2.out)
   clear hr5 hb5 ho5 hv0 hv1 hvf
   obtain ⟨hv0,hv1,hvf⟩:=Qaj HKV.out
   obtain ⟨hk0,hk1,hkf⟩:=Qaj HK5.out
   go_wp2
   refine bodyPost_ret (QeE rfl _ _ _ rfl (Qa2 HK5.out _ _)) rfl ⟨g,rfl,?_,Qa1 HB5.out (Nat.le_succ _) _ _⟩
   exact Qct (HR5.out.lower (by omega)) (by show some g≠_;intro e;injection e;omega) _ _
theorem Qrl (u p i:Nat) (z:Int) (h0:((u:Int)==0)=false) (w:World)
  (hf:bits .and .u64 (u:Int) (IntKind.u64.wrap (-(u:Int)))=(p:Int)) (hi:IntKind.u64.wrap ((p:Int)*285870213051353865) / 288230376151711744=(i:Int)) (h64:i < 64)
  (hc:w.cell? ⟨0,i,none⟩=some (.int .u8 z)) (hz:0<=z) (hz2:z < 64) :
  Calls Tryz.prog 118 #[.int .u64 u] w fun x w'=>x= .returned (.int .i64 z)/\w=w':=by
 go_enter Tryz.func118,Tryz.ntmps118
 go_wp2
 go_ret
 exact ⟨rfl,rfl⟩
def TzTab (w:World):Prop:=∀ i,i < 64->w.cell? ⟨0,i,none⟩=some (.int .u8 ((Lib.deBruijn64tab.getD i 0:Nat):Int))
theorem TzTab.below {w w':World} (h:TzTab w) (hb:Below w.heap.size w w'):TzTab w':=fun i hi=>by rw [hb.cell (Qav (h i hi))];exact h i hi
theorem cast3 (p a b c:Nat):((p:Int)*(a:Int)) % (b:Int) / (c:Int)=((p*a % b / c:Nat):Int):=by
 rw [Int.natCast_ediv,Int.natCast_emod,Int.natCast_mul]
theorem Qs6 (k m:Nat) (h:2^k*(2*m+1) < 18446744073709551616) (w:World) (ht:TzTab w) :
  Calls Tryz.prog 118 #[.int .u64 ((2^k*(2*m+1):Nat):Int)] w fun x w'=>x= .returned (.int .i64 k)/\w=w':=by
 have hk:k < 64:=by
  have h1:2^k<=2^k*(2*m+1):=Nat.le_mul_of_pos_right _ (by omega)
  have h2:2^k < 2^64:=by omega
  exact (Nat.pow_lt_pow_iff_right (by omega)).1 h2
 have hn:=Lib.and_neg 64 k m (by omega)
 have hp:0 < 2^k*(2*m+1):=Nat.mul_pos (Nat.two_pow_pos k) (by omega)
 obtain ⟨d1,d2⟩:=Lib.deBruijn64_at k hk
 have hp64:2^k < 2^64:=Nat.pow_lt_pow_right (by omega) hk
 generalize 2^k*(2*m+1)=u at *
 generalize 2^k=p at *
 refine Qrl u p (p*285870213051353865 % 18446744073709551616 / 288230376151711744) k (beq_eq_false_iff_ne.2 (by omega)) w ?_ ?_ d1 ?_ (by omega) (by omega)
 ·rw [IntKind.wrap_u64]
  have e:(-(u:Int)) % 18446744073709551616=((2^64 - u:Nat):Int):=by omega
  rw [e,u64_and_nat u (2^64 - u) h (by omega),hn]
 ·rw [IntKind.wrap_u64];exact cast3 p _ _ _
 ·rw [ht _ d1,d2]
theorem Qrm (x:Nat) (h0:x≠0) (hx:x < 18446744073709551616):∃ k m,x=2 ^ k*(2*m+1)/\k < 64/\x.testBit k=true/\∀ j,j < k->x.testBit j=false:=by
 obtain ⟨m,e,hk⟩:=Lib.ctzFrom_spec 64 x (by omega) (by omega)
 refine ⟨Lib.ctzFrom 64 x,m,e,hk,?_,fun j hj=>?_⟩
 ·have:x.testBit (Lib.ctzFrom 64 x)=(2 ^ (Lib.ctzFrom 64 x)*(2*m+1)).testBit (Lib.ctzFrom 64 x):=by rw [<- e]
  rw [this,Nat.mul_comm,Nat.testBit_mul_two_pow]
  simp
 ·have:x.testBit j=(2 ^ (Lib.ctzFrom 64 x)*(2*m+1)).testBit j:=by rw [<- e]
  rw [this,Nat.mul_comm,Nat.testBit_mul_two_pow]
  have:¬ Lib.ctzFrom 64 x<=j:=by omega
  simp [this]
theorem Qrn (x:Nat) (h0:x≠0) (hx:x < 18446744073709551616):∃ k,k < 64/\x.testBit k=true/\(∀ j,j < k->x.testBit j=false)/\∀ w,TzTab w->Calls Tryz.prog 118 #[.int .u64 (x:Int)] w fun e w'=>e= .returned (.int .i64 k)/\w=w':=by
 obtain ⟨k,m,e,hk,h1,h2⟩:=Qrm x h0 hx
 refine ⟨k,hk,h1,h2,fun w ht=>?_⟩
 have:=Qs6 k m (by rw [<- e];exact hx) w ht
 rw [<- e] at this
 exact this
def QiD (l:Nat->Bool) (n z:Nat):Prop:=z<=n/\(z < n->l z=true)/\∀ j,j < z->l j=false
theorem QfX {l:Nat->Bool}{n i:Nat} (h:packW l n i=0) (j:Nat) (h1:64*i<=j) (h2:j < 64*(i+1)) (h3:j < n):l j=false:=by
 have:=Qay l n i (j - 64*i) (by omega)
 rw [h,Nat.zero_testBit,show 64*i+(j - 64*i)=j by omega] at this
 simpa [h3] using this.symm
theorem Qma (v:Value) (n:Nat) (l:Nat->Bool) (w:World) (hn:n<=1048576) (hb:BitsIn w v n l) (ht:TzTab w) :
  Calls Tryz.prog 68 #[v] w fun e w'=>∃ z:Nat,e= .returned (.int .i64 z)/\QiD l n z/\Below w.heap.size w w':=by
 obtain ⟨b,o,c,rfl,hc⟩:=hb
 obtain ⟨M,hM⟩:∃ M,M=(n+63) / 64:=⟨_,rfl⟩
 rw [<- hM] at hc ⊢
 have HC:=hD hc
 have HM:=hD hM
 have HT:=hD ht
 have hMb:M<=16384:=by omega
 have HB0:=hD (bel1 w (.cells #[.slice (some ⟨b,o,none⟩) M c,.int .i64 (n:Int)] 33))
 have HK0:=hD (heap_alloc_new w (.cells #[.slice (some ⟨b,o,none⟩) M c,.int .i64 (n:Int)] 33))
 clear hc hM ht
 go_enter Tryz.func68,Tryz.ntmps68
 go_wp2_with fail
 go_loopw [8] (fun ii wr=>∃ i:Nat,i<=M/\ii= .int .i64 i/\(∀ j,j < i->packW l n j=0)/\Below w.heap.size w wr/\wr.heap[w.heap.size]?=some (.cells #[.slice (some ⟨b,o,none⟩) M c,.int .i64 (n:Int)] 33)) (fun ii _=>M - (intOf ii).toNat)
 case atStart=>exact ⟨0,Nat.zero_le _,rfl,fun j hj=>absurd hj (Nat.not_lt_zero _),HB0.out,HK0.out⟩
 case round =>
  clear HB0 HK0
  obtain ⟨i,hi,rfl,hz,hbl,hk⟩:=hrel
  have HBL:=hD hbl
  have HZ:=hD hz
  have HK:=hD hk
  clear hbl hz hk
  by_cases hlt:i < M
  ·have hcell:wr.cell? ⟨b,o+i,none⟩=some (.int .u64 (packW l n i:Nat)):=by rw [HBL.out.cell (Qav (HC.out i hlt))];exact HC.out i hlt
   by_cases h0:packW l n i=0
   ·rw [h0] at hcell
    have HZ2:Hid (∀ j,j < i+1->packW l n j=0):=fun j hj=>by
     by_cases e:j=i
     ·rw [e];exact h0
     ·exact HZ.out j (by omega)
    clear h0
    go_wp2
    go_roundw
    case rel=>exact ⟨i+1,by omega,by go_num,HZ2.out,HBL.out,HK.out⟩
    case measure=>simp [intOf];omega
   ·obtain ⟨k,hk64,hbit,hlow,htz⟩:=Qrn (packW l n i) h0 (QaR l n i)
    have HTZ:=hD (htz wr (HT.out.below HBL.out))
    have hin:64*i+k < n/\l (64*i+k)=true:=by
     rw [Qay l n i k hk64] at hbit
     simpa using hbit
    have HRES:Hid (QiD l n (i*64+k)):=by
     refine ⟨by omega,fun _=>by rw [show i*64+k=64*i+k by omega];exact hin.2,fun j hj=>?_⟩
     by_cases h1:j / 64 < i
     ·exact QfX (HZ.out (j / 64) h1) j (by omega) (by omega) (by omega)
     ·have h2:=hlow (j - 64*i) (by omega)
      rw [Qay l n i (j - 64*i) (by omega),show 64*i+(j - 64*i)=j by omega] at h2
      have h3:j < n:=by omega
      simpa [h3] using h2
    have hne:((packW l n i:Nat):Int)≠0:=by omega
    have hxl:=QaR l n i
    clear h0 hbit hlow htz hin
    generalize packW l n i=x at *
    go_wp2_with fail
    refine HTZ.out.mono ?_
    rintro e w3 ⟨rfl,rfl⟩
    go_wp2
    go_ret
    exact ⟨i*64+k,by push_cast;rfl,HRES.out,HBL.out⟩
  ·obtain rfl:i=M:=by omega
   obtain ⟨hk0,hk1,hkf⟩:=Qaj HK.out
   go_wp2
   go_ret
   exact ⟨n,rfl,⟨Nat.le_refl _,fun h=>absurd h (Nat.lt_irrefl _),fun j hj=>QfX (HZ.out (j / 64) (by have:=HM.out;omega)) j (by omega) (by omega) hj⟩,HBL.out⟩
theorem Qht (v:Value) (n:Nat) (l:Nat->Bool) (w:World) (hn:n<=1048576) (hb:BitsIn w v n l) :
  Calls Tryz.prog 31 #[v] w fun e w'=>e= .returned (.int .i64 (cnt l n:Nat))/\Below w.heap.size w w':=by
 obtain ⟨b,o,c,rfl,hc⟩:=hb
 have h:=QiC b o ((n+63) / 64) c n (packW l n) w (by omega) hc (fun j _=>QaR l n j)
 rw [Ql9] at h
 exact h
theorem QiE (v:Value) (n:Nat) (l:Nat->Bool) (w:World) (hb:BitsIn w v n l) :
  Calls Tryz.prog 29 #[v] w fun e w'=>e= .returned (.int .i64 n)/\Below w.heap.size w w':=by
 obtain ⟨b,o,c,rfl,hc⟩:=hb
 exact QeB _ _ w
theorem QjD (l:Nat->Bool) (n:Nat):cnt l n=0↔∀ j,j < n->l j=false:=by
 induction n with
 | zero=>exact ⟨fun _ j hj=>absurd hj (Nat.not_lt_zero _),fun _=>rfl⟩
 | succ n ih =>
  unfold cnt
  constructor
  ·intro h j hj
   by_cases e:j=n
   ·subst e
    cases hl:l j with
    | false=>rfl
    | true=>rw [hl] at h;simp at h
   ·exact ih.1 (by omega) j (by omega)
  ·intro h
   rw [ih.2 fun j hj=>h j (by omega),h n (by omega)];rfl
theorem Qmb {l:Nat->Bool}{n z:Nat} (h:QiD l n z):decide ((z:Int) < (n:Int))=decide (cnt l n≠0):=by
 rw [decide_eq_decide]
 constructor
 ·intro h1 h2
  have h3:z < n:=by omega
  have:=(QjD l n).1 h2 z h3
  rw [h.2.1 h3] at this
  cases this
 ·intro h1
  apply Classical.byContradiction
  intro h2
  have h3:z=n:=by have:=h.1;omega
  exact h1 ((QjD l n).2 fun j hj=>h.2.2 j (by omega))
theorem QjE (v:Value) (n:Nat) (l:Nat->Bool) (w:World) (hn:n<=1048576) (hb:BitsIn w v n l) :
  Calls Tryz.prog 34 #[v] w fun e w'=>e= .returned (.bool (decide (cnt l n=n)))/\Below w.heap.size w w':=by
 have HC:=hD (fun W (hw:Below w.heap.size w W)=>Qht v n l W hn (hb.below hw))
 have HL:=hD (fun W (hw:Below w.heap.size w W)=>QiE v n l W (hb.below hw))
 obtain ⟨b,o,c,rfl,_⟩:=hb
 have HE:Hid ((((cnt l n:Nat):Int)==(n:Int))=decide (cnt l n=n)):=by
  show _=_
  rw [Bool.eq_iff_iff,beq_iff_eq,decide_eq_true_eq]
  omega
 go_enter Tryz.func34,Tryz.ntmps34
 go_wp2_with fail
 go_region_with (first
  | (go_at_call 31;(refine (HC.out _ ?_).mono ?_);(first | exact (bel1 w _).drew | (refine Qaa (bel1 w _).drew ?_;assumption));rintro e w1 ⟨rfl,hb1⟩;obtain ⟨hc1,hf1⟩:=bcell2 hb1;have hz1:=hb1.size)
  | (go_at_call 29;go_loud ((refine (HL.out _ ?_).mono ?_);(first | exact (bel1 w _).drew | exact Qaa (bel1 w _).drew hb1);rintro e w2 ⟨rfl,hb2⟩);obtain ⟨hc2,hf2⟩:=bcell2 hb2;have hz2:=hb2.size))
 all_goals
  go_wp2
  go_ret
  exact ⟨by rw [<- HE.out];rfl,Qaa (Qaa (bel1 w _).drew hb1) hb2⟩
theorem QjF (v:Value) (n:Nat) (l:Nat->Bool) (w:World) (hn:n<=1048576) (hb:BitsIn w v n l) (ht:TzTab w) :
  Calls Tryz.prog 35 #[v] w fun e w'=>e= .returned (.bool (decide (cnt l n≠0)))/\Below w.heap.size w w':=by
 have HC:=hD (fun W (hw:Below w.heap.size w W)=>Qma v n l W hn (hb.below hw) (ht.below hw))
 have HL:=hD (fun W (hw:Below w.heap.size w W)=>QiE v n l W (hb.below hw))
 obtain ⟨b,o,c,rfl,_⟩:=hb
 go_enter Tryz.func35,Tryz.ntmps35
 go_wp2_with fail
 go_region_with (first
  | (go_at_call 68;go_loud ((refine (HC.out _ ?_).mono ?_);exact (bel1 w _).drew;rintro e w1 ⟨z,rfl,hz,hb1⟩;have HZ:=hD hz;clear hz);obtain ⟨hc1,hf1⟩:=bcell2 hb1;have hz1:=hb1.size)
  | (go_at_call 29;go_loud ((refine (HL.out _ ?_).mono ?_);exact Qaa (bel1 w _).drew hb1;rintro e w2 ⟨rfl,hb2⟩);obtain ⟨hc2,hf2⟩:=bcell2 hb2;have hz2:=hb2.size))
 all_goals
  have HE:=hD (Qmb HZ.out)
  have HE2:Hid (decide (z < n)=decide (cnt l n≠0)):=by have h:=HE.out;rw [<- h];show _=_;rw [decide_eq_decide];omega
  go_wp2
  go_ret
  exact ⟨by first | (rw [<- HE.out];rfl) | (rw [<- HE2.out];rfl),Qaa (Qaa (bel1 w _).drew hb1) hb2⟩
def altN (f:Nat->Bool):Nat->Int
 | 0=>0
 | p+1=>altN f p+if f p then 1 - 2*((p % 2:Nat):Int) else 0
theorem and1 (i:Nat) (h:i<=2097152):bits .and .i64 (i:Int) 1=((i % 2:Nat):Int):=by
 show IntKind.i64.wrap ((BitVec.ofInt 64 (i:Int) &&& BitVec.ofInt 64 ((1:Nat):Int)).toNat:Int)=_
 have e:i &&& 1=i % 2:=Nat.and_two_pow_sub_one_eq_mod i 1
 rw [BitVec.toNat_and,ofInt_u64 i (by omega),ofInt_u64 1 (by omega),e,IntKind.wrap_i64]
 omega
theorem Qbh {W:World}{g o n c:Nat}{F:Nat->Value} (h:Reads1 W (.slice (some ⟨g,o,none⟩) n c) ((List.range n).map F)) (j:Nat) (hj:j < n):W.cell? ⟨g,o+j,none⟩=some (F j):=by
 obtain ⟨a,c2,e1,hc⟩:=Qbg h
 injection e1 with e1 _ _
 obtain ⟨b',o',e3,h3⟩:=hc j hj
 rw [e3] at e1
 injection e1 with e1
 injection e1 with ea eb _
 subst ea;subst eb
 exact h3
structure NumV (v:Value) (k:Int) (n:Nat) (F:Nat->Nat) (w:World):Prop where
 cls:Calls Tryz.prog 44 #[v] w fun e w2=>e= .returned (.int .i64 0)/\Below w.heap.size w w2
 len:Calls Tryz.prog 23 #[v] w fun e w2=>e= .returned (.int .i64 n)/\Below w.heap.size w w2
 num:∀ j,j < n->Calls Tryz.prog 92 #[v,.int .i64 (j:Nat)] w fun e w2=>e= .returned (.float .f64 (F j))/\Below w.heap.size w w2
 wholeI:k≠4->∀ j,j < n->∀ z,Good z->F j=fi z->Calls Tryz.prog 132 #[v,.int .i64 (j:Nat)] w fun e w2=>e= .returned (.tuple #[.int .i64 z,.bool true])/\Below w.heap.size w w2
 wholeF:k=4->∀ j,j < n->Calls Tryz.prog 132 #[v,.int .i64 (j:Nat)] w fun e w2=>e= .returned (.tuple #[.int .i64 0,.bool false])/\Below w.heap.size w w2
 ints:k≠4->∀ j,j < n->∃ z,Good z/\F j=fi z
 tf:∀ j,j < n->TF (F j)
 kind:k=1\/k=2\/k=3\/k=4
 bitsX:k=1->∃ (l:Nat->Bool) (s:Value),v=vecV 1 s n vnil vnil vnil vnil vnil/\BitsIn w (.agg #[s,.int .i64 (n:Int)]) n l/\∀ j,j < n->F j=Qai (l j)
 intsX:k=3->∃ (L:Nat->Int) (s:Value),v=vecV 3 vnil 0 vnil s vnil vnil vnil/\Reads1 w s ((List.range n).map fun j => .int .i64 (L j))/\∀ j,j < n->F j=fi (L j)/\Good (L j)
 shape:∃ (b:Value) (bn:Int) (s i f c x:Value),v=vecV k b bn s i f c x
theorem in_1 (s:Value) (len:Nat) (sm i f c x:Value) (j:Nat) (hj:j < len) (w:World) :
  Calls Tryz.prog 149 #[vecV 1 s len sm i f c x,.int .i64 (j:Int)] w fun e w'=>e= .returned (.bool true)/\Below w.heap.size w w':=by
 have HL:=hD (fun W=>QlL s len sm i f c x W)
 have h0:(0:Int)<=(j:Int):=by omega
 have h1:(j:Int) < (len:Int):=by omega
 go_enter Tryz.func149,Tryz.ntmps149
 go_wp2_with fail
 refine (HL.out _).mono ?_
 rintro e w1 ⟨rfl,hb1⟩
 have HB:=hD (Qaa (bel1 w _) hb1)
 clear hb1
 go_wp2
 go_ret
 exact ⟨by simp,HB.out⟩
theorem QtX (s:Value) (len:Nat) (sm i f c x:Value) (j:Nat) (hj:j < len) (t:Bool) (w:World)
  (ha:∀ W,Below w.heap.size w W->Calls Tryz.prog 114 #[.agg #[s,.int .i64 (len:Int)],.int .i64 (j:Int)] W fun e w'=>e= .returned (.bool t)/\Below W.heap.size W w') :
  Calls Tryz.prog 92 #[vecV 1 s len sm i f c x,.int .i64 (j:Int)] w fun e w'=>e= .returned (.float .f64 (Qai t))/\Below w.heap.size w w':=by
 have HA:=hD ha
 have HI:=hD (fun W=>in_1 s len sm i f c x j hj W)
 clear ha
 go_enter Tryz.func92,Tryz.ntmps92
 go_wp2_with fail
 refine (HI.out _).mono ?_
 rintro e w1 ⟨rfl,hb1⟩
 have HB1:=hD (Qaa (bel1 w _) hb1)
 obtain ⟨h0,h1,h2,h3,h4,h5,h6,h7⟩:=(QaF w 39 1 s len sm i f c x).below hb1
 clear hb1
 go_wp2_with fail
 refine (HA.out _ HB1.out).mono ?_
 rintro e w2 ⟨rfl,hb2⟩
 have HB2:=hD (Qaa HB1.out hb2)
 clear hb2 h0 h1 h2 h3 h4 h5 h6 h7
 go_wp2_with fail
 refine (QgF _ _).mono ?_
 rintro e w3 ⟨rfl,rfl⟩
 go_wp2
 go_ret
 exact ⟨rfl,HB2.out⟩
theorem QoP (s:Value) (len:Nat) (sm i f c x:Value) (j:Nat) (hj:j < len) (t:Bool) (w:World)
  (ha:∀ W,Below w.heap.size w W->Calls Tryz.prog 114 #[.agg #[s,.int .i64 (len:Int)],.int .i64 (j:Int)] W fun e w'=>e= .returned (.bool t)/\Below W.heap.size W w') :
  Calls Tryz.prog 132 #[vecV 1 s len sm i f c x,.int .i64 (j:Int)] w fun e w'=>e= .returned (.tuple #[.int .i64 (if t then 1 else 0),.bool true])/\Below w.heap.size w w':=by
 have HA:=hD ha
 have HI:=hD (fun W=>in_1 s len sm i f c x j hj W)
 clear ha
 cases t
 all_goals
  go_enter Tryz.func132,Tryz.ntmps132
  go_wp2_with fail
  refine (HI.out _).mono ?_
  rintro e w1 ⟨rfl,hb1⟩
  have HB1:=hD (Qaa (bel1 w _) hb1)
  obtain ⟨h0,h1,h2,h3,h4,h5,h6,h7⟩:=(QaF w 39 1 s len sm i f c x).below hb1
  clear hb1
  go_wp2_with fail
  refine (HA.out _ HB1.out).mono ?_
  rintro e w2 ⟨rfl,hb2⟩
  have HB2:=hD (Qaa HB1.out hb2)
  clear hb2 h0 h1 h2 h3 h4 h5 h6 h7
  go_wp2
  go_ret2
  exact ⟨rfl,HB2.out⟩
theorem fi_one:fi 1=one:=by decide+kernel
theorem QgI (t:Bool):Qai t=fi (if t then 1 else 0):=by
 cases t
 ·exact fi_zero.symm
 ·exact fi_one.symm
theorem Qe1 (t:Bool):Good (if t then 1 else 0):=by cases t <;> decide
def BitV (n:Nat) (l:Nat->Bool) (u:Value) (W:World):Prop:=∃ s,u=vecV 1 s n vnil vnil vnil vnil vnil/\BitsIn W (.agg #[s,.int .i64 (n:Int)]) n l
def Qro (n:Nat) (l:Nat->Int) (u:Value) (W:World):Prop:=Small8 n l u W/\∀ j,j < n->-128<=l j/\l j<=127
def IntV (n:Nat) (l:Nat->Int) (u:Value) (W:World):Prop:=(∃ s,u=vecV 3 vnil 0 vnil s vnil vnil vnil/\Reads1 W s ((List.range n).map fun j => .int .i64 (l j)))/\∀ j,j < n->Good (l j)
def Qs7 (n:Nat) (F:Nat->Nat) (u:Value) (W:World):Prop:=(∃ s,u=vecV 4 vnil 0 vnil vnil s vnil vnil/\Reads1 W s ((List.range n).map fun j => .float .f64 (F j)))/\∀ j,j < n->TF (F j)
theorem QgJ {n:Nat}{l:Nat->Bool}{s:Value}{W:World} (hn:n<=1048576) (hr:BitsIn W (.agg #[s,.int .i64 (n:Int)]) n l) (j:Nat) (hj:j < n) :
  Calls Tryz.prog 114 #[.agg #[s,.int .i64 (n:Int)],.int .i64 (j:Int)] W fun e w'=>e= .returned (.bool (l j))/\Below W.heap.size W w':=by
 obtain ⟨b,o,c,ev,hc⟩:=hr
 have es:s= .slice (some ⟨b,o,none⟩) ((n+63) / 64) c:=by
  injection ev with ev
  have:=congrArg (fun x:Array Value=>x.getD 0 undef) ev
  exact this
 subst es
 have hcell:=hc (j / 64) (by omega)
 have h:=Qre b o ((n+63) / 64) c n j _ W hj hn (by omega) hcell (QaR l n (j / 64))
 have e:(packW l n (j / 64)).testBit (j % 64)=l j:=by
  rw [Qay _ _ _ _ (Nat.mod_lt _ (by decide)),show 64*(j / 64)+j % 64=j by omega]
  simp [hj]
 rw [e] at h
 exact h
theorem QbV {n:Nat}{l:Nat->Bool}{u:Value}{W:World} (hn:n<=1048576) (h:BitV n l u W):NumV u 1 n (fun j=>Qai (l j)) W:=by
 obtain ⟨s,rfl,hr⟩:=h
 refine ⟨Qgw _ _ _ _ _ _ _ _,QlL _ _ _ _ _ _ _ _,fun j hj=>QtX _ _ _ _ _ _ _ j hj (l j) W (fun W' hb=>QgJ hn (hr.below hb) j hj),fun _ j hj z hz e=>?_,fun h=>absurd h (by decide),fun _ j _=>⟨_,Qe1 (l j),QgI (l j)⟩,fun j _=>Qcs _,.inl rfl,fun _=>⟨l,s,rfl,hr,fun _ _=>rfl⟩,fun h=>absurd h (by decide),⟨_,_,_,_,_,_,_,rfl⟩⟩
 have e2:z=if l j then 1 else 0:=Qjx hz (Qe1 _) (by rw [<- QgI];exact e.symm)
 rw [e2]
 exact QoP _ _ _ _ _ _ _ j hj (l j) W fun W' hb=>QgJ hn (hr.below hb) j hj
theorem QkI {n:Nat}{l:Nat->Int}{u:Value}{W:World} (h:Qro n l u W):NumV u 2 n (fun j=>fi (l j)) W:=by
 obtain ⟨⟨s,rfl,hr⟩,hl⟩:=h
 have hg:∀ j,j < n->Good (l j):=fun j hj=>by have:=hl j hj;exact ⟨by omega,by omega⟩
 obtain ⟨a,c,rfl,hc⟩:=Qbg hr
 refine ⟨QqI _ _ _ _ _ _ _ _,QtP _ _ _ _ _ _ _ _ _ _,fun j hj=>?_,fun _ j hj z hz e=>?_,fun h=>absurd h (by decide),fun _ j hj=>⟨_,hg j hj,rfl⟩,fun j hj=>QgC (hg j hj),.inr (.inl rfl),fun h=>absurd h (by decide),fun h=>absurd h (by decide),⟨_,_,_,_,_,_,_,rfl⟩⟩
 ·obtain ⟨b,o,rfl,hcell⟩:=hc j hj
  exact QtT _ _ _ _ _ _ _ _ _ _ j hj _ W hcell
 ·obtain ⟨b,o,rfl,hcell⟩:=hc j hj
  have e2:z=l j:=Qjx hz (hg j hj) e.symm
  rw [e2]
  exact Qow _ _ _ _ _ _ _ _ _ _ j hj _ (hl j hj).1 (hl j hj).2 W hcell
theorem Qe2 {n:Nat}{l:Nat->Int}{u:Value}{W:World} (h:IntV n l u W):NumV u 3 n (fun j=>fi (l j)) W:=by
 obtain ⟨⟨s,rfl,hr⟩,hg⟩:=h
 obtain ⟨a,c,rfl,hc⟩:=Qbg hr
 refine ⟨QqJ _ _ _ _ _ _ _ _,QtQ _ _ _ _ _ _ _ _ _ _,fun j hj=>?_,fun _ j hj z hz e=>?_,fun h=>absurd h (by decide),fun _ j hj=>⟨_,hg j hj,rfl⟩,fun j hj=>QgC (hg j hj),.inr (.inr (.inl rfl)),fun h=>absurd h (by decide),fun _=>⟨l,_,rfl,hr,fun j hj=>⟨rfl,hg j hj⟩⟩,⟨_,_,_,_,_,_,_,rfl⟩⟩
 ·obtain ⟨b,o,rfl,hcell⟩:=hc j hj
  exact QtU _ _ _ _ _ _ _ _ _ _ j hj _ W hcell
 ·obtain ⟨b,o,rfl,hcell⟩:=hc j hj
  have e2:z=l j:=Qjx hz (hg j hj) e.symm
  rw [e2]
  exact Qox _ _ _ _ _ _ _ _ _ _ j hj _ W hcell
theorem Qe3 {n:Nat}{F:Nat->Nat}{u:Value}{W:World} (h:Qs7 n F u W):NumV u 4 n F W:=by
 obtain ⟨⟨s,rfl,hr⟩,ht⟩:=h
 obtain ⟨a,c,rfl,hc⟩:=Qbg hr
 refine ⟨QqK _ _ _ _ _ _ _ _,QtR _ _ _ _ _ _ _ _ _ _,fun j hj=>?_,fun h=>absurd rfl h,fun _ j hj=>?_,fun h=>absurd rfl h,ht,.inr (.inr (.inr rfl)),fun h=>absurd h (by decide),fun h=>absurd h (by decide),⟨_,_,_,_,_,_,_,rfl⟩⟩
 ·obtain ⟨b,o,rfl,hcell⟩:=hc j hj
  exact QtV _ _ _ _ _ _ _ _ _ _ j hj _ W hcell
 ·obtain ⟨b,o,rfl,hcell⟩:=hc j hj
  exact Qoy _ _ _ _ _ _ _ _ _ _ j hj W
end Go.Proofs.YtdelgpelkfndeaaGreatDoor
