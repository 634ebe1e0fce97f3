/- The walk of bitvec.Truth. The walk of scan.line where every step goes in whole numbers: adding and taking away. The walk of .. Conditions: as each theorem says. -/
import Derived.Test.YtiahegjdkejjpaaGreatDoorMg12
import Derived.Test.YtiahegjdkejjpaaGreatDoorMg03
import Derived.Test.YtiahegjdkejjpaaGreatDoorMg04
set_option maxRecDepth 100000
set_option maxHeartbeats 2000000
namespace Go.Proofs.YtiahegjdkejjpaaGreatDoor
open Go Go.RowKit Go.Proofs Fl
def mT (t i:Nat):Nat:=if t.testBit i then 18446744073709551615 else 0
theorem mT_core:∀ t:Fin 16,∀ i:Fin 4,IntKind.u64.wrap (-IntKind.u64.wrap (bits BinOp.and IntKind.u8 ((t.val:Int) / 2 ^ i.val) 1))=((mT t.val i.val:Nat):Int):=by decide+kernel
theorem mT_lt (t i:Nat):mT t i < 18446744073709551616:=by unfold mT;split <;> decide
theorem ones_bit {m:Nat} (hm:m < 64):(18446744073709551615:Nat).testBit m=true:=by
 have:=not_bit 0 m hm (by decide)
 rw [show 18446744073709551615 - 0=18446744073709551615 from rfl] at this
 rw [this]
 simp
theorem mT_bit (t i m:Nat) (hm:m < 64):(mT t i).testBit m=t.testBit i:=by
 unfold mT
 split
 ·rename_i h;rw [h];exact ones_bit hm
 ·rename_i h;rw [Nat.zero_testBit];simpa using h
def tW (t a b:Nat):Nat:=mT t 0 &&& (18446744073709551615 - a) &&& (18446744073709551615 - b) ||| mT t 1 &&& (18446744073709551615 - a) &&& b ||| mT t 2 &&& a &&& (18446744073709551615 - b) ||| mT t 3 &&& a &&& b
theorem and_lt (x y:Nat) (h:x < 18446744073709551616):x &&& y < 18446744073709551616:=Nat.lt_of_le_of_lt Nat.and_le_left h
theorem or_lt (x y:Nat) (h:x < 18446744073709551616) (h':y < 18446744073709551616):x ||| y < 18446744073709551616:=Nat.or_lt_two_pow (n:=64) h h'
theorem tW_lt (t a b:Nat):tW t a b < 18446744073709551616 :=
 or_lt _ _ (or_lt _ _ (or_lt _ _ (and_lt _ _ (and_lt _ _ (mT_lt _ _))) (and_lt _ _ (and_lt _ _ (mT_lt _ _)))) (and_lt _ _ (and_lt _ _ (mT_lt _ _)))) (and_lt _ _ (and_lt _ _ (mT_lt _ _)))
theorem tW_bit (t a b m:Nat) (ha:a < 18446744073709551616) (hb:b < 18446744073709551616) (hm:m < 64):(tW t a b).testBit m=t.testBit (2*(a.testBit m).toNat+(b.testBit m).toNat):=by
 unfold tW
 simp only [Nat.testBit_or,Nat.testBit_and,mT_bit _ _ _ hm,not_bit a m hm ha,not_bit b m hm hb]
 cases a.testBit m <;> cases b.testBit m <;> simp
theorem tW_run (t a b:Nat) (ha:a < 18446744073709551616) (hb:b < 18446744073709551616) :
  bits .or .u64 (bits .or .u64 (bits .or .u64 (bits .andNot .u64 (bits .andNot .u64 ((mT t 0:Nat):Int) (a:Int)) (b:Int)) (bits .and .u64 (bits .andNot .u64 ((mT t 1:Nat):Int) (a:Int)) (b:Int))) (bits .andNot .u64 (bits .and .u64 ((mT t 2:Nat):Int) (a:Int)) (b:Int))) (bits .and .u64 (bits .and .u64 ((mT t 3:Nat):Int) (a:Int)) (b:Int))=((tW t a b:Nat):Int):=by
 have m0:=mT_lt t 0
 have m1:=mT_lt t 1
 have m2:=mT_lt t 2
 have m3:=mT_lt t 3
 rw [u64_andNot_nat _ _ m0 ha,u64_andNot_nat _ _ (and_lt _ _ m0) hb,u64_andNot_nat _ _ m1 ha,u64_and_nat _ _ (and_lt _ _ m1) hb,u64_or_nat _ _ (and_lt _ _ (and_lt _ _ m0)) (and_lt _ _ (and_lt _ _ m1)),
  u64_and_nat _ _ m2 ha,u64_andNot_nat _ _ (and_lt _ _ m2) hb,u64_or_nat _ _ (or_lt _ _ (and_lt _ _ (and_lt _ _ m0)) (and_lt _ _ (and_lt _ _ m1))) (and_lt _ _ (and_lt _ _ m2)),
  u64_and_nat _ _ m3 ha,u64_and_nat _ _ (and_lt _ _ m3) hb,u64_or_nat _ _ (or_lt _ _ (or_lt _ _ (and_lt _ _ (and_lt _ _ m0)) (and_lt _ _ (and_lt _ _ m1))) (and_lt _ _ (and_lt _ _ m2))) (and_lt _ _ (and_lt _ _ m3))]
 rfl
def MkMid (w0:World) (n:Int) (M:Nat) (p:Value) (wx:World):Prop :=
 ∃ V g,p= .pointer (some ⟨V,0,none⟩)/\RowU wx w0.heap.size g M (fun _=>0)/\Below w0.heap.size w0 wx/\wx.heap[V]?=some (.cells #[.slice (some ⟨g,0,none⟩) M M,.int .i64 n] 30)/\V≠g/\w0.heap.size<=V
theorem mkMid_a (w0:World) (n:Int) (M:Nat) (hM:M<=maxLen):MkMid w0 n M (.pointer (some ⟨w0.heap.size,0,none⟩)) ((w0.alloc (.cells #[.slice (some ⟨w0.heap.size+1,0,none⟩) M M,.int .i64 n] 30)).alloc (.cells (madeCells #[.int .u64 0] M) 232)).drew:=by
 have hs:(w0.alloc (.cells #[.slice (some ⟨w0.heap.size+1,0,none⟩) M M,.int .i64 n] 30)).heap.size=w0.heap.size+1:=by simp
 refine ⟨w0.heap.size,w0.heap.size+1,rfl,?_,(bel2 w0 _ _).drew,?_,by omega,Nat.le_refl _⟩
 ·have h:=RowU.made (w0.alloc (.cells #[.slice (some ⟨w0.heap.size+1,0,none⟩) M M,.int .i64 n] 30)) w0.heap.size (by rw [hs];omega) M hM
  rw [hs] at h
  exact h
 ·exact block_up ((bel1 (w0.alloc (.cells #[.slice (some ⟨w0.heap.size+1,0,none⟩) M M,.int .i64 n] 30)) (.cells (madeCells #[.int .u64 0] M) 232)).drew)
theorem mkMid_b (w0:World) (n:Int) (M:Nat) (hM:M<=maxLen):MkMid w0 n M (.pointer (some ⟨w0.heap.size+1,0,none⟩)) ((w0.alloc (.cells (madeCells #[.int .u64 0] M) 232)).alloc (.cells #[.slice (some ⟨w0.heap.size,0,none⟩) M M,.int .i64 n] 30)).drew:=by
 have hs:(w0.alloc (.cells (madeCells #[.int .u64 0] M) 232)).heap.size=w0.heap.size+1:=by simp
 refine ⟨w0.heap.size+1,w0.heap.size,rfl,?_,(bel2 w0 _ _).drew,?_,by omega,by omega⟩
 ·exact (RowU.made w0 w0.heap.size (Nat.le_refl _) M hM).below ((bel1 _ (.cells #[.slice (some ⟨w0.heap.size,0,none⟩) M M,.int .i64 n] 30)).drew)
 ·have h:=heap_alloc_new (w0.alloc (.cells (madeCells #[.int .u64 0] M) 232)) (.cells #[.slice (some ⟨w0.heap.size,0,none⟩) M M,.int .i64 n] 30)
  rw [hs] at h
  exact h
abbrev tabC (t i:Nat):Array Value:=#[.int .u64 (if 0 < i then mT t 0 else 0:Nat),.int .u64 (if 1 < i then mT t 1 else 0:Nat),.int .u64 (if 2 < i then mT t 2 else 0:Nat),.int .u64 (if 3 < i then mT t 3 else 0:Nat)]
theorem tab_put {w:World}{G:Nat}{e:TypeId}{t i:Nat} (hi:i < 4) (h:w.heap[G]?=some (.cells (tabC t i) e)):(w.setCell ⟨G,i,none⟩ (.int .u64 (mT t i:Nat))).heap[G]?=some (.cells (tabC t (i+1)) e):=by
 have h0:=heap_setCell_same _ G i _ e (.int .u64 (mT t i:Nat)) h
 rw [h0]
 match i,hi with
 | 0,_=>simp [tabC]
 | 1,_=>simp [tabC]
 | 2,_=>simp [tabC]
 | 3,_=>simp [tabC]
theorem tab_cell {w:World}{G:Nat}{e:TypeId}{t i:Nat} (h:w.heap[G]?=some (.cells (tabC t i) e)) (j:Nat) (hj:j < 4):w.cell? ⟨G,j,none⟩=some (.int .u64 (if j < i then mT t j else 0:Nat))/\w.frozen? ⟨G,j,none⟩=false:=by
 refine ⟨?_,frozen_of_row _ _ j _ e h⟩
 rw [cell_of_row _ G j _ e (0,0) h]
 match j,hj with
 | 0,_=>rfl
 | 1,_=>rfl
 | 2,_=>rfl
 | 3,_=>rfl
structure TrS (w W:World) (o1 o2:Obj) (t i:Nat):Prop where
 one:W.heap[w.heap.size]?=some o1
 two:W.heap[w.heap.size+1]?=some o2
 res:W.heap[w.heap.size+2]?=some (.cells bcells 30)
 tab:W.heap[w.heap.size+3]?=some (.cells (tabC t i) 283)
 bel:Below w.heap.size w W
theorem TrS.sz {w W:World}{o1 o2:Obj}{t i:Nat} (h:TrS w W o1 o2 t i):w.heap.size+4<=W.heap.size:=lt_of_block h.tab
theorem TrS.step {w W W':World}{o1 o2:Obj}{t i:Nat} (h:TrS w W o1 o2 t i) (hb:Below (w.heap.size+4) W W'):TrS w W' o1 o2 t i :=
 ⟨by rw [hb.block _ (by omega)];exact h.one,by rw [hb.block _ (by omega)];exact h.two,by rw [hb.block _ (by omega)];exact h.res,by rw [hb.block _ (by omega)];exact h.tab,h.bel.trans (hb.mono (by omega))⟩
theorem TrS.new (w:World) (o1 o2:Obj) (t:Nat):TrS w ((((w.alloc o1).alloc o2).alloc (.cells bcells 30)).alloc (.cells #[.int .u64 0,.int .u64 0,.int .u64 0,.int .u64 0] 283)) o1 o2 t 0:=by
 have s1:(w.alloc o1).heap.size=w.heap.size+1:=by simp
 have s2:((w.alloc o1).alloc o2).heap.size=w.heap.size+2:=by simp
 have s3:(((w.alloc o1).alloc o2).alloc (.cells bcells 30)).heap.size=w.heap.size+3:=by simp
 refine ⟨block_up (bel3 (w.alloc o1) _ _ _),?_,?_,?_,bel_both (bel3 w _ _ _) (bel1 _ _)⟩
 ·have h:=block_up (bel2 ((w.alloc o1).alloc o2) (.cells bcells 30) (.cells #[.int .u64 0,.int .u64 0,.int .u64 0,.int .u64 0] 283))
  rw [s1] at h
  exact h
 ·have h:=block_up (bel1 (((w.alloc o1).alloc o2).alloc (.cells bcells 30)) (.cells #[.int .u64 0,.int .u64 0,.int .u64 0,.int .u64 0] 283))
  rw [s2] at h
  exact h
 ·have h:=heap_alloc_new (((w.alloc o1).alloc o2).alloc (.cells bcells 30)) (.cells #[.int .u64 0,.int .u64 0,.int .u64 0,.int .u64 0] 283)
  rw [s3] at h
  exact h
theorem btruth_any (t:Nat) (ht:t < 16) (b1 o1 c1 b2 o2 c2 n:Nat) (l1 l2:Nat->Bool) (w:World) (hn:n<=1048576)
  (hc1:∀ j,j < (n+63) / 64->w.cell? ⟨b1,o1+j,none⟩=some (.int .u64 (packW l1 n j:Nat))) (hc2:∀ j,j < (n+63) / 64->w.cell? ⟨b2,o2+j,none⟩=some (.int .u64 (packW l2 n j:Nat))) :
  Calls Tryz.prog 214 #[.int .u8 (t:Int),.agg #[.slice (some ⟨b1,o1,none⟩) ((n+63) / 64) c1,.int .i64 (n:Int)],.agg #[.slice (some ⟨b2,o2,none⟩) ((n+63) / 64) c2,.int .i64 (n:Int)]] w fun e w'=>∃ g,e= .returned (.tuple #[.agg #[.slice (some ⟨g,0,none⟩) ((n+63) / 64) ((n+63) / 64),.int .i64 (n:Int)],.bool true])/\RowU w' w.heap.size g ((n+63) / 64) (packW (fun i=>t.testBit (2*(l1 i).toNat+(l2 i).toNat)) n)/\Below w.heap.size w w':=by
 obtain ⟨M,hM⟩:∃ M,M=(n+63) / 64:=⟨_,rfl⟩
 rw [<- hM] at hc1 hc2 ⊢
 have HC1:=Lib.hid hc1
 have HC2:=Lib.hid hc2
 have HM:=Lib.hid hM
 have hMb:M<=16384:=by omega
 have hmk:=run_make_row' (P:=Tryz.prog) 28 232 (.int .u64 0) 8 Tryz.underlying28 info_u64 rfl .i64 .i64 M (by omega) (by omega)
 have HT0:=Lib.hid (TrS.new w (.cells #[.slice (some ⟨b1,o1,none⟩) M c1,.int .i64 (n:Int)] 30) (.cells #[.slice (some ⟨b2,o2,none⟩) M c2,.int .i64 (n:Int)] 30) t)
 clear hc1 hc2 hM
 obtain ⟨X1,hX1⟩:∃ X:Obj,X= .cells #[.slice (some ⟨b1,o1,none⟩) M c1,.int .i64 (n:Int)] 30:=⟨_,rfl⟩
 obtain ⟨X2,hX2⟩:∃ X:Obj,X= .cells #[.slice (some ⟨b2,o2,none⟩) M c2,.int .i64 (n:Int)] 30:=⟨_,rfl⟩
 have HX1:=Lib.hid hX1
 have HX2:=Lib.hid hX2
 have HT0':Hid (TrS w ((((w.alloc (.cells #[.slice (some ⟨b1,o1,none⟩) M c1,.int .i64 (n:Int)] 30)).alloc (.cells #[.slice (some ⟨b2,o2,none⟩) M c2,.int .i64 (n:Int)] 30)).alloc (.cells bcells 30)).alloc (.cells #[.int .u64 0,.int .u64 0,.int .u64 0,.int .u64 0] 283)) X1 X2 t 0):=by
  show TrS _ _ _ _ _ _
  rw [hX1,hX2]
  exact HT0.out
 clear hX1 hX2 HT0
 go_enter Tryz.func214,Tryz.ntmps214
 go_wp2_with fail
 go_loopw [20] (fun ii wr=>∃ i:Nat,i<=4/\ii= .int .i64 i/\TrS w wr X1 X2 t i) (fun ii _=>4 - (intOf ii).toNat)
 case atStart=>exact ⟨0,Nat.zero_le _,rfl,HT0'.out⟩
 case round =>
  clear HT0'
  obtain ⟨i,hi,rfl,hts⟩:=hrel
  have HTS:=Lib.hid hts
  clear hts
  by_cases hlt:i < 4
  ·obtain ⟨hcell,hf⟩:=tab_cell HTS.out.tab i hlt
   have hlt2:(i:Int) < 4:=by omega
   have HMC:Hid (IntKind.u64.wrap (-IntKind.u64.wrap (bits BinOp.and IntKind.u8 ((t:Int) / 2 ^ i) 1))=((mT t i:Nat):Int)):=mT_core ⟨t,ht⟩ ⟨i,hlt⟩
   have HNEW:Hid (TrS w (wr.setCell ⟨w.heap.size+3,i,none⟩ (.int .u64 (mT t i:Nat))) X1 X2 t (i+1)) :=
    ⟨by rw [Below.heap_setCell _ _ _ _ (by show _≠w.heap.size+3;omega)];exact HTS.out.one,by rw [Below.heap_setCell _ _ _ _ (by show _≠w.heap.size+3;omega)];exact HTS.out.two,by rw [Below.heap_setCell _ _ _ _ (by show _≠w.heap.size+3;omega)];exact HTS.out.res,tab_put hlt HTS.out.tab,HTS.out.bel.setCell (by show _<=w.heap.size+3;omega) _⟩
   go_wp2
   rw [HMC.out]
   exact ⟨⟨i+1,by omega,by go_num,HNEW.out⟩,by simp [intOf];omega⟩
  ·obtain rfl:i=4:=by omega
   have HTS0:=HTS
   obtain ⟨hx0,hx1,_⟩:=pair_of (by have:=HTS.out.one;rw [HX1.out] at this;exact this)
   obtain ⟨hy0,hy1,_⟩:=pair_of (by have:=HTS.out.two;rw [HX2.out] at this;exact this)
   have HMA:=Lib.hid (mkMid_a wr (n:Int) M (by unfold maxLen;omega))
   have HMB:=Lib.hid (mkMid_b wr (n:Int) M (by unfold maxLen;omega))
   go_wp2_with fail
   obtain ⟨B,hB⟩:∃ B,B=wr.heap.size:=⟨_,rfl⟩
   have hBw:w.heap.size+4<=B:=by rw [hB];exact HTS.out.sz
   go_cut [10] from 33 (fun p wx=>MkMid wr (n:Int) M p wx)
   case first =>
    have z0:w.heap.size < wr.heap.size:=by have:=HTS.out.sz;omega
    have hx0a:=fun o=>cell_box1 hx0 o
    have hx1a:=fun o=>cell_box1 hx1 o
    go_region
    all_goals
     go_wp2
     go_meet
     first | exact HMA.out | exact HMB.out
   obtain ⟨V,g,rfl,hr0,hb0,hkV,hVg,hV⟩:=hcut
   have hg2:=hr0.low.1
   rw [<- hB] at hr0 hV hg2
   have HR0:=Lib.hid hr0
   have HT1:=Lib.hid (HTS.out.step (hb0.mono HTS.out.sz))
   have HKV:=Lib.hid hkV
   clear hr0 hb0 hkV hmk HMA HMB HTS HTS0 hB hx0 hx1 hy0 hy1
   obtain ⟨hv0,hv1,_⟩:=pair_of HKV.out
   go_wp2_with fail
   go_loopw [43] (fun ii wr=>∃ i:Nat,i<=M/\ii= .int .i64 i/\RowU wr B g M (fun j=>if j < i then tW t (packW l1 n j) (packW l2 n j) else 0)/\TrS w wr X1 X2 t 4/\wr.heap[V]?=some (.cells #[.slice (some ⟨g,0,none⟩) M M,.int .i64 (n:Int)] 30)) (fun ii _=>M - (intOf ii).toNat)
   case atStart=>exact ⟨0,Nat.zero_le _,rfl,HR0.out.same (fun j _=>by rw [if_neg (Nat.not_lt_zero _)]),HT1.out,HKV.out⟩
   case round =>
    clear HR0 HT1 HKV hv0 hv1
    obtain ⟨i,hi,rfl,hrow,hts,hkv⟩:=hrel
    have HROW:=Lib.hid hrow
    have HTS:=Lib.hid hts
    have HKV:=Lib.hid hkv
    clear hrow hts hkv
    by_cases hlt:i < M
    ·obtain ⟨hx0,hx1,_⟩:=pair_of (by have:=HTS.out.one;rw [HX1.out] at this;exact this)
     obtain ⟨hy0,hy1,_⟩:=pair_of (by have:=HTS.out.two;rw [HX2.out] at this;exact this)
     have hca:wr.cell? ⟨b1,o1+i,none⟩=some (.int .u64 (packW l1 n i:Nat)):=by rw [HTS.out.bel.cell (cell_lt (HC1.out i hlt))];exact HC1.out i hlt
     have hcb:wr.cell? ⟨b2,o2+i,none⟩=some (.int .u64 (packW l2 n i:Nat)):=by rw [HTS.out.bel.cell (cell_lt (HC2.out i hlt))];exact HC2.out i hlt
     have HRUN:=Lib.hid (tW_run t (packW l1 n i) (packW l2 n i) (packW_lt l1 n i) (packW_lt l2 n i))
     have HPUT:=Lib.hid (fun W (hr:RowU W B g M (fun j=>if j < i then tW t (packW l1 n j) (packW l2 n j) else 0))=>hr.put hlt (tW t (packW l1 n i) (packW l2 n i)) (F':=fun j=>if j < i+1 then tW t (packW l1 n j) (packW l2 n j) else 0) (fun j _=>by
      by_cases e:j=i
      ·rw [if_pos e,if_pos (by omega),e]
      ·rw [if_neg e]
       by_cases h2:j < i
       ·rw [if_pos h2,if_pos (by omega)]
       ·rw [if_neg h2,if_neg (by omega)]))
     generalize packW l1 n i=a at *
     generalize packW l2 n i=b at *
     go_wp2_with fail
     go_cut [12,13] from 46 to 87 (fun x y wx=>x= .int .u64 (a:Int)/\y= .int .u64 (b:Int)/\Below wr.heap.size wr wx)
     case first =>
      go_quiet (fail)
      go_wp2
      go_meet
      exact ⟨rfl,rfl,drewN1' (Below.refl _ _) _⟩
     case rest =>
      obtain ⟨rfl,rfl,hbc⟩:=hcut
      have HROWC:=Lib.hid (HROW.out.below hbc)
      have HTSC:=Lib.hid (HTS.out.step (hbc.mono HTS.out.sz))
      have HKVC:=Lib.hid (show wc.heap[V]?=some (.cells #[.slice (some ⟨g,0,none⟩) M M,.int .i64 (n:Int)] 30) by rw [hbc.block _ (lt_of_block HKV.out)];exact HKV.out)
      have HP2:=Lib.hid (HPUT.out wc HROWC.out)
      clear hbc hx0 hx1 hy0 hy1 hca hcb HROW HTS HKV HPUT
      obtain ⟨hv0,hv1,hvf⟩:=pair_of HKVC.out
      have hcw:=HROWC.out.cell hlt
      have hfw:=HROWC.out.frozen i
      have t0:wc.cell? ⟨w.heap.size+3,0,none⟩=some (.int .u64 ((mT t 0:Nat):Int)):=(tab_cell HTSC.out.tab 0 (by decide)).1
      have t1:wc.cell? ⟨w.heap.size+3,1,none⟩=some (.int .u64 ((mT t 1:Nat):Int)):=(tab_cell HTSC.out.tab 1 (by decide)).1
      have t2:wc.cell? ⟨w.heap.size+3,2,none⟩=some (.int .u64 ((mT t 2:Nat):Int)):=(tab_cell HTSC.out.tab 2 (by decide)).1
      have t3:wc.cell? ⟨w.heap.size+3,3,none⟩=some (.int .u64 ((mT t 3:Nat):Int)):=(tab_cell HTSC.out.tab 3 (by decide)).1
      have HT2:Hid (TrS w (wc.setCell ⟨g,i,none⟩ (.int .u64 (tW t a b:Nat))) X1 X2 t 4):=HTSC.out.step ((Below.refl _ wc).setCell (by show _<=g;omega) _)
      have HK2:=Lib.hid ((Below.heap_setCell wc ⟨g,i,none⟩ (.int .u64 (tW t a b:Nat)) V (by show _≠g;exact hVg)).trans HKVC.out)
      go_wp2
      rw [HRUN.out]
      exact ⟨⟨i+1,by omega,by go_num,HP2.out,HT2.out,HK2.out⟩,by simp [intOf];omega⟩
    ·obtain rfl:i=M:=by omega
     have HT:=Lib.hid (trim_any B g n i _ wr hn HM.out HROW.out (fun j hj=>by
      show (if j < i then _ else _) < _
      rw [if_pos hj]
      exact tW_lt _ _ _))
     have HF:Hid (∀ j,j < i->trimF n i (fun j=>if j < i then tW t (packW l1 n j) (packW l2 n j) else 0) j=packW (fun i=>t.testBit (2*(l1 i).toNat+(l2 i).toNat)) n j):=by
      refine trimF_pack n i _ _ HM.out (fun j hj=>?_) (fun j hj m hm hin=>?_)
      ·show (if j < i then _ else _) < _
       rw [if_pos hj]
       exact tW_lt _ _ _
      ·show Nat.testBit (if j < i then _ else _) m=_
       rw [if_pos hj,tW_bit t _ _ m (packW_lt l1 n j) (packW_lt l2 n j) hm,packW_bit l1 n j m hm,packW_bit l2 n j m hm]
       simp [hin]
     obtain ⟨hv0,hv1,hvf⟩:=pair_of HKV.out
     go_wp2_with fail
     refine HT.out.mono ?_
     rintro e w5 ⟨rfl,hr5,hb5,ho5⟩
     have HR5:=Lib.hid (hr5.same (F':=packW (fun i=>t.testBit (2*(l1 i).toNat+(l2 i).toNat)) n) (fun j hj=>(HF.out j hj).symm))
     have HT5:=Lib.hid (HTS.out.step (hb5.mono hBw))
     have hVl:V < wr.heap.size:=lt_of_block HKV.out
     have HKV5:=Lib.hid (show w5.heap[V]?=some (.cells #[.slice (some ⟨g,0,none⟩) i i,.int .i64 (n:Int)] 30) by rw [ho5 V hVl hVg];exact HKV.out)
     clear hr5 hb5 ho5 hv0 hv1 hvf
     obtain ⟨hv0,hv1,hvf⟩:=pair_of HKV5.out
     obtain ⟨hk0,hk1,hkf⟩:=pair_of HT5.out.res
     go_wp2
     refine bodyPost_ret (v := .tuple #[.agg #[.slice (some ⟨g,0,none⟩) i i,.int .i64 (n:Int)],.bool true]) ?_ rfl ⟨g,rfl,?_,below_set2 HT5.out.bel (by omega) _ _⟩
     ·exact ret_bits2 (fn:=Tryz.f214) (p:=6) (u:=7) rfl _ _ (w.heap.size+2) (by rfl) (set2_block HT5.out.res _ _)
     ·exact own_set2 (HR5.out.lower (by omega)) (by show some g≠_;intro e;injection e;omega) _ _
structure Only (g:Nat) (w w':World):Prop where
 os:w'.os=w.os
 tape:w'.tape=w.tape
 output:w'.output=w.output
 size:w.heap.size<=w'.heap.size
 block:∀ k,k < w.heap.size->k≠g->w'.heap[k]?=w.heap[k]?
theorem Only.refl (g:Nat) (w:World):Only g w w:=⟨rfl,rfl,rfl,Nat.le_refl _,fun _ _ _=>rfl⟩
theorem Only.trans {g:Nat}{a b c:World} (h:Only g a b) (k:Only g b c):Only g a c :=
 ⟨k.os.trans h.os,k.tape.trans h.tape,k.output.trans h.output,Nat.le_trans h.size k.size,fun i hi hg=>(k.block i (Nat.lt_of_lt_of_le hi h.size) hg).trans (h.block i hi hg)⟩
theorem Only.set {g:Nat}{a b:World} (h:Only g a b) (i:Nat) (u:Value):Only g a (b.setCell ⟨g,i,none⟩ u):=by
 have hb:=(Below.refl g b).setCell (p:=⟨g,i,none⟩) (Nat.le_refl g) u
 exact h.trans ⟨hb.os,hb.tape,hb.output,hb.size,fun k _ hg=>Below.heap_setCell _ _ _ _ hg⟩
theorem Only.below {g B:Nat}{w0 w w':World} (h:Only g w w') (hb:Below B w0 w) (hB:B<=g) (hg:g < w.heap.size):Below B w0 w' :=
 ⟨h.os.trans hb.os,h.tape.trans hb.tape,h.output.trans hb.output,Nat.le_trans hb.size h.size,fun k hk=>(h.block k (by omega) (by omega)).trans (hb.block k hk)⟩
theorem Only.cell {g:Nat}{w w':World} (h:Only g w w'){b i:Nat}{v:Value} (hc:w.cell? ⟨b,i,none⟩=some v) (hg:b≠g):w'.cell? ⟨b,i,none⟩=some v:=by
 rw [World.cell?_of_block (w:=w) (h.block b (cell_lt hc) hg)];exact hc
def Row64 (w:World) (B g T:Nat) (F:Nat->Int):Prop:=Own1 w B 2 (.slice (some ⟨g,0,none⟩) T T) ((List.range T).map fun j => .int .i64 (F j))
theorem set_map_range {T k:Nat}{f:Nat->Value} (hk:k < T) (u:Value):((List.range T).map f).set k u=(List.range T).map fun j=>if j=k then u else f j:=by
 apply List.ext_getElem?
 intro i
 rw [List.getElem?_set]
 by_cases hi:i < T
 ·by_cases e:k=i
  ·subst e;simp [hk]
  ·have e':¬ i=k:=fun h=>e h.symm
   simp [e,e',hi]
 ·have h1:((List.range T).map f)[i]?=none:=by simp;omega
  have h2:((List.range T).map fun j=>if j=k then u else f j)[i]?=none:=by simp;omega
  rw [h2,if_neg (by omega),h1]
theorem Row64.ow {w:World}{B g T:Nat}{F:Nat->Int} (h:Row64 w B g T F):w.ownsRow B 2 1 (.slice (some ⟨g,0,none⟩) T T) T ((List.range T).map fun j => .int .i64 (F j)):=by
 have:=h
 unfold Row64 Own1 at this
 rw [List.length_map,List.length_range] at this
 exact this
theorem Row64.of_ow {w:World}{B g T:Nat}{F:Nat->Int} (h:w.ownsRow B 2 1 (.slice (some ⟨g,0,none⟩) T T) T ((List.range T).map fun j => .int .i64 (F j))):Row64 w B g T F:=by
 unfold Row64 Own1
 rw [List.length_map,List.length_range]
 exact h
theorem Row64.put {w:World}{B g T:Nat}{F:Nat->Int} (h:Row64 w B g T F){k:Nat} (hk:k < T) (z:Int):Row64 (w.setCell ⟨g,k,none⟩ (.int .i64 z)) B g T (fun j=>if j=k then z else F j):=by
 have h2:=(World.ownsRow.stored h.ow k (.int .i64 z)).1
 rw [set_map_range hk] at h2
 refine Row64.of_ow ?_
 have e:((List.range T).map fun j=>Value.int .i64 (if j=k then z else F j))=(List.range T).map fun j=>if j=k then .int .i64 z else .int .i64 (F j):=by
  apply List.map_congr_left
  intro j _
  split <;> rfl
 rw [e]
 exact h2
theorem Row64.cell {w:World}{B g T:Nat}{F:Nat->Int} (h:Row64 w B g T F){k:Nat} (hk:k < T):w.cell? ⟨g,k,none⟩=some (.int .i64 (F k)):=by
 have:=World.ownsRow.cellAt h.ow k (by omega)
 rw [this]
 simp [hk]
theorem Row64.frozen {w:World}{B g T:Nat}{F:Nat->Int} (h:Row64 w B g T F) (k:Nat):w.frozen? ⟨g,k,none⟩=false:=World.ownsRow.frozenAt h.ow k
theorem Row64.low {w:World}{B g T:Nat}{F:Nat->Int} (h:Row64 w B g T F):B<=g/\g < w.heap.size:=World.ownsRow.lt h.ow g rfl
theorem ofInt_64 (a:Nat) (ha:a < 18446744073709551616):(BitVec.ofInt 64 (a:Int)).toNat=a:=by
 rw [BitVec.ofInt_natCast,BitVec.toNat_ofNat];exact Nat.mod_eq_of_lt (by omega)
theorem and_one_i64 (i:Nat) (h:i<=1000000):bits .and .i64 (i:Int) 1=((i % 2:Nat):Int):=by
 show IntKind.i64.wrap ((BitVec.ofInt 64 (i:Int) &&& BitVec.ofInt 64 ((1:Nat):Int)).toNat:Int)=_
 rw [BitVec.toNat_and,ofInt_64 i (by omega),ofInt_64 1 (by omega),Nat.and_one_is_mod,IntKind.wrap_i64]
 omega
def tbR (f:Int) (j:Nat):Bool:=relB f (fi ((j / 2:Nat):Int)) (fi ((j % 2:Nat):Int))
theorem or_core:∀ T:Fin 16,∀ k:Fin 4,bits BinOp.or IntKind.u8 (T.val:Int) (2 ^ k.val % 256)=((T.val ||| 2 ^ k.val:Nat):Int):=by decide+kernel
theorem rtable_any (f:Int) (hf:11<=f) (hf2:f<=16) (w:World) :
  Calls Tryz.prog 235 #[.int .i64 f] w fun e w'=>∃ t:Nat,e= .returned (.int .u8 (t:Int))/\(t < 16/\∀ j,j < 4->t.testBit j=tbR f j)/\w=w':=by
 have HONE:=Lib.hid (fun k (hk:k < 4) W=>relate_any f hf hf2 (fi ((k / 2:Nat):Int)) (fi ((k % 2:Nat):Int)) (tf_fi ⟨by omega,by omega⟩) (tf_fi ⟨by omega,by omega⟩) W)
 clear hf hf2
 go_enter Tryz.func235,Tryz.ntmps235
 go_wp2
 go_loop [3,7] (fun t i=>∃ k T:Nat,k<=4/\i= .int .i64 k/\t= .int .u8 (T:Int)/\T < 2 ^ k/\∀ j,j < k->T.testBit j=tbR f j) (fun _ i=>4 - (intOf i).toNat)
 case atStart=>exact ⟨0,0,by omega,rfl,rfl,by decide,fun j hj=>absurd hj (Nat.not_lt_zero _)⟩
 case round =>
  obtain ⟨k,T,hk,rfl,rfl,hT,hb⟩:=hrel
  have HT:=Lib.hid hT
  have HB:=Lib.hid hb
  clear hT hb
  by_cases hlt:k < 4
  ·have HO:=Lib.hid (HONE.out k hlt)
   have e1:bits .and .i64 (k:Int) 1=((k % 2:Nat):Int):=and_one_i64 k (by omega)
   have hlt2:(k:Int) < 4:=by omega
   have HTB:Hid (tbR f k=relB f (fi ((k / 2:Nat):Int)) (fi ((k % 2:Nat):Int))):=rfl
   generalize relB f (fi ((k / 2:Nat):Int)) (fi ((k % 2:Nat):Int))=tt at *
   go_wp2_with fail
   refine (HO.out _).mono ?_
   rintro e w' ⟨rfl,rfl⟩
   have hk3:2 ^ k<=8:=by
    have:=Nat.pow_le_pow_right (n:=2) (by decide) (show k<=3 by omega)
    exact this
   have HOR:Hid (bits BinOp.or IntKind.u8 (T:Int) (2 ^ k % 256)=((T ||| 2 ^ k:Nat):Int)):=or_core ⟨T,by have:=HT.out;omega⟩ ⟨k,hlt⟩
   have hp:(2:Nat) ^ (k+1)=2 ^ k*2:=Nat.pow_succ 2 k
   have HP:=Lib.hid hp
   clear hp
   cases tt with
   | true =>
    have HN1:Hid (T ||| 2 ^ k < 2 ^ (k+1)):=Nat.or_lt_two_pow (by have:=HT.out;have:=HP.out;omega) (by have:=HP.out;have:=Nat.two_pow_pos k;omega)
    have HN2:Hid (∀ j,j < k+1->(T ||| 2 ^ k).testBit j=tbR f j):=fun j hj=>by
     rw [Nat.testBit_or,Nat.testBit_two_pow]
     by_cases e:j=k
     ·subst e
      rw [HTB.out]
      simp
     ·rw [HB.out j (by omega)]
      have:¬ k=j:=fun h=>e h.symm
      simp [this]
    clear hk3
    go_wp2
    rw [HOR.out]
    go_round
    case rel=>exact ⟨k+1,T ||| 2 ^ k,by omega,by go_num,rfl,HN1.out,HN2.out⟩
    case measure=>simp [intOf];omega
   | false =>
    have HN1:Hid (T < 2 ^ (k+1)):=by have:=HT.out;have:=HP.out;show T < _;omega
    have HN2:Hid (∀ j,j < k+1->T.testBit j=tbR f j):=fun j hj=>by
     by_cases e:j=k
     ·subst e
      rw [HTB.out]
      exact Nat.testBit_lt_two_pow HT.out
     ·exact HB.out j (by omega)
    clear hk3
    go_wp2
    go_round
    case rel=>exact ⟨k+1,T,by omega,by go_num,rfl,HN1.out,HN2.out⟩
    case measure=>simp [intOf];omega
  ·obtain rfl:k=4:=by omega
   go_wp2
   go_ret
   exact ⟨T,rfl,⟨HT.out,HB.out⟩,rfl⟩
end Go.Proofs.YtiahegjdkejjpaaGreatDoor
