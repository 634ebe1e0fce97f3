/- The walks of bitvec.Make (all false) and of Pack. The walk of math/bits.OnesCount64 and of bitvec's .. Conditions: as each theorem says. -/
import Derived.Test.YtakgmnafbjdccaaGreatDoorMg05
import Derived.Test.YtakgmnafbjdccaaGreatDoorMg04
set_option maxRecDepth 100000
set_option maxHeartbeats 1000000
namespace Go.Proofs.YtakgmnafbjdccaaGreatDoor
open Go Go.RowKit Go.Proofs Fl
theorem info_u64:(Tryz.prog.info? 206).map (fun i=>(i.zero,i.size,i.bytes))=some (some (.int .u64 0),1,8):=by kernel_rfl
abbrev set2 (w:World) (G:Nat) (a0 a1:Value):World:=(w.setCell ⟨G,0,none⟩ a0).setCell ⟨G,1,none⟩ a1
theorem below_set2 {B:Nat}{w0 w:World} (h:Below B w0 w){G:Nat} (hG:B<=G) (a0 a1:Value):Below B w0 (set2 w G a0 a1):=(h.setCell hG _).setCell hG _
theorem own_set2 {w:World}{B:Nat}{e:TypeId}{v:Value}{xs:List Value} (h:Own1 w B e v xs){G:Nat} (hG:v.ownBlock≠some G) (a0 a1:Value):Own1 (set2 w G a0 a1) B e v xs:=by
 unfold Own1 at *
 exact ownsRow_setCell_other (ownsRow_setCell_other h hG _) hG _
theorem set2_block {w:World}{G:Nat}{e:TypeId}{z0 z1:Value} (h:w.heap[G]?=some (.cells #[z0,z1] e)) (a0 a1:Value):(set2 w G a0 a1).heap[G]?=some (.cells #[a0,a1] e):=by
 have h0:=heap_setCell_same _ G 0 _ e a0 h
 rw [show (#[z0,z1]:Array Value).setIfInBounds 0 a0=#[a0,z1] by simp] at h0
 have h1:=heap_setCell_same _ G 1 _ e a1 h0
 rw [show (#[a0,z1]:Array Value).setIfInBounds 1 a1=#[a0,a1] by simp] at h1
 exact h1
theorem ret_bits {fn:Func}{p:Tmp} (h:fn.results=#[.cell p 31]) (tmps:Array Value) (w:World) (G:Nat){e:TypeId}{a0 a1:Value}
  (hp:tmps.getD p undef= .pointer (some ⟨G,0,none⟩)) (hg:w.heap[G]?=some (.cells #[a0,a1] e)) :
  (results fn tmps).run Tryz.prog w= .ok (.agg #[a0,a1]) w :=
 results_cell_row h tmps w G e _ (0,0) _ hp hg Tryz.underlying31 rfl bits_size
theorem pair_of {w:World}{G:Nat}{e:TypeId}{a b:Value} (h:w.heap[G]?=some (.cells #[a,b] e)):w.cell? ⟨G,0,none⟩=some a/\w.cell? ⟨G,1,none⟩=some b/\∀ j,w.frozen? ⟨G,j,none⟩=false :=
 ⟨by rw [cell_of_row _ G 0 _ e (0,0) h];rfl,by rw [cell_of_row _ G 1 _ e (0,0) h];rfl,fun j=>frozen_of_row _ _ j _ e h⟩
def RowU (w:World) (B g T:Nat) (F:Nat->Nat):Prop:=Own1 w B 206 (.slice (some ⟨g,0,none⟩) T T) ((List.range T).map fun j => .int .u64 (F j:Nat))
theorem RowU.ow {w:World}{B g T:Nat}{F:Nat->Nat} (h:RowU w B g T F):w.ownsRow B 206 1 (.slice (some ⟨g,0,none⟩) T T) T ((List.range T).map fun j => .int .u64 (F j:Nat)):=by
 have:=h
 unfold RowU Own1 at this
 rw [List.length_map,List.length_range] at this
 exact this
theorem RowU.of_ow {w:World}{B g T:Nat}{F:Nat->Nat} (h:w.ownsRow B 206 1 (.slice (some ⟨g,0,none⟩) T T) T ((List.range T).map fun j => .int .u64 (F j:Nat))):RowU w B g T F:=by
 unfold RowU Own1
 rw [List.length_map,List.length_range]
 exact h
theorem set_map_range' {T k:Nat}{f:Nat->Value} (hk:k < T) (u:Value):((List.range T).map f).set k u=(List.range T).map fun j=>if j=k then u else f j:=by
 apply List.ext_getElem?
 intro i
 rw [List.getElem?_set]
 by_cases hi:i < T
 ·by_cases e:k=i
  ·subst e;simp [hk]
  ·have e':¬ i=k:=fun h=>e h.symm
   simp [e,e',hi]
 ·have h1:((List.range T).map f)[i]?=none:=by simp;omega
  have h2:((List.range T).map fun j=>if j=k then u else f j)[i]?=none:=by simp;omega
  rw [h2,if_neg (by omega),h1]
theorem RowU.put {w:World}{B g T:Nat}{F F':Nat->Nat} (h:RowU w B g T F){k:Nat} (hk:k < T) (z:Nat) (hF:∀ j,j < T->F' j=if j=k then z else F j):RowU (w.setCell ⟨g,k,none⟩ (.int .u64 (z:Nat))) B g T F':=by
 have h2:=(World.ownsRow.stored h.ow k (.int .u64 (z:Nat))).1
 rw [set_map_range' hk] at h2
 refine RowU.of_ow ?_
 have e:((List.range T).map fun j=>Value.int .u64 (F' j:Nat))=(List.range T).map fun j=>if j=k then .int .u64 (z:Nat) else .int .u64 (F j:Nat):=by
  apply List.map_congr_left
  intro j hj
  rw [hF j (List.mem_range.1 hj)]
  split <;> rfl
 rw [e]
 exact h2
theorem RowU.cell {w:World}{B g T:Nat}{F:Nat->Nat} (h:RowU w B g T F){k:Nat} (hk:k < T):w.cell? ⟨g,k,none⟩=some (.int .u64 (F k:Nat)):=by
 have:=World.ownsRow.cellAt h.ow k (by omega)
 rw [this]
 simp [hk]
theorem RowU.frozen {w:World}{B g T:Nat}{F:Nat->Nat} (h:RowU w B g T F) (k:Nat):w.frozen? ⟨g,k,none⟩=false:=World.ownsRow.frozenAt h.ow k
theorem RowU.low {w:World}{B g T:Nat}{F:Nat->Nat} (h:RowU w B g T F):B<=g/\g < w.heap.size:=World.ownsRow.lt h.ow g rfl
theorem RowU.same {w:World}{B g T:Nat}{F F':Nat->Nat} (h:RowU w B g T F) (e:∀ j,j < T->F' j=F j):RowU w B g T F':=by
 have e2:((List.range T).map fun j=>Value.int .u64 (F' j:Nat))=(List.range T).map fun j => .int .u64 (F j:Nat):=by
  apply List.map_congr_left
  intro j hj
  rw [e j (List.mem_range.1 hj)]
 unfold RowU
 rw [e2]
 exact h
theorem RowU.below {w w':World}{B g T:Nat}{F:Nat->Nat} (h:RowU w B g T F) (hb:Below w.heap.size w w'):RowU w' B g T F:=Own1.below h hb
theorem RowU.lower {w:World}{B B' g T:Nat}{F:Nat->Nat} (h:RowU w B g T F) (hB:B'<=B):RowU w B' g T F:=Own1.lower h hB
theorem RowU.made (w:World) (B:Nat) (hB:B<=w.heap.size) (T:Nat) (hT:T<=maxLen):RowU (w.alloc (.cells (madeCells #[.int .u64 0] T) 206)) B w.heap.size T (fun _=>0):=by
 have h:=World.ownsRow_lit (base:=B) (e:=206) (size:=1) w (madeCells #[.int .u64 0] T) T hB hT (by rw [size_madeCells];omega)
 rw [toList_madeCells_one] at h
 refine RowU.of_ow ?_
 have e:((List.range T).map fun _:Nat=>Value.int .u64 ((0:Nat):Int))=List.replicate T (.int .u64 0):=by
  rw [List.map_const',List.length_range]
  rfl
 rw [e]
 exact h
abbrev bcells:Array Value:=#[.slice none 0 0,.int .i64 0]
theorem make_false (n:Nat) (hn:n<=1048576) (w:World) :
  Calls Tryz.prog 173 #[.int .i64 (n:Int),.bool false] w fun e w'=>∃ g,e= .returned (.agg #[.slice (some ⟨g,0,none⟩) ((n+63) / 64) ((n+63) / 64),.int .i64 (n:Int)])/\RowU w' w.heap.size g ((n+63) / 64) (fun _=>0)/\Below w.heap.size w w':=by
 obtain ⟨M,hM⟩:∃ M,M=(n+63) / 64:=⟨_,rfl⟩
 have hMi:((n:Int)+63) / 64=(M:Int):=by omega
 have hmm:max (0:Int) (min (n:Int) 1048576)=(n:Int):=by omega
 have hmk:=run_make_row' (P:=Tryz.prog) 29 206 (.int .u64 0) 8 Tryz.underlying29 info_u64 rfl .i64 .i64 M (by omega) (by omega)
 rw [<- hM]
 have hMb:M<=16384:=by omega
 clear hM
 go_enter Tryz.func173,Tryz.ntmps173
 have HR:=Lib.hid ((RowU.made (w.alloc (.cells #[.slice (some ⟨w.heap.size+1,0,none⟩) M M,.int .i64 (n:Int)] 31)) w.heap.size (by simp) M (by unfold maxLen;omega)).below (bel1 _ (.cells #[.slice (some ⟨w.heap.size+1,0,none⟩) M M,.int .i64 (n:Int)] 31)))
 have hsz:(w.alloc (.cells #[.slice (some ⟨w.heap.size+1,0,none⟩) M M,.int .i64 (n:Int)] 31)).heap.size=w.heap.size+1:=by simp
 rw [hsz] at HR
 clear hsz
 have HB:=Lib.hid (bel3 w (.cells #[.slice (some ⟨w.heap.size+1,0,none⟩) M M,.int .i64 (n:Int)] 31) (.cells (madeCells #[.int .u64 0] M) 206) (.cells #[.slice (some ⟨w.heap.size+1,0,none⟩) M M,.int .i64 (n:Int)] 31))
 have HK:=Lib.hid (block_up ((bel2 (w.alloc (.cells #[.slice (some ⟨w.heap.size+1,0,none⟩) M M,.int .i64 (n:Int)] 31)) (.cells (madeCells #[.int .u64 0] M) 206) (.cells #[.slice (some ⟨w.heap.size+1,0,none⟩) M M,.int .i64 (n:Int)] 31))))
 go_wp2
 exact bodyPost_ret (ret_bits rfl _ _ _ rfl HK.out) rfl ⟨w.heap.size+1,rfl,HR.out,HB.out⟩
theorem u64_or_pow (x r:Nat) (hx:x < 18446744073709551616) (hr:r < 64):bits .or .u64 (x:Int) ((2 ^ r:Nat):Int)=((x ||| 2 ^ r:Nat):Int):=by
 refine u64_or_nat x (2 ^ r) hx ?_
 have:2 ^ r<=2 ^ 63:=Nat.pow_le_pow_right (by decide) (by omega)
 omega
theorem u64_or_pow' (x r:Nat) (hx:x < 18446744073709551616) (hr:r < 64):bits .or .u64 (x:Int) (IntKind.u64.wrap ((2:Int) ^ r))=((x ||| 2 ^ r:Nat):Int):=by
 have e:((2:Int) ^ r)=((2 ^ r:Nat):Int):=by rw [Int.natCast_pow];rfl
 have:2 ^ r<=2 ^ 63:=Nat.pow_le_pow_right (by decide) (by omega)
 rw [e,wrap_u64_nat _ (by omega),u64_or_pow x r hx hr]
theorem pack_any (b o n c:Nat) (l:Nat->Bool) (hn:n<=1048576) (hnc:n<=c) (w:World) (hc:∀ i,i < n->w.cell? ⟨b,o+i,none⟩=some (.bool (l i))) :
  Calls Tryz.prog 194 #[.slice (some ⟨b,o,none⟩) n c] w fun e w'=>∃ g,e= .returned (.agg #[.slice (some ⟨g,0,none⟩) ((n+63) / 64) ((n+63) / 64),.int .i64 (n:Int)])/\RowU w' w.heap.size g ((n+63) / 64) (packW l n)/\Below w.heap.size w w':=by
 have HM:=Lib.hid (fun W=>make_false n hn W)
 have HC:=Lib.hid hc
 have hmm:min (n:Int) 1048576=(n:Int):=by omega
 obtain ⟨M,hM⟩:∃ M,M=(n+63) / 64:=⟨_,rfl⟩
 rw [<- hM] at HM ⊢
 have HMM:=Lib.hid hM
 clear hc hM
 go_enter Tryz.func194,Tryz.ntmps194
 go_wp2_with fail
 refine (HM.out _).mono ?_
 rintro e w1 ⟨g,rfl,hr,hb1⟩
 have HB1:=Lib.hid (bel_both (bel1 w _) hb1)
 have HK1:=Lib.hid (block_up hb1)
 have HR1:=Lib.hid (hr.lower (show w.heap.size+1<=_ by simp))
 clear hb1 hr
 have HR2:=Lib.hid (HR1.out.below (bel1 w1 (.cells #[.slice (some ⟨g,0,none⟩) M M,.int .i64 (n:Int)] 31)))
 have HB2:=Lib.hid (bel_both HB1.out (bel1 w1 (.cells #[.slice (some ⟨g,0,none⟩) M M,.int .i64 (n:Int)] 31)))
 have HK2:=Lib.hid (show (w1.alloc (.cells #[.slice (some ⟨g,0,none⟩) M M,.int .i64 (n:Int)] 31)).heap[w.heap.size]?=_ from (Below.heap_alloc _ _ _ (lt_of_block HK1.out)).trans HK1.out)
 have HV2:=Lib.hid (heap_alloc_new w1 (.cells #[.slice (some ⟨g,0,none⟩) M M,.int .i64 (n:Int)] 31))
 have hg1:g < w1.heap.size:=HR1.out.low.2
 have hg0:w.heap.size < g:=HR1.out.low.1
 go_wp2_with fail
 go_loopw [16] (fun ii wr=>∃ i:Nat,i<=n/\ii= .int .i64 i/\RowU wr (w.heap.size+1) g M (packW l i)/\Below w.heap.size w wr/\wr.heap[w.heap.size]?=some (.cells bcells 31)/\wr.heap[w1.heap.size]?=some (.cells #[.slice (some ⟨g,0,none⟩) M M,.int .i64 (n:Int)] 31)) (fun ii _=>n - (intOf ii).toNat)
 case atStart=>exact ⟨0,Nat.zero_le _,rfl,HR2.out.same (fun j _=>packW_zero l j),HB2.out,HK2.out,HV2.out⟩
 case round =>
  clear HM HR1 HR2 HB2 HK2 HV2 HK1 HB1
  obtain ⟨i,hi,rfl,hrow,hbl,hk,hv⟩:=hrel
  have HROW:=Lib.hid hrow
  have HBL:=Lib.hid hbl
  have HK:=Lib.hid hk
  have HV:=Lib.hid hv
  clear hrow hbl hk hv
  by_cases hlt:i < n
  ·have hcell:wr.cell? ⟨b,o+i,none⟩=some (.bool (l i)):=by rw [HBL.out.cell (cell_lt (HC.out i hlt))];exact HC.out i hlt
   by_cases hli:l i=true
   ·rw [hli] at hcell
    obtain ⟨k,hk⟩:∃ k,k=i / 64:=⟨_,rfl⟩
    have hkM:k < M:=by rw [hk,HMM.out];omega
    have hki:(i:Int) / 64=(k:Int):=by omega
    have hcw:=HROW.out.cell hkM
    have hfw:=HROW.out.frozen k
    obtain ⟨hv0,hv1,hvf⟩:=pair_of HV.out
    have h63:=and63 i (by omega)
    obtain ⟨r,hr⟩:∃ r,r=i % 64:=⟨_,rfl⟩
    have hr64:r < 64:=by omega
    rw [<- hr] at h63
    have hpw:=packW_set l i hli
    rw [<- hk,<- hr] at hpw
    have HPUT:=Lib.hid (HROW.out.put hkM (packW l i k ||| 2 ^ r) (F':=packW l (i+1)) (fun j _=>by
     by_cases e:j=k
     ·rw [if_pos e,e];exact hpw
     ·rw [if_neg e];exact packW_skip l i j (.inr (by rw [<- hk];exact e))))
    have hxlt:=packW_lt l i k
    clear hpw hr hk
    generalize packW l i k=x at *
    have HOR:=Lib.hid (u64_or_pow' x r hxlt hr64)
    have HB3:=Lib.hid (HBL.out.setCell (p:=⟨g,k,none⟩) (by show _<=g;omega) (.int .u64 ((x ||| 2 ^ r:Nat):Int)))
    have HK3:=Lib.hid ((Below.heap_setCell wr ⟨g,k,none⟩ (.int .u64 ((x ||| 2 ^ r:Nat):Int)) w.heap.size (by show _≠g;omega)).trans HK.out)
    have HV3:=Lib.hid ((Below.heap_setCell wr ⟨g,k,none⟩ (.int .u64 ((x ||| 2 ^ r:Nat):Int)) w1.heap.size (by show _≠g;omega)).trans HV.out)
    go_wp2
    rw [HOR.out]
    exact ⟨⟨i+1,by omega,by go_num,HPUT.out,HB3.out,HK3.out,HV3.out⟩,by simp [intOf];omega⟩
   ·have hlf:l i=false:=by simpa using hli
    rw [hlf] at hcell
    have HS:=Lib.hid (HROW.out.same (F':=packW l (i+1)) (fun j _=>packW_skip l i j (.inl hlf)))
    go_wp2
    go_roundw
    case rel=>exact ⟨i+1,by omega,by go_num,HS.out,HBL.out,HK.out,HV.out⟩
    case measure=>simp [intOf];omega
  ·obtain rfl:i=n:=by omega
   obtain ⟨hv0,hv1,hvf⟩:=pair_of HV.out
   obtain ⟨hk0,hk1,hkf⟩:=pair_of HK.out
   go_wp2
   refine bodyPost_ret (ret_bits rfl _ _ _ rfl (set2_block HK.out _ _)) rfl ⟨g,rfl,?_,below_set2 HBL.out (Nat.le_refl _) _ _⟩
   exact own_set2 (HROW.out.lower (Nat.le_succ _)) (by show some g≠_;intro e;injection e;omega) _ _
def BitsIn (W:World) (v:Value) (n:Nat) (l:Nat->Bool):Prop :=
 ∃ b o c,v= .agg #[.slice (some ⟨b,o,none⟩) ((n+63) / 64) c,.int .i64 (n:Int)]/\∀ j,j < (n+63) / 64->W.cell? ⟨b,o+j,none⟩=some (.int .u64 (packW l n j:Nat))
theorem BitsIn.below {w w':World}{v:Value}{n:Nat}{l:Nat->Bool} (h:BitsIn w v n l) (hb:Below w.heap.size w w'):BitsIn w' v n l:=by
 obtain ⟨b,o,c,e,hc⟩:=h
 exact ⟨b,o,c,e,fun j hj=>by rw [hb.cell (cell_lt (hc j hj))];exact hc j hj⟩
theorem BitsIn.of_row {w:World}{B g n:Nat}{l:Nat->Bool} (h:RowU w B g ((n+63) / 64) (packW l n)):BitsIn w (.agg #[.slice (some ⟨g,0,none⟩) ((n+63) / 64) ((n+63) / 64),.int .i64 (n:Int)]) n l :=
 ⟨g,0,_,rfl,fun j hj=>by rw [Nat.zero_add];exact h.cell hj⟩
theorem and127 (i:Nat) (h:i<=2000000000000000000):bits .and .i64 (i:Int) 127=((i % 128:Nat):Int):=by
 show IntKind.i64.wrap ((BitVec.ofInt 64 (i:Int) &&& BitVec.ofInt 64 ((127:Nat):Int)).toNat:Int)=_
 have e:i &&& 127=i % 128:=Nat.and_two_pow_sub_one_eq_mod i 7
 rw [BitVec.toNat_and,ofInt_u64 i (by omega),ofInt_u64 127 (by omega),e,IntKind.wrap_i64]
 omega
theorem andM (x m:Nat) (mi:Int) (hmi:(m:Int)=mi) (hx:x < 18446744073709551616) (hm:m < 18446744073709551616):bits .and .u64 (x:Int) mi=((x &&& m:Nat):Int)/\x &&& m<=m:=⟨by rw [<- hmi];exact u64_and_nat x m hx hm,Nat.and_le_right⟩
theorem ones_any (x:Nat) (hx:x < 18446744073709551616) (w:World):Calls Tryz.prog 181 #[.int .u64 (x:Int)] w fun e w'=>e= .returned (.int .i64 (cnt x.testBit 64:Nat))/\w=w':=by
 obtain ⟨h1,eh1⟩:∃ h,h=x / 2:=⟨_,rfl⟩
 obtain ⟨a1,e1⟩:∃ a,a=h1 &&& 6148914691236517205:=⟨_,rfl⟩
 obtain ⟨a2,e2⟩:∃ a,a=x &&& 6148914691236517205:=⟨_,rfl⟩
 obtain ⟨x1,e3⟩:∃ a,a=a1+a2:=⟨_,rfl⟩
 obtain ⟨h2,eh2⟩:∃ h,h=x1 / 4:=⟨_,rfl⟩
 obtain ⟨b1,e4⟩:∃ a,a=h2 &&& 3689348814741910323:=⟨_,rfl⟩
 obtain ⟨b2,e5⟩:∃ a,a=x1 &&& 3689348814741910323:=⟨_,rfl⟩
 obtain ⟨x2,e6⟩:∃ a,a=b1+b2:=⟨_,rfl⟩
 obtain ⟨h3,eh3⟩:∃ h,h=x2 / 16:=⟨_,rfl⟩
 obtain ⟨s,e7⟩:∃ a,a=h3+x2:=⟨_,rfl⟩
 obtain ⟨x3,e8⟩:∃ a,a=s &&& 1085102592571150095:=⟨_,rfl⟩
 obtain ⟨h4,eh4⟩:∃ h,h=x3 / 256:=⟨_,rfl⟩
 obtain ⟨x4,e9⟩:∃ a,a=x3+h4:=⟨_,rfl⟩
 obtain ⟨h5,eh5⟩:∃ h,h=x4 / 65536:=⟨_,rfl⟩
 obtain ⟨x5,e10⟩:∃ a,a=x4+h5:=⟨_,rfl⟩
 obtain ⟨h6,eh6⟩:∃ h,h=x5 / 4294967296:=⟨_,rfl⟩
 obtain ⟨x6,e11⟩:∃ a,a=x5+h6:=⟨_,rfl⟩
 obtain ⟨hpop,l4,l5,l6⟩:=pop_law x hx a1 a2 x1 b1 b2 x2 s x3 x4 x5 x6 (by rw [e1,eh1]) e2 e3 (by rw [e4,eh2]) e5 e6 (by rw [e7,eh3]) e8 (by rw [e9,eh4]) (by rw [e10,eh5]) (by rw [e11,eh6])
 have HP:=Lib.hid hpop
 clear hpop
 have i1:(x:Int) / 2=(h1:Int):=by rw [eh1];rfl
 have hh1:h1 < 18446744073709551616:=by omega
 obtain ⟨i2,k1⟩:=andM h1 6148914691236517205 6148914691236517205 rfl hh1 (by decide)
 obtain ⟨i3,k2⟩:=andM x 6148914691236517205 6148914691236517205 rfl hx (by decide)
 rw [<- e1] at i2 k1
 rw [<- e2] at i3 k2
 have i4:(a1:Int)+(a2:Int)=(x1:Int):=by rw [e3];rfl
 have hx1:x1 < 18446744073709551616:=by omega
 have i5:(x1:Int) / 4=(h2:Int):=by rw [eh2];rfl
 have hh2:h2 < 18446744073709551616:=by omega
 obtain ⟨i6,k3⟩:=andM h2 3689348814741910323 3689348814741910323 rfl hh2 (by decide)
 obtain ⟨i7,k4⟩:=andM x1 3689348814741910323 3689348814741910323 rfl hx1 (by decide)
 rw [<- e4] at i6 k3
 rw [<- e5] at i7 k4
 have i8:(b1:Int)+(b2:Int)=(x2:Int):=by rw [e6];rfl
 have hx2:x2<=7378697629483820646:=by omega
 have i9:(x2:Int) / 16=(h3:Int):=by rw [eh3];rfl
 have hh3:h3<=461168601842738790:=by omega
 have i10:(h3:Int)+(x2:Int)=(s:Int):=by rw [e7];rfl
 have hs:s < 18446744073709551616:=by omega
 obtain ⟨i11,k5⟩:=andM s 1085102592571150095 1085102592571150095 rfl hs (by decide)
 rw [<- e8] at i11 k5
 have i12:(x3:Int) / 256=(h4:Int):=by rw [eh4];rfl
 have i13:(x3:Int)+(h4:Int)=(x4:Int):=by rw [e9];rfl
 have i14:(x4:Int) / 65536=(h5:Int):=by rw [eh5];rfl
 have i15:(x4:Int)+(h5:Int)=(x5:Int):=by rw [e10];rfl
 have i16:(x5:Int) / 4294967296=(h6:Int):=by rw [eh6];rfl
 have i17:(x5:Int)+(h6:Int)=(x6:Int):=by rw [e11];rfl
 have i18:=and127 x6 l6
 have hh4:h4<=2000000000000000000:=by omega
 have hh5:h5<=2000000000000000000:=by omega
 have hh6:h6<=2000000000000000000:=by omega
 clear eh1 e1 e2 e3 eh2 e4 e5 e6 eh3 e7 e8 eh4 e9 eh5 e10 eh6 e11
 go_enter Tryz.func181,Tryz.ntmps181
 go_wp2
 go_ret
 exact ⟨by rw [<- HP.out];rfl,rfl⟩
def cntW (X:Nat->Nat):Nat->Nat
 | 0=>0
 | i+1=>cntW X i+cnt (X i).testBit 64
theorem cntW_succ (X:Nat->Nat) (i:Nat):cntW X (i+1)=cntW X i+cnt (X i).testBit 64:=rfl
theorem cntW_le (X:Nat->Nat) (i:Nat):cntW X i<=64*i:=by
 induction i with
 | zero=>exact Nat.le_refl _
 | succ i ih=>have:=cnt_le (X i).testBit 64;unfold cntW;omega
theorem cntW_pack (l:Nat->Bool) (n:Nat):∀ M,cntW (packW l n) M=cnt (fun i=>decide (i < n)&&l i) (64*M):=by
 intro M
 induction M with
 | zero=>rfl
 | succ M ih =>
  have h:=cnt_congr (f:=(packW l n M).testBit) (g:=fun i=>decide (64*M+i < n)&&l (64*M+i)) 64 fun i hi=>packW_bit l n M i hi
  rw [Nat.mul_add,Nat.mul_one,cnt_add,<- ih,cntW_succ,h]
theorem cnt_cut (l:Nat->Bool) (n k:Nat):cnt (fun i=>decide (i < n)&&l i) (n+k)=cnt l n:=by
 rw [cnt_add]
 have h1:cnt (fun i=>decide (i < n)&&l i) n=cnt l n:=cnt_congr n fun i hi=>by simp [hi]
 have h2:cnt (fun i=>decide (n+i < n)&&l (n+i)) k=0:=by
  induction k with
  | zero=>rfl
  | succ k ih =>
   unfold cnt
   have:¬ n+k < n:=by omega
   rw [ih];simp [this]
 rw [h1,h2];rfl
theorem cntW_bits (l:Nat->Bool) (n:Nat):cntW (packW l n) ((n+63) / 64)=cnt l n:=by
 rw [cntW_pack,show 64*((n+63) / 64)=n+(64*((n+63) / 64) - n) by omega,cnt_cut]
theorem count_words (b o M c:Nat) (len:Int) (X:Nat->Nat) (w:World) (hM:M<=16384) (hc:∀ j,j < M->w.cell? ⟨b,o+j,none⟩=some (.int .u64 (X j:Nat))) (hX:∀ j,j < M->X j < 18446744073709551616) :
  Calls Tryz.prog 111 #[.agg #[.slice (some ⟨b,o,none⟩) M c,.int .i64 len]] w fun e w'=>e= .returned (.int .i64 (cntW X M:Nat))/\Below w.heap.size w w':=by
 have HC:=Lib.hid hc
 have HX:=Lib.hid hX
 have HB0:=Lib.hid (bel1 w (.cells #[.slice (some ⟨b,o,none⟩) M c,.int .i64 len] 31))
 clear hc hX
 go_enter Tryz.func111,Tryz.ntmps111
 go_wp2_with fail
 go_loopw [3,9] (fun nn ii wr=>∃ i:Nat,i<=M/\ii= .int .i64 i/\nn= .int .i64 (cntW X i:Nat)/\Below w.heap.size w wr) (fun _ ii _=>M - (intOf ii).toNat)
 case atStart=>exact ⟨0,Nat.zero_le _,rfl,rfl,HB0.out⟩
 case round =>
  obtain ⟨i,hi,rfl,rfl,hbl⟩:=hrel
  have HBL:=Lib.hid hbl
  clear hbl
  by_cases hlt:i < M
  ·have hcell:wr.cell? ⟨b,o+i,none⟩=some (.int .u64 (X i:Nat)):=by rw [HBL.out.cell (cell_lt (HC.out i hlt))];exact HC.out i hlt
   have HON:=Lib.hid (fun W=>ones_any (X i) (HX.out i hlt) W)
   have hst:(cntW X i:Int)+(cnt (X i).testBit 64:Int)=(cntW X (i+1):Nat):=by rw [cntW_succ];rfl
   have hle:=cntW_le X i
   have hle2:=cntW_le X (i+1)
   have hl3:=cnt_le (X i).testBit 64
   obtain ⟨s2,hs2⟩:∃ s,cntW X (i+1)=s:=⟨_,rfl⟩
   rw [hs2] at hst hle2
   generalize cntW X i=s1 at *
   generalize X i=x at *
   generalize cnt x.testBit 64=k at *
   go_wp2_with fail
   refine (HON.out _).mono ?_
   rintro e w1 ⟨rfl,rfl⟩
   go_wp2
   go_roundw
   case rel=>exact ⟨i+1,by omega,by go_num,by rw [hs2],HBL.out⟩
   case measure=>simp [intOf];omega
  ·obtain rfl:i=M:=by omega
   go_wp2
   go_ret
   exact ⟨rfl,HBL.out⟩
end Go.Proofs.YtakgmnafbjdccaaGreatDoor
