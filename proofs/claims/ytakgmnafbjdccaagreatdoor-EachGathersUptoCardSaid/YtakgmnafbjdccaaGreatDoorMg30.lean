/- The walks of flat.joined over Vecs of one element .. Conditions: as each theorem says. -/
import Derived.Test.YtakgmnafbjdccaaGreatDoorMg29
import Derived.Test.YtakgmnafbjdccaaGreatDoorMg11
import Derived.Test.YtakgmnafbjdccaaGreatDoorMg04
set_option maxRecDepth 100000
set_option maxHeartbeats 2000000
namespace Go.Proofs.YtakgmnafbjdccaaGreatDoor
open Go Go.RowKit Go.Proofs Fl
theorem one_open {W:World}{v x:Value} (h:Reads1 W v [x]):∃ b o c,v= .slice (some ⟨b,o,none⟩) 1 c/\W.cell? ⟨b,o,none⟩=some x:=by
 rcases h.at with ⟨a,c,_,h0⟩ | ⟨b,o,c,e,hc⟩
 ·cases h0
 ·exact ⟨b,o,c,e,by have:=hc 0 (Nat.lt_succ_self 0);rw [Nat.add_zero] at this;exact this⟩
theorem map_snoc (X:Nat->Value) (j:Nat):(List.range j).map X++[X j]=(List.range (j+1)).map X:=by rw [List.range_succ,List.map_append];rfl
theorem joined_chr (H:Nat->Prop) (g m c:Nat) (pp:Nat->V8) (C:Nat->Int) (w:World) (hH:∀ b,H b->b < w.heap.size) (hm:m<=1000000) (hr:VRow w g m pp)
  (hel:∀ j,j < m->∀ W,Below w.heap.size w W->Calls Tryz.prog 146 #[(pp j).v] W fun e w'=>∃ v,e= .returned (v)/\Reads1 w' v [(fun j => .int .i32 (C j)) j]/\Below W.heap.size W w') :
  Calls Tryz.prog 127 #[.slice (some ⟨g,0,none⟩) m c,.int .i64 1,.int .i64 5] w fun e w'=>∃ y:Sl,e= .returned (charsP y).v/\RdH H w' (sv y) ((List.range m).map (fun j => .int .i32 (C j)))/\Below w.heap.size w w':=by
 have HR:=Lib.hid hr
 have HH:=Lib.hid hH
 have HEL:=Lib.hid hel
 obtain ⟨X,hX⟩:∃ X:Nat->Value,X=fun j => .int .i32 (C j):=⟨_,rfl⟩
 have HX:Hid (∀ j,X j=(fun j => .int .i32 (C j)) j):=fun j=>by rw [hX]
 clear hr hH hel
 have HK0:=Lib.hid (heap_alloc_new w (.cells zcells 38))
 have HB0:=Lib.hid (bel1 w (.cells zcells 38))
 have HO0:Hid (Own1 (w.alloc (.cells zcells 38)) (w.heap.size+1) 21 vnil ((List.range 0).map X)):=Own1.nil _ _ _
 go_enter Tryz.func127,Tryz.ntmps127
 go_wp2_with fail
 go_loopw [7,24] (fun vv jj wr=>∃ j:Nat,j<=m/\jj= .int .i64 j/\Own1 wr (w.heap.size+1) 21 vv ((List.range j).map X)/\Below w.heap.size w wr/\wr.heap[w.heap.size]?=some (.cells zcells 38)) (fun _ jj _=>m - (intOf jj).toNat)
 case atStart=>exact ⟨0,Nat.zero_le _,rfl,HO0.out,HB0.out,HK0.out⟩
 case round =>
  clear HO0 HB0 HK0
  obtain ⟨j,hj,rfl,hown,hbl,hk⟩:=hrel
  have HOWN:=Lib.hid hown
  have HBL:=Lib.hid hbl
  have HK:=Lib.hid hk
  clear hown hbl hk
  by_cases hlt:j < m
  ·obtain ⟨⟨c0,c1,c2,c3,c4,c5,c6,c7⟩,cz⟩:=(HR.out.below HBL.out).at_ j hlt
   have HE1:=Lib.hid (fun W hb=>HEL.out j hlt W hb)
   have HBW:=Lib.hid (lt_of_block HK.out)
   generalize pp j=pj at *
   have HB1:=Lib.hid (bel_both HBL.out (bel1 wr pj.o))
   have HX1:=Lib.hid (boxP_new wr pj)
   go_wp2_with fail
   refine (HE1.out _ HB1.out).mono ?_
   rintro e w3 ⟨v,rfl,hrd,hb3⟩
   have HB3:=Lib.hid (bel_both (bel1 wr pj.o) hb3)
   clear c0 c1 c2 c3 c4 c5 c6 c7
   obtain ⟨g3,o3,q3,rfl,hc3⟩:=one_open hrd
   have HC3:=Lib.hid hc3
   have HOWN3:=Lib.hid (HOWN.out.below HB3.out)
   have HOS:Hid ((List.range j).map X++[.int .i32 (C j)]=(List.range (j+1)).map X):=by
    have h:=map_snoc X j
    rw [HX.out j] at h
    exact h
   have HLL:Hid (((List.range j).map X).length+1<=1000001):=by unfold Hid;simp;omega
   clear hb3 hrd hc3
   go_wp2_with (first | (at_builtin;go_loud (refine wpList_pushL rfl _ _ 35 21 rfl Tryz.underlying35 (.int .i32 0) 4 info_clR rfl (w.heap.size+1) _ _ rfl HOWN3.out g3 o3 1 q3 [.int .i32 (C j)] rfl rfl (fun i hi=>by obtain rfl:i=0:=(by simpa using hi);exact HC3.out) (by intro u hu;obtain rfl:u=_:=(by simpa using hu);rfl) (by have:=HLL.out;omega) (by have:=HLL.out;omega) (Nat.le_trans HBW.out HB3.out.size) ?_;intro v' w4 hv' hb' hg' hs';rw [HOS.out] at hv';have HV:=Lib.hid hv';have HB4:=Lib.hid (hb' w3 (Below.refl _ _));have HG4:=Lib.hid (hg' w.heap.size (Nat.lt_succ_self _));clear hb' hv' hg' hs')))
   have HBL4:=Lib.hid (bel_both' (bel_both HBL.out HB3.out) (HB4.out.mono (by omega)))
   have HK4:=Lib.hid (HG4.out.trans ((HB3.out.block _ HBW.out).trans HK.out))
   go_wp2
   go_roundw
   case rel=>exact ⟨j+1,by omega,by go_num,HV.out,HBL4.out,HK4.out⟩
   case measure=>simp [intOf];omega
  ·obtain rfl:j=m:=by omega
   have HRD:=Lib.hid HOWN.out.reads
   have HKL:=Lib.hid (lt_of_block HK.out)
   have hXe:(List.range j).map X=(List.range j).map (fun j => .int .i32 (C j)):=List.map_congr_left fun i _=>HX.out i
   rw [hXe] at HRD
   have HOW:=Lib.hid HOWN.out
   rw [hXe] at HOW
   clear hXe
   have HCH:=Lib.hid (chars_any (l:=(List.range j).map C) (by rw [List.map_map];exact HRD.out) (by simpa using hm))
   go_wp2_with fail
   refine HCH.out.mono ?_
   rintro e w2 ⟨u,rfl,ho,hb2⟩
   obtain ⟨yA,yn,yc,rfl⟩:∃ A n c,u= .slice A n c:=by obtain ⟨a,c,e⟩:=ho.reads.len;exact ⟨a,_,c,e⟩
   have HK2:=Lib.hid (show w2.heap[w.heap.size]?=some (.cells zcells 38) by rw [hb2.block _ HKL.out];exact HK.out)
   have HB2:=Lib.hid (bel_both HBL.out hb2)
   have HKV:Hid (RdH (fun b=>H b\/b=w.heap.size) w2 (.slice yA yn yc) ((List.range j).map fun j => .int .i32 (C j))):=(Own1.keepsH ho (fun b e=>by
    rcases e with e | e
    ·have:=HH.out b e;have:=HBL.out.size;omega
    ·have:=HKL.out;omega)).imp fun W' h=>by rw [List.map_map] at h;exact h
   clear hb2 ho
   have HRE:=Lib.hid (set8_block HK2.out (.int .i64 5) vnil (.int .i64 0) vnil vnil vnil (.slice yA yn yc) vnil)
   have HBE:=Lib.hid (below_set8 HB2.out (Nat.le_refl _) (.int .i64 5) vnil (.int .i64 0) vnil vnil vnil (.slice yA yn yc) vnil)
   have HKE:=Lib.hid ((HKV.out.set8 (.inr rfl) (.int .i64 5) vnil (.int .i64 0) vnil vnil vnil (.slice yA yn yc) vnil).sub (H':=H) fun _ _ e => .inl e)
   obtain ⟨⟨h0,h1,h2,h3,h4,h5,h6,h7⟩,hz⟩:=boxed_of HK2.out
   go_wp2
   exact bodyPost_ret (ret_vec rfl _ _ _ rfl HRE.out) rfl ⟨(yA,yn,yc),rfl,HKE.out,HBE.out⟩
theorem joined_int (H:Nat->Prop) (g m c:Nat) (pp:Nat->V8) (Z:Nat->Int) (K:Int) (hK1:K≠1) (hK4:K < 4) (w:World) (hH:∀ b,H b->b < w.heap.size) (hm:m<=1000000) (hr:VRow w g m pp) (hZ:∀ j,j < m->Good (Z j))
  (hel:∀ j,j < m->∀ W,Below w.heap.size w W->Calls Tryz.prog 166 #[(pp j).v] W fun e w'=>∃ v,e= .returned (.tuple #[v,.bool true])/\Reads1 w' v [(fun j => .int .i64 (Z j)) j]/\Below W.heap.size W w') :
  Calls Tryz.prog 127 #[.slice (some ⟨g,0,none⟩) m c,.int .i64 0,.int .i64 K] w (VecR H w (fun u W=>NumV u (leastF (fun j=>fi (Z j)) m:Nat) m (fun j=>fi (Z j)) W)):=by
 have HR:=Lib.hid hr
 have HH:=Lib.hid hH
 have HEL:=Lib.hid hel
 have HZ:=Lib.hid hZ
 have k1:(K==1)=false:=by simpa using hK1
 have k4:=decide_eq_true hK4
 obtain ⟨X,hX⟩:∃ X:Nat->Value,X=fun j => .int .i64 (Z j):=⟨_,rfl⟩
 have HX:Hid (∀ j,X j=(fun j => .int .i64 (Z j)) j):=fun j=>by rw [hX]
 clear hr hH hel hZ hK1
 have HK0:=Lib.hid (heap_alloc_new w (.cells zcells 38))
 have HB0:=Lib.hid (bel1 w (.cells zcells 38))
 have HO0:Hid (Own1 (w.alloc (.cells zcells 38)) (w.heap.size+1) 2 vnil ((List.range 0).map X)):=Own1.nil _ _ _
 go_enter Tryz.func127,Tryz.ntmps127
 go_wp2_with fail
 go_loopw [10,24] (fun vv jj wr=>∃ j:Nat,j<=m/\jj= .int .i64 j/\Own1 wr (w.heap.size+1) 2 vv ((List.range j).map X)/\Below w.heap.size w wr/\wr.heap[w.heap.size]?=some (.cells zcells 38)) (fun _ jj _=>m - (intOf jj).toNat)
 case atStart=>exact ⟨0,Nat.zero_le _,rfl,HO0.out,HB0.out,HK0.out⟩
 case round =>
  clear HO0 HB0 HK0
  obtain ⟨j,hj,rfl,hown,hbl,hk⟩:=hrel
  have HOWN:=Lib.hid hown
  have HBL:=Lib.hid hbl
  have HK:=Lib.hid hk
  clear hown hbl hk
  by_cases hlt:j < m
  ·obtain ⟨⟨c0,c1,c2,c3,c4,c5,c6,c7⟩,cz⟩:=(HR.out.below HBL.out).at_ j hlt
   have HE1:=Lib.hid (fun W hb=>HEL.out j hlt W hb)
   have HBW:=Lib.hid (lt_of_block HK.out)
   generalize pp j=pj at *
   have HB1:=Lib.hid (bel_both HBL.out (bel1 wr pj.o))
   have HX1:=Lib.hid (boxP_new wr pj)
   go_wp2_with fail
   refine (HE1.out _ HB1.out).mono ?_
   rintro e w3 ⟨v,rfl,hrd,hb3⟩
   have HB3:=Lib.hid (bel_both (bel1 wr pj.o) hb3)
   clear c0 c1 c2 c3 c4 c5 c6 c7
   obtain ⟨g3,o3,q3,rfl,hc3⟩:=one_open hrd
   have HC3:=Lib.hid hc3
   have HOWN3:=Lib.hid (HOWN.out.below HB3.out)
   have HOS:Hid ((List.range j).map X++[.int .i64 (Z j)]=(List.range (j+1)).map X):=by
    have h:=map_snoc X j
    rw [HX.out j] at h
    exact h
   have HLL:Hid (((List.range j).map X).length+1<=1000001):=by unfold Hid;simp;omega
   clear hb3 hrd hc3
   go_wp2_with (first | (at_builtin;go_loud (refine wpList_pushL rfl _ _ 33 2 rfl Tryz.underlying33 (.int .i64 0) 8 info_i64 rfl (w.heap.size+1) _ _ rfl HOWN3.out g3 o3 1 q3 [.int .i64 (Z j)] rfl rfl (fun i hi=>by obtain rfl:i=0:=(by simpa using hi);exact HC3.out) (by intro u hu;obtain rfl:u=_:=(by simpa using hu);rfl) (by have:=HLL.out;omega) (by have:=HLL.out;omega) (Nat.le_trans HBW.out HB3.out.size) ?_;intro v' w4 hv' hb' hg' hs';rw [HOS.out] at hv';have HV:=Lib.hid hv';have HB4:=Lib.hid (hb' w3 (Below.refl _ _));have HG4:=Lib.hid (hg' w.heap.size (Nat.lt_succ_self _));clear hb' hv' hg' hs')))
   have HBL4:=Lib.hid (bel_both' (bel_both HBL.out HB3.out) (HB4.out.mono (by omega)))
   have HK4:=Lib.hid (HG4.out.trans ((HB3.out.block _ HBW.out).trans HK.out))
   go_wp2
   go_roundw
   case rel=>exact ⟨j+1,by omega,by go_num,HV.out,HBL4.out,HK4.out⟩
   case measure=>simp [intOf];omega
  ·obtain rfl:j=m:=by omega
   have HRD:=Lib.hid HOWN.out.reads
   have HKL:=Lib.hid (lt_of_block HK.out)
   have hXe:(List.range j).map X=(List.range j).map (fun j => .int .i64 (Z j)):=List.map_congr_left fun i _=>HX.out i
   rw [hXe] at HRD
   have HOW:=Lib.hid HOWN.out
   rw [hXe] at HOW
   clear hXe
   have HIN:=Lib.hid (ints_any (l:=(List.range j).map Z) (by rw [List.map_map];exact HRD.out) (by simpa using hm) (fun x hx=>by
    obtain ⟨i,hi,rfl⟩:=List.mem_map.1 hx
    exact HZ.out i (List.mem_range.1 hi)))
   go_wp2_with fail
   refine HIN.out.mono ?_
   rintro e w5 ⟨u,rfl,ho,hb5⟩
   obtain ⟨uA,un,uc,rfl⟩:∃ A n c,u= .slice A n c:=by obtain ⟨a,c,e⟩:=ho.reads.len;exact ⟨a,_,c,e⟩
   have HKV:Hid (Keeps (fun b=>H b\/b=w.heap.size) w5 (NumV (vecW 3 nilS 0 nilS (uA,un,uc) nilS nilS nilS) 3 j (fun j=>fi (Z j)))) :=
    (Own1.keepsH ho (fun b e=>by
    rcases e with e | e
    ·have:=HH.out b e;have:=HBL.out.size;omega
    ·have:=HKL.out;omega)).imp fun W' h=>numV_ints ⟨⟨_,rfl,by rw [List.map_map] at h;exact h⟩,HZ.out⟩
   have HB5:=Lib.hid (bel_both HBL.out (bel_both hb5 (bel1 w5 (.cells #[.int .i64 3,vnil,.int .i64 0,vnil,.slice uA un uc,vnil,vnil,vnil] 38))))
   have HBW:=Lib.hid (bel_both hb5 (bel1 w5 (.cells #[.int .i64 3,vnil,.int .i64 0,vnil,.slice uA un uc,vnil,vnil,vnil] 38)))
   have HKV6:=Lib.hid (HKV.out.step (bel1 w5 (.cells #[.int .i64 3,vnil,.int .i64 0,vnil,.slice uA un uc,vnil,vnil,vnil] 38)))
   have HSQ:=Lib.hid (squeeze_num (fun b=>H b\/b=w.heap.size) 3 nilS 0 nilS (uA,un,uc) nilS nilS nilS j _ (w5.alloc (.cells #[.int .i64 3,vnil,.int .i64 0,vnil,.slice uA un uc,vnil,vnil,vnil] 38)) (fun b e=>by
    have h2:=HBW.out.size
    have h3:=HKL.out
    have h4:=HBL.out.size
    rcases e with e | e
    ·have:=HH.out b e;omega
    ·omega) hm HKV6.out)
   clear hb5 ho HKV HIN
   go_wp2_with fail
   refine HSQ.out.mono ?_
   rintro e w6 ⟨k5,b5,bn5,s5,i5,f5,c5,x5,rfl,hk5,hb6⟩
   have HB2:=Lib.hid (bel_both HB5.out hb6)
   have HK2:=Lib.hid (show w6.heap[w.heap.size]?=some (.cells zcells 38) by rw [(bel_both HBW.out hb6).block _ HKL.out];exact HK.out)
   have HKV:=Lib.hid hk5
   clear hb6 hk5
   have HRE:=Lib.hid (set8_block HK2.out (.int .i64 k5) (.slice b5.1 b5.2.1 b5.2.2) (.int .i64 bn5) (.slice s5.1 s5.2.1 s5.2.2) (.slice i5.1 i5.2.1 i5.2.2) (.slice f5.1 f5.2.1 f5.2.2) (.slice c5.1 c5.2.1 c5.2.2) (.slice x5.1 x5.2.1 x5.2.2))
   have HBE:=Lib.hid (below_set8 HB2.out (Nat.le_refl _) (.int .i64 k5) (.slice b5.1 b5.2.1 b5.2.2) (.int .i64 bn5) (.slice s5.1 s5.2.1 s5.2.2) (.slice i5.1 i5.2.1 i5.2.2) (.slice f5.1 f5.2.1 f5.2.2) (.slice c5.1 c5.2.1 c5.2.2) (.slice x5.1 x5.2.1 x5.2.2))
   have HKE:=Lib.hid ((HKV.out.set8 (.inr rfl) (.int .i64 k5) (.slice b5.1 b5.2.1 b5.2.2) (.int .i64 bn5) (.slice s5.1 s5.2.1 s5.2.2) (.slice i5.1 i5.2.1 i5.2.2) (.slice f5.1 f5.2.1 f5.2.2) (.slice c5.1 c5.2.1 c5.2.2) (.slice x5.1 x5.2.1 x5.2.2)).sub (H':=H) fun _ _ e => .inl e)
   obtain ⟨⟨h0,h1,h2,h3,h4,h5,h6,h7⟩,hz⟩:=boxed_of HK2.out
   go_wp2
   exact bodyPost_ret (ret_vec rfl _ _ _ rfl HRE.out) rfl ⟨k5,b5,bn5,s5,i5,f5,c5,x5,rfl,HKE.out,HBE.out⟩
theorem joined_num (H:Nat->Prop) (g m c:Nat) (pp:Nat->V8) (F:Nat->Nat) (w:World) (hH:∀ b,H b->b < w.heap.size) (hm:m<=1000000) (hr:VRow w g m pp) (hF:∀ j,j < m->TF (F j))
  (hel:∀ j,j < m->∀ W,Below w.heap.size w W->Calls Tryz.prog 193 #[(pp j).v] W fun e w'=>∃ v,e= .returned (v)/\Reads1 w' v [(fun j => .float .f64 (F j)) j]/\Below W.heap.size W w') :
  Calls Tryz.prog 127 #[.slice (some ⟨g,0,none⟩) m c,.int .i64 0,.int .i64 4] w (VecR H w (fun u W=>NumV u (leastF F m:Nat) m F W)):=by
 have HR:=Lib.hid hr
 have HH:=Lib.hid hH
 have HEL:=Lib.hid hel
 have HF:=Lib.hid hF
 obtain ⟨X,hX⟩:∃ X:Nat->Value,X=fun j => .float .f64 (F j):=⟨_,rfl⟩
 have HX:Hid (∀ j,X j=(fun j => .float .f64 (F j)) j):=fun j=>by rw [hX]
 clear hr hH hel hF
 have HK0:=Lib.hid (heap_alloc_new w (.cells zcells 38))
 have HB0:=Lib.hid (bel1 w (.cells zcells 38))
 have HO0:Hid (Own1 (w.alloc (.cells zcells 38)) (w.heap.size+1) 51 vnil ((List.range 0).map X)):=Own1.nil _ _ _
 go_enter Tryz.func127,Tryz.ntmps127
 go_wp2_with fail
 go_loopw [11,24] (fun vv jj wr=>∃ j:Nat,j<=m/\jj= .int .i64 j/\Own1 wr (w.heap.size+1) 51 vv ((List.range j).map X)/\Below w.heap.size w wr/\wr.heap[w.heap.size]?=some (.cells zcells 38)) (fun _ jj _=>m - (intOf jj).toNat)
 case atStart=>exact ⟨0,Nat.zero_le _,rfl,HO0.out,HB0.out,HK0.out⟩
 case round =>
  clear HO0 HB0 HK0
  obtain ⟨j,hj,rfl,hown,hbl,hk⟩:=hrel
  have HOWN:=Lib.hid hown
  have HBL:=Lib.hid hbl
  have HK:=Lib.hid hk
  clear hown hbl hk
  by_cases hlt:j < m
  ·obtain ⟨⟨c0,c1,c2,c3,c4,c5,c6,c7⟩,cz⟩:=(HR.out.below HBL.out).at_ j hlt
   have HE1:=Lib.hid (fun W hb=>HEL.out j hlt W hb)
   have HBW:=Lib.hid (lt_of_block HK.out)
   generalize pp j=pj at *
   have HB1:=Lib.hid (bel_both HBL.out (bel1 wr pj.o))
   have HX1:=Lib.hid (boxP_new wr pj)
   go_wp2_with fail
   refine (HE1.out _ HB1.out).mono ?_
   rintro e w3 ⟨v,rfl,hrd,hb3⟩
   have HB3:=Lib.hid (bel_both (bel1 wr pj.o) hb3)
   clear c0 c1 c2 c3 c4 c5 c6 c7
   obtain ⟨g3,o3,q3,rfl,hc3⟩:=one_open hrd
   have HC3:=Lib.hid hc3
   have HOWN3:=Lib.hid (HOWN.out.below HB3.out)
   have HOS:Hid ((List.range j).map X++[.float .f64 (F j)]=(List.range (j+1)).map X):=by
    have h:=map_snoc X j
    rw [HX.out j] at h
    exact h
   have HLL:Hid (((List.range j).map X).length+1<=1000001):=by unfold Hid;simp;omega
   clear hb3 hrd hc3
   go_wp2_with (first | (at_builtin;go_loud (refine wpList_pushL rfl _ _ 34 51 rfl Tryz.underlying34 (.float .f64 0) 8 info_f64 rfl (w.heap.size+1) _ _ rfl HOWN3.out g3 o3 1 q3 [.float .f64 (F j)] rfl rfl (fun i hi=>by obtain rfl:i=0:=(by simpa using hi);exact HC3.out) (by intro u hu;obtain rfl:u=_:=(by simpa using hu);rfl) (by have:=HLL.out;omega) (by have:=HLL.out;omega) (Nat.le_trans HBW.out HB3.out.size) ?_;intro v' w4 hv' hb' hg' hs';rw [HOS.out] at hv';have HV:=Lib.hid hv';have HB4:=Lib.hid (hb' w3 (Below.refl _ _));have HG4:=Lib.hid (hg' w.heap.size (Nat.lt_succ_self _));clear hb' hv' hg' hs')))
   have HBL4:=Lib.hid (bel_both' (bel_both HBL.out HB3.out) (HB4.out.mono (by omega)))
   have HK4:=Lib.hid (HG4.out.trans ((HB3.out.block _ HBW.out).trans HK.out))
   go_wp2
   go_roundw
   case rel=>exact ⟨j+1,by omega,by go_num,HV.out,HBL4.out,HK4.out⟩
   case measure=>simp [intOf];omega
  ·obtain rfl:j=m:=by omega
   have HRD:=Lib.hid HOWN.out.reads
   have HKL:=Lib.hid (lt_of_block HK.out)
   have hXe:(List.range j).map X=(List.range j).map (fun j => .float .f64 (F j)):=List.map_congr_left fun i _=>HX.out i
   rw [hXe] at HRD
   have HOW:=Lib.hid HOWN.out
   rw [hXe] at HOW
   clear hXe
   have HNM:=Lib.hid (numbers_any (fun b=>H b\/b=w.heap.size) _ j F wr (fun b e=>by
    rcases e with e | e
    ·have:=HH.out b e;have:=HBL.out.size;omega
    ·have:=HKL.out;omega) HRD.out hm HF.out)
   go_wp2_with fail
   refine HNM.out.mono ?_
   rintro e w6 ⟨k5,b5,bn5,s5,i5,f5,c5,x5,rfl,hk5,hb6⟩
   have HB2:=Lib.hid (bel_both HBL.out (bel_both hb6 (bel1 w6 (.cells #[.int .i64 k5,.slice b5.1 b5.2.1 b5.2.2,.int .i64 bn5,.slice s5.1 s5.2.1 s5.2.2,.slice i5.1 i5.2.1 i5.2.2,.slice f5.1 f5.2.1 f5.2.2,.slice c5.1 c5.2.1 c5.2.2,.slice x5.1 x5.2.1 x5.2.2] 38))))
   have HK2:=Lib.hid (show (w6.alloc (.cells #[.int .i64 k5,.slice b5.1 b5.2.1 b5.2.2,.int .i64 bn5,.slice s5.1 s5.2.1 s5.2.2,.slice i5.1 i5.2.1 i5.2.2,.slice f5.1 f5.2.1 f5.2.2,.slice c5.1 c5.2.1 c5.2.2,.slice x5.1 x5.2.1 x5.2.2] 38)).heap[w.heap.size]?=some (.cells zcells 38) by rw [(bel_both hb6 (bel1 w6 _)).block _ HKL.out];exact HK.out)
   have HKV:=Lib.hid (hk5.step (bel1 w6 (.cells #[.int .i64 k5,.slice b5.1 b5.2.1 b5.2.2,.int .i64 bn5,.slice s5.1 s5.2.1 s5.2.2,.slice i5.1 i5.2.1 i5.2.2,.slice f5.1 f5.2.1 f5.2.2,.slice c5.1 c5.2.1 c5.2.2,.slice x5.1 x5.2.1 x5.2.2] 38)))
   have HV9:=Lib.hid (boxP_new w6 ⟨k5,b5,bn5,s5,i5,f5,c5,x5⟩)
   clear hb6 hk5
   have HRE:=Lib.hid (set8_block HK2.out (.int .i64 k5) (.slice b5.1 b5.2.1 b5.2.2) (.int .i64 bn5) (.slice s5.1 s5.2.1 s5.2.2) (.slice i5.1 i5.2.1 i5.2.2) (.slice f5.1 f5.2.1 f5.2.2) (.slice c5.1 c5.2.1 c5.2.2) (.slice x5.1 x5.2.1 x5.2.2))
   have HBE:=Lib.hid (below_set8 HB2.out (Nat.le_refl _) (.int .i64 k5) (.slice b5.1 b5.2.1 b5.2.2) (.int .i64 bn5) (.slice s5.1 s5.2.1 s5.2.2) (.slice i5.1 i5.2.1 i5.2.2) (.slice f5.1 f5.2.1 f5.2.2) (.slice c5.1 c5.2.1 c5.2.2) (.slice x5.1 x5.2.1 x5.2.2))
   have HKE:=Lib.hid ((HKV.out.set8 (.inr rfl) (.int .i64 k5) (.slice b5.1 b5.2.1 b5.2.2) (.int .i64 bn5) (.slice s5.1 s5.2.1 s5.2.2) (.slice i5.1 i5.2.1 i5.2.2) (.slice f5.1 f5.2.1 f5.2.2) (.slice c5.1 c5.2.1 c5.2.2) (.slice x5.1 x5.2.1 x5.2.2)).sub (H':=H) fun _ _ e => .inl e)
   obtain ⟨⟨h0,h1,h2,h3,h4,h5,h6,h7⟩,hz⟩:=boxed_of HK2.out
   go_wp2
   exact bodyPost_ret (ret_vec rfl _ _ _ rfl HRE.out) rfl ⟨k5,b5,bn5,s5,i5,f5,c5,x5,rfl,HKE.out,HBE.out⟩
theorem joined_bit (H:Nat->Prop) (g m c:Nat) (pp:Nat->V8) (L:Nat->Bool) (Bs:Nat->Sl) (hm1:1<=m) (w:World) (hH:∀ b,H b->b < w.heap.size) (hm:m<=1000000) (hr:VRow w g m pp)
  (hpk:∀ j,j < m->∀ W,Below w.heap.size w W->Calls Tryz.prog 107 #[(pp j).v] W fun e w'=>e= .returned (.tuple #[.agg #[.slice (Bs j).1 (Bs j).2.1 (Bs j).2.2,.int .i64 1],.bool true])/\Below W.heap.size W w')
  (hel:∀ j,j < m->∀ W,Below w.heap.size w W->Calls Tryz.prog 192 #[.agg #[.slice (Bs j).1 (Bs j).2.1 (Bs j).2.2,.int .i64 1]] W fun e w'=>∃ v,e= .returned v/\Reads1 w' v [.bool (L j)]/\Below W.heap.size W w') :
  Calls Tryz.prog 127 #[.slice (some ⟨g,0,none⟩) m c,.int .i64 0,.int .i64 1] w (VecR H w (fun u W=>NumV u 1 m (fun j=>flagF (L j)) W)):=by
 have HR:=Lib.hid hr
 have HH:=Lib.hid hH
 have HEL:=Lib.hid hel
 have HPK:=Lib.hid hpk
 obtain ⟨X,hX⟩:∃ X:Nat->Value,X=fun j => .bool (L j):=⟨_,rfl⟩
 have HX:Hid (∀ j,X j=(fun j => .bool (L j)) j):=fun j=>by rw [hX]
 clear hr hH hel hpk
 have HK0:=Lib.hid (heap_alloc_new w (.cells zcells 38))
 have HB0:=Lib.hid (bel1 w (.cells zcells 38))
 have HO0:Hid (Own1 (w.alloc (.cells zcells 38)) (w.heap.size+1) 4 vnil ((List.range 0).map X)):=Own1.nil _ _ _
 go_enter Tryz.func127,Tryz.ntmps127
 go_wp2_with fail
 go_loopw [9,24] (fun vv jj wr=>∃ j:Nat,j<=m/\jj= .int .i64 j/\Own1 wr (w.heap.size+1) 4 vv ((List.range j).map X)/\Below w.heap.size w wr/\wr.heap[w.heap.size]?=some (.cells zcells 38)) (fun _ jj _=>m - (intOf jj).toNat)
 case atStart=>exact ⟨0,Nat.zero_le _,rfl,HO0.out,HB0.out,HK0.out⟩
 case round =>
  clear HO0 HB0 HK0
  obtain ⟨j,hj,rfl,hown,hbl,hk⟩:=hrel
  have HOWN:=Lib.hid hown
  have HBL:=Lib.hid hbl
  have HK:=Lib.hid hk
  clear hown hbl hk
  by_cases hlt:j < m
  ·obtain ⟨⟨c0,c1,c2,c3,c4,c5,c6,c7⟩,cz⟩:=(HR.out.below HBL.out).at_ j hlt
   have HE1:=Lib.hid (fun W hb=>HEL.out j hlt W hb)
   have HP1:=Lib.hid (fun W hb=>HPK.out j hlt W hb)
   have HBW:=Lib.hid (lt_of_block HK.out)
   generalize pp j=pj at *
   have HB1:=Lib.hid (bel_both HBL.out (bel1 wr pj.o))
   have HX1:=Lib.hid (boxP_new wr pj)
   generalize Bs j=bj at *
   go_wp2_with fail
   refine (HP1.out _ HB1.out).mono ?_
   rintro e w2 ⟨rfl,hb2⟩
   have HB2:=Lib.hid (bel_both (bel_both HB1.out hb2) (bel1 w2 (.cells #[.slice bj.1 bj.2.1 bj.2.2,.int .i64 1] 31)))
   have HBA:=Lib.hid (bel_both (bel_both (bel1 wr pj.o) hb2) (bel1 w2 (.cells #[.slice bj.1 bj.2.1 bj.2.2,.int .i64 1] 31)))
   clear hb2 c0 c1 c2 c3 c4 c5 c6 c7
   go_wp2_with fail
   refine (HE1.out _ HB2.out).mono ?_
   rintro e w3 ⟨v,rfl,hrd,hb3⟩
   have HB3:=Lib.hid (bel_both HBA.out hb3)
   obtain ⟨g3,o3,q3,rfl,hc3⟩:=one_open hrd
   have HC3:=Lib.hid hc3
   have HOWN3:=Lib.hid (HOWN.out.below HB3.out)
   have HOS:Hid ((List.range j).map X++[.bool (L j)]=(List.range (j+1)).map X):=by
    have h:=map_snoc X j
    rw [HX.out j] at h
    exact h
   have HLL:Hid (((List.range j).map X).length+1<=1000001):=by unfold Hid;simp;omega
   clear hb3 hrd hc3
   go_wp2_with (first | (at_builtin;go_loud (refine wpList_pushL rfl _ _ 222 4 rfl Tryz.underlying222 (.bool false) 1 info_bool rfl (w.heap.size+1) _ _ rfl HOWN3.out g3 o3 1 q3 [.bool (L j)] rfl rfl (fun i hi=>by obtain rfl:i=0:=(by simpa using hi);exact HC3.out) (by intro u hu;obtain rfl:u=_:=(by simpa using hu);rfl) (by have:=HLL.out;omega) (by have:=HLL.out;omega) (Nat.le_trans HBW.out HB3.out.size) ?_;intro v' w4 hv' hb' hg' hs';rw [HOS.out] at hv';have HV:=Lib.hid hv';have HB4:=Lib.hid (hb' w3 (Below.refl _ _));have HG4:=Lib.hid (hg' w.heap.size (Nat.lt_succ_self _));clear hb' hv' hg' hs')))
   have HBL4:=Lib.hid (bel_both' (bel_both HBL.out HB3.out) (HB4.out.mono (by omega)))
   have HK4:=Lib.hid (HG4.out.trans ((HB3.out.block _ HBW.out).trans HK.out))
   go_wp2
   go_roundw
   case rel=>exact ⟨j+1,by omega,by go_num,HV.out,HBL4.out,HK4.out⟩
   case measure=>simp [intOf];omega
  ·obtain rfl:j=m:=by omega
   have HRD:=Lib.hid HOWN.out.reads
   have HKL:=Lib.hid (lt_of_block HK.out)
   have hXe:(List.range j).map X=(List.range j).map (fun j => .bool (L j)):=List.map_congr_left fun i _=>HX.out i
   rw [hXe] at HRD
   have HOW:=Lib.hid HOWN.out
   rw [hXe] at HOW
   clear hXe
   obtain ⟨gb,cap,hu,hcap,hcell⟩:=own_open HOW.out hm1
   subst hu
   have HP:=Lib.hid (pack_any gb 0 j cap L (by omega) hcap wr (fun i hi=>by rw [Nat.zero_add];exact hcell i hi))
   obtain ⟨M,hM⟩:∃ M,M=(j+63) / 64:=⟨_,rfl⟩
   rw [<- hM] at HP
   have HM:=Lib.hid hM
   clear hcell hM
   go_wp2_with fail
   refine HP.out.mono ?_
   rintro e w2 ⟨g2,rfl,hr2,hb2⟩
   have HKV2:Hid (Keeps (fun b=>H b\/b=w.heap.size) w2 (NumV (vecW 1 (some ⟨g2,0,none⟩,M,M) j nilS nilS nilS nilS nilS) 1 j (fun j=>flagF (L j)))) :=
    (Own1.keepsH hr2 (fun b e=>by
    rcases e with e | e
    ·have:=HH.out b e;have:=HBL.out.size;omega
    ·have:=HKL.out;omega)).imp fun W' h=>numV_bits (by omega) ⟨_,rfl,bitsIn_reads h HM.out⟩
   have HB2a:=Lib.hid hb2
   clear hb2 hr2 HP
   go_wp2_with fail
   refine (vbits_any _ _ _ _ _).mono ?_
   rintro e w6 ⟨rfl,hb6⟩
   have HB2:=Lib.hid (bel_both HBL.out (bel_both HB2a.out hb6))
   have HK2:=Lib.hid (show w6.heap[w.heap.size]?=some (.cells zcells 38) by rw [(bel_both HB2a.out hb6).block _ HKL.out];exact HK.out)
   have HKV:=Lib.hid (HKV2.out.step hb6)
   clear hb6 HKV2
   have HRE:=Lib.hid (set8_block HK2.out (.int .i64 1) (.slice (some ⟨g2,0,none⟩) M M) (.int .i64 j) vnil vnil vnil vnil vnil)
   have HBE:=Lib.hid (below_set8 HB2.out (Nat.le_refl _) (.int .i64 1) (.slice (some ⟨g2,0,none⟩) M M) (.int .i64 j) vnil vnil vnil vnil vnil)
   have HKE:=Lib.hid ((HKV.out.set8 (.inr rfl) (.int .i64 1) (.slice (some ⟨g2,0,none⟩) M M) (.int .i64 j) vnil vnil vnil vnil vnil).sub (H':=H) fun _ _ e => .inl e)
   obtain ⟨⟨h0,h1,h2,h3,h4,h5,h6,h7⟩,hz⟩:=boxed_of HK2.out
   go_wp2
   exact bodyPost_ret (ret_vec rfl _ _ _ rfl HRE.out) rfl ⟨1,(some ⟨g2,0,none⟩,M,M),j,nilS,nilS,nilS,nilS,nilS,rfl,HKE.out,HBE.out⟩
end Go.Proofs.YtakgmnafbjdccaaGreatDoor
