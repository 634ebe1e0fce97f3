/- The walk of mono.wholes: whole numbers in place, and the store they are kept .. Conditions: as each theorem says. -/
import Derived.Test.YtiahegjdkejjpaaGreatDoorMg31
import Derived.Test.YtiahegjdkejjpaaGreatDoorMg38
set_option maxRecDepth 100000
set_option maxHeartbeats 2000000
namespace Go.Proofs.YtiahegjdkejjpaaGreatDoor
open Go Go.RowKit Go.Proofs Fl
theorem Own1.put {e:TypeId}{w:World}{B g n c:Nat}{F:Nat->Value} (h:Own1 w B e (.slice (some ⟨g,0,none⟩) n c) ((List.range n).map F)){k:Nat} (hk:k < n) (u:Value):Own1 (w.setCell ⟨g,k,none⟩ u) B e (.slice (some ⟨g,0,none⟩) n c) ((List.range n).map fun j=>if j=k then u else F j):=by
 unfold Own1 at h ⊢
 rw [List.length_map,List.length_range] at h ⊢
 have h2:=(World.ownsRow.stored h k u).1
 rw [set_map_range hk] at h2
 exact h2
theorem Own1.frz {e:TypeId}{w:World}{B g n c:Nat}{F:Nat->Value} (h:Own1 w B e (.slice (some ⟨g,0,none⟩) n c) ((List.range n).map F)) (k:Nat):w.frozen? ⟨g,k,none⟩=false:=by
 unfold Own1 at h
 rw [List.length_map,List.length_range] at h
 exact World.ownsRow.frozenAt h k
theorem Own1.some_ {e:TypeId}{w:World}{B n c:Nat}{a:Option Addr}{F:Nat->Value} (h:Own1 w B e (.slice a n c) ((List.range n).map F)) (hn:0 < n):∃ g,a=some ⟨g,0,none⟩/\B<=g/\g < w.heap.size:=by
 have hl:=World.ownsRow.lt h
 rcases h.2 with ⟨h1,_⟩ | ⟨g,cap,cur,h1,_⟩
 ·injection h1 with _ h2 _;omega
 ·injection h1 with h1 _ _
  subst h1
  have:=hl g rfl
  exact ⟨g,rfl,this.1,this.2⟩
def doneI (E:Int->Int) (L:Nat->Int) (i j:Nat):Value := .int .i64 (if j < i then E (L j) else L j)
theorem doneI_zero (E:Int->Int) (L:Nat->Int):doneI E L 0=fun j => .int .i64 (L j):=by
 funext j;unfold doneI;rw [if_neg (Nat.not_lt_zero _)]
theorem doneI_succ (E:Int->Int) (L:Nat->Int) (i:Nat):(fun j=>if j=i then Value.int .i64 (E (L i)) else doneI E L i j)=doneI E L (i+1):=by
 funext j
 unfold doneI
 by_cases h:j=i
 ·subst h;rw [if_pos rfl,if_pos (Nat.lt_succ_self _)]
 ·rw [if_neg h]
  by_cases h2:j < i
  ·rw [if_pos h2,if_pos (by omega)]
  ·rw [if_neg h2,if_neg (by omega)]
theorem doneI_at (E:Int->Int) (L:Nat->Int) (i:Nat):doneI E L i i= .int .i64 (L i):=by unfold doneI;rw [if_neg (Nat.lt_irrefl _)]
theorem doneI_id (L:Nat->Int) (i k:Nat):doneI (fun z=>z) L i=doneI (fun z=>z) L k:=by
 funext j;unfold doneI;rw [ite_self,ite_self]
theorem doneI_full (E:Int->Int) (L:Nat->Int) (n:Nat):(List.range n).map (doneI E L n)=((List.range n).map fun j=>E (L j)).map (.int .i64):=by
 rw [List.map_map]
 exact List.map_congr_left fun j hj=>by unfold doneI;rw [if_pos (List.mem_range.1 hj)];rfl
def WoOut (H:Nat->Prop) (B:Nat) (w:World) (E:Int->Int) (L:Nat->Int) (n:Nat) (e:Ending) (w':World):Prop :=
 ∃ (k:Int) (b:Sl) (bn:Int) (s i f c x:Sl),e= .returned (.tuple #[vecW k b bn s i f c x,.int .i64 0])/\Keeps H w' (NumV (vecW k b bn s i f c x) (leastF (fun j=>fi (E (L j))) n:Nat) n (fun j=>fi (E (L j))))/\Below B w w'
theorem mwholes_2 (H:Nat->Prop) (a:Option Addr) (c n B:Nat) (L:Nat->Int) (w:World) (hB:B<=w.heap.size) (hH:∀ b,H b->b < B) (hn:n<=1000000) (hown:Own1 w B 2 (.slice a n c) ((List.range n).map fun j => .int .i64 (L j))) (hL:∀ j,j < n->Good (L j)) (hE:∀ j,j < n->Good ((fun z => -z) (L j))) :
  Calls Tryz.prog 123 #[.int .i64 2,.slice a n c] w (WoOut H B w (fun z => -z) L n):=by
 have HH:=Lib.hid hH
 have HBW:=Lib.hid hB
 have HL:=Lib.hid hL
 have HE:=Lib.hid hE
 obtain ⟨E,hE0⟩:∃ E:Int->Int,E=(fun z => -z):=⟨_,rfl⟩
 have HEE:Hid (∀ z,E z=(fun z => -z) z):=fun z=>by rw [hE0]
 rw [<- hE0] at HE ⊢
 clear hE0
 have HK0:=Lib.hid (block_up (bel1 (w.alloc (.cells zcells 37)) (.cells zcells 37)))
 have HR0:=Lib.hid (heap_alloc_new w (.cells zcells 37))
 have HB0:=Lib.hid ((bel1 w (.cells zcells 37)).mono hB)
 have HO0:Hid (Own1 (w.alloc (.cells zcells 37)) B 2 (.slice a n c) ((List.range n).map (doneI E L 0))):=by
  unfold Hid;rw [doneI_zero];exact hown.below (bel1 w _)
 have HLT:Hid (∀ g,a=some ⟨g,0,none⟩->g < w.heap.size):=fun g hg=>by
  have:=World.ownsRow.lt hown g (by rw [hg];rfl)
  exact this.2
 clear hown hL hE hH
 go_enter Tryz.func123,Tryz.ntmps123
 go_wp2_with fail
 go_loopw [12] (fun ii wr=>∃ i:Nat,i<=n/\ii= .int .i64 i/\Own1 wr B 2 (.slice a n c) ((List.range n).map (doneI E L i))/\Below B w wr/\wr.heap[w.heap.size]?=some (.cells zcells 37)) (fun ii _=>n - (intOf ii).toNat)
 case atStart=>exact ⟨0,Nat.zero_le _,rfl,HO0.out,HB0.out,HR0.out⟩
 case round =>
  obtain ⟨i,hi,rfl,hrow,hbl,hres⟩:=hrel
  have HROW:=Lib.hid hrow
  have HBL:=Lib.hid hbl
  have HRES:=Lib.hid hres
  clear hrow hbl hres HO0 HB0 HR0 HK0
  by_cases hlt:i < n
  ·obtain ⟨g,rfl,hg1,hg2⟩:=HROW.out.some_ (by omega)
   have hgw:=HLT.out g rfl
   have hcell:=own_cell HROW.out i hlt
   rw [doneI_at] at hcell
   have hz:=HL.out i hlt
   have hza:=hz.1
   have hzb:=hz.2
   have hfz:=HROW.out.frz i
   have hput:=HROW.out.put hlt (.int .i64 (E (L i)))
   rw [doneI_succ] at hput
   have hEE:=HEE.out (L i)
   obtain ⟨y,hy⟩:∃ y,y=E (L i):=⟨_,rfl⟩
   rw [<- hy] at hput hEE
   subst hEE
   have HPUT:=Lib.hid hput
   have HB2:=Lib.hid (HBL.out.setCell (p:=⟨g,i,none⟩) (by show _<=g;omega) (.int .i64 (-(L i))))
   have HR2:=Lib.hid ((Below.heap_setCell wr ⟨g,i,none⟩ (.int .i64 (-(L i))) w.heap.size (by show _≠g;omega)).trans HRES.out)
   clear hput hy
   generalize L i=z at *
   go_wp2
   go_roundw
   case rel=>exact ⟨i+1,by omega,by go_num,HPUT.out,HB2.out,HR2.out⟩
   case measure=>simp [intOf];omega
  ·obtain rfl:i=n:=by omega
   have HRD:Hid (Reads1 wr (.slice a i c) (((List.range i).map fun j=>E (L j)).map (.int .i64))):=by
    have h:=HROW.out.reads
    rw [doneI_full] at h
    exact h
   have HIN:=Lib.hid (ints_any HRD.out (by simpa using hn) (fun x hx=>by
    obtain ⟨j,hj,rfl⟩:=List.mem_map.1 hx
    exact HE.out j (List.mem_range.1 hj)))
   clear HROW
   go_wp2_with fail
   refine HIN.out.mono ?_
   rintro e w5 ⟨u,rfl,ho,hb5⟩
   obtain ⟨uA,un,uc,rfl⟩:∃ A n c,u= .slice A n c:=by obtain ⟨a,c,e⟩:=ho.reads.len;exact ⟨a,_,c,e⟩
   have HZR:=Lib.hid HBL.out.size
   have HZ5:=Lib.hid hb5.size
   have HRL:=Lib.hid (lt_of_block HRES.out)
   have HR5:=Lib.hid (show w5.heap[w.heap.size]?=some (.cells zcells 37) by rw [hb5.block _ HRL.out];exact HRES.out)
   have HB5:=Lib.hid (HBL.out.trans (hb5.mono (by have:=HZR.out;omega)))
   have HHR:Hid (∀ b,(H b\/b=w.heap.size)->b < wr.heap.size):=fun b e=>by
    have h1:=HRL.out
    rcases e with e | e
    ·have:=HH.out b e;omega
    ·omega
   have HKV:Hid (Keeps (fun b=>H b\/b=w.heap.size) w5 (NumV (vecW 3 nilS 0 nilS (uA,un,uc) nilS nilS nilS) 3 i (fun j=>fi (E (L j))))) :=
    (Own1.keepsH ho HHR.out).imp fun W' h=>numV_ints ⟨⟨_,rfl,by rw [List.map_map] at h;exact h⟩,fun j hj=>HE.out j hj⟩
   have HKV6:=Lib.hid (HKV.out.step (bel1 w5 (.cells #[.int .i64 3,vnil,.int .i64 0,vnil,.slice uA un uc,vnil,vnil,vnil] 37)))
   have HSQ:=Lib.hid (squeeze_num (fun b=>H b\/b=w.heap.size) 3 nilS 0 nilS (uA,un,uc) nilS nilS nilS i _ (w5.alloc (.cells #[.int .i64 3,vnil,.int .i64 0,vnil,.slice uA un uc,vnil,vnil,vnil] 37)) (fun b e=>by
    have h1:=HHR.out b e
    have h2:=HZ5.out
    simp
    omega) hn HKV6.out)
   have HR6:=Lib.hid ((Below.heap_alloc w5 (.cells #[.int .i64 3,vnil,.int .i64 0,vnil,.slice uA un uc,vnil,vnil,vnil] 37) _ (lt_of_block HR5.out)).trans HR5.out)
   have HB6:=Lib.hid (HB5.out.alloc (by have:=HZ5.out;have:=HZR.out;omega) (.cells #[.int .i64 3,vnil,.int .i64 0,vnil,.slice uA un uc,vnil,vnil,vnil] 37))
   clear hb5 ho HKV HIN
   go_wp2_with fail
   refine HSQ.out.mono ?_
   rintro e w6 ⟨k5,b5,bn5,s5,i5,f5,c5,x5,rfl,hk5,hb6⟩
   have HK6:=Lib.hid (show w6.heap[w.heap.size]?=some (.cells zcells 37) by rw [hb6.block _ (lt_of_block HR6.out)];exact HR6.out)
   have HB7:=Lib.hid (HB6.out.trans (hb6.mono (by have:=HB6.out.size;omega)))
   have HKK:=Lib.hid hk5
   clear hb6 hk5
   have HKE:=Lib.hid ((HKK.out.set8 (.inr rfl) (.int .i64 k5) (.slice b5.1 b5.2.1 b5.2.2) (.int .i64 bn5) (.slice s5.1 s5.2.1 s5.2.2) (.slice i5.1 i5.2.1 i5.2.2) (.slice f5.1 f5.2.1 f5.2.2) (.slice c5.1 c5.2.1 c5.2.2) (.slice x5.1 x5.2.1 x5.2.2)).sub (H':=H) fun _ _ e => .inl e)
   have HBE:=Lib.hid (below_set8 HB7.out HBW.out (.int .i64 k5) (.slice b5.1 b5.2.1 b5.2.2) (.int .i64 bn5) (.slice s5.1 s5.2.1 s5.2.2) (.slice i5.1 i5.2.1 i5.2.2) (.slice f5.1 f5.2.1 f5.2.2) (.slice c5.1 c5.2.1 c5.2.2) (.slice x5.1 x5.2.1 x5.2.2))
   have HRE:=Lib.hid (set8_block HK6.out (.int .i64 k5) (.slice b5.1 b5.2.1 b5.2.2) (.int .i64 bn5) (.slice s5.1 s5.2.1 s5.2.2) (.slice i5.1 i5.2.1 i5.2.2) (.slice f5.1 f5.2.1 f5.2.2) (.slice c5.1 c5.2.1 c5.2.2) (.slice x5.1 x5.2.1 x5.2.2))
   obtain ⟨⟨h0,h1,h2,h3,h4,h5,h6,h7⟩,hz⟩:=boxed_of HK6.out
   go_wp2
   refine bodyPost_ret (v := .tuple #[vecW k5 b5 bn5 s5 i5 f5 c5 x5,.int .i64 0]) ?_ rfl (⟨k5,b5,bn5,s5,i5,f5,c5,x5,rfl,HKE.out,HBE.out⟩)
   exact ret_vec2 (fn:=Tryz.f123) (p:=4) (u:=5) rfl _ _ w.heap.size (by rfl) HRE.out
theorem mwholes_3 (H:Nat->Prop) (a:Option Addr) (c n B:Nat) (L:Nat->Int) (w:World) (hB:B<=w.heap.size) (hH:∀ b,H b->b < B) (hn:n<=1000000) (hown:Own1 w B 2 (.slice a n c) ((List.range n).map fun j => .int .i64 (L j))) (hL:∀ j,j < n->Good (L j)) (hE:∀ j,j < n->Good ((fun z=>max (-1) (min z 1)) (L j))) :
  Calls Tryz.prog 123 #[.int .i64 3,.slice a n c] w (WoOut H B w (fun z=>max (-1) (min z 1)) L n):=by
 have HH:=Lib.hid hH
 have HBW:=Lib.hid hB
 have HL:=Lib.hid hL
 have HE:=Lib.hid hE
 obtain ⟨E,hE0⟩:∃ E:Int->Int,E=(fun z=>max (-1) (min z 1)):=⟨_,rfl⟩
 have HEE:Hid (∀ z,E z=(fun z=>max (-1) (min z 1)) z):=fun z=>by rw [hE0]
 rw [<- hE0] at HE ⊢
 clear hE0
 have HK0:=Lib.hid (block_up (bel1 (w.alloc (.cells zcells 37)) (.cells zcells 37)))
 have HR0:=Lib.hid (heap_alloc_new w (.cells zcells 37))
 have HB0:=Lib.hid ((bel1 w (.cells zcells 37)).mono hB)
 have HO0:Hid (Own1 (w.alloc (.cells zcells 37)) B 2 (.slice a n c) ((List.range n).map (doneI E L 0))):=by
  unfold Hid;rw [doneI_zero];exact hown.below (bel1 w _)
 have HLT:Hid (∀ g,a=some ⟨g,0,none⟩->g < w.heap.size):=fun g hg=>by
  have:=World.ownsRow.lt hown g (by rw [hg];rfl)
  exact this.2
 clear hown hL hE hH
 go_enter Tryz.func123,Tryz.ntmps123
 go_wp2_with fail
 go_loopw [12] (fun ii wr=>∃ i:Nat,i<=n/\ii= .int .i64 i/\Own1 wr B 2 (.slice a n c) ((List.range n).map (doneI E L i))/\Below B w wr/\wr.heap[w.heap.size]?=some (.cells zcells 37)) (fun ii _=>n - (intOf ii).toNat)
 case atStart=>exact ⟨0,Nat.zero_le _,rfl,HO0.out,HB0.out,HR0.out⟩
 case round =>
  obtain ⟨i,hi,rfl,hrow,hbl,hres⟩:=hrel
  have HROW:=Lib.hid hrow
  have HBL:=Lib.hid hbl
  have HRES:=Lib.hid hres
  clear hrow hbl hres HO0 HB0 HR0 HK0
  by_cases hlt:i < n
  ·obtain ⟨g,rfl,hg1,hg2⟩:=HROW.out.some_ (by omega)
   have hgw:=HLT.out g rfl
   have hcell:=own_cell HROW.out i hlt
   rw [doneI_at] at hcell
   have hz:=HL.out i hlt
   have hza:=hz.1
   have hzb:=hz.2
   have hfz:=HROW.out.frz i
   have hput:=HROW.out.put hlt (.int .i64 (E (L i)))
   rw [doneI_succ] at hput
   have hEE:=HEE.out (L i)
   obtain ⟨y,hy⟩:∃ y,y=E (L i):=⟨_,rfl⟩
   rw [<- hy] at hput hEE
   subst hEE
   have HPUT:=Lib.hid hput
   have HB2:=Lib.hid (HBL.out.setCell (p:=⟨g,i,none⟩) (by show _<=g;omega) (.int .i64 (max (-1) (min (L i) 1))))
   have HR2:=Lib.hid ((Below.heap_setCell wr ⟨g,i,none⟩ (.int .i64 (max (-1) (min (L i) 1))) w.heap.size (by show _≠g;omega)).trans HRES.out)
   clear hput hy
   generalize L i=z at *
   go_wp2
   go_roundw
   case rel=>exact ⟨i+1,by omega,by go_num,HPUT.out,HB2.out,HR2.out⟩
   case measure=>simp [intOf];omega
  ·obtain rfl:i=n:=by omega
   have HRD:Hid (Reads1 wr (.slice a i c) (((List.range i).map fun j=>E (L j)).map (.int .i64))):=by
    have h:=HROW.out.reads
    rw [doneI_full] at h
    exact h
   have HIN:=Lib.hid (ints_any HRD.out (by simpa using hn) (fun x hx=>by
    obtain ⟨j,hj,rfl⟩:=List.mem_map.1 hx
    exact HE.out j (List.mem_range.1 hj)))
   clear HROW
   go_wp2_with fail
   refine HIN.out.mono ?_
   rintro e w5 ⟨u,rfl,ho,hb5⟩
   obtain ⟨uA,un,uc,rfl⟩:∃ A n c,u= .slice A n c:=by obtain ⟨a,c,e⟩:=ho.reads.len;exact ⟨a,_,c,e⟩
   have HZR:=Lib.hid HBL.out.size
   have HZ5:=Lib.hid hb5.size
   have HRL:=Lib.hid (lt_of_block HRES.out)
   have HR5:=Lib.hid (show w5.heap[w.heap.size]?=some (.cells zcells 37) by rw [hb5.block _ HRL.out];exact HRES.out)
   have HB5:=Lib.hid (HBL.out.trans (hb5.mono (by have:=HZR.out;omega)))
   have HHR:Hid (∀ b,(H b\/b=w.heap.size)->b < wr.heap.size):=fun b e=>by
    have h1:=HRL.out
    rcases e with e | e
    ·have:=HH.out b e;omega
    ·omega
   have HKV:Hid (Keeps (fun b=>H b\/b=w.heap.size) w5 (NumV (vecW 3 nilS 0 nilS (uA,un,uc) nilS nilS nilS) 3 i (fun j=>fi (E (L j))))) :=
    (Own1.keepsH ho HHR.out).imp fun W' h=>numV_ints ⟨⟨_,rfl,by rw [List.map_map] at h;exact h⟩,fun j hj=>HE.out j hj⟩
   have HKV6:=Lib.hid (HKV.out.step (bel1 w5 (.cells #[.int .i64 3,vnil,.int .i64 0,vnil,.slice uA un uc,vnil,vnil,vnil] 37)))
   have HSQ:=Lib.hid (squeeze_num (fun b=>H b\/b=w.heap.size) 3 nilS 0 nilS (uA,un,uc) nilS nilS nilS i _ (w5.alloc (.cells #[.int .i64 3,vnil,.int .i64 0,vnil,.slice uA un uc,vnil,vnil,vnil] 37)) (fun b e=>by
    have h1:=HHR.out b e
    have h2:=HZ5.out
    simp
    omega) hn HKV6.out)
   have HR6:=Lib.hid ((Below.heap_alloc w5 (.cells #[.int .i64 3,vnil,.int .i64 0,vnil,.slice uA un uc,vnil,vnil,vnil] 37) _ (lt_of_block HR5.out)).trans HR5.out)
   have HB6:=Lib.hid (HB5.out.alloc (by have:=HZ5.out;have:=HZR.out;omega) (.cells #[.int .i64 3,vnil,.int .i64 0,vnil,.slice uA un uc,vnil,vnil,vnil] 37))
   clear hb5 ho HKV HIN
   go_wp2_with fail
   refine HSQ.out.mono ?_
   rintro e w6 ⟨k5,b5,bn5,s5,i5,f5,c5,x5,rfl,hk5,hb6⟩
   have HK6:=Lib.hid (show w6.heap[w.heap.size]?=some (.cells zcells 37) by rw [hb6.block _ (lt_of_block HR6.out)];exact HR6.out)
   have HB7:=Lib.hid (HB6.out.trans (hb6.mono (by have:=HB6.out.size;omega)))
   have HKK:=Lib.hid hk5
   clear hb6 hk5
   have HKE:=Lib.hid ((HKK.out.set8 (.inr rfl) (.int .i64 k5) (.slice b5.1 b5.2.1 b5.2.2) (.int .i64 bn5) (.slice s5.1 s5.2.1 s5.2.2) (.slice i5.1 i5.2.1 i5.2.2) (.slice f5.1 f5.2.1 f5.2.2) (.slice c5.1 c5.2.1 c5.2.2) (.slice x5.1 x5.2.1 x5.2.2)).sub (H':=H) fun _ _ e => .inl e)
   have HBE:=Lib.hid (below_set8 HB7.out HBW.out (.int .i64 k5) (.slice b5.1 b5.2.1 b5.2.2) (.int .i64 bn5) (.slice s5.1 s5.2.1 s5.2.2) (.slice i5.1 i5.2.1 i5.2.2) (.slice f5.1 f5.2.1 f5.2.2) (.slice c5.1 c5.2.1 c5.2.2) (.slice x5.1 x5.2.1 x5.2.2))
   have HRE:=Lib.hid (set8_block HK6.out (.int .i64 k5) (.slice b5.1 b5.2.1 b5.2.2) (.int .i64 bn5) (.slice s5.1 s5.2.1 s5.2.2) (.slice i5.1 i5.2.1 i5.2.2) (.slice f5.1 f5.2.1 f5.2.2) (.slice c5.1 c5.2.1 c5.2.2) (.slice x5.1 x5.2.1 x5.2.2))
   obtain ⟨⟨h0,h1,h2,h3,h4,h5,h6,h7⟩,hz⟩:=boxed_of HK6.out
   go_wp2
   refine bodyPost_ret (v := .tuple #[vecW k5 b5 bn5 s5 i5 f5 c5 x5,.int .i64 0]) ?_ rfl (⟨k5,b5,bn5,s5,i5,f5,c5,x5,rfl,HKE.out,HBE.out⟩)
   exact ret_vec2 (fn:=Tryz.f123) (p:=4) (u:=5) rfl _ _ w.heap.size (by rfl) HRE.out
theorem mwholes_7 (H:Nat->Prop) (a:Option Addr) (c n B:Nat) (L:Nat->Int) (w:World) (hB:B<=w.heap.size) (hH:∀ b,H b->b < B) (hn:n<=1000000) (hown:Own1 w B 2 (.slice a n c) ((List.range n).map fun j => .int .i64 (L j))) (hL:∀ j,j < n->Good (L j)) (hE:∀ j,j < n->Good ((fun z=>max z (-z)) (L j))) :
  Calls Tryz.prog 123 #[.int .i64 7,.slice a n c] w (WoOut H B w (fun z=>max z (-z)) L n):=by
 have HH:=Lib.hid hH
 have HBW:=Lib.hid hB
 have HL:=Lib.hid hL
 have HE:=Lib.hid hE
 obtain ⟨E,hE0⟩:∃ E:Int->Int,E=(fun z=>max z (-z)):=⟨_,rfl⟩
 have HEE:Hid (∀ z,E z=(fun z=>max z (-z)) z):=fun z=>by rw [hE0]
 rw [<- hE0] at HE ⊢
 clear hE0
 have HK0:=Lib.hid (block_up (bel1 (w.alloc (.cells zcells 37)) (.cells zcells 37)))
 have HR0:=Lib.hid (heap_alloc_new w (.cells zcells 37))
 have HB0:=Lib.hid ((bel1 w (.cells zcells 37)).mono hB)
 have HO0:Hid (Own1 (w.alloc (.cells zcells 37)) B 2 (.slice a n c) ((List.range n).map (doneI E L 0))):=by
  unfold Hid;rw [doneI_zero];exact hown.below (bel1 w _)
 have HLT:Hid (∀ g,a=some ⟨g,0,none⟩->g < w.heap.size):=fun g hg=>by
  have:=World.ownsRow.lt hown g (by rw [hg];rfl)
  exact this.2
 clear hown hL hE hH
 go_enter Tryz.func123,Tryz.ntmps123
 go_wp2_with fail
 go_loopw [12] (fun ii wr=>∃ i:Nat,i<=n/\ii= .int .i64 i/\Own1 wr B 2 (.slice a n c) ((List.range n).map (doneI E L i))/\Below B w wr/\wr.heap[w.heap.size]?=some (.cells zcells 37)) (fun ii _=>n - (intOf ii).toNat)
 case atStart=>exact ⟨0,Nat.zero_le _,rfl,HO0.out,HB0.out,HR0.out⟩
 case round =>
  obtain ⟨i,hi,rfl,hrow,hbl,hres⟩:=hrel
  have HROW:=Lib.hid hrow
  have HBL:=Lib.hid hbl
  have HRES:=Lib.hid hres
  clear hrow hbl hres HO0 HB0 HR0 HK0
  by_cases hlt:i < n
  ·obtain ⟨g,rfl,hg1,hg2⟩:=HROW.out.some_ (by omega)
   have hgw:=HLT.out g rfl
   have hcell:=own_cell HROW.out i hlt
   rw [doneI_at] at hcell
   have hz:=HL.out i hlt
   have hza:=hz.1
   have hzb:=hz.2
   have hfz:=HROW.out.frz i
   have hput:=HROW.out.put hlt (.int .i64 (E (L i)))
   rw [doneI_succ] at hput
   have hEE:=HEE.out (L i)
   obtain ⟨y,hy⟩:∃ y,y=E (L i):=⟨_,rfl⟩
   rw [<- hy] at hput hEE
   subst hEE
   have HPUT:=Lib.hid hput
   have HB2:=Lib.hid (HBL.out.setCell (p:=⟨g,i,none⟩) (by show _<=g;omega) (.int .i64 (max (L i) (-(L i)))))
   have HR2:=Lib.hid ((Below.heap_setCell wr ⟨g,i,none⟩ (.int .i64 (max (L i) (-(L i)))) w.heap.size (by show _≠g;omega)).trans HRES.out)
   clear hput hy
   generalize L i=z at *
   go_wp2
   go_roundw
   case rel=>exact ⟨i+1,by omega,by go_num,HPUT.out,HB2.out,HR2.out⟩
   case measure=>simp [intOf];omega
  ·obtain rfl:i=n:=by omega
   have HRD:Hid (Reads1 wr (.slice a i c) (((List.range i).map fun j=>E (L j)).map (.int .i64))):=by
    have h:=HROW.out.reads
    rw [doneI_full] at h
    exact h
   have HIN:=Lib.hid (ints_any HRD.out (by simpa using hn) (fun x hx=>by
    obtain ⟨j,hj,rfl⟩:=List.mem_map.1 hx
    exact HE.out j (List.mem_range.1 hj)))
   clear HROW
   go_wp2_with fail
   refine HIN.out.mono ?_
   rintro e w5 ⟨u,rfl,ho,hb5⟩
   obtain ⟨uA,un,uc,rfl⟩:∃ A n c,u= .slice A n c:=by obtain ⟨a,c,e⟩:=ho.reads.len;exact ⟨a,_,c,e⟩
   have HZR:=Lib.hid HBL.out.size
   have HZ5:=Lib.hid hb5.size
   have HRL:=Lib.hid (lt_of_block HRES.out)
   have HR5:=Lib.hid (show w5.heap[w.heap.size]?=some (.cells zcells 37) by rw [hb5.block _ HRL.out];exact HRES.out)
   have HB5:=Lib.hid (HBL.out.trans (hb5.mono (by have:=HZR.out;omega)))
   have HHR:Hid (∀ b,(H b\/b=w.heap.size)->b < wr.heap.size):=fun b e=>by
    have h1:=HRL.out
    rcases e with e | e
    ·have:=HH.out b e;omega
    ·omega
   have HKV:Hid (Keeps (fun b=>H b\/b=w.heap.size) w5 (NumV (vecW 3 nilS 0 nilS (uA,un,uc) nilS nilS nilS) 3 i (fun j=>fi (E (L j))))) :=
    (Own1.keepsH ho HHR.out).imp fun W' h=>numV_ints ⟨⟨_,rfl,by rw [List.map_map] at h;exact h⟩,fun j hj=>HE.out j hj⟩
   have HKV6:=Lib.hid (HKV.out.step (bel1 w5 (.cells #[.int .i64 3,vnil,.int .i64 0,vnil,.slice uA un uc,vnil,vnil,vnil] 37)))
   have HSQ:=Lib.hid (squeeze_num (fun b=>H b\/b=w.heap.size) 3 nilS 0 nilS (uA,un,uc) nilS nilS nilS i _ (w5.alloc (.cells #[.int .i64 3,vnil,.int .i64 0,vnil,.slice uA un uc,vnil,vnil,vnil] 37)) (fun b e=>by
    have h1:=HHR.out b e
    have h2:=HZ5.out
    simp
    omega) hn HKV6.out)
   have HR6:=Lib.hid ((Below.heap_alloc w5 (.cells #[.int .i64 3,vnil,.int .i64 0,vnil,.slice uA un uc,vnil,vnil,vnil] 37) _ (lt_of_block HR5.out)).trans HR5.out)
   have HB6:=Lib.hid (HB5.out.alloc (by have:=HZ5.out;have:=HZR.out;omega) (.cells #[.int .i64 3,vnil,.int .i64 0,vnil,.slice uA un uc,vnil,vnil,vnil] 37))
   clear hb5 ho HKV HIN
   go_wp2_with fail
   refine HSQ.out.mono ?_
   rintro e w6 ⟨k5,b5,bn5,s5,i5,f5,c5,x5,rfl,hk5,hb6⟩
   have HK6:=Lib.hid (show w6.heap[w.heap.size]?=some (.cells zcells 37) by rw [hb6.block _ (lt_of_block HR6.out)];exact HR6.out)
   have HB7:=Lib.hid (HB6.out.trans (hb6.mono (by have:=HB6.out.size;omega)))
   have HKK:=Lib.hid hk5
   clear hb6 hk5
   have HKE:=Lib.hid ((HKK.out.set8 (.inr rfl) (.int .i64 k5) (.slice b5.1 b5.2.1 b5.2.2) (.int .i64 bn5) (.slice s5.1 s5.2.1 s5.2.2) (.slice i5.1 i5.2.1 i5.2.2) (.slice f5.1 f5.2.1 f5.2.2) (.slice c5.1 c5.2.1 c5.2.2) (.slice x5.1 x5.2.1 x5.2.2)).sub (H':=H) fun _ _ e => .inl e)
   have HBE:=Lib.hid (below_set8 HB7.out HBW.out (.int .i64 k5) (.slice b5.1 b5.2.1 b5.2.2) (.int .i64 bn5) (.slice s5.1 s5.2.1 s5.2.2) (.slice i5.1 i5.2.1 i5.2.2) (.slice f5.1 f5.2.1 f5.2.2) (.slice c5.1 c5.2.1 c5.2.2) (.slice x5.1 x5.2.1 x5.2.2))
   have HRE:=Lib.hid (set8_block HK6.out (.int .i64 k5) (.slice b5.1 b5.2.1 b5.2.2) (.int .i64 bn5) (.slice s5.1 s5.2.1 s5.2.2) (.slice i5.1 i5.2.1 i5.2.2) (.slice f5.1 f5.2.1 f5.2.2) (.slice c5.1 c5.2.1 c5.2.2) (.slice x5.1 x5.2.1 x5.2.2))
   obtain ⟨⟨h0,h1,h2,h3,h4,h5,h6,h7⟩,hz⟩:=boxed_of HK6.out
   go_wp2
   refine bodyPost_ret (v := .tuple #[vecW k5 b5 bn5 s5 i5 f5 c5 x5,.int .i64 0]) ?_ rfl (⟨k5,b5,bn5,s5,i5,f5,c5,x5,rfl,HKE.out,HBE.out⟩)
   exact ret_vec2 (fn:=Tryz.f123) (p:=4) (u:=5) rfl _ _ w.heap.size (by rfl) HRE.out
theorem mwholes_stay (H:Nat->Prop) (f:Int) (e2:(f==2)=false) (e3:(f==3)=false) (e7:(f==7)=false) (e8:(f==8)=false) (a:Option Addr) (c n B:Nat) (L:Nat->Int) (w:World) (hB:B<=w.heap.size) (hH:∀ b,H b->b < B) (hn:n<=1000000) (hown:Own1 w B 2 (.slice a n c) ((List.range n).map fun j => .int .i64 (L j))) (hL:∀ j,j < n->Good (L j)) (hE:∀ j,j < n->Good ((fun z=>z) (L j))) :
  Calls Tryz.prog 123 #[.int .i64 f,.slice a n c] w (WoOut H B w (fun z=>z) L n):=by
 have HH:=Lib.hid hH
 have HBW:=Lib.hid hB
 have HL:=Lib.hid hL
 have HE:=Lib.hid hE
 obtain ⟨E,hE0⟩:∃ E:Int->Int,E=(fun z=>z):=⟨_,rfl⟩
 have HEE:Hid (∀ z,E z=(fun z=>z) z):=fun z=>by rw [hE0]
 rw [<- hE0] at HE ⊢
 have HEID:Hid (∀ L i k,doneI E L i=doneI E L k):=fun L i k=>by rw [hE0];exact doneI_id L i k
 clear hE0
 have HK0:=Lib.hid (block_up (bel1 (w.alloc (.cells zcells 37)) (.cells zcells 37)))
 have HR0:=Lib.hid (heap_alloc_new w (.cells zcells 37))
 have HB0:=Lib.hid ((bel1 w (.cells zcells 37)).mono hB)
 have HO0:Hid (Own1 (w.alloc (.cells zcells 37)) B 2 (.slice a n c) ((List.range n).map (doneI E L 0))):=by
  unfold Hid;rw [doneI_zero];exact hown.below (bel1 w _)
 have HLT:Hid (∀ g,a=some ⟨g,0,none⟩->g < w.heap.size):=fun g hg=>by
  have:=World.ownsRow.lt hown g (by rw [hg];rfl)
  exact this.2
 clear hown hL hE hH
 go_enter Tryz.func123,Tryz.ntmps123
 go_wp2_with fail
 go_loopw [12] (fun ii wr=>∃ i:Nat,i<=n/\ii= .int .i64 i/\Own1 wr B 2 (.slice a n c) ((List.range n).map (doneI E L i))/\Below B w wr/\wr.heap[w.heap.size]?=some (.cells zcells 37)) (fun ii _=>n - (intOf ii).toNat)
 case atStart=>exact ⟨0,Nat.zero_le _,rfl,HO0.out,HB0.out,HR0.out⟩
 case round =>
  obtain ⟨i,hi,rfl,hrow,hbl,hres⟩:=hrel
  have HROW:=Lib.hid hrow
  have HBL:=Lib.hid hbl
  have HRES:=Lib.hid hres
  clear hrow hbl hres HO0 HB0 HR0 HK0
  by_cases hlt:i < n
  ·obtain ⟨g,rfl,hg1,hg2⟩:=HROW.out.some_ (by omega)
   have hgw:=HLT.out g rfl
   have hcell:=own_cell HROW.out i hlt
   rw [doneI_at] at hcell
   have hz:=HL.out i hlt
   have hza:=hz.1
   have hzb:=hz.2
   have hstay:=HROW.out
   rw [HEID.out L i (i+1)] at hstay
   have HPUT:=Lib.hid hstay
   have HB2:=HBL
   have HR2:=HRES
   clear hstay hza hzb
   generalize L i=z at *
   go_wp2
   go_roundw
   case rel=>exact ⟨i+1,by omega,by go_num,HPUT.out,HB2.out,HR2.out⟩
   case measure=>simp [intOf];omega
  ·obtain rfl:i=n:=by omega
   have HRD:Hid (Reads1 wr (.slice a i c) (((List.range i).map fun j=>E (L j)).map (.int .i64))):=by
    have h:=HROW.out.reads
    rw [doneI_full] at h
    exact h
   have HIN:=Lib.hid (ints_any HRD.out (by simpa using hn) (fun x hx=>by
    obtain ⟨j,hj,rfl⟩:=List.mem_map.1 hx
    exact HE.out j (List.mem_range.1 hj)))
   clear HROW
   go_wp2_with fail
   refine HIN.out.mono ?_
   rintro e w5 ⟨u,rfl,ho,hb5⟩
   obtain ⟨uA,un,uc,rfl⟩:∃ A n c,u= .slice A n c:=by obtain ⟨a,c,e⟩:=ho.reads.len;exact ⟨a,_,c,e⟩
   have HZR:=Lib.hid HBL.out.size
   have HZ5:=Lib.hid hb5.size
   have HRL:=Lib.hid (lt_of_block HRES.out)
   have HR5:=Lib.hid (show w5.heap[w.heap.size]?=some (.cells zcells 37) by rw [hb5.block _ HRL.out];exact HRES.out)
   have HB5:=Lib.hid (HBL.out.trans (hb5.mono (by have:=HZR.out;omega)))
   have HHR:Hid (∀ b,(H b\/b=w.heap.size)->b < wr.heap.size):=fun b e=>by
    have h1:=HRL.out
    rcases e with e | e
    ·have:=HH.out b e;omega
    ·omega
   have HKV:Hid (Keeps (fun b=>H b\/b=w.heap.size) w5 (NumV (vecW 3 nilS 0 nilS (uA,un,uc) nilS nilS nilS) 3 i (fun j=>fi (E (L j))))) :=
    (Own1.keepsH ho HHR.out).imp fun W' h=>numV_ints ⟨⟨_,rfl,by rw [List.map_map] at h;exact h⟩,fun j hj=>HE.out j hj⟩
   have HKV6:=Lib.hid (HKV.out.step (bel1 w5 (.cells #[.int .i64 3,vnil,.int .i64 0,vnil,.slice uA un uc,vnil,vnil,vnil] 37)))
   have HSQ:=Lib.hid (squeeze_num (fun b=>H b\/b=w.heap.size) 3 nilS 0 nilS (uA,un,uc) nilS nilS nilS i _ (w5.alloc (.cells #[.int .i64 3,vnil,.int .i64 0,vnil,.slice uA un uc,vnil,vnil,vnil] 37)) (fun b e=>by
    have h1:=HHR.out b e
    have h2:=HZ5.out
    simp
    omega) hn HKV6.out)
   have HR6:=Lib.hid ((Below.heap_alloc w5 (.cells #[.int .i64 3,vnil,.int .i64 0,vnil,.slice uA un uc,vnil,vnil,vnil] 37) _ (lt_of_block HR5.out)).trans HR5.out)
   have HB6:=Lib.hid (HB5.out.alloc (by have:=HZ5.out;have:=HZR.out;omega) (.cells #[.int .i64 3,vnil,.int .i64 0,vnil,.slice uA un uc,vnil,vnil,vnil] 37))
   clear hb5 ho HKV HIN
   go_wp2_with fail
   refine HSQ.out.mono ?_
   rintro e w6 ⟨k5,b5,bn5,s5,i5,f5,c5,x5,rfl,hk5,hb6⟩
   have HK6:=Lib.hid (show w6.heap[w.heap.size]?=some (.cells zcells 37) by rw [hb6.block _ (lt_of_block HR6.out)];exact HR6.out)
   have HB7:=Lib.hid (HB6.out.trans (hb6.mono (by have:=HB6.out.size;omega)))
   have HKK:=Lib.hid hk5
   clear hb6 hk5
   have HKE:=Lib.hid ((HKK.out.set8 (.inr rfl) (.int .i64 k5) (.slice b5.1 b5.2.1 b5.2.2) (.int .i64 bn5) (.slice s5.1 s5.2.1 s5.2.2) (.slice i5.1 i5.2.1 i5.2.2) (.slice f5.1 f5.2.1 f5.2.2) (.slice c5.1 c5.2.1 c5.2.2) (.slice x5.1 x5.2.1 x5.2.2)).sub (H':=H) fun _ _ e => .inl e)
   have HBE:=Lib.hid (below_set8 HB7.out HBW.out (.int .i64 k5) (.slice b5.1 b5.2.1 b5.2.2) (.int .i64 bn5) (.slice s5.1 s5.2.1 s5.2.2) (.slice i5.1 i5.2.1 i5.2.2) (.slice f5.1 f5.2.1 f5.2.2) (.slice c5.1 c5.2.1 c5.2.2) (.slice x5.1 x5.2.1 x5.2.2))
   have HRE:=Lib.hid (set8_block HK6.out (.int .i64 k5) (.slice b5.1 b5.2.1 b5.2.2) (.int .i64 bn5) (.slice s5.1 s5.2.1 s5.2.2) (.slice i5.1 i5.2.1 i5.2.2) (.slice f5.1 f5.2.1 f5.2.2) (.slice c5.1 c5.2.1 c5.2.2) (.slice x5.1 x5.2.1 x5.2.2))
   obtain ⟨⟨h0,h1,h2,h3,h4,h5,h6,h7⟩,hz⟩:=boxed_of HK6.out
   go_wp2
   refine bodyPost_ret (v := .tuple #[vecW k5 b5 bn5 s5 i5 f5 c5 x5,.int .i64 0]) ?_ rfl (⟨k5,b5,bn5,s5,i5,f5,c5,x5,rfl,HKE.out,HBE.out⟩)
   exact ret_vec2 (fn:=Tryz.f123) (p:=4) (u:=5) rfl _ _ w.heap.size (by rfl) HRE.out
theorem mwholes_8 (H:Nat->Prop) (a:Option Addr) (c n B:Nat) (L:Nat->Int) (w:World) (hB:B<=w.heap.size) (hH:∀ b,H b->b < B) (hn:n<=1000000) (hown:Own1 w B 2 (.slice a n c) ((List.range n).map fun j => .int .i64 (L j))) (hL:∀ j,j < n->Good (L j)) (hE:∀ j,j < n->(L j=0\/L j=1)->Good ((fun z=>1 - z) (L j))) :
  Calls Tryz.prog 123 #[.int .i64 8,.slice a n c] w fun e w'=>((∀ j,j < n->L j=0\/L j=1)/\WoOut H B w (fun z=>1 - z) L n e w')\/((∃ j,j < n/\L j≠0/\L j≠1)/\e= .returned (.tuple #[vecV 0 vnil 0 vnil vnil vnil vnil vnil,.int .i64 24])/\Below B w w'):=by
 have HH:=Lib.hid hH
 have HBW:=Lib.hid hB
 have HL:=Lib.hid hL
 have HE:=Lib.hid hE
 obtain ⟨E,hE0⟩:∃ E:Int->Int,E=(fun z=>1 - z):=⟨_,rfl⟩
 have HEE:Hid (∀ z,E z=(fun z=>1 - z) z):=fun z=>by rw [hE0]
 rw [<- hE0] at HE ⊢
 clear hE0
 have HK0:=Lib.hid (block_up (bel1 (w.alloc (.cells zcells 37)) (.cells zcells 37)))
 have HR0:=Lib.hid (heap_alloc_new w (.cells zcells 37))
 have HB0:=Lib.hid ((bel1 w (.cells zcells 37)).mono hB)
 have HO0:Hid (Own1 (w.alloc (.cells zcells 37)) B 2 (.slice a n c) ((List.range n).map (doneI E L 0))):=by
  unfold Hid;rw [doneI_zero];exact hown.below (bel1 w _)
 have HLT:Hid (∀ g,a=some ⟨g,0,none⟩->g < w.heap.size):=fun g hg=>by
  have:=World.ownsRow.lt hown g (by rw [hg];rfl)
  exact this.2
 clear hown hL hE hH
 go_enter Tryz.func123,Tryz.ntmps123
 go_wp2_with fail
 go_loopw [12] (fun ii wr=>∃ i:Nat,i<=n/\ii= .int .i64 i/\Own1 wr B 2 (.slice a n c) ((List.range n).map (doneI E L i))/\Below B w wr/\wr.heap[w.heap.size]?=some (.cells zcells 37)/\∀ j,j < i->L j=0\/L j=1) (fun ii _=>n - (intOf ii).toNat)
 case atStart=>exact ⟨0,Nat.zero_le _,rfl,HO0.out,HB0.out,HR0.out,fun j hj=>absurd hj (Nat.not_lt_zero _)⟩
 case round =>
  obtain ⟨i,hi,rfl,hrow,hbl,hres,hall⟩:=hrel
  have HROW:=Lib.hid hrow
  have HBL:=Lib.hid hbl
  have HRES:=Lib.hid hres
  have HALL:=Lib.hid hall
  clear hrow hbl hres HO0 HB0 HR0 HK0 hall
  by_cases hlt:i < n
  ·obtain ⟨g,rfl,hg1,hg2⟩:=HROW.out.some_ (by omega)
   have hgw:=HLT.out g rfl
   have hcell:=own_cell HROW.out i hlt
   rw [doneI_at] at hcell
   have hz:=HL.out i hlt
   have hza:=hz.1
   have hzb:=hz.2
   by_cases h01:L i=0\/L i=1
   ·have HAL2:Hid (∀ j,j < i+1->L j=0\/L j=1):=fun j hj=>by
     by_cases e:j=i
     ·rw [e];exact h01
     ·exact HALL.out j (by omega)
    have hfz:=HROW.out.frz i
    have hput:=HROW.out.put hlt (.int .i64 (E (L i)))
    rw [doneI_succ] at hput
    have hEE:=HEE.out (L i)
    obtain ⟨y,hy⟩:∃ y,y=E (L i):=⟨_,rfl⟩
    rw [<- hy] at hput hEE
    have HPUT:=Lib.hid hput
    have HB2:=Lib.hid (HBL.out.setCell (p:=⟨g,i,none⟩) (by show _<=g;omega) (.int .i64 y))
    have HR2:=Lib.hid ((Below.heap_setCell wr ⟨g,i,none⟩ (.int .i64 y) w.heap.size (by show _≠g;omega)).trans HRES.out)
    clear hput hy
    generalize L i=z at *
    rcases h01 with rfl | rfl
    ·obtain rfl:y=1:=hEE
     go_wp2
     go_roundw
     case rel=>exact ⟨i+1,by omega,by go_num,HPUT.out,HB2.out,HR2.out,HAL2.out⟩
     case measure=>simp [intOf];omega
    ·obtain rfl:y=0:=hEE
     go_wp2
     go_roundw
     case rel=>exact ⟨i+1,by omega,by go_num,HPUT.out,HB2.out,HR2.out,HAL2.out⟩
     case measure=>simp [intOf];omega
   ·have HBAD:Hid (∃ j,j < n/\L j≠0/\L j≠1):=⟨i,hlt,fun e=>h01 (.inl e),fun e=>h01 (.inr e)⟩
    have n0:(L i != 0)=true:=by simp;exact fun e=>h01 (.inl e)
    have n1:(L i != 1)=true:=by simp;exact fun e=>h01 (.inr e)
    clear h01
    generalize L i=z at *
    obtain ⟨⟨h0,h1,h2,h3,h4,h5,h6,h7⟩,hz⟩:=boxed_of HRES.out
    go_wp2
    refine bodyPost_ret (v := .tuple #[vecV 0 vnil 0 vnil vnil vnil vnil vnil,.int .i64 24]) ?_ rfl (.inr ⟨HBAD.out,rfl,below_set8 HBL.out HBW.out _ _ _ _ _ _ _ _⟩)
    exact ret_vec2 (fn:=Tryz.f123) (p:=4) (u:=5) rfl _ _ w.heap.size (by rfl) (set8_block HRES.out _ _ _ _ _ _ _ _)
  ·obtain rfl:i=n:=by omega
   have HRD:Hid (Reads1 wr (.slice a i c) (((List.range i).map fun j=>E (L j)).map (.int .i64))):=by
    have h:=HROW.out.reads
    rw [doneI_full] at h
    exact h
   have HIN:=Lib.hid (ints_any HRD.out (by simpa using hn) (fun x hx=>by
    obtain ⟨j,hj,rfl⟩:=List.mem_map.1 hx
    exact HE.out j (List.mem_range.1 hj) (HALL.out j (List.mem_range.1 hj))))
   clear HROW
   go_wp2_with fail
   refine HIN.out.mono ?_
   rintro e w5 ⟨u,rfl,ho,hb5⟩
   obtain ⟨uA,un,uc,rfl⟩:∃ A n c,u= .slice A n c:=by obtain ⟨a,c,e⟩:=ho.reads.len;exact ⟨a,_,c,e⟩
   have HZR:=Lib.hid HBL.out.size
   have HZ5:=Lib.hid hb5.size
   have HRL:=Lib.hid (lt_of_block HRES.out)
   have HR5:=Lib.hid (show w5.heap[w.heap.size]?=some (.cells zcells 37) by rw [hb5.block _ HRL.out];exact HRES.out)
   have HB5:=Lib.hid (HBL.out.trans (hb5.mono (by have:=HZR.out;omega)))
   have HHR:Hid (∀ b,(H b\/b=w.heap.size)->b < wr.heap.size):=fun b e=>by
    have h1:=HRL.out
    rcases e with e | e
    ·have:=HH.out b e;omega
    ·omega
   have HKV:Hid (Keeps (fun b=>H b\/b=w.heap.size) w5 (NumV (vecW 3 nilS 0 nilS (uA,un,uc) nilS nilS nilS) 3 i (fun j=>fi (E (L j))))) :=
    (Own1.keepsH ho HHR.out).imp fun W' h=>numV_ints ⟨⟨_,rfl,by rw [List.map_map] at h;exact h⟩,fun j hj=>HE.out j hj (HALL.out j hj)⟩
   have HKV6:=Lib.hid (HKV.out.step (bel1 w5 (.cells #[.int .i64 3,vnil,.int .i64 0,vnil,.slice uA un uc,vnil,vnil,vnil] 37)))
   have HSQ:=Lib.hid (squeeze_num (fun b=>H b\/b=w.heap.size) 3 nilS 0 nilS (uA,un,uc) nilS nilS nilS i _ (w5.alloc (.cells #[.int .i64 3,vnil,.int .i64 0,vnil,.slice uA un uc,vnil,vnil,vnil] 37)) (fun b e=>by
    have h1:=HHR.out b e
    have h2:=HZ5.out
    simp
    omega) hn HKV6.out)
   have HR6:=Lib.hid ((Below.heap_alloc w5 (.cells #[.int .i64 3,vnil,.int .i64 0,vnil,.slice uA un uc,vnil,vnil,vnil] 37) _ (lt_of_block HR5.out)).trans HR5.out)
   have HB6:=Lib.hid (HB5.out.alloc (by have:=HZ5.out;have:=HZR.out;omega) (.cells #[.int .i64 3,vnil,.int .i64 0,vnil,.slice uA un uc,vnil,vnil,vnil] 37))
   clear hb5 ho HKV HIN
   go_wp2_with fail
   refine HSQ.out.mono ?_
   rintro e w6 ⟨k5,b5,bn5,s5,i5,f5,c5,x5,rfl,hk5,hb6⟩
   have HK6:=Lib.hid (show w6.heap[w.heap.size]?=some (.cells zcells 37) by rw [hb6.block _ (lt_of_block HR6.out)];exact HR6.out)
   have HB7:=Lib.hid (HB6.out.trans (hb6.mono (by have:=HB6.out.size;omega)))
   have HKK:=Lib.hid hk5
   clear hb6 hk5
   have HKE:=Lib.hid ((HKK.out.set8 (.inr rfl) (.int .i64 k5) (.slice b5.1 b5.2.1 b5.2.2) (.int .i64 bn5) (.slice s5.1 s5.2.1 s5.2.2) (.slice i5.1 i5.2.1 i5.2.2) (.slice f5.1 f5.2.1 f5.2.2) (.slice c5.1 c5.2.1 c5.2.2) (.slice x5.1 x5.2.1 x5.2.2)).sub (H':=H) fun _ _ e => .inl e)
   have HBE:=Lib.hid (below_set8 HB7.out HBW.out (.int .i64 k5) (.slice b5.1 b5.2.1 b5.2.2) (.int .i64 bn5) (.slice s5.1 s5.2.1 s5.2.2) (.slice i5.1 i5.2.1 i5.2.2) (.slice f5.1 f5.2.1 f5.2.2) (.slice c5.1 c5.2.1 c5.2.2) (.slice x5.1 x5.2.1 x5.2.2))
   have HRE:=Lib.hid (set8_block HK6.out (.int .i64 k5) (.slice b5.1 b5.2.1 b5.2.2) (.int .i64 bn5) (.slice s5.1 s5.2.1 s5.2.2) (.slice i5.1 i5.2.1 i5.2.2) (.slice f5.1 f5.2.1 f5.2.2) (.slice c5.1 c5.2.1 c5.2.2) (.slice x5.1 x5.2.1 x5.2.2))
   obtain ⟨⟨h0,h1,h2,h3,h4,h5,h6,h7⟩,hz⟩:=boxed_of HK6.out
   go_wp2
   refine bodyPost_ret (v := .tuple #[vecW k5 b5 bn5 s5 i5 f5 c5 x5,.int .i64 0]) ?_ rfl (.inl ⟨HALL.out,⟨k5,b5,bn5,s5,i5,f5,c5,x5,rfl,HKE.out,HBE.out⟩⟩)
   exact ret_vec2 (fn:=Tryz.f123) (p:=4) (u:=5) rfl _ _ w.heap.size (by rfl) HRE.out
end Go.Proofs.YtiahegjdkejjpaaGreatDoor
