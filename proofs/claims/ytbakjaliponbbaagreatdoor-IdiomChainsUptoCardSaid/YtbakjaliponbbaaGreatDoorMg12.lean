/- A row of arrays that a call made, written place by place. Words for the walk of value.of. What an array's Vec tells: class and length; value.Single. The walks .. Conditions: as each theorem says. -/
import Derived.Test.YtbakjaliponbbaaGreatDoorMg09
import Derived.Test.YtbakjaliponbbaaGreatDoorMg11
import Derived.Test.YtbakjaliponbbaaGreatDoorMg06
import Derived.Test.YtbakjaliponbbaaGreatDoorMg07
import Derived.Test.YtbakjaliponbbaaGreatDoorMg02
import Derived.Deep.RegionHeld3
import Derived.Deep.CutRange
import Derived.Test.YtbakjaliponbbaaGreatDoorMg03
import Derived.Test.YtbakjaliponbbaaGreatDoorMg04
set_option maxRecDepth 100000
set_option maxHeartbeats 1000000
namespace Go.Proofs.YtbakjaliponbbaaGreatDoor
open Go Go.RowKit Go.Proofs Fl
abbrev set9o (w:World) (G o:Nat) (a0 a1 a2 a3 a4 a5 a6 a7 a8:Value):World:=((((((((w.setCell ⟨G,o,none⟩ a0).setCell ⟨G,o+1,none⟩ a1).setCell ⟨G,o+2,none⟩ a2).setCell ⟨G,o+3,none⟩ a3).setCell ⟨G,o+4,none⟩ a4).setCell ⟨G,o+5,none⟩ a5).setCell ⟨G,o+6,none⟩ a6).setCell ⟨G,o+7,none⟩ a7).setCell ⟨G,o+8,none⟩ a8
abbrev arr9 (cs:Array Value) (o:Nat) (a0 a1 a2 a3 a4 a5 a6 a7 a8:Value):Array Value:=((((((((cs.setIfInBounds o a0).setIfInBounds (o+1) a1).setIfInBounds (o+2) a2).setIfInBounds (o+3) a3).setIfInBounds (o+4) a4).setIfInBounds (o+5) a5).setIfInBounds (o+6) a6).setIfInBounds (o+7) a7).setIfInBounds (o+8) a8
theorem set9o_block {w:World}{G o:Nat}{cs:Array Value}{e:TypeId} (h:w.heap[G]?=some (.cells cs e)) (a0 a1 a2 a3 a4 a5 a6 a7 a8:Value) :
  (set9o w G o a0 a1 a2 a3 a4 a5 a6 a7 a8).heap[G]?=some (.cells (arr9 cs o a0 a1 a2 a3 a4 a5 a6 a7 a8) e):=heap_setCell_same _ G (o+8) _ e a8 (heap_setCell_same _ G (o+7) _ e a7 (heap_setCell_same _ G (o+6) _ e a6 (heap_setCell_same _ G (o+5) _ e a5 (heap_setCell_same _ G (o+4) _ e a4 (heap_setCell_same _ G (o+3) _ e a3 (heap_setCell_same _ G (o+2) _ e a2 (heap_setCell_same _ G (o+1) _ e a1 (heap_setCell_same _ G (o) _ e a0 h))))))))
theorem arr9_size (cs:Array Value) (o:Nat) (a0 a1 a2 a3 a4 a5 a6 a7 a8:Value):(arr9 cs o a0 a1 a2 a3 a4 a5 a6 a7 a8).size=cs.size:=by simp
theorem arr9_off (cs:Array Value) (o p:Nat) (h:p < o\/o+9<=p) (a0 a1 a2 a3 a4 a5 a6 a7 a8:Value):(arr9 cs o a0 a1 a2 a3 a4 a5 a6 a7 a8)[p]?=cs[p]?:=by
 rw [Array.getElem?_setIfInBounds_ne (by omega),Array.getElem?_setIfInBounds_ne (by omega),Array.getElem?_setIfInBounds_ne (by omega),Array.getElem?_setIfInBounds_ne (by omega),Array.getElem?_setIfInBounds_ne (by omega),Array.getElem?_setIfInBounds_ne (by omega),Array.getElem?_setIfInBounds_ne (by omega),Array.getElem?_setIfInBounds_ne (by omega),Array.getElem?_setIfInBounds_ne (by omega)]
theorem arr9_on (cs:Array Value) (o:Nat) (h:o+9<=cs.size) (a0 a1 a2 a3 a4 a5 a6 a7 a8:Value) :
  (arr9 cs o a0 a1 a2 a3 a4 a5 a6 a7 a8)[o]?=some a0/\(arr9 cs o a0 a1 a2 a3 a4 a5 a6 a7 a8)[o+1]?=some a1/\(arr9 cs o a0 a1 a2 a3 a4 a5 a6 a7 a8)[o+2]?=some a2/\(arr9 cs o a0 a1 a2 a3 a4 a5 a6 a7 a8)[o+3]?=some a3/\(arr9 cs o a0 a1 a2 a3 a4 a5 a6 a7 a8)[o+4]?=some a4/\(arr9 cs o a0 a1 a2 a3 a4 a5 a6 a7 a8)[o+5]?=some a5/\(arr9 cs o a0 a1 a2 a3 a4 a5 a6 a7 a8)[o+6]?=some a6/\(arr9 cs o a0 a1 a2 a3 a4 a5 a6 a7 a8)[o+7]?=some a7/\(arr9 cs o a0 a1 a2 a3 a4 a5 a6 a7 a8)[o+8]?=some a8:=by
 refine ⟨?_,?_,?_,?_,?_,?_,?_,?_,?_⟩ <;>
 ·repeat rw [Array.getElem?_setIfInBounds_ne (by omega)]
  exact Array.getElem?_setIfInBounds_self_of_lt (by first | omega | (simp;omega))
def NIs (cs:Array Value) (o:Nat) (h:Sl) (p:V8):Prop :=
 cs[o]?=some (sv h)/\cs[o+1]?=some (.int .i64 p.k)/\cs[o+2]?=some (sv p.b)/\cs[o+3]?=some (.int .i64 p.bn)/\cs[o+4]?=some (sv p.s)/\cs[o+5]?=some (sv p.i)/\cs[o+6]?=some (sv p.f)/\cs[o+7]?=some (sv p.c)/\cs[o+8]?=some (sv p.x)
def ARow (w:World) (g m:Nat) (hh:Nat->Sl) (pp:Nat->V8):Prop :=
 ∃ cs,w.heap[g]?=some (.cells cs 59)/\m*9<=cs.size/\∀ j,j < m->NIs cs (j*9) (hh j) (pp j)
theorem ARow.lt {w:World}{g m:Nat}{hh:Nat->Sl}{pp:Nat->V8} (h:ARow w g m hh pp):g < w.heap.size:=by
 obtain ⟨cs,hg,_⟩:=h
 rcases Nat.lt_or_ge g w.heap.size with h | h
 ·exact h
 ·rw [Array.getElem?_eq_none h] at hg;cases hg
theorem ARow.at_ {w:World}{g m:Nat}{hh:Nat->Sl}{pp:Nat->V8} (h:ARow w g m hh pp) (i:Nat) (hi:i < m):At9 w g (i*9) (hh i) (pp i)/\∀ j,w.frozen? ⟨g,j,none⟩=false:=by
 obtain ⟨cs,hg,_,h1⟩:=h
 obtain ⟨c0,c1,c2,c3,c4,c5,c6,c7,c8⟩:=h1 i hi
 have k:∀ j u,cs[j]?=some u->w.cell? ⟨g,j,none⟩=some u:=fun j u hu=>by rw [cell_of_row _ g j _ _ (0,0) hg];exact hu
 exact ⟨⟨k _ _ c0,k _ _ c1,k _ _ c2,k _ _ c3,k _ _ c4,k _ _ c5,k _ _ c6,k _ _ c7,k _ _ c8⟩,fun j=>frozen_of_row _ _ j _ _ hg⟩
theorem ARow.below {w w':World}{g m:Nat}{hh:Nat->Sl}{pp:Nat->V8} (h:ARow w g m hh pp) (hb:Below w.heap.size w w'):ARow w' g m hh pp:=by
 have hlt:=h.lt
 obtain ⟨cs,hg,r⟩:=h
 exact ⟨cs,by rw [hb.block _ hlt];exact hg,r⟩
theorem ARow.put {w:World}{g m i:Nat}{hh:Nat->Sl}{pp:Nat->V8} (h:ARow w g m hh pp) (hi:i < m) (h':Sl) (p':V8) :
  ARow (set9o w g (i*9) (sv h') (.int .i64 p'.k) (sv p'.b) (.int .i64 p'.bn) (sv p'.s) (sv p'.i) (sv p'.f) (sv p'.c) (sv p'.x)) g m (fun j=>if j=i then h' else hh j) (fun j=>if j=i then p' else pp j):=by
 obtain ⟨cs,hg,hs,h1⟩:=h
 refine ⟨_,set9o_block hg _ _ _ _ _ _ _ _ _,by rw [arr9_size];exact hs,fun j hj=>?_⟩
 by_cases e:j=i
 ·subst e
  dsimp only
  rw [if_pos rfl,if_pos rfl]
  exact arr9_on cs (j*9) (by omega) _ _ _ _ _ _ _ _ _
 ·obtain ⟨c0,c1,c2,c3,c4,c5,c6,c7,c8⟩:=h1 j hj
  dsimp only
  rw [if_neg e,if_neg e]
  unfold NIs
  rw [arr9_off _ _ _ (by omega),arr9_off _ _ _ (by omega),arr9_off _ _ _ (by omega),arr9_off _ _ _ (by omega),arr9_off _ _ _ (by omega),arr9_off _ _ _ (by omega),arr9_off _ _ _ (by omega),arr9_off _ _ _ (by omega),arr9_off _ _ _ (by omega)]
  exact ⟨c0,c1,c2,c3,c4,c5,c6,c7,c8⟩
theorem ARow.congr {w:World}{g m:Nat}{hh hh':Nat->Sl}{pp pp':Nat->V8} (h:ARow w g m hh pp) (e:∀ j,j < m->hh' j=hh j/\pp' j=pp j):ARow w g m hh' pp':=by
 obtain ⟨cs,hg,hs,h1⟩:=h
 exact ⟨cs,hg,hs,fun j hj=>by rw [(e j hj).1,(e j hj).2];exact h1 j hj⟩
abbrev zeroL:Array Value:=#[.slice none 0 0,.int .i64 0,.slice none 0 0,.int .i64 0,.slice none 0 0,.slice none 0 0,.slice none 0 0,.slice none 0 0,.slice none 0 0]
theorem made_at9 (m j k:Nat) (hj:j < m) (hk:k < 9):(madeCells zeroL (m*9))[j*9+k]?=zeroL[k]?:=by
 have h1:j*9+k < m*9:=by omega
 have h2:(j*9+k) % 9=k:=by omega
 have h3:zeroL.size=9:=rfl
 simp [madeCells,h1,h3,h2]
 match k,hk with
 | 0,_=>rfl
 | 1,_=>rfl
 | 2,_=>rfl
 | 3,_=>rfl
 | 4,_=>rfl
 | 5,_=>rfl
 | 6,_=>rfl
 | 7,_=>rfl
 | 8,_=>rfl
theorem ARow.made (w:World) (m:Nat):ARow (w.alloc (.cells (madeCells zeroL (m*9)) 59)) w.heap.size m (fun _=>nilS) (fun _=>zeroP):=by
 refine ⟨_,heap_alloc_new w _,by rw [size_madeCells];exact Nat.le_refl _,fun j hj=>?_⟩
 have h:=fun k hk=>made_at9 m j k hj hk
 exact ⟨h 0 (by omega),h 1 (by omega),h 2 (by omega),h 3 (by omega),h 4 (by omega),h 5 (by omega),h 6 (by omega),h 7 (by omega),h 8 (by omega)⟩
theorem AOwn.row {H:Nat->Prop}{w:World}{B:Nat}{v:Value}{l:List PA} (h:AOwn H w B v l) (hne:l≠[]) :
  ∃ g c hh pp,v= .slice (some ⟨g,0,none⟩) l.length c/\B<=g/\ARow w g l.length hh pp/\∀ i (hi:i < l.length),AV (fun b=>H b\/g=b) w l[i] (hh i) (pp i):=by
 obtain ⟨hh,pp,hown,ha⟩:=h
 rcases hown.2 with ⟨rfl,h0⟩ | ⟨g,cap,cur,rfl,hbg,hg,hnc,hcm,hcs,htake⟩
 ·exact absurd (List.eq_nil_of_length_eq_zero h0) hne
 ·refine ⟨g,cap,hh,pp,rfl,hbg,⟨cur,hg,?_,fun j hj=>?_⟩,fun i hi=>AV.sub (fun b _ e=>by
   rcases e with e | e
   ·exact .inl e
   ·exact .inr (by rw [<- e];rfl)) (ha i hi)⟩
  ·have:=congrArg List.length htake
   rw [flatA_len,List.length_take] at this
   simp at this
   omega
  ·have hk:∀ k u,k < 9->(arrL (hh j) (pp j))[k]?=some u->cur[j*9+k]?=some u:=fun k u hk hu=>by
    have h1:(flatA l.length hh pp)[j*9+k]?=some u:=by rw [flatA_get _ _ _ _ _ hj hk];exact hu
    rw [<- htake] at h1
    rw [List.getElem?_take] at h1
    split at h1
    ·rw [Array.getElem?_toList] at h1;exact h1
    ·cases h1
   exact ⟨hk 0 _ (by decide) rfl,hk 1 _ (by decide) rfl,hk 2 _ (by decide) rfl,hk 3 _ (by decide) rfl,hk 4 _ (by decide) rfl,hk 5 _ (by decide) rfl,hk 6 _ (by decide) rfl,hk 7 _ (by decide) rfl,hk 8 _ (by decide) rfl⟩
theorem ARow.asl {H:Nat->Prop}{w:World}{g m:Nat}{hh:Nat->Sl}{pp:Nat->V8} (h:ARow w g m hh pp) (hn:¬ H g) (l:List PA) (hl:m=l.length) (ha:∀ i (hi:i < l.length),AV H w l[i] (hh i) (pp i)) (c:Nat):ASl H w (some ⟨g,0,none⟩,m,c) l :=
 ⟨hl,.inr ⟨g,0,rfl,hn,avs_of _ _ fun i hi=>⟨hh i,pp i,by have:=(h.at_ i (by omega)).1;rwa [Nat.zero_add],ha i hi⟩⟩⟩
end Go.Proofs.YtbakjaliponbbaaGreatDoor
namespace Go.Proofs.YtbakjaliponbbaaGreatDoor
open Go Go.RowKit Go.Proofs Fl Go.Shelf Go.Lib
def AvR (H:Nat->Prop) (w:World) (a:PA) (e:Ending) (w':World):Prop:=∃ h p,e= .returned (.tuple #[arrV h p,.int .i64 0])/\AV H w' a h p/\Below w.heap.size w w'
theorem info_clI:(Tryz.prog.info? 3).map (fun i=>(i.zero,i.size,i.bytes))=some (some (.int .i64 0),1,8):=by kernel_rfl
def clI_ren:Go.Shelf.Ren:=⟨fun | 41=>134 | n=>n,fun | 22=>41 | 23=>3 | 4=>4 | n=>n,fun n=>n⟩
theorem clI_lays:SlLaysE0.n41 Tryz.prog clI_ren where
 mixed:=by kernel_rfl
 f41 := ⟨"slices.Clone[[]int,int]", by decide, Tryz.func134.trans (congrArg some (by kernel_rfl))⟩
 t4:=Tryz.underlying4
 a4:=Tryz.isAgg4
 z4:=Tryz.sizeOf4
 v4:=Tryz.zeroValue4
 t22:=Tryz.underlying41
 a22:=Tryz.isAgg41
 z22:=Tryz.sizeOf41
 v22:=Tryz.zeroValue41
theorem clI_any {w:World}{v:Value}{xs:List Value} (h:Reads1 w v xs) (hl:xs.length*8<=140737488355328) (h1:∀ u∈xs,u.oneCell'=true) :
  Calls Tryz.prog 134 #[v] w fun e w'=>∃ v',e= .returned v'/\Own1 w' w.heap.size 3 v' xs/\Below w.heap.size w w' :=
 clone_reads clI_lays (.int .i64 0) 8 info_clI rfl Tryz.sizeOf3 h (by omega) (by omega) h1
theorem clSh_any {H:Nat->Prop}{w:World}{h:Sl}{s:List Nat} (g:ShV H w h s) (hl:s.length<=1048576) (hH:∀ b,H b->b < w.heap.size) :
  Calls Tryz.prog 134 #[sv h] w fun e w'=>∃ A n c,e= .returned (.slice A n c)/\ShV H w' (A,n,c) s/\Below w.heap.size w w':=by
 refine (clI_any g.now (by rw [List.length_map];omega) (by intro u hu;obtain ⟨z,_,rfl⟩:=List.mem_map.1 hu;rfl)).mono ?_
 rintro e w' ⟨v',rfl,ho,hb⟩
 obtain ⟨a,c,rfl⟩:=ho.reads.len
 exact ⟨a,_,c,rfl,ho.keepsH hH,hb⟩
theorem wpList_push1' {ops:Array Oper}{rest:List Oper}{o:Oper}{a:Act}{Q:Exit->Act->World->Prop}{w:World} (hgd:o.guard=none) (s x:Operand) (t e:TypeId)
  (ho:o.op= .call { callee := .builtin .append,args:=#[s,x],argTypes:=#[t,t]}) (ht:Tryz.prog.underlying t=some (.slice e)) (z:Value) (bytes:Nat)
  (hinfo:(Tryz.prog.info? e).map (fun i=>(i.zero,i.size,i.bytes))=some (some z,1,bytes)) (hz:z.cells.size=1)
  (B:Nat) (v:Value) (xs:List Value) (hs:a.eval s=v) (hown:Own1 w B e v xs) (c:Value) (hc1:c.oneCell'=true)
  (G:Nat) (hG:G=w.heap.size) (hx:a.eval x= .slice (some ⟨G,0,none⟩) 1 1) (hl:(xs.length+1)*bytes<=140737488355328) (hl2:xs.length+1<=140737488355328) (hB:B<=w.heap.size)
  (h:∀ v' w',Own1 w' B e v' (xs++[c])->(∀ w0,Below B w0 w->Below B w0 w')->wpList Tryz.prog ops Q rest (a.put o.dst v') w'):wpList Tryz.prog ops Q (o::rest) a (w.alloc (.cells #[c] e)):=by
 subst hG
 exact wpList_push1 hgd s x t e ho ht z bytes hinfo hz B v xs hs hown c hc1 hx hl hl2 hB fun v' w' h1 h2 _ _=>h v' w' h1 h2
theorem Lat.set9 {H:Nat->Prop}{w:World}{G:Nat} (hG:H G) (a0 a1 a2 a3 a4 a5 a6 a7 a8:Value):Lat H w (set9 w G a0 a1 a2 a3 a4 a5 a6 a7 a8) :=
 (((((((((Lat.set (a:=⟨G,0,none⟩) hG a0).trans (Lat.set (a:=⟨G,1,none⟩) hG a1)).trans (Lat.set (a:=⟨G,2,none⟩) hG a2)).trans (Lat.set (a:=⟨G,3,none⟩) hG a3)).trans (Lat.set (a:=⟨G,4,none⟩) hG a4)).trans (Lat.set (a:=⟨G,5,none⟩) hG a5)).trans (Lat.set (a:=⟨G,6,none⟩) hG a6)).trans (Lat.set (a:=⟨G,7,none⟩) hG a7)).trans (Lat.set (a:=⟨G,8,none⟩) hG a8))
structure OfI (w:World) (h x:Sl) (f:Int) (W:World):Prop where
 res:W.heap[w.heap.size+1]?=some (.cells zeroL 59)
 arg:At3 W w.heap.size 0 h x f
 bel:Below w.heap.size w W
theorem OfI.step {w W W':World}{h x:Sl}{f:Int} (g:OfI w h x f W) (hb:Below W.heap.size W W'):OfI w h x f W' :=
 ⟨by rw [hb.block _ (lt_blk g.res)];exact g.res,g.arg.of fun j=>hb.cell (p:=⟨w.heap.size,j,none⟩) g.arg.lt,bel_both g.bel hb⟩
theorem OfI.more {w W W':World}{h x:Sl}{f:Int} (g:OfI w h x f W) (hb:Below (w.heap.size+2) W W'):OfI w h x f W' :=
 ⟨by rw [hb.block _ (by omega)];exact g.res,g.arg.of fun j=>hb.cell (p:=⟨w.heap.size,j,none⟩) (by show w.heap.size < _;omega),g.bel.trans (hb.mono (by omega))⟩
theorem OfI.sz {w W:World}{h x:Sl}{f:Int} (g:OfI w h x f W):w.heap.size+2<=W.heap.size:=lt_blk g.res
theorem OfI.new (w:World) (h x:Sl) (f:Int):OfI w h x f ((w.alloc (.cells #[sv h,sv x,.int .i64 f] 44)).alloc (.cells zeroL 59)):=by
 have h2:=heap_alloc_new (w.alloc (.cells #[sv h,sv x,.int .i64 f] 44)) (.cells zeroL 59)
 have s1:(w.alloc (.cells #[sv h,sv x,.int .i64 f] 44)).heap.size=w.heap.size+1:=by simp
 rw [s1] at h2
 have h3:=at3_new w h x f 44
 exact ⟨h2,h3.of fun j=>(bel1 _ _).cell (p:=⟨w.heap.size,j,none⟩) h3.lt,bel2 w _ _⟩
theorem zero_block {W:World}{G:Nat}{e:TypeId} (h:W.heap[G]?=some (.cells zeroL e)):At9 W G 0 nilS zeroP/\∀ j,W.frozen? ⟨G,j,none⟩=false:=at9_of (h:=nilS) (p:=zeroP) h
theorem tidF_zero:tidF 0=0:=by decide+kernel
theorem tid_getD (items:List RI):(fun j=>tidF ((items.map RI.numOf).getD j 0))=fun j=>(items.map fun t=>tidF t.numOf).getD j 0:=by
 funext j
 by_cases h:j < items.length
 ·simp [List.getD,h]
 ·simp [List.getD,h,tidF_zero]
theorem av_nums {H:Nat->Prop}{W:World}{sn:List Nat}{items:List RI}{hd:Sl}{p:V8}{m:Nat} (hm:m=items.length) (hs:ShV H W hd sn)
  (hk:Keeps H W (NumV p.v (leastF (fun j=>tidF ((items.map RI.numOf).getD j 0)) m:Nat) m (fun j=>tidF ((items.map RI.numOf).getD j 0)))):AV H W (clP (.mk (sn.map Int.ofNat) items 0)) hd p:=by
 have e:=hk.now.kindEq
 rw [clP,toNat_of,if_pos rfl,AV]
 subst hm
 rw [tid_getD] at hk e
 refine ⟨hs,.inl ⟨?_,?_⟩⟩
 ·rw [List.length_map]
  rw [<- e] at hk
  exact hk
 ·rw [List.length_map]
  exact e
theorem av_chars {H:Nat->Prop}{W:World}{sn:List Nat}{items:List RI}{hd c:Sl} (hs:ShV H W hd sn) (hk:RdH H W (sv c) ((items.map RI.charOf).map (Value.int .i32))):AV H W (clP (.mk (sn.map Int.ofNat) items 1)) hd (charsP c):=by
 rw [clP,toNat_of,if_neg (by decide),if_pos rfl,AV]
 exact ⟨hs,c,rfl,hk⟩
end Go.Proofs.YtbakjaliponbbaaGreatDoor
namespace Go.Proofs.YtbakjaliponbbaaGreatDoor
open Go Go.RowKit Go.Proofs Fl
theorem av_class {H:Nat->Prop}{w:World}{a:PA}{h:Sl}{p:V8} (g:AV H w a h p) (W:World) (hb:Below w.heap.size w W) :
  Calls Tryz.prog 135 #[p.v] W fun e w'=>e= .returned (.int .i64 (a.fill:Nat))/\Below W.heap.size W w':=by
 cases a with
 | nums s l =>
  rcases g.nums with h | ⟨rfl,rfl⟩
  ·exact (Keeps.lat h.num (Lat.below hb)).now.cls
  ·exact class_1 _ _ _ _ _ _ _ W
 | chars s l =>
  obtain ⟨c,rfl,_⟩:=g.chars
  exact class_5 _ _ _ _ _ _ _ W
 | boxes s l =>
  obtain ⟨A,n,c,rfl,_⟩:=g.boxes
  exact class_6 _ _ _ _ _ _ _ W
theorem av_len {H:Nat->Prop}{w:World}{a:PA}{h:Sl}{p:V8} (g:AV H w a h p) (W:World) (hb:Below w.heap.size w W) :
  Calls Tryz.prog 48 #[p.v] W fun e w'=>e= .returned (.int .i64 (a.len:Nat))/\Below W.heap.size W w':=by
 cases a with
 | nums s l =>
  rcases g.nums with h | ⟨rfl,rfl⟩
  ·exact (Keeps.lat h.num (Lat.below hb)).now.len
  ·exact len_1 _ _ _ _ _ _ _ W
 | chars s l =>
  obtain ⟨c,rfl,hr⟩:=g.chars
  have e:c.2.1=l.length:=by
   obtain ⟨x,y,e⟩:=RdH.len hr
   unfold sv at e
   injection e with _ e _
   simpa using e
  have h1:=len_5 vnil 0 vnil vnil vnil vnil c.1 c.2.1 c.2.2 W
  rw [e] at h1
  have h2:(charsP c).v=vecV 5 vnil 0 vnil vnil vnil (.slice c.1 l.length c.2.2) vnil:=by rw [<- e]
  rw [h2]
  exact h1
 | boxes s l =>
  obtain ⟨A,n,c,rfl,rfl,_⟩:=g.boxes
  exact len_6 vnil 0 vnil vnil vnil vnil A l.length c W
theorem single_any {H:Nat->Prop}{w:World}{a:PA}{h:Sl}{p:V8} (g:AV H w a h p) :
  Calls Tryz.prog 199 #[arrV h p] w fun e w'=>e= .returned (.bool ((a.len:Int)==1))/\Below w.heap.size w w':=by
 have HB:=Lib.hid (bel1 w (arrO h p))
 have HL:=Lib.hid (av_len g _ HB.out)
 generalize a.len=n at HL
 clear g
 go_enter Tryz.func199,Tryz.ntmps199
 go_wp2_with fail
 refine HL.out.mono ?_
 rintro e w1 ⟨rfl,hb⟩
 have HB1:=Lib.hid (bel_both HB.out hb)
 clear hb
 go_wp2
 go_ret
 exact ⟨rfl,HB1.out⟩
theorem av_num {H:Nat->Prop}{w:World}{s l:List Nat}{h:Sl}{p:V8} (g:AV H w (.nums s l) h p) (W:World) (hb:Below w.heap.size w W) (i:Nat) (hi:i < l.length) :
  Calls Tryz.prog 138 #[p.v,.int .i64 (i:Nat)] W fun e w'=>e= .returned (.float .f64 (l.getD i 0))/\Below W.heap.size W w':=by
 rcases g.nums with h | ⟨rfl,_⟩
 ·exact (Keeps.lat h.num (Lat.below hb)).now.num i hi
 ·exact absurd hi (Nat.not_lt_zero _)
theorem least_cls (k:Int) (b:Value) (bn:Int) (s i f c x:Value) (z:Int) (hz:z≠0) (w:World)
  (hc:∀ W,Calls Tryz.prog 135 #[vecV k b bn s i f c x] W fun e w'=>e= .returned (.int .i64 z)/\Below W.heap.size W w') :
  Calls Tryz.prog 195 #[vecV k b bn s i f c x] w fun e w'=>e= .returned (.int .i64 k)/\Below w.heap.size w w':=by
 have HC:=Lib.hid hc
 have HK:=Lib.hid (fun W=>vkind_any k b bn s i f c x W)
 have hz2:(z != 0)=true:=by simpa using hz
 clear hc hz
 go_enter Tryz.func195,Tryz.ntmps195
 go_wp2_with fail
 refine (HC.out _).mono ?_
 rintro e w1 ⟨rfl,hb1⟩
 have HB1:=Lib.hid (bel_both (bel1 w _) hb1)
 obtain ⟨h0,h1,h2,h3,h4,h5,h6,h7⟩:=(boxed_new w 57 k b bn s i f c x).below hb1
 clear hb1
 go_wp2_with fail
 refine (HK.out _).mono ?_
 rintro e w2 ⟨rfl,hb2⟩
 have HB2:=Lib.hid (bel_both HB1.out hb2)
 clear hb2 h0 h1 h2 h3 h4 h5 h6 h7
 go_wp2
 go_ret
 exact ⟨rfl,HB2.out⟩
theorem tight_cls (k:Int) (b:Value) (bn:Int) (s i f c x:Value) (z:Int) (hz:z≠0) (w:World)
  (hc:∀ W,Calls Tryz.prog 135 #[vecV k b bn s i f c x] W fun e w'=>e= .returned (.int .i64 z)/\Below W.heap.size W w') :
  Calls Tryz.prog 180 #[vecV k b bn s i f c x] w fun e w'=>e= .returned (.bool true)/\Below w.heap.size w w':=by
 have HC:=Lib.hid (fun W=>vkind_any k b bn s i f c x W)
 have HL:=Lib.hid (fun W=>least_cls k b bn s i f c x z hz W hc)
 have hkk:(k==k)=true:=by simp
 clear hc hz
 go_enter Tryz.func180,Tryz.ntmps180
 go_wp2_with fail
 go_region_with (first
  | (go_at_call 52;go_loud ((refine (HC.out _).mono ?_);rintro e w1 ⟨rfl,hb1⟩);obtain ⟨hc1,hf1⟩:=bcell2 hb1;have hz1:=hb1.size)
  | (go_at_call 195;go_loud ((refine (HL.out _).mono ?_);rintro e w2 ⟨rfl,hb2⟩);obtain ⟨hc2,hf2⟩:=bcell2 hb2;have hz2:=hb2.size))
 all_goals
  go_wp2
  go_ret
  exact ⟨rfl,bel_both (bel_both (bel1 w _).drew hb1) hb2⟩
theorem pack_top {n:Nat}{l:Nat->Bool}{r:Nat} (hr:r=n % 64) (hr0:r≠0):(packW l n ((n+63) / 64 - 1)) / 2 ^ r=0:=by
 have h:(packW l n ((n+63) / 64 - 1)) < 2 ^ r:=by
  refine Nat.lt_pow_two_of_testBit _ fun i hi=>?_
  by_cases h64:i < 64
  ·rw [packW_bit _ _ _ _ h64]
   simp only [Bool.and_eq_false_imp,decide_eq_true_eq]
   omega
  ·exact Nat.testBit_lt_two_pow (Nat.lt_of_lt_of_le (packW_lt l n _) (by
    have h2:(18446744073709551616:Nat)=2 ^ 64:=by decide
    rw [h2]
    exact Nat.pow_le_pow_right (n:=2) (by decide) (by omega)))
 exact Nat.div_eq_of_lt h
theorem btidy_any {w:World}{v:Value}{n:Nat}{l:Nat->Bool} (hb:BitsIn w v n l) (hn:n<=1000000) :
  Calls Tryz.prog 182 #[v] w fun e w'=>e= .returned (.bool true)/\Below w.heap.size w w':=by
 obtain ⟨b,o,c,rfl,hc⟩:=hb
 obtain ⟨M,hM⟩:∃ M,M=(n+63) / 64:=⟨_,rfl⟩
 obtain ⟨r,hr⟩:∃ r,r=n % 64:=⟨_,rfl⟩
 have HB:=Lib.hid (bel1 w (.cells #[.slice (some ⟨b,o,none⟩) M c,.int .i64 (n:Int)] 52))
 have hq:((n:Int)+63) / 64=(M:Int):=by omega
 have hand:bits .and .i64 (n:Int) 63=(r:Int):=by rw [hr];exact and63 n (by omega)
 have hq2:((n:Int)+63) / 2 ^ 6=(M:Int):=by rw [show (2:Int) ^ 6=64 by decide];exact hq
 have hne:((M:Int) != (M:Int))=false:=by simp
 have HTOP:=Lib.hid (fun (h:r≠0)=>pack_top (l:=l) hr h)
 rw [<- hM] at hc HTOP ⊢
 by_cases hr0:r=0
 ·have hr1:((r:Int)==0)=true:=by rw [hr0];rfl
  clear hr hM hc hr0
  go_enter Tryz.func182,Tryz.ntmps182
  go_wp2
  go_ret
  exact ⟨rfl,HB.out⟩
 ·have hr1:((r:Int)==0)=false:=by simp;omega
  have hr64:r < 64:=by omega
  have hM1:1<=M:=by omega
  have hcell:=cell_up HB.out (hc (M - 1) (by omega))
  have hz:=HTOP.out hr0
  generalize packW l n (M - 1)=x at hcell hz
  obtain ⟨m,hm⟩:∃ m,M=m+1:=⟨M - 1,by omega⟩
  have hm1:(M:Int) - 1=(m:Int):=by omega
  have hm2:M - 1=m:=by omega
  rw [hm2] at hcell
  have hmb:m<=1000000:=by omega
  have hmM:m < M:=by omega
  have hsh:((x:Int) / 2 ^ r==0)=true:=by
   have h2:((x / 2 ^ r:Nat):Int)=(x:Int) / 2 ^ r:=by push_cast;rfl
   rw [<- h2,hz];rfl
  clear hr hM hc hr0 hm hm2 HTOP hz
  go_enter Tryz.func182,Tryz.ntmps182
  go_wp2
  go_ret
  exact ⟨rfl,HB.out⟩
abbrev zbV:Value:=vecV 1 vnil 0 vnil vnil vnil vnil vnil
theorem least_zb (w:World):Calls Tryz.prog 195 #[zbV] w fun e w'=>e= .returned (.int .i64 1)/\Below w.heap.size w w':=by
 have HC:=Lib.hid (fun W=>class_1 vnil 0 vnil vnil vnil vnil vnil W)
 have HK:=Lib.hid (fun W=>vkind_any 1 vnil 0 vnil vnil vnil vnil vnil W)
 have HL:=Lib.hid (fun W=>len_1 vnil 0 vnil vnil vnil vnil vnil W)
 go_enter Tryz.func195,Tryz.ntmps195
 go_wp2_with fail
 refine (HC.out _).mono ?_
 rintro e w1 ⟨rfl,hb1⟩
 have HB1:=Lib.hid (bel_both (bel1 w _) hb1)
 have HX1:=Lib.hid ((boxed_new w 57 1 vnil 0 vnil vnil vnil vnil vnil).below hb1)
 obtain ⟨h0,h1,h2,h3,h4,h5,h6,h7⟩:=HX1.out
 clear hb1
 go_wp2_with fail
 refine (HK.out _).mono ?_
 rintro e w2 ⟨rfl,hb2⟩
 have HB2:=Lib.hid (bel_both HB1.out hb2)
 have HX2:=Lib.hid (HX1.out.below hb2)
 clear hb2 h0 h1 h2 h3 h4 h5 h6 h7
 obtain ⟨h0,h1,h2,h3,h4,h5,h6,h7⟩:=HX2.out
 go_wp2_with fail
 refine (HL.out _).mono ?_
 rintro e w3 ⟨rfl,hb3⟩
 have HB3:=Lib.hid (bel_both HB2.out hb3)
 clear hb3 h0 h1 h2 h3 h4 h5 h6 h7
 go_wp2_with fail
 refine wp_loop_rounds 1 ?_
 rw [rounds_succ]
 go_wp2
 go_ret
 exact ⟨rfl,HB3.out⟩
theorem tight_zb (w:World):Calls Tryz.prog 180 #[zbV] w fun e w'=>e= .returned (.bool true)/\Below w.heap.size w w':=by
 have HC:=Lib.hid (fun W=>vkind_any 1 vnil 0 vnil vnil vnil vnil vnil W)
 have HL:=Lib.hid (fun W=>least_zb W)
 go_enter Tryz.func180,Tryz.ntmps180
 go_wp2_with fail
 go_region_with (first
  | (go_at_call 52;go_loud ((refine (HC.out _).mono ?_);rintro e w1 ⟨rfl,hb1⟩);obtain ⟨hc1,hf1⟩:=bcell2 hb1;have hz1:=hb1.size)
  | (go_at_call 195;go_loud ((refine (HL.out _).mono ?_);rintro e w2 ⟨rfl,hb2⟩);obtain ⟨hc2,hf2⟩:=bcell2 hb2;have hz2:=hb2.size))
 all_goals
  go_wp2
  go_ret
  exact ⟨rfl,bel_both (bel_both (bel1 w _).drew hb1) hb2⟩
theorem btidy_zb (w:World):Calls Tryz.prog 182 #[.agg #[.slice none 0 0,.int .i64 0]] w fun e w'=>e= .returned (.bool true)/\Below w.heap.size w w':=by
 have HB:=Lib.hid (bel1 w (.cells #[.slice none 0 0,.int .i64 0] 52))
 have hand:bits .and .i64 0 63=0:=by decide
 go_enter Tryz.func182,Tryz.ntmps182
 go_wp2
 go_ret
 exact ⟨rfl,HB.out⟩
theorem av_tight {H:Nat->Prop}{w:World}{a:PA}{h:Sl}{p:V8} (g:AV H w a h p) (hl:a.len<=1000000) (W:World) (hb:Below w.heap.size w W) :
  Calls Tryz.prog 180 #[p.v] W fun e w'=>e= .returned (.bool true)/\Below W.heap.size W w':=by
 cases a with
 | nums s l =>
  rcases g.nums with h | ⟨rfl,rfl⟩
  ·refine (tight_any (n:=l.length) (F:=fun j=>l.getD j 0) hl (fun W' hb'=>(Keeps.lat h.num (Lat.below (bel_both hb hb'))).now)).mono ?_
   rintro e w' ⟨rfl,hb2⟩
   refine ⟨?_,hb2⟩
   rw [h.least]
   simp
  ·exact tight_zb W
 | chars s l =>
  obtain ⟨c,rfl,_⟩:=g.chars
  exact tight_cls _ _ _ _ _ _ _ _ 1 (by decide) W fun W=>class_5 _ _ _ _ _ _ _ W
 | boxes s l =>
  obtain ⟨A,n,c,rfl,_⟩:=g.boxes
  exact tight_cls _ _ _ _ _ _ _ _ 2 (by decide) W fun W=>class_6 _ _ _ _ _ _ _ W
theorem ASl.sub {H H':Nat->Prop}{w:World}{x:Sl}{l:List PA} (hs:∀ b,b < w.heap.size->H' b->H b) (g:ASl H w x l):ASl H' w x l:=by
 refine ⟨g.1,?_⟩
 rcases g.2 with g4 | ⟨b,o,g5,hn,g6⟩
 ·exact .inl g4
 ·cases l with
  | nil=>exact .inl ⟨rfl,trivial⟩
  | cons a ar =>
   have hl:b < w.heap.size:=by rw [AVs] at g6;obtain ⟨⟨_,_,h9,_⟩,_⟩:=g6;exact h9.lt
   exact .inr ⟨b,o,g5,fun e=>hn (hs b hl e),AVs.sub hs g6⟩
theorem Lat.set8 {H:Nat->Prop}{w:World}{G:Nat} (hG:H G) (a0 a1 a2 a3 a4 a5 a6 a7:Value):Lat H w (set8 w G a0 a1 a2 a3 a4 a5 a6 a7) :=
 (((((((Lat.set (a:=⟨G,0,none⟩) hG a0).trans (Lat.set (a:=⟨G,1,none⟩) hG a1)).trans (Lat.set (a:=⟨G,2,none⟩) hG a2)).trans (Lat.set (a:=⟨G,3,none⟩) hG a3)).trans (Lat.set (a:=⟨G,4,none⟩) hG a4)).trans (Lat.set (a:=⟨G,5,none⟩) hG a5)).trans (Lat.set (a:=⟨G,6,none⟩) hG a6)).trans (Lat.set (a:=⟨G,7,none⟩) hG a7)
def BxR (H:Nat->Prop) (w:World) (l:List PA) (e:Ending) (w':World):Prop:=∃ x:Sl,e= .returned (vecV 6 vnil 0 vnil vnil vnil vnil (sv x))/\ASl H w' x l/\Below w.heap.size w w'
theorem boxes_any {H:Nat->Prop}{w:World}{x:Sl}{l:List PA} (g:ASl H w x l) (hl:l.length<=1048576) (hH:∀ b,H b->b < w.heap.size):Calls Tryz.prog 153 #[sv x] w (BxR H w l):=by
 have hg2:∀ w2,Below w.heap.size w w2->ASl (fun b=>H b\/b=w.heap.size) w2 x l:=fun w2 hb=>(g.sub fun b hb e=>by
  rcases e with e | e
  ·exact e
  ·omega).step hb
 have HC:=Lib.hid (clA_any (hg2 _ (bel1 w (.cells #[.int .i64 0,vnil,.int .i64 0,vnil,vnil,vnil,vnil,vnil] 57))) hl (fun b e=>by
  rcases e with e | e
  ·have:=hH b e;simp;omega
  ·simp;omega))
 have HH:=Lib.hid hH
 clear g hg2 hl hH
 go_enter Tryz.func153,Tryz.ntmps153
 go_wp2_with fail
 refine HC.out.mono ?_
 rintro e w1 ⟨u,rfl,ho,hb1⟩
 have HB1:=Lib.hid ((bel1 w _).trans (hb1.mono (bel1 w _).size))
 obtain ⟨h0,h1,h2,h3,h4,h5,h6,h7⟩:=(boxed_new w 57 0 vnil 0 vnil vnil vnil vnil vnil).below hb1
 have HK:=Lib.hid (block_up hb1)
 have hz:∀ j,w1.frozen? ⟨w.heap.size,j,none⟩=false:=fun j=>by rw [hb1.frozen (by simp)];exact frozen_new _ _ _ _
 obtain ⟨y,rfl,hy⟩:=ho.asl (fun b e=>by
  rcases e with e | e
  ·have:=HH.out b e;simp;omega
  ·simp;omega)
 obtain ⟨yA,yn,yc⟩:=y
 have HY:=Lib.hid hy
 clear hb1 ho hy
 dsimp only [sv]
 go_wp2
 exact bodyPost_ret (ret_vec rfl _ _ _ rfl (set8_block HK.out _ _ _ _ _ _ _ _)) rfl ⟨(yA,yn,yc),rfl,ASl.sub (fun _ _ e => .inl e) (ASl.lat (Lat.set8 (G:=w.heap.size) (.inr rfl) _ _ _ _ _ _ _ _) HY.out),below_set8 HB1.out (Nat.le_refl _) _ _ _ _ _ _ _ _⟩
theorem wpList_pushA' {ops:Array Oper}{rest:List Oper}{o:Oper}{a:Act}{Q:Exit->Act->World->Prop}{w:World} (hgd:o.guard=none) (s x:Operand)
  (ho:o.op= .call { callee := .builtin .append,args:=#[s,x],argTypes:=#[55,55]})
  (H:Nat->Prop) (B:Nat) (v:Value) (l:List PA) (hs:a.eval s=v) (hown:AOwn H w B v l) (h:Sl) (p:V8) (A:PA) (hA:AV (fun b=>H b\/v.ownBlock=some b) w A h p)
  (G:Nat) (hG:G=w.heap.size) (hx:a.eval x= .slice (some ⟨G,0,none⟩) 1 1) (hl:l.length<=1048576) (hB:B<=w.heap.size)
  (k:∀ v' w',AOwn H w' B v' (l++[A])->(∀ w0,Below B w0 w->Below B w0 w')->wpList Tryz.prog ops Q rest (a.put o.dst v') w') :
  wpList Tryz.prog ops Q (o::rest) a (w.alloc (arrO h p)):=by
 subst hG
 exact wpList_pushA hgd s x ho H B v l hs hown h p A hA hx hl hB fun v' w' h1 h2 _ _=>k v' w' h1 h2
theorem av_boxed {H:Nat->Prop}{W:World}{sn:List Nat}{items:List RI}{hd x:Sl} (hs:ShV H W hd sn) (hk:ASl H W x (clIs items)):AV H W (clP (.mk (sn.map Int.ofNat) items 2)) hd (boxesP x):=by
 rw [clP,toNat_of,if_neg (by decide),if_neg (by decide)]
 exact hk.av hs
structure Only (g:Nat) (w w':World):Prop where
 os:w'.os=w.os
 tape:w'.tape=w.tape
 output:w'.output=w.output
 size:w.heap.size<=w'.heap.size
 block:∀ k,k < w.heap.size->k≠g->w'.heap[k]?=w.heap[k]?
theorem Only.refl (g:Nat) (w:World):Only g w w:=⟨rfl,rfl,rfl,Nat.le_refl _,fun _ _ _=>rfl⟩
theorem Only.trans {g:Nat}{a b c:World} (h:Only g a b) (k:Only g b c):Only g a c :=
 ⟨k.os.trans h.os,k.tape.trans h.tape,k.output.trans h.output,Nat.le_trans h.size k.size,fun i hi hg=>(k.block i (Nat.lt_of_lt_of_le hi h.size) hg).trans (h.block i hi hg)⟩
theorem Only.set {g:Nat}{a b:World} (h:Only g a b) (i:Nat) (u:Value):Only g a (b.setCell ⟨g,i,none⟩ u):=by
 have hb:=(Below.refl g b).setCell (p:=⟨g,i,none⟩) (Nat.le_refl g) u
 exact h.trans ⟨hb.os,hb.tape,hb.output,hb.size,fun k _ hg=>Below.heap_setCell _ _ _ _ hg⟩
theorem Only.below {g B:Nat}{w0 w w':World} (h:Only g w w') (hb:Below B w0 w) (hB:B<=g) (hg:g < w.heap.size):Below B w0 w' :=
 ⟨h.os.trans hb.os,h.tape.trans hb.tape,h.output.trans hb.output,Nat.le_trans hb.size h.size,fun k hk=>(h.block k (by omega) (by omega)).trans (hb.block k hk)⟩
theorem Only.cell {g:Nat}{w w':World} (h:Only g w w'){b i:Nat}{v:Value} (hc:w.cell? ⟨b,i,none⟩=some v) (hg:b≠g):w'.cell? ⟨b,i,none⟩=some v:=by
 rw [World.cell?_of_block (w:=w) (h.block b (cell_lt hc) hg)];exact hc
def Row64 (w:World) (B g T:Nat) (F:Nat->Int):Prop:=Own1 w B 2 (.slice (some ⟨g,0,none⟩) T T) ((List.range T).map fun j => .int .i64 (F j))
theorem set_map_range {T k:Nat}{f:Nat->Value} (hk:k < T) (u:Value):((List.range T).map f).set k u=(List.range T).map fun j=>if j=k then u else f j:=by
 apply List.ext_getElem?
 intro i
 rw [List.getElem?_set]
 by_cases hi:i < T
 ·by_cases e:k=i
  ·subst e;simp [hk]
  ·have e':¬ i=k:=fun h=>e h.symm
   simp [e,e',hi]
 ·have h1:((List.range T).map f)[i]?=none:=by simp;omega
  have h2:((List.range T).map fun j=>if j=k then u else f j)[i]?=none:=by simp;omega
  rw [h2,if_neg (by omega),h1]
theorem Row64.ow {w:World}{B g T:Nat}{F:Nat->Int} (h:Row64 w B g T F):w.ownsRow B 2 1 (.slice (some ⟨g,0,none⟩) T T) T ((List.range T).map fun j => .int .i64 (F j)):=by
 have:=h
 unfold Row64 Own1 at this
 rw [List.length_map,List.length_range] at this
 exact this
theorem Row64.of_ow {w:World}{B g T:Nat}{F:Nat->Int} (h:w.ownsRow B 2 1 (.slice (some ⟨g,0,none⟩) T T) T ((List.range T).map fun j => .int .i64 (F j))):Row64 w B g T F:=by
 unfold Row64 Own1
 rw [List.length_map,List.length_range]
 exact h
theorem Row64.put {w:World}{B g T:Nat}{F:Nat->Int} (h:Row64 w B g T F){k:Nat} (hk:k < T) (z:Int):Row64 (w.setCell ⟨g,k,none⟩ (.int .i64 z)) B g T (fun j=>if j=k then z else F j):=by
 have h2:=(World.ownsRow.stored h.ow k (.int .i64 z)).1
 rw [set_map_range hk] at h2
 refine Row64.of_ow ?_
 have e:((List.range T).map fun j=>Value.int .i64 (if j=k then z else F j))=(List.range T).map fun j=>if j=k then .int .i64 z else .int .i64 (F j):=by
  apply List.map_congr_left
  intro j _
  split <;> rfl
 rw [e]
 exact h2
theorem Row64.cell {w:World}{B g T:Nat}{F:Nat->Int} (h:Row64 w B g T F){k:Nat} (hk:k < T):w.cell? ⟨g,k,none⟩=some (.int .i64 (F k)):=by
 have:=World.ownsRow.cellAt h.ow k (by omega)
 rw [this]
 simp [hk]
theorem Row64.frozen {w:World}{B g T:Nat}{F:Nat->Int} (h:Row64 w B g T F) (k:Nat):w.frozen? ⟨g,k,none⟩=false:=World.ownsRow.frozenAt h.ow k
theorem Row64.low {w:World}{B g T:Nat}{F:Nat->Int} (h:Row64 w B g T F):B<=g/\g < w.heap.size:=World.ownsRow.lt h.ow g rfl
structure Ar2 (w:World) (p q:V8) (e:TypeId) (f:Nat->Value) (z:Value) (N c:Nat) (W:World):Prop where
 st:St2 w W p q
 fill:Fill W (w.heap.size+3) (w.heap.size+3) e f z N c
theorem Ar2.step {w W W':World}{p q:V8}{e:TypeId}{f:Nat->Value}{z:Value}{N c:Nat} (h:Ar2 w p q e f z N c W) (hb:Below W.heap.size W W'):Ar2 w p q e f z N c W':=⟨h.st.step hb,h.fill.below hb⟩
theorem Ar2.dr {w W:World}{p q:V8}{e:TypeId}{f:Nat->Value}{z:Value}{N c:Nat} (h:Ar2 w p q e f z N c W):Ar2 w p q e f z N c W.drew:=h.step (Below.refl _ W).drew
theorem Ar2.self {w W:World}{p q:V8}{e:TypeId}{f:Nat->Value}{z:Value}{N c:Nat} (h:Ar2 w p q e f z N c W):Ar2 w p q e f z N c W:=h
theorem Ar2.new (w:World) (p q:V8) (e:TypeId) (f:Nat->Value) (z:Value) (N:Nat) (hN:N<=maxLen):Ar2 w p q e f z N 0 ((((w.alloc p.o).alloc q.o).alloc (.cells zcells 57)).alloc (.cells (madeCells #[z] N) e)):=by
 have h:=Fill.made (((w.alloc p.o).alloc q.o).alloc (.cells zcells 57)) (w.heap.size+3) (by simp) e f z N hN
 have e3:(((w.alloc p.o).alloc q.o).alloc (.cells zcells 57)).heap.size=w.heap.size+3:=by simp
 rw [e3] at h
 exact ⟨(St2.new w p q).al _,h⟩
theorem Ar2.put {w W:World}{p q:V8}{e:TypeId}{f:Nat->Value}{z:Value}{N c:Nat} (h:Ar2 w p q e f z N c W) (hc:c < N):Ar2 w p q e f z N (c+1) (W.setCell ⟨w.heap.size+3,c,none⟩ (f c)) :=
 ⟨h.st.put (Nat.le_refl _) _,h.fill.put hc⟩
def BitsAt (W:World) (b:Sl) (n:Nat) (L:Nat->Bool):Prop :=
 ∃ g o c,b=(some ⟨g,o,none⟩,(n+63) / 64,c)/\∀ j,j < (n+63) / 64->W.cell? ⟨g,o+j,none⟩=some (.int .u64 (packW L n j:Nat))
theorem BitsAt.below {W W':World}{b:Sl}{n:Nat}{L:Nat->Bool} (h:BitsAt W b n L) (hb:Below W.heap.size W W'):BitsAt W' b n L:=by
 obtain ⟨g,o,c,e,hc⟩:=h
 exact ⟨g,o,c,e,fun j hj=>by rw [hb.cell (cell_lt (hc j hj))];exact hc j hj⟩
theorem BitsAt.row {W:World}{B g n:Nat}{L:Nat->Bool} (h:RowU W B g ((n+63) / 64) (packW L n)):BitsAt W (some ⟨g,0,none⟩,(n+63) / 64,(n+63) / 64) n L :=
 ⟨g,0,_,rfl,fun j hj=>by rw [Nat.zero_add];exact h.cell hj⟩
theorem BitsAt.in {W:World}{b:Sl}{n:Nat}{L:Nat->Bool} (h:BitsAt W b n L):BitsIn W (.agg #[.slice b.1 b.2.1 b.2.2,.int .i64 (n:Int)]) n L:=by
 obtain ⟨g,o,c,rfl,hc⟩:=h
 exact ⟨g,o,c,rfl,hc⟩
theorem NumV.bits {b:Sl}{bn:Int}{s i f g x:Sl}{m:Nat}{F:Nat->Nat}{w:World} (h:NumV (vecW 1 b bn s i f g x) 1 m F w):bn=(m:Int)/\∃ L,BitsAt w b m L/\∀ j,j < m->F j=flagF (L j):=by
 obtain ⟨l,s',e,hb,hf⟩:=h.bitsX rfl
 injection e with e
 have e1:=congrArg (fun a:Array Value=>a.getD 1 undef) e
 have e2:=congrArg (fun a:Array Value=>a.getD 2 undef) e
 have e1':Value.slice b.1 b.2.1 b.2.2=s':=e1
 have e2':Value.int .i64 bn= .int .i64 (m:Int):=e2
 injection e2' with _ e3
 refine ⟨e3,l,?_,hf⟩
 obtain ⟨g2,o,c,ev,hc⟩:=hb
 injection ev with ev
 have e4:=congrArg (fun a:Array Value=>a.getD 0 undef) ev
 have e4':s'= .slice (some ⟨g2,o,none⟩) ((m+63) / 64) c:=e4
 rw [<- e1'] at e4'
 injection e4' with h1 h2 h3
 exact ⟨g2,o,c,by rw [<- h1,<- h2,<- h3],hc⟩
structure Sb (w W:World) (p:V8):Prop where
 one:BoxP W w.heap.size p
 res:W.heap[w.heap.size+1]?=some (.cells bcells 52)
 bel:Below w.heap.size w W
theorem Sb.step {w W W':World}{p:V8} (h:Sb w W p) (hb:Below W.heap.size W W'):Sb w W' p :=
 ⟨h.one.below hb,by rw [hb.block _ (lt_of_block h.res)];exact h.res,bel_both h.bel hb⟩
theorem Sb.new (w:World) (p:V8):Sb w ((w.alloc p.o).alloc (.cells bcells 52)) p:=by
 have h2:=heap_alloc_new (w.alloc p.o) (.cells bcells 52)
 have e1:(w.alloc p.o).heap.size=w.heap.size+1:=by simp
 rw [e1] at h2
 exact ⟨(boxP_new w p).below (bel1 _ _),h2,bel2 w _ _⟩
theorem Sb.sz {w W:World}{p:V8} (h:Sb w W p):w.heap.size+1 < W.heap.size:=lt_of_block h.res
end Go.Proofs.YtbakjaliponbbaaGreatDoor
