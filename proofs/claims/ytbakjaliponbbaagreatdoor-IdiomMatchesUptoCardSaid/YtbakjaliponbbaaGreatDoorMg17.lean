/- A row of arrays that a call made, written place by place. Words for the walk of value.of. The walk of value.of over good plain arrays of fill .. Conditions: as each theorem says. -/
import Derived.Test.YtbakjaliponbbaaGreatDoorMg15
import Derived.Test.YtbakjaliponbbaaGreatDoorMg16
set_option maxRecDepth 100000
set_option maxHeartbeats 4000000
namespace Go.Proofs.YtbakjaliponbbaaGreatDoor
open Go Go.RowKit Go.Proofs Fl
abbrev set9o (w:World) (G o:Nat) (a0 a1 a2 a3 a4 a5 a6 a7 a8:Value):World:=((((((((w.setCell ⟨G,o,none⟩ a0).setCell ⟨G,o+1,none⟩ a1).setCell ⟨G,o+2,none⟩ a2).setCell ⟨G,o+3,none⟩ a3).setCell ⟨G,o+4,none⟩ a4).setCell ⟨G,o+5,none⟩ a5).setCell ⟨G,o+6,none⟩ a6).setCell ⟨G,o+7,none⟩ a7).setCell ⟨G,o+8,none⟩ a8
abbrev arr9 (cs:Array Value) (o:Nat) (a0 a1 a2 a3 a4 a5 a6 a7 a8:Value):Array Value:=((((((((cs.setIfInBounds o a0).setIfInBounds (o+1) a1).setIfInBounds (o+2) a2).setIfInBounds (o+3) a3).setIfInBounds (o+4) a4).setIfInBounds (o+5) a5).setIfInBounds (o+6) a6).setIfInBounds (o+7) a7).setIfInBounds (o+8) a8
theorem set9o_block {w:World}{G o:Nat}{cs:Array Value}{e:TypeId} (h:w.heap[G]?=some (.cells cs e)) (a0 a1 a2 a3 a4 a5 a6 a7 a8:Value) :
  (set9o w G o a0 a1 a2 a3 a4 a5 a6 a7 a8).heap[G]?=some (.cells (arr9 cs o a0 a1 a2 a3 a4 a5 a6 a7 a8) e):=heap_setCell_same _ G (o+8) _ e a8 (heap_setCell_same _ G (o+7) _ e a7 (heap_setCell_same _ G (o+6) _ e a6 (heap_setCell_same _ G (o+5) _ e a5 (heap_setCell_same _ G (o+4) _ e a4 (heap_setCell_same _ G (o+3) _ e a3 (heap_setCell_same _ G (o+2) _ e a2 (heap_setCell_same _ G (o+1) _ e a1 (heap_setCell_same _ G (o) _ e a0 h))))))))
theorem arr9_size (cs:Array Value) (o:Nat) (a0 a1 a2 a3 a4 a5 a6 a7 a8:Value):(arr9 cs o a0 a1 a2 a3 a4 a5 a6 a7 a8).size=cs.size:=by simp
theorem arr9_off (cs:Array Value) (o p:Nat) (h:p < o\/o+9<=p) (a0 a1 a2 a3 a4 a5 a6 a7 a8:Value):(arr9 cs o a0 a1 a2 a3 a4 a5 a6 a7 a8)[p]?=cs[p]?:=by
 rw [Array.getElem?_setIfInBounds_ne (by omega),Array.getElem?_setIfInBounds_ne (by omega),Array.getElem?_setIfInBounds_ne (by omega),Array.getElem?_setIfInBounds_ne (by omega),Array.getElem?_setIfInBounds_ne (by omega),Array.getElem?_setIfInBounds_ne (by omega),Array.getElem?_setIfInBounds_ne (by omega),Array.getElem?_setIfInBounds_ne (by omega),Array.getElem?_setIfInBounds_ne (by omega)]
theorem arr9_on (cs:Array Value) (o:Nat) (h:o+9<=cs.size) (a0 a1 a2 a3 a4 a5 a6 a7 a8:Value) :
  (arr9 cs o a0 a1 a2 a3 a4 a5 a6 a7 a8)[o]?=some a0/\(arr9 cs o a0 a1 a2 a3 a4 a5 a6 a7 a8)[o+1]?=some a1/\(arr9 cs o a0 a1 a2 a3 a4 a5 a6 a7 a8)[o+2]?=some a2/\(arr9 cs o a0 a1 a2 a3 a4 a5 a6 a7 a8)[o+3]?=some a3/\(arr9 cs o a0 a1 a2 a3 a4 a5 a6 a7 a8)[o+4]?=some a4/\(arr9 cs o a0 a1 a2 a3 a4 a5 a6 a7 a8)[o+5]?=some a5/\(arr9 cs o a0 a1 a2 a3 a4 a5 a6 a7 a8)[o+6]?=some a6/\(arr9 cs o a0 a1 a2 a3 a4 a5 a6 a7 a8)[o+7]?=some a7/\(arr9 cs o a0 a1 a2 a3 a4 a5 a6 a7 a8)[o+8]?=some a8:=by
 refine ⟨?_,?_,?_,?_,?_,?_,?_,?_,?_⟩ <;>
 ·repeat rw [Array.getElem?_setIfInBounds_ne (by omega)]
  exact Array.getElem?_setIfInBounds_self_of_lt (by first | omega | (simp;omega))
def NIs (cs:Array Value) (o:Nat) (h:Sl) (p:V8):Prop :=
 cs[o]?=some (sv h)/\cs[o+1]?=some (.int .i64 p.k)/\cs[o+2]?=some (sv p.b)/\cs[o+3]?=some (.int .i64 p.bn)/\cs[o+4]?=some (sv p.s)/\cs[o+5]?=some (sv p.i)/\cs[o+6]?=some (sv p.f)/\cs[o+7]?=some (sv p.c)/\cs[o+8]?=some (sv p.x)
def ARow (w:World) (g m:Nat) (hh:Nat->Sl) (pp:Nat->V8):Prop :=
 ∃ cs,w.heap[g]?=some (.cells cs 59)/\m*9<=cs.size/\∀ j,j < m->NIs cs (j*9) (hh j) (pp j)
theorem ARow.lt {w:World}{g m:Nat}{hh:Nat->Sl}{pp:Nat->V8} (h:ARow w g m hh pp):g < w.heap.size:=by
 obtain ⟨cs,hg,_⟩:=h
 rcases Nat.lt_or_ge g w.heap.size with h | h
 ·exact h
 ·rw [Array.getElem?_eq_none h] at hg;cases hg
theorem ARow.at_ {w:World}{g m:Nat}{hh:Nat->Sl}{pp:Nat->V8} (h:ARow w g m hh pp) (i:Nat) (hi:i < m):At9 w g (i*9) (hh i) (pp i)/\∀ j,w.frozen? ⟨g,j,none⟩=false:=by
 obtain ⟨cs,hg,_,h1⟩:=h
 obtain ⟨c0,c1,c2,c3,c4,c5,c6,c7,c8⟩:=h1 i hi
 have k:∀ j u,cs[j]?=some u->w.cell? ⟨g,j,none⟩=some u:=fun j u hu=>by rw [cell_of_row _ g j _ _ (0,0) hg];exact hu
 exact ⟨⟨k _ _ c0,k _ _ c1,k _ _ c2,k _ _ c3,k _ _ c4,k _ _ c5,k _ _ c6,k _ _ c7,k _ _ c8⟩,fun j=>frozen_of_row _ _ j _ _ hg⟩
theorem ARow.below {w w':World}{g m:Nat}{hh:Nat->Sl}{pp:Nat->V8} (h:ARow w g m hh pp) (hb:Below w.heap.size w w'):ARow w' g m hh pp:=by
 have hlt:=h.lt
 obtain ⟨cs,hg,r⟩:=h
 exact ⟨cs,by rw [hb.block _ hlt];exact hg,r⟩
theorem ARow.put {w:World}{g m i:Nat}{hh:Nat->Sl}{pp:Nat->V8} (h:ARow w g m hh pp) (hi:i < m) (h':Sl) (p':V8) :
  ARow (set9o w g (i*9) (sv h') (.int .i64 p'.k) (sv p'.b) (.int .i64 p'.bn) (sv p'.s) (sv p'.i) (sv p'.f) (sv p'.c) (sv p'.x)) g m (fun j=>if j=i then h' else hh j) (fun j=>if j=i then p' else pp j):=by
 obtain ⟨cs,hg,hs,h1⟩:=h
 refine ⟨_,set9o_block hg _ _ _ _ _ _ _ _ _,by rw [arr9_size];exact hs,fun j hj=>?_⟩
 by_cases e:j=i
 ·subst e
  dsimp only
  rw [if_pos rfl,if_pos rfl]
  exact arr9_on cs (j*9) (by omega) _ _ _ _ _ _ _ _ _
 ·obtain ⟨c0,c1,c2,c3,c4,c5,c6,c7,c8⟩:=h1 j hj
  dsimp only
  rw [if_neg e,if_neg e]
  unfold NIs
  rw [arr9_off _ _ _ (by omega),arr9_off _ _ _ (by omega),arr9_off _ _ _ (by omega),arr9_off _ _ _ (by omega),arr9_off _ _ _ (by omega),arr9_off _ _ _ (by omega),arr9_off _ _ _ (by omega),arr9_off _ _ _ (by omega),arr9_off _ _ _ (by omega)]
  exact ⟨c0,c1,c2,c3,c4,c5,c6,c7,c8⟩
theorem ARow.congr {w:World}{g m:Nat}{hh hh':Nat->Sl}{pp pp':Nat->V8} (h:ARow w g m hh pp) (e:∀ j,j < m->hh' j=hh j/\pp' j=pp j):ARow w g m hh' pp':=by
 obtain ⟨cs,hg,hs,h1⟩:=h
 exact ⟨cs,hg,hs,fun j hj=>by rw [(e j hj).1,(e j hj).2];exact h1 j hj⟩
abbrev zeroL:Array Value:=#[.slice none 0 0,.int .i64 0,.slice none 0 0,.int .i64 0,.slice none 0 0,.slice none 0 0,.slice none 0 0,.slice none 0 0,.slice none 0 0]
theorem made_at9 (m j k:Nat) (hj:j < m) (hk:k < 9):(madeCells zeroL (m*9))[j*9+k]?=zeroL[k]?:=by
 have h1:j*9+k < m*9:=by omega
 have h2:(j*9+k) % 9=k:=by omega
 have h3:zeroL.size=9:=rfl
 simp [madeCells,h1,h3,h2]
 match k,hk with
 | 0,_=>rfl
 | 1,_=>rfl
 | 2,_=>rfl
 | 3,_=>rfl
 | 4,_=>rfl
 | 5,_=>rfl
 | 6,_=>rfl
 | 7,_=>rfl
 | 8,_=>rfl
theorem ARow.made (w:World) (m:Nat):ARow (w.alloc (.cells (madeCells zeroL (m*9)) 59)) w.heap.size m (fun _=>nilS) (fun _=>zeroP):=by
 refine ⟨_,heap_alloc_new w _,by rw [size_madeCells];exact Nat.le_refl _,fun j hj=>?_⟩
 have h:=fun k hk=>made_at9 m j k hj hk
 exact ⟨h 0 (by omega),h 1 (by omega),h 2 (by omega),h 3 (by omega),h 4 (by omega),h 5 (by omega),h 6 (by omega),h 7 (by omega),h 8 (by omega)⟩
theorem AOwn.row {H:Nat->Prop}{w:World}{B:Nat}{v:Value}{l:List PA} (h:AOwn H w B v l) (hne:l≠[]) :
  ∃ g c hh pp,v= .slice (some ⟨g,0,none⟩) l.length c/\B<=g/\ARow w g l.length hh pp/\∀ i (hi:i < l.length),AV (fun b=>H b\/g=b) w l[i] (hh i) (pp i):=by
 obtain ⟨hh,pp,hown,ha⟩:=h
 rcases hown.2 with ⟨rfl,h0⟩ | ⟨g,cap,cur,rfl,hbg,hg,hnc,hcm,hcs,htake⟩
 ·exact absurd (List.eq_nil_of_length_eq_zero h0) hne
 ·refine ⟨g,cap,hh,pp,rfl,hbg,⟨cur,hg,?_,fun j hj=>?_⟩,fun i hi=>AV.sub (fun b _ e=>by
   rcases e with e | e
   ·exact .inl e
   ·exact .inr (by rw [<- e];rfl)) (ha i hi)⟩
  ·have:=congrArg List.length htake
   rw [flatA_len,List.length_take] at this
   simp at this
   omega
  ·have hk:∀ k u,k < 9->(arrL (hh j) (pp j))[k]?=some u->cur[j*9+k]?=some u:=fun k u hk hu=>by
    have h1:(flatA l.length hh pp)[j*9+k]?=some u:=by rw [flatA_get _ _ _ _ _ hj hk];exact hu
    rw [<- htake] at h1
    rw [List.getElem?_take] at h1
    split at h1
    ·rw [Array.getElem?_toList] at h1;exact h1
    ·cases h1
   exact ⟨hk 0 _ (by decide) rfl,hk 1 _ (by decide) rfl,hk 2 _ (by decide) rfl,hk 3 _ (by decide) rfl,hk 4 _ (by decide) rfl,hk 5 _ (by decide) rfl,hk 6 _ (by decide) rfl,hk 7 _ (by decide) rfl,hk 8 _ (by decide) rfl⟩
theorem ARow.asl {H:Nat->Prop}{w:World}{g m:Nat}{hh:Nat->Sl}{pp:Nat->V8} (h:ARow w g m hh pp) (hn:¬ H g) (l:List PA) (hl:m=l.length) (ha:∀ i (hi:i < l.length),AV H w l[i] (hh i) (pp i)) (c:Nat):ASl H w (some ⟨g,0,none⟩,m,c) l :=
 ⟨hl,.inr ⟨g,0,rfl,hn,avs_of _ _ fun i hi=>⟨hh i,pp i,by have:=(h.at_ i (by omega)).1;rwa [Nat.zero_add],ha i hi⟩⟩⟩
end Go.Proofs.YtbakjaliponbbaaGreatDoor
namespace Go.Proofs.YtbakjaliponbbaaGreatDoor
open Go Go.RowKit Go.Proofs Fl Go.Shelf Go.Lib
def AvR (H:Nat->Prop) (w:World) (a:PA) (e:Ending) (w':World):Prop:=∃ h p,e= .returned (.tuple #[arrV h p,.int .i64 0])/\AV H w' a h p/\Below w.heap.size w w'
theorem info_clI:(Tryz.prog.info? 3).map (fun i=>(i.zero,i.size,i.bytes))=some (some (.int .i64 0),1,8):=by kernel_rfl
def clI_ren:Go.Shelf.Ren:=⟨fun | 41=>134 | n=>n,fun | 22=>41 | 23=>3 | 4=>4 | n=>n,fun n=>n⟩
theorem clI_lays:SlLaysE0.n41 Tryz.prog clI_ren where
 mixed:=by kernel_rfl
 f41 := ⟨"slices.Clone[[]int,int]", by decide, Tryz.func134.trans (congrArg some (by kernel_rfl))⟩
 t4:=Tryz.underlying4
 a4:=Tryz.isAgg4
 z4:=Tryz.sizeOf4
 v4:=Tryz.zeroValue4
 t22:=Tryz.underlying41
 a22:=Tryz.isAgg41
 z22:=Tryz.sizeOf41
 v22:=Tryz.zeroValue41
theorem clI_any {w:World}{v:Value}{xs:List Value} (h:Reads1 w v xs) (hl:xs.length*8<=140737488355328) (h1:∀ u∈xs,u.oneCell'=true) :
  Calls Tryz.prog 134 #[v] w fun e w'=>∃ v',e= .returned v'/\Own1 w' w.heap.size 3 v' xs/\Below w.heap.size w w' :=
 clone_reads clI_lays (.int .i64 0) 8 info_clI rfl Tryz.sizeOf3 h (by omega) (by omega) h1
theorem clSh_any {H:Nat->Prop}{w:World}{h:Sl}{s:List Nat} (g:ShV H w h s) (hl:s.length<=1048576) (hH:∀ b,H b->b < w.heap.size) :
  Calls Tryz.prog 134 #[sv h] w fun e w'=>∃ A n c,e= .returned (.slice A n c)/\ShV H w' (A,n,c) s/\Below w.heap.size w w':=by
 refine (clI_any g.now (by rw [List.length_map];omega) (by intro u hu;obtain ⟨z,_,rfl⟩:=List.mem_map.1 hu;rfl)).mono ?_
 rintro e w' ⟨v',rfl,ho,hb⟩
 obtain ⟨a,c,rfl⟩:=ho.reads.len
 exact ⟨a,_,c,rfl,ho.keepsH hH,hb⟩
theorem wpList_push1' {ops:Array Oper}{rest:List Oper}{o:Oper}{a:Act}{Q:Exit->Act->World->Prop}{w:World} (hgd:o.guard=none) (s x:Operand) (t e:TypeId)
  (ho:o.op= .call { callee := .builtin .append,args:=#[s,x],argTypes:=#[t,t]}) (ht:Tryz.prog.underlying t=some (.slice e)) (z:Value) (bytes:Nat)
  (hinfo:(Tryz.prog.info? e).map (fun i=>(i.zero,i.size,i.bytes))=some (some z,1,bytes)) (hz:z.cells.size=1)
  (B:Nat) (v:Value) (xs:List Value) (hs:a.eval s=v) (hown:Own1 w B e v xs) (c:Value) (hc1:c.oneCell'=true)
  (G:Nat) (hG:G=w.heap.size) (hx:a.eval x= .slice (some ⟨G,0,none⟩) 1 1) (hl:(xs.length+1)*bytes<=140737488355328) (hl2:xs.length+1<=140737488355328) (hB:B<=w.heap.size)
  (h:∀ v' w',Own1 w' B e v' (xs++[c])->(∀ w0,Below B w0 w->Below B w0 w')->wpList Tryz.prog ops Q rest (a.put o.dst v') w'):wpList Tryz.prog ops Q (o::rest) a (w.alloc (.cells #[c] e)):=by
 subst hG
 exact wpList_push1 hgd s x t e ho ht z bytes hinfo hz B v xs hs hown c hc1 hx hl hl2 hB fun v' w' h1 h2 _ _=>h v' w' h1 h2
theorem Lat.set9 {H:Nat->Prop}{w:World}{G:Nat} (hG:H G) (a0 a1 a2 a3 a4 a5 a6 a7 a8:Value):Lat H w (set9 w G a0 a1 a2 a3 a4 a5 a6 a7 a8) :=
 (((((((((Lat.set (a:=⟨G,0,none⟩) hG a0).trans (Lat.set (a:=⟨G,1,none⟩) hG a1)).trans (Lat.set (a:=⟨G,2,none⟩) hG a2)).trans (Lat.set (a:=⟨G,3,none⟩) hG a3)).trans (Lat.set (a:=⟨G,4,none⟩) hG a4)).trans (Lat.set (a:=⟨G,5,none⟩) hG a5)).trans (Lat.set (a:=⟨G,6,none⟩) hG a6)).trans (Lat.set (a:=⟨G,7,none⟩) hG a7)).trans (Lat.set (a:=⟨G,8,none⟩) hG a8))
structure OfI (w:World) (h x:Sl) (f:Int) (W:World):Prop where
 res:W.heap[w.heap.size+1]?=some (.cells zeroL 59)
 arg:At3 W w.heap.size 0 h x f
 bel:Below w.heap.size w W
theorem OfI.step {w W W':World}{h x:Sl}{f:Int} (g:OfI w h x f W) (hb:Below W.heap.size W W'):OfI w h x f W' :=
 ⟨by rw [hb.block _ (lt_blk g.res)];exact g.res,g.arg.of fun j=>hb.cell (p:=⟨w.heap.size,j,none⟩) g.arg.lt,bel_both g.bel hb⟩
theorem OfI.more {w W W':World}{h x:Sl}{f:Int} (g:OfI w h x f W) (hb:Below (w.heap.size+2) W W'):OfI w h x f W' :=
 ⟨by rw [hb.block _ (by omega)];exact g.res,g.arg.of fun j=>hb.cell (p:=⟨w.heap.size,j,none⟩) (by show w.heap.size < _;omega),g.bel.trans (hb.mono (by omega))⟩
theorem OfI.sz {w W:World}{h x:Sl}{f:Int} (g:OfI w h x f W):w.heap.size+2<=W.heap.size:=lt_blk g.res
theorem OfI.new (w:World) (h x:Sl) (f:Int):OfI w h x f ((w.alloc (.cells #[sv h,sv x,.int .i64 f] 44)).alloc (.cells zeroL 59)):=by
 have h2:=heap_alloc_new (w.alloc (.cells #[sv h,sv x,.int .i64 f] 44)) (.cells zeroL 59)
 have s1:(w.alloc (.cells #[sv h,sv x,.int .i64 f] 44)).heap.size=w.heap.size+1:=by simp
 rw [s1] at h2
 have h3:=at3_new w h x f 44
 exact ⟨h2,h3.of fun j=>(bel1 _ _).cell (p:=⟨w.heap.size,j,none⟩) h3.lt,bel2 w _ _⟩
theorem zero_block {W:World}{G:Nat}{e:TypeId} (h:W.heap[G]?=some (.cells zeroL e)):At9 W G 0 nilS zeroP/\∀ j,W.frozen? ⟨G,j,none⟩=false:=at9_of (h:=nilS) (p:=zeroP) h
theorem tidF_zero:tidF 0=0:=by decide+kernel
theorem tid_getD (items:List RI):(fun j=>tidF ((items.map RI.numOf).getD j 0))=fun j=>(items.map fun t=>tidF t.numOf).getD j 0:=by
 funext j
 by_cases h:j < items.length
 ·simp [List.getD,h]
 ·simp [List.getD,h,tidF_zero]
theorem av_nums {H:Nat->Prop}{W:World}{sn:List Nat}{items:List RI}{hd:Sl}{p:V8}{m:Nat} (hm:m=items.length) (hs:ShV H W hd sn)
  (hk:Keeps H W (NumV p.v (leastF (fun j=>tidF ((items.map RI.numOf).getD j 0)) m:Nat) m (fun j=>tidF ((items.map RI.numOf).getD j 0)))):AV H W (clP (.mk (sn.map Int.ofNat) items 0)) hd p:=by
 have e:=hk.now.kindEq
 rw [clP,toNat_of,if_pos rfl,AV]
 subst hm
 rw [tid_getD] at hk e
 refine ⟨hs,.inl ⟨?_,?_⟩⟩
 ·rw [List.length_map]
  rw [<- e] at hk
  exact hk
 ·rw [List.length_map]
  exact e
theorem av_chars {H:Nat->Prop}{W:World}{sn:List Nat}{items:List RI}{hd c:Sl} (hs:ShV H W hd sn) (hk:RdH H W (sv c) ((items.map RI.charOf).map (Value.int .i32))):AV H W (clP (.mk (sn.map Int.ofNat) items 1)) hd (charsP c):=by
 rw [clP,toNat_of,if_neg (by decide),if_pos rfl,AV]
 exact ⟨hs,c,rfl,hk⟩
end Go.Proofs.YtbakjaliponbbaaGreatDoor
namespace Go.Proofs.YtbakjaliponbbaaGreatDoor
open Go Go.RowKit Go.Proofs Fl
theorem of_0 (H:Nat->Prop) (d:Nat) (hd:d<=40) (sn:List Nat) (items:List RI) (h x:Sl) (w:World) (hH:∀ b,H b->b < w.heap.size) (hok:OkIs (d+1) 0 items) (hsn:OkSh sn items.length) (hM:cntP (.mk (sn.map Int.ofNat) items 0)<=1000000) (hr:PV H w (.mk (sn.map Int.ofNat) items 0) h x 0) :
  Calls Tryz.prog 100 #[plV h x 0,.int .i64 ((d+1:Nat):Int)] w (AvR H w (clP (.mk (sn.map Int.ofNat) items 0))):=by
 obtain ⟨hsr,_,hx,hit⟩:=hr.open_
 obtain ⟨A,m,cc⟩:=x
 dsimp only at hx hit
 have hsz:cntP (.mk (sn.map Int.ofNat) items 0)=items.length+(sn.map Int.ofNat).length+1+cntIs items:=by rw [cntP]
 rw [hsz,List.length_map] at hM
 have hsh:ShV H w h sn:=by rw [List.map_map] at hsr;exact hsr
 have HK:=Lib.hid hit
 have HMI:=Lib.hid hx
 have HSH:=Lib.hid hsh
 have hmb:m<=1000000:=by omega
 have HOKI:Hid (∀ i (hi:i < items.length),OkI (d+1) 0 items[i]):=fun i hi=>okIs_at hi hok
 have hpe:prodE sn 1048576=((m:Int),0):=by rw [hx];exact prodE_ok hsn (by omega)
 have HPR:Hid (∀ W,Below w.heap.size w W->Calls Tryz.prog 150 #[sv h,.int .i64 1048576] W fun e w'=>e= .returned (.tuple #[.int .i64 (m:Int),.int .i64 0])/\W=w'):=fun W hb=>by
  have h1:=product_any (sv h) sn 1048576 W (hsh.step hb).now (by omega)
  rw [hpe] at h1
  exact h1
 have HI0:=Lib.hid (OfI.new w h (A,m,cc) 0)
 obtain ⟨z,hz⟩:∃ z:Int,z=((d+1:Nat):Int):=⟨_,rfl⟩
 rw [<- hz]
 have hz0:(z==0)=false:=by simp;omega
 have hne:((m:Int) != (m:Int))=false:=by simp
 have HLN:Hid (sn.length<=1048576):=by unfold Hid;omega
 clear hz hx hsz hM hit hok hsr hr hsn hpe hsh hd
 go_enter Tryz.func100,Tryz.ntmps100
 obtain ⟨c0,c1,c2⟩:=HI0.out.arg
 dsimp only [sv] at c1
 go_wp2_with fail
 refine (HPR.out _ HI0.out.bel).mono ?_
 rintro e w1 ⟨rfl,rfl⟩
 generalize hW:(w.alloc (.cells #[sv h,.slice A m cc,.int .i64 0] 44)).alloc (.cells zeroL 59)=W at *
 clear hW HPR
 go_wp2
 clear c0 c1 c2
 go_loopw [8,49] (fun v iv wr=>∃ (i:Nat) (vA:Option Addr) (vn vc:Nat),i<=m/\iv= .int .i64 (i:Int)/\v= .slice vA vn vc/\Own1 wr (w.heap.size+2) 96 (.slice vA vn vc) ((items.take i).map fun t => .float .f64 t.numOf)/\OfI w h (A,m,cc) 0 wr) (fun _ iv _=>m - (intOf iv).toNat)
 case atStart=>exact ⟨0,none,0,0,Nat.zero_le _,rfl,rfl,Own1.nil _ _ _,HI0.out⟩
 case round =>
  obtain ⟨i,vA,vn,vc,hi,rfl,rfl,hown,hofi⟩:=hrel
  have HOWN:=Lib.hid hown
  have HOF:=Lib.hid hofi
  obtain ⟨c0,c1,c2⟩:=hofi.arg
  dsimp only [sv] at c1
  clear hown hofi
  by_cases him:i < m
  ·have him2:(i:Int) < (m:Int):=by omega
   have hik:i < items.length:=by have:=HMI.out;omega
   obtain ⟨b,o,k',n',c',y,rfl,-,hiv,hat⟩:=HK.out i hik
   have HTK:Hid (items.take (i+1)=items.take i++[items[i]]):=List.take_succ_eq_append_getElem hik
   have HOI:=Lib.hid (HOKI.out i hik)
   have hlb:(items.take i).length<=1000000:=by rw [List.length_take];omega
   have HLB:=Lib.hid hlb
   clear hlb
   generalize items[i]=it at hiv HTK HOI
   cases it with
   | mk kind num char box =>
   obtain ⟨rfl,rfl,rfl,hy,hbx⟩:=hiv.open_
   obtain ⟨yA,ym,yc⟩:=y
   obtain ⟨d0,d1,d2,d3⟩:=hat wr (Lat.below HOF.out.bel)
   dsimp only [sv] at d3
   have hk0:=HOI.out
   rw [OkI] at hk0
   obtain ⟨rfl,hkn,hkb⟩:=hk0
   have hst:=fun md=>st_item wr 0 0 n' 0 (.slice none 0 0) 106 md
   have g0:=fun o=>cell_box1 c0 o
   have g1:=fun o=>cell_box1 c1 o
   have g2:=fun o=>cell_box1 c2 o
   clear hy hbx hat hiv hkn hkb
   obtain ⟨XB,hXB⟩:∃ XB:Obj,XB= .cells #[.int .i64 0,.float .f64 n',.int .i32 c',.slice yA ym yc] 106:=⟨_,rfl⟩
   have HW1:=Lib.hid (HOF.out.step (bel1 wr XB))
   have HO1:=Lib.hid (HOWN.out.below (bel1 wr XB))
   have HGG:Hid (wr.heap.size+1=(wr.alloc XB).heap.size):=by unfold Hid;simp
   have HSZ:Hid (w.heap.size+2<=(wr.alloc XB).heap.size):=HW1.out.sz
   have HL1:Hid ((((items.take i).map fun t=>Value.float .f64 t.numOf).length+1)*8<=140737488355328):=by unfold Hid;have:=HLB.out;rw [List.length_map];omega
   have HL2:Hid (((items.take i).map fun t=>Value.float .f64 t.numOf).length+1<=140737488355328):=by unfold Hid;have:=HLB.out;rw [List.length_map];omega
   subst hXB
   go_wp2_with (at_builtin;go_loud (refine wpList_push1' rfl (.tmp 63) (.tmp 66) 26 96 rfl Tryz.underlying26 (.float .f64 0) 8 info_f64 rfl (w.heap.size+2) (.slice vA vn vc) ((items.take i).map fun t=>Value.float .f64 t.numOf) rfl HO1.out (.float .f64 n') rfl (wr.heap.size+1) HGG.out rfl HL1.out HL2.out HSZ.out ?_);intro v' w' hown' hbw;(obtain ⟨vA',vn',vc',hvn'⟩:∃ A n c,v'= .slice A n c:=by (obtain ⟨a,c,e⟩:=hown'.reads.len;exact ⟨a,_,c,e⟩));subst hvn';have HV:=Lib.hid hown';have HOF2:=Lib.hid (HW1.out.more (hbw _ (Below.refl _ _)));clear hown' hbw)
   go_roundw
   case rel=>exact ⟨i+1,vA',vn',vc',by omega,by go_num,rfl,by rw [HTK.out,List.map_append];exact HV.out,HOF2.out⟩
   case measure=>simp [intOf];omega
  ·have hge:¬ (i:Int) < (m:Int):=by omega
   obtain rfl:i=m:=by omega
   have HTL:Hid (items.take i=items):=by unfold Hid;rw [HMI.out];exact List.take_length
   rw [HTL.out] at HOWN
   have HRD:Hid (Reads1 wr (.slice vA vn vc) ((List.range i).map fun j => .float .f64 ((items.map RI.numOf).getD j 0))):=by
    unfold Hid
    have h1:=HOWN.out.reads
    have h2:=map_range_getD (items.map RI.numOf) 0 (Value.float .f64)
    rw [List.length_map,<- HMI.out,List.map_map] at h2
    rw [h2];exact h1
   have HG:Hid (∀ j,j < i->okF ((items.map RI.numOf).getD j 0)=true/\(items.map RI.numOf).getD j 0 < 18446744073709551616):=fun j hj=>by
    have hji:j < items.length:=by have:=HMI.out;omega
    have h1:=HOKI.out j hji
    have e:(items.map RI.numOf).getD j 0=items[j].numOf:=by simp [List.getD,hji]
    rw [e]
    generalize items[j]=it at h1
    cases it with
    | mk k n c box =>
     rw [OkI] at h1
     exact h1.2.1 h1.1
   have HN:=Lib.hid (numbers_tid (fun b=>H b\/b=w.heap.size+1) (.slice vA vn vc) i (fun j=>(items.map RI.numOf).getD j 0) wr (fun b e=>by
    have h1:=HOF.out.sz
    rcases e with e | e
    ·have:=hH b e;omega
    ·omega) HRD.out (by omega) (fun j hj=>(HG.out j hj).2) (fun j hj=>(HG.out j hj).1))
   unfold Vec2R at HN
   go_wp2_with fail
   refine HN.out.mono ?_
   rintro e w2 ⟨k4,b4,bn4,s4,i4,f4,c4,x4,rfl,hkv,hb2⟩
   obtain ⟨p,hp⟩:∃ p:V8,p=⟨k4,b4,bn4,s4,i4,f4,c4,x4⟩:=⟨_,rfl⟩
   have hkv2:Keeps (fun b=>H b\/b=w.heap.size+1) w2 (NumV p.v (leastF (fun j=>tidF ((items.map RI.numOf).getD j 0)) i:Nat) i (fun j=>tidF ((items.map RI.numOf).getD j 0))):=by rw [hp];exact hkv
   clear hkv HN HRD HG
   have hkv:=hkv2
   clear hkv2
   have HOF3:=Lib.hid ((HOF.out.step hb2).step (bel1 w2 p.o))
   obtain ⟨y0,y1,y2⟩:=(HOF.out.step hb2).arg
   have gy2:=fun o=>cell_box1 y2 o
   have HB3:=Lib.hid (bel_both hb2 (bel1 w2 p.o))
   have HKV:=Lib.hid (Keeps.lat hkv (Lat.below (bel1 w2 p.o)))
   have HBP:=Lib.hid (boxP_new w2 p)
   obtain ⟨W3,hW3⟩:∃ W3,W3=w2.alloc p.o:=⟨_,rfl⟩
   rw [<- hW3] at HOF3 HB3 HKV HBP
   have HH1:Hid (∀ W:World,W3.heap.size<=W.heap.size->∀ b,(H b\/b=w.heap.size+1)->b < W.heap.size):=fun W hW b e=>by
    have h1:=OfI.sz (Hid.out HOF3)
    rcases e with e | e
    ·have:=hH b e;omega
    ·omega
   have HSH1:Hid (∀ W:World,Below W3.heap.size W3 W->ShV (fun b=>H b\/b=w.heap.size+1) W h sn):=fun W hb=>Keeps.lat (Keeps.lat (Keeps.sub HSH.out (fun b hb e=>by
    rcases e with e | e
    ·exact e
    ·omega)) (Lat.below HOF3.out.bel)) (Lat.below hb)
   have HCL:=Lib.hid (fun W (hb:Below W3.heap.size W3 W)=>clSh_any (HSH1.out W hb) HLN.out (HH1.out W hb.size))
   clear hb2 hkv c0 c1 c2
   subst hp
   dsimp only [V8.o] at hW3
   go_wp2
   rw [<- hW3]
   obtain ⟨a0,a1,a2⟩:=HOF3.out.arg
   obtain ⟨⟨z0,z1,z2,z3,z4,z5,z6,z7,z8⟩,zz⟩:=zero_block HOF3.out.res
   obtain ⟨p0,p1,p2,p3,p4,p5,p6,p7⟩:=(show Boxed W3 w2.heap.size k4 (.slice b4.1 b4.2.1 b4.2.2) bn4 (.slice s4.1 s4.2.1 s4.2.2) (.slice i4.1 i4.2.1 i4.2.2) (.slice f4.1 f4.2.1 f4.2.2) (.slice c4.1 c4.2.1 c4.2.2) (.slice x4.1 x4.2.1 x4.2.2) from HBP.out)
   have hl1:w2.heap.size < W3.heap.size:=HBP.out.lt
   have hl2:w.heap.size+1 < W3.heap.size:=lt_blk HOF3.out.res
   have hl3:w.heap.size < W3.heap.size:=by omega
   clear hW3 gy2 y0 y1 y2
   go_region_with (go_at_call 134;((with_reducible refine (HCL.out _ ?_).mono ?_);(repeat (first | (with_reducible assumption) | (with_reducible exact Below.refl _ _) | (with_reducible refine Below.drew ?_)));rintro e wa ⟨cA,cn,ccc,rfl,hsh,hba⟩);have HBa:=Lib.hid (bel_both (show Below W3.heap.size W3 W3.drew from (Below.refl _ _).drew) hba);have HOFa:=Lib.hid (HOF3.out.step HBa.out);(obtain ⟨⟨y0,y1,y2,y3,y4,y5,y6,y7,y8⟩,yy⟩:=zero_block HOFa.out.res);(obtain ⟨q0,q1,q2,q3,q4,q5,q6,q7⟩:=(show Boxed wa w2.heap.size k4 (.slice b4.1 b4.2.1 b4.2.2) bn4 (.slice s4.1 s4.2.1 s4.2.2) (.slice i4.1 i4.2.1 i4.2.2) (.slice f4.1 f4.2.1 f4.2.2) (.slice c4.1 c4.2.1 c4.2.2) (.slice x4.1 x4.2.1 x4.2.2) from HBP.out.below HBa.out));have HSHa:=Lib.hid hsh;clear hba hsh)
   all_goals
    go_wp2
    refine bodyPost_ret (v := .tuple #[arrV (cA,cn,ccc) ⟨k4,b4,bn4,s4,i4,f4,c4,x4⟩,.int .i64 0]) ?_ rfl ⟨(cA,cn,ccc),⟨k4,b4,bn4,s4,i4,f4,c4,x4⟩,rfl,av_nums HMI.out (Keeps.sub (Keeps.lat HSHa.out (Lat.set9 (G:=w.heap.size+1) (.inr rfl) _ _ _ _ _ _ _ _ _)) (fun _ _ e => .inl e)) (Keeps.sub (Keeps.lat (Keeps.lat HKV.out (Lat.below HBa.out)) (Lat.set9 (G:=w.heap.size+1) (.inr rfl) _ _ _ _ _ _ _ _ _)) (fun _ _ e => .inl e)),below_set9 HOFa.out.bel (Nat.le_succ _) _ _ _ _ _ _ _ _ _⟩
    exact ret_arr2 (fn:=Tryz.f100) (p:=4) (u:=5) rfl _ _ (w.heap.size+1) (by rfl) (set9_block HOFa.out.res _ _ _ _ _ _ _ _ _)
end Go.Proofs.YtbakjaliponbbaaGreatDoor
