/- A slice appended to a row that the call owns; rows of packed Vecs; the walk of flat.joined at packed truths. The walk of flat.Join at packed truths, and at .. Conditions: as each theorem says. -/
import Derived.Test.YtakgmnafbjdccaaGreatDoorMg28
import Derived.Test.YtakgmnafbjdccaaGreatDoorMg09
import Derived.Test.YtakgmnafbjdccaaGreatDoorMg14
import Derived.Test.YtakgmnafbjdccaaGreatDoorMg23
set_option maxHeartbeats 400000
namespace Go.Proofs.YtakgmnafbjdccaaGreatDoor
open Go Go.RowKit Go.Proofs Fl
theorem wpList_pushL {ops:Array Oper}{rest:List Oper}{o:Oper}{a:Act}{Q:Exit->Act->World->Prop}{w:World} (hgd:o.guard=none) (s x:Operand) (t e:TypeId)
  (ho:o.op= .call { callee := .builtin .append,args:=#[s,x],argTypes:=#[t,t]}) (ht:Tryz.prog.underlying t=some (.slice e)) (z:Value) (bytes:Nat)
  (hinfo:(Tryz.prog.info? e).map (fun i=>(i.zero,i.size,i.bytes))=some (some z,1,bytes)) (hz:z.cells.size=1)
  (B:Nat) (v:Value) (xs:List Value) (hs:a.eval s=v) (hown:Own1 w B e v xs) (b f m c:Nat) (ys:List Value) (hm:ys.length=m) (hx:a.eval x= .slice (some ⟨b,f,none⟩) m c)
  (hc:∀ i (h:i < ys.length),w.cell? ⟨b,f+i,none⟩=some ys[i]) (h1:∀ u∈ys,u.oneCell'=true) (hl:(xs.length+m)*bytes<=140737488355328) (hl2:xs.length+m<=140737488355328) (hB:B<=w.heap.size)
  (h:∀ v' w',Own1 w' B e v' (xs++ys)->(∀ w0,Below B w0 w->Below B w0 w')->(∀ g,g < B->w'.heap[g]?=w.heap[g]?)->w.heap.size<=w'.heap.size ->
   wpList Tryz.prog ops Q rest (a.put o.dst v') w'):wpList Tryz.prog ops Q (o::rest) a w:=by
 obtain ⟨i0,hi0,hz0,hz1,hz2⟩:=info_parts hinfo
 refine wpList_append_own_at _ hgd s x t ho B e i0 z 1 bytes ht hi0 hz0 hz1 hz2 hz (by omega) v xs.length _ hs
  hown ⟨b,f,none⟩ m c ys hx (by rw [hm,Nat.mul_one]) ?_ h1 (by unfold maxLen;omega) hl hB ?_
 ·intro j u hj
  obtain ⟨hlt,rfl⟩:=List.getElem?_eq_some_iff.1 hj
  rw [<- hc j hlt]
  unfold Addr.add;split
  ·rename_i h0;subst h0;rfl
  ·rfl
 intro v' w' hown' hg _ _
 have hlow:=World.ownsRow.lt hown
 refine h v' w' ?_ ?_ ?_ hg.size
 ·unfold Own1
  rw [List.length_append,hm]
  exact hown'
 ·intro w0 hb
  exact hb.grown hg hB fun k hk=>(hlow k hk).1
 ·intro g hgB
  refine hg.block g (Nat.lt_of_lt_of_le hgB hB) fun e=>?_
  have:=(hlow g e.symm).1
  omega
theorem own_open {w:World}{B:Nat}{e:TypeId}{v:Value}{n:Nat}{F:Nat->Value} (h:Own1 w B e v ((List.range n).map F)) (hn:1<=n) :
  ∃ g c,v= .slice (some ⟨g,0,none⟩) n c/\n<=c/\∀ i,i < n->w.cell? ⟨g,i,none⟩=some (F i):=by
 have h0:=h
 unfold Own1 at h
 rw [List.length_map,List.length_range] at h
 rcases h.2 with ⟨_,e⟩ | ⟨g,cap,cur,hv,hbg,hg,hnc,_⟩
 ·omega
 ·subst hv
  exact ⟨g,cap,rfl,hnc,fun i hi=>own_cell h0 i hi⟩
def VBits (w:World) (g m n:Nat) (L:Nat->Nat->Bool) (S:Nat->Sl):Prop :=
 ∀ j,j < m->w.cell? ⟨g,j*8,none⟩=some (.int .i64 1)/\w.cell? ⟨g,j*8+1,none⟩=some (.slice (S j).1 (S j).2.1 (S j).2.2)/\w.cell? ⟨g,j*8+2,none⟩=some (.int .i64 (n:Int)) /\
  w.cell? ⟨g,j*8+3,none⟩=some vnil/\w.cell? ⟨g,j*8+4,none⟩=some vnil/\w.cell? ⟨g,j*8+5,none⟩=some vnil/\w.cell? ⟨g,j*8+6,none⟩=some vnil/\w.cell? ⟨g,j*8+7,none⟩=some vnil /\
  BitsIn w (.agg #[.slice (S j).1 (S j).2.1 (S j).2.2,.int .i64 (n:Int)]) n (L j)
theorem VBits.below {w w':World}{g m n:Nat}{L:Nat->Nat->Bool}{S:Nat->Sl} (h:VBits w g m n L S) (hb:Below w.heap.size w w'):VBits w' g m n L S:=fun j hj=>by
 obtain ⟨c0,c1,c2,c3,c4,c5,c6,c7,hbi⟩:=h j hj
 exact ⟨by rw [hb.cell (cell_lt c0)];exact c0,by rw [hb.cell (cell_lt c1)];exact c1,by rw [hb.cell (cell_lt c2)];exact c2,by rw [hb.cell (cell_lt c3)];exact c3,by rw [hb.cell (cell_lt c4)];exact c4,
  by rw [hb.cell (cell_lt c5)];exact c5,by rw [hb.cell (cell_lt c6)];exact c6,by rw [hb.cell (cell_lt c7)];exact c7,hbi.below hb⟩
theorem none_num (w:World):Calls Tryz.prog 83 #[.int .i64 0] w fun e w'=>e= .returned (vecV 1 vnil 0 vnil vnil vnil vnil vnil)/\Below w.heap.size w w':=by
 have HK:=Lib.hid (heap_alloc_new w (.cells zcells 38))
 go_enter Tryz.func83,Tryz.ntmps83
 go_wp2_with fail
 refine (vbits_any none 0 0 0 _).mono ?_
 rintro e w2 ⟨rfl,hb2⟩
 have HB2:=Lib.hid (bel_both (bel1 w _) hb2)
 have HK2:=Lib.hid (show w2.heap[w.heap.size]?=some (.cells zcells 38) by rw [hb2.block _ (lt_of_block HK.out)];exact HK.out)
 clear hb2 HK
 obtain ⟨⟨h0,h1,h2,h3,h4,h5,h6,h7⟩,hz⟩:=boxed_of HK2.out
 go_wp2
 exact bodyPost_ret (ret_vec rfl _ _ _ rfl (set8_block HK2.out _ _ _ _ _ _ _ _)) rfl ⟨rfl,below_set8 HB2.out (Nat.le_refl _) _ _ _ _ _ _ _ _⟩
theorem join_none (a:Option Addr) (c:Nat) (w:World):Calls Tryz.prog 71 #[.slice a 0 c] w fun e w'=>e= .returned (.tuple #[vecV 1 vnil 0 vnil vnil vnil vnil vnil,.bool true])/\Below w.heap.size w w':=by
 have HK:=Lib.hid (heap_alloc_new w (.cells zcells 38))
 go_enter Tryz.func71,Tryz.ntmps71
 go_wp2_with fail
 go_loopw [4,11] (fun cc jj wr=>cc= .int .i64 (-1)/\jj= .int .i64 0/\wr=w.alloc (.cells zcells 38)) (fun _ _ _=>0)
 case atStart=>exact ⟨rfl,rfl,rfl⟩
 case round =>
  obtain ⟨rfl,rfl,rfl⟩:=hrel
  go_wp2_with fail
  refine (none_num _).mono ?_
  rintro e w2 ⟨rfl,hb2⟩
  have HB2:=Lib.hid (bel_both (bel1 w _) hb2)
  have HK2:=Lib.hid (show w2.heap[w.heap.size]?=some (.cells zcells 38) by rw [hb2.block _ (lt_of_block HK.out)];exact HK.out)
  clear hb2 HK
  obtain ⟨⟨h0,h1,h2,h3,h4,h5,h6,h7⟩,hz⟩:=boxed_of HK2.out
  go_wp2
  refine bodyPost_ret (v := .tuple #[vecV 1 vnil 0 vnil vnil vnil vnil vnil,.bool true]) ?_ rfl ⟨rfl,below_set8 HB2.out (Nat.le_refl _) _ _ _ _ _ _ _ _⟩
  exact ret_vec2 (fn:=Tryz.f71) (p:=2) (u:=3) rfl _ _ w.heap.size (by rfl) (set8_block HK2.out _ _ _ _ _ _ _ _)
theorem info_vec:(Tryz.prog.info? 38).map (fun i=>(i.zero,i.size,i.bytes))=some (some (.agg zcells),8,160):=by kernel_rfl
theorem run_make_vecs (n:Nat) (hn:n<=1000000) (w:World) :
  (Instr.makeSlice 105 (.int .i64 (n:Int)) (.int .i64 (n:Int))).run Tryz.prog w= .ok (.slice (some ⟨w.heap.size,0,none⟩) n n) (w.alloc (.cells (madeCells zcells (n*8)) 38)):=by
 obtain ⟨i0,hi0,hz0,hz1,hz2⟩:=info_parts info_vec
 have hr:=run_make (P:=Tryz.prog) w 105 38 i0 _ Tryz.underlying105 hi0 hz0 .i64 .i64 (n:Int) (n:Int) (by omega) (Int.le_refl _) (by rw [hz2];omega) (by omega)
 rw [hz1] at hr
 simp only [Int.toNat_natCast] at hr
 exact hr
def VIs (cs:Array Value) (j:Nat) (k:Int) (s:Sl) (n:Int):Prop :=
 cs[j*8]?=some (.int .i64 k)/\cs[j*8+1]?=some (.slice s.1 s.2.1 s.2.2)/\cs[j*8+2]?=some (.int .i64 n)/\cs[j*8+3]?=some vnil/\cs[j*8+4]?=some vnil/\cs[j*8+5]?=some vnil/\cs[j*8+6]?=some vnil/\cs[j*8+7]?=some vnil
def VFill (w:World) (g m n i:Nat) (S:Nat->Sl):Prop :=
 ∃ cs,w.heap[g]?=some (.cells cs 38)/\cs.size=m*8/\(∀ j,j < i->VIs cs j 1 (S j) n)/\∀ j,i<=j->j < m->VIs cs j 0 (none,0,0) 0
theorem made_at (m j k:Nat) (hj:j < m) (hk:k < 8):(madeCells zcells (m*8))[j*8+k]?=zcells[k]?:=by
 have h1:j*8+k < m*8:=by omega
 have h2:(j*8+k) % 8=k:=by omega
 have h3:zcells.size=8:=rfl
 simp [madeCells,h1,h3,h2]
 match k,hk with
 | 0,_=>rfl
 | 1,_=>rfl
 | 2,_=>rfl
 | 3,_=>rfl
 | 4,_=>rfl
 | 5,_=>rfl
 | 6,_=>rfl
 | 7,_=>rfl
theorem VFill.made (w:World) (m n:Nat) (S:Nat->Sl):VFill (w.alloc (.cells (madeCells zcells (m*8)) 38)) w.heap.size m n 0 S:=by
 refine ⟨_,heap_alloc_new w _,size_madeCells _ _,fun j hj=>absurd hj (Nat.not_lt_zero _),fun j _ hj=>?_⟩
 have h:=fun k hk=>made_at m j k hj hk
 exact ⟨h 0 (by omega),h 1 (by omega),h 2 (by omega),h 3 (by omega),h 4 (by omega),h 5 (by omega),h 6 (by omega),h 7 (by omega)⟩
abbrev set8o (w:World) (G o:Nat) (a0 a1 a2 a3 a4 a5 a6 a7:Value):World :=
 (((((((w.setCell ⟨G,o,none⟩ a0).setCell ⟨G,o+1,none⟩ a1).setCell ⟨G,o+2,none⟩ a2).setCell ⟨G,o+3,none⟩ a3).setCell ⟨G,o+4,none⟩ a4).setCell ⟨G,o+5,none⟩ a5).setCell ⟨G,o+6,none⟩ a6).setCell ⟨G,o+7,none⟩ a7
abbrev arr8 (cs:Array Value) (o:Nat) (a0 a1 a2 a3 a4 a5 a6 a7:Value):Array Value :=
 (((((((cs.setIfInBounds o a0).setIfInBounds (o+1) a1).setIfInBounds (o+2) a2).setIfInBounds (o+3) a3).setIfInBounds (o+4) a4).setIfInBounds (o+5) a5).setIfInBounds (o+6) a6).setIfInBounds (o+7) a7
theorem set8o_block {w:World}{G o:Nat}{cs:Array Value}{e:TypeId} (h:w.heap[G]?=some (.cells cs e)) (a0 a1 a2 a3 a4 a5 a6 a7:Value) :
  (set8o w G o a0 a1 a2 a3 a4 a5 a6 a7).heap[G]?=some (.cells (arr8 cs o a0 a1 a2 a3 a4 a5 a6 a7) e) :=
 heap_setCell_same _ G (o+7) _ e a7 (heap_setCell_same _ G (o+6) _ e a6 (heap_setCell_same _ G (o+5) _ e a5 (heap_setCell_same _ G (o+4) _ e a4 (heap_setCell_same _ G (o+3) _ e a3 (heap_setCell_same _ G (o+2) _ e a2 (heap_setCell_same _ G (o+1) _ e a1 (heap_setCell_same _ G o _ e a0 h)))))))
theorem arr8_size (cs:Array Value) (o:Nat) (a0 a1 a2 a3 a4 a5 a6 a7:Value):(arr8 cs o a0 a1 a2 a3 a4 a5 a6 a7).size=cs.size:=by simp
theorem arr8_off (cs:Array Value) (o p:Nat) (h:p < o\/o+8<=p) (a0 a1 a2 a3 a4 a5 a6 a7:Value):(arr8 cs o a0 a1 a2 a3 a4 a5 a6 a7)[p]?=cs[p]?:=by
 rw [Array.getElem?_setIfInBounds_ne (by omega),Array.getElem?_setIfInBounds_ne (by omega),Array.getElem?_setIfInBounds_ne (by omega),Array.getElem?_setIfInBounds_ne (by omega),Array.getElem?_setIfInBounds_ne (by omega),Array.getElem?_setIfInBounds_ne (by omega),Array.getElem?_setIfInBounds_ne (by omega),Array.getElem?_setIfInBounds_ne (by omega)]
theorem arr8_on (cs:Array Value) (o:Nat) (h:o+8<=cs.size) (a0 a1 a2 a3 a4 a5 a6 a7:Value) :
  (arr8 cs o a0 a1 a2 a3 a4 a5 a6 a7)[o]?=some a0/\(arr8 cs o a0 a1 a2 a3 a4 a5 a6 a7)[o+1]?=some a1/\(arr8 cs o a0 a1 a2 a3 a4 a5 a6 a7)[o+2]?=some a2/\(arr8 cs o a0 a1 a2 a3 a4 a5 a6 a7)[o+3]?=some a3 /\
  (arr8 cs o a0 a1 a2 a3 a4 a5 a6 a7)[o+4]?=some a4/\(arr8 cs o a0 a1 a2 a3 a4 a5 a6 a7)[o+5]?=some a5/\(arr8 cs o a0 a1 a2 a3 a4 a5 a6 a7)[o+6]?=some a6/\(arr8 cs o a0 a1 a2 a3 a4 a5 a6 a7)[o+7]?=some a7:=by
 refine ⟨?_,?_,?_,?_,?_,?_,?_,?_⟩ <;>
 ·repeat rw [Array.getElem?_setIfInBounds_ne (by omega)]
  exact Array.getElem?_setIfInBounds_self_of_lt (by first | omega | (simp;omega))
theorem VFill.put {w:World}{g m n i:Nat}{S:Nat->Sl} (h:VFill w g m n i S) (hi:i < m){S':Nat->Sl} (hS:∀ j,j < i->S' j=S j) :
  VFill (set8o w g (i*8) (.int .i64 1) (.slice (S' i).1 (S' i).2.1 (S' i).2.2) (.int .i64 n) vnil vnil vnil vnil vnil) g m n (i+1) S':=by
 obtain ⟨cs,hg,hs,h1,h2⟩:=h
 refine ⟨_,set8o_block hg _ _ _ _ _ _ _ _,by rw [arr8_size];exact hs,fun j hj=>?_,fun j hj hjm=>?_⟩
 ·by_cases e:j=i
  ·subst e
   exact arr8_on cs (j*8) (by omega) _ _ _ _ _ _ _ _
  ·obtain ⟨c0,c1,c2,c3,c4,c5,c6,c7⟩:=h1 j (by omega)
   unfold VIs
   rw [hS j (by omega),arr8_off _ _ _ (by omega),arr8_off _ _ _ (by omega),arr8_off _ _ _ (by omega),arr8_off _ _ _ (by omega),arr8_off _ _ _ (by omega),arr8_off _ _ _ (by omega),arr8_off _ _ _ (by omega),arr8_off _ _ _ (by omega)]
   exact ⟨c0,c1,c2,c3,c4,c5,c6,c7⟩
 ·obtain ⟨c0,c1,c2,c3,c4,c5,c6,c7⟩:=h2 j (by omega) hjm
  unfold VIs
  rw [arr8_off _ _ _ (by omega),arr8_off _ _ _ (by omega),arr8_off _ _ _ (by omega),arr8_off _ _ _ (by omega),arr8_off _ _ _ (by omega),arr8_off _ _ _ (by omega),arr8_off _ _ _ (by omega),arr8_off _ _ _ (by omega)]
  exact ⟨c0,c1,c2,c3,c4,c5,c6,c7⟩
theorem VFill.below {w w':World}{g m n i:Nat}{S:Nat->Sl} (h:VFill w g m n i S) (hb:Below w.heap.size w w'):VFill w' g m n i S:=by
 obtain ⟨cs,hg,r⟩:=h
 exact ⟨cs,by rw [hb.block _ (lt_of_block hg)];exact hg,r⟩
theorem VFill.lt {w:World}{g m n i:Nat}{S:Nat->Sl} (h:VFill w g m n i S):g < w.heap.size:=by
 obtain ⟨cs,hg,_⟩:=h
 exact lt_of_block hg
theorem VFill.open {w:World}{g m n i:Nat}{S:Nat->Sl} (h:VFill w g m n i S) (hi:i < m) :
  w.cell? ⟨g,i*8,none⟩=some (.int .i64 0)/\w.cell? ⟨g,i*8+1,none⟩=some vnil/\w.cell? ⟨g,i*8+2,none⟩=some (.int .i64 0)/\w.cell? ⟨g,i*8+3,none⟩=some vnil /\
  w.cell? ⟨g,i*8+4,none⟩=some vnil/\w.cell? ⟨g,i*8+5,none⟩=some vnil/\w.cell? ⟨g,i*8+6,none⟩=some vnil/\w.cell? ⟨g,i*8+7,none⟩=some vnil/\∀ p,w.frozen? ⟨g,p,none⟩=false:=by
 obtain ⟨cs,hg,hs,_,h2⟩:=h
 obtain ⟨c0,c1,c2,c3,c4,c5,c6,c7⟩:=h2 i (Nat.le_refl _) hi
 exact ⟨by rw [cell_of_row _ g _ _ _ (0,0) hg];exact c0,by rw [cell_of_row _ g _ _ _ (0,0) hg];exact c1,by rw [cell_of_row _ g _ _ _ (0,0) hg];exact c2,by rw [cell_of_row _ g _ _ _ (0,0) hg];exact c3,
  by rw [cell_of_row _ g _ _ _ (0,0) hg];exact c4,by rw [cell_of_row _ g _ _ _ (0,0) hg];exact c5,by rw [cell_of_row _ g _ _ _ (0,0) hg];exact c6,by rw [cell_of_row _ g _ _ _ (0,0) hg];exact c7,fun p=>frozen_of_row _ _ p _ _ hg⟩
theorem VFill.bits {w:World}{g m n:Nat}{S:Nat->Sl}{L:Nat->Nat->Bool} (h:VFill w g m n m S) (hb:∀ j,j < m->BitsIn w (.agg #[.slice (S j).1 (S j).2.1 (S j).2.2,.int .i64 (n:Int)]) n (L j)):VBits w g m n L S:=by
 obtain ⟨cs,hg,hs,h1,_⟩:=h
 intro j hj
 obtain ⟨c0,c1,c2,c3,c4,c5,c6,c7⟩:=h1 j hj
 exact ⟨by rw [cell_of_row _ g _ _ _ (0,0) hg];exact c0,by rw [cell_of_row _ g _ _ _ (0,0) hg];exact c1,by rw [cell_of_row _ g _ _ _ (0,0) hg];exact c2,by rw [cell_of_row _ g _ _ _ (0,0) hg];exact c3,
  by rw [cell_of_row _ g _ _ _ (0,0) hg];exact c4,by rw [cell_of_row _ g _ _ _ (0,0) hg];exact c5,by rw [cell_of_row _ g _ _ _ (0,0) hg];exact c6,by rw [cell_of_row _ g _ _ _ (0,0) hg];exact c7,hb j hj⟩
theorem below_set8o {B:Nat}{w0 w:World} (h:Below B w0 w){G:Nat} (hG:B<=G) (o:Nat) (a0 a1 a2 a3 a4 a5 a6 a7:Value):Below B w0 (set8o w G o a0 a1 a2 a3 a4 a5 a6 a7) :=
 (((((((h.setCell hG _).setCell hG _).setCell hG _).setCell hG _).setCell hG _).setCell hG _).setCell hG _).setCell hG _
theorem own_set8o {w:World}{B:Nat}{e:TypeId}{v:Value}{xs:List Value} (h:Own1 w B e v xs){G:Nat} (hG:v.ownBlock≠some G) (o:Nat) (a0 a1 a2 a3 a4 a5 a6 a7:Value):Own1 (set8o w G o a0 a1 a2 a3 a4 a5 a6 a7) B e v xs:=by
 unfold Own1 at *
 exact ownsRow_setCell_other (ownsRow_setCell_other (ownsRow_setCell_other (ownsRow_setCell_other (ownsRow_setCell_other (ownsRow_setCell_other (ownsRow_setCell_other (ownsRow_setCell_other h hG _) hG _) hG _) hG _) hG _) hG _) hG _) hG _
def VIs8 (cs:Array Value) (o:Nat) (p:V8):Prop :=
 cs[o]?=some (.int .i64 p.k)/\cs[o+1]?=some (sv p.b)/\cs[o+2]?=some (.int .i64 p.bn)/\cs[o+3]?=some (sv p.s)/\cs[o+4]?=some (sv p.i)/\cs[o+5]?=some (sv p.f)/\cs[o+6]?=some (sv p.c)/\cs[o+7]?=some (sv p.x)
def VRow (w:World) (g m:Nat) (pp:Nat->V8):Prop :=
 ∃ cs,w.heap[g]?=some (.cells cs 38)/\m*8<=cs.size/\∀ j,j < m->VIs8 cs (j*8) (pp j)
theorem VRow.lt {w:World}{g m:Nat}{pp:Nat->V8} (h:VRow w g m pp):g < w.heap.size:=by
 obtain ⟨cs,hg,_⟩:=h
 exact lt_of_block hg
theorem VRow.below {w w':World}{g m:Nat}{pp:Nat->V8} (h:VRow w g m pp) (hb:Below w.heap.size w w'):VRow w' g m pp:=by
 obtain ⟨cs,hg,r⟩:=h
 exact ⟨cs,by rw [hb.block _ (lt_of_block hg)];exact hg,r⟩
theorem VRow.made (w:World) (m:Nat):VRow (w.alloc (.cells (madeCells zcells (m*8)) 38)) w.heap.size m (fun _=>zeroP):=by
 refine ⟨_,heap_alloc_new w _,by rw [size_madeCells];exact Nat.le_refl _,fun j hj=>?_⟩
 have h:=fun k hk=>made_at m j k hj hk
 exact ⟨h 0 (by omega),h 1 (by omega),h 2 (by omega),h 3 (by omega),h 4 (by omega),h 5 (by omega),h 6 (by omega),h 7 (by omega)⟩
theorem VRow.at_ {w:World}{g m:Nat}{pp:Nat->V8} (h:VRow w g m pp) (i:Nat) (hi:i < m) :
  (w.cell? ⟨g,i*8,none⟩=some (.int .i64 (pp i).k)/\w.cell? ⟨g,i*8+1,none⟩=some (sv (pp i).b)/\w.cell? ⟨g,i*8+2,none⟩=some (.int .i64 (pp i).bn)/\w.cell? ⟨g,i*8+3,none⟩=some (sv (pp i).s) /\
  w.cell? ⟨g,i*8+4,none⟩=some (sv (pp i).i)/\w.cell? ⟨g,i*8+5,none⟩=some (sv (pp i).f)/\w.cell? ⟨g,i*8+6,none⟩=some (sv (pp i).c)/\w.cell? ⟨g,i*8+7,none⟩=some (sv (pp i).x))/\∀ p,w.frozen? ⟨g,p,none⟩=false:=by
 obtain ⟨cs,hg,_,h1⟩:=h
 obtain ⟨c0,c1,c2,c3,c4,c5,c6,c7⟩:=h1 i hi
 have k:∀ j u,cs[j]?=some u->w.cell? ⟨g,j,none⟩=some u:=fun j u hu=>by rw [cell_of_row _ g j _ _ (0,0) hg];exact hu
 exact ⟨⟨k _ _ c0,k _ _ c1,k _ _ c2,k _ _ c3,k _ _ c4,k _ _ c5,k _ _ c6,k _ _ c7⟩,fun j=>frozen_of_row _ _ j _ _ hg⟩
theorem VRow.put {w:World}{g m i:Nat}{pp:Nat->V8} (h:VRow w g m pp) (hi:i < m) (p':V8) :
  VRow (set8o w g (i*8) (.int .i64 p'.k) (sv p'.b) (.int .i64 p'.bn) (sv p'.s) (sv p'.i) (sv p'.f) (sv p'.c) (sv p'.x)) g m (fun j=>if j=i then p' else pp j):=by
 obtain ⟨cs,hg,hs,h1⟩:=h
 refine ⟨_,set8o_block hg _ _ _ _ _ _ _ _,by rw [arr8_size];exact hs,fun j hj=>?_⟩
 by_cases e:j=i
 ·subst e
  dsimp only
  rw [if_pos rfl]
  exact arr8_on cs (j*8) (by omega) _ _ _ _ _ _ _ _
 ·obtain ⟨c0,c1,c2,c3,c4,c5,c6,c7⟩:=h1 j hj
  dsimp only
  rw [if_neg e]
  unfold VIs8
  rw [arr8_off _ _ _ (by omega),arr8_off _ _ _ (by omega),arr8_off _ _ _ (by omega),arr8_off _ _ _ (by omega),arr8_off _ _ _ (by omega),arr8_off _ _ _ (by omega),arr8_off _ _ _ (by omega),arr8_off _ _ _ (by omega)]
  exact ⟨c0,c1,c2,c3,c4,c5,c6,c7⟩
def RowsMade (q:Int) (l:Nat->Bool) (n M B g outer j:Nat) (w:World):Prop :=
 ∃ (G:Nat->Nat) (L:Nat->Nat->Bool),VFill w g outer n j (fun i=>(some ⟨G i,0,none⟩,M,M))/\∀ i,i < j->RowU w B (G i) M (packW (L i) n)/\SrL q (rowl l n i) n (L i)
theorem RowsMade.below {q:Int}{l:Nat->Bool}{n M B g outer j:Nat}{w w':World} (h:RowsMade q l n M B g outer j w) (hb:Below w.heap.size w w'):RowsMade q l n M B g outer j w':=by
 obtain ⟨G,L,h1,h2⟩:=h
 exact ⟨G,L,h1.below hb,fun i hi=>⟨(h2 i hi).1.below hb,(h2 i hi).2⟩⟩
theorem RowsMade.lt {q:Int}{l:Nat->Bool}{n M B g outer j:Nat}{w:World} (h:RowsMade q l n M B g outer j w):g < w.heap.size:=by
 obtain ⟨G,L,h1,_⟩:=h
 exact h1.lt
theorem RowsMade.open {q:Int}{l:Nat->Bool}{n M B g outer j:Nat}{w:World} (h:RowsMade q l n M B g outer j w) (hj:j < outer) :
  w.cell? ⟨g,j*8,none⟩=some (.int .i64 0)/\w.cell? ⟨g,j*8+1,none⟩=some vnil/\w.cell? ⟨g,j*8+2,none⟩=some (.int .i64 0)/\w.cell? ⟨g,j*8+3,none⟩=some vnil /\
  w.cell? ⟨g,j*8+4,none⟩=some vnil/\w.cell? ⟨g,j*8+5,none⟩=some vnil/\w.cell? ⟨g,j*8+6,none⟩=some vnil/\w.cell? ⟨g,j*8+7,none⟩=some vnil/\∀ p,w.frozen? ⟨g,p,none⟩=false:=by
 obtain ⟨G,L,h1,_⟩:=h
 exact h1.open hj
theorem RowsMade.put {q:Int}{l:Nat->Bool}{n M B g outer j:Nat}{w:World} (h:RowsMade q l n M B g outer j w) (hj:j < outer) (hgB:g < B){g':Nat}{L':Nat->Bool} (hr:RowU w B g' M (packW L' n)) (hs:SrL q (rowl l n j) n L') :
  RowsMade q l n M B g outer (j+1) (set8o w g (j*8) (.int .i64 1) (.slice (some ⟨g',0,none⟩) M M) (.int .i64 n) vnil vnil vnil vnil vnil):=by
 obtain ⟨G,L,h1,h2⟩:=h
 refine ⟨fun i=>if i=j then g' else G i,fun i=>if i=j then L' else L i,?_,fun i hi=>?_⟩
 ·have:=h1.put hj (S':=fun i=>(some ⟨if i=j then g' else G i,0,none⟩,M,M)) (fun i hi=>by
   have:¬ i=j:=by omega
   simp [this])
  simpa using this
 ·by_cases e:i=j
  ·subst e
   simp only [if_true]
   refine ⟨own_set8o hr (by have:=hr.low;show some g'≠some g;intro e;injection e;omega) _ _ _ _ _ _ _ _ _,hs⟩
  ·simp only [e,if_false]
   obtain ⟨a,b⟩:=h2 i (by omega)
   exact ⟨own_set8o a (by have:=a.low;show some (G i)≠some g;intro e;injection e;omega) _ _ _ _ _ _ _ _ _,b⟩
theorem RowsMade.new {q:Int}{l:Nat->Bool}{n M B outer:Nat} (w:World):RowsMade q l n M B w.heap.size outer 0 (w.alloc (.cells (madeCells zcells (outer*8)) 38)) :=
 ⟨fun _=>0,fun _ _=>false,VFill.made w outer n _,fun _ hi=>absurd hi (Nat.not_lt_zero _)⟩
theorem bitsIn_reads {W:World}{g M n:Nat}{l:Nat->Bool} (h:Reads1 W (.slice (some ⟨g,0,none⟩) M M) ((List.range M).map fun j => .int .u64 (packW l n j:Nat))) (hM:M=(n+63) / 64):BitsIn W (.agg #[.slice (some ⟨g,0,none⟩) M M,.int .i64 (n:Int)]) n l:=by
 subst hM
 exact ⟨g,0,_,rfl,fun j hj=>reads_cell h j hj⟩
end Go.Proofs.YtakgmnafbjdccaaGreatDoor
