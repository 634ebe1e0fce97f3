/- value.of, value.Of and rebuslaw07.Of of good plain arrays. The walk of pervade.part. each.axis. shape.Without of a shape of one axis. The walk of bitvec.Fill. .. Conditions: as each theorem says. -/
import Derived.Test.YtakgmnafbjdccaaGreatDoorMg27
import Derived.Test.YtakgmnafbjdccaaGreatDoorMg24
import Derived.Test.YtakgmnafbjdccaaGreatDoorMg26
import Derived.Test.YtakgmnafbjdccaaGreatDoorMg23
import Derived.Test.YtakgmnafbjdccaaGreatDoorMg07
import Derived.Test.YtakgmnafbjdccaaGreatDoorMg08
import Derived.Test.YtakgmnafbjdccaaGreatDoorMg04
import Derived.Test.YtakgmnafbjdccaaGreatDoorMg11
import Derived.Test.YtakgmnafbjdccaaGreatDoorMg13
import Derived.Test.YtakgmnafbjdccaaGreatDoorMg15
import Derived.Test.YtakgmnafbjdccaaGreatDoorMg12
import Derived.Test.YtakgmnafbjdccaaGreatDoorMg17
import Derived.IntWalk
set_option maxRecDepth 100000
set_option maxHeartbeats 1000000
namespace Go.Proofs.YtakgmnafbjdccaaGreatDoor
open Go Go.RowKit Go.Proofs Fl
theorem aof_walk:∀ (d:Nat) (H:Nat->Prop) (t:RP) (h x:Sl) (f:Int) (w:World),d<=40->(∀ b,H b->b < w.heap.size)->OkP d t->cntP t<=1000000->PV H w t h x f ->
  Calls Tryz.prog 116 #[plV h x f,.int .i64 (d:Int)] w (AvR H w (clP t))
 | 0,_,.mk s items fill,_,_,_,_,_,_,hok,_,_=>by rw [OkP] at hok;exact absurd hok.1 (Nat.lt_irrefl _)
 | d+1,H,.mk s items fill,h,x,f,w,hd,hH,hok,hM,hr=>by
  obtain ⟨_,rfl,_,_⟩:=hr.open_
  rw [OkP] at hok
  obtain ⟨_,hf,⟨sn,rfl,hs⟩,hi⟩:=hok
  rcases hf with rfl | rfl | rfl
  ·exact of_0 H d (by omega) sn items h x w hH hi hs hM hr
  ·exact of_1 H d (by omega) sn items h x w hH hi hs hM hr
  ·exact of_2 H d (by omega) (fun H t h x f w h0 h1 h2 h3=>aof_walk d H t h x f w (by omega) h0 h1 h2 h3) sn items h x w hH hi hs hM hr
theorem vOf_any (H:Nat->Prop) (t:RP) (h x:Sl) (f:Int) (w:World) (hH:∀ b,H b->b < w.heap.size) (hok:OkP 40 t) (hM:cntP t<=1000000) (hr:PV H w t h x f) :
  Calls Tryz.prog 57 #[plV h x f] w (AvR H w (clP t)):=by
 have HI0:=Lib.hid (OfI.new w h x f)
 have HC:=Lib.hid (aof_walk 40 (Hole H w ((w.alloc (.cells #[sv h,sv x,.int .i64 f] 25)).alloc (.cells zeroL 40))) t h x f _ (Nat.le_refl _) (Hole.lt hH HI0.out.bel) hok hM (hr.arg HI0.out.bel))
 unfold AvR at HC
 have HH:=Lib.hid hH
 clear hok hM hr hH
 go_enter Tryz.func57,Tryz.ntmps57
 obtain ⟨c0,c1,c2⟩:=HI0.out.arg
 go_wp2_with fail
 refine HC.out.mono ?_
 rintro e w1 ⟨h',p,rfl,hav,hb⟩
 have HOF:=Lib.hid (HI0.out.step hb)
 have HAV:=Lib.hid hav
 have hlt:w.heap.size+1 < ((w.alloc (.cells #[sv h,sv x,.int .i64 f] 25)).alloc (.cells zeroL 40)).heap.size:=lt_blk HI0.out.res
 have HLT:=Lib.hid hlt
 obtain ⟨⟨z0,z1,z2,z3,z4,z5,z6,z7,z8⟩,zz⟩:=zero_block HOF.out.res
 clear hb hav hlt c0 c1 c2
 go_wp2
 refine bodyPost_ret (v := .tuple #[arrV h' p,.int .i64 0]) ?_ rfl ⟨h',p,rfl,AV.sub (fun b _ e => .inl e) (AV.lat (Lat.set9 (G:=w.heap.size+1) (.inr ⟨by omega,HLT.out⟩) _ _ _ _ _ _ _ _ _) HAV.out),below_set9 HOF.out.bel (Nat.le_succ _) _ _ _ _ _ _ _ _ _⟩
 exact ret_arr2 (fn:=Tryz.f57) (p:=2) (u:=3) rfl _ _ (w.heap.size+1) (by rfl) (set9_block HOF.out.res _ _ _ _ _ _ _ _ _)
theorem blk_alloc {W:World}{G:Nat}{o:Obj} (h:W.heap[G]?=some o) (o':Obj):(W.alloc o').heap[G]?=some o:=by
 rw [(bel1 W o').block G (lt_blk h)];exact h
def AaR (H:Nat->Prop) (w:World) (a:PA) (e:Ending) (w':World):Prop:=∃ h p,e= .returned (arrV h p)/\AV H w' a h p/\Below w.heap.size w w'
theorem lawOf_any (H:Nat->Prop) (t:RP) (h x:Sl) (f:Int) (w:World) (hH:∀ b,H b->b < w.heap.size) (hok:OkP 40 t) (hM:cntP t<=1000000) (hr:PV H w t h x f) :
  Calls Tryz.prog 13 #[plV h x f] w (AaR H w (clP t)):=by
 have HI0:=Lib.hid (OfI.new w h x f)
 have HC:=Lib.hid (vOf_any (Hole H w ((w.alloc (.cells #[sv h,sv x,.int .i64 f] 25)).alloc (.cells zeroL 40))) t h x f _ (Hole.lt hH HI0.out.bel) hok hM (hr.arg HI0.out.bel))
 unfold AvR at HC
 have HH:=Lib.hid hH
 clear hok hM hr hH
 go_enter Tryz.func13,Tryz.ntmps13
 obtain ⟨c0,c1,c2⟩:=HI0.out.arg
 go_wp2_with fail
 refine HC.out.mono ?_
 rintro e w1 ⟨h',p,rfl,hav,hb⟩
 have HOF:=Lib.hid (HI0.out.step hb)
 have HAV:=Lib.hid hav
 have hlt:w.heap.size+1 < ((w.alloc (.cells #[sv h,sv x,.int .i64 f] 25)).alloc (.cells zeroL 40)).heap.size:=lt_blk HI0.out.res
 have HLT:=Lib.hid hlt
 obtain ⟨⟨y0,y1,y2,y3,y4,y5,y6,y7,y8⟩,yz⟩:=zero_block HOF.out.res
 have hl1:w.heap.size+1 < w1.heap.size:=lt_blk HOF.out.res
 have b0:=fun o=>cell_box1 y0 o
 have b1:=fun o=>cell_box1 y1 o
 have b2:=fun o=>cell_box1 y2 o
 have b3:=fun o=>cell_box1 y3 o
 have b4:=fun o=>cell_box1 y4 o
 have b5:=fun o=>cell_box1 y5 o
 have b6:=fun o=>cell_box1 y6 o
 have b7:=fun o=>cell_box1 y7 o
 have b8:=fun o=>cell_box1 y8 o
 have u0:=fun (j:Nat) o=>frozen_box (j:=0) y0 yz o
 have u1:=fun o=>frozen_box y1 yz o
 have u2:=fun o=>frozen_box y2 yz o
 have u3:=fun o=>frozen_box y3 yz o
 have u4:=fun o=>frozen_box y4 yz o
 have u5:=fun o=>frozen_box y5 yz o
 have u6:=fun o=>frozen_box y6 yz o
 have u7:=fun o=>frozen_box y7 yz o
 have u8:=fun o=>frozen_box y8 yz o
 have u00:=fun o=>frozen_box y0 yz o
 clear hb hav hlt c0 c1 c2 u0
 go_wp2
 refine bodyPost_ret (v:=arrV h' p) ?_ rfl ⟨h',p,rfl,AV.sub (fun b _ e => .inl e) (AV.step (AV.lat (Lat.set9 (G:=w.heap.size+1) (.inr ⟨by omega,HLT.out⟩) _ _ _ _ _ _ _ _ _) HAV.out) (bel1 _ _)),bel_both (below_set9 HOF.out.bel (Nat.le_succ _) _ _ _ _ _ _ _ _ _) (bel1 _ _)⟩
 exact ret_arr (fn:=Tryz.f13) (p:=2) rfl _ _ (w.heap.size+1) (by rfl) (blk_alloc (set9_block HOF.out.res _ _ _ _ _ _ _ _ _) _)
structure A1 (w W:World) (h:Sl) (p:V8):Prop where
 one:At9 W w.heap.size 0 h p
 res:W.heap[w.heap.size+1]?=some zeroO
 bel:Below w.heap.size w W
theorem A1.step {w W W':World}{h:Sl}{p:V8} (g:A1 w W h p) (hb:Below W.heap.size W W'):A1 w W' h p:=⟨g.one.below hb,by rw [hb.block _ (lt_blk g.res)];exact g.res,bel_both g.bel hb⟩
theorem A1.sz {w W:World}{h:Sl}{p:V8} (g:A1 w W h p):w.heap.size+1 < W.heap.size:=lt_blk g.res
theorem A1.new (w:World) (h:Sl) (p:V8):A1 w ((w.alloc (arrO h p)).alloc zeroO) h p:=by
 have h1:=heap_alloc_new (w.alloc (arrO h p)) zeroO
 have e:(w.alloc (arrO h p)).heap.size=w.heap.size+1:=by simp
 rw [e] at h1
 exact ⟨(at9_new w h p).below (bel1 _ _),h1,bel2 w _ _⟩
def CutA (H:Nat->Prop) (w:World) (a:PA) (e:Ending) (w':World):Prop:=∃ u:V8,e= .returned u.v/\AV H w' a nilS u/\Below w.heap.size w w'
theorem cutA_num {H H1:Nat->Prop}{w:World}{s l:List Nat}{h:Sl}{p:V8} (g:AV H1 w (.nums s l) h p) (hl:l.length<=1000000) (j:Nat) (hj:j < l.length) (z1 z2:Int) (e1:z1=(j:Int)) (e2:z2=((j+1:Nat):Int)) (W:World) (hb:Below w.heap.size w W) (hH:∀ b,H b->b < W.heap.size) (hs:∀ b,b < w.heap.size->H b->H1 b) :
  Calls Tryz.prog 68 #[p.v,.int .i64 z1,.int .i64 z2] W (CutA H W (.nums [] [l.getD j 0])):=by
 subst e1
 subst e2
 rcases g.nums with h | ⟨rfl,_⟩
 ·have hk:Keeps H W (NumV p.v p.k l.length (fun j=>l.getD j 0)):=(h.num.sub hs).step hb
  refine (cut_num H p l.length j (j+1) (fun j=>l.getD j 0) W hH hl (Nat.le_succ j) hj hk).mono ?_
  rintro e w' ⟨k,b,bn,s',i,f,c,x,rfl,hk2,hb2⟩
  rw [show j+1 - j=1 by omega] at hk2
  have h2:=numZ_of (hk2.imp fun W h=>(.inl h:TwT 1 (fun j'=>l.getD (j+j') 0) (vecW k b bn s' i f c x) W))
  refine ⟨⟨k,b,bn,s',i,f,c,x⟩,rfl,?_,hb2⟩
  rw [AV]
  exact ⟨shV_nil _ _,h2⟩
 ·exact absurd hj (Nat.not_lt_zero _)
theorem cutA_chr {H H1:Nat->Prop}{w:World}{s:List Nat}{l:List Int}{h:Sl}{p:V8} (g:AV H1 w (.chars s l) h p) (hl:l.length<=1000000) (j:Nat) (hj:j < l.length) (z1 z2:Int) (e1:z1=(j:Int)) (e2:z2=((j+1:Nat):Int)) (W:World) (hb:Below w.heap.size w W) (hH:∀ b,H b->b < W.heap.size) :
  Calls Tryz.prog 68 #[p.v,.int .i64 z1,.int .i64 z2] W (CutA H W (.chars [] [l.getD j 0])):=by
 subst e1
 subst e2
 obtain ⟨c,rfl,hr⟩:=g.chars
 refine (cut_chr H c l j (j+1) W hH hl (Nat.le_succ j) hj (Keeps.lat hr (Lat.below hb)).now).mono ?_
 rintro e w' ⟨k,b,bn,s',i,f,c',x,rfl,hk2,hb2⟩
 rw [show j+1 - j=1 by omega] at hk2
 obtain ⟨c2,ec,_⟩:=hk2.now
 have hk3:RdH H w' (sv c2) ([l.getD j 0].map (Value.int .i32)):=hk2.imp fun W h=>by
  obtain ⟨c3,e3,h3⟩:=h
  rw [ec] at e3
  have e4:c2=c3:=by
   unfold V8.v vecW vecV at e3
   simp only [Value.agg.injEq,Array.mk.injEq,List.cons.injEq,Value.slice.injEq,true_and,and_true] at e3
   obtain ⟨a2,n2,q2⟩:=c2
   obtain ⟨a3,n3,q3⟩:=c3
   obtain ⟨i1,i2,i3⟩:=e3
   subst i1 i2 i3
   rfl
  rw [e4]
  exact h3
 refine ⟨charsP c2,by rw [ec],?_,hb2⟩
 rw [AV]
 exact ⟨shV_nil _ _,c2,rfl,hk3⟩
theorem axis_last (h:Sl) (p:V8) (n:Nat) (hn:h.2.1=n+1) (hb:n<=1048576) (w:World) :
  Calls Tryz.prog 91 #[arrV h p,.bool false] w fun e w'=>e= .returned (.tuple #[.int .i64 (n:Int),.bool true])/\Below w.heap.size w w':=by
 obtain ⟨hA,m,hc⟩:=h
 obtain rfl:m=n+1:=hn
 have HB:=Lib.hid (bel1 w (arrO (hA,n+1,hc) p))
 have HN:=Lib.hid (at9_new w (hA,n+1,hc) p)
 have h0:(((n+1:Nat):Int)==0)=false:=by simp;omega
 have h1:((n+1:Nat):Int) - 1=(n:Int):=by omega
 go_enter Tryz.func91,Tryz.ntmps91
 obtain ⟨c0,c1,c2,c3,c4,c5,c6,c7,c8⟩:=HN.out.c
 go_wp2
 go_ret2
 exact ⟨by simp,HB.out⟩
end Go.Proofs.YtakgmnafbjdccaaGreatDoor
namespace Go.Proofs.YtakgmnafbjdccaaGreatDoor
open Go Go.RowKit Go.Proofs Fl Go.Shelf Go.Lib
theorem own_one {w:World}{B:Nat}{e:TypeId}{v x:Value} (h:Own1 w B e v [x]):∃ g c,v= .slice (some ⟨g,0,none⟩) 1 c/\B<=g/\1<=c/\c<=9223372036854775807/\w.cell? ⟨g,0,none⟩=some x/\w.frozen? ⟨g,0,none⟩=false:=by
 have h':=h.reads
 rcases h.2 with ⟨_,hn⟩ | ⟨g,cap,cur,rfl,hbg,hg,hnc,hcm,hcs,htake⟩
 ·cases hn
 ·refine ⟨g,cap,rfl,hbg,hnc,?_,?_,frozen_of_row _ _ 0 _ _ hg⟩
  ·unfold maxLen at hcm;omega
  ·rcases h'.at with ⟨a,c,_,h0⟩ | ⟨b,o,c,e,hc⟩
   ·cases h0
   ·injection e with e1 _ _
    injection e1 with e1
    injection e1 with e1 e2 _
    subst e1;subst e2
    have:=hc 0 (Nat.lt_succ_self 0)
    simpa using this
theorem without_one (h:Sl) (n:Nat) (w:World) (hs:Reads1 w (sv h) [.int .i64 (n:Int)]) :
  Calls Tryz.prog 94 #[sv h,.int .i64 0] w fun e w'=>∃ A c,e= .returned (.tuple #[.slice A 0 c,.bool true])/\Below w.heap.size w w':=by
 have HC:=Lib.hid (clI_any hs (show 1*8<=140737488355328 by decide) (by intro u hu;obtain rfl:u=_:=(by simpa using hu);rfl))
 obtain ⟨a,cc,e⟩:=hs.len
 obtain ⟨hA,m,hc⟩:=h
 have hm:m=1:=by
  unfold sv at e
  injection e with _ e _
 subst hm
 clear hs e
 go_enter Tryz.func94,Tryz.ntmps94
 go_wp2_with fail
 refine HC.out.mono ?_
 rintro e w2 ⟨v,rfl,ho,hb⟩
 obtain ⟨g,c,rfl,hg,hc1,hc2,hcell,hfz⟩:=own_one ho
 have HD:=Lib.hid (del_one w.heap.size g c n w w2 hb hg hc1 hc2 hcell hfz)
 clear ho hb hcell hfz HC
 go_wp2_with fail
 refine HD.out.mono ?_
 rintro e w3 ⟨rfl,hb3⟩
 have HB:=Lib.hid hb3
 clear hb3
 go_wp2
 go_ret2
 exact ⟨_,_,rfl,HB.out⟩
end Go.Proofs.YtakgmnafbjdccaaGreatDoor
namespace Go.Proofs.YtakgmnafbjdccaaGreatDoor
open Go Go.RowKit Go.Proofs Fl
def fromZ (z:Nat):Nat->Bool:=fun j=>decide (z<=j)
theorem Row64.made (w:World) (B:Nat) (hB:B<=w.heap.size) (T:Nat) (hT:T<=maxLen):Row64 (w.alloc (.cells (madeCells #[.int .i64 0] T) 2)) B w.heap.size T (fun _=>0):=by
 have h:=World.ownsRow_lit (base:=B) (e:=2) (size:=1) w (madeCells #[.int .i64 0] T) T hB hT (by rw [size_madeCells];omega)
 rw [toList_madeCells_one] at h
 refine Row64.of_ow ?_
 have e:((List.range T).map fun _:Nat=>Value.int .i64 0)=List.replicate T (.int .i64 0):=by
  rw [List.map_const',List.length_range]
 rw [e]
 exact h
theorem idx_surj {outer n inner j:Nat} (h:j < outer*n*inner):∃ o k i,o < outer/\k < inner/\i < n/\j=o*n*inner+k+i*inner:=by
 have hi:0 < inner:=by
  rcases Nat.eq_zero_or_pos inner with e | e
  ·rw [e,Nat.mul_zero] at h;omega
  ·exact e
 have hn:0 < n:=by
  rcases Nat.eq_zero_or_pos n with e | e
  ·rw [e,Nat.mul_zero,Nat.zero_mul] at h;omega
  ·exact e
 have hni:0 < n*inner:=Nat.mul_pos hn hi
 refine ⟨j / (n*inner),(j % (n*inner)) % inner,(j % (n*inner)) / inner,?_,Nat.mod_lt _ hi,?_,?_⟩
 ·refine Nat.div_lt_of_lt_mul ?_
  rw [Nat.mul_comm,<- Nat.mul_assoc]
  exact h
 ·refine Nat.div_lt_of_lt_mul ?_
  exact Nat.lt_of_lt_of_eq (Nat.mod_lt _ hni) (Nat.mul_comm _ _)
 ·have h1:=Nat.div_add_mod j (n*inner)
  have h2:=Nat.div_add_mod (j % (n*inner)) inner
  have h3:j / (n*inner)*n*inner=n*inner*(j / (n*inner)):=by rw [Nat.mul_assoc,Nat.mul_comm]
  have h4:(j % (n*inner)) / inner*inner=inner*((j % (n*inner)) / inner):=Nat.mul_comm _ _
  omega
def Done (n inner o k:Nat) (Z F:Nat->Int):Prop:=∀ o' k' i,(o' < o\/(o'=o/\k' < k))->k' < inner->i < n->F (o'*n*inner+k'+i*inner)=Z (o'*n*inner+k'+i*inner)
theorem Done.zero (n inner:Nat) (Z F:Nat->Int):Done n inner 0 0 Z F:=fun o' k' i h=>by omega
theorem Done.next {n inner o:Nat}{Z F:Nat->Int} (h:Done n inner o inner Z F):Done n inner (o+1) 0 Z F:=fun o' k' i h1 h2 h3=>h o' k' i (by omega) h2 h3
theorem Done.all {outer n inner:Nat}{Z F:Nat->Int} (h:Done n inner outer 0 Z F):((List.range (outer*n*inner)).map fun j=>Value.int .i64 (F j))=((List.range (outer*n*inner)).map fun j => .int .i64 (Z j)):=by
 apply List.map_congr_left
 intro j hj
 obtain ⟨o,k,i,h1,h2,h3,rfl⟩:=idx_surj (List.mem_range.1 hj)
 rw [h o k i (.inl h1) h2 h3]
def RowF (w:World) (B g T:Nat) (F:Nat->Nat):Prop:=Own1 w B 51 (.slice (some ⟨g,0,none⟩) T T) ((List.range T).map fun j => .float .f64 (F j))
theorem RowF.ow {w:World}{B g T:Nat}{F:Nat->Nat} (h:RowF w B g T F):w.ownsRow B 51 1 (.slice (some ⟨g,0,none⟩) T T) T ((List.range T).map fun j => .float .f64 (F j)):=by
 have:=h
 unfold RowF Own1 at this
 rw [List.length_map,List.length_range] at this
 exact this
theorem RowF.of_ow {w:World}{B g T:Nat}{F:Nat->Nat} (h:w.ownsRow B 51 1 (.slice (some ⟨g,0,none⟩) T T) T ((List.range T).map fun j => .float .f64 (F j))):RowF w B g T F:=by
 unfold RowF Own1
 rw [List.length_map,List.length_range]
 exact h
theorem RowF.put {w:World}{B g T:Nat}{F:Nat->Nat} (h:RowF w B g T F){k:Nat} (hk:k < T) (z:Nat):RowF (w.setCell ⟨g,k,none⟩ (.float .f64 z)) B g T (fun j=>if j=k then z else F j):=by
 have h2:=(World.ownsRow.stored h.ow k (.float .f64 z)).1
 rw [set_map_range hk] at h2
 refine RowF.of_ow ?_
 have e:((List.range T).map fun j=>Value.float .f64 (if j=k then z else F j))=(List.range T).map fun j=>if j=k then .float .f64 z else .float .f64 (F j):=by
  apply List.map_congr_left
  intro j _
  split <;> rfl
 rw [e]
 exact h2
theorem RowF.cell {w:World}{B g T:Nat}{F:Nat->Nat} (h:RowF w B g T F){k:Nat} (hk:k < T):w.cell? ⟨g,k,none⟩=some (.float .f64 (F k)):=by
 have:=World.ownsRow.cellAt h.ow k (by omega)
 rw [this]
 simp [hk]
theorem RowF.frozen {w:World}{B g T:Nat}{F:Nat->Nat} (h:RowF w B g T F) (k:Nat):w.frozen? ⟨g,k,none⟩=false:=World.ownsRow.frozenAt h.ow k
theorem RowF.low {w:World}{B g T:Nat}{F:Nat->Nat} (h:RowF w B g T F):B<=g/\g < w.heap.size:=World.ownsRow.lt h.ow g rfl
theorem RowF.made (w:World) (B:Nat) (hB:B<=w.heap.size) (T:Nat) (hT:T<=maxLen):RowF (w.alloc (.cells (madeCells #[.float .f64 0] T) 51)) B w.heap.size T (fun _=>0):=by
 have h:=World.ownsRow_lit (base:=B) (e:=51) (size:=1) w (madeCells #[.float .f64 0] T) T hB hT (by rw [size_madeCells];omega)
 rw [toList_madeCells_one] at h
 refine RowF.of_ow ?_
 have e:((List.range T).map fun _:Nat=>Value.float .f64 0)=List.replicate T (.float .f64 0):=by
  rw [List.map_const',List.length_range]
 rw [e]
 exact h
theorem RowF.below {w w':World}{B g T:Nat}{F:Nat->Nat} (h:RowF w B g T F) (hb:Below w.heap.size w w'):RowF w' B g T F:=Own1.below h hb
def DoneF (r:Nat->Option Nat) (n inner o k i:Nat) (F:Nat->Nat):Prop :=
 ∀ o' k' i',k' < inner->i' < n->(o' < o\/(o'=o/\(k' < k\/(k'=k/\i' < i))))->r (o'*n*inner+k'+i'*inner)=some (F (o'*n*inner+k'+i'*inner))
theorem DoneF.zero (r:Nat->Option Nat) (n inner:Nat) (F:Nat->Nat):DoneF r n inner 0 0 0 F:=fun o' k' i' _ _ h=>by omega
theorem DoneF.put {r:Nat->Option Nat}{n inner o k i I y:Nat}{F:Nat->Nat} (h:DoneF r n inner o k i F) (hI:I=o*n*inner+k+i*inner) (hr:r I=some y):DoneF r n inner o k (i+1) (fun j=>if j=I then y else F j):=by
 intro o' k' i' h1 h2 h3
 show _=some (if o'*n*inner+k'+i'*inner=I then y else F (o'*n*inner+k'+i'*inner))
 by_cases e:o'*n*inner+k'+i'*inner=I
 ·rw [if_pos e,e];exact hr
 ·rw [if_neg e]
  refine h o' k' i' h1 h2 ?_
  by_cases e2:o'=o/\k'=k/\i'=i
  ·obtain ⟨rfl,rfl,rfl⟩:=e2
   exact absurd hI.symm e
  ·omega
theorem DoneF.all {r:Nat->Option Nat}{outer n inner:Nat}{F:Nat->Nat} (h:DoneF r n inner outer 0 0 F):∀ j,j < outer*n*inner->r j=some (F j):=by
 intro j hj
 obtain ⟨o,k,i,h1,h2,h3,rfl⟩:=idx_surj hj
 exact h o k i h2 h3 (.inl h1)
def RowV (e:TypeId) (w:World) (B g T:Nat) (F:Nat->Value):Prop:=Own1 w B e (.slice (some ⟨g,0,none⟩) T T) ((List.range T).map F)
theorem RowV.ow {e:TypeId}{w:World}{B g T:Nat}{F:Nat->Value} (h:RowV e w B g T F):w.ownsRow B e 1 (.slice (some ⟨g,0,none⟩) T T) T ((List.range T).map F):=by
 have:=h
 unfold RowV Own1 at this
 rw [List.length_map,List.length_range] at this
 exact this
theorem RowV.of_ow {e:TypeId}{w:World}{B g T:Nat}{F:Nat->Value} (h:w.ownsRow B e 1 (.slice (some ⟨g,0,none⟩) T T) T ((List.range T).map F)):RowV e w B g T F:=by
 unfold RowV Own1
 rw [List.length_map,List.length_range]
 exact h
theorem RowV.put {e:TypeId}{w:World}{B g T:Nat}{F:Nat->Value} (h:RowV e w B g T F){k:Nat} (hk:k < T) (u:Value):RowV e (w.setCell ⟨g,k,none⟩ u) B g T (fun j=>if j=k then u else F j):=by
 have h2:=(World.ownsRow.stored h.ow k u).1
 rw [set_map_range hk] at h2
 exact RowV.of_ow h2
theorem RowV.cell {e:TypeId}{w:World}{B g T:Nat}{F:Nat->Value} (h:RowV e w B g T F){k:Nat} (hk:k < T):w.cell? ⟨g,k,none⟩=some (F k):=by
 have:=World.ownsRow.cellAt h.ow k (by omega)
 rw [this]
 simp [hk]
theorem RowV.frozen {e:TypeId}{w:World}{B g T:Nat}{F:Nat->Value} (h:RowV e w B g T F) (k:Nat):w.frozen? ⟨g,k,none⟩=false:=World.ownsRow.frozenAt h.ow k
theorem RowV.low {e:TypeId}{w:World}{B g T:Nat}{F:Nat->Value} (h:RowV e w B g T F):B<=g/\g < w.heap.size:=World.ownsRow.lt h.ow g rfl
theorem RowV.made (e:TypeId) (z:Value) (w:World) (B:Nat) (hB:B<=w.heap.size) (T:Nat) (hT:T<=maxLen):RowV e (w.alloc (.cells (madeCells #[z] T) e)) B w.heap.size T (fun _=>z):=by
 have h:=World.ownsRow_lit (base:=B) (e:=e) (size:=1) w (madeCells #[z] T) T hB hT (by rw [size_madeCells];omega)
 rw [toList_madeCells_one] at h
 refine RowV.of_ow ?_
 have e2:((List.range T).map fun _:Nat=>z)=List.replicate T z:=by
  rw [List.map_const',List.length_range]
 rw [e2]
 exact h
theorem RowV.below {e:TypeId}{w w':World}{B g T:Nat}{F:Nat->Value} (h:RowV e w B g T F) (hb:Below w.heap.size w w'):RowV e w' B g T F:=Own1.below h hb
def pre (f:Nat->Bool):Nat->Bool
 | 0=>false
 | k+1=>xor (Go.Proofs.YtakgmnafbjdccaaGreatDoor.pre f k) (f k)
def NewBits (w:World) (n:Nat) (l:Nat->Bool) (v:Value) (w':World):Prop :=
 ∃ g,v= .agg #[.slice (some ⟨g,0,none⟩) ((n+63) / 64) ((n+63) / 64),.int .i64 (n:Int)]/\RowU w' w.heap.size g ((n+63) / 64) (packW l n)
theorem NewBits.bits {w w':World}{n:Nat}{l:Nat->Bool}{v:Value} (h:NewBits w n l v w'):BitsIn w' v n l:=by
 obtain ⟨g,rfl,hr⟩:=h
 exact .of_row hr
def SrL (q:Int) (l:Nat->Bool) (n:Nat) (L:Nat->Bool):Prop :=
 ((q=5\/q=22)/\∃ z,FirstIs l n z/\L=fromZ z)\/((q=6\/q=3\/q=21)/\∃ z,FirstIs (fun i => !l i) n z/\L=fun j => !fromZ z j) \/
 (q=16/\L=fun j=>Go.Proofs.YtakgmnafbjdccaaGreatDoor.pre l (j+1))\/(q=11/\∃ z,FirstIs l n z/\L=fun j=>decide (j=z))\/(q=12/\∃ z,FirstIs (fun i => !l i) n z/\L=fun j => !decide (j=z))
structure LdB (w0:World) (V1 V2:Nat) (b1 b2:Sl) (N:Nat) (W:World):Prop where
 one:W.heap[V1]?=some (.cells #[.slice b1.1 b1.2.1 b1.2.2,.int .i64 (N:Int)] 31)
 two:W.heap[V2]?=some (.cells #[.slice b2.1 b2.2.1 b2.2.2,.int .i64 (N:Int)] 31)
 bel:Below w0.heap.size w0 W
 old1:V1 < w0.heap.size
 old2:V2 < w0.heap.size
theorem LdB.step {w0 W W':World}{V1 V2:Nat}{b1 b2:Sl}{N:Nat} (h:LdB w0 V1 V2 b1 b2 N W) (hb:Below W.heap.size W W'):LdB w0 V1 V2 b1 b2 N W' :=
 ⟨by rw [hb.block _ (lt_of_block h.one)];exact h.one,by rw [hb.block _ (lt_of_block h.two)];exact h.two,bel_both h.bel hb,h.old1,h.old2⟩
theorem LdB.al {w0 W:World}{V1 V2:Nat}{b1 b2:Sl}{N:Nat} (h:LdB w0 V1 V2 b1 b2 N W) (o:Obj):LdB w0 V1 V2 b1 b2 N (W.alloc o):=h.step (bel1 W o)
theorem LdB.dr {w0 W:World}{V1 V2:Nat}{b1 b2:Sl}{N:Nat} (h:LdB w0 V1 V2 b1 b2 N W):LdB w0 V1 V2 b1 b2 N W.drew:=h.step (Below.refl _ W).drew
theorem LdB.put {w0 W:World}{V1 V2:Nat}{b1 b2:Sl}{N:Nat} (h:LdB w0 V1 V2 b1 b2 N W){g j:Nat} (ha:w0.heap.size<=g) (u:Value):LdB w0 V1 V2 b1 b2 N (W.setCell ⟨g,j,none⟩ u) :=
 ⟨by rw [Below.heap_setCell _ _ _ _ (by show _≠g;have:=h.old1;omega)];exact h.one,by rw [Below.heap_setCell _ _ _ _ (by show _≠g;have:=h.old2;omega)];exact h.two,h.bel.setCell (by show _<=g;omega) u,h.old1,h.old2⟩
theorem LdB.self {w0 W:World}{V1 V2:Nat}{b1 b2:Sl}{N:Nat} (h:LdB w0 V1 V2 b1 b2 N W):LdB w0 V1 V2 b1 b2 N W:=h
theorem BitsAt.set2 {W:World}{b:Sl}{n:Nat}{L:Nat->Bool} (h:BitsAt W b n L){V:Nat}{a:Option Addr}{l c:Nat}{z:Int}{e:TypeId} (hV:W.heap[V]?=some (.cells #[.slice a l c,.int .i64 z] e)) (u0 u1:Value):BitsAt (Go.Proofs.YtakgmnafbjdccaaGreatDoor.set2 W V u0 u1) b n L:=by
 obtain ⟨g,o,cc,e1,hc⟩:=h
 refine ⟨g,o,cc,e1,fun j hj=>?_⟩
 have hcj:=hc j hj
 have hne:g≠V:=by
  rintro rfl
  rw [cell_of_row _ g (o+j) _ e (0,0) hV] at hcj
  match hoj:o+j with
  | 0=>rw [hoj] at hcj;simp at hcj
  | 1=>rw [hoj] at hcj;simp at hcj
  | k+2=>rw [hoj] at hcj;simp at hcj
 rw [<- hcj]
 exact World.cell?_of_block (by rw [Below.heap_setCell _ _ _ _ hne,Below.heap_setCell _ _ _ _ hne])
def rz (q:Int) (x:Nat->Int) (i:Nat):Nat->Int
 | 0=>x i
 | m+1=>if q=1 then x (i - 1 - m)+rz q x i m else if q=2 then x (i - 1 - m) - rz q x i m else if q=5 then max (x (i - 1 - m)) (rz q x i m) else min (x (i - 1 - m)) (rz q x i m)
def OkL (r:Nat->Option Nat) (Z:Nat->Int) (n inner o k:Nat):Prop:=∀ o' k' i,(o' < o\/(o'=o/\k' < k))->k' < inner->i < n->r (o'*n*inner+k'+i*inner)=some (fi (Z (o'*n*inner+k'+i*inner)))/\Good (Z (o'*n*inner+k'+i*inner))
theorem OkL.zero (r:Nat->Option Nat) (Z:Nat->Int) (n inner:Nat):OkL r Z n inner 0 0:=fun o' k' i h=>by omega
theorem OkL.next {r:Nat->Option Nat}{Z:Nat->Int}{n inner o:Nat} (h:OkL r Z n inner o inner):OkL r Z n inner (o+1) 0:=fun o' k' i h1 h2 h3=>h o' k' i (by omega) h2 h3
theorem OkL.all {r:Nat->Option Nat}{Z:Nat->Int}{outer n inner:Nat} (h:OkL r Z n inner outer 0):∀ j,j < outer*n*inner->r j=some (fi (Z j))/\Good (Z j):=by
 intro j hj
 obtain ⟨o,k,i,h1,h2,h3,rfl⟩:=idx_surj hj
 exact h o k i (.inl h1) h2 h3
theorem RowV.same {e:TypeId}{w:World}{B g T:Nat}{F F':Nat->Value} (h:RowV e w B g T F) (hF:∀ j,j < T->F j=F' j):RowV e w B g T F':=by
 have e2:(List.range T).map F=(List.range T).map F':=List.map_congr_left fun j hj=>hF j (List.mem_range.1 hj)
 unfold RowV at *
 rw [<- e2];exact h
theorem unpack_any (v:Value) (n:Nat) (l:Nat->Bool) (w:World) (hn:n<=1048576) (hb:BitsIn w v n l) :
  Calls Tryz.prog 192 #[v] w fun e w'=>∃ g,e= .returned (.slice (some ⟨g,0,none⟩) n n)/\RowV 4 w' w.heap.size g n (fun j => .bool (l j))/\Below w.heap.size w w':=by
 have HBI:=Lib.hid hb
 obtain ⟨b,o,c,rfl,_⟩:=hb
 obtain ⟨M,hM⟩:∃ M,M=(n+63) / 64:=⟨_,rfl⟩
 rw [<- hM] at HBI ⊢
 have HAT:=Lib.hid (fun j W (hj:j < n) (hw:Below w.heap.size w W)=>bitV_at hn (HBI.out.below hw) j hj)
 have hmk:=run_make_row' (P:=Tryz.prog) 222 4 (.bool false) 1 Tryz.underlying222 info_bool rfl .i64 .i64 n (by omega) (by omega)
 have hs1:(w.alloc (.cells #[.slice (some ⟨b,o,none⟩) M c,.int .i64 (n:Int)] 31)).heap.size=w.heap.size+1:=by simp
 have HB0:=Lib.hid (bel2 w (.cells #[.slice (some ⟨b,o,none⟩) M c,.int .i64 (n:Int)] 31) (.cells (madeCells #[.bool false] n) 4))
 have HK0:=Lib.hid (block_up (bel1 (w.alloc (.cells #[.slice (some ⟨b,o,none⟩) M c,.int .i64 (n:Int)] 31)) (.cells (madeCells #[.bool false] n) 4)))
 have HR0:=Lib.hid (RowV.made 4 (.bool false) (w.alloc (.cells #[.slice (some ⟨b,o,none⟩) M c,.int .i64 (n:Int)] 31)) (w.heap.size+1) (by rw [hs1];omega) n (by unfold maxLen;omega))
 rw [hs1] at HR0
 clear hs1 hM
 go_enter Tryz.func192,Tryz.ntmps192
 go_wp2_with fail
 go_loopw [10] (fun ii wr=>∃ i:Nat,i<=n/\ii= .int .i64 i/\RowV 4 wr (w.heap.size+1) (w.heap.size+1) n (fun j=>if j < i then .bool (l j) else .bool false)/\Below w.heap.size w wr/\wr.heap[w.heap.size]?=some (.cells #[.slice (some ⟨b,o,none⟩) M c,.int .i64 (n:Int)] 31)) (fun ii _=>n - (intOf ii).toNat)
 case atStart=>exact ⟨0,Nat.zero_le _,rfl,HR0.out.same (fun j _=>by rw [if_neg (Nat.not_lt_zero _)]),HB0.out,HK0.out⟩
 case round =>
  clear HR0 HB0 HK0 hmk
  obtain ⟨i,hi,rfl,hrow,hbl,hk⟩:=hrel
  have HROW:=Lib.hid hrow
  have HBL:=Lib.hid hbl
  have HK:=Lib.hid hk
  clear hrow hbl hk
  by_cases hlt:i < n
  ·obtain ⟨p0,p1,pf⟩:=pair_of HK.out
   have HATI:=Lib.hid (HAT.out i wr hlt HBL.out)
   go_wp2_with fail
   refine HATI.out.mono ?_
   rintro e w4 ⟨rfl,hb4⟩
   have HROW4:=Lib.hid (HROW.out.below hb4)
   have HBL4:=Lib.hid (bel_both HBL.out hb4)
   have HK4:=Lib.hid (show w4.heap[w.heap.size]?=some (.cells #[.slice (some ⟨b,o,none⟩) M c,.int .i64 (n:Int)] 31) by rw [hb4.block _ (lt_of_block HK.out)];exact HK.out)
   clear hb4 p0 p1 pf HATI
   have hcw:=HROW4.out.cell hlt
   have hfw:=HROW4.out.frozen i
   have HROW5:=Lib.hid ((HROW4.out.put hlt (.bool (l i))).same (F':=fun j=>if j < i+1 then .bool (l j) else .bool false) (fun j _=>by
    by_cases e:j=i
    ·rw [if_pos e,if_pos (by omega),e]
    ·rw [if_neg e]
     by_cases h2:j < i
     ·rw [if_pos h2,if_pos (by omega)]
     ·rw [if_neg h2,if_neg (by omega)]))
   have HBL5:=Lib.hid (HBL4.out.setCell (p:=⟨w.heap.size+1,i,none⟩) (by show _<=w.heap.size+1;omega) (.bool (l i)))
   have HK5:=Lib.hid ((Below.heap_setCell w4 ⟨w.heap.size+1,i,none⟩ (.bool (l i)) w.heap.size (by show _≠w.heap.size+1;omega)).trans HK4.out)
   generalize l i=li at *
   go_wp2
   go_roundw
   case rel=>exact ⟨i+1,by omega,by go_num,HROW5.out,HBL5.out,HK5.out⟩
   case measure=>simp [intOf];omega
  ·obtain rfl:i=n:=by omega
   have HR:=Lib.hid (HROW.out.same (F':=fun j => .bool (l j)) (fun j hj=>by rw [if_pos hj]))
   go_wp2
   go_ret
   exact ⟨_,rfl,Own1.lower HR.out (Nat.le_succ _),HBL.out⟩
end Go.Proofs.YtakgmnafbjdccaaGreatDoor
