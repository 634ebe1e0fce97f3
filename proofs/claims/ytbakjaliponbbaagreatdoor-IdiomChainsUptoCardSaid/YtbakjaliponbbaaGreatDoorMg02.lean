/- The walks that make a Vec of a row. The walk of vec.Floats where all numbers are finite. The walks of whole numbers' sums and differences, and of fold.whole at .. Conditions: as each theorem says. -/
import Derived.Test.YtbakjaliponbbaaGreatDoorMg01
import Derived.OneCell
import Derived.Laws.ResultCell
import Derived.Laws.Rows
import Derived.Test.YtbakjaliponbbaaGreatDoorMg00
import Derived.Deep.RegionHeld3
import Derived.Deep.CutRange
import Derived.Laws.MakeOwn
import Derived.Deep.QuietTactic
import Derived.BigQuiet
set_option maxRecDepth 100000
set_option maxHeartbeats 2000000
namespace Go.Proofs.YtbakjaliponbbaaGreatDoor
open Go Go.RowKit Go.Proofs Fl
abbrev set8 (w:World) (G:Nat) (a0 a1 a2 a3 a4 a5 a6 a7:Value):World :=
 (((((((w.setCell ⟨G,0,none⟩ a0).setCell ⟨G,1,none⟩ a1).setCell ⟨G,2,none⟩ a2).setCell ⟨G,3,none⟩ a3).setCell ⟨G,4,none⟩ a4).setCell ⟨G,5,none⟩ a5).setCell ⟨G,6,none⟩ a6).setCell ⟨G,7,none⟩ a7
theorem below_set8 {B:Nat}{w0 w:World} (h:Below B w0 w){G:Nat} (hG:B<=G) (a0 a1 a2 a3 a4 a5 a6 a7:Value):Below B w0 (set8 w G a0 a1 a2 a3 a4 a5 a6 a7) :=
 (((((((h.setCell hG _).setCell hG _).setCell hG _).setCell hG _).setCell hG _).setCell hG _).setCell hG _).setCell hG _
theorem own_set8 {w:World}{B:Nat}{e:TypeId}{v:Value}{xs:List Value} (h:Own1 w B e v xs){G:Nat} (hG:v.ownBlock≠some G) (a0 a1 a2 a3 a4 a5 a6 a7:Value):Own1 (set8 w G a0 a1 a2 a3 a4 a5 a6 a7) B e v xs:=by
 unfold Own1 at *
 exact ownsRow_setCell_other (ownsRow_setCell_other (ownsRow_setCell_other (ownsRow_setCell_other (ownsRow_setCell_other (ownsRow_setCell_other (ownsRow_setCell_other (ownsRow_setCell_other h hG _) hG _) hG _) hG _) hG _) hG _) hG _) hG _
theorem Own1.lower {w:World}{B B':Nat}{e:TypeId}{v:Value}{xs:List Value} (h:Own1 w B e v xs) (hB:B'<=B):Own1 w B' e v xs:=by
 refine ⟨h.1,?_⟩
 rcases h.2 with h2 | ⟨g,cap,cur,hv,hbg,r⟩
 ·exact .inl h2
 ·exact .inr ⟨g,cap,cur,hv,by omega,r⟩
theorem frozen_new (w:World) (cs:Array Value) (e:TypeId) (j:Nat):(w.alloc (.cells cs e)).frozen? ⟨w.heap.size,j,none⟩=false:=frozen_of_row _ _ j cs e (heap_alloc_new w _)
theorem block_up {w w1:World}{o:Obj} (hb:Below (w.alloc o).heap.size (w.alloc o) w1):w1.heap[w.heap.size]?=some o:=by
 rw [hb.block _ (by simp)];exact heap_alloc_new w o
theorem set8_block {w:World}{G:Nat}{e:TypeId}{z0 z1 z2 z3 z4 z5 z6 z7:Value} (h:w.heap[G]?=some (.cells #[z0,z1,z2,z3,z4,z5,z6,z7] e)) (a0 a1 a2 a3 a4 a5 a6 a7:Value) :
  (set8 w G a0 a1 a2 a3 a4 a5 a6 a7).heap[G]?=some (.cells #[a0,a1,a2,a3,a4,a5,a6,a7] e):=by
 have h0:=heap_setCell_same _ G 0 _ e a0 h
 rw [show (#[z0,z1,z2,z3,z4,z5,z6,z7]:Array Value).setIfInBounds 0 a0=#[a0,z1,z2,z3,z4,z5,z6,z7] by simp] at h0
 have h1:=heap_setCell_same _ G 1 _ e a1 h0
 rw [show (#[a0,z1,z2,z3,z4,z5,z6,z7]:Array Value).setIfInBounds 1 a1=#[a0,a1,z2,z3,z4,z5,z6,z7] by simp] at h1
 have h2:=heap_setCell_same _ G 2 _ e a2 h1
 rw [show (#[a0,a1,z2,z3,z4,z5,z6,z7]:Array Value).setIfInBounds 2 a2=#[a0,a1,a2,z3,z4,z5,z6,z7] by simp] at h2
 have h3:=heap_setCell_same _ G 3 _ e a3 h2
 rw [show (#[a0,a1,a2,z3,z4,z5,z6,z7]:Array Value).setIfInBounds 3 a3=#[a0,a1,a2,a3,z4,z5,z6,z7] by simp] at h3
 have h4:=heap_setCell_same _ G 4 _ e a4 h3
 rw [show (#[a0,a1,a2,a3,z4,z5,z6,z7]:Array Value).setIfInBounds 4 a4=#[a0,a1,a2,a3,a4,z5,z6,z7] by simp] at h4
 have h5:=heap_setCell_same _ G 5 _ e a5 h4
 rw [show (#[a0,a1,a2,a3,a4,z5,z6,z7]:Array Value).setIfInBounds 5 a5=#[a0,a1,a2,a3,a4,a5,z6,z7] by simp] at h5
 have h6:=heap_setCell_same _ G 6 _ e a6 h5
 rw [show (#[a0,a1,a2,a3,a4,a5,z6,z7]:Array Value).setIfInBounds 6 a6=#[a0,a1,a2,a3,a4,a5,a6,z7] by simp] at h6
 have h7:=heap_setCell_same _ G 7 _ e a7 h6
 rw [show (#[a0,a1,a2,a3,a4,a5,a6,z7]:Array Value).setIfInBounds 7 a7=#[a0,a1,a2,a3,a4,a5,a6,a7] by simp] at h7
 exact h7
theorem vec_size:(Tryz.prog.info? 57).map (·.size)=some 8:=by kernel_rfl
theorem ret_vec {fn:Func}{p:Tmp} (h:fn.results=#[.cell p 57]) (tmps:Array Value) (w:World) (G:Nat){e:TypeId}{a0 a1 a2 a3 a4 a5 a6 a7:Value}
  (hp:tmps.getD p undef= .pointer (some ⟨G,0,none⟩)) (hg:w.heap[G]?=some (.cells #[a0,a1,a2,a3,a4,a5,a6,a7] e)) :
  (results fn tmps).run Tryz.prog w= .ok (.agg #[a0,a1,a2,a3,a4,a5,a6,a7]) w :=
 results_cell_row h tmps w G e _ (0,0) _ hp hg Tryz.underlying57 rfl vec_size
theorem ret_vec2 {fn:Func}{p u:Tmp} (h:fn.results=#[.cell p 57,.tmp u]) (tmps:Array Value) (w:World) (G:Nat){e:TypeId}{a0 a1 a2 a3 a4 a5 a6 a7:Value}
  (hp:tmps.getD p undef= .pointer (some ⟨G,0,none⟩)) (hg:w.heap[G]?=some (.cells #[a0,a1,a2,a3,a4,a5,a6,a7] e)) :
  (results fn tmps).run Tryz.prog w= .ok (.tuple #[.agg #[a0,a1,a2,a3,a4,a5,a6,a7],tmps.getD u undef]) w:=by
 rw [results_cell_tmp h,hp]
 have:=run_loadVar_row (P:=Tryz.prog) w G e 57 _ (0,0) _ hg Tryz.underlying57 rfl vec_size
 simp [asAddr,Result.andThen,this]
theorem smalls_any {w:World}{v:Value}{l:List Int} (h:Reads1 w v (l.map (.int .i8))) (hl:l.length<=1000000) :
  Calls Tryz.prog 256 #[v] w fun e w'=>∃ u,e= .returned (vecV 2 vnil 0 u vnil vnil vnil vnil)/\Own1 w' w.heap.size 196 u (l.map (.int .i8))/\Below w.heap.size w w':=by
 have HR:=Lib.hid h
 have HC:=Lib.hid (fun w2 (hb:Below w.heap.size w w2)=>cl8_any (h.below hb) (by rw [List.length_map];omega) (by intro u hu;obtain ⟨z,_,rfl⟩:=List.mem_map.1 hu;rfl))
 clear h
 go_enter Tryz.func256,Tryz.ntmps256
 go_wp2_with fail
 refine (HC.out _ (bel1 _ _)).mono ?_
 rintro e w1 ⟨u,rfl,ho,hb1⟩
 have HB1:=Lib.hid ((bel1 w _).trans (hb1.mono (bel1 w _).size))
 obtain ⟨h0,h1,h2,h3,h4,h5,h6,h7⟩:=(boxed_new w 57 0 vnil 0 vnil vnil vnil vnil vnil).below hb1
 have HK:=Lib.hid (block_up hb1)
 have hz:∀ j,w1.frozen? ⟨w.heap.size,j,none⟩=false:=fun j=>by rw [hb1.frozen (by simp)];exact frozen_new _ _ _ _
 have HNE:Hid (u.ownBlock≠some w.heap.size):=fun e=>by have:=(World.ownsRow.lt ho _ e).1;simp at this;omega
 have HO:=Lib.hid ho
 obtain ⟨a,n,c,hu⟩:∃ a n c,u= .slice a n c:=by obtain ⟨a,c,e⟩:=ho.reads.len;exact ⟨a,_,c,e⟩
 subst hu
 clear hb1 ho
 go_wp2
 exact bodyPost_ret (ret_vec rfl _ _ _ rfl (set8_block HK.out _ _ _ _ _ _ _ _)) rfl ⟨_,rfl,own_set8 (HO.out.lower (by simp)) HNE.out _ _ _ _ _ _ _ _,below_set8 HB1.out (Nat.le_refl _) _ _ _ _ _ _ _ _⟩
theorem chars_any {w:World}{v:Value}{l:List Int} (h:Reads1 w v (l.map (.int .i32))) (hl:l.length<=1000000) :
  Calls Tryz.prog 152 #[v] w fun e w'=>∃ u,e= .returned (vecV 5 vnil 0 vnil vnil vnil u vnil)/\Own1 w' w.heap.size 21 u (l.map (.int .i32))/\Below w.heap.size w w':=by
 have HR:=Lib.hid h
 have HC:=Lib.hid (fun w2 (hb:Below w.heap.size w w2)=>clR_any (h.below hb) (by rw [List.length_map];omega) (by intro u hu;obtain ⟨z,_,rfl⟩:=List.mem_map.1 hu;rfl))
 clear h
 go_enter Tryz.func152,Tryz.ntmps152
 go_wp2_with fail
 refine (HC.out _ (bel1 _ _)).mono ?_
 rintro e w1 ⟨u,rfl,ho,hb1⟩
 have HB1:=Lib.hid ((bel1 w _).trans (hb1.mono (bel1 w _).size))
 obtain ⟨h0,h1,h2,h3,h4,h5,h6,h7⟩:=(boxed_new w 57 0 vnil 0 vnil vnil vnil vnil vnil).below hb1
 have HK:=Lib.hid (block_up hb1)
 have hz:∀ j,w1.frozen? ⟨w.heap.size,j,none⟩=false:=fun j=>by rw [hb1.frozen (by simp)];exact frozen_new _ _ _ _
 have HNE:Hid (u.ownBlock≠some w.heap.size):=fun e=>by have:=(World.ownsRow.lt ho _ e).1;simp at this;omega
 have HO:=Lib.hid ho
 obtain ⟨a,n,c,hu⟩:∃ a n c,u= .slice a n c:=by obtain ⟨a,c,e⟩:=ho.reads.len;exact ⟨a,_,c,e⟩
 subst hu
 clear hb1 ho
 go_wp2
 exact bodyPost_ret (ret_vec rfl _ _ _ rfl (set8_block HK.out _ _ _ _ _ _ _ _)) rfl ⟨_,rfl,own_set8 (HO.out.lower (by simp)) HNE.out _ _ _ _ _ _ _ _,below_set8 HB1.out (Nat.le_refl _) _ _ _ _ _ _ _ _⟩
theorem ints_walk (b o n c:Nat) (l:List Int) (hn:n=l.length) (hl:n<=1000000) (w:World) (hc:∀ i (h:i < l.length),w.cell? ⟨b,o+i,none⟩=some (.int .i64 l[i])) (hg:∀ x∈l,-9007199254740992<=x/\x<=9007199254740992) :
  Calls Tryz.prog 228 #[.slice (some ⟨b,o,none⟩) n c] w fun e w'=>∃ u,e= .returned (.tuple #[vecV 3 vnil 0 vnil u vnil vnil vnil,.bool true])/\Own1 w' w.heap.size 2 u (l.map (.int .i64))/\Below w.heap.size w w':=by
 have HR:Hid (Reads1 w (.slice (some ⟨b,o,none⟩) n c) (l.map (.int .i64))) := .inr ⟨b,o,n,c,rfl,by rw [List.length_map];exact hn,fun i hi=>by rw [hc i (by simpa using hi)];simp⟩
 have HC:=Lib.hid (fun w2 (hb:Below w.heap.size w w2)=>cl64_any (HR.out.below hb) (by rw [List.length_map];omega) (by intro u hu;obtain ⟨z,_,rfl⟩:=List.mem_map.1 hu;rfl))
 have HCC:=Lib.hid hc
 have HG:=Lib.hid hg
 have HN:=Lib.hid hn
 clear hc hg hn
 go_enter Tryz.func228,Tryz.ntmps228
 go_wp2
 go_loopw [8] (fun j wr=>∃ m:Nat,m<=n/\j= .int .i64 m/\wr=w.alloc (.cells #[.int .i64 0,.slice none 0 0,.int .i64 0,.slice none 0 0,.slice none 0 0,.slice none 0 0,.slice none 0 0,.slice none 0 0] 57)) (fun j _=>n - (intOf j).toNat)
 case atStart=>exact ⟨0,Nat.zero_le _,rfl,rfl⟩
 case round =>
  obtain ⟨m,hm,rfl,rfl⟩:=hrel
  by_cases hlt:m < n
  ·have hlt':m < l.length:=by rw [<- HN.out];exact hlt
   have hcell:=fun a=>cell_box1 (HCC.out m hlt') a
   obtain ⟨hx1,hx2⟩:=HG.out l[m] (List.getElem_mem _)
   generalize l[m]=x at *
   go_wp2
   go_roundw
   case rel=>exact ⟨m+1,by omega,by go_num,by first | trivial | rfl⟩
   case measure=>simp [intOf];omega
  ·obtain rfl:m=n:=by omega
   go_wp2_with fail
   refine (HC.out _ (bel1 _ _)).mono ?_
   rintro e w1 ⟨u,rfl,ho,hb1⟩
   have HB1:=Lib.hid ((bel1 w _).trans (hb1.mono (bel1 w _).size))
   obtain ⟨h0,h1,h2,h3,h4,h5,h6,h7⟩:=(boxed_new w 57 0 vnil 0 vnil vnil vnil vnil vnil).below hb1
   have HK:=Lib.hid (block_up hb1)
   have hz:∀ j,w1.frozen? ⟨w.heap.size,j,none⟩=false:=fun j=>by rw [hb1.frozen (by simp)];exact frozen_new _ _ _ _
   have HNE:Hid (u.ownBlock≠some w.heap.size):=fun e=>by have:=(World.ownsRow.lt ho _ e).1;simp at this;omega
   have HO:=Lib.hid ho
   obtain ⟨a,n,c,hu⟩:∃ a n c,u= .slice a n c:=by obtain ⟨a,c,e⟩:=ho.reads.len;exact ⟨a,_,c,e⟩
   subst hu
   clear hb1 ho
   go_wp2
   refine bodyPost_ret (v := .tuple #[vecV 3 vnil 0 vnil (.slice a n c) vnil vnil vnil,.bool true]) ?_ rfl ⟨.slice a n c,rfl,own_set8 (HO.out.lower (by simp)) HNE.out _ _ _ _ _ _ _ _,below_set8 HB1.out (Nat.le_refl _) _ _ _ _ _ _ _ _⟩
   exact ret_vec2 (fn:=Tryz.f228) (p:=2) (u:=3) rfl _ _ w.heap.size (by rfl) (set8_block HK.out _ _ _ _ _ _ _ _)
theorem boxed_of {w:World}{G:Nat}{e:TypeId}{k:Int}{b:Value}{bn:Int}{s i f c x:Value} (h:w.heap[G]?=some (.cells #[.int .i64 k,b,.int .i64 bn,s,i,f,c,x] e)) :
  Boxed w G k b bn s i f c x/\∀ j,w.frozen? ⟨G,j,none⟩=false:=by
 have h2:∀ j u,#[.int .i64 k,b,.int .i64 bn,s,i,f,c,x][j]?=some u->w.cell? ⟨G,j,none⟩=some u:=by
  intro j u hu
  rw [cell_of_row _ G j _ e (0,0) h]
  exact hu
 exact ⟨⟨h2 0 _ rfl,h2 1 _ rfl,h2 2 _ rfl,h2 3 _ rfl,h2 4 _ rfl,h2 5 _ rfl,h2 6 _ rfl,h2 7 _ rfl⟩,fun j=>frozen_of_row _ _ j _ e h⟩
abbrev zcells:Array Value:=#[.int .i64 0,.slice none 0 0,.int .i64 0,.slice none 0 0,.slice none 0 0,.slice none 0 0,.slice none 0 0,.slice none 0 0]
theorem floats_walk (b o n c:Nat) (x y:Nat->Nat) (hn:n<=1000000) (w:World) (hc:∀ i,i < n->w.cell? ⟨b,o+i,none⟩=some (.float .f64 (x i)))
  (ht:∀ i,i < n->∀ W,Calls Tryz.prog 166 #[.float .f64 (x i)] W fun e w'=>e= .returned (.tuple #[.float .f64 (y i),.bool true])/\W=w') :
  Calls Tryz.prog 205 #[.slice (some ⟨b,o,none⟩) n c] w fun e w'=>∃ u,e= .returned (.tuple #[vecV 4 vnil 0 vnil vnil u vnil vnil,.bool true])/\Own1 w' w.heap.size 96 u ((List.range n).map fun j => .float .f64 (y j))/\Below w.heap.size w w':=by
 have HC:Hid (∀ wr,Below w.heap.size w wr->∀ i,i < n->wr.cell? ⟨b,o+i,none⟩=some (.float .f64 (x i))):=by
  intro wr hb i h
  rw [hb.cell (cell_lt (hc i h))];exact hc i h
 have HT:=Lib.hid ht
 have hmk:=run_make_row' (P:=Tryz.prog) 26 96 (.float .f64 0) 8 Tryz.underlying26 info_f64 rfl .i64 .i64 n (by omega) (by omega)
 clear hc ht
 have hsz:(w.alloc (.cells zcells 57)).heap.size=w.heap.size+1:=by simp
 have HF0:=Lib.hid (Fill.made (w.alloc (.cells zcells 57)) w.heap.size (by simp) 96 (fun j => .float .f64 (y j)) (.float .f64 0) n (by unfold maxLen;omega))
 rw [hsz] at HF0
 have HB0:=Lib.hid (bel2 w (.cells zcells 57) (.cells (madeCells #[.float .f64 0] n) 96))
 have HK0:=Lib.hid (block_up (bel1 (w.alloc (.cells zcells 57)) (.cells (madeCells #[.float .f64 0] n) 96)))
 clear hsz
 go_enter Tryz.func205,Tryz.ntmps205
 go_wp2
 go_loopw [14] (fun j wr=>∃ m:Nat,m<=n/\j= .int .i64 m/\Fill wr w.heap.size (w.heap.size+1) 96 (fun j => .float .f64 (y j)) (.float .f64 0) n m/\Below w.heap.size w wr/\wr.heap[w.heap.size]?=some (.cells zcells 57)) (fun j _=>n - (intOf j).toNat)
 case atStart=>exact ⟨0,Nat.zero_le _,rfl,HF0.out,HB0.out,HK0.out⟩
 case round =>
  obtain ⟨m,hm,rfl,hf,hbl,hk⟩:=hrel
  have HF:=Lib.hid hf
  have HBL:=Lib.hid hbl
  have HK:=Lib.hid hk
  clear hf hbl hk
  by_cases hlt:m < n
  ·have hcell:=HC.out wr HBL.out m hlt
   have hc3:=HF.out.cell hlt
   have hz3:=HF.out.frozen m
   have HP:=Lib.hid (HF.out.put hlt)
   have HB3:=Lib.hid (HF.out.bel HBL.out m (.float .f64 (y m)))
   have HK3:=Lib.hid (show (wr.setCell ⟨w.heap.size+1,m,none⟩ (.float .f64 (y m))).heap[w.heap.size]?=some (.cells zcells 57) by rw [Below.heap_setCell _ _ _ _ (by simp)];exact HK.out)
   have hst:=fun md=>store_float hc3 hz3 .f64 (y m) md
   have HTM:=Lib.hid (HT.out m hlt)
   go_wp2_with fail
   refine (HTM.out _).mono ?_
   rintro e w3 ⟨rfl,rfl⟩
   go_wp2
   go_roundw
   case rel=>exact ⟨m+1,by omega,by go_num,HP.out,HB3.out,HK3.out⟩
   case measure=>simp [intOf];omega
  ·obtain rfl:m=n:=by omega
   obtain ⟨⟨h0,h1,h2,h3,h4,h5,h6,h7⟩,hz⟩:=boxed_of HK.out
   go_wp2
   refine bodyPost_ret (v := .tuple #[vecV 4 vnil 0 vnil vnil (.slice (some ⟨w.heap.size+1,0,none⟩) m m) vnil vnil,.bool true]) ?_ rfl ⟨.slice (some ⟨w.heap.size+1,0,none⟩) m m,rfl,own_set8 HF.out.own (by simp [Value.ownBlock]) _ _ _ _ _ _ _ _,below_set8 HBL.out (Nat.le_refl _) _ _ _ _ _ _ _ _⟩
   exact ret_vec2 (fn:=Tryz.f205) (p:=2) (u:=3) rfl _ _ w.heap.size (by rfl) (set8_block HK.out _ _ _ _ _ _ _ _)
abbrev Good (n:Int):Prop := -9007199254740992<=n/\n<=9007199254740992
def rankS (n:Int):Nat:=if n=0\/n=1 then 1 else if -128<=n/\n<=127 then 2 else 3
theorem rank_any (n:Int) (w:World):Calls Tryz.prog 238 #[.int .i64 n] w fun e w'=>e= .returned (.int .i64 (rankS n:Nat))/\w=w':=by
 go_enter Tryz.func238,Tryz.ntmps238
 go_wp2
 all_goals go_ret
 all_goals refine ⟨?_,rfl⟩
 all_goals refine congrArg (fun b=>Ending.returned (.int .i64 b)) ?_
 all_goals unfold rankS
 all_goals (try simp only [beq_iff_eq,beq_eq_false_iff_ne,ne_eq] at *)
 all_goals first | (rw [if_pos (by omega)];rfl) | (rw [if_neg (by omega),if_pos (by omega)];rfl) | (rw [if_neg (by omega),if_neg (by omega)];rfl)
theorem bel_both {w a b:World} (h:Below w.heap.size w a) (k:Below a.heap.size a b):Below w.heap.size w b:=h.trans (k.mono h.size)
theorem info_i8:(Tryz.prog.info? 196).map (fun i=>(i.zero,i.size,i.bytes))=some (some (.int .i8 0),1,1):=by kernel_rfl
structure St (w W:World) (k:Int) (b:Value) (bn:Int) (s i f c x:Value):Prop where
 box:Boxed W w.heap.size k b bn s i f c x
 res:W.heap[w.heap.size+1]?=some (.cells zcells 57)
 bel:Below w.heap.size w W
theorem St.new (w:World) (k:Int) (b:Value) (bn:Int) (s i f c x:Value):St w ((w.alloc (.cells #[.int .i64 k,b,.int .i64 bn,s,i,f,c,x] 57)).alloc (.cells zcells 57)) k b bn s i f c x :=
 ⟨(boxed_new w 57 k b bn s i f c x).below (bel1 _ (.cells zcells 57)),by
  have:=heap_alloc_new (w.alloc (.cells #[.int .i64 k,b,.int .i64 bn,s,i,f,c,x] 57)) (.cells zcells 57)
  simpa using this,bel2 w _ _⟩
theorem St.step {w W W':World}{k:Int}{b:Value}{bn:Int}{s i f c x:Value} (h:St w W k b bn s i f c x) (hb:Below W.heap.size W W'):St w W' k b bn s i f c x :=
 ⟨h.box.below hb,by rw [hb.block _ (boxed_of h.res).1.lt];exact h.res,bel_both h.bel hb⟩
theorem rankS_le (n:Int):1<=rankS n/\rankS n<=3:=by unfold rankS;split <;> (try split) <;> omega
def Keeps (H:Nat->Prop) (w:World) (R:World->Prop):Prop:=∀ w',w.heap.size<=w'.heap.size->(∀ b,b < w.heap.size->¬ H b->w'.heap[b]?=w.heap[b]?)->R w'
theorem Keeps.now {H:Nat->Prop}{w:World}{R:World->Prop} (h:Keeps H w R):R w:=h w (Nat.le_refl _) fun _ _ _=>rfl
theorem Keeps.sub {H H':Nat->Prop}{w:World}{R:World->Prop} (h:Keeps H w R) (hs:∀ b,b < w.heap.size->H' b->H b):Keeps H' w R :=
 fun w' hz hb=>h w' hz fun b hl hn=>hb b hl fun hh=>hn (hs b hl hh)
theorem Keeps.imp {H:Nat->Prop}{w:World}{R R':World->Prop} (h:Keeps H w R) (hi:∀ w',R w'->R' w'):Keeps H w R':=fun w' hz hb=>hi _ (h w' hz hb)
theorem Keeps.and {H:Nat->Prop}{w:World}{R R':World->Prop} (h:Keeps H w R) (h':Keeps H w R'):Keeps H w fun w'=>R w'/\R' w':=fun w' hz hb=>⟨h w' hz hb,h' w' hz hb⟩
theorem Keeps.go {H:Nat->Prop}{w w1:World}{R:World->Prop} (h:Keeps H w R) (H':Nat->Prop) (hs:∀ b,b < w.heap.size->H' b->H b) (hz:w.heap.size<=w1.heap.size) (hb:∀ b,b < w.heap.size->¬ H b->w1.heap[b]?=w.heap[b]?):Keeps (fun b=>H' b\/w.heap.size<=b) w1 R :=
 fun w' hz' hb'=>h w' (Nat.le_trans hz hz') fun b hl hn=>by
  rw [hb' b (Nat.lt_of_lt_of_le hl hz) ?_,hb b hl hn]
  rintro (e | e)
  ·exact hn (hs b hl e)
  ·omega
theorem Keeps.below {H:Nat->Prop}{w w1:World}{R:World->Prop} (h:Keeps H w R) (hb:Below w.heap.size w w1):Keeps (fun b=>H b\/w.heap.size<=b) w1 R:=h.go H (fun _ _ e=>e) hb.size fun b hl _=>hb.block b hl
theorem Keeps.below' {H:Nat->Prop}{w w1:World}{R:World->Prop} (h:Keeps H w R) (hb:Below w.heap.size w w1) (H':Nat->Prop) (hs:∀ b,b < w.heap.size->H' b->H b):Keeps H' w1 R :=
 fun w' hz' hb'=>h w' (Nat.le_trans hb.size hz') fun b hl hn=>by rw [hb' b (Nat.lt_of_lt_of_le hl hb.size) (fun e=>hn (hs b hl e)),hb.block b hl]
theorem Keeps.step {H:Nat->Prop}{w w1:World}{R:World->Prop} (h:Keeps H w R) (hb:Below w.heap.size w w1):Keeps H w1 R:=h.below' hb H fun _ _ e=>e
theorem size_setCell' (w:World) (a:Addr) (u:Value):(w.setCell a u).heap.size=w.heap.size:=by
 have h1:=((Below.refl 0 w).setCell (Nat.zero_le a.block) u).size
 have h2:(w.setCell a u).heap.size<=w.heap.size:=by
  unfold World.setCell
  split <;> simp
 omega
theorem Keeps.set {H:Nat->Prop}{w:World}{R:World->Prop} (h:Keeps H w R){a:Addr} (ha:H a.block) (u:Value):Keeps H (w.setCell a u) R :=
 fun w' hz hb=>h w' (by rw [size_setCell'] at hz;exact hz) fun b hl hn=>by
  rw [hb b (by rw [size_setCell'];exact hl) hn,Below.heap_setCell _ _ _ _ (fun e=>hn (by rw [e];exact ha))]
theorem Keeps.set8 {H:Nat->Prop}{w:World}{R:World->Prop} (h:Keeps H w R){G:Nat} (hG:H G) (a0 a1 a2 a3 a4 a5 a6 a7:Value):Keeps H (set8 w G a0 a1 a2 a3 a4 a5 a6 a7) R :=
 (((((((h.set hG _).set hG _).set hG _).set hG _).set hG _).set hG _).set hG _).set hG _
theorem Own1.keeps {w:World}{B:Nat}{e:TypeId}{v:Value}{xs:List Value} (h:Own1 w B e v xs):Keeps (fun b=>b < B) w fun w'=>Reads1 w' v xs:=by
 intro w' hz hb
 rcases h.reads with h1 | ⟨b,o,n,c,rfl,hn,hc⟩
 ·exact .inl h1
 ·refine .inr ⟨b,o,n,c,rfl,hn,fun i hi=>?_⟩
  have hcell:=hc i hi
  have hlt:=cell_lt hcell
  have hB:B<=b:=by
   rcases h.2 with ⟨h2,_⟩ | ⟨g,cap,cur,hv,hbg,_⟩
   ·cases h2
   ·injection hv with h3 _ _
    injection h3 with h4
    injection h4 with h5 _ _
    omega
  rw [World.cell?_of_block (w:=w) (hb b hlt (by omega))]
  exact hcell
abbrev Hole (H:Nat->Prop) (w W:World):Nat->Prop:=fun b=>H b\/(w.heap.size<=b/\b < W.heap.size)
theorem Keeps.arg {H:Nat->Prop}{w W:World}{R:World->Prop} (h:Keeps H w R) (hb:Below w.heap.size w W):Keeps (Hole H w W) W R :=
 h.below' hb _ fun b hl e=>by
  rcases e with e | ⟨e,_⟩
  ·exact e
  ·omega
theorem Hole.lt {H:Nat->Prop}{w W:World} (hH:∀ b,H b->b < w.heap.size) (hb:Below w.heap.size w W):∀ b,Hole H w W b->b < W.heap.size:=by
 rintro b (e | ⟨_,e⟩)
 ·exact Nat.lt_of_lt_of_le (hH b e) hb.size
 ·exact e
theorem Own1.keepsH {w:World}{B:Nat}{e:TypeId}{v:Value}{xs:List Value} (h:Own1 w B e v xs){H:Nat->Prop} (hH:∀ b,H b->b < B):Keeps H w fun w'=>Reads1 w' v xs:=h.keeps.sub fun b _ e=>hH b e
theorem St.al {w W:World}{k:Int}{b:Value}{bn:Int}{s i f c x:Value} (h:St w W k b bn s i f c x) (o:Obj):St w (W.alloc o) k b bn s i f c x:=h.step (bel1 W o)
theorem St.dr {w W:World}{k:Int}{b:Value}{bn:Int}{s i f c x:Value} (h:St w W k b bn s i f c x):St w W.drew k b bn s i f c x:=h.step (Below.refl _ W).drew
theorem St.put {w W:World}{k:Int}{b:Value}{bn:Int}{s i f c x:Value} (h:St w W k b bn s i f c x){g j:Nat} (ha:w.heap.size+2<=g) (u:Value):St w (W.setCell ⟨g,j,none⟩ u) k b bn s i f c x :=
 ⟨h.box.set (by show g≠_;omega) u,by rw [Below.heap_setCell _ _ _ _ (by show _≠g;omega)];exact h.res,h.bel.setCell (by show _<=g;omega) u⟩
theorem St.sz {w W:World}{k:Int}{b:Value}{bn:Int}{s i f c x:Value} (h:St w W k b bn s i f c x):w.heap.size+2<=W.heap.size:=(boxed_of h.res).1.lt
theorem bcell2 {W w1:World} (hb:Below W.heap.size W w1):(∀ b o,b < W.heap.size->w1.cell? ⟨b,o,none⟩=W.cell? ⟨b,o,none⟩)/\(∀ b o,b < W.heap.size->w1.frozen? ⟨b,o,none⟩=W.frozen? ⟨b,o,none⟩) :=
 ⟨fun b o h=>hb.cell (p:=⟨b,o,none⟩) h,fun b o h=>hb.frozen (p:=⟨b,o,none⟩) h⟩
abbrev Sl:=Option Addr×Nat×Nat
abbrev vecW (k:Int) (b:Sl) (bn:Int) (s i f c x:Sl):Value:=vecV k (.slice b.1 b.2.1 b.2.2) bn (.slice s.1 s.2.1 s.2.2) (.slice i.1 i.2.1 i.2.2) (.slice f.1 f.2.1 f.2.2) (.slice c.1 c.2.1 c.2.2) (.slice x.1 x.2.1 x.2.2)
def IntoR (H:Nat->Prop) (w W:World) (R:Value->World->Prop) (e:Ending) (w':World):Prop :=
 ∃ (k:Int) (b:Sl) (bn:Int) (s i f c x:Sl),e= .returned (.tuple #[vecW k b bn s i f c x,.bool true])/\Keeps (Hole H w W) w' (R (vecW k b bn s i f c x))/\Below W.heap.size W w'
def SqMid (H:Nat->Prop) (w:World) (R:Value->World->Prop) (p:Value) (wx:World):Prop :=
 ∃ (G:Nat) (k:Int) (b:Sl) (bn:Int) (s i f c x:Sl),p= .pointer (some ⟨G,0,none⟩)/\wx.heap[G]?=some (.cells #[.int .i64 k,.slice b.1 b.2.1 b.2.2,.int .i64 bn,.slice s.1 s.2.1 s.2.2,.slice i.1 i.2.1 i.2.2,.slice f.1 f.2.1 f.2.2,.slice c.1 c.2.1 c.2.2,.slice x.1 x.2.1 x.2.2] 57)/\w.heap.size+2<=G /\
  wx.heap[w.heap.size+1]?=some (.cells zcells 57)/\Keeps (fun b=>H b\/(w.heap.size<=b/\b < w.heap.size+2)) wx (R (vecW k b bn s i f c x))/\Below w.heap.size w wx
def VecR (H:Nat->Prop) (w:World) (R:Value->World->Prop) (e:Ending) (w':World):Prop :=
 ∃ (k:Int) (b:Sl) (bn:Int) (s i f c x:Sl),e= .returned (vecW k b bn s i f c x)/\Keeps H w' (R (vecW k b bn s i f c x))/\Below w.heap.size w w'
theorem sqMid_of {H:Nat->Prop}{w W wx:World}{R:Value->World->Prop}{G:Nat}{k:Int}{b:Sl}{bn:Int}{s i f c x:Sl} (hW:w.heap.size+2<=W.heap.size) (hG:w.heap.size+2<=G)
  (h1:wx.heap[G]?=some (.cells #[.int .i64 k,.slice b.1 b.2.1 b.2.2,.int .i64 bn,.slice s.1 s.2.1 s.2.2,.slice i.1 i.2.1 i.2.2,.slice f.1 f.2.1 f.2.2,.slice c.1 c.2.1 c.2.2,.slice x.1 x.2.1 x.2.2] 57)) (h2:wx.heap[w.heap.size+1]?=some (.cells zcells 57))
  (h3:Keeps (Hole H w W) wx (R (vecW k b bn s i f c x))) (h4:Below w.heap.size w wx):SqMid H w R (.pointer (some ⟨G,0,none⟩)) wx :=
 ⟨G,k,b,bn,s,i,f,c,x,rfl,h1,hG,h2,h3.sub (fun j _ e=>by rcases e with e | ⟨e1,e2⟩;exact .inl e;exact .inr ⟨e1,by omega⟩),h4⟩
theorem sq_s {w W:World}{k:Int}{b:Value}{bn:Int}{s i f c x:Value} (h:St w W k b bn s i f c x):(W.cell? ⟨w.heap.size,0,none⟩=some (.int .i64 k)/\W.cell? ⟨w.heap.size,1,none⟩=some b/\W.cell? ⟨w.heap.size,2,none⟩=some (.int .i64 bn)/\W.cell? ⟨w.heap.size,3,none⟩=some s/\W.cell? ⟨w.heap.size,4,none⟩=some i/\W.cell? ⟨w.heap.size,5,none⟩=some f/\W.cell? ⟨w.heap.size,6,none⟩=some c/\W.cell? ⟨w.heap.size,7,none⟩=some x)/\St w W k b bn s i f c x:=⟨h.box,h⟩
theorem sqz1 {w0:World}{a:Obj}{n:Nat} (h:((w0.alloc a).drew).heap.size<=n):w0.heap.size < n:=by simp [World.drew] at h;omega
theorem St.put8 {w W:World}{k:Int}{b:Value}{bn:Int}{s i f c x:Value} (h:St w W k b bn s i f c x){G:Nat} (hG:w.heap.size+2<=G) (a0 a1 a2 a3 a4 a5 a6 a7:Value):St w (set8 W G a0 a1 a2 a3 a4 a5 a6 a7) k b bn s i f c x :=
 (((((((h.put hG _).put hG _).put hG _).put hG _).put hG _).put hG _).put hG _).put hG _
theorem sqMid_set {H:Nat->Prop}{w W w2:World}{R:Value->World->Prop}{G:Nat}{k:Int}{b:Value}{bn:Int}{s i f c x:Value}{k2:Int}{b2:Sl}{bn2:Int}{s2 i2 f2 c2 x2:Sl} (hW:w.heap.size+2<=W.heap.size) (hG:w.heap.size+2<=G) (hGW:G < W.heap.size)
  (h1:w2.heap[G]?=some (.cells zcells 57)) (hs:St w w2 k b bn s i f c x) (hk:Keeps (Hole H w W) w2 (R (vecW k2 b2 bn2 s2 i2 f2 c2 x2))) :
  SqMid H w R (.pointer (some ⟨G,0,none⟩)) (set8 w2 G (.int .i64 k2) (.slice b2.1 b2.2.1 b2.2.2) (.int .i64 bn2) (.slice s2.1 s2.2.1 s2.2.2) (.slice i2.1 i2.2.1 i2.2.2) (.slice f2.1 f2.2.1 f2.2.2) (.slice c2.1 c2.2.1 c2.2.2) (.slice x2.1 x2.2.1 x2.2.2)) :=
 sqMid_of hW hG (set8_block h1 _ _ _ _ _ _ _ _) (hs.put8 hG _ _ _ _ _ _ _ _).res (hk.set8 (.inr ⟨by omega,hGW⟩) _ _ _ _ _ _ _ _) (hs.put8 hG _ _ _ _ _ _ _ _).bel
theorem sqMid_new {H:Nat->Prop}{w W w2:World}{R:Value->World->Prop}{k:Int}{b:Value}{bn:Int}{s i f c x:Value}{k2:Int}{b2:Sl}{bn2:Int}{s2 i2 f2 c2 x2:Sl} (hW:w.heap.size+2<=W.heap.size)
  (hs:St w w2 k b bn s i f c x) (hk:Keeps (Hole H w W) w2 (R (vecW k2 b2 bn2 s2 i2 f2 c2 x2))) :
  SqMid H w R (.pointer (some ⟨w2.heap.size,0,none⟩)) (w2.alloc (.cells #[.int .i64 k2,.slice b2.1 b2.2.1 b2.2.2,.int .i64 bn2,.slice s2.1 s2.2.1 s2.2.2,.slice i2.1 i2.2.1 i2.2.2,.slice f2.1 f2.2.1 f2.2.2,.slice c2.1 c2.2.1 c2.2.2,.slice x2.1 x2.2.1 x2.2.2] 57)) :=
 sqMid_of hW hs.sz (heap_alloc_new w2 _) (hs.al _).res (hk.step (bel1 w2 _)) (hs.al _).bel
theorem sqz_blk {w1 w2:World}{o:Obj} (hb:Below (w1.alloc o).heap.size (w1.alloc o) w2):w2.heap[w1.heap.size]?=some o:=block_up hb
theorem sqz_old {w0 w1 w2:World}{o:Obj} (hb2:Below w1.heap.size w1 w2) (hb1:Below ((w0.alloc o).drew).heap.size ((w0.alloc o).drew) w1):w2.heap[w0.heap.size]?=some o:=by
 have h1:w1.heap[w0.heap.size]?=some o:=by
  rw [hb1.block _ (by simp [World.drew])]
  exact heap_alloc_new w0 o
 rw [hb2.block _ (lt_of_block h1)]
 exact h1
theorem sqz_le {n:Nat}{w1:World} (h:n<=w1.heap.size) (o:Obj):n<=(w1.alloc o).heap.size:=by simp;omega
theorem sqz_lt (w1:World) (o:Obj):w1.heap.size < (w1.alloc o).heap.size:=by simp
theorem squeeze_any (H:Nat->Prop) (R:Value->World->Prop) (kd:Int) (k:Int) (b:Value) (bn:Int) (s i f c x:Value) (w:World)
  (hle:∀ W,Below w.heap.size w W->Calls Tryz.prog 195 #[vecV k b bn s i f c x] W fun e w'=>e= .returned (.int .i64 kd)/\Below W.heap.size W w')
  (hin:∀ W,Below w.heap.size w W->Calls Tryz.prog 194 #[vecV k b bn s i f c x,.int .i64 kd] W (IntoR H w W R)) :
  Calls Tryz.prog 141 #[vecV k b bn s i f c x] w (VecR H w R):=by
 have HL:=Lib.hid hle
 have HI:=Lib.hid hin
 have HS0:=Lib.hid (St.new w k b bn s i f c x)
 clear hle hin
 go_enter Tryz.func141,Tryz.ntmps141
 go_wp2_with fail
 obtain ⟨w0,hw0⟩:∃ w0,w0=(w.alloc (.cells #[.int .i64 k,b,.int .i64 bn,s,i,f,c,x] 57)).alloc (.cells zcells 57):=⟨_,rfl⟩
 rw [<- hw0] at HS0 ⊢
 clear hw0
 have hz0:=HS0.out.sz
 go_cut [3,4] from 5 (fun p ok wx=>ok= .bool true/\SqMid H w R p wx)
 case first =>
  have hs0:=HS0.out.dr
  have hs00:=HS0.out
  go_region_held3 (fun W=>(W.cell? ⟨w.heap.size,0,none⟩=some (.int .i64 k)/\W.cell? ⟨w.heap.size,1,none⟩=some b/\W.cell? ⟨w.heap.size,2,none⟩=some (.int .i64 bn)/\W.cell? ⟨w.heap.size,3,none⟩=some s/\W.cell? ⟨w.heap.size,4,none⟩=some i/\W.cell? ⟨w.heap.size,5,none⟩=some f/\W.cell? ⟨w.heap.size,6,none⟩=some c/\W.cell? ⟨w.heap.size,7,none⟩=some x)/\St w W k b bn s i f c x)
   (first | (with_reducible assumption) | (with_reducible (refine sq_s ?_);repeat (first | (with_reducible assumption) | (with_reducible refine St.dr ?_) | (with_reducible refine St.put ?_ (by first | assumption | omega | (simp;omega)) _) | (with_reducible refine St.al ?_ _))))
   (first
    | (go_at_call 195;(with_reducible refine (HL.out _ ?_).mono ?_);exact St.bel (k:=k) (b:=b) (bn:=bn) (s:=s) (i:=i) (f:=f) (c:=c) (x:=x) (by repeat (first | (with_reducible assumption) | (with_reducible refine St.dr ?_) | (with_reducible refine St.al ?_ _)));rintro e w1 ⟨rfl,hb1⟩;obtain ⟨hc1,hf1⟩:=bcell2 hb1;have hz1:=hb1.size;(first | (have hy1:w0.heap.size < w1.heap.size:=sqz1 hz1) | skip);have hst1:St w w1 k b bn s i f c x:=St.step (by repeat (first | (with_reducible assumption) | (with_reducible refine St.dr ?_) | (with_reducible refine St.al ?_ _))) hb1;have hg1:w.heap.size+2<=w1.heap.size:=hst1.sz;have HB1:=Lib.hid hb1;clear hb1)
    | (go_at_call 194;(with_reducible refine (HI.out _ ?_).mono ?_);exact St.bel (k:=k) (b:=b) (bn:=bn) (s:=s) (i:=i) (f:=f) (c:=c) (x:=x) (by repeat (first | (with_reducible assumption) | (with_reducible refine St.dr ?_) | (with_reducible refine St.al ?_ _)));rintro e w2 ⟨k2,b2,bn2,s2,i2,f2,c2,x2,rfl,hk2,hb2⟩;obtain ⟨hc2,hf2⟩:=bcell2 hb2;have hz2:=hb2.size;have hst2:St w w2 k b bn s i f c x:=St.step (by repeat (first | (with_reducible assumption) | (with_reducible refine St.dr ?_) | (with_reducible refine St.al ?_ _))) hb2;have HB2:=Lib.hid hb2;have HK2:=Lib.hid hk2;clear hb2 hk2))
  all_goals
   go_wp2
   go_meet
   refine ⟨rfl,?_⟩
   first
    | (with_reducible exact sqMid_new (W:=w1) hg1 hst2 HK2.out)
    | (with_reducible exact sqMid_set (W:=w1) hg1 hz0 hy1 (sqz_old HB2.out HB1.out) hst2 HK2.out)
    | (with_reducible exact sqMid_set (W:=w1.alloc _) (sqz_le hg1 _) hg1 (sqz_lt _ _) (sqz_blk HB2.out) hst2 HK2.out)
 case rest =>
  obtain ⟨rfl,G,k2,b2,bn2,s2,i2,f2,c2,x2,rfl,hG,hGs,hR,hK,hB⟩:=hcut
  have HG:=Lib.hid hG
  have HR:=Lib.hid hR
  have HK:=Lib.hid hK
  have HB:=Lib.hid hB
  clear hG hR hK hB
  have HGS:=Lib.hid hGs
  clear hGs
  obtain ⟨⟨h0,h1,h2,h3,h4,h5,h6,h7⟩,hz⟩:=boxed_of HR.out
  obtain ⟨⟨g0,g1,g2,g3,g4,g5,g6,g7⟩,gz⟩:=boxed_of HG.out
  clear gz
  go_wp2
  refine bodyPost_ret (ret_vec rfl _ _ _ rfl (set8_block HR.out _ _ _ _ _ _ _ _)) rfl ?_
  exact ⟨k2,b2,bn2,s2,i2,f2,c2,x2,rfl,(HK.out.set8 (.inr ⟨by omega,by omega⟩) _ _ _ _ _ _ _ _).sub (fun _ _ e => .inl e),below_set8 HB.out (Nat.le_succ _) _ _ _ _ _ _ _ _⟩
theorem info_i64:(Tryz.prog.info? 2).map (fun i=>(i.zero,i.size,i.bytes))=some (some (.int .i64 0),1,8):=by kernel_rfl
theorem ints_zero (a:Option Addr) (c:Nat) (w:World) :
  Calls Tryz.prog 228 #[.slice a 0 c] w fun e w'=>∃ u,e= .returned (.tuple #[vecV 3 vnil 0 vnil u vnil vnil vnil,.bool true])/\Own1 w' w.heap.size 2 u (([]:List Int).map (.int .i64))/\Below w.heap.size w w':=by
 have HC:=Lib.hid (fun w2 (_:Below w.heap.size w w2)=>cl64_any (w:=w2) (v := .slice a 0 c) (xs:=([]:List Int).map (.int .i64)) (.inl ⟨a,c,rfl,rfl⟩) (by simp) (by simp))
 go_enter Tryz.func228,Tryz.ntmps228
 go_wp2
 refine wp_loop_rounds 1 ?_
 rw [rounds_succ]
 go_wp2_with fail
 refine (HC.out _ (bel1 _ _)).mono ?_
 rintro e w1 ⟨u,rfl,ho,hb1⟩
 have HB1:=Lib.hid ((bel1 w _).trans (hb1.mono (bel1 w _).size))
 obtain ⟨h0,h1,h2,h3,h4,h5,h6,h7⟩:=(boxed_new w 57 0 vnil 0 vnil vnil vnil vnil vnil).below hb1
 have HK:=Lib.hid (block_up hb1)
 have hz:∀ j,w1.frozen? ⟨w.heap.size,j,none⟩=false:=fun j=>by rw [hb1.frozen (by simp)];exact frozen_new _ _ _ _
 have HNE:Hid (u.ownBlock≠some w.heap.size):=fun e=>by have:=(World.ownsRow.lt ho _ e).1;simp at this;omega
 have HO:=Lib.hid ho
 obtain ⟨a,n,c,hu⟩:∃ a n c,u= .slice a n c:=by obtain ⟨a,c,e⟩:=ho.reads.len;exact ⟨a,_,c,e⟩
 subst hu
 clear hb1 ho
 go_wp2
 refine bodyPost_ret (v := .tuple #[vecV 3 vnil 0 vnil (.slice a n c) vnil vnil vnil,.bool true]) ?_ rfl ⟨.slice a n c,rfl,own_set8 (HO.out.lower (by simp)) HNE.out _ _ _ _ _ _ _ _,below_set8 HB1.out (Nat.le_refl _) _ _ _ _ _ _ _ _⟩
 exact ret_vec2 (fn:=Tryz.f228) (p:=2) (u:=3) rfl _ _ w.heap.size (by rfl) (set8_block HK.out _ _ _ _ _ _ _ _)
theorem ints_any {w:World}{v:Value}{l:List Int} (h:Reads1 w v (l.map (.int .i64))) (hl:l.length<=1000000) (hg:∀ x∈l,Good x) :
  Calls Tryz.prog 228 #[v] w fun e w'=>∃ u,e= .returned (.tuple #[vecV 3 vnil 0 vnil u vnil vnil vnil,.bool true])/\Own1 w' w.heap.size 2 u (l.map (.int .i64))/\Below w.heap.size w w':=by
 rcases h.at with ⟨a,c,rfl,h0⟩ | ⟨b,o,c,rfl,hc⟩
 ·have:=List.map_eq_nil_iff.1 h0
  subst this
  exact ints_zero a c w
 ·rw [List.length_map]
  exact ints_walk b o _ c l rfl hl w (fun i hi=>by have:=hc i (by simpa using hi);simpa using this) hg
def Vec2R (H:Nat->Prop) (w:World) (R:Value->World->Prop) (e:Ending) (w':World):Prop :=
 ∃ (k:Int) (b:Sl) (bn:Int) (s i f c x:Sl),e= .returned (.tuple #[vecW k b bn s i f c x,.bool true])/\Keeps H w' (R (vecW k b bn s i f c x))/\Below w.heap.size w w'
theorem text_any (b:Value) (bn:Int) (s i f x:Value){w:World}{v:Value}{l:List Int} (h:Reads1 w v (l.map (.int .i32))) (hl:l.length<=1000000) :
  Calls Tryz.prog 231 #[vecV 5 b bn s i f v x] w fun e w'=>∃ u,e= .returned u/\Own1 w' w.heap.size 21 u (l.map (.int .i32))/\Below w.heap.size w w':=by
 have HC:=Lib.hid (fun w2 (hb:Below w.heap.size w w2)=>clR_any (h.below hb) (by rw [List.length_map];omega) (by intro u hu;obtain ⟨z,_,rfl⟩:=List.mem_map.1 hu;rfl))
 clear h
 go_enter Tryz.func231,Tryz.ntmps231
 go_wp2_with fail
 refine (HC.out _ (bel1 _ _)).mono ?_
 rintro e w1 ⟨u,rfl,ho,hb1⟩
 have HB1:=Lib.hid ((bel1 w _).trans (hb1.mono (bel1 w _).size))
 have HO:=Lib.hid ho
 clear hb1 ho
 go_wp2
 go_ret
 exact ⟨_,rfl,HO.out.lower (by simp),HB1.out⟩
theorem bits_size:(Tryz.prog.info? 52).map (·.size)=some 2:=by kernel_rfl
theorem ret_bits2 {fn:Func}{p u:Tmp} (h:fn.results=#[.cell p 52,.tmp u]) (tmps:Array Value) (w:World) (G:Nat){e:TypeId}{a0 a1:Value}
  (hp:tmps.getD p undef= .pointer (some ⟨G,0,none⟩)) (hg:w.heap[G]?=some (.cells #[a0,a1] e)) :
  (results fn tmps).run Tryz.prog w= .ok (.tuple #[.agg #[a0,a1],tmps.getD u undef]) w:=by
 rw [results_cell_tmp h,hp]
 have:=run_loadVar_row (P:=Tryz.prog) w G e 52 _ (0,0) _ hg Tryz.underlying52 rfl bits_size
 simp [asAddr,Result.andThen,this]
theorem packed_no (k:Int) (hk:k≠1) (b:Value) (bn:Int) (s i f c x:Value) (w:World) :
  Calls Tryz.prog 181 #[vecV k b bn s i f c x] w fun e w'=>e= .returned (.tuple #[.agg #[vnil,.int .i64 0],.bool false])/\Below w.heap.size w w':=by
 have hk1:(k != 1)=true:=by simpa using hk
 go_enter Tryz.func181,Tryz.ntmps181
 go_wp2
 refine bodyPost_ret (v := .tuple #[.agg #[vnil,.int .i64 0],.bool false]) ?_ rfl ⟨rfl,bel2 _ _ _⟩
 exact ret_bits2 (fn:=Tryz.f181) (p:=2) (u:=3) rfl _ _ (w.heap.size+1) (by rfl) (by have h:=heap_alloc_new (w.alloc (.cells #[.int .i64 k,b,.int .i64 bn,s,i,f,c,x] 57)) (.cells #[.slice none 0 0,.int .i64 0] 52);simpa using h)
theorem natAbs_good {n:Int} (h:Good n):n.natAbs<=9007199254740992:=by obtain ⟨h1,h2⟩:=h;omega
theorem fi_zero:fi 0=0:=by decide
theorem sg_dec_natAbs (n:Int):sg (decide (n < 0)) n.natAbs=n:=by
 unfold sg
 by_cases h:n < 0
 ·simp [h];omega
 ·simp [h];omega
theorem nwhole_fi (n:Int) (h:Good n) (w:World):Calls Tryz.prog 174 #[.float .f64 (fi n)] w fun e w'=>e= .returned (.tuple #[.int .i64 n,.bool true])/\w=w':=by
 have:=nwhole_yes (decide (n < 0)) n.natAbs (natAbs_good h) w
 rw [sg_dec_natAbs,<- fi_W n (natAbs_good h)] at this
 exact this
theorem inf_div' (s:Bool):floatBits .quo .f64 4607182418800017408 (W s 0)=some (infw s):=by cases s <;> decide+kernel
theorem fo_refl' (s:Bool){Z:Nat} (hz:Rep Z):FloatKind.f64.format.order (W s Z) (W s Z)=some .eq:=by
 have:=order_W s s hz hz
 rw [cmp_eq] at this
 exact this
theorem bits_same' (s:Bool){Z:Nat} (hz:Rep Z) (w:World) :
  Calls Tryz.prog 186 #[.float .f64 (W s Z),.float .f64 (W s Z)] w fun e w'=>e= .returned (.bool true)/\w=w':=by
 have h1:=fo_refl' s hz
 have h2:=fo_eq s false hz rep_zero
 rw [W_zero,sg_zero] at h2
 by_cases h0:Z=0
 ·subst h0
  rw [sg_zero,decide_eq_true rfl] at h2
  have h2':FloatKind.f64.format.order (W s 0) 0=some .eq:=by simpa using h2
  have h3:=fo_infinf s
  have h4:=fun w=>run_float_arith (P:=Tryz.prog) w .quo 96 .f64 _ _ _ (inf_div' s)
  clear hz h2
  generalize W s 0=b at *
  go_enter Tryz.func186,Tryz.ntmps186
  go_wp2
  go_ret
  exact ⟨rfl,rfl⟩
 ·rw [decide_eq_false (by rw [sg_eq_zero];exact h0)] at h2
  have h2':=beq_eq_false_iff_ne.1 h2
  have h2n:(FloatKind.f64.format.order (W s Z) 0 != some .eq)=true:=by rw [bne,h2];rfl
  clear hz h0
  generalize W s Z=b at *
  go_enter Tryz.func186,Tryz.ntmps186
  go_wp2
  go_ret
  exact ⟨rfl,rfl⟩
theorem reads_at {w:World}{v:Value}{n:Nat}{F:Nat->Value} (h:Reads1 w v ((List.range n).map F)):∃ a c,v= .slice a n c/\∀ j,j < n->∃ b o,a=some ⟨b,o,none⟩/\w.cell? ⟨b,o+j,none⟩=some (F j):=by
 rcases h with ⟨a,c,rfl,h0⟩ | ⟨b,o,m,c,rfl,hn,hc⟩
 ·have hn:n=0:=by simpa using h0
  subst hn
  exact ⟨a,c,rfl,fun j hj=>by omega⟩
 ·have hm:m=n:=by simpa using hn
  subst hm
  refine ⟨_,c,rfl,fun j hj=>⟨b,o,rfl,?_⟩⟩
  rw [hc j (by simpa using hj)]
  simp
def Small8 (n:Nat) (l:Nat->Int) (u:Value) (W:World):Prop:=∃ s,u=vecV 2 vnil 0 s vnil vnil vnil vnil/\Reads1 W s ((List.range n).map fun j => .int .i8 (l j))
end Go.Proofs.YtbakjaliponbbaaGreatDoor
