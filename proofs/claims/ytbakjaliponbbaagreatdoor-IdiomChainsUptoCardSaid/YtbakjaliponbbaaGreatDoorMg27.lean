/- The walks of rebusref08.Blank and rebusref28.First. Printed by gen_rft.py. The walks of rebusref16's Below, Cells, Less. Printed by gen_rgr.py. The walk of .. Conditions: as each theorem says. -/
import Derived.Test.YtbakjaliponbbaaGreatDoorMg26
import Derived.Test.YtbakjaliponbbaaGreatDoorMg22
set_option maxRecDepth 100000
set_option maxHeartbeats 800000
namespace Go.Proofs.YtbakjaliponbbaaGreatDoor
open Go Go.RowKit Go.Proofs Fl
def blkI:Nat->RI
 | 0 => .mk 0 0 0 []
 | 1 => .mk 1 0 32 []
 | _ => .mk 2 0 0 [.mk [0] [] 0]
def blkA:Nat->PA
 | 0 => .nums [] [0]
 | 1 => .chars [] [32]
 | _ => .boxes [] [.nums [0] []]
theorem blkA_raw {f:Nat} (hf:f<=2):rawP (blkA f)= .mk [] [blkI f] (f:Int):=by
 match f,hf with
 | 0,_=>rw [blkA,rawP];rfl
 | 1,_=>rw [blkA,rawP];rfl
 | 2,_=>show rawP (.boxes [] [.nums [0] []])=_;rw [rawP,rawBs,rawBs,rawP];rfl
theorem blkA_len (f:Nat):(blkA f).len=1:=by
 match f with
 | 0=>rfl
 | 1=>rfl
 | _+2=>rfl
def BlR (H:Nat->Prop) (w:World) (f:Nat) (e:Ending) (w':World):Prop:=∃ k n c y,e= .returned (itV k n c y)/\IV H w' (blkI f) k n c y/\Below w.heap.size w w'
noncomputable def firE (a:PA):PA:=if 0 < a.len then partA a 0 else partA (blkA a.fill) 0
theorem st_old1 (w:World) (k:Int) (c:Int) (y:Value) (e:TypeId) (o:Obj) (md:Mode) :
  (store ⟨w.heap.size,1,none⟩ (.float .f64 0) md).run Tryz.prog ((w.alloc (.cells #[.int .i64 k,.float .f64 0,.int .i32 c,y] e)).alloc o)= .ok () ((w.alloc (.cells #[.int .i64 k,.float .f64 0,.int .i32 c,y] e)).alloc o):=by
 have hg:=blk_alloc (heap_alloc_new w (.cells #[.int .i64 k,.float .f64 0,.int .i32 c,y] e)) o
 have hc:((w.alloc (.cells #[.int .i64 k,.float .f64 0,.int .i32 c,y] e)).alloc o).cell? ⟨w.heap.size,1,none⟩=some (.float .f64 0):=by
  rw [cell_of_row _ w.heap.size 1 _ e (0,0) hg];rfl
 have hz:((w.alloc (.cells #[.int .i64 k,.float .f64 0,.int .i32 c,y] e)).alloc o).frozen? ⟨w.heap.size,1,none⟩=false:=frozen_of_row _ _ _ _ _ hg
 rw [store_float hc hz .f64 0 md,World.setCell_alloc_past _ _ _ _ (by simp),World.setCell_alloc_at _ _ _ _ _ rfl]
 rfl
theorem st_old3 (w:World) (k:Int) (c:Int) (y:Value) (e:TypeId) (o o2 o3:Obj) (md:Mode) :
  (store ⟨w.heap.size,1,none⟩ (.float .f64 0) md).run Tryz.prog ((((w.alloc (.cells #[.int .i64 k,.float .f64 0,.int .i32 c,y] e)).alloc o).alloc o2).alloc o3)= .ok () ((((w.alloc (.cells #[.int .i64 k,.float .f64 0,.int .i32 c,y] e)).alloc o).alloc o2).alloc o3):=by
 have hg:=blk_alloc (blk_alloc (blk_alloc (heap_alloc_new w (.cells #[.int .i64 k,.float .f64 0,.int .i32 c,y] e)) o) o2) o3
 have hc:((((w.alloc (.cells #[.int .i64 k,.float .f64 0,.int .i32 c,y] e)).alloc o).alloc o2).alloc o3).cell? ⟨w.heap.size,1,none⟩=some (.float .f64 0):=by
  rw [cell_of_row _ w.heap.size 1 _ e (0,0) hg];rfl
 have hz:((((w.alloc (.cells #[.int .i64 k,.float .f64 0,.int .i32 c,y] e)).alloc o).alloc o2).alloc o3).frozen? ⟨w.heap.size,1,none⟩=false:=frozen_of_row _ _ _ _ _ hg
 rw [store_float hc hz .f64 0 md,World.setCell_alloc_past _ _ _ _ (by simp;omega),World.setCell_alloc_past _ _ _ _ (by simp;omega),World.setCell_alloc_past _ _ _ _ (by simp),World.setCell_alloc_at _ _ _ _ _ rfl]
 rfl
theorem fill_le (a:PA):a.fill<=2:=by cases a <;> simp [PA.fill]
def PzR (H:Nat->Prop) (w:World) (t:RP) (e:Ending) (w':World):Prop:=∃ h x f,e= .returned (plV h x f)/\PV H w' t h x f/\Below w.heap.size w w'
theorem pzR_of {H:Nat->Prop}{w w':World}{t:RP}{h x:Sl}{f:Int} (g:PV H w' t h x f) (hb:Below w.heap.size w w'):PzR H w t (.returned (plV h x f)) w':=⟨h,x,f,rfl,g,hb⟩
theorem pvS_new2 {H:Nat->Prop}{w W:World}{t:RP}{e:Ending}{w':World} (hb:Below w.heap.size w W) (h:PvS H w W t e w'):PzR H W t e w':=by
 obtain ⟨h1,x1,f1,e1,(g | ⟨-,-,g⟩),hb2⟩:=h
 ·exact ⟨h1,x1,f1,e1,g.step (bel_both hb hb2),hb2⟩
 ·exact ⟨h1,x1,f1,e1,g,hb2⟩
theorem rblank_0 (H:Nat->Prop) (w:World):Calls Tryz.prog 209 #[.int .i64 0] w (BlR H w 0):=by
 have HB:=Lib.hid (bel2 w (itO 0 0 0 nilS) (itO 0 0 0 nilS))
 have HR:Hid (((w.alloc (itO 0 0 0 nilS)).alloc (itO 0 0 0 nilS)).heap[w.heap.size]?=some (itO 0 0 0 nilS)):=blk_alloc (heap_alloc_new w _) _
 have hst1:∀ md,(store ⟨w.heap.size+1,1,none⟩ (.float .f64 0) md).run Tryz.prog ((w.alloc (itO 0 0 0 nilS)).alloc (.cells #[.int .i64 0,.float .f64 0,.int .i32 0,.slice none 0 0] 106))= .ok () ((w.alloc (itO 0 0 0 nilS)).alloc (.cells #[.int .i64 0,.float .f64 0,.int .i32 0,.slice none 0 0] 106)):=fun md=>by
  have h9:=st_item (w.alloc (itO 0 0 0 nilS)) 0 0 0 0 (.slice none 0 0) 106 md
  rw [show (w.alloc (itO 0 0 0 nilS)).heap.size=w.heap.size+1 by simp] at h9
  exact h9
 have hst2:=fun md=>st_old1 w 0 0 (.slice none 0 0) 106 (itO 0 0 0 nilS) md
 go_enter Tryz.func209,Tryz.ntmps209
 go_wp2
 refine bodyPost_ret (v:=itV 0 0 0 nilS) ?_ rfl ⟨0,0,0,nilS,rfl,iv_none _ _ _ _ _ _ _,HB.out⟩
 exact ret_item (fn:=Tryz.f209) (p:=2) rfl _ _ w.heap.size (by rfl) HR.out
theorem rblank_1 (H:Nat->Prop) (w:World):Calls Tryz.prog 209 #[.int .i64 1] w (BlR H w 1):=by
 have HB:=Lib.hid (bel2 w (itO 1 0 32 nilS) (itO 1 0 32 nilS))
 have HR:Hid (((w.alloc (itO 1 0 32 nilS)).alloc (itO 1 0 32 nilS)).heap[w.heap.size]?=some (itO 1 0 32 nilS)):=blk_alloc (heap_alloc_new w _) _
 have hst1:∀ md,(store ⟨w.heap.size+1,1,none⟩ (.float .f64 0) md).run Tryz.prog ((w.alloc (itO 0 0 0 nilS)).alloc (.cells #[.int .i64 1,.float .f64 0,.int .i32 0,.slice none 0 0] 106))= .ok () ((w.alloc (itO 0 0 0 nilS)).alloc (.cells #[.int .i64 1,.float .f64 0,.int .i32 0,.slice none 0 0] 106)):=fun md=>by
  have h9:=st_item (w.alloc (itO 0 0 0 nilS)) 1 0 0 0 (.slice none 0 0) 106 md
  rw [show (w.alloc (itO 0 0 0 nilS)).heap.size=w.heap.size+1 by simp] at h9
  exact h9
 have hst2:=fun md=>st_old1 w 1 0 (.slice none 0 0) 106 (itO 1 0 32 nilS) md
 go_enter Tryz.func209,Tryz.ntmps209
 go_wp2
 refine bodyPost_ret (v:=itV 1 0 32 nilS) ?_ rfl ⟨1,0,32,nilS,rfl,iv_none _ _ _ _ _ _ _,HB.out⟩
 exact ret_item (fn:=Tryz.f209) (p:=2) rfl _ _ w.heap.size (by rfl) HR.out
theorem rblank_2 (H:Nat->Prop) (w:World) (hH:∀ b,H b->b < w.heap.size):Calls Tryz.prog 209 #[.int .i64 2] w (BlR H w 2):=by
 have HH:=Lib.hid hH
 have s1:(w.alloc (itO 2 0 0 (some ⟨w.heap.size+3,0,none⟩,1,1))).heap.size=w.heap.size+1:=by simp
 have s2:((w.alloc (itO 2 0 0 (some ⟨w.heap.size+3,0,none⟩,1,1))).alloc (itO 2 0 0 (some ⟨w.heap.size+3,0,none⟩,1,1))).heap.size=w.heap.size+2:=by simp
 have s3:(((w.alloc (itO 2 0 0 (some ⟨w.heap.size+3,0,none⟩,1,1))).alloc (itO 2 0 0 (some ⟨w.heap.size+3,0,none⟩,1,1))).alloc (shO 0)).heap.size=w.heap.size+3:=by simp
 have HB:Hid (Below w.heap.size w ((((w.alloc (itO 2 0 0 (some ⟨w.heap.size+3,0,none⟩,1,1))).alloc (itO 2 0 0 (some ⟨w.heap.size+3,0,none⟩,1,1))).alloc (shO 0)).alloc (plO (some ⟨w.heap.size+2,0,none⟩,1,1) nilS 0))):=bel_both (bel2 w (itO 2 0 0 (some ⟨w.heap.size+3,0,none⟩,1,1)) (itO 2 0 0 (some ⟨w.heap.size+3,0,none⟩,1,1))) (bel2 _ (shO 0) (plO (some ⟨w.heap.size+2,0,none⟩,1,1) nilS 0))
 have HR:Hid (((((w.alloc (itO 2 0 0 (some ⟨w.heap.size+3,0,none⟩,1,1))).alloc (itO 2 0 0 (some ⟨w.heap.size+3,0,none⟩,1,1))).alloc (shO 0)).alloc (plO (some ⟨w.heap.size+2,0,none⟩,1,1) nilS 0)).heap[w.heap.size]?=some (itO 2 0 0 (some ⟨w.heap.size+3,0,none⟩,1,1))):=blk_alloc (blk_alloc (blk_alloc (heap_alloc_new w _) _) _) _
 have HS:Hid (((((w.alloc (itO 2 0 0 (some ⟨w.heap.size+3,0,none⟩,1,1))).alloc (itO 2 0 0 (some ⟨w.heap.size+3,0,none⟩,1,1))).alloc (shO 0)).alloc (plO (some ⟨w.heap.size+2,0,none⟩,1,1) nilS 0)).heap[w.heap.size+2]?=some (shO 0)):=by
  have h1:=heap_alloc_new ((w.alloc (itO 2 0 0 (some ⟨w.heap.size+3,0,none⟩,1,1))).alloc (itO 2 0 0 (some ⟨w.heap.size+3,0,none⟩,1,1))) (shO 0)
  rw [s2] at h1
  exact blk_alloc h1 _
 have HP:Hid (At3 ((((w.alloc (itO 2 0 0 (some ⟨w.heap.size+3,0,none⟩,1,1))).alloc (itO 2 0 0 (some ⟨w.heap.size+3,0,none⟩,1,1))).alloc (shO 0)).alloc (plO (some ⟨w.heap.size+2,0,none⟩,1,1) nilS 0)) (w.heap.size+3) 0 (some ⟨w.heap.size+2,0,none⟩,1,1) nilS 0):=by
  have h1:=at3_box (((w.alloc (itO 2 0 0 (some ⟨w.heap.size+3,0,none⟩,1,1))).alloc (itO 2 0 0 (some ⟨w.heap.size+3,0,none⟩,1,1))).alloc (shO 0)) (some ⟨w.heap.size+2,0,none⟩,1,1) nilS 0
  rw [s3] at h1
  exact h1
 have HI:Hid (IV H ((((w.alloc (itO 2 0 0 (some ⟨w.heap.size+3,0,none⟩,1,1))).alloc (itO 2 0 0 (some ⟨w.heap.size+3,0,none⟩,1,1))).alloc (shO 0)).alloc (plO (some ⟨w.heap.size+2,0,none⟩,1,1) nilS 0)) (blkI 2) 2 0 0 (some ⟨w.heap.size+3,0,none⟩,1,1)):=by
  refine iv_box (fun e=>by have:=HH.out _ e;omega) ?_ HP.out
  refine pv_of (fun W hz hb => .inr ⟨w.heap.size+2,0,1,1,rfl,rfl,fun j hj=>?_⟩) rfl (fun i hi=>absurd hi (Nat.not_lt_zero _))
  have hj0:j=0:=by simpa using hj
  subst hj0
  have hblk:W.heap[w.heap.size+2]?=some (shO 0):=by
   rw [hb _ (lt_blk HS.out) (fun e=>by have:=HH.out _ e;omega)]
   exact HS.out
  rw [cell_of_row _ (w.heap.size+2) (0+0) _ _ (0,0) hblk]
  rfl
 clear hH s1 s2 s3
 have hst1:∀ md,(store ⟨w.heap.size+1,1,none⟩ (.float .f64 0) md).run Tryz.prog ((w.alloc (itO 0 0 0 nilS)).alloc (.cells #[.int .i64 2,.float .f64 0,.int .i32 0,.slice none 0 0] 106))= .ok () ((w.alloc (itO 0 0 0 nilS)).alloc (.cells #[.int .i64 2,.float .f64 0,.int .i32 0,.slice none 0 0] 106)):=fun md=>by
  have h9:=st_item (w.alloc (itO 0 0 0 nilS)) 2 0 0 0 (.slice none 0 0) 106 md
  rw [show (w.alloc (itO 0 0 0 nilS)).heap.size=w.heap.size+1 by simp] at h9
  exact h9
 have hst2:=fun md=>st_old3 w 2 0 (.slice none 0 0) 106 (itO 2 0 0 (some ⟨w.heap.size+3,0,none⟩,1,1)) (shO 0) (plO (some ⟨w.heap.size+2,0,none⟩,1,1) nilS 0) md
 go_enter Tryz.func209,Tryz.ntmps209
 go_wp2
 refine bodyPost_ret (v:=itV 2 0 0 (some ⟨w.heap.size+3,0,none⟩,1,1)) ?_ rfl ⟨2,0,0,(some ⟨w.heap.size+3,0,none⟩,1,1),rfl,HI.out,HB.out⟩
 exact ret_item (fn:=Tryz.f209) (p:=2) rfl _ _ w.heap.size (by rfl) HR.out
theorem rblank_any (H:Nat->Prop) (w:World) (hH:∀ b,H b->b < w.heap.size) (f:Nat) (hf:f<=2):Calls Tryz.prog 209 #[.int .i64 (f:Int)] w (BlR H w f):=by
 match f,hf with
 | 0,_=>exact rblank_0 H w
 | 1,_=>exact rblank_1 H w
 | 2,_=>exact rblank_2 H w hH
theorem rfirst28_none {H:Nat->Prop} (h x:Sl) (fl:Nat) (hfl:fl<=2) (hx:x.2.1=0) (f:Int) (hf:f=(fl:Int)) (W0:World) (hH:∀ b,H b->b < W0.heap.size):Calls Tryz.prog 154 #[plV h x f] W0 (PzR H W0 (rawP (partA (blkA fl) 0))):=by
 have HH:=Lib.hid hH
 have HFL:=Lib.hid hfl
 have HFF:=Lib.hid hf
 have HS0:=Lib.hid (P1.new W0 h x f)
 have hx0:¬ ((x.2.1:Nat):Int) > 0:=by omega
 have HBK:Hid (∀ W,P1 W0 W h x f->Calls Tryz.prog 209 #[.int .i64 f] W (BlR (fun b=>H b\/b=W0.heap.size+1) W fl)):=fun W s=>by rw [hf];exact rblank_any _ W (fun b e=>hole1 hH s b e) fl hfl
 have HPT:Hid (∀ W {x6:Sl},P1 W0 W h x f->PV (fun b=>H b\/b=W0.heap.size+1) W (rawP (blkA fl)) nilS x6 f->Calls Tryz.prog 208 #[plV nilS x6 f,.int .i64 0] W (PzR (fun b=>H b\/b=W0.heap.size+1) W (rawP (partA (blkA fl) 0)))):=fun W x6 s g=>(erp_any g 0 (by rw [blkA_len];decide) (by rw [blkA_len];decide) W (Below.refl _ _) (fun b e=>hole1 hH s b e)).mono fun e w' h=>pvS_new2 (Below.refl _ _) h
 unfold BlR at HBK
 unfold PzR at HPT
 clear hH hfl hf hx
 go_enter Tryz.func154,Tryz.ntmps154
 obtain ⟨p0,p1,p2⟩:=at3_c HS0.out.one
 go_upto_region 3 with fail
 have hls0:P1 W0 ((W0.alloc (plO h x f)).alloc (plO nilS nilS 0)).drew h x f:=HS0.out.dr
 have hls00:=HS0.out
 refine wp_region_noPanic ?_
 refine wp_region_held_drew (S:=fun W=>W.cell? ⟨W0.heap.size,0,none⟩=some (.slice h.1 h.2.1 h.2.2)/\W.cell? ⟨W0.heap.size,1,none⟩=some (.slice x.1 x.2.1 x.2.2)/\W.cell? ⟨W0.heap.size,2,none⟩=some (.int .i64 f)) (by kernel_rfl) (by exact at3_c hls0.one) (fun hHeld=>?_)
 refine wpAnyH_take (i:=0) (v:=?av1) rfl (by kernel_rfl) (by kernel_rfl) (by kernel_rfl) (fun _ _ _ h=>h) (Or.inl ⟨by rfl,?ay1⟩) (by assumption) ?as1
 case ay1=>(intro w hSw;(try dsimp only at hSw);go_simp;try with_reducible rfl)
 change wpAnyH _ _ _ _ _ _ _ (Act.put _ (some 9) _) _
 simp only [Act.put,List.setIfInBounds_toArray,List.set_cons_zero,List.set_cons_succ]
 refine wpAnyH_take (i:=1) (v:=?av2) rfl (by kernel_rfl) (by kernel_rfl) (by kernel_rfl) (fun _ _ _ h=>h) (Or.inl ⟨by rfl,?ay2⟩) (by assumption) ?as2
 case ay2=>(intro w hSw;(try dsimp only at hSw);go_simp;try with_reducible rfl)
 change wpAnyH _ _ _ _ _ _ _ (Act.put _ (some 10) _) _
 simp only [Act.put,List.setIfInBounds_toArray,List.set_cons_zero,List.set_cons_succ]
 refine wpAnyH_take (i:=4) (v:=?av3) rfl (by kernel_rfl) (by kernel_rfl) (by kernel_rfl) (fun _ _ _ h=>h) (Or.inl ⟨by rfl,?ay3⟩) (by assumption) ?as3
 case ay3=>(intro w hSw;(try dsimp only at hSw);go_simp;try with_reducible rfl)
 change wpAnyH _ _ _ _ _ _ _ (Act.put _ (some 13) _) _
 simp only [Act.put,List.setIfInBounds_toArray,List.set_cons_zero,List.set_cons_succ]
 refine wpAnyH_take (i:=5) (v:=?av4) rfl (by kernel_rfl) (by kernel_rfl) (by kernel_rfl) (fun _ _ _ h=>h) (Or.inl ⟨by rfl,?ay4⟩) (by assumption) ?as4
 case ay4=>(intro w hSw;(try dsimp only at hSw);go_simp;try with_reducible rfl)
 change wpAnyH _ _ _ _ _ _ _ (Act.put _ (some 14) _) _
 simp only [Act.put,List.setIfInBounds_toArray,List.set_cons_zero,List.set_cons_succ]
 refine wpAnyH_ready (rs:=[2]) (by kernel_rfl) (by simp) ?_
 refine AllReadyH.cons rfl (fun K hK=>?_) AllReadyH.nil
 go_simp
 (go_at_call 209;(with_reducible refine (HBK.out _ ?_).mono ?_);exact (by repeat (first | (with_reducible assumption) | (with_reducible refine P1.dr ?_)));rintro e w5 ⟨k5,n5,c5,y5,rfl,hiv,hb5⟩;have hp5:P1 W0 w5 h x f:=P1.step (by repeat (first | (with_reducible assumption) | (with_reducible refine P1.dr ?_))) hb5;clear hb5)
 refine hK.out _ _ (by first | (with_reducible assumption) | ((with_reducible (refine at3_c (P1.one (w:=W0) (h:=h) (x:=x) (f:=f) ?_)));(repeat (first | (with_reducible assumption) | (with_reducible refine P1.dr ?_)));done) | (exact at3_c (p1_set (by assumption) _ _ _))) (fun hHeld=>?_)
 clear hK K
 refine wpAnyH_ready (rs:=[3]) (by kernel_rfl) (by simp) ?_
 refine AllReadyH.cons rfl (fun K hK=>?_) AllReadyH.nil
 go_simp
 have hp6:P1 W0 (w5.alloc (itO k5 n5 c5 y5)) h x f:=hp5.step (bel1 _ _)
 have hpv6:PV (fun b=>H b\/b=W0.heap.size+1) (w5.alloc (itO k5 n5 c5 y5)) (rawP (blkA fl)) nilS (some ⟨w5.heap.size,0,none⟩,1,1) f:=by
  rw [blkA_raw HFL.out,<- HFF.out]
  refine pv_of (fun _ _ _ => .inl ⟨none,0,rfl,rfl⟩) rfl fun j hj=>?_
  obtain rfl:j=0:=by simpa using hj
  exact ⟨w5.heap.size,0,k5,n5,c5,y5,rfl,fun e=>by have:=hole1 HH.out hp5 _ e;omega,hiv.step (bel1 _ _),at4_box w5 k5 n5 c5 y5⟩
 refine hK.out _ _ (by first | (with_reducible assumption) | ((with_reducible (refine at3_c (P1.one (w:=W0) (h:=h) (x:=x) (f:=f) ?_)));(repeat (first | (with_reducible assumption) | (with_reducible refine P1.dr ?_)));done) | (exact at3_c (p1_set (by assumption) _ _ _))) (fun hHeld=>?_)
 clear hK K
 refine wpAnyH_take (i:=6) (v:=?av5) rfl (by kernel_rfl) (by kernel_rfl) (by kernel_rfl) (fun _ _ _ h=>h) (Or.inl ⟨by rfl,?ay5⟩) (by assumption) ?as5
 case ay5=>(intro w hSw;(try dsimp only at hSw);go_simp;try with_reducible rfl)
 change wpAnyH _ _ _ _ _ _ _ (Act.put _ (some 15) _) _
 simp only [Act.put,List.setIfInBounds_toArray,List.set_cons_zero,List.set_cons_succ]
 refine wpAnyH_ready (rs:=[7]) (by kernel_rfl) (by simp) ?_
 refine AllReadyH.cons rfl (fun K hK=>?_) AllReadyH.nil
 go_simp
 (go_at_call 208;(with_reducible refine (HPT.out _ hp6 hpv6).mono ?_);rintro e w7 ⟨h7,x7,f7,rfl,hpv7,hb7⟩;have hp7:P1 W0 w7 h x f:=hp6.step hb7;clear hb7)
 refine hK.out _ _ (by first | (with_reducible assumption) | ((with_reducible (refine at3_c (P1.one (w:=W0) (h:=h) (x:=x) (f:=f) ?_)));(repeat (first | (with_reducible assumption) | (with_reducible refine P1.dr ?_)));done) | (exact at3_c (p1_set (by assumption) _ _ _))) (fun hHeld=>?_)
 clear hK K
 refine wpAnyH_ready (rs:=[8]) (by kernel_rfl) (by simp) ?_
 refine AllReadyH.cons rfl (fun K hK=>?_) AllReadyH.nil
 (skip;(obtain ⟨⟨z0,z1,z2⟩,zz⟩:=block3 hp7.res);go_simp)
 refine hK.out _ _ (by first | (with_reducible assumption) | ((with_reducible (refine at3_c (P1.one (w:=W0) (h:=h) (x:=x) (f:=f) ?_)));(repeat (first | (with_reducible assumption) | (with_reducible refine P1.dr ?_)));done) | (exact at3_c (p1_set (by assumption) _ _ _))) (fun hHeld=>?_)
 clear hK K
 refine wpAnyH_done (by kernel_rfl) ?_ _
 refine NoPanic.normal ?_
 have HPV:=Lib.hid (pl_fin hpv7)
 have HBE:=Lib.hid (below_set3 hp7.bel (Nat.le_succ _) (sv h7) (sv x7) (.int .i64 f7))
 have HRE:=Lib.hid (set3_block hp7.res (sv h7) (sv x7) (.int .i64 f7))
 go_wp2
 refine bodyPost_ret (v:=plV h7 x7 f7) ?_ rfl (pzR_of HPV.out HBE.out)
 exact ret_plain (fn:=Tryz.f154) (p:=2) rfl _ _ (W0.heap.size+1) (by rfl) HRE.out
theorem rfirst28_some {H:Nat->Prop}{w:World}{a:PA}{h x:Sl}{f:Int} (g:PV H w (rawP a) h x f) (hn:0 < a.len) (hl:a.len<=1048576) (W0:World) (hb:Below w.heap.size w W0) (hH:∀ b,H b->b < w.heap.size):Calls Tryz.prog 154 #[plV h x f] W0 (PzR H W0 (rawP (partA a 0))):=by
 have HH:Hid (∀ b,H b->b < W0.heap.size):=fun b e=>by have:=hH b e;have:=hb.size;omega
 have HS0:=Lib.hid (P1.new W0 h x f)
 have hx0:((x.2.1:Nat):Int) > 0:=by
  have h1:=g
  rw [rp_eta (rawP a)] at h1
  have h2:=h1.open_.2.2.1
  rw [rawP_len] at h2
  omega
 have HPT:Hid (∀ W,P1 W0 W h x f->Calls Tryz.prog 208 #[plV h x f,.int .i64 0] W (PzR (fun b=>H b\/b=W0.heap.size+1) W (rawP (partA a 0)))):=fun W s=>(erp_any (PV.step (PV.sub (H':=fun b=>H b\/b=W0.heap.size+1) (fun b hb9 e=>by
  rcases e with e | e
  ·exact e
  ·have:=hb.size;omega) g) (bel_both hb s.bel)) 0 hn hl W (Below.refl _ _) (fun b e=>hole1 HH.out s b e)).mono fun e w' h=>pvS_new2 (Below.refl _ _) h
 unfold PzR at HPT
 clear g hH hb hn hl
 go_enter Tryz.func154,Tryz.ntmps154
 obtain ⟨p0,p1,p2⟩:=at3_c HS0.out.one
 go_wp2_with fail
 refine (HPT.out _ HS0.out).mono ?_
 rintro e w7 ⟨h7,x7,f7,rfl,hpv7,hb7⟩
 have HP7:=Lib.hid (HS0.out.step hb7)
 clear hb7 p0 p1 p2
 have HPV:=Lib.hid (pl_fin hpv7)
 have HBE:=Lib.hid (below_set3 HP7.out.bel (Nat.le_succ _) (sv h7) (sv x7) (.int .i64 f7))
 have HRE:=Lib.hid (set3_block HP7.out.res (sv h7) (sv x7) (.int .i64 f7))
 obtain ⟨⟨z0,z1,z2⟩,zz⟩:=block3 HP7.out.res
 clear hpv7
 go_wp2
 refine bodyPost_ret (v:=plV h7 x7 f7) ?_ rfl (pzR_of HPV.out HBE.out)
 exact ret_plain (fn:=Tryz.f154) (p:=2) rfl _ _ (W0.heap.size+1) (by rfl) HRE.out
theorem rfirst28_any {H:Nat->Prop}{w:World}{a:PA}{h x:Sl}{f:Int} (g:PV H w (rawP a) h x f) (hl:a.len<=1048576) (W0:World) (hb:Below w.heap.size w W0) (hH:∀ b,H b->b < w.heap.size):Calls Tryz.prog 154 #[plV h x f] W0 (PzR H W0 (rawP (firE a))):=by
 unfold firE
 by_cases hn:0 < a.len
 ·rw [if_pos hn];exact rfirst28_some g hn hl W0 hb hH
 ·rw [if_neg hn]
  have h1:=g
  rw [rp_eta (rawP a)] at h1
  obtain ⟨-,h2,h3,-⟩:=h1.open_
  rw [rawP_len] at h3
  rw [rawP_fil] at h2
  exact rfirst28_none h x a.fill (fill_le a) (by omega) f h2 W0 (fun b e=>by have:=hH b e;have:=hb.size;omega)
def kindI:RI->Int
 | .mk k _ _ _=>k
theorem rbelow_num (k:Int) (hk:k=0) (n:Nat) (c:Int) (x:Sl) (n':Nat) (c':Int) (x':Sl) (hn:TF n) (hn':TF n') (w:World) :
  Calls Tryz.prog 271 #[itV k n c x,itV k n' c' x'] w fun e w'=>e= .returned (.bool (decide (keyF n < keyF n')))/\Below w.heap.size w w':=by
 have HT:=Lib.hid (Tw4.new w k n c x k n' c' x')
 have ho:=order_tf hn hn'
 subst hk
 by_cases hlt:keyF n < keyF n'
 ·rw [(cmpF_lt hn hn').2 hlt] at ho
  rw [decide_eq_true hlt]
  clear hn hn' hlt
  go_enter Tryz.func271,Tryz.ntmps271
  obtain ⟨a0,a1,a2,a3⟩:=at4_c HT.out.one
  obtain ⟨b0,b1,b2,b3⟩:=at4_c HT.out.two
  go_wp2
  go_ret
  exact ⟨rfl,HT.out.bel⟩
 ·have h1:¬ FloatKind.f64.format.order n n'=some .lt:=by rw [ho];intro e;exact hlt ((cmpF_lt hn hn').1 (Option.some.inj e))
  have h2:(FloatKind.f64.format.order n n'==some .lt)=false:=beq_eq_false_iff_ne.2 h1
  rw [decide_eq_false hlt]
  clear hn hn' hlt ho
  go_enter Tryz.func271,Tryz.ntmps271
  obtain ⟨a0,a1,a2,a3⟩:=at4_c HT.out.one
  obtain ⟨b0,b1,b2,b3⟩:=at4_c HT.out.two
  go_wp2
  go_ret
  exact ⟨rfl,HT.out.bel⟩
theorem rbelow_chr (k:Int) (hk:k≠0) (n:Nat) (c:Int) (x:Sl) (n':Nat) (c':Int) (x':Sl) (w:World) :
  Calls Tryz.prog 271 #[itV k n c x,itV k n' c' x'] w fun e w'=>e= .returned (.bool (decide (c < c')))/\Below w.heap.size w w':=by
 have HT:=Lib.hid (Tw4.new w k n c x k n' c' x')
 have hk1:(k==0)=false:=beq_eq_false_iff_ne.2 hk
 clear hk
 go_enter Tryz.func271,Tryz.ntmps271
 obtain ⟨a0,a1,a2,a3⟩:=at4_c HT.out.one
 obtain ⟨b0,b1,b2,b3⟩:=at4_c HT.out.two
 go_wp2
 go_ret
 exact ⟨rfl,HT.out.bel⟩
theorem rbelow_any {H H':Nat->Prop}{w0 w1:World}{t u:RI} (hk:kindI t=kindI u) (ht:TF (numI t)) (hu:TF (numI u)){k:Int}{n:Nat}{c:Int}{x:Sl}{k':Int}{n':Nat}{c':Int}{x':Sl} (h1:IV H w0 t k n c x) (h2:IV H' w1 u k' n' c' x') (w:World) :
  Calls Tryz.prog 271 #[itV k n c x,itV k' n' c' x'] w fun e w'=>e= .returned (.bool (ltE t u))/\Below w.heap.size w w':=by
 cases t with
 | mk kind num char box =>
  cases u with
  | mk kind' num' char' box' =>
   rw [IV] at h1 h2
   obtain ⟨rfl,rfl,rfl,-⟩:=h1
   obtain ⟨rfl,rfl,rfl,-⟩:=h2
   have hk2:k=k':=hk
   subst hk2
   unfold ltE
   by_cases h0:k=0
   ·rw [show kE (.mk k n c box)=keyF n from if_pos h0,show kE (.mk k n' c' box')=keyF n' from if_pos h0];exact rbelow_num k h0 n c x n' c' x' ht hu w
   ·rw [show kE (.mk k n c box)=c from if_neg h0,show kE (.mk k n' c' box')=c' from if_neg h0];exact rbelow_chr k h0 n c x n' c' x' w
theorem cellsE_round (el:Nat->RI) (a b m j:Nat):cellsE el a b (m+1) j=if ltE (el (a+j)) (el (b+j)) then -1 else if ltE (el (b+j)) (el (a+j)) then 1 else cellsE el a b m (j+1):=rfl
theorem rcells_any {H:Nat->Prop}{w:World}{l:List RI}{x:Sl} (g:ItsR H w x l) (hl:l.length<=1048576) (kd:Int) (hkd:∀ p (hp:p < l.length),kindI l[p]=kd) (htf:∀ p (hp:p < l.length),TF (numI l[p])) (size i k:Nat) (hi:(i+1)*size<=l.length) (hk:(k+1)*size<=l.length) (W:World) (hb:Below w.heap.size w W) :
  Calls Tryz.prog 262 #[sv x,.int .i64 (size:Int),.int .i64 (i:Int),.int .i64 (k:Int)] W fun e w'=>e= .returned (.int .i64 (cellsE (fun p=>l.getD p default) (i*size) (k*size) size 0))/\Below W.heap.size W w':=by
 obtain ⟨-,-,hx,hit⟩:=g.open_
 obtain ⟨A,m,cc⟩:=x
 dsimp only at hx hit
 obtain ⟨a0,ha0⟩:∃ a0,a0=i*size:=⟨_,rfl⟩
 obtain ⟨b0,hb0⟩:∃ b0,b0=k*size:=⟨_,rfl⟩
 have hia:a0+size<=m:=by rw [ha0,hx];have:(i+1)*size=i*size+size:=Nat.succ_mul i size;omega
 have hkb:b0+size<=m:=by rw [hb0,hx];have:(k+1)*size=k*size+size:=Nat.succ_mul k size;omega
 have hm1:(i:Int)*(size:Int)=(a0:Int):=by rw [ha0,Int.natCast_mul]
 have hm2:(k:Int)*(size:Int)=(b0:Int):=by rw [hb0,Int.natCast_mul]
 have hmb:m<=1048576:=by omega
 rw [<- ha0,<- hb0]
 obtain ⟨el,hel⟩:∃ el:Nat->RI,el=fun p=>l.getD p default:=⟨_,rfl⟩
 have HEL:Hid (∀ p (hp:p < l.length),l[p]=el p):=fun p hp=>by rw [hel];simp [List.getD,hp]
 rw [<- hel]
 have HM:=Lib.hid hx
 have HIT:=Lib.hid hit
 have HKD:=Lib.hid hkd
 have HTF:=Lib.hid htf
 have HB:=Lib.hid hb
 obtain ⟨z,hz⟩:∃ z,z=cellsE el a0 b0 size 0:=⟨_,rfl⟩
 have HZ:=Lib.hid hz
 rw [<- hz]
 clear g hit hx hl hkd htf hi hk hb ha0 hb0 hel hz
 dsimp only [sv]
 go_enter Tryz.func262,Tryz.ntmps262
 go_wp2
 go_loopw [9] (fun jv wr=>∃ j:Nat,j<=size/\jv= .int .i64 (j:Int)/\z=cellsE el a0 b0 (size - j) j/\Below W.heap.size W wr) (fun jv _=>size - (intOf jv).toNat)
 case atStart=>exact ⟨0,Nat.zero_le _,rfl,HZ.out,Below.refl _ _⟩
 case round =>
  obtain ⟨j,hj,rfl,hzz,hbl⟩:=hrel
  have HZZ:=Lib.hid hzz
  have HBL:=Lib.hid hbl
  clear hzz hbl
  by_cases hlt:j < size
  ·have hlt2:(j:Int) < (size:Int):=by omega
   have hp1:a0+j < m:=by omega
   have hp2:b0+j < m:=by omega
   obtain ⟨p1,hpp1⟩:∃ p1,p1=a0+j:=⟨_,rfl⟩
   obtain ⟨p2,hpp2⟩:∃ p2,p2=b0+j:=⟨_,rfl⟩
   have he1:(a0:Int)+(j:Int)=(p1:Int):=by omega
   have he2:(b0:Int)+(j:Int)=(p2:Int):=by omega
   have ww1:IntKind.i64.wrap (a0:Int)=(a0:Int):=IntWalk.i64_in _ (by omega)
   have ww2:IntKind.i64.wrap (b0:Int)=(b0:Int):=IntWalk.i64_in _ (by omega)
   have ww3:IntKind.i64.wrap (p1:Int)=(p1:Int):=IntWalk.i64_in _ (by omega)
   have ww4:IntKind.i64.wrap (p2:Int)=(p2:Int):=IntWalk.i64_in _ (by omega)
   have HR:Hid (z=if ltE (el p1) (el p2) then -1 else if ltE (el p2) (el p1) then 1 else cellsE el a0 b0 (size - (j+1)) (j+1)):=by
    unfold Hid
    rw [HZZ.out,hpp1,hpp2,show size - j=(size - (j+1))+1 by omega,cellsE_round]
   have hl1:p1 < l.length:=by have:=HM.out;omega
   have hl2:p2 < l.length:=by have:=HM.out;omega
   obtain ⟨b1,o1,k1,n1,c1,y1,hxA,-,hv1,hat1⟩:=HIT.out p1 hl1
   obtain ⟨b2,o2,k2,n2,c2,y2,hxA2,-,hv2,hat2⟩:=HIT.out p2 hl2
   rw [hxA] at hxA2
   injection hxA2 with hxA2
   injection hxA2 with e1 e2 _
   subst e1;subst e2;subst hxA
   have q1lt:p1 < m:=by omega
   have q2lt:p2 < m:=by omega
   have q1i:(p1:Int) < (m:Int):=by omega
   have q2i:(p2:Int) < (m:Int):=by omega
   obtain ⟨d0,d1,d2,d3⟩:=hat1 _ (Lat.below (bel_both HB.out HBL.out))
   obtain ⟨f0,f1,f2,f3⟩:=hat2 _ (Lat.below (bel_both HB.out HBL.out))
   dsimp only [sv] at d0 d1 d2 d3 f0 f1 f2 f3
   have HC1:=Lib.hid (fun W'=>rbelow_any (by rw [HKD.out p1 hl1,HKD.out p2 hl2]) (HTF.out p1 hl1) (HTF.out p2 hl2) hv1 hv2 W')
   have HC2:=Lib.hid (fun W'=>rbelow_any (by rw [HKD.out p1 hl1,HKD.out p2 hl2]) (HTF.out p2 hl2) (HTF.out p1 hl1) hv2 hv1 W')
   rw [HEL.out p1 hl1,HEL.out p2 hl2] at HC1 HC2
   have D0:=Lib.hid (fun wz (hbz:Below wr.heap.size wr wz)=>hat1 wz (Lat.below (bel_both (bel_both HB.out HBL.out) hbz)))
   have D1:=Lib.hid (fun wz (hbz:Below wr.heap.size wr wz)=>hat2 wz (Lat.below (bel_both (bel_both HB.out HBL.out) hbz)))
   generalize ltE (el p1) (el p2)=r1 at HR HC1
   generalize ltE (el p2) (el p1)=r2 at HR HC2
   clear hat1 hat2 hv1 hv2 hpp1 hpp2 HZZ
   go_wp2
   go_still_tail 16,(by kernel_rfl)
   change wpList _ _ _ _ _ (wr.drewN 1)
   have HBD:=Lib.hid (below_drewN (Below.refl wr.heap.size wr) 1)
   clear d0 d1 d2 d3 f0 f1 f2 f3
   generalize wr.drewN 1=wd at *
   go_wp2_with fail
   refine (HC1.out _).mono ?_
   rintro e w2 ⟨rfl,hb2⟩
   have HB2:=Lib.hid (bel_both HBD.out hb2)
   clear hb2
   cases r1 with
   | true =>
    have HRF:Hid (z=-1):=HR.out
    clear HR
    obtain rfl:=HRF.out
    go_wp2
    go_ret
    exact ⟨rfl,bel_both HBL.out HB2.out⟩
   | false =>
    have HR2:Hid (z=if r2 then 1 else cellsE el a0 b0 (size - (j+1)) (j+1)):=HR.out
    clear HR
    obtain ⟨d0,d1,d2,d3⟩:=D0.out w2 HB2.out
    obtain ⟨f0,f1,f2,f3⟩:=D1.out w2 HB2.out
    dsimp only [sv] at d0 d1 d2 d3 f0 f1 f2 f3
    go_wp2
    go_still_tail 16,(by kernel_rfl)
    change wpList _ _ _ _ _ (w2.drewN 1)
    have HBE:=Lib.hid (bel_both HB2.out (below_drewN (Below.refl w2.heap.size w2) 1))
    clear d0 d1 d2 d3 f0 f1 f2 f3
    generalize w2.drewN 1=wd2 at *
    go_wp2_with fail
    refine (HC2.out _).mono ?_
    rintro e w3 ⟨rfl,hb3⟩
    have HB3:=Lib.hid (bel_both HBE.out hb3)
    clear hb3
    cases r2 with
    | true =>
     have HRF:Hid (z=1):=HR2.out
     clear HR2
     obtain rfl:=HRF.out
     go_wp2
     go_ret
     exact ⟨rfl,bel_both HBL.out HB3.out⟩
    | false =>
     have HR3:Hid (z=cellsE el a0 b0 (size - (j+1)) (j+1)):=HR2.out
     clear HR2
     go_wp2
     go_roundw
     case rel=>exact ⟨j+1,by omega,by go_num,HR3.out,bel_both HBL.out HB3.out⟩
     case measure=>simp [intOf];omega
  ·have hge:¬ (j:Int) < (size:Int):=by omega
   obtain rfl:j=size:=by omega
   have HRF:Hid (z=0):=by unfold Hid;rw [HZZ.out,Nat.sub_self];rfl
   clear HZ HZZ
   obtain rfl:=HRF.out
   go_wp2
   go_ret
   exact ⟨rfl,HBL.out⟩
theorem rless_any {H:Nat->Prop}{w:World}{l:List RI}{x:Sl} (g:ItsR H w x l) (hl:l.length<=1048576) (kd:Int) (hkd:∀ p (hp:p < l.length),kindI l[p]=kd) (htf:∀ p (hp:p < l.length),TF (numI l[p])) (size i k:Nat) (hi:(i+1)*size<=l.length) (hk:(k+1)*size<=l.length) (down:Bool) (W:World) (hb:Below w.heap.size w W) :
  Calls Tryz.prog 246 #[sv x,.int .i64 (size:Int),.int .i64 (i:Int),.int .i64 (k:Int),.bool down] W fun e w'=>e= .returned (.bool (lessE (fun p=>l.getD p default) size down i k))/\Below W.heap.size W w':=by
 have HC:=Lib.hid (rcells_any g hl kd hkd htf size i k hi hk W hb)
 have hcs:∀ el a b m j,cellsE el a b m j=-1\/cellsE el a b m j=0\/cellsE el a b m j=1:=fun el a b m=>by
  induction m with
  | zero=>intro j;exact .inr (.inl rfl)
  | succ m ih =>
   intro j
   rw [cellsE_round]
   split
   ·exact .inl rfl
   ·split
    ·exact .inr (.inr rfl)
    ·exact ih _
 have hcc:=hcs (fun p=>l.getD p default) (i*size) (k*size) size 0
 unfold lessE
 generalize cellsE (fun p=>l.getD p default) (i*size) (k*size) size 0=z at *
 clear hcs g hl hkd htf hi hk hb
 dsimp only
 obtain ⟨A,m,cc⟩:=x
 dsimp only [sv] at HC ⊢
 cases down <;> rcases hcc with rfl | rfl | rfl <;>
 ·go_enter Tryz.func246,Tryz.ntmps246
  go_wp2_with fail
  refine HC.out.mono ?_
  rintro e w2 ⟨rfl,hb2⟩
  have HB2:=Lib.hid hb2
  clear hb2
  go_wp2
  go_ret
  first
   | exact ⟨rfl,HB2.out⟩
   | exact ⟨by simp,HB2.out⟩
theorem own1_put {e:TypeId}{w:World}{B g n c:Nat}{F:Nat->Value} (h:Own1 w B e (.slice (some ⟨g,0,none⟩) n c) ((List.range n).map F)){k:Nat} (hk:k < n) (u:Value):Own1 (w.setCell ⟨g,k,none⟩ u) B e (.slice (some ⟨g,0,none⟩) n c) ((List.range n).map fun j=>if j=k then u else F j):=by
 unfold Own1 at h ⊢
 rw [List.length_map,List.length_range] at h ⊢
 have h2:=(World.ownsRow.stored h k u).1
 rw [set_map_range hk] at h2
 exact h2
theorem own1_frz {e:TypeId}{w:World}{B g n c:Nat}{F:Nat->Value} (h:Own1 w B e (.slice (some ⟨g,0,none⟩) n c) ((List.range n).map F)) (k:Nat):w.frozen? ⟨g,k,none⟩=false:=by
 unfold Own1 at h
 rw [List.length_map,List.length_range] at h
 exact World.ownsRow.frozenAt h k
theorem own1_made (w:World) (B:Nat) (hB:B<=w.heap.size) (e:TypeId) (z:Value) (n:Nat) (hn:n<=maxLen):Own1 (w.alloc (.cells (madeCells #[z] n) e)) B e (.slice (some ⟨w.heap.size,0,none⟩) n n) ((List.range n).map fun _=>z):=by
 have h:=World.ownsRow_lit (base:=B) (e:=e) (size:=1) w (madeCells #[z] n) n hB hn (by rw [size_madeCells];omega)
 rw [toList_madeCells_one] at h
 unfold Own1
 rw [List.length_map,List.length_range,show ((List.range n).map fun _=>z)=List.replicate n z from by
  apply List.ext_getElem
  ·simp
  ·intro i h1 h2
   simp]
 exact h
theorem rgrade16_any {H:Nat->Prop}{w:World}{l:List RI}{x:Sl} (g:ItsR H w x l) (hl:l.length<=1048576) (kd:Int) (hkd:∀ p (hp:p < l.length),kindI l[p]=kd) (htf:∀ p (hp:p < l.length),TF (numI l[p])) (size:Nat) (hs:0 < size) (down:Bool) (W:World) (hb:Below w.heap.size w W) :
  Calls Tryz.prog 219 #[sv x,.int .i64 (size:Int),.bool down] W fun e w'=>∃ A c,e= .returned (.slice A (l.length / size) c)/\Own1 w' W.heap.size 3 (.slice A (l.length / size) c) ((List.range (l.length / size)).map fun p => .int .i64 (gradeN (lessE (fun p=>l.getD p default) size down) (l.length / size) (l.length / size) p:Nat))/\Below W.heap.size W w':=by
 have hx:x.2.1=l.length:=g.open_.2.2.1
 obtain ⟨n,hn⟩:∃ n,n=l.length / size:=⟨_,rfl⟩
 have hnl:n*size<=l.length:=by rw [hn];exact Nat.div_mul_le_self _ _
 have hnb:n<=1048576:=by
  have:n<=n*size:=Nat.le_mul_of_pos_right n hs
  omega
 have HLS:=Lib.hid (fun i k (hi:i < n) (hk:k < n) W' (hb':Below W.heap.size W W')=>rless_any g hl kd hkd htf size i k (Nat.le_trans (Nat.mul_le_mul_right size hi) hnl) (Nat.le_trans (Nat.mul_le_mul_right size hk) hnl) down W' (bel_both hb hb'))
 rw [<- hn]
 obtain ⟨L,hL⟩:∃ L,L=lessE (fun p=>l.getD p default) size down:=⟨_,rfl⟩
 rw [<- hL] at HLS ⊢
 obtain ⟨A,m,cc⟩:=x
 dsimp only at hx
 dsimp only [sv] at HLS ⊢
 have hq1:(m:Int).tdiv (size:Int)=(n:Int):=by rw [Int.tdiv_eq_ediv_of_nonneg (by omega),hx,hn,Int.natCast_ediv]
 have hq2:IntKind.i64.wrap (n:Int)=(n:Int):=IntWalk.i64_in _ (by omega)
 have hq3:((size:Int)==0)=false:=by simp;omega
 have hq4:¬ (size:Int)=0:=by omega
 have hq5:¬ size=0:=by omega
 have hq7:IntKind.i64.wrap ((m:Int).tdiv (size:Int))=(n:Int):=by rw [hq1];exact hq2
 have hmk:=make_int n (by omega)
 have HO0:=Lib.hid (own1_made W W.heap.size (Nat.le_refl _) 3 (.int .i64 0) n (by unfold maxLen;omega))
 have HB0:=Lib.hid (bel1 W (.cells (madeCells #[.int .i64 0] n) 3))
 obtain ⟨W1,hW1⟩:∃ W1,W1=W.alloc (.cells (madeCells #[.int .i64 0] n) 3):=⟨_,rfl⟩
 have HW1:=Lib.hid hW1
 rw [<- hW1] at HO0 HB0
 clear g hl hkd htf hs hb hn hnl hx hL hW1
 go_enter Tryz.func219,Tryz.ntmps219
 go_wp2
 rw [<- HW1.out]
 clear hmk hq1 hq2 hq3 hq4 hq5 hq7
 go_loopw [9] (fun iv wr=>∃ i:Nat,i<=n/\iv= .int .i64 (i:Int)/\Own1 wr W.heap.size 3 (.slice (some ⟨W.heap.size,0,none⟩) n n) ((List.range n).map fun p => .int .i64 (gradeN L n i p:Nat))/\Below W.heap.size W wr) (fun iv _=>n - (intOf iv).toNat)
 case atStart=>exact ⟨0,Nat.zero_le _,rfl,HO0.out,HB0.out⟩
 case round =>
  obtain ⟨i,hi,rfl,hown,hbl⟩:=hrel
  have HOWN:=Lib.hid hown
  have HBL:=Lib.hid hbl
  clear hown hbl HO0 HB0
  by_cases hlt:i < n
  ·have hlt2:(i:Int) < (n:Int):=by omega
   go_wp2
   generalize wr=wo at *
   go_loopw [10,11] (fun av kv wr=>∃ k:Nat,k<=n/\kv= .int .i64 (k:Int)/\av= .int .i64 (aheadN L i k:Nat)/\Below wo.heap.size wo wr) (fun _ kv _=>n - (intOf kv).toNat)
   case atStart=>exact ⟨0,Nat.zero_le _,rfl,rfl,Below.refl _ _⟩
   case round =>
    obtain ⟨k,hk,rfl,rfl,hbs⟩:=hrel
    have HBS:=Lib.hid hbs
    clear hbs
    have hale:=aheadN_le L i k
    have HAN:Hid (aheadN L i (k+1)=aheadN L i k+if k≠i/\L k i=true then 1 else 0):=rfl
    by_cases hkn:k < n
    ·have hkn2:(k:Int) < (n:Int):=by omega
     by_cases hki:k=i
     ·have hne:((k:Int) != (i:Int))=false:=by rw [hki];simp
      have HAE:Hid (aheadN L i (k+1)=aheadN L i k):=by unfold Hid;rw [HAN.out,if_neg (fun h=>h.1 hki)];rfl
      clear hki
      generalize aheadN L i k=av at *
      go_wp2
      go_roundw
      case rel=>exact ⟨k+1,by omega,by go_num,by rw [HAE.out],HBS.out⟩
      case measure=>simp [intOf];omega
     ·have hne:((k:Int) != (i:Int))=true:=by simp;omega
      have HC:=Lib.hid (HLS.out k i hkn hlt wr (bel_both HBL.out HBS.out))
      have HAE:Hid (aheadN L i (k+1)=aheadN L i k+if L k i=true then 1 else 0):=by
       unfold Hid
       rw [HAN.out]
       by_cases hc:L k i=true
       ·rw [if_pos ⟨hki,hc⟩,if_pos hc]
       ·rw [if_neg (fun h=>hc h.2),if_neg hc]
      clear hki
      generalize aheadN L i k=av at *
      generalize L k i=r at HC HAE
      go_wp2_with fail
      refine HC.out.mono ?_
      rintro e w5 ⟨rfl,hb5⟩
      have HB5:=Lib.hid (bel_both HBS.out hb5)
      clear hb5 HC
      cases r with
      | true =>
       have HAF:Hid (aheadN L i (k+1)=av+1):=HAE.out
       go_wp2
       go_roundw
       case rel=>exact ⟨k+1,by omega,by go_num,by rw [HAF.out];go_num,HB5.out⟩
       case measure=>simp [intOf];omega
      | false =>
       have HAF:Hid (aheadN L i (k+1)=av):=HAE.out
       go_wp2
       go_roundw
       case rel=>exact ⟨k+1,by omega,by go_num,by rw [HAF.out],HB5.out⟩
       case measure=>simp [intOf];omega
    ·have hge:¬ (k:Int) < (n:Int):=by omega
     obtain rfl:k=n:=by omega
     have hal:=aheadN_lt L i k hlt
     have HOS:=Lib.hid (HOWN.out.below HBS.out)
     obtain ⟨A9,n9,c9,he9,hn9,hcell⟩:=map_open HOS.out.reads
     injection he9 with e1 e2 e3
     subst e1
     obtain ⟨b9,o9,hA9,hce⟩:=hcell (aheadN L i k) (by rw [List.length_range];exact hal)
     injection hA9 with hA9
     injection hA9 with e4 e5 _
     subst e4;subst e5
     rw [Nat.zero_add] at hce
     have hfz:=own1_frz HOS.out (aheadN L i k)
     have HPU:=Lib.hid (own1_put HOS.out hal (.int .i64 (i:Int)))
     have HGE:Hid (∀ q p,q=aheadN L i k->(if p=q then Value.int .i64 (i:Int) else .int .i64 (gradeN L k i p:Nat))= .int .i64 (gradeN L k (i+1) p:Nat)):=fun q p hq=>by
      subst hq
      rw [gradeN]
      by_cases hp:p=aheadN L i k
      ·rw [if_pos hp,if_pos hp]
      ·rw [if_neg hp,if_neg hp]
     have hal2:((aheadN L i k:Nat):Int) < (k:Int):=by omega
     have HQ:Hid (aheadN L i k=aheadN L i k):=rfl
     clear hcell hn9 e2 e3 hale
     generalize hav:aheadN L i k=av at *
     have HAV:=Lib.hid hav
     clear hav
     go_wp2
     go_roundw
     case rel =>
      refine ⟨i+1,by omega,by go_num,?_,(bel_both HBL.out HBS.out).setCell (Nat.le_refl _) _⟩
      have h:=HPU.out
      rw [show (fun j=>if j=av then Value.int .i64 (i:Int) else .int .i64 (gradeN L k i j:Nat))=fun p => .int .i64 (gradeN L k (i+1) p:Nat) from funext fun p=>HGE.out av p rfl] at h
      exact h
     case measure=>simp [intOf];omega
  ·have hge:¬ (i:Int) < (n:Int):=by omega
   obtain rfl:i=n:=by omega
   go_wp2
   go_ret
   exact ⟨_,_,rfl,HOWN.out,HBL.out⟩
end Go.Proofs.YtbakjaliponbbaaGreatDoor
