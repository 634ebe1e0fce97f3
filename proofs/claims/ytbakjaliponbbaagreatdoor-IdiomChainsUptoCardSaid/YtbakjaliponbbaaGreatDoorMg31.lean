/- The walk of rebusref21.Reverse. Printed by gen_rre.py. The walks of rebusref34.prim1 and told. Printed by gen_rdc.py. The walks of rebusref34.prim1 at tally .. Conditions: as each theorem says. -/
import Derived.Test.YtbakjaliponbbaaGreatDoorMg30
set_option maxRecDepth 100000
set_option maxHeartbeats 800000
namespace Go.Proofs.YtbakjaliponbbaaGreatDoor
open Go Go.RowKit Go.Proofs Fl
def revA (a:PA):PA:=if a.len=0\/a.shape.length=0 then a else pkA a.shape a (revK a)
theorem rreverse_same (h x:Sl) (f:Int) (W0:World) (P:RP) (H:Nat->Prop) (h0:x.2.1=0\/h.2.1=0) (HG:Hid (∀ W,Below W0.heap.size W0 W->PV (fun b=>H b\/b=W0.heap.size+1) W P h x f)) :
  Calls Tryz.prog 156 #[plV h x f,.bool false] W0 (PzR H W0 P):=by
 have HS0:=Lib.hid (P1.new W0 h x f)
 obtain ⟨w1,hw1⟩:∃ w1,w1=(W0.alloc (plO h x f)).alloc (plO nilS nilS 0):=⟨_,rfl⟩
 have HW1:=Lib.hid hw1
 rw [<- hw1] at HS0
 have HPV:=Lib.hid (pl_fin (HG.out _ HS0.out.bel))
 have HBE:=Lib.hid (below_set3 HS0.out.bel (Nat.le_succ _) (sv h) (sv x) (.int .i64 f))
 have HRE:=Lib.hid (set3_block HS0.out.res (sv h) (sv x) (.int .i64 f))
 go_enter Tryz.func156,Tryz.ntmps156
 go_upto_region 1 with fail
 rw [<- HW1.out]
 clear hw1
 obtain ⟨p0,p1,p2⟩:=at3_c HS0.out.one
 obtain ⟨⟨z0,z1,z2⟩,zz⟩:=block3 HS0.out.res
 by_cases hx:x.2.1=0
 ·have hx1:(((x.2.1:Nat):Int)==0)=true:=by rw [hx];rfl
  clear h0 hx
  go_wp2
  refine bodyPost_ret (v:=plV h x f) ?_ rfl (pzR_of HPV.out HBE.out)
  exact ret_plain (fn:=Tryz.f156) (p:=4) rfl _ _ (W0.heap.size+1) (by rfl) HRE.out
 ·have hx1:(((x.2.1:Nat):Int)==0)=false:=by simp;omega
  have hh1:(((h.2.1:Nat):Int)==0)=true:=by simp;omega
  clear h0 hx
  go_wp2
  refine bodyPost_ret (v:=plV h x f) ?_ rfl (pzR_of HPV.out HBE.out)
  exact ret_plain (fn:=Tryz.f156) (p:=4) rfl _ _ (W0.heap.size+1) (by rfl) HRE.out
theorem rreverse_some (h x:Sl) (f:Int) (W0:World) (P:RP) (H:Nat->Prop) (hx:x.2.1≠0) (hh:h.2.1≠0) (hh8:h.2.1<=8)
  (HPT:Hid (∀ W,P1 W0 W h x f->Calls Tryz.prog 210 #[plV h x f,.int .i64 ((h.2.1:Int) - 1),vnil,.bool true] W (PzR (fun b=>H b\/b=W0.heap.size+1) W P))) :
  Calls Tryz.prog 156 #[plV h x f,.bool false] W0 (PzR H W0 P):=by
 have HS0:=Lib.hid (P1.new W0 h x f)
 obtain ⟨w1,hw1⟩:∃ w1,w1=(W0.alloc (plO h x f)).alloc (plO nilS nilS 0):=⟨_,rfl⟩
 have HW1:=Lib.hid hw1
 rw [<- hw1] at HS0
 have HAX:=Lib.hid (fun W=>raxis_any h x f (by omega) hh8 W)
 unfold PzR at HPT
 have hx1:(((x.2.1:Nat):Int)==0)=false:=by simp;omega
 have hh1:(((h.2.1:Nat):Int)==0)=false:=by simp;omega
 clear hx hh hh8
 go_enter Tryz.func156,Tryz.ntmps156
 go_upto_region 1 with fail
 rw [<- HW1.out]
 clear hw1
 obtain ⟨p0,p1,p2⟩:=at3_c HS0.out.one
 go_upto_region 3 with fail
 have hls0:=HS0.out.dr
 refine wp_region_noPanic ?_
 refine wp_region_held_drew (S:=fun W=>W.cell? ⟨W0.heap.size,0,none⟩=some (.slice h.1 h.2.1 h.2.2)/\W.cell? ⟨W0.heap.size,1,none⟩=some (.slice x.1 x.2.1 x.2.2)/\W.cell? ⟨W0.heap.size,2,none⟩=some (.int .i64 f)) (by kernel_rfl) (by exact at3_c hls0.one) (fun hHeld=>?_)
 refine wpAnyH_take (i:=0) (v:=?av1) rfl (by kernel_rfl) (by kernel_rfl) (by kernel_rfl) (fun _ _ _ h=>h) (Or.inl ⟨by rfl,?ay1⟩) (by assumption) ?as1
 case ay1=>(intro w hSw;(try dsimp only at hSw);go_simp;try with_reducible rfl)
 change wpAnyH _ _ _ _ _ _ _ (Act.put _ (some 16) _) _
 simp only [Act.put,List.setIfInBounds_toArray,List.set_cons_zero,List.set_cons_succ]
 refine wpAnyH_take (i:=1) (v:=?av2) rfl (by kernel_rfl) (by kernel_rfl) (by kernel_rfl) (fun _ _ _ h=>h) (Or.inl ⟨by rfl,?ay2⟩) (by assumption) ?as2
 case ay2=>(intro w hSw;(try dsimp only at hSw);go_simp;try with_reducible rfl)
 change wpAnyH _ _ _ _ _ _ _ (Act.put _ (some 17) _) _
 simp only [Act.put,List.setIfInBounds_toArray,List.set_cons_zero,List.set_cons_succ]
 refine wpAnyH_take (i:=2) (v:=?av3) rfl (by kernel_rfl) (by kernel_rfl) (by kernel_rfl) (fun _ _ _ h=>h) (Or.inl ⟨by rfl,?ay3⟩) (by assumption) ?as3
 case ay3=>(intro w hSw;(try dsimp only at hSw);go_simp;try with_reducible rfl)
 change wpAnyH _ _ _ _ _ _ _ (Act.put _ (some 18) _) _
 simp only [Act.put,List.setIfInBounds_toArray,List.set_cons_zero,List.set_cons_succ]
 refine wpAnyH_ready (rs:=[3]) (by kernel_rfl) (by simp) ?_
 refine AllReadyH.cons rfl (fun K hK=>?_) AllReadyH.nil
 go_simp
 (go_at_call 211;(with_reducible refine (HAX.out _).mono ?_);rintro e w5 ⟨rfl,hb5⟩;have hp5:P1 W0 w5 h x f:=P1.step (by repeat (first | (with_reducible assumption) | (with_reducible refine P1.dr ?_))) hb5;clear hb5)
 refine hK.out _ _ (by first | (with_reducible assumption) | ((with_reducible (refine at3_c (P1.one (w:=W0) (h:=h) (x:=x) (f:=f) ?_)));(repeat (first | (with_reducible assumption) | (with_reducible refine P1.dr ?_)));done) | (exact at3_c (p1_set (by assumption) _ _ _))) (fun hHeld=>?_)
 clear hK K
 refine wpAnyH_ready (rs:=[4]) (by kernel_rfl) (by simp) ?_
 refine AllReadyH.cons rfl (fun K hK=>?_) AllReadyH.nil
 go_simp
 (go_at_call 210;(with_reducible refine (HPT.out _ hp5).mono ?_);rintro e w7 ⟨h7,x7,f7,rfl,hpv7,hb7⟩;have hp7:P1 W0 w7 h x f:=hp5.step hb7;clear hb7)
 refine hK.out _ _ (by first | (with_reducible assumption) | ((with_reducible (refine at3_c (P1.one (w:=W0) (h:=h) (x:=x) (f:=f) ?_)));(repeat (first | (with_reducible assumption) | (with_reducible refine P1.dr ?_)));done) | (exact at3_c (p1_set (by assumption) _ _ _))) (fun hHeld=>?_)
 clear hK K
 refine wpAnyH_ready (rs:=[5]) (by kernel_rfl) (by simp) ?_
 refine AllReadyH.cons rfl (fun K hK=>?_) AllReadyH.nil
 (skip;(obtain ⟨⟨z0,z1,z2⟩,zz⟩:=block3 hp7.res);go_simp)
 refine hK.out _ _ (by first | (with_reducible assumption) | ((with_reducible (refine at3_c (P1.one (w:=W0) (h:=h) (x:=x) (f:=f) ?_)));(repeat (first | (with_reducible assumption) | (with_reducible refine P1.dr ?_)));done) | (exact at3_c (p1_set (by assumption) _ _ _))) (fun hHeld=>?_)
 clear hK K
 refine wpAnyH_done (by kernel_rfl) ?_ _
 refine NoPanic.normal ?_
 have HPV:=Lib.hid (pl_fin hpv7)
 have HBE:=Lib.hid (below_set3 hp7.bel (Nat.le_succ _) (sv h7) (sv x7) (.int .i64 f7))
 have HRE:=Lib.hid (set3_block hp7.res (sv h7) (sv x7) (.int .i64 f7))
 go_wp2
 refine bodyPost_ret (v:=plV h7 x7 f7) ?_ rfl (pzR_of HPV.out HBE.out)
 exact ret_plain (fn:=Tryz.f156) (p:=4) rfl _ _ (W0.heap.size+1) (by rfl) HRE.out
theorem rreverse_any {H:Nat->Prop}{w:World}{a:PA}{h x:Sl}{f:Int} (g:PV H w (rawP a) h x f) (hH:∀ b,H b->b < w.heap.size) (d:Nat) (hg:GoodA d a) (hl:a.len<=1000000) (W0:World) (hb:Below w.heap.size w W0) :
  Calls Tryz.prog 156 #[plV h x f,.bool false] W0 (PzR H W0 (rawP (revA a))):=by
 have hrk:=rank_len g
 have hx0:x.2.1=a.len:=by
  have h1:=g
  rw [rp_eta (rawP a)] at h1
  have h2:=h1.open_.2.2.1
  rw [rawP_len] at h2
  omega
 have HH:Hid (∀ b,H b->b < W0.heap.size):=fun b e=>by have:=hH b e;have:=hb.size;omega
 have hG:∀ W,Below W0.heap.size W0 W->PV (fun b=>H b\/b=W0.heap.size+1) W (rawP a) h x f:=fun W hb'=>PV.step (PV.sub (fun b hb9 e=>by
  rcases e with e | e
  ·exact e
  ·have:=hb.size;omega) g) (bel_both hb hb')
 unfold revA
 by_cases h0:a.len=0\/a.shape.length=0
 ·rw [if_pos h0]
  exact rreverse_same h x f W0 (rawP a) H (by omega) (Lib.hid hG)
 ·rw [if_neg h0]
  refine rreverse_some h x f W0 _ H (by omega) (by omega) (by have:=hg.sh.2.1;omega) (fun W s=>?_)
  exact reach21_any (hG W s.bel) (fun b e=>hole1 HH.out s b e) d hg hl (by omega) W (Below.refl _ _)
theorem pv_fil {H:Nat->Prop}{w:World}{a:PA}{h x:Sl}{f:Int} (g:PV H w (rawP a) h x f):(a.fill:Int)=f:=by
 rw [rp_eta (rawP a)] at g
 have h1:=g.open_.2.1
 rw [rawP_fil] at h1
 exact h1.symm
theorem prim_fir (h x:Sl) (f:Int) (o most:Nat) (W0:World) (R:PA) (H:Nat->Prop)
  (HPT:Hid (∀ W,P1 W0 W h x f->Calls Tryz.prog 154 #[plV h x f] W (PzR (fun b=>H b\/b=W0.heap.size+1) W (rawP R)))) :
  Calls Tryz.prog 101 #[.int .i32 8835,plV h x f,.int .i64 (o:Int),.int .i64 (most:Int)] W0 (PoR H W0 (some R)):=by
 have HS0:=Lib.hid (P1.new W0 h x f)
 obtain ⟨w1,hw1⟩:∃ w1,w1=(W0.alloc (plO h x f)).alloc (plO nilS nilS 0):=⟨_,rfl⟩
 have HW1:=Lib.hid hw1
 rw [<- hw1] at HS0
 unfold PzR at HPT
 go_enter Tryz.func101,Tryz.ntmps101
 go_upto_region 1 with fail
 rw [<- HW1.out]
 clear hw1
 obtain ⟨p0,p1,p2⟩:=at3_c HS0.out.one
 go_wp2_with fail
 refine (HPT.out _ HS0.out).mono ?_
 rintro e w7 ⟨h7,x7,f7,rfl,hpv7,hb7⟩
 have HP7:=Lib.hid (HS0.out.step hb7)
 clear hb7 p0 p1 p2
 obtain rfl:(R.fill:Int)=f7:=pv_fil hpv7
 have HPV:=Lib.hid (pl_fin hpv7)
 clear hpv7
 have HBE:=Lib.hid (below_set3 HP7.out.bel (Nat.le_succ _) (sv h7) (sv x7) (.int .i64 (R.fill:Int)))
 have HRE:=Lib.hid (set3_block HP7.out.res (sv h7) (sv x7) (.int .i64 (R.fill:Int)))
 obtain ⟨⟨z0,z1,z2⟩,zz⟩:=block3 HP7.out.res
 go_wp2
 refine bodyPost_ret (v := .tuple #[plV h7 x7 (R.fill:Int),.int .i64 0]) ?_ rfl (poR_yes HPV.out HBE.out)
 exact ret_pl2 (fn:=Tryz.f101) (p:=8) (u:=9) rfl _ _ (W0.heap.size+1) (by rfl) HRE.out
theorem prim_shp (h x:Sl) (f:Int) (o most:Nat) (W0:World) (R:PA) (H:Nat->Prop)
  (HPT:Hid (∀ W,P1 W0 W h x f->Calls Tryz.prog 155 #[plV h x f] W (PzR (fun b=>H b\/b=W0.heap.size+1) W (rawP R)))) :
  Calls Tryz.prog 101 #[.int .i32 9076,plV h x f,.int .i64 (o:Int),.int .i64 (most:Int)] W0 (PoR H W0 (some R)):=by
 have HS0:=Lib.hid (P1.new W0 h x f)
 obtain ⟨w1,hw1⟩:∃ w1,w1=(W0.alloc (plO h x f)).alloc (plO nilS nilS 0):=⟨_,rfl⟩
 have HW1:=Lib.hid hw1
 rw [<- hw1] at HS0
 unfold PzR at HPT
 go_enter Tryz.func101,Tryz.ntmps101
 go_upto_region 1 with fail
 rw [<- HW1.out]
 clear hw1
 obtain ⟨p0,p1,p2⟩:=at3_c HS0.out.one
 go_wp2_with fail
 refine (HPT.out _ HS0.out).mono ?_
 rintro e w7 ⟨h7,x7,f7,rfl,hpv7,hb7⟩
 have HP7:=Lib.hid (HS0.out.step hb7)
 clear hb7 p0 p1 p2
 obtain rfl:(R.fill:Int)=f7:=pv_fil hpv7
 have HPV:=Lib.hid (pl_fin hpv7)
 clear hpv7
 have HBE:=Lib.hid (below_set3 HP7.out.bel (Nat.le_succ _) (sv h7) (sv x7) (.int .i64 (R.fill:Int)))
 have HRE:=Lib.hid (set3_block HP7.out.res (sv h7) (sv x7) (.int .i64 (R.fill:Int)))
 obtain ⟨⟨z0,z1,z2⟩,zz⟩:=block3 HP7.out.res
 go_wp2
 refine bodyPost_ret (v := .tuple #[plV h7 x7 (R.fill:Int),.int .i64 0]) ?_ rfl (poR_yes HPV.out HBE.out)
 exact ret_pl2 (fn:=Tryz.f101) (p:=8) (u:=9) rfl _ _ (W0.heap.size+1) (by rfl) HRE.out
theorem prim_rev (h x:Sl) (f:Int) (o most:Nat) (W0:World) (R:PA) (H:Nat->Prop)
  (HPT:Hid (∀ W,P1 W0 W h x f->Calls Tryz.prog 156 #[plV h x f,.bool false] W (PzR (fun b=>H b\/b=W0.heap.size+1) W (rawP R)))) :
  Calls Tryz.prog 101 #[.int .i32 9021,plV h x f,.int .i64 (o:Int),.int .i64 (most:Int)] W0 (PoR H W0 (some R)):=by
 have HS0:=Lib.hid (P1.new W0 h x f)
 obtain ⟨w1,hw1⟩:∃ w1,w1=(W0.alloc (plO h x f)).alloc (plO nilS nilS 0):=⟨_,rfl⟩
 have HW1:=Lib.hid hw1
 rw [<- hw1] at HS0
 unfold PzR at HPT
 go_enter Tryz.func101,Tryz.ntmps101
 go_upto_region 1 with fail
 rw [<- HW1.out]
 clear hw1
 obtain ⟨p0,p1,p2⟩:=at3_c HS0.out.one
 go_wp2_with fail
 refine (HPT.out _ HS0.out).mono ?_
 rintro e w7 ⟨h7,x7,f7,rfl,hpv7,hb7⟩
 have HP7:=Lib.hid (HS0.out.step hb7)
 clear hb7 p0 p1 p2
 obtain rfl:(R.fill:Int)=f7:=pv_fil hpv7
 have HPV:=Lib.hid (pl_fin hpv7)
 clear hpv7
 have HBE:=Lib.hid (below_set3 HP7.out.bel (Nat.le_succ _) (sv h7) (sv x7) (.int .i64 (R.fill:Int)))
 have HRE:=Lib.hid (set3_block HP7.out.res (sv h7) (sv x7) (.int .i64 (R.fill:Int)))
 obtain ⟨⟨z0,z1,z2⟩,zz⟩:=block3 HP7.out.res
 go_wp2
 refine bodyPost_ret (v := .tuple #[plV h7 x7 (R.fill:Int),.int .i64 0]) ?_ rfl (poR_yes HPV.out HBE.out)
 exact ret_pl2 (fn:=Tryz.f101) (p:=8) (u:=9) rfl _ _ (W0.heap.size+1) (by rfl) HRE.out
theorem prim_iot (h x:Sl) (f:Int) (o most:Nat) (W0:World) (r:Option PA) (H:Nat->Prop)
  (HPT:Hid (∀ W,P1 W0 W h x f->Calls Tryz.prog 157 #[plV h x f,.int .i64 (o:Int),.int .i64 (most:Int)] W (PoR (fun b=>H b\/b=W0.heap.size+1) W r))) :
  Calls Tryz.prog 101 #[.int .i32 9075,plV h x f,.int .i64 (o:Int),.int .i64 (most:Int)] W0 (PoR H W0 r):=by
 have HS0:=Lib.hid (P1.new W0 h x f)
 obtain ⟨w1,hw1⟩:∃ w1,w1=(W0.alloc (plO h x f)).alloc (plO nilS nilS 0):=⟨_,rfl⟩
 have HW1:=Lib.hid hw1
 rw [<- hw1] at HS0
 go_enter Tryz.func101,Tryz.ntmps101
 go_upto_region 1 with fail
 rw [<- HW1.out]
 clear hw1
 obtain ⟨p0,p1,p2⟩:=at3_c HS0.out.one
 go_wp2_with fail
 refine (HPT.out _ HS0.out).mono ?_
 rintro e w7 hr7
 cases r with
 | some R =>
  obtain ⟨h7,x7,rfl,hpv7,hb7⟩:=hr7
  have HP7:=Lib.hid (HS0.out.step hb7)
  clear hb7 p0 p1 p2
  have HPV:=Lib.hid (pl_fin hpv7)
  clear hpv7
  have HBE:=Lib.hid (below_set3 HP7.out.bel (Nat.le_succ _) (sv h7) (sv x7) (.int .i64 (R.fill:Int)))
  have HRE:=Lib.hid (set3_block HP7.out.res (sv h7) (sv x7) (.int .i64 (R.fill:Int)))
  obtain ⟨⟨z0,z1,z2⟩,zz⟩:=block3 HP7.out.res
  go_wp2
  refine bodyPost_ret (v := .tuple #[plV h7 x7 (R.fill:Int),.int .i64 0]) ?_ rfl (poR_yes HPV.out HBE.out)
  exact ret_pl2 (fn:=Tryz.f101) (p:=8) (u:=9) rfl _ _ (W0.heap.size+1) (by rfl) HRE.out
 | none =>
  obtain ⟨z,hz,rfl,hb7⟩:=hr7
  have HP7:=Lib.hid (HS0.out.step hb7)
  have HZ:=Lib.hid hz
  clear hb7 hz p0 p1 p2
  have HBE:=Lib.hid (below_set3 HP7.out.bel (Nat.le_succ _) (.slice none 0 0) (.slice none 0 0) (.int .i64 0))
  have HRE:=Lib.hid (set3_block HP7.out.res (.slice none 0 0) (.slice none 0 0) (.int .i64 0))
  obtain ⟨⟨z0,z1,z2⟩,zz⟩:=block3 HP7.out.res
  go_wp2
  refine bodyPost_ret (v := .tuple #[plV nilS nilS 0,.int .i64 z]) ?_ rfl (poR_no HZ.out HBE.out)
  exact ret_pl2 (fn:=Tryz.f101) (p:=8) (u:=9) rfl _ _ (W0.heap.size+1) (by rfl) HRE.out
theorem prim_whe (h x:Sl) (f:Int) (o most:Nat) (W0:World) (r:Option PA) (H:Nat->Prop)
  (HPT:Hid (∀ W,P1 W0 W h x f->Calls Tryz.prog 158 #[plV h x f,.int .i64 (o:Int)] W (PoR (fun b=>H b\/b=W0.heap.size+1) W r))) :
  Calls Tryz.prog 101 #[.int .i32 9080,plV h x f,.int .i64 (o:Int),.int .i64 (most:Int)] W0 (PoR H W0 r):=by
 have HS0:=Lib.hid (P1.new W0 h x f)
 obtain ⟨w1,hw1⟩:∃ w1,w1=(W0.alloc (plO h x f)).alloc (plO nilS nilS 0):=⟨_,rfl⟩
 have HW1:=Lib.hid hw1
 rw [<- hw1] at HS0
 go_enter Tryz.func101,Tryz.ntmps101
 go_upto_region 1 with fail
 rw [<- HW1.out]
 clear hw1
 obtain ⟨p0,p1,p2⟩:=at3_c HS0.out.one
 go_wp2_with fail
 refine (HPT.out _ HS0.out).mono ?_
 rintro e w7 hr7
 cases r with
 | some R =>
  obtain ⟨h7,x7,rfl,hpv7,hb7⟩:=hr7
  have HP7:=Lib.hid (HS0.out.step hb7)
  clear hb7 p0 p1 p2
  have HPV:=Lib.hid (pl_fin hpv7)
  clear hpv7
  have HBE:=Lib.hid (below_set3 HP7.out.bel (Nat.le_succ _) (sv h7) (sv x7) (.int .i64 (R.fill:Int)))
  have HRE:=Lib.hid (set3_block HP7.out.res (sv h7) (sv x7) (.int .i64 (R.fill:Int)))
  obtain ⟨⟨z0,z1,z2⟩,zz⟩:=block3 HP7.out.res
  go_wp2
  refine bodyPost_ret (v := .tuple #[plV h7 x7 (R.fill:Int),.int .i64 0]) ?_ rfl (poR_yes HPV.out HBE.out)
  exact ret_pl2 (fn:=Tryz.f101) (p:=8) (u:=9) rfl _ _ (W0.heap.size+1) (by rfl) HRE.out
 | none =>
  obtain ⟨z,hz,rfl,hb7⟩:=hr7
  have HP7:=Lib.hid (HS0.out.step hb7)
  have HZ:=Lib.hid hz
  clear hb7 hz p0 p1 p2
  have HBE:=Lib.hid (below_set3 HP7.out.bel (Nat.le_succ _) (.slice none 0 0) (.slice none 0 0) (.int .i64 0))
  have HRE:=Lib.hid (set3_block HP7.out.res (.slice none 0 0) (.slice none 0 0) (.int .i64 0))
  obtain ⟨⟨z0,z1,z2⟩,zz⟩:=block3 HP7.out.res
  go_wp2
  refine bodyPost_ret (v := .tuple #[plV nilS nilS 0,.int .i64 z]) ?_ rfl (poR_no HZ.out HBE.out)
  exact ret_pl2 (fn:=Tryz.f101) (p:=8) (u:=9) rfl _ _ (W0.heap.size+1) (by rfl) HRE.out
theorem prim_uni (h x:Sl) (f:Int) (o most:Nat) (W0:World) (r:Option PA) (H:Nat->Prop)
  (HPT:Hid (∀ W,P1 W0 W h x f->Calls Tryz.prog 159 #[plV h x f] W (PoR (fun b=>H b\/b=W0.heap.size+1) W r))) :
  Calls Tryz.prog 101 #[.int .i32 8746,plV h x f,.int .i64 (o:Int),.int .i64 (most:Int)] W0 (PoR H W0 r):=by
 have HS0:=Lib.hid (P1.new W0 h x f)
 obtain ⟨w1,hw1⟩:∃ w1,w1=(W0.alloc (plO h x f)).alloc (plO nilS nilS 0):=⟨_,rfl⟩
 have HW1:=Lib.hid hw1
 rw [<- hw1] at HS0
 go_enter Tryz.func101,Tryz.ntmps101
 go_upto_region 1 with fail
 rw [<- HW1.out]
 clear hw1
 obtain ⟨p0,p1,p2⟩:=at3_c HS0.out.one
 go_wp2_with fail
 refine (HPT.out _ HS0.out).mono ?_
 rintro e w7 hr7
 cases r with
 | some R =>
  obtain ⟨h7,x7,rfl,hpv7,hb7⟩:=hr7
  have HP7:=Lib.hid (HS0.out.step hb7)
  clear hb7 p0 p1 p2
  have HPV:=Lib.hid (pl_fin hpv7)
  clear hpv7
  have HBE:=Lib.hid (below_set3 HP7.out.bel (Nat.le_succ _) (sv h7) (sv x7) (.int .i64 (R.fill:Int)))
  have HRE:=Lib.hid (set3_block HP7.out.res (sv h7) (sv x7) (.int .i64 (R.fill:Int)))
  obtain ⟨⟨z0,z1,z2⟩,zz⟩:=block3 HP7.out.res
  go_wp2
  refine bodyPost_ret (v := .tuple #[plV h7 x7 (R.fill:Int),.int .i64 0]) ?_ rfl (poR_yes HPV.out HBE.out)
  exact ret_pl2 (fn:=Tryz.f101) (p:=8) (u:=9) rfl _ _ (W0.heap.size+1) (by rfl) HRE.out
 | none =>
  obtain ⟨z,hz,rfl,hb7⟩:=hr7
  have HP7:=Lib.hid (HS0.out.step hb7)
  have HZ:=Lib.hid hz
  clear hb7 hz p0 p1 p2
  have HBE:=Lib.hid (below_set3 HP7.out.bel (Nat.le_succ _) (.slice none 0 0) (.slice none 0 0) (.int .i64 0))
  have HRE:=Lib.hid (set3_block HP7.out.res (.slice none 0 0) (.slice none 0 0) (.int .i64 0))
  obtain ⟨⟨z0,z1,z2⟩,zz⟩:=block3 HP7.out.res
  go_wp2
  refine bodyPost_ret (v := .tuple #[plV nilS nilS 0,.int .i64 z]) ?_ rfl (poR_no HZ.out HBE.out)
  exact ret_pl2 (fn:=Tryz.f101) (p:=8) (u:=9) rfl _ _ (W0.heap.size+1) (by rfl) HRE.out
theorem prim_gru (h x:Sl) (f:Int) (o most:Nat) (W0:World) (r:Option PA) (H:Nat->Prop)
  (HPT:Hid (∀ W,P1 W0 W h x f->Calls Tryz.prog 160 #[plV h x f,.bool false,.int .i64 (o:Int)] W (PoR (fun b=>H b\/b=W0.heap.size+1) W r))) :
  Calls Tryz.prog 101 #[.int .i32 9035,plV h x f,.int .i64 (o:Int),.int .i64 (most:Int)] W0 (PoR H W0 r):=by
 have HS0:=Lib.hid (P1.new W0 h x f)
 obtain ⟨w1,hw1⟩:∃ w1,w1=(W0.alloc (plO h x f)).alloc (plO nilS nilS 0):=⟨_,rfl⟩
 have HW1:=Lib.hid hw1
 rw [<- hw1] at HS0
 go_enter Tryz.func101,Tryz.ntmps101
 go_upto_region 1 with fail
 rw [<- HW1.out]
 clear hw1
 obtain ⟨p0,p1,p2⟩:=at3_c HS0.out.one
 go_wp2_with fail
 refine (HPT.out _ HS0.out).mono ?_
 rintro e w7 hr7
 cases r with
 | some R =>
  obtain ⟨h7,x7,rfl,hpv7,hb7⟩:=hr7
  have HP7:=Lib.hid (HS0.out.step hb7)
  clear hb7 p0 p1 p2
  have HPV:=Lib.hid (pl_fin hpv7)
  clear hpv7
  have HBE:=Lib.hid (below_set3 HP7.out.bel (Nat.le_succ _) (sv h7) (sv x7) (.int .i64 (R.fill:Int)))
  have HRE:=Lib.hid (set3_block HP7.out.res (sv h7) (sv x7) (.int .i64 (R.fill:Int)))
  obtain ⟨⟨z0,z1,z2⟩,zz⟩:=block3 HP7.out.res
  go_wp2
  refine bodyPost_ret (v := .tuple #[plV h7 x7 (R.fill:Int),.int .i64 0]) ?_ rfl (poR_yes HPV.out HBE.out)
  exact ret_pl2 (fn:=Tryz.f101) (p:=8) (u:=9) rfl _ _ (W0.heap.size+1) (by rfl) HRE.out
 | none =>
  obtain ⟨z,hz,rfl,hb7⟩:=hr7
  have HP7:=Lib.hid (HS0.out.step hb7)
  have HZ:=Lib.hid hz
  clear hb7 hz p0 p1 p2
  have HBE:=Lib.hid (below_set3 HP7.out.bel (Nat.le_succ _) (.slice none 0 0) (.slice none 0 0) (.int .i64 0))
  have HRE:=Lib.hid (set3_block HP7.out.res (.slice none 0 0) (.slice none 0 0) (.int .i64 0))
  obtain ⟨⟨z0,z1,z2⟩,zz⟩:=block3 HP7.out.res
  go_wp2
  refine bodyPost_ret (v := .tuple #[plV nilS nilS 0,.int .i64 z]) ?_ rfl (poR_no HZ.out HBE.out)
  exact ret_pl2 (fn:=Tryz.f101) (p:=8) (u:=9) rfl _ _ (W0.heap.size+1) (by rfl) HRE.out
theorem prim_grd (h x:Sl) (f:Int) (o most:Nat) (W0:World) (r:Option PA) (H:Nat->Prop)
  (HPT:Hid (∀ W,P1 W0 W h x f->Calls Tryz.prog 160 #[plV h x f,.bool true,.int .i64 (o:Int)] W (PoR (fun b=>H b\/b=W0.heap.size+1) W r))) :
  Calls Tryz.prog 101 #[.int .i32 9042,plV h x f,.int .i64 (o:Int),.int .i64 (most:Int)] W0 (PoR H W0 r):=by
 have HS0:=Lib.hid (P1.new W0 h x f)
 obtain ⟨w1,hw1⟩:∃ w1,w1=(W0.alloc (plO h x f)).alloc (plO nilS nilS 0):=⟨_,rfl⟩
 have HW1:=Lib.hid hw1
 rw [<- hw1] at HS0
 go_enter Tryz.func101,Tryz.ntmps101
 go_upto_region 1 with fail
 rw [<- HW1.out]
 clear hw1
 obtain ⟨p0,p1,p2⟩:=at3_c HS0.out.one
 go_wp2_with fail
 refine (HPT.out _ HS0.out).mono ?_
 rintro e w7 hr7
 cases r with
 | some R =>
  obtain ⟨h7,x7,rfl,hpv7,hb7⟩:=hr7
  have HP7:=Lib.hid (HS0.out.step hb7)
  clear hb7 p0 p1 p2
  have HPV:=Lib.hid (pl_fin hpv7)
  clear hpv7
  have HBE:=Lib.hid (below_set3 HP7.out.bel (Nat.le_succ _) (sv h7) (sv x7) (.int .i64 (R.fill:Int)))
  have HRE:=Lib.hid (set3_block HP7.out.res (sv h7) (sv x7) (.int .i64 (R.fill:Int)))
  obtain ⟨⟨z0,z1,z2⟩,zz⟩:=block3 HP7.out.res
  go_wp2
  refine bodyPost_ret (v := .tuple #[plV h7 x7 (R.fill:Int),.int .i64 0]) ?_ rfl (poR_yes HPV.out HBE.out)
  exact ret_pl2 (fn:=Tryz.f101) (p:=8) (u:=9) rfl _ _ (W0.heap.size+1) (by rfl) HRE.out
 | none =>
  obtain ⟨z,hz,rfl,hb7⟩:=hr7
  have HP7:=Lib.hid (HS0.out.step hb7)
  have HZ:=Lib.hid hz
  clear hb7 hz p0 p1 p2
  have HBE:=Lib.hid (below_set3 HP7.out.bel (Nat.le_succ _) (.slice none 0 0) (.slice none 0 0) (.int .i64 0))
  have HRE:=Lib.hid (set3_block HP7.out.res (.slice none 0 0) (.slice none 0 0) (.int .i64 0))
  obtain ⟨⟨z0,z1,z2⟩,zz⟩:=block3 HP7.out.res
  go_wp2
  refine bodyPost_ret (v := .tuple #[plV nilS nilS 0,.int .i64 z]) ?_ rfl (poR_no HZ.out HBE.out)
  exact ret_pl2 (fn:=Tryz.f101) (p:=8) (u:=9) rfl _ _ (W0.heap.size+1) (by rfl) HRE.out
theorem told_bad (z:Int) (hz:z≠0) (most:Nat) (W0:World) (H:Nat->Prop) :
  Calls Tryz.prog 102 #[plV nilS nilS 0,.int .i64 z,.int .i64 (most:Int)] W0 (PoR H W0 none):=by
 have HS0:=Lib.hid (P1.new W0 nilS nilS 0)
 obtain ⟨w1,hw1⟩:∃ w1,w1=(W0.alloc (plO nilS nilS 0)).alloc (plO nilS nilS 0):=⟨_,rfl⟩
 have HW1:=Lib.hid hw1
 rw [<- hw1] at HS0
 have HZ:=Lib.hid hz
 have hz2:(z==0)=false:=by simpa using hz
 clear hz
 go_enter Tryz.func102,Tryz.ntmps102
 go_upto_region 1 with fail
 rw [<- HW1.out]
 clear hw1
 obtain ⟨p0,p1,p2⟩:=at3_c HS0.out.one
 have HBE:=Lib.hid (below_set3 HS0.out.bel (Nat.le_succ _) (.slice none 0 0) (.slice none 0 0) (.int .i64 0))
 have HRE:=Lib.hid (set3_block HS0.out.res (.slice none 0 0) (.slice none 0 0) (.int .i64 0))
 obtain ⟨⟨z0,z1,z2⟩,zz⟩:=block3 HS0.out.res
 go_wp2
 refine bodyPost_ret (v := .tuple #[plV nilS nilS 0,.int .i64 z]) ?_ rfl (poR_no HZ.out HBE.out)
 exact ret_pl2 (fn:=Tryz.f102) (p:=6) (u:=7) rfl _ _ (W0.heap.size+1) (by rfl) HRE.out
theorem told_good {H:Nat->Prop}{w:World}{a:PA}{h x:Sl}{f:Int} (g:PV H w (rawP a) h x f) (most:Nat) (W0:World) (hb:Below w.heap.size w W0) :
  Calls Tryz.prog 102 #[plV h x f,.int .i64 0,.int .i64 (most:Int)] W0 (PoR H W0 (if a.len<=most then some a else none)):=by
 obtain rfl:(a.fill:Int)=f:=pv_fil g
 generalize hf:(a.fill:Int)=f at *
 have hx0:x.2.1=a.len:=by
  have h1:=g
  rw [rp_eta (rawP a)] at h1
  have h2:=h1.open_.2.2.1
  rw [rawP_len] at h2
  omega
 have HG:Hid (∀ W,Below W0.heap.size W0 W->PV (fun b=>H b\/b=W0.heap.size+1) W (rawP a) h x f):=fun W hb'=>PV.step (PV.sub (fun b hb9 e=>by
  rcases e with e | e
  ·exact e
  ·have:=hb.size;omega) g) (bel_both hb hb')
 have HF:=Lib.hid hf
 rw [<- hx0]
 have HS0:=Lib.hid (P1.new W0 h x f)
 obtain ⟨w1,hw1⟩:∃ w1,w1=(W0.alloc (plO h x f)).alloc (plO nilS nilS 0):=⟨_,rfl⟩
 have HW1:=Lib.hid hw1
 rw [<- hw1] at HS0
 have HPV:=Lib.hid (pl_fin (HG.out _ HS0.out.bel))
 clear g hb hx0 hf
 by_cases hm:x.2.1<=most
 ·rw [if_pos hm]
  have hm2:¬ ((most:Nat):Int) < ((x.2.1:Nat):Int):=by omega
  have hm3:decide (((most:Nat):Int) < ((x.2.1:Nat):Int))=false:=decide_eq_false hm2
  clear hm
  go_enter Tryz.func102,Tryz.ntmps102
  go_upto_region 1 with fail
  rw [<- HW1.out]
  clear hw1
  obtain ⟨p0,p1,p2⟩:=at3_c HS0.out.one
  have HBE:=Lib.hid (below_set3 HS0.out.bel (Nat.le_succ _) (sv h) (sv x) (.int .i64 f))
  have HRE:=Lib.hid (set3_block HS0.out.res (sv h) (sv x) (.int .i64 f))
  obtain ⟨⟨z0,z1,z2⟩,zz⟩:=block3 HS0.out.res
  go_wp2
  refine bodyPost_ret (v := .tuple #[plV h x f,.int .i64 0]) ?_ rfl (by have h9:=HPV.out;rw [<- HF.out] at h9 ⊢;have h8:=HBE.out;rw [<- HF.out] at h8;exact poR_yes h9 h8)
  exact ret_pl2 (fn:=Tryz.f102) (p:=6) (u:=7) rfl _ _ (W0.heap.size+1) (by rfl) HRE.out
 ·rw [if_neg hm]
  have hm2:((most:Nat):Int) < ((x.2.1:Nat):Int):=by omega
  have hm3:decide (((most:Nat):Int) < ((x.2.1:Nat):Int))=true:=decide_eq_true hm2
  clear hm
  go_enter Tryz.func102,Tryz.ntmps102
  go_upto_region 1 with fail
  rw [<- HW1.out]
  clear hw1
  obtain ⟨p0,p1,p2⟩:=at3_c HS0.out.one
  have HBE:=Lib.hid (below_set3 HS0.out.bel (Nat.le_succ _) (.slice none 0 0) (.slice none 0 0) (.int .i64 0))
  have HRE:=Lib.hid (set3_block HS0.out.res (.slice none 0 0) (.slice none 0 0) (.int .i64 0))
  obtain ⟨⟨z0,z1,z2⟩,zz⟩:=block3 HS0.out.res
  go_wp2
  refine bodyPost_ret (v := .tuple #[plV nilS nilS 0,.int .i64 26]) ?_ rfl (poR_no (by decide) HBE.out)
  exact ret_pl2 (fn:=Tryz.f102) (p:=6) (u:=7) rfl _ _ (W0.heap.size+1) (by rfl) HRE.out
def ravA (a:PA):PA:=pkA [a.len] a (List.range a.len)
theorem its_range (a:PA):(List.range a.len).map (elA a)=(rawP a).its:=by
 refine List.ext_getElem (by simp [rawP_len]) fun i h1 h2=>?_
 rw [List.getElem_map,List.getElem_range]
 have h3:=rawP_at (a:=a) (i:=i) (by rw [rawP_len] at h2;exact h2)
 rw [List.getD_eq_getElem?_getD,List.getElem?_eq_getElem h2,Option.getD_some] at h3
 exact h3.symm
def toldE (most:Nat) (r:Option PA):Option PA:=r.bind fun t=>if t.len<=most then some t else none
theorem prim_tal0 (h x:Sl) (f:Int) (o most:Nat) (W0:World) (H:Nat->Prop) (hH:∀ b,H b->b < W0.heap.size) (h0:h.2.1=0) :
  Calls Tryz.prog 101 #[.int .i32 8802,plV h x f,.int .i64 (o:Int),.int .i64 (most:Int)] W0 (PoR H W0 (some (oneA 1))):=by
 have HNM:Hid (∀ W,P1 W0 W h x f->Calls Tryz.prog 46 #[.float .f64 (floatOfInt .f64 1)] W (PlR (fun b=>H b\/b=W0.heap.size+1) W (rawP (oneA 1)) 0)):=fun W s=>rnum_any (fi 1) _ W (fun b e=>hole1 hH s b e)
 unfold PlR at HNM
 clear hH
 obtain ⟨hA,hn,hc⟩:=h
 dsimp only at h0
 subst h0
 have HS0:=Lib.hid (P1.new W0 (hA,0,hc) x f)
 obtain ⟨w1,hw1⟩:∃ w1,w1=(W0.alloc (plO (hA,0,hc) x f)).alloc (plO nilS nilS 0):=⟨_,rfl⟩
 have HW1:=Lib.hid hw1
 rw [<- hw1] at HS0
 go_enter Tryz.func101,Tryz.ntmps101
 go_upto_region 1 with fail
 rw [<- HW1.out]
 clear hw1
 obtain ⟨p0,p1,p2⟩:=at3_c HS0.out.one
 dsimp only [sv] at p0
 go_wp2_with fail
 refine (HNM.out _ HS0.out).mono ?_
 rintro e w7 ⟨h7,x7,rfl,hpv7,hb7⟩
 have HP7:=Lib.hid (HS0.out.step hb7)
 clear hb7
 have HPV:=Lib.hid (pl_fin hpv7)
 clear hpv7
 have HBE:=Lib.hid (below_set3 HP7.out.bel (Nat.le_succ _) (sv h7) (sv x7) (.int .i64 0))
 have HRE:=Lib.hid (set3_block HP7.out.res (sv h7) (sv x7) (.int .i64 0))
 obtain ⟨⟨z0,z1,z2⟩,zz⟩:=block3 HP7.out.res
 go_wp2
 refine bodyPost_ret (v := .tuple #[plV h7 x7 0,.int .i64 0]) ?_ rfl (poR_yes (t:=oneA 1) HPV.out HBE.out)
 exact ret_pl2 (fn:=Tryz.f101) (p:=8) (u:=9) rfl _ _ (W0.heap.size+1) (by rfl) HRE.out
theorem prim_tal1 (h x:Sl) (f:Int) (o most:Nat) (W0:World) (H:Nat->Prop) (hH:∀ b,H b->b < W0.heap.size) (dd:Nat) (b o9:Nat) (hA:h.1=some ⟨b,o9,none⟩) (hn:0 < h.2.1) (hcell:W0.cell? ⟨b,o9,none⟩=some (.int .i64 (dd:Int))) :
  Calls Tryz.prog 101 #[.int .i32 8802,plV h x f,.int .i64 (o:Int),.int .i64 (most:Int)] W0 (PoR H W0 (some (oneA (dd:Int)))):=by
 have HNM:Hid (∀ W,P1 W0 W h x f->Calls Tryz.prog 46 #[.float .f64 (floatOfInt .f64 (dd:Int))] W (PlR (fun b=>H b\/b=W0.heap.size+1) W (rawP (oneA (dd:Int))) 0)):=fun W s=>rnum_any (fi (dd:Int)) _ W (fun b e=>hole1 hH s b e)
 unfold PlR at HNM
 clear hH
 obtain ⟨hA9,hn9,hc⟩:=h
 dsimp only at hA hn
 subst hA
 have hn1:((hn9:Nat):Int) > 0:=by omega
 have hn2:(0:Int) < (hn9:Int):=by omega
 have HC:=Lib.hid hcell
 clear hcell hn
 have HS0:=Lib.hid (P1.new W0 (some ⟨b,o9,none⟩,hn9,hc) x f)
 obtain ⟨w1,hw1⟩:∃ w1,w1=(W0.alloc (plO (some ⟨b,o9,none⟩,hn9,hc) x f)).alloc (plO nilS nilS 0):=⟨_,rfl⟩
 have HW1:=Lib.hid hw1
 rw [<- hw1] at HS0
 go_enter Tryz.func101,Tryz.ntmps101
 go_upto_region 1 with fail
 rw [<- HW1.out]
 clear hw1
 obtain ⟨p0,p1,p2⟩:=at3_c HS0.out.one
 have hcd:=cell_up HS0.out.bel HC.out
 dsimp only [sv] at p0
 go_wp2_with fail
 refine (HNM.out _ HS0.out).mono ?_
 rintro e w7 ⟨h7,x7,rfl,hpv7,hb7⟩
 have HP7:=Lib.hid (HS0.out.step hb7)
 clear hb7
 have HPV:=Lib.hid (pl_fin hpv7)
 clear hpv7
 have HBE:=Lib.hid (below_set3 HP7.out.bel (Nat.le_succ _) (sv h7) (sv x7) (.int .i64 0))
 have HRE:=Lib.hid (set3_block HP7.out.res (sv h7) (sv x7) (.int .i64 0))
 obtain ⟨⟨z0,z1,z2⟩,zz⟩:=block3 HP7.out.res
 go_wp2
 refine bodyPost_ret (v := .tuple #[plV h7 x7 0,.int .i64 0]) ?_ rfl (poR_yes (t:=oneA (dd:Int)) HPV.out HBE.out)
 exact ret_pl2 (fn:=Tryz.f101) (p:=8) (u:=9) rfl _ _ (W0.heap.size+1) (by rfl) HRE.out
theorem prim_rav {H:Nat->Prop}{w:World}{a:PA}{h x:Sl}{f:Int} (g:PV H w (rawP a) h x f) (hH:∀ b,H b->b < w.heap.size) (o most:Nat) (W0:World) (hb:Below w.heap.size w W0) :
  Calls Tryz.prog 101 #[.int .i32 44,plV h x f,.int .i64 (o:Int),.int .i64 (most:Int)] W0 (PoR H W0 (some (ravA a))):=by
 have hfl:(a.fill:Int)=f:=pv_fil g
 have hx0:x.2.1=a.len:=by
  have h1:=g
  rw [rp_eta (rawP a)] at h1
  have h2:=h1.open_.2.2.1
  rw [rawP_len] at h2
  omega
 have HG:Hid (∀ W,Below W0.heap.size W0 W->PV (fun b=>H b\/b=W0.heap.size+1) W (rawP a) h x f):=fun W hb'=>PV.step (PV.sub (fun b hb9 e=>by
  rcases e with e | e
  ·exact e
  ·have:=hb.size;omega) g) (bel_both hb hb')
 have HH:Hid (∀ b,H b->b < W0.heap.size):=fun b e=>by have:=hH b e;have:=hb.size;omega
 have HS0:=Lib.hid (P1.new W0 h x f)
 obtain ⟨w1,hw1⟩:∃ w1,w1=(W0.alloc (plO h x f)).alloc (plO nilS nilS 0):=⟨_,rfl⟩
 have HW1:=Lib.hid hw1
 rw [<- hw1] at HS0
 have HPV:Hid (PV H (set3 (w1.alloc (shO ((x.2.1:Nat):Int))) (W0.heap.size+1) (sv (some ⟨w1.heap.size,0,none⟩,1,1)) (sv x) (.int .i64 f)) (rawP (ravA a)) (some ⟨w1.heap.size,0,none⟩,1,1) x ((ravA a).fill:Int)):=by
  rw [show ((ravA a).fill:Int)=f from by rw [ravA,pkA_fill];exact hfl]
  refine pl_fin ?_
  have hg1:=HG.out _ (bel_both HS0.out.bel (bel1 w1 (shO ((x.2.1:Nat):Int))))
  rw [rp_eta (rawP a)] at hg1
  rw [ravA,raw_pk,its_range,<- hx0,hfl]
  refine ItsR.pv hg1.its ?_ f
  intro W hz hbz
  refine .inr ⟨w1.heap.size,0,1,1,rfl,rfl,fun j hj=>?_⟩
  have hj0:j=0:=by simpa using hj
  subst hj0
  have h9:=heap_alloc_new w1 (shO ((x.2.1:Nat):Int))
  have hlt:=lt_blk HS0.out.res
  have hblk:W.heap[w1.heap.size]?=some (shO ((x.2.1:Nat):Int)):=by
   rw [hbz _ (lt_blk h9) (by
    rintro (e | e)
    ·have:=HH.out _ e;omega
    ·omega)]
   exact h9
  rw [cell_of_row _ w1.heap.size (0+0) _ _ (0,0) hblk]
  rfl
 have HS2:=Lib.hid (HS0.out.step (bel1 w1 (shO ((x.2.1:Nat):Int))))
 have HBE:=Lib.hid (below_set3 HS2.out.bel (Nat.le_succ _) (sv (some ⟨w1.heap.size,0,none⟩,1,1)) (sv x) (.int .i64 f))
 have HRE:=Lib.hid (set3_block HS2.out.res (sv (some ⟨w1.heap.size,0,none⟩,1,1)) (sv x) (.int .i64 f))
 have HFL:=Lib.hid hfl
 clear g hH hb hx0 hfl
 go_enter Tryz.func101,Tryz.ntmps101
 go_upto_region 1 with fail
 rw [<- HW1.out]
 clear hw1
 obtain ⟨p0,p1,p2⟩:=at3_c HS0.out.one
 obtain ⟨s0,s1,s2⟩:=at3_c HS2.out.one
 obtain ⟨⟨z0,z1,z2⟩,zz⟩:=block3 HS2.out.res
 go_wp2
 refine bodyPost_ret (v := .tuple #[plV (some ⟨w1.heap.size,0,none⟩,1,1) x f,.int .i64 0]) ?_ rfl (by have h9:=poR_yes HPV.out HBE.out;rw [show ((ravA a).fill:Int)=f from by rw [ravA,pkA_fill];exact HFL.out] at h9;exact h9)
 exact ret_pl2 (fn:=Tryz.f101) (p:=8) (u:=9) rfl _ _ (W0.heap.size+1) (by rfl) HRE.out
theorem do1_of (c:Int) (h x:Sl) (f:Int) (o most:Nat) (W0:World) (r:Option PA) (H:Nat->Prop)
  (HPR:Hid (∀ W,P1 W0 W h x f->Calls Tryz.prog 101 #[.int .i32 c,plV h x f,.int .i64 (o:Int),.int .i64 (most:Int)] W (PoR (fun b=>H b\/b=W0.heap.size+1) W r))) :
  Calls Tryz.prog 50 #[.int .i32 c,plV h x f,.int .i64 (o:Int),.int .i64 (most:Int)] W0 (PoR H W0 (toldE most r)):=by
 have HS0:=Lib.hid (P1.new W0 h x f)
 obtain ⟨w1,hw1⟩:∃ w1,w1=(W0.alloc (plO h x f)).alloc (plO nilS nilS 0):=⟨_,rfl⟩
 have HW1:=Lib.hid hw1
 rw [<- hw1] at HS0
 obtain ⟨r9,hr2⟩:∃ r9,r9=toldE most r:=⟨_,rfl⟩
 rw [<- hr2]
 have HR2:=Lib.hid hr2
 clear hr2
 go_enter Tryz.func50,Tryz.ntmps50
 go_upto_region 1 with fail
 rw [<- HW1.out]
 clear hw1
 obtain ⟨p0,p1,p2⟩:=at3_c HS0.out.one
 go_wp2_with fail
 refine (HPR.out _ HS0.out).mono ?_
 rintro e w7 hr7
 cases r with
 | some R =>
  obtain ⟨h7,x7,rfl,hpv7,hb7⟩:=hr7
  have HP7:=Lib.hid (HS0.out.step hb7)
  have HTG:=Lib.hid (fun W hb=>told_good hpv7 most W hb)
  have HTE:r9=if R.len<=most then some R else none:=HR2.out
  rw [<- HTE] at HTG
  clear HTE HR2
  clear hb7 hpv7 p0 p1 p2
  go_wp2_with fail
  refine (HTG.out _ (bel1 w7 _)).mono ?_
  rintro e w9 hr9
  cases r9 with
  | some R9 =>
   obtain ⟨h9,x9,rfl,hpv9,hb9⟩:=hr9
   have HP9:=Lib.hid ((HP7.out.step (bel1 w7 _)).step hb9)
   clear hb9
   have HPV:=Lib.hid (pl_fin hpv9)
   clear hpv9
   have HBE:=Lib.hid (below_set3 HP9.out.bel (Nat.le_succ _) (sv h9) (sv x9) (.int .i64 (R9.fill:Int)))
   have HRE:=Lib.hid (set3_block HP9.out.res (sv h9) (sv x9) (.int .i64 (R9.fill:Int)))
   obtain ⟨⟨z0,z1,z2⟩,zz⟩:=block3 HP9.out.res
   go_wp2
   refine bodyPost_ret (v := .tuple #[plV h9 x9 (R9.fill:Int),.int .i64 0]) ?_ rfl (poR_yes HPV.out HBE.out)
   exact ret_pl2 (fn:=Tryz.f50) (p:=8) (u:=9) rfl _ _ (W0.heap.size+1) (by rfl) HRE.out
  | none =>
   obtain ⟨z9,hz9,rfl,hb9⟩:=hr9
   have HP9:=Lib.hid ((HP7.out.step (bel1 w7 _)).step hb9)
   have HZ:=Lib.hid hz9
   clear hb9 hz9
   have HBE:=Lib.hid (below_set3 HP9.out.bel (Nat.le_succ _) (.slice none 0 0) (.slice none 0 0) (.int .i64 0))
   have HRE:=Lib.hid (set3_block HP9.out.res (.slice none 0 0) (.slice none 0 0) (.int .i64 0))
   obtain ⟨⟨z0,z1,z2⟩,zz⟩:=block3 HP9.out.res
   go_wp2
   refine bodyPost_ret (v := .tuple #[plV nilS nilS 0,.int .i64 z9]) ?_ rfl (poR_no HZ.out HBE.out)
   exact ret_pl2 (fn:=Tryz.f50) (p:=8) (u:=9) rfl _ _ (W0.heap.size+1) (by rfl) HRE.out
 | none =>
  obtain ⟨z,hz,rfl,hb7⟩:=hr7
  have HP7:=Lib.hid (HS0.out.step hb7)
  have HTB:=Lib.hid (fun W=>told_bad z hz most W H)
  clear hb7 hz p0 p1 p2
  obtain rfl:r9=none:=HR2.out
  clear HR2
  go_wp2_with fail
  refine (HTB.out _).mono ?_
  rintro e w9 hr9
  obtain ⟨z9,hz9,rfl,hb9⟩:=hr9
  have HP9:=Lib.hid ((HP7.out.step (bel1 w7 _)).step hb9)
  have HZ:=Lib.hid hz9
  clear hb9 hz9
  have HBE:=Lib.hid (below_set3 HP9.out.bel (Nat.le_succ _) (.slice none 0 0) (.slice none 0 0) (.int .i64 0))
  have HRE:=Lib.hid (set3_block HP9.out.res (.slice none 0 0) (.slice none 0 0) (.int .i64 0))
  obtain ⟨⟨z0,z1,z2⟩,zz⟩:=block3 HP9.out.res
  go_wp2
  refine bodyPost_ret (v := .tuple #[plV nilS nilS 0,.int .i64 z9]) ?_ rfl (poR_no HZ.out HBE.out)
  exact ret_pl2 (fn:=Tryz.f50) (p:=8) (u:=9) rfl _ _ (W0.heap.size+1) (by rfl) HRE.out
abbrev phO (F G:Int):Obj := .cells #[.int .i64 1,.int .i32 F,.int .i32 G] 68
theorem poR_base {H:Nat->Prop}{w W:World}{r:Option PA}{e:Ending}{w':World} (hb:Below w.heap.size w W) (h:PoR H W r e w'):PoR H w r e w':=by
 cases r with
 | some t=>obtain ⟨h9,x9,e9,hp,hb9⟩:=h;exact ⟨h9,x9,e9,hp,bel_both hb hb9⟩
 | none=>obtain ⟨z,hz,e9,hb9⟩:=h;exact ⟨z,hz,e9,bel_both hb hb9⟩
theorem chain34_of (F G:Int) (h x:Sl) (f:Int) (o most:Nat) (W0 Wp:World) (hWp:Wp=W0.alloc (phO F G)) (r1:Option PA) (r2:PA->Option PA) (H:Nat->Prop)
  (HD1:Hid (∀ W,P1 Wp W h x f->Calls Tryz.prog 50 #[.int .i32 G,plV h x f,.int .i64 (o:Int),.int .i64 (most:Int)] W (PoR (fun b=>H b\/b=Wp.heap.size+1) W r1)))
  (HD2:Hid (∀ R,r1=some R->∀ W h7 x7,P1 Wp W h x f->PV (fun b=>H b\/b=Wp.heap.size+1) W (rawP R) h7 x7 (R.fill:Int)->∀ W',Below W.heap.size W W'->Calls Tryz.prog 50 #[.int .i32 F,plV h7 x7 (R.fill:Int),.int .i64 (o:Int),.int .i64 (most:Int)] W' (PoR (fun b=>H b\/b=Wp.heap.size+1) W' (r2 R)))) :
  Calls Tryz.prog 19 #[.agg #[.int .i64 1,.int .i32 F,.int .i32 G],plV h x f,.int .i64 (o:Int),.int .i64 (most:Int)] W0 (PoR H W0 (r1.bind r2)):=by
 have HBP:Hid (Below W0.heap.size W0 Wp):=by unfold Hid;rw [hWp];exact bel1 W0 _
 refine Calls.mono (show Calls Tryz.prog 19 #[.agg #[.int .i64 1,.int .i32 F,.int .i32 G],plV h x f,.int .i64 (o:Int),.int .i64 (most:Int)] W0 (PoR H Wp (r1.bind r2)) from ?_) (fun e w' h=>poR_base HBP.out h)
 have HPH:Hid (∀ W,Below Wp.heap.size Wp W->W.cell? ⟨W0.heap.size,1,none⟩=some (.int .i32 F)/\W.cell? ⟨W0.heap.size,2,none⟩=some (.int .i32 G)):=fun W hb=>by
  have h9:=heap_alloc_new W0 (phO F G)
  rw [<- hWp] at h9
  have h8:W.heap[W0.heap.size]?=some (phO F G):=by rw [hb.block _ (lt_blk h9)];exact h9
  exact ⟨by rw [cell_of_row _ W0.heap.size 1 _ _ (0,0) h8];rfl,by rw [cell_of_row _ W0.heap.size 2 _ _ (0,0) h8];rfl⟩
 have HSZ:Hid (Wp.heap.size=W0.heap.size+1):=by unfold Hid;rw [hWp];simp
 have HS0:=Lib.hid (P1.new Wp h x f)
 obtain ⟨w1,hw1⟩:∃ w1,w1=(Wp.alloc (plO h x f)).alloc (plO nilS nilS 0):=⟨_,rfl⟩
 have HW1:=Lib.hid hw1
 have HWP:=Lib.hid hWp
 rw [<- hw1] at HS0
 clear hw1 hWp
 obtain ⟨r9,hr9⟩:∃ r9,r9=r1.bind r2:=⟨_,rfl⟩
 rw [<- hr9]
 have HR9:=Lib.hid hr9
 clear hr9
 go_enter Tryz.func19,Tryz.ntmps19
 go_upto_region 1 with fail
 rw [<- HWP.out,<- HW1.out,<- HSZ.out]
 obtain ⟨p0,p1,p2⟩:=at3_c HS0.out.one
 obtain ⟨c1,c2⟩:=HPH.out w1 HS0.out.bel
 go_wp2_with fail
 refine (HD1.out _ HS0.out).mono ?_
 rintro e w7 hr7
 cases r1 with
 | some R =>
  obtain ⟨h7,x7,rfl,hpv7,hb7⟩:=hr7
  have HP7:=Lib.hid (HS0.out.step hb7)
  have HTG:=Lib.hid (HD2.out R rfl w7 h7 x7 HP7.out hpv7)
  have HTE:r9=r2 R:=HR9.out
  rw [<- HTE] at HTG
  clear HTE HR9 hb7 hpv7 p0 p1 p2 c1 c2
  have HP8:=Lib.hid (HP7.out.step (bel1 w7 (plO h7 x7 (R.fill:Int))))
  obtain ⟨c1,c2⟩:=HPH.out _ HP8.out.bel
  go_wp2_with fail
  refine (HTG.out _ (bel1 w7 _)).mono ?_
  rintro e w9 hr9
  cases r9 with
  | some R9 =>
   obtain ⟨h9,x9,rfl,hpv9,hb9⟩:=hr9
   have HP9:=Lib.hid (HP8.out.step hb9)
   clear hb9 c1 c2
   have HPV:=Lib.hid (pl_fin hpv9)
   clear hpv9
   have HBE:=Lib.hid (below_set3 HP9.out.bel (Nat.le_succ _) (sv h9) (sv x9) (.int .i64 (R9.fill:Int)))
   have HRE:=Lib.hid (set3_block HP9.out.res (sv h9) (sv x9) (.int .i64 (R9.fill:Int)))
   obtain ⟨⟨z0,z1,z2⟩,zz⟩:=block3 HP9.out.res
   go_wp2
   refine bodyPost_ret (v := .tuple #[plV h9 x9 (R9.fill:Int),.int .i64 0]) ?_ rfl (poR_yes HPV.out HBE.out)
   exact ret_pl2 (fn:=Tryz.f19) (p:=8) (u:=9) rfl _ _ (Wp.heap.size+1) (by rfl) HRE.out
  | none =>
   obtain ⟨z9,hz9,rfl,hb9⟩:=hr9
   have HP9:=Lib.hid (HP8.out.step hb9)
   have HZ:=Lib.hid hz9
   clear hb9 hz9 c1 c2
   have HBE:=Lib.hid (below_set3 HP9.out.bel (Nat.le_succ _) (.slice none 0 0) (.slice none 0 0) (.int .i64 0))
   have HRE:=Lib.hid (set3_block HP9.out.res (.slice none 0 0) (.slice none 0 0) (.int .i64 0))
   obtain ⟨⟨z0,z1,z2⟩,zz⟩:=block3 HP9.out.res
   go_wp2
   refine bodyPost_ret (v := .tuple #[plV nilS nilS 0,.int .i64 z9]) ?_ rfl (poR_no HZ.out HBE.out)
   exact ret_pl2 (fn:=Tryz.f19) (p:=8) (u:=9) rfl _ _ (Wp.heap.size+1) (by rfl) HRE.out
 | none =>
  obtain ⟨z,hz,rfl,hb7⟩:=hr7
  have HP7:=Lib.hid ((HS0.out.step hb7).step (bel1 w7 (plO nilS nilS 0)))
  have HZ:=Lib.hid hz
  have hz1:¬ z=0:=hz
  have hz2:(z==0)=false:=by simpa using hz
  have hz3:(z != 0)=true:=by simpa using hz
  obtain rfl:r9=none:=HR9.out
  clear hb7 p0 p1 p2 c1 c2 HR9 hz
  have HBE:=Lib.hid (below_set3 HP7.out.bel (Nat.le_succ _) (.slice none 0 0) (.slice none 0 0) (.int .i64 0))
  have HRE:=Lib.hid (set3_block HP7.out.res (.slice none 0 0) (.slice none 0 0) (.int .i64 0))
  obtain ⟨⟨z0,z1,z2⟩,zz⟩:=block3 HP7.out.res
  go_wp2
  refine bodyPost_ret (v := .tuple #[plV nilS nilS 0,.int .i64 z]) ?_ rfl (poR_no HZ.out HBE.out)
  exact ret_pl2 (fn:=Tryz.f19) (p:=8) (u:=9) rfl _ _ (Wp.heap.size+1) (by rfl) HRE.out
end Go.Proofs.YtbakjaliponbbaaGreatDoor
