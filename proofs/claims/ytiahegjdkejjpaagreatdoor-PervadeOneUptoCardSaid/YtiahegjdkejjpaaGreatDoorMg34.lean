/- The walk of value.of over good plain arrays of fill 2. value.of, value.Of and rebuslaw07.Of of good plain arrays. The walk of .. Conditions: as each theorem says. -/
import Derived.Test.YtiahegjdkejjpaaGreatDoorMg28
import Derived.Test.YtiahegjdkejjpaaGreatDoorMg33
import Derived.Test.YtiahegjdkejjpaaGreatDoorMg31
import Derived.Test.YtiahegjdkejjpaaGreatDoorMg32
set_option maxRecDepth 100000
set_option maxHeartbeats 4000000
namespace Go.Proofs.YtiahegjdkejjpaaGreatDoor
open Go Go.RowKit Go.Proofs Fl
theorem of_2 (H:Nat->Prop) (d:Nat) (hd:d<=40) (hIH:∀ (H:Nat->Prop) (t:RP) (h x:Sl) (f:Int) (w:World),(∀ b,H b->b < w.heap.size)->OkP d t->cntP t<=1000000->PV H w t h x f->Calls Tryz.prog 128 #[plV h x f,.int .i64 (d:Int)] w (AvR H w (clP t))) (sn:List Nat) (items:List RI) (h x:Sl) (w:World) (hH:∀ b,H b->b < w.heap.size) (hok:OkIs (d+1) 2 items) (hsn:OkSh sn items.length) (hM:cntP (.mk (sn.map Int.ofNat) items 2)<=1000000) (hr:PV H w (.mk (sn.map Int.ofNat) items 2) h x 2) :
  Calls Tryz.prog 128 #[plV h x 2,.int .i64 ((d+1:Nat):Int)] w (AvR H w (clP (.mk (sn.map Int.ofNat) items 2))):=by
 obtain ⟨hsr,_,hx,hit⟩:=hr.open_
 obtain ⟨A,m,cc⟩:=x
 dsimp only at hx hit
 have hsz:cntP (.mk (sn.map Int.ofNat) items 2)=items.length+(sn.map Int.ofNat).length+1+cntIs items:=by rw [cntP]
 rw [hsz,List.length_map] at hM
 have hsh:ShV H w h sn:=by rw [List.map_map] at hsr;exact hsr
 have HK:=Lib.hid hit
 have HMI:=Lib.hid hx
 have HSH:=Lib.hid hsh
 have hmb:m<=1000000:=by omega
 have HOKI:Hid (∀ i (hi:i < items.length),OkI (d+1) 2 items[i]):=fun i hi=>okIs_at hi hok
 have hpe:prodE sn 1048576=((m:Int),0):=by rw [hx];exact prodE_ok hsn (by omega)
 have HPR:Hid (∀ W,Below w.heap.size w W->Calls Tryz.prog 84 #[sv h,.int .i64 1048576] W fun e w'=>e= .returned (.tuple #[.int .i64 (m:Int),.int .i64 0])/\W=w'):=fun W hb=>by
  have h1:=product_any (sv h) sn 1048576 W (hsh.step hb).now (by omega)
  rw [hpe] at h1
  exact h1
 have HI0:=Lib.hid (OfI.new w h (A,m,cc) 2)
 obtain ⟨z,hz⟩:∃ z:Int,z=((d+1:Nat):Int):=⟨_,rfl⟩
 rw [<- hz]
 have hz0:(z==0)=false:=by simp;omega
 have hne:((m:Int) != (m:Int))=false:=by simp
 have HLN:Hid (sn.length<=1048576):=by unfold Hid;omega
 have HIH:=Lib.hid hIH
 have hz1:z - 1=(d:Int):=by omega
 have hz2:IntKind.i64.wrap (d:Int)=(d:Int):=IntWalk.i64_in _ (by omega)
 have HCN:Hid (∀ i (hi:i < items.length),cntI items[i]<=1000000):=fun i hi=>by have:=cntIs_at hi;omega
 clear hIH
 clear hz hx hsz hM hit hok hsr hr hsn hpe hsh hd
 go_enter Tryz.func128,Tryz.ntmps128
 obtain ⟨c0,c1,c2⟩:=HI0.out.arg
 dsimp only [sv] at c1
 go_wp2_with fail
 refine (HPR.out _ HI0.out.bel).mono ?_
 rintro e w1 ⟨rfl,rfl⟩
 generalize hW:(w.alloc (.cells #[sv h,.slice A m cc,.int .i64 2] 25)).alloc (.cells zeroL 39)=W at *
 clear hW HPR
 go_wp2
 clear c0 c1 c2
 go_loopw [8,10,49] (fun n8 v iv wr=>∃ (i:Nat) (vA:Option Addr) (vn vc:Nat),i<=m/\iv= .int .i64 (i:Int)/\n8= .slice none 0 0/\v= .slice vA vn vc/\AOwn (fun b=>H b\/b=w.heap.size+1) wr (w.heap.size+2) (.slice vA vn vc) ((clIs items).take i)/\OfI w h (A,m,cc) 2 wr) (fun _ _ iv _=>m - (intOf iv).toNat)
 case atStart=>exact ⟨0,none,0,0,Nat.zero_le _,rfl,rfl,rfl,AOwn.nil _ _ _,HI0.out⟩
 case round =>
  obtain ⟨i,vA,vn,vc,hi,rfl,rfl,rfl,hown,hofi⟩:=hrel
  have HOWN:=Lib.hid hown
  have HOF:=Lib.hid hofi
  obtain ⟨c0,c1,c2⟩:=hofi.arg
  dsimp only [sv] at c1
  clear hown hofi
  by_cases him:i < m
  ·have him2:(i:Int) < (m:Int):=by omega
   have hik:i < items.length:=by have:=HMI.out;omega
   obtain ⟨b,o,k',n',c',y,rfl,-,hiv,hat⟩:=HK.out i hik
   have hic:i < (clIs items).length:=by rw [clIs_len];exact hik
   have HTK:Hid ((clIs items).take (i+1)=(clIs items).take i++[clI items[i]]):=by unfold Hid;rw [List.take_succ_eq_append_getElem hic,clIs_at hik hic]
   have HOI:=Lib.hid (HOKI.out i hik)
   have HCI:=Lib.hid (HCN.out i hik)
   have HLB:Hid (((clIs items).take i).length<=1048576):=by unfold Hid;rw [List.length_take];omega
   generalize items[i]=it at hiv HTK HOI HCI
   cases it with
   | mk kind num char box =>
   obtain ⟨rfl,rfl,rfl,hy,hbx⟩:=hiv.open_
   obtain ⟨yA,ym,yc⟩:=y
   dsimp only at hy hbx
   obtain ⟨d0,d1,d2,d3⟩:=hat wr (Lat.below HOF.out.bel)
   dsimp only [sv] at d3
   have hk0:=HOI.out
   rw [OkI] at hk0
   obtain ⟨rfl,hkn,hkb⟩:=hk0
   obtain ⟨hb1,hbo⟩:=hkb rfl
   have hb0:0 < box.length:=by omega
   obtain ⟨bb,o2,h',y',f',hyA,hnH,hpv,hat3⟩:=hbx 0 hb0
   subst hyA
   obtain rfl:ym=1:=by omega
   have hop:=okPs_head hb0 hbo
   have hcl:clI (.mk 2 n' c' box)=clP box[0]:=clI_one hb0
   have hct:cntP box[0]<=1000000:=by have:=HCI.out;rw [cntI] at this;have:=cntPs_at hb0;omega
   rw [hcl] at HTK
   have hst:=fun md=>st_item wr 2 0 n' 0 (.slice none 0 0) 59 md
   have g0:=fun o=>cell_box1 c0 o
   have g1:=fun o=>cell_box1 c1 o
   have g2:=fun o=>cell_box1 c2 o
   have HB1:=Lib.hid (bel_both HOF.out.bel (bel1 wr (.cells #[.int .i64 2,.float .f64 n',.int .i32 c',.slice (some ⟨bb,o2,none⟩) 1 yc] 59)))
   obtain ⟨t0,t1,t2⟩:=hat3 _ (Lat.below HB1.out)
   simp only [Nat.zero_mul,Nat.add_zero] at t0 t1 t2
   have HIC:=Lib.hid (HIH.out (Hole H w (wr.alloc (.cells #[.int .i64 2,.float .f64 n',.int .i32 c',.slice (some ⟨bb,o2,none⟩) 1 yc] 59))) box[0] h' y' f' (wr.alloc (.cells #[.int .i64 2,.float .f64 n',.int .i32 c',.slice (some ⟨bb,o2,none⟩) 1 yc] 59)) (Hole.lt hH HB1.out) hop hct (hpv.arg HB1.out))
   unfold AvR at HIC
   clear hy hbx hat hiv hkn hkb hbo hpv hat3 hop hct hcl hb1 hnH
   generalize box[0]=zt at HIC HTK
   go_wp2_with fail
   refine HIC.out.mono ?_
   rintro e w2 ⟨h2,p2,rfl,hav,hb2⟩
   have hwsz:w.heap.size+2<=wr.heap.size:=HOF.out.sz
   have HWW:=Lib.hid (bel_both (bel1 wr (.cells #[.int .i64 2,.float .f64 n',.int .i32 c',.slice (some ⟨bb,o2,none⟩) 1 yc] 59)) hb2)
   have HW4:=Lib.hid (bel_both HWW.out (bel1 w2 (arrO h2 p2)))
   have HW1:=Lib.hid (HOF.out.step HW4.out)
   have HO1:=Lib.hid (HOWN.out.below HW4.out)
   have HAV:Hid (AV (fun b=>(H b\/b=w.heap.size+1)\/(Value.slice vA vn vc).ownBlock=some b) (w2.alloc (arrO h2 p2)) (clP zt) h2 p2):=AV.sub (fun b hb e=>by
    rcases e with (e | e) | e
    ·exact .inl e
    ·exact .inr ⟨by omega,by simp;omega⟩
    ·have h9:=HOWN.out.own_lt e
     exact .inr ⟨by omega,by simp;omega⟩) (hav.step (bel1 w2 (arrO h2 p2)))
   have HGG:Hid (w2.heap.size+1=(w2.alloc (arrO h2 p2)).heap.size):=by unfold Hid;simp
   have HSZ:Hid (w.heap.size+2<=(w2.alloc (arrO h2 p2)).heap.size):=HW1.out.sz
   clear hav hb2 HIC
   go_wp2_with (at_builtin;refine wpList_pushA' rfl (.tmp 96) (.tmp 98) rfl (fun b=>H b\/b=w.heap.size+1) (w.heap.size+2) (.slice vA vn vc) ((clIs items).take i) rfl HO1.out h2 p2 (clP zt) HAV.out (w2.heap.size+1) HGG.out rfl HLB.out HSZ.out ?_;intro v' w' hown' hbw;(obtain ⟨vA',vn',vc',hvn'⟩:∃ A n c,v'= .slice A n c:=by (obtain ⟨a,c,e⟩:=hown'.len;exact ⟨a,_,c,e⟩));subst hvn';have HV:=Lib.hid hown';have HOF2:=Lib.hid (HW1.out.more (hbw _ (Below.refl _ _)));clear hown' hbw)
   go_roundw
   case rel=>exact ⟨i+1,vA',vn',vc',by omega,by go_num,rfl,rfl,by rw [HTK.out];exact HV.out,HOF2.out⟩
   case measure=>simp [intOf];omega
  ·have hge:¬ (i:Int) < (m:Int):=by omega
   obtain rfl:i=m:=by omega
   have HTL:Hid ((clIs items).take i=clIs items):=by unfold Hid;rw [HMI.out,<- clIs_len items];exact List.take_length
   rw [HTL.out] at HOWN
   obtain ⟨xs,hxs,hasl⟩:=HOWN.out.asl (fun b e=>by
    have h1:=HOF.out.sz
    rcases e with e | e
    ·have:=hH b e;omega
    ·omega)
   obtain ⟨sA,sn',sc⟩:=xs
   have h9:Value.slice vA vn vc= .slice sA sn' sc:=hxs
   injection h9 with h10 h11 h12
   subst h10;subst h11;subst h12
   have HRD:=Lib.hid hasl
   clear hasl hxs
   have HN:=Lib.hid (numbers_tid (fun b=>H b\/b=w.heap.size+1) (.slice none 0 0) 0 (fun _=>0) wr (fun b e=>by
    have h1:=HOF.out.sz
    rcases e with e | e
    ·have:=hH b e;omega
    ·omega) (.inl ⟨none,0,rfl,rfl⟩) (by omega) (fun j hj=>by omega) (fun j hj=>by omega))
   unfold Vec2R at HN
   go_wp2_with fail
   refine HN.out.mono ?_
   rintro e w2 ⟨k4,b4,bn4,s4,i4,f4,c4,x4,rfl,-,hb2⟩
   obtain ⟨y0,y1,y2⟩:=(HOF.out.step hb2).arg
   have gy2:=fun o=>cell_box1 y2 o
   have HB2:=Lib.hid hb2
   have HCH:Hid (∀ o:Obj,Calls Tryz.prog 62 #[.slice vA vn vc] (w2.alloc o) (BxR (fun b=>(H b\/b=w.heap.size+1)\/b=w2.heap.size) (w2.alloc o) (clIs items))):=fun o=>boxes_any (x:=(vA,vn,vc)) ((HRD.out.step hb2).sub (fun b hb e=>by
    rcases e with e | e
    ·exact e
    ·omega) |>.step (bel1 w2 o)) (by rw [clIs_len,<- HMI.out];omega) (fun b e=>by
    have h1:=(HOF.out.step hb2).sz
    rcases e with (e | e) | e
    ·have:=hH b e;simp;omega
    ·simp;omega
    ·simp;omega)
   unfold BxR at HCH
   clear hb2 c0 c1 c2 HN
   go_wp2_with fail
   refine (HCH.out _).mono ?_
   rintro e w3 ⟨⟨uA,un,uc⟩,rfl,hou,hb3⟩
   dsimp only [sv]
   have HK3:=Lib.hid (block_up hb3)
   obtain ⟨⟨b0,b1,b2,b3,b4',b5,b6,b7⟩,bz⟩:=boxed_of HK3.out
   have HB3a:=Lib.hid (bel_both HB2.out (bel_both (bel1 w2 _) hb3))
   have hlt3:=lt_blk HK3.out
   have HOU:=Lib.hid hou
   have hww2:wr.heap.size<=w2.heap.size:=HB2.out.size
   clear hou hb3 gy2 y0 y1 y2
   obtain ⟨W3,hW3⟩:∃ W3,W3=set8 w3 w2.heap.size (.int .i64 6) vnil (.int .i64 0) vnil vnil vnil vnil (.slice uA un uc):=⟨_,rfl⟩
   have HBS:Hid (Below wr.heap.size wr W3):=by unfold Hid;rw [hW3];exact below_set8 HB3a.out hww2 _ _ _ _ _ _ _ _
   have HOF3:=Lib.hid (HOF.out.step HBS.out)
   have HBP:Hid (Boxed W3 w2.heap.size 6 vnil 0 vnil vnil vnil vnil (.slice uA un uc)):=by unfold Hid;rw [hW3];exact (boxed_of (set8_block HK3.out _ _ _ _ _ _ _ _)).1
   have hwsz:w.heap.size+2<=wr.heap.size:=HOF.out.sz
   have HKV:Hid (ASl (fun b=>H b\/b=w.heap.size+1) W3 (uA,un,uc) (clIs items)):=by
    unfold Hid
    rw [hW3]
    exact ASl.sub (fun _ _ e => .inl e) (ASl.lat (Lat.set8 (G:=w2.heap.size) (.inr rfl) _ _ _ _ _ _ _ _) HOU.out)
   have HH1:Hid (∀ W:World,W3.heap.size<=W.heap.size->∀ b,(H b\/b=w.heap.size+1)->b < W.heap.size):=fun W hW b e=>by
    have h1:=OfI.sz (Hid.out HOF3)
    rcases e with e | e
    ·have:=hH b e;omega
    ·omega
   have HSH1:Hid (∀ W:World,Below W3.heap.size W3 W->ShV (fun b=>H b\/b=w.heap.size+1) W h sn):=fun W hb=>Keeps.lat (Keeps.lat (Keeps.sub HSH.out (fun b hb e=>by
    rcases e with e | e
    ·exact e
    ·omega)) (Lat.below HOF3.out.bel)) (Lat.below hb)
   have HCL:=Lib.hid (fun W (hb:Below W3.heap.size W3 W)=>clSh_any (HSH1.out W hb) HLN.out (HH1.out W hb.size))
   obtain ⟨a0,a1,a2⟩:=HOF3.out.arg
   rw [hW3] at a2
   dsimp only [set8] at hW3 a2
   clear a0 a1
   go_wp2
   rw [<- hW3]
   obtain ⟨a0,a1,a2'⟩:=HOF3.out.arg
   obtain ⟨⟨z0,z1,z2,z3,z4,z5,z6,z7,z8⟩,zz⟩:=zero_block HOF3.out.res
   obtain ⟨p0,p1,p2,p3,p4,p5,p6,p7⟩:=HBP.out
   clear hW3 a2 b0 b1 b2 b3 b4' b5 b6 b7 bz HCH HB3a
   go_region_with (go_at_call 60;((with_reducible refine (HCL.out _ ?_).mono ?_);(repeat (first | (with_reducible assumption) | (with_reducible exact Below.refl _ _) | (with_reducible refine Below.drew ?_)));rintro e wa ⟨cA,cn,ccc,rfl,hsh,hba⟩);have HBa:=Lib.hid (bel_both (show Below W3.heap.size W3 W3.drew from (Below.refl _ _).drew) hba);have HOFa:=Lib.hid (HOF3.out.step HBa.out);(obtain ⟨⟨y0,y1,y2,y3,y4,y5,y6,y7,y8⟩,yy⟩:=zero_block HOFa.out.res);(obtain ⟨q0,q1,q2,q3,q4,q5,q6,q7⟩:=(show Boxed wa w2.heap.size 6 vnil 0 vnil vnil vnil vnil (.slice uA un uc) from HBP.out.below HBa.out));have HSHa:=Lib.hid hsh;clear hba hsh)
   all_goals
    go_wp2
    refine bodyPost_ret (v := .tuple #[arrV (cA,cn,ccc) (boxesP (uA,un,uc)),.int .i64 0]) ?_ rfl ⟨(cA,cn,ccc),boxesP (uA,un,uc),rfl,av_boxed (Keeps.sub (Keeps.lat HSHa.out (Lat.set9 (G:=w.heap.size+1) (.inr rfl) _ _ _ _ _ _ _ _ _)) (fun _ _ e => .inl e)) (ASl.sub (fun _ _ e => .inl e) (ASl.lat (Lat.set9 (G:=w.heap.size+1) (.inr rfl) _ _ _ _ _ _ _ _ _) (ASl.lat (Lat.below HBa.out) HKV.out))),below_set9 HOFa.out.bel (Nat.le_succ _) _ _ _ _ _ _ _ _ _⟩
    exact ret_arr2 (fn:=Tryz.f128) (p:=4) (u:=5) rfl _ _ (w.heap.size+1) (by rfl) (set9_block HOFa.out.res _ _ _ _ _ _ _ _ _)
theorem aof_walk:∀ (d:Nat) (H:Nat->Prop) (t:RP) (h x:Sl) (f:Int) (w:World),d<=40->(∀ b,H b->b < w.heap.size)->OkP d t->cntP t<=1000000->PV H w t h x f ->
  Calls Tryz.prog 128 #[plV h x f,.int .i64 (d:Int)] w (AvR H w (clP t))
 | 0,_,.mk s items fill,_,_,_,_,_,_,hok,_,_=>by rw [OkP] at hok;exact absurd hok.1 (Nat.lt_irrefl _)
 | d+1,H,.mk s items fill,h,x,f,w,hd,hH,hok,hM,hr=>by
  obtain ⟨_,rfl,_,_⟩:=hr.open_
  rw [OkP] at hok
  obtain ⟨_,hf,⟨sn,rfl,hs⟩,hi⟩:=hok
  rcases hf with rfl | rfl | rfl
  ·exact of_0 H d (by omega) sn items h x w hH hi hs hM hr
  ·exact of_1 H d (by omega) sn items h x w hH hi hs hM hr
  ·exact of_2 H d (by omega) (fun H t h x f w h0 h1 h2 h3=>aof_walk d H t h x f w (by omega) h0 h1 h2 h3) sn items h x w hH hi hs hM hr
theorem vOf_any (H:Nat->Prop) (t:RP) (h x:Sl) (f:Int) (w:World) (hH:∀ b,H b->b < w.heap.size) (hok:OkP 40 t) (hM:cntP t<=1000000) (hr:PV H w t h x f) :
  Calls Tryz.prog 63 #[plV h x f] w (AvR H w (clP t)):=by
 have HI0:=Lib.hid (OfI.new w h x f)
 have HC:=Lib.hid (aof_walk 40 (Hole H w ((w.alloc (.cells #[sv h,sv x,.int .i64 f] 25)).alloc (.cells zeroL 39))) t h x f _ (Nat.le_refl _) (Hole.lt hH HI0.out.bel) hok hM (hr.arg HI0.out.bel))
 unfold AvR at HC
 have HH:=Lib.hid hH
 clear hok hM hr hH
 go_enter Tryz.func63,Tryz.ntmps63
 obtain ⟨c0,c1,c2⟩:=HI0.out.arg
 go_wp2_with fail
 refine HC.out.mono ?_
 rintro e w1 ⟨h',p,rfl,hav,hb⟩
 have HOF:=Lib.hid (HI0.out.step hb)
 have HAV:=Lib.hid hav
 have hlt:w.heap.size+1 < ((w.alloc (.cells #[sv h,sv x,.int .i64 f] 25)).alloc (.cells zeroL 39)).heap.size:=lt_blk HI0.out.res
 have HLT:=Lib.hid hlt
 obtain ⟨⟨z0,z1,z2,z3,z4,z5,z6,z7,z8⟩,zz⟩:=zero_block HOF.out.res
 clear hb hav hlt c0 c1 c2
 go_wp2
 refine bodyPost_ret (v := .tuple #[arrV h' p,.int .i64 0]) ?_ rfl ⟨h',p,rfl,AV.sub (fun b _ e => .inl e) (AV.lat (Lat.set9 (G:=w.heap.size+1) (.inr ⟨by omega,HLT.out⟩) _ _ _ _ _ _ _ _ _) HAV.out),below_set9 HOF.out.bel (Nat.le_succ _) _ _ _ _ _ _ _ _ _⟩
 exact ret_arr2 (fn:=Tryz.f63) (p:=2) (u:=3) rfl _ _ (w.heap.size+1) (by rfl) (set9_block HOF.out.res _ _ _ _ _ _ _ _ _)
theorem blk_alloc {W:World}{G:Nat}{o:Obj} (h:W.heap[G]?=some o) (o':Obj):(W.alloc o').heap[G]?=some o:=by
 rw [(bel1 W o').block G (lt_blk h)];exact h
def AaR (H:Nat->Prop) (w:World) (a:PA) (e:Ending) (w':World):Prop:=∃ h p,e= .returned (arrV h p)/\AV H w' a h p/\Below w.heap.size w w'
theorem lawOf_any (H:Nat->Prop) (t:RP) (h x:Sl) (f:Int) (w:World) (hH:∀ b,H b->b < w.heap.size) (hok:OkP 40 t) (hM:cntP t<=1000000) (hr:PV H w t h x f) :
  Calls Tryz.prog 14 #[plV h x f] w (AaR H w (clP t)):=by
 have HI0:=Lib.hid (OfI.new w h x f)
 have HC:=Lib.hid (vOf_any (Hole H w ((w.alloc (.cells #[sv h,sv x,.int .i64 f] 25)).alloc (.cells zeroL 39))) t h x f _ (Hole.lt hH HI0.out.bel) hok hM (hr.arg HI0.out.bel))
 unfold AvR at HC
 have HH:=Lib.hid hH
 clear hok hM hr hH
 go_enter Tryz.func14,Tryz.ntmps14
 obtain ⟨c0,c1,c2⟩:=HI0.out.arg
 go_wp2_with fail
 refine HC.out.mono ?_
 rintro e w1 ⟨h',p,rfl,hav,hb⟩
 have HOF:=Lib.hid (HI0.out.step hb)
 have HAV:=Lib.hid hav
 have hlt:w.heap.size+1 < ((w.alloc (.cells #[sv h,sv x,.int .i64 f] 25)).alloc (.cells zeroL 39)).heap.size:=lt_blk HI0.out.res
 have HLT:=Lib.hid hlt
 obtain ⟨⟨y0,y1,y2,y3,y4,y5,y6,y7,y8⟩,yz⟩:=zero_block HOF.out.res
 have hl1:w.heap.size+1 < w1.heap.size:=lt_blk HOF.out.res
 have b0:=fun o=>cell_box1 y0 o
 have b1:=fun o=>cell_box1 y1 o
 have b2:=fun o=>cell_box1 y2 o
 have b3:=fun o=>cell_box1 y3 o
 have b4:=fun o=>cell_box1 y4 o
 have b5:=fun o=>cell_box1 y5 o
 have b6:=fun o=>cell_box1 y6 o
 have b7:=fun o=>cell_box1 y7 o
 have b8:=fun o=>cell_box1 y8 o
 have u0:=fun (j:Nat) o=>frozen_box (j:=0) y0 yz o
 have u1:=fun o=>frozen_box y1 yz o
 have u2:=fun o=>frozen_box y2 yz o
 have u3:=fun o=>frozen_box y3 yz o
 have u4:=fun o=>frozen_box y4 yz o
 have u5:=fun o=>frozen_box y5 yz o
 have u6:=fun o=>frozen_box y6 yz o
 have u7:=fun o=>frozen_box y7 yz o
 have u8:=fun o=>frozen_box y8 yz o
 have u00:=fun o=>frozen_box y0 yz o
 clear hb hav hlt c0 c1 c2 u0
 go_wp2
 refine bodyPost_ret (v:=arrV h' p) ?_ rfl ⟨h',p,rfl,AV.sub (fun b _ e => .inl e) (AV.step (AV.lat (Lat.set9 (G:=w.heap.size+1) (.inr ⟨by omega,HLT.out⟩) _ _ _ _ _ _ _ _ _) HAV.out) (bel1 _ _)),bel_both (below_set9 HOF.out.bel (Nat.le_succ _) _ _ _ _ _ _ _ _ _) (bel1 _ _)⟩
 exact ret_arr (fn:=Tryz.f14) (p:=2) rfl _ _ (w.heap.size+1) (by rfl) (blk_alloc (set9_block HOF.out.res _ _ _ _ _ _ _ _ _) _)
structure A1 (w W:World) (h:Sl) (p:V8):Prop where
 one:At9 W w.heap.size 0 h p
 res:W.heap[w.heap.size+1]?=some zeroO
 bel:Below w.heap.size w W
theorem A1.step {w W W':World}{h:Sl}{p:V8} (g:A1 w W h p) (hb:Below W.heap.size W W'):A1 w W' h p:=⟨g.one.below hb,by rw [hb.block _ (lt_blk g.res)];exact g.res,bel_both g.bel hb⟩
theorem A1.sz {w W:World}{h:Sl}{p:V8} (g:A1 w W h p):w.heap.size+1 < W.heap.size:=lt_blk g.res
theorem A1.new (w:World) (h:Sl) (p:V8):A1 w ((w.alloc (arrO h p)).alloc zeroO) h p:=by
 have h1:=heap_alloc_new (w.alloc (arrO h p)) zeroO
 have e:(w.alloc (arrO h p)).heap.size=w.heap.size+1:=by simp
 rw [e] at h1
 exact ⟨(at9_new w h p).below (bel1 _ _),h1,bel2 w _ _⟩
def CutA (H:Nat->Prop) (w:World) (a:PA) (e:Ending) (w':World):Prop:=∃ u:V8,e= .returned u.v/\AV H w' a nilS u/\Below w.heap.size w w'
theorem cutA_num {H H1:Nat->Prop}{w:World}{s l:List Nat}{h:Sl}{p:V8} (g:AV H1 w (.nums s l) h p) (hl:l.length<=1000000) (j:Nat) (hj:j < l.length) (z1 z2:Int) (e1:z1=(j:Int)) (e2:z2=((j+1:Nat):Int)) (W:World) (hb:Below w.heap.size w W) (hH:∀ b,H b->b < W.heap.size) (hs:∀ b,b < w.heap.size->H b->H1 b) :
  Calls Tryz.prog 81 #[p.v,.int .i64 z1,.int .i64 z2] W (CutA H W (.nums [] [l.getD j 0])):=by
 subst e1
 subst e2
 rcases g.nums with h | ⟨rfl,_⟩
 ·have hk:Keeps H W (NumV p.v p.k l.length (fun j=>l.getD j 0)):=(h.num.sub hs).step hb
  refine (cut_num H p l.length j (j+1) (fun j=>l.getD j 0) W hH hl (Nat.le_succ j) hj hk).mono ?_
  rintro e w' ⟨k,b,bn,s',i,f,c,x,rfl,hk2,hb2⟩
  rw [show j+1 - j=1 by omega] at hk2
  have h2:=numZ_of (hk2.imp fun W h=>(.inl h:TwT 1 (fun j'=>l.getD (j+j') 0) (vecW k b bn s' i f c x) W))
  refine ⟨⟨k,b,bn,s',i,f,c,x⟩,rfl,?_,hb2⟩
  rw [AV]
  exact ⟨shV_nil _ _,h2⟩
 ·exact absurd hj (Nat.not_lt_zero _)
theorem cutA_chr {H H1:Nat->Prop}{w:World}{s:List Nat}{l:List Int}{h:Sl}{p:V8} (g:AV H1 w (.chars s l) h p) (hl:l.length<=1000000) (j:Nat) (hj:j < l.length) (z1 z2:Int) (e1:z1=(j:Int)) (e2:z2=((j+1:Nat):Int)) (W:World) (hb:Below w.heap.size w W) (hH:∀ b,H b->b < W.heap.size) :
  Calls Tryz.prog 81 #[p.v,.int .i64 z1,.int .i64 z2] W (CutA H W (.chars [] [l.getD j 0])):=by
 subst e1
 subst e2
 obtain ⟨c,rfl,hr⟩:=g.chars
 refine (cut_chr H c l j (j+1) W hH hl (Nat.le_succ j) hj (Keeps.lat hr (Lat.below hb)).now).mono ?_
 rintro e w' ⟨k,b,bn,s',i,f,c',x,rfl,hk2,hb2⟩
 rw [show j+1 - j=1 by omega] at hk2
 obtain ⟨c2,ec,_⟩:=hk2.now
 have hk3:RdH H w' (sv c2) ([l.getD j 0].map (Value.int .i32)):=hk2.imp fun W h=>by
  obtain ⟨c3,e3,h3⟩:=h
  rw [ec] at e3
  have e4:c2=c3:=by
   unfold V8.v vecW vecV at e3
   simp only [Value.agg.injEq,Array.mk.injEq,List.cons.injEq,Value.slice.injEq,true_and,and_true] at e3
   obtain ⟨a2,n2,q2⟩:=c2
   obtain ⟨a3,n3,q3⟩:=c3
   obtain ⟨i1,i2,i3⟩:=e3
   subst i1 i2 i3
   rfl
  rw [e4]
  exact h3
 refine ⟨charsP c2,by rw [ec],?_,hb2⟩
 rw [AV]
 exact ⟨shV_nil _ _,c2,rfl,hk3⟩
theorem part_box {Ha:Nat->Prop}{s:List Nat}{l:List PA}{h:Sl}{p:V8} (w:World) (g:AV Ha w (.boxes s l) h p) (hHa:∀ b,Ha b->b < w.heap.size) (i:Nat) (hib:i<=2000000) (hi:ixP (PA.boxes s l).len i < (PA.boxes s l).len) :
  Calls Tryz.prog 189 #[arrV h p,.int .i64 (i:Int)] w (AaR Ha w (partA (.boxes s l) i)):=by
 have HS0:=Lib.hid (A1.new w h p)
 have HSG:=Lib.hid (single_any (AV.step g HS0.out.bel))
 have HH:=Lib.hid hHa
 have HC:=Lib.hid (fun W (hb:Below w.heap.size w W)=>av_class g W hb)
 have HB:Hid (∀ z:Int,z=(ixP (PA.boxes s l).len i:Nat)->∀ W,Below w.heap.size w W->Calls Tryz.prog 80 #[p.v,.int .i64 z] W (BoxR Ha w W (partA (.boxes s l) i))):=fun z hz W hb=>by
  subst hz
  have hi2:ixP l.length i < l.length:=hi
  have h1:=vbox_any g (ixP l.length i) hi2 W hb
  have e:l[ixP l.length i]=partA (.boxes s l) i:=by
   show _=l.getD _ _
   simp [List.getD,hi2]
  rw [e] at h1
  exact h1
 have hcase:(((PA.boxes s l).len:Int)==1)=true/\ixP (PA.boxes s l).len i=0\/(((PA.boxes s l).len:Int)==1)=false/\ixP (PA.boxes s l).len i=i:=by
  unfold ixP
  by_cases h1:(PA.boxes s l).len=1
  ·exact .inl ⟨by rw [h1];rfl,if_pos h1⟩
  ·exact .inr ⟨by simp;omega,if_neg h1⟩
 rw [show (PA.boxes s l).fill=2 from rfl] at HC
 unfold BoxR at HB
 obtain ⟨pa,hpa⟩:∃ pa,pa=partA (.boxes s l) i:=⟨_,rfl⟩
 rw [<- hpa] at HB ⊢
 generalize (PA.boxes s l).len=n at *
 clear g hHa hpa hi
 unfold AaR
 rcases hcase with ⟨hb1,hix⟩ | ⟨hb1,hix⟩
 ·rw [hb1] at HSG
  rw [hix] at HB
  clear hb1 hix
  have hw1:IntKind.i64.wrap ((i:Int)+1)=(i:Int)+1:=IntWalk.i64_in _ (by omega)
  go_enter Tryz.func189,Tryz.ntmps189
  obtain ⟨h0,h1,h2,h3,h4,h5,h6,h7,h8⟩:=HS0.out.one.c
  go_wp2_with fail
  refine HSG.out.mono ?_
  rintro e w1 ⟨rfl,hb⟩
  have HS1:=Lib.hid (HS0.out.step hb)
  clear hb h0 h1 h2 h3 h4 h5 h6 h7 h8 HS0 HSG
  obtain ⟨h0,h1,h2,h3,h4,h5,h6,h7,h8⟩:=HS1.out.one.c
  go_wp2_with fail
  refine (HC.out _ HS1.out.bel).mono ?_
  rintro e w2 ⟨rfl,hb⟩
  have HS2:=Lib.hid (HS1.out.step hb)
  clear hb h0 h1 h2 h3 h4 h5 h6 h7 h8 HS1
  obtain ⟨h0,h1,h2,h3,h4,h5,h6,h7,h8⟩:=HS2.out.one.c
  go_wp2_with fail
  refine (HB.out 0 (by simp) _ HS2.out.bel).mono ?_
  rintro e w3 ⟨h',p',rfl,hav,hb⟩
  have HS3:=Lib.hid (HS2.out.step hb)
  have HAV:Hid (AV Ha (set9 w3 (w.heap.size+1) (sv h') (.int .i64 p'.k) (sv p'.b) (.int .i64 p'.bn) (sv p'.s) (sv p'.i) (sv p'.f) (sv p'.c) (sv p'.x)) pa h' p'):=AV.step hav (below_set9 HS3.out.bel (Nat.le_succ _) _ _ _ _ _ _ _ _ _)
  clear hav hb h0 h1 h2 h3 h4 h5 h6 h7 h8 HS2
  obtain ⟨⟨y0,y1,y2,y3,y4,y5,y6,y7,y8⟩,yz⟩:=zero_block HS3.out.res
  go_wp2
  refine bodyPost_ret (v:=arrV h' p') ?_ rfl ⟨h',p',rfl,HAV.out,below_set9 HS3.out.bel (Nat.le_succ _) _ _ _ _ _ _ _ _ _⟩
  exact ret_arr (fn:=Tryz.f189) (p:=4) rfl _ _ (w.heap.size+1) (by rfl) (set9_block HS3.out.res _ _ _ _ _ _ _ _ _)
 ·rw [hb1] at HSG
  rw [hix] at HB
  clear hb1 hix
  have hw1:IntKind.i64.wrap ((i:Int)+1)=(i:Int)+1:=IntWalk.i64_in _ (by omega)
  go_enter Tryz.func189,Tryz.ntmps189
  obtain ⟨h0,h1,h2,h3,h4,h5,h6,h7,h8⟩:=HS0.out.one.c
  go_wp2_with fail
  refine HSG.out.mono ?_
  rintro e w1 ⟨rfl,hb⟩
  have HS1:=Lib.hid (HS0.out.step hb)
  clear hb h0 h1 h2 h3 h4 h5 h6 h7 h8 HS0 HSG
  obtain ⟨h0,h1,h2,h3,h4,h5,h6,h7,h8⟩:=HS1.out.one.c
  go_wp2_with fail
  refine (HC.out _ HS1.out.bel).mono ?_
  rintro e w2 ⟨rfl,hb⟩
  have HS2:=Lib.hid (HS1.out.step hb)
  clear hb h0 h1 h2 h3 h4 h5 h6 h7 h8 HS1
  obtain ⟨h0,h1,h2,h3,h4,h5,h6,h7,h8⟩:=HS2.out.one.c
  go_wp2_with fail
  refine (HB.out (i:Int) (by simp) _ HS2.out.bel).mono ?_
  rintro e w3 ⟨h',p',rfl,hav,hb⟩
  have HS3:=Lib.hid (HS2.out.step hb)
  have HAV:Hid (AV Ha (set9 w3 (w.heap.size+1) (sv h') (.int .i64 p'.k) (sv p'.b) (.int .i64 p'.bn) (sv p'.s) (sv p'.i) (sv p'.f) (sv p'.c) (sv p'.x)) pa h' p'):=AV.step hav (below_set9 HS3.out.bel (Nat.le_succ _) _ _ _ _ _ _ _ _ _)
  clear hav hb h0 h1 h2 h3 h4 h5 h6 h7 h8 HS2
  obtain ⟨⟨y0,y1,y2,y3,y4,y5,y6,y7,y8⟩,yz⟩:=zero_block HS3.out.res
  go_wp2
  refine bodyPost_ret (v:=arrV h' p') ?_ rfl ⟨h',p',rfl,HAV.out,below_set9 HS3.out.bel (Nat.le_succ _) _ _ _ _ _ _ _ _ _⟩
  exact ret_arr (fn:=Tryz.f189) (p:=4) rfl _ _ (w.heap.size+1) (by rfl) (set9_block HS3.out.res _ _ _ _ _ _ _ _ _)
theorem part_flat {Ha:Nat->Prop}{a:PA}{h:Sl}{p:V8} (w:World) (g:AV Ha w a h p) (hHa:∀ b,Ha b->b < w.heap.size) (i:Nat) (hib:i<=2000000) (z:Int) (hz:z≠2) (hc:ClsV w p z a.len) (pa:PA) (hpa:partA a i=pa)
  (hcut:∀ (H:Nat->Prop) (W:World) (z1 z2:Int),z1=(ixP a.len i:Nat)->z2=((ixP a.len i+1:Nat):Int)->Below w.heap.size w W->(∀ b,H b->b < W.heap.size)->(∀ b,b < w.heap.size->H b->Ha b)->Calls Tryz.prog 81 #[p.v,.int .i64 z1,.int .i64 z2] W (CutA H W pa)) :
  Calls Tryz.prog 189 #[arrV h p,.int .i64 (i:Int)] w (AaR Ha w (partA a i)):=by
 have HS0:=Lib.hid (A1.new w h p)
 have HSG:=Lib.hid (single_any (AV.step g HS0.out.bel))
 have HH:=Lib.hid hHa
 have HC:=Lib.hid hc.cls
 have HB:=Lib.hid hcut
 have z2:(z==2)=false:=by simpa using hz
 have hcase:((a.len:Int)==1)=true/\ixP a.len i=0\/((a.len:Int)==1)=false/\ixP a.len i=i:=by
  unfold ixP
  by_cases h1:a.len=1
  ·exact .inl ⟨by rw [h1];rfl,if_pos h1⟩
  ·exact .inr ⟨by simp;omega,if_neg h1⟩
 unfold CutA at HB
 rw [hpa]
 generalize a.len=n at *
 clear g hHa hz hc hcut hpa
 unfold AaR
 rcases hcase with ⟨hb1,hix⟩ | ⟨hb1,hix⟩
 ·rw [hb1] at HSG
  rw [hix] at HB
  clear hb1 hix
  have hw1:IntKind.i64.wrap ((i:Int)+1)=(i:Int)+1:=IntWalk.i64_in _ (by omega)
  go_enter Tryz.func189,Tryz.ntmps189
  obtain ⟨h0,h1,h2,h3,h4,h5,h6,h7,h8⟩:=HS0.out.one.c
  go_wp2_with fail
  refine HSG.out.mono ?_
  rintro e w1 ⟨rfl,hb⟩
  have HS1:=Lib.hid (HS0.out.step hb)
  clear hb h0 h1 h2 h3 h4 h5 h6 h7 h8 HS0 HSG
  obtain ⟨h0,h1,h2,h3,h4,h5,h6,h7,h8⟩:=HS1.out.one.c
  go_wp2_with fail
  refine (HC.out _ HS1.out.bel).mono ?_
  rintro e w2 ⟨rfl,hb⟩
  have HS2:=Lib.hid (HS1.out.step hb)
  clear hb h0 h1 h2 h3 h4 h5 h6 h7 h8 HS1
  obtain ⟨h0,h1,h2,h3,h4,h5,h6,h7,h8⟩:=HS2.out.one.c
  go_wp2_with fail
  refine (HB.out (fun b=>Ha b\/b=w.heap.size+1) _ 0 1 (by simp) (by simp) HS2.out.bel (fun b e=>by
   have h9:=HS2.out.sz
   rcases e with e | e
   ·have:=HH.out b e;omega
   ·omega) (fun b hb9 e=>by
   rcases e with e | e
   ·exact e
   ·omega)).mono ?_
  rintro e w3 ⟨p',rfl,hav,hb⟩
  have HS3:=Lib.hid (HS2.out.step hb)
  have HAV:Hid (AV Ha (set9 w3 (w.heap.size+1) (sv nilS) (.int .i64 p'.k) (sv p'.b) (.int .i64 p'.bn) (sv p'.s) (sv p'.i) (sv p'.f) (sv p'.c) (sv p'.x)) pa nilS p'):=AV.sub (fun b _ e => .inl e) (AV.lat (Lat.set9 (G:=w.heap.size+1) (.inr rfl) _ _ _ _ _ _ _ _ _) hav)
  clear hav hb h0 h1 h2 h3 h4 h5 h6 h7 h8 HS2
  obtain ⟨⟨y0,y1,y2,y3,y4,y5,y6,y7,y8⟩,yz⟩:=zero_block HS3.out.res
  go_wp2
  refine bodyPost_ret (v:=arrV nilS p') ?_ rfl ⟨nilS,p',rfl,HAV.out,below_set9 HS3.out.bel (Nat.le_succ _) _ _ _ _ _ _ _ _ _⟩
  exact ret_arr (fn:=Tryz.f189) (p:=4) rfl _ _ (w.heap.size+1) (by rfl) (set9_block HS3.out.res _ _ _ _ _ _ _ _ _)
 ·rw [hb1] at HSG
  rw [hix] at HB
  clear hb1 hix
  have hw1:IntKind.i64.wrap ((i:Int)+1)=(i:Int)+1:=IntWalk.i64_in _ (by omega)
  go_enter Tryz.func189,Tryz.ntmps189
  obtain ⟨h0,h1,h2,h3,h4,h5,h6,h7,h8⟩:=HS0.out.one.c
  go_wp2_with fail
  refine HSG.out.mono ?_
  rintro e w1 ⟨rfl,hb⟩
  have HS1:=Lib.hid (HS0.out.step hb)
  clear hb h0 h1 h2 h3 h4 h5 h6 h7 h8 HS0 HSG
  obtain ⟨h0,h1,h2,h3,h4,h5,h6,h7,h8⟩:=HS1.out.one.c
  go_wp2_with fail
  refine (HC.out _ HS1.out.bel).mono ?_
  rintro e w2 ⟨rfl,hb⟩
  have HS2:=Lib.hid (HS1.out.step hb)
  clear hb h0 h1 h2 h3 h4 h5 h6 h7 h8 HS1
  obtain ⟨h0,h1,h2,h3,h4,h5,h6,h7,h8⟩:=HS2.out.one.c
  go_wp2_with fail
  refine (HB.out (fun b=>Ha b\/b=w.heap.size+1) _ (i:Int) ((i:Int)+1) (by simp) (by simp) HS2.out.bel (fun b e=>by
   have h9:=HS2.out.sz
   rcases e with e | e
   ·have:=HH.out b e;omega
   ·omega) (fun b hb9 e=>by
   rcases e with e | e
   ·exact e
   ·omega)).mono ?_
  rintro e w3 ⟨p',rfl,hav,hb⟩
  have HS3:=Lib.hid (HS2.out.step hb)
  have HAV:Hid (AV Ha (set9 w3 (w.heap.size+1) (sv nilS) (.int .i64 p'.k) (sv p'.b) (.int .i64 p'.bn) (sv p'.s) (sv p'.i) (sv p'.f) (sv p'.c) (sv p'.x)) pa nilS p'):=AV.sub (fun b _ e => .inl e) (AV.lat (Lat.set9 (G:=w.heap.size+1) (.inr rfl) _ _ _ _ _ _ _ _ _) hav)
  clear hav hb h0 h1 h2 h3 h4 h5 h6 h7 h8 HS2
  obtain ⟨⟨y0,y1,y2,y3,y4,y5,y6,y7,y8⟩,yz⟩:=zero_block HS3.out.res
  go_wp2
  refine bodyPost_ret (v:=arrV nilS p') ?_ rfl ⟨nilS,p',rfl,HAV.out,below_set9 HS3.out.bel (Nat.le_succ _) _ _ _ _ _ _ _ _ _⟩
  exact ret_arr (fn:=Tryz.f189) (p:=4) rfl _ _ (w.heap.size+1) (by rfl) (set9_block HS3.out.res _ _ _ _ _ _ _ _ _)
theorem part_any {Ha:Nat->Prop}{a:PA}{h:Sl}{p:V8} (w:World) (g:AV Ha w a h p) (hHa:∀ b,Ha b->b < w.heap.size) (i:Nat) (hib:i<=2000000) (hi:ixP a.len i < a.len) (hl:a.len<=1000000) :
  Calls Tryz.prog 189 #[arrV h p,.int .i64 (i:Int)] w (AaR Ha w (partA a i)):=by
 cases a with
 | boxes s l=>exact part_box w g hHa i hib hi
 | nums s l=>exact part_flat w g hHa i hib 0 (by decide) (clsV_av g) _ rfl fun H W z1 z2 e1 e2 hb hH hs=>cutA_num g hl _ hi z1 z2 e1 e2 W hb hH hs
 | chars s l=>exact part_flat w g hHa i hib 1 (by decide) (clsV_av g) _ rfl fun H W z1 z2 e1 e2 hb hH _=>cutA_chr g hl _ hi z1 z2 e1 e2 W hb hH
end Go.Proofs.YtiahegjdkejjpaaGreatDoor
