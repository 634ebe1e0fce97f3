/- The walk of value.of over good plain arrays of fill 2. value.of, value.Of and rebuslaw07.Of of good plain arrays. A region that draws its order, whose .. Conditions: as each theorem says. -/
import Derived.Test.YtdelgpelkfndeaaGreatDoorMgA
import Derived.Test.YtdelgpelkfndeaaGreatDoorMg10
import Derived.BigQuiet
import Derived.Test.YtdelgpelkfndeaaGreatDoorMg07
import Derived.Test.YtdelgpelkfndeaaGreatDoorMg06
import Derived.Test.YtdelgpelkfndeaaGreatDoorMg03
import Derived.Test.YtdelgpelkfndeaaGreatDoorMg02
set_option maxRecDepth 100000
set_option maxHeartbeats 4000000
namespace Go.Proofs.YtdelgpelkfndeaaGreatDoor
open Go Go.RowKit Go.Proofs Fl
theorem of_2 (H:Nat->Prop) (d:Nat) (hd:d<=40) (hIH:∀ (H:Nat->Prop) (t:RP) (h x:Sl) (f:Int) (w:World),(∀ b,H b->b < w.heap.size)->OkP d t->cntP t<=1000000->PV H w t h x f->Calls Tryz.prog 69 #[plV h x f,.int .i64 (d:Int)] w (AvR H w (clP t))) (sn:List Nat) (items:List RI) (h x:Sl) (w:World) (hH:∀ b,H b->b < w.heap.size) (hok:OkIs (d+1) 2 items) (hsn:OkSh sn items.length) (hM:cntP (.mk (sn.map Int.ofNat) items 2)<=1000000) (hr:PV H w (.mk (sn.map Int.ofNat) items 2) h x 2) :
  Calls Tryz.prog 69 #[plV h x 2,.int .i64 ((d+1:Nat):Int)] w (AvR H w (clP (.mk (sn.map Int.ofNat) items 2))):=by
 obtain ⟨hsr,_,hx,hit⟩:=hr.open_
 obtain ⟨A,m,cc⟩:=x
 dsimp only at hx hit
 have hsz:cntP (.mk (sn.map Int.ofNat) items 2)=items.length+(sn.map Int.ofNat).length+1+QaH items:=by rw [cntP]
 rw [hsz,List.length_map] at hM
 have hsh:ShV H w h sn:=by rw [List.map_map] at hsr;exact hsr
 have HK:=hD hit
 have HMI:=hD hx
 have HSH:=hD hsh
 have hmb:m<=1000000:=by omega
 have HOKI:Hid (∀ i (hi:i < items.length),OkI (d+1) 2 items[i]):=fun i hi=>QcK hi hok
 have hpe:QbX sn 1048576=((m:Int),0):=by rw [hx];exact QdE hsn (by omega)
 have HPR:Hid (∀ W,Below w.heap.size w W->Calls Tryz.prog 119 #[sv h,.int .i64 1048576] W fun e w'=>e= .returned (.tuple #[.int .i64 (m:Int),.int .i64 0])/\W=w'):=fun W hb=>by
  have h1:=Qcy (sv h) sn 1048576 W (hsh.step hb).now (by omega)
  rw [hpe] at h1
  exact h1
 have HI0:=hD (OfI.new w h (A,m,cc) 2)
 obtain ⟨z,hz⟩:∃ z:Int,z=((d+1:Nat):Int):=⟨_,rfl⟩
 rw [<- hz]
 have hz0:(z==0)=false:=by simp;omega
 have hne:((m:Int) != (m:Int))=false:=by simp
 have HLN:Hid (sn.length<=1048576):=by unfold Hid;omega
 have HIH:=hD hIH
 have hz1:z - 1=(d:Int):=by omega
 have hz2:IntKind.i64.wrap (d:Int)=(d:Int):=IntWalk.i64_in _ (by omega)
 have HCN:Hid (∀ i (hi:i < items.length),cntI items[i]<=1000000):=fun i hi=>by have:=QbF hi;omega
 clear hIH
 clear hz hx hsz hM hit hok hsr hr hsn hpe hsh hd
 go_enter Tryz.func69,Tryz.ntmps69
 obtain ⟨c0,c1,c2⟩:=HI0.out.arg
 dsimp only [sv] at c1
 go_wp2_with fail
 refine (HPR.out _ HI0.out.bel).mono ?_
 rintro e w1 ⟨rfl,rfl⟩
 generalize hW:(w.alloc (.cells #[sv h,.slice A m cc,.int .i64 2] 25)).alloc (.cells Qec 41)=W at *
 clear hW HPR
 go_wp2
 clear c0 c1 c2
 go_loopw [8,10,49] (fun n8 v iv wr=>∃ (i:Nat) (vA:Option Addr) (vn vc:Nat),i<=m/\iv= .int .i64 (i:Int)/\n8= .slice none 0 0/\v= .slice vA vn vc/\AOwn (fun b=>H b\/b=w.heap.size+1) wr (w.heap.size+2) (.slice vA vn vc) ((clIs items).take i)/\OfI w h (A,m,cc) 2 wr) (fun _ _ iv _=>m - (intOf iv).toNat)
 case atStart=>exact ⟨0,none,0,0,Nat.zero_le _,rfl,rfl,rfl,AOwn.nil _ _ _,HI0.out⟩
 case round =>
  obtain ⟨i,vA,vn,vc,hi,rfl,rfl,rfl,hown,hofi⟩:=hrel
  have HOWN:=hD hown
  have HOF:=hD hofi
  obtain ⟨c0,c1,c2⟩:=hofi.arg
  dsimp only [sv] at c1
  clear hown hofi
  by_cases him:i < m
  ·have him2:(i:Int) < (m:Int):=by omega
   have hik:i < items.length:=by have:=HMI.out;omega
   obtain ⟨b,o,k',n',c',y,rfl,-,hiv,hat⟩:=HK.out i hik
   have hic:i < (clIs items).length:=by rw [QbM];exact hik
   have HTK:Hid ((clIs items).take (i+1)=(clIs items).take i++[clI items[i]]):=by unfold Hid;rw [List.take_succ_eq_append_getElem hic,QiO hik hic]
   have HOI:=hD (HOKI.out i hik)
   have HCI:=hD (HCN.out i hik)
   have HLB:Hid (((clIs items).take i).length<=1048576):=by unfold Hid;rw [List.length_take];omega
   generalize items[i]=it at hiv HTK HOI HCI
   cases it with
   | mk kind num char box =>
   obtain ⟨rfl,rfl,rfl,hy,hbx⟩:=hiv.open_
   obtain ⟨yA,ym,yc⟩:=y
   dsimp only at hy hbx
   obtain ⟨d0,d1,d2,d3⟩:=hat wr (Lat.below HOF.out.bel)
   dsimp only [sv] at d3
   have hk0:=HOI.out
   rw [OkI] at hk0
   obtain ⟨rfl,hkn,hkb⟩:=hk0
   obtain ⟨hb1,hbo⟩:=hkb rfl
   have hb0:0 < box.length:=by omega
   obtain ⟨bb,o2,h',y',f',hyA,hnH,hpv,hat3⟩:=hbx 0 hb0
   subst hyA
   obtain rfl:ym=1:=by omega
   have hop:=QhM hb0 hbo
   have hcl:clI (.mk 2 n' c' box)=clP box[0]:=QmC hb0
   have hct:cntP box[0]<=1000000:=by have:=HCI.out;rw [cntI] at this;have:=Qcw hb0;omega
   rw [hcl] at HTK
   have hst:=fun md=>QaK wr 2 0 n' 0 (.slice none 0 0) 63 md
   have g0:=fun o=>Qab c0 o
   have g1:=fun o=>Qab c1 o
   have g2:=fun o=>Qab c2 o
   have HB1:=hD (Qaa HOF.out.bel (bel1 wr (.cells #[.int .i64 2,.float .f64 n',.int .i32 c',.slice (some ⟨bb,o2,none⟩) 1 yc] 63)))
   obtain ⟨t0,t1,t2⟩:=hat3 _ (Lat.below HB1.out)
   simp only [Nat.zero_mul,Nat.add_zero] at t0 t1 t2
   have HIC:=hD (HIH.out (Hole H w (wr.alloc (.cells #[.int .i64 2,.float .f64 n',.int .i32 c',.slice (some ⟨bb,o2,none⟩) 1 yc] 63))) box[0] h' y' f' (wr.alloc (.cells #[.int .i64 2,.float .f64 n',.int .i32 c',.slice (some ⟨bb,o2,none⟩) 1 yc] 63)) (Hole.lt hH HB1.out) hop hct (hpv.arg HB1.out))
   unfold AvR at HIC
   clear hy hbx hat hiv hkn hkb hbo hpv hat3 hop hct hcl hb1 hnH
   generalize box[0]=zt at HIC HTK
   go_wp2_with fail
   refine HIC.out.mono ?_
   rintro e w2 ⟨h2,p2,rfl,hav,hb2⟩
   have hwsz:w.heap.size+2<=wr.heap.size:=HOF.out.sz
   have HWW:=hD (Qaa (bel1 wr (.cells #[.int .i64 2,.float .f64 n',.int .i32 c',.slice (some ⟨bb,o2,none⟩) 1 yc] 63)) hb2)
   have HW4:=hD (Qaa HWW.out (bel1 w2 (arrO h2 p2)))
   have HW1:=hD (HOF.out.step HW4.out)
   have HO1:=hD (HOWN.out.below HW4.out)
   have HAV:Hid (AV (fun b=>(H b\/b=w.heap.size+1)\/(Value.slice vA vn vc).ownBlock=some b) (w2.alloc (arrO h2 p2)) (clP zt) h2 p2):=AV.sub (fun b hb e=>by
    rcases e with (e | e) | e
    ·exact .inl e
    ·exact .inr ⟨by omega,by simp;omega⟩
    ·have h9:=HOWN.out.own_lt e
     exact .inr ⟨by omega,by simp;omega⟩) (hav.step (bel1 w2 (arrO h2 p2)))
   have HGG:Hid (w2.heap.size+1=(w2.alloc (arrO h2 p2)).heap.size):=by unfold Hid;simp
   have HSZ:Hid (w.heap.size+2<=(w2.alloc (arrO h2 p2)).heap.size):=HW1.out.sz
   clear hav hb2 HIC
   go_wp2_with (at_builtin;refine QgV rfl (.tmp 96) (.tmp 98) rfl (fun b=>H b\/b=w.heap.size+1) (w.heap.size+2) (.slice vA vn vc) ((clIs items).take i) rfl HO1.out h2 p2 (clP zt) HAV.out (w2.heap.size+1) HGG.out rfl HLB.out HSZ.out ?_;intro v' w' hown' hbw;(obtain ⟨vA',vn',vc',hvn'⟩:∃ A n c,v'= .slice A n c:=by (obtain ⟨a,c,e⟩:=hown'.len;exact ⟨a,_,c,e⟩));subst hvn';have HV:=hD hown';have HOF2:=hD (HW1.out.more (hbw _ (Below.refl _ _)));clear hown' hbw)
   go_roundw
   case rel=>exact ⟨i+1,vA',vn',vc',by omega,by go_num,rfl,rfl,by rw [HTK.out];exact HV.out,HOF2.out⟩
   case measure=>simp [intOf];omega
  ·have hge:¬ (i:Int) < (m:Int):=by omega
   obtain rfl:i=m:=by omega
   have HTL:Hid ((clIs items).take i=clIs items):=by unfold Hid;rw [HMI.out,<- QbM items];exact List.take_length
   rw [HTL.out] at HOWN
   obtain ⟨xs,hxs,hasl⟩:=HOWN.out.asl (fun b e=>by
    have h1:=HOF.out.sz
    rcases e with e | e
    ·have:=hH b e;omega
    ·omega)
   obtain ⟨sA,sn',sc⟩:=xs
   have h9:Value.slice vA vn vc= .slice sA sn' sc:=hxs
   injection h9 with h10 h11 h12
   subst h10;subst h11;subst h12
   have HRD:=hD hasl
   clear hasl hxs
   have HN:=hD (Qdi (fun b=>H b\/b=w.heap.size+1) (.slice none 0 0) 0 (fun _=>0) wr (fun b e=>by
    have h1:=HOF.out.sz
    rcases e with e | e
    ·have:=hH b e;omega
    ·omega) (.inl ⟨none,0,rfl,rfl⟩) (by omega) (fun j hj=>by omega) (fun j hj=>by omega))
   unfold QkD at HN
   go_wp2_with fail
   refine HN.out.mono ?_
   rintro e w2 ⟨k4,b4,bn4,s4,i4,f4,c4,x4,rfl,-,hb2⟩
   obtain ⟨y0,y1,y2⟩:=(HOF.out.step hb2).arg
   have gy2:=fun o=>Qab y2 o
   have HB2:=hD hb2
   have HCH:Hid (∀ o:Obj,Calls Tryz.prog 121 #[.slice vA vn vc] (w2.alloc o) (BxR (fun b=>(H b\/b=w.heap.size+1)\/b=w2.heap.size) (w2.alloc o) (clIs items))):=fun o=>QmK (x:=(vA,vn,vc)) ((HRD.out.step hb2).sub (fun b hb e=>by
    rcases e with e | e
    ·exact e
    ·omega) |>.step (bel1 w2 o)) (by rw [QbM,<- HMI.out];omega) (fun b e=>by
    have h1:=(HOF.out.step hb2).sz
    rcases e with (e | e) | e
    ·have:=hH b e;simp;omega
    ·simp;omega
    ·simp;omega)
   unfold BxR at HCH
   clear hb2 c0 c1 c2 HN
   go_wp2_with fail
   refine (HCH.out _).mono ?_
   rintro e w3 ⟨⟨uA,un,uc⟩,rfl,hou,hb3⟩
   dsimp only [sv]
   have HK3:=hD (Qar hb3)
   obtain ⟨⟨b0,b1,b2,b3,b4',b5,b6,b7⟩,bz⟩:=Qag HK3.out
   have HB3a:=hD (Qaa HB2.out (Qaa (bel1 w2 _) hb3))
   have hlt3:=lt_blk HK3.out
   have HOU:=hD hou
   have hww2:wr.heap.size<=w2.heap.size:=HB2.out.size
   clear hou hb3 gy2 y0 y1 y2
   obtain ⟨W3,hW3⟩:∃ W3,W3=set8 w3 w2.heap.size (.int .i64 6) vnil (.int .i64 0) vnil vnil vnil vnil (.slice uA un uc):=⟨_,rfl⟩
   have HBS:Hid (Below wr.heap.size wr W3):=by unfold Hid;rw [hW3];exact Qac HB3a.out hww2 _ _ _ _ _ _ _ _
   have HOF3:=hD (HOF.out.step HBS.out)
   have HBP:Hid (Boxed W3 w2.heap.size 6 vnil 0 vnil vnil vnil vnil (.slice uA un uc)):=by unfold Hid;rw [hW3];exact (Qag (Qad HK3.out _ _ _ _ _ _ _ _)).1
   have hwsz:w.heap.size+2<=wr.heap.size:=HOF.out.sz
   have HKV:Hid (ASl (fun b=>H b\/b=w.heap.size+1) W3 (uA,un,uc) (clIs items)):=by
    unfold Hid
    rw [hW3]
    exact ASl.sub (fun _ _ e => .inl e) (ASl.lat (Lat.set8 (G:=w2.heap.size) (.inr rfl) _ _ _ _ _ _ _ _) HOU.out)
   have HH1:Hid (∀ W:World,W3.heap.size<=W.heap.size->∀ b,(H b\/b=w.heap.size+1)->b < W.heap.size):=fun W hW b e=>by
    have h1:=OfI.sz (Hid.out HOF3)
    rcases e with e | e
    ·have:=hH b e;omega
    ·omega
   have HSH1:Hid (∀ W:World,Below W3.heap.size W3 W->ShV (fun b=>H b\/b=w.heap.size+1) W h sn):=fun W hb=>Keeps.lat (Keeps.lat (Keeps.sub HSH.out (fun b hb e=>by
    rcases e with e | e
    ·exact e
    ·omega)) (Lat.below HOF3.out.bel)) (Lat.below hb)
   have HCL:=hD (fun W (hb:Below W3.heap.size W3 W)=>QeK (HSH1.out W hb) HLN.out (HH1.out W hb.size))
   obtain ⟨a0,a1,a2⟩:=HOF3.out.arg
   rw [hW3] at a2
   dsimp only [set8] at hW3 a2
   clear a0 a1
   go_wp2
   rw [<- hW3]
   obtain ⟨a0,a1,a2'⟩:=HOF3.out.arg
   obtain ⟨⟨z0,z1,z2,z3,z4,z5,z6,z7,z8⟩,zz⟩:=Qam HOF3.out.res
   obtain ⟨p0,p1,p2,p3,p4,p5,p6,p7⟩:=HBP.out
   clear hW3 a2 b0 b1 b2 b3 b4' b5 b6 b7 bz HCH HB3a
   go_region_with (go_at_call 107;((with_reducible refine (HCL.out _ ?_).mono ?_);(repeat (first | with_reducible assumption | with_reducible exact Below.refl _ _ | with_reducible refine Below.drew ?_));rintro e wa ⟨cA,cn,ccc,rfl,hsh,hba⟩);have HBa:=hD (Qaa (show Below W3.heap.size W3 W3.drew from (Below.refl _ _).drew) hba);have HOFa:=hD (HOF3.out.step HBa.out);(obtain ⟨⟨y0,y1,y2,y3,y4,y5,y6,y7,y8⟩,yy⟩:=Qam HOFa.out.res);(obtain ⟨q0,q1,q2,q3,q4,q5,q6,q7⟩:=(show Boxed wa w2.heap.size 6 vnil 0 vnil vnil vnil vnil (.slice uA un uc) from HBP.out.below HBa.out));have HSHa:=hD hsh;clear hba hsh)
   all_goals
    go_wp2
    refine bodyPost_ret (v := .tuple #[arrV (cA,cn,ccc) (QdB (uA,un,uc)),.int .i64 0]) ?_ rfl ⟨(cA,cn,ccc),QdB (uA,un,uc),rfl,Qpq (Keeps.sub (Keeps.lat HSHa.out (Lat.set9 (G:=w.heap.size+1) (.inr rfl) _ _ _ _ _ _ _ _ _)) (fun _ _ e => .inl e)) (ASl.sub (fun _ _ e => .inl e) (ASl.lat (Lat.set9 (G:=w.heap.size+1) (.inr rfl) _ _ _ _ _ _ _ _ _) (ASl.lat (Lat.below HBa.out) HKV.out))),Qal HOFa.out.bel (Nat.le_succ _) _ _ _ _ _ _ _ _ _⟩
    exact QaQ (fn:=Tryz.f69) (p:=4) (u:=5) rfl _ _ (w.heap.size+1) (by rfl) (Qat HOFa.out.res _ _ _ _ _ _ _ _ _)
theorem Qj6:∀ (d:Nat) (H:Nat->Prop) (t:RP) (h x:Sl) (f:Int) (w:World),d<=40->(∀ b,H b->b < w.heap.size)->OkP d t->cntP t<=1000000->PV H w t h x f ->
  Calls Tryz.prog 69 #[plV h x f,.int .i64 (d:Int)] w (AvR H w (clP t))
 | 0,_,.mk s items fill,_,_,_,_,_,_,hok,_,_=>by rw [OkP] at hok;exact absurd hok.1 (Nat.lt_irrefl _)
 | d+1,H,.mk s items fill,h,x,f,w,hd,hH,hok,hM,hr=>by
  obtain ⟨_,rfl,_,_⟩:=hr.open_
  rw [OkP] at hok
  obtain ⟨_,hf,⟨sn,rfl,hs⟩,hi⟩:=hok
  rcases hf with rfl | rfl | rfl
  ·exact of_0 H d (by omega) sn items h x w hH hi hs hM hr
  ·exact of_1 H d (by omega) sn items h x w hH hi hs hM hr
  ·exact of_2 H d (by omega) (fun H t h x f w h0 h1 h2 h3=>Qj6 d H t h x f w (by omega) h0 h1 h2 h3) sn items h x w hH hi hs hM hr
theorem QrI (H:Nat->Prop) (t:RP) (h x:Sl) (f:Int) (w:World) (hH:∀ b,H b->b < w.heap.size) (hok:OkP 40 t) (hM:cntP t<=1000000) (hr:PV H w t h x f) :
  Calls Tryz.prog 36 #[plV h x f] w (AvR H w (clP t)):=by
 have HI0:=hD (OfI.new w h x f)
 have HC:=hD (Qj6 40 (Hole H w ((w.alloc (.cells #[sv h,sv x,.int .i64 f] 25)).alloc (.cells Qec 41))) t h x f _ (Nat.le_refl _) (Hole.lt hH HI0.out.bel) hok hM (hr.arg HI0.out.bel))
 unfold AvR at HC
 have HH:=hD hH
 clear hok hM hr hH
 go_enter Tryz.func36,Tryz.ntmps36
 obtain ⟨c0,c1,c2⟩:=HI0.out.arg
 go_wp2_with fail
 refine HC.out.mono ?_
 rintro e w1 ⟨h',p,rfl,hav,hb⟩
 have HOF:=hD (HI0.out.step hb)
 have HAV:=hD hav
 have hlt:w.heap.size+1 < ((w.alloc (.cells #[sv h,sv x,.int .i64 f] 25)).alloc (.cells Qec 41)).heap.size:=lt_blk HI0.out.res
 have HLT:=hD hlt
 obtain ⟨⟨z0,z1,z2,z3,z4,z5,z6,z7,z8⟩,zz⟩:=Qam HOF.out.res
 clear hb hav hlt c0 c1 c2
 go_wp2
 refine bodyPost_ret (v := .tuple #[arrV h' p,.int .i64 0]) ?_ rfl ⟨h',p,rfl,AV.sub (fun b _ e => .inl e) (AV.lat (Lat.set9 (G:=w.heap.size+1) (.inr ⟨by omega,HLT.out⟩) _ _ _ _ _ _ _ _ _) HAV.out),Qal HOF.out.bel (Nat.le_succ _) _ _ _ _ _ _ _ _ _⟩
 exact QaQ (fn:=Tryz.f36) (p:=2) (u:=3) rfl _ _ (w.heap.size+1) (by rfl) (Qat HOF.out.res _ _ _ _ _ _ _ _ _)
theorem QaJ {W:World}{G:Nat}{o:Obj} (h:W.heap[G]?=some o) (o':Obj):(W.alloc o').heap[G]?=some o:=by
 rw [(bel1 W o').block G (lt_blk h)];exact h
def AaR (H:Nat->Prop) (w:World) (a:PA) (e:Ending) (w':World):Prop:=∃ h p,e= .returned (arrV h p)/\AV H w' a h p/\Below w.heap.size w w'
theorem Qfm (H:Nat->Prop) (t:RP) (h x:Sl) (f:Int) (w:World) (hH:∀ b,H b->b < w.heap.size) (hok:OkP 40 t) (hM:cntP t<=1000000) (hr:PV H w t h x f) :
  Calls Tryz.prog 9 #[plV h x f] w (AaR H w (clP t)):=by
 have HI0:=hD (OfI.new w h x f)
 have HC:=hD (QrI (Hole H w ((w.alloc (.cells #[sv h,sv x,.int .i64 f] 25)).alloc (.cells Qec 41))) t h x f _ (Hole.lt hH HI0.out.bel) hok hM (hr.arg HI0.out.bel))
 unfold AvR at HC
 have HH:=hD hH
 clear hok hM hr hH
 go_enter Tryz.func9,Tryz.ntmps9
 obtain ⟨c0,c1,c2⟩:=HI0.out.arg
 go_wp2_with fail
 refine HC.out.mono ?_
 rintro e w1 ⟨h',p,rfl,hav,hb⟩
 have HOF:=hD (HI0.out.step hb)
 have HAV:=hD hav
 have hlt:w.heap.size+1 < ((w.alloc (.cells #[sv h,sv x,.int .i64 f] 25)).alloc (.cells Qec 41)).heap.size:=lt_blk HI0.out.res
 have HLT:=hD hlt
 obtain ⟨⟨y0,y1,y2,y3,y4,y5,y6,y7,y8⟩,yz⟩:=Qam HOF.out.res
 have hl1:w.heap.size+1 < w1.heap.size:=lt_blk HOF.out.res
 have b0:=fun o=>Qab y0 o
 have b1:=fun o=>Qab y1 o
 have b2:=fun o=>Qab y2 o
 have b3:=fun o=>Qab y3 o
 have b4:=fun o=>Qab y4 o
 have b5:=fun o=>Qab y5 o
 have b6:=fun o=>Qab y6 o
 have b7:=fun o=>Qab y7 o
 have b8:=fun o=>Qab y8 o
 have u0:=fun (j:Nat) o=>QaN (j:=0) y0 yz o
 have u1:=fun o=>QaN y1 yz o
 have u2:=fun o=>QaN y2 yz o
 have u3:=fun o=>QaN y3 yz o
 have u4:=fun o=>QaN y4 yz o
 have u5:=fun o=>QaN y5 yz o
 have u6:=fun o=>QaN y6 yz o
 have u7:=fun o=>QaN y7 yz o
 have u8:=fun o=>QaN y8 yz o
 have u00:=fun o=>QaN y0 yz o
 clear hb hav hlt c0 c1 c2 u0
 go_wp2
 refine bodyPost_ret (v:=arrV h' p) ?_ rfl ⟨h',p,rfl,AV.sub (fun b _ e => .inl e) (AV.step (AV.lat (Lat.set9 (G:=w.heap.size+1) (.inr ⟨by omega,HLT.out⟩) _ _ _ _ _ _ _ _ _) HAV.out) (bel1 _ _)),Qaa (Qal HOF.out.bel (Nat.le_succ _) _ _ _ _ _ _ _ _ _) (bel1 _ _)⟩
 exact Qfg (fn:=Tryz.f9) (p:=2) rfl _ _ (w.heap.size+1) (by rfl) (QaJ (Qat HOF.out.res _ _ _ _ _ _ _ _ _) _)
structure LatW (w:World) where
 W:World
 h:Below w.heap.size w W
instance latW_some (w:World):Nonempty (LatW w):=⟨⟨w,Below.refl _ _⟩⟩
theorem LatW.cell {w:World}{g:Nat} (hg:g < w.heap.size):∀ (n:LatW w) (o:Nat),n.W.cell? ⟨g,o,none⟩=w.cell? ⟨g,o,none⟩:=fun n _=>n.h.cell (p:=⟨g,_,none⟩) hg
theorem QaA {P:Program}{id:Nat}{Q:Exit->Act->World->Prop}{a:Act}{w:World}{l:List Oper} (hm:P.follows .mixedOrders=true) (hB:Region.lexB .any l.toArray=true)
  (h:wpQuiet P l.toArray (fun w'=>∃ n:LatW w,w'=n.W) (fun a'=>∀ w',(∃ n:LatW w,w'=n.W)->Q .normal a' w') l a):(Code.region id l.toArray true).wp P Q a w :=
 wp_region_quiet (C:=fun w'=>∃ n:LatW w,w'=n.W) hm hB ⟨⟨w.drew,(Below.refl _ w).drew⟩,rfl⟩ (by simpa using h)
theorem QaM {P:Program}{f:FuncId}{args:Array Value}{w:World}{n:LatW w}{v:Value}
  (h:Calls P f args n.W fun e w'=>e= .returned v/\Below n.W.heap.size n.W w'):Calls P f args n.W fun e w''=>e= .returned v/\∃ m:LatW w,w''=m.W :=
 h.mono fun _ _ ⟨he,hb⟩=>⟨he,⟨_,Qaa n.h hb⟩,rfl⟩
theorem Reads1.opnI {w:World}{v:Value}{xs:List Value} (h:Reads1 w v xs):∃ A cc n,v= .slice A n cc/\n=xs.length /\
  ∀ i (hi:i < xs.length),∃ b o,A=some ⟨b,o,none⟩/\∀ w1,Below w.heap.size w w1->w1.cell? ⟨b,o+i,none⟩=some xs[i]:=by
 rcases h with ⟨a,c,rfl,rfl⟩ | ⟨b,o,n,c,rfl,hn,hc⟩
 ·exact ⟨a,c,0,rfl,rfl,fun i hi=>by simp at hi⟩
 ·refine ⟨_,c,n,rfl,hn,fun i hi=>⟨b,o,rfl,fun w1 hb=>?_⟩⟩
  have:=hc i hi
  rw [hb.cell (Qav this),this]
def Qbf {α:Type} (p:α->α->Bool):List α->List α->Bool
 | [],[]=>true
 | x::xs,y::ys=>p x y&&Qbf p xs ys
 | _,_=>false
theorem Qf9 {α:Type}{p:α->α->Bool}:∀ {a b:List α},a.length≠b.length->Qbf p a b=false
 | [],[],h=>by simp at h
 | [],_::_,_=>rfl
 | _::_,[],_=>rfl
 | x::xs,y::ys,h=>by rw [Qbf,Qf9 (a:=xs) (b:=ys) (by simpa using h)];simp
theorem QiX {α:Type}{p:α->α->Bool}{a b:List α}{k:Nat} (ha:k < a.length) (hb:k < b.length):Qbf p (a.drop k) (b.drop k)=(p a[k] b[k]&&Qbf p (a.drop (k+1)) (b.drop (k+1))):=by
 rw [List.drop_eq_getElem_cons ha,List.drop_eq_getElem_cons hb,Qbf]
theorem QkW {α:Type}{p:α->α->Bool}{a b:List α}{k:Nat} (ha:a.length<=k) (hb:b.length<=k):Qbf p (a.drop k) (b.drop k)=true:=by
 rw [List.drop_eq_nil_of_le ha,List.drop_eq_nil_of_le hb];rfl
def ieqI (a b:Int):Bool:=decide (a=b)
theorem Qga:∀ {a b:List Int},Qbf ieqI a b=decide (a=b)
 | [],[]=>by simp [Qbf]
 | [],_::_=>by simp [Qbf]
 | _::_,[]=>by simp [Qbf]
 | x::xs,y::ys=>by
  rw [Qbf,Qga (a:=xs) (b:=ys)]
  unfold ieqI
  simp
theorem QiY (va vb:Value) (la lb:List Int) (w:World) (ha:Reads1 w va (la.map (Value.int .i64))) (hb:Reads1 w vb (lb.map (Value.int .i64))) (hl:la.length<=1048576) (hl2:lb.length<=1048576) :
  Calls Tryz.prog 262 #[va,vb] w fun e w'=>e= .returned (.bool (Qbf ieqI la lb))/\Below w.heap.size w w':=by
 obtain ⟨A,cc,n,rfl,hn,hcell⟩:=ha.opnI
 obtain ⟨A2,cc2,n2,rfl,hn2,hcell2⟩:=hb.opnI
 rw [List.length_map] at hn hn2
 have HC:=hD hcell
 have HC2:=hD hcell2
 have HN:=hD hn
 have HN2:=hD hn2
 have hb1:n<=1048576:=by omega
 have hb2:n2<=1048576:=by omega
 obtain ⟨R,hR⟩:∃ R,R=Qbf ieqI la lb:=⟨_,rfl⟩
 have HR:Hid (R=Qbf ieqI (la.drop 0) (lb.drop 0)):=hR
 have HLE:Hid (la.length≠lb.length->R=false):=fun h=>by rw [hR];exact Qf9 h
 have HST:Hid (∀ k (h1:k < la.length) (h2:k < lb.length),Qbf ieqI (la.drop k) (lb.drop k)=(ieqI la[k] lb[k]&&Qbf ieqI (la.drop (k+1)) (lb.drop (k+1)))):=fun k h1 h2=>QiX h1 h2
 have HEN:Hid (∀ k,la.length<=k->lb.length<=k->Qbf ieqI (la.drop k) (lb.drop k)=true):=fun k h1 h2=>QkW h1 h2
 rw [<- hR]
 clear hcell hcell2 hn hn2 ha hb hl hl2 hR
 by_cases hnn:n=n2
 ·subst hnn
  have hne:((n:Int) != (n:Int))=false:=by simp
  go_enter Tryz.func262,Tryz.ntmps262
  go_wp2
  go_loopw [5,13] (fun _ i wr=>∃ k:Nat,k<=n/\i= .int .i64 (k:Int)/\Below w.heap.size w wr/\Hid (R=Qbf ieqI (la.drop k) (lb.drop k))) (fun _ i _=>n - (intOf i).toNat)
  case atStart=>exact ⟨0,Nat.zero_le _,rfl,Below.refl _ _,HR.out⟩
  case round =>
   obtain ⟨k,hk,rfl,hbl,heq⟩:=hrel
   have HBL:=hD hbl
   by_cases hlt:k < n
   ·have h1:k < la.length:=by have:=HN.out;omega
    have h2:k < lb.length:=by have:=HN2.out;omega
    obtain ⟨b,o,rfl,hce⟩:=HC.out k (by rw [List.length_map];exact h1)
    obtain ⟨b',o',rfl,hce'⟩:=HC2.out k (by rw [List.length_map];exact h2)
    have c1:=hce _ hbl
    have c2:=hce' _ hbl
    rw [List.getElem_map] at c1 c2
    have HS:=hD (HST.out k h1 h2)
    generalize la[k]=x at *
    generalize lb[k]=y at *
    skip
    cases hxy:ieqI x y with
    | true =>
     have HT:Hid (R=Qbf ieqI (la.drop (k+1)) (lb.drop (k+1))):=by unfold Hid;rw [heq.out,HS.out,hxy];rfl
     obtain rfl:x=y:=by unfold ieqI at hxy;simpa using hxy
     have hfe:(x != x)=false:=by simp
     have hlt2:(k:Int) < (n:Int):=by omega
     clear hxy heq hbl hce hce' HS
     go_wp2
     go_quiet (fail)
     go_wp2
     go_roundw
     case rel=>exact ⟨k+1,by omega,by go_num,Qao HBL.out _,HT.out⟩
     case measure=>simp [intOf];omega
    | false =>
     have HT:Hid (R=false):=by unfold Hid;rw [heq.out,HS.out,hxy];rfl
     have hfe:(x != y)=true:=by unfold ieqI at hxy;simpa using hxy
     have hlt2:(k:Int) < (n:Int):=by omega
     clear hxy heq hbl hce hce' HS
     go_wp2
     go_quiet (fail)
     go_wp2
     go_ret
     exact ⟨by rw [HT.out];rfl,Qao HBL.out _⟩
   ·have HT:Hid (R=true):=by unfold Hid;rw [heq.out,HEN.out k (by have:=HN.out;omega) (by have:=HN2.out;omega)]
    clear heq hbl
    go_wp2
    go_ret
    exact ⟨by rw [HT.out];rfl,HBL.out⟩
 ·have HT:Hid (R=false):=HLE.out fun e=>hnn (by rw [HN.out,HN2.out,e])
  have hne:((n:Int) != (n2:Int))=true:=by simp;omega
  go_enter Tryz.func262,Tryz.ntmps262
  go_wp2
  go_ret
  exact ⟨by rw [HT.out];rfl,Below.refl _ _⟩
theorem Qed {H1 H2:Nat->Prop}{w0:World}{h1 h2:Sl}{s1 s2:List Nat} (g1:ShV H1 w0 h1 s1) (g2:ShV H2 w0 h2 s2) (hl:s1.length<=1048576) (hl2:s2.length<=1048576) (w:World) (hb:Below w0.heap.size w0 w) :
  Calls Tryz.prog 253 #[sv h1,sv h2] w fun e w'=>e= .returned (.bool (decide (s1=s2)))/\Below w.heap.size w w':=by
 have r1:Reads1 w (sv h1) ((s1.map Int.ofNat).map (Value.int .i64)):=by
  rw [List.map_map]
  exact (Keeps.lat g1 (Lat.below hb)).now
 have r2:Reads1 w (sv h2) ((s2.map Int.ofNat).map (Value.int .i64)):=by
  rw [List.map_map]
  exact (Keeps.lat g2 (Lat.below hb)).now
 have e:Qbf ieqI (s1.map Int.ofNat) (s2.map Int.ofNat)=decide (s1=s2):=by
  rw [Qga]
  refine decide_eq_decide.2 ⟨fun h=>?_,fun h=>by rw [h]⟩
  exact (List.map_inj_right (fun a b h=>by injection h)).1 h
 have HE:=hD (QiY _ _ _ _ w r1 r2 (by simpa using hl) (by simpa using hl2))
 rw [e] at HE
 clear e r1 r2 g1 g2 hl hl2 hb
 go_enter Tryz.func253,Tryz.ntmps253
 go_wp2_with fail
 refine HE.out.mono ?_
 rintro e w1 ⟨rfl,hb⟩
 have HB:=hD hb
 clear hb
 go_wp2
 go_ret
 exact ⟨rfl,HB.out⟩
theorem QaC {H:Nat->Prop}{w:World}{a:PA}{h:Sl}{p:V8} (g:AV H w a h p) (W:World) (hb:Below w.heap.size w W) :
  Calls Tryz.prog 44 #[p.v] W fun e w'=>e= .returned (.int .i64 (a.fill:Nat))/\Below W.heap.size W w':=by
 cases a with
 | nums s l =>
  rcases g.nums with h | ⟨rfl,rfl⟩
  ·exact (Keeps.lat h.num (Lat.below hb)).now.cls
  ·exact Qgw _ _ _ _ _ _ _ W
 | chars s l =>
  obtain ⟨c,rfl,_⟩:=g.chars
  exact QlJ _ _ _ _ _ _ _ W
 | boxes s l =>
  obtain ⟨A,n,c,rfl,_⟩:=g.boxes
  exact QlK _ _ _ _ _ _ _ W
theorem Qbj {H:Nat->Prop}{w:World}{a:PA}{h:Sl}{p:V8} (g:AV H w a h p) (W:World) (hb:Below w.heap.size w W) :
  Calls Tryz.prog 23 #[p.v] W fun e w'=>e= .returned (.int .i64 (a.len:Nat))/\Below W.heap.size W w':=by
 cases a with
 | nums s l =>
  rcases g.nums with h | ⟨rfl,rfl⟩
  ·exact (Keeps.lat h.num (Lat.below hb)).now.len
  ·exact QlL _ _ _ _ _ _ _ W
 | chars s l =>
  obtain ⟨c,rfl,hr⟩:=g.chars
  have e:c.2.1=l.length:=by
   obtain ⟨x,y,e⟩:=RdH.len hr
   unfold sv at e
   injection e with _ e _
   simpa using e
  have h1:=QsZ vnil 0 vnil vnil vnil vnil c.1 c.2.1 c.2.2 W
  rw [e] at h1
  have h2:(Qep c).v=vecV 5 vnil 0 vnil vnil vnil (.slice c.1 l.length c.2.2) vnil:=by rw [<- e]
  rw [h2]
  exact h1
 | boxes s l =>
  obtain ⟨A,n,c,rfl,rfl,_⟩:=g.boxes
  exact QtS vnil 0 vnil vnil vnil vnil A l.length c W
theorem Qj7 {H:Nat->Prop}{w:World}{s l:List Nat}{h:Sl}{p:V8} (g:AV H w (.nums s l) h p) (W:World) (hb:Below w.heap.size w W) (i:Nat) (hi:i < l.length) :
  Calls Tryz.prog 92 #[p.v,.int .i64 (i:Nat)] W fun e w'=>e= .returned (.float .f64 (l.getD i 0))/\Below W.heap.size W w':=by
 rcases g.nums with h | ⟨rfl,_⟩
 ·exact (Keeps.lat h.num (Lat.below hb)).now.num i hi
 ·exact absurd hi (Nat.not_lt_zero _)
theorem QmL (k:Int) (b:Value) (bn:Int) (s i f c x:Value) (z:Int) (hz:z≠0) (w:World)
  (hc:∀ W,Calls Tryz.prog 44 #[vecV k b bn s i f c x] W fun e w'=>e= .returned (.int .i64 z)/\Below W.heap.size W w') :
  Calls Tryz.prog 174 #[vecV k b bn s i f c x] w fun e w'=>e= .returned (.int .i64 k)/\Below w.heap.size w w':=by
 have HC:=hD hc
 have HK:=hD (fun W=>QaY k b bn s i f c x W)
 have hz2:(z != 0)=true:=by simpa using hz
 clear hc hz
 go_enter Tryz.func174,Tryz.ntmps174
 go_wp2_with fail
 refine (HC.out _).mono ?_
 rintro e w1 ⟨rfl,hb1⟩
 have HB1:=hD (Qaa (bel1 w _) hb1)
 obtain ⟨h0,h1,h2,h3,h4,h5,h6,h7⟩:=(QaF w 39 k b bn s i f c x).below hb1
 clear hb1
 go_wp2_with fail
 refine (HK.out _).mono ?_
 rintro e w2 ⟨rfl,hb2⟩
 have HB2:=hD (Qaa HB1.out hb2)
 clear hb2 h0 h1 h2 h3 h4 h5 h6 h7
 go_wp2
 go_ret
 exact ⟨rfl,HB2.out⟩
theorem QhP (k:Int) (b:Value) (bn:Int) (s i f c x:Value) (z:Int) (hz:z≠0) (w:World)
  (hc:∀ W,Calls Tryz.prog 44 #[vecV k b bn s i f c x] W fun e w'=>e= .returned (.int .i64 z)/\Below W.heap.size W w') :
  Calls Tryz.prog 165 #[vecV k b bn s i f c x] w fun e w'=>e= .returned (.bool true)/\Below w.heap.size w w':=by
 have HC:=hD (fun W=>QaY k b bn s i f c x W)
 have HL:=hD (fun W=>QmL k b bn s i f c x z hz W hc)
 have hkk:(k==k)=true:=by simp
 clear hc hz
 go_enter Tryz.func165,Tryz.ntmps165
 go_wp2_with fail
 go_region_with (first
  | (go_at_call 43;go_loud ((refine (HC.out _).mono ?_);rintro e w1 ⟨rfl,hb1⟩);obtain ⟨hc1,hf1⟩:=bcell2 hb1;have hz1:=hb1.size)
  | (go_at_call 174;go_loud ((refine (HL.out _).mono ?_);rintro e w2 ⟨rfl,hb2⟩);obtain ⟨hc2,hf2⟩:=bcell2 hb2;have hz2:=hb2.size))
 all_goals
  go_wp2
  go_ret
  exact ⟨rfl,Qaa (Qaa (bel1 w _).drew hb1) hb2⟩
theorem Qpr {n:Nat}{l:Nat->Bool}{r:Nat} (hr:r=n % 64) (hr0:r≠0):(packW l n ((n+63) / 64 - 1)) / 2 ^ r=0:=by
 have h:(packW l n ((n+63) / 64 - 1)) < 2 ^ r:=by
  refine Nat.lt_pow_two_of_testBit _ fun i hi=>?_
  by_cases h64:i < 64
  ·rw [Qay _ _ _ _ h64]
   simp only [Bool.and_eq_false_imp,decide_eq_true_eq]
   omega
  ·exact Nat.testBit_lt_two_pow (Nat.lt_of_lt_of_le (QaR l n _) (by
    have h2:(18446744073709551616:Nat)=2 ^ 64:=by decide
    rw [h2]
    exact Nat.pow_le_pow_right (n:=2) (by decide) (by omega)))
 exact Nat.div_eq_of_lt h
theorem QmM {w:World}{v:Value}{n:Nat}{l:Nat->Bool} (hb:BitsIn w v n l) (hn:n<=1000000) :
  Calls Tryz.prog 166 #[v] w fun e w'=>e= .returned (.bool true)/\Below w.heap.size w w':=by
 obtain ⟨b,o,c,rfl,hc⟩:=hb
 obtain ⟨M,hM⟩:∃ M,M=(n+63) / 64:=⟨_,rfl⟩
 obtain ⟨r,hr⟩:∃ r,r=n % 64:=⟨_,rfl⟩
 have HB:=hD (bel1 w (.cells #[.slice (some ⟨b,o,none⟩) M c,.int .i64 (n:Int)] 33))
 have hq:((n:Int)+63) / 64=(M:Int):=by omega
 have hand:bits .and .i64 (n:Int) 63=(r:Int):=by rw [hr];exact and63 n (by omega)
 have hq2:((n:Int)+63) / 2 ^ 6=(M:Int):=by rw [show (2:Int) ^ 6=64 by decide];exact hq
 have hne:((M:Int) != (M:Int))=false:=by simp
 have HTOP:=hD (fun (h:r≠0)=>Qpr (l:=l) hr h)
 rw [<- hM] at hc HTOP ⊢
 by_cases hr0:r=0
 ·have hr1:((r:Int)==0)=true:=by rw [hr0];rfl
  clear hr hM hc hr0
  go_enter Tryz.func166,Tryz.ntmps166
  go_wp2
  go_ret
  exact ⟨rfl,HB.out⟩
 ·have hr1:((r:Int)==0)=false:=by simp;omega
  have hr64:r < 64:=by omega
  have hM1:1<=M:=by omega
  have hcell:=QaB HB.out (hc (M - 1) (by omega))
  have hz:=HTOP.out hr0
  generalize packW l n (M - 1)=x at hcell hz
  obtain ⟨m,hm⟩:∃ m,M=m+1:=⟨M - 1,by omega⟩
  have hm1:(M:Int) - 1=(m:Int):=by omega
  have hm2:M - 1=m:=by omega
  rw [hm2] at hcell
  have hmb:m<=1000000:=by omega
  have hmM:m < M:=by omega
  have hsh:((x:Int) / 2 ^ r==0)=true:=by
   have h2:((x / 2 ^ r:Nat):Int)=(x:Int) / 2 ^ r:=by push_cast;rfl
   rw [<- h2,hz];rfl
  clear hr hM hc hr0 hm hm2 HTOP hz
  go_enter Tryz.func166,Tryz.ntmps166
  go_wp2
  go_ret
  exact ⟨rfl,HB.out⟩
abbrev zbV:Value:=vecV 1 vnil 0 vnil vnil vnil vnil vnil
theorem Qps (w:World):Calls Tryz.prog 174 #[zbV] w fun e w'=>e= .returned (.int .i64 1)/\Below w.heap.size w w':=by
 have HC:=hD (fun W=>Qgw vnil 0 vnil vnil vnil vnil vnil W)
 have HK:=hD (fun W=>QaY 1 vnil 0 vnil vnil vnil vnil vnil W)
 have HL:=hD (fun W=>QlL vnil 0 vnil vnil vnil vnil vnil W)
 go_enter Tryz.func174,Tryz.ntmps174
 go_wp2_with fail
 refine (HC.out _).mono ?_
 rintro e w1 ⟨rfl,hb1⟩
 have HB1:=hD (Qaa (bel1 w _) hb1)
 have HX1:=hD ((QaF w 39 1 vnil 0 vnil vnil vnil vnil vnil).below hb1)
 obtain ⟨h0,h1,h2,h3,h4,h5,h6,h7⟩:=HX1.out
 clear hb1
 go_wp2_with fail
 refine (HK.out _).mono ?_
 rintro e w2 ⟨rfl,hb2⟩
 have HB2:=hD (Qaa HB1.out hb2)
 have HX2:=hD (HX1.out.below hb2)
 clear hb2 h0 h1 h2 h3 h4 h5 h6 h7
 obtain ⟨h0,h1,h2,h3,h4,h5,h6,h7⟩:=HX2.out
 go_wp2_with fail
 refine (HL.out _).mono ?_
 rintro e w3 ⟨rfl,hb3⟩
 have HB3:=hD (Qaa HB2.out hb3)
 clear hb3 h0 h1 h2 h3 h4 h5 h6 h7
 go_wp2_with fail
 refine wp_loop_rounds 1 ?_
 rw [rounds_succ]
 go_wp2
 go_ret
 exact ⟨rfl,HB3.out⟩
theorem Qpt (w:World):Calls Tryz.prog 165 #[zbV] w fun e w'=>e= .returned (.bool true)/\Below w.heap.size w w':=by
 have HC:=hD (fun W=>QaY 1 vnil 0 vnil vnil vnil vnil vnil W)
 have HL:=hD (fun W=>Qps W)
 go_enter Tryz.func165,Tryz.ntmps165
 go_wp2_with fail
 go_region_with (first
  | (go_at_call 43;go_loud ((refine (HC.out _).mono ?_);rintro e w1 ⟨rfl,hb1⟩);obtain ⟨hc1,hf1⟩:=bcell2 hb1;have hz1:=hb1.size)
  | (go_at_call 174;go_loud ((refine (HL.out _).mono ?_);rintro e w2 ⟨rfl,hb2⟩);obtain ⟨hc2,hf2⟩:=bcell2 hb2;have hz2:=hb2.size))
 all_goals
  go_wp2
  go_ret
  exact ⟨rfl,Qaa (Qaa (bel1 w _).drew hb1) hb2⟩
theorem Qpu (w:World):Calls Tryz.prog 166 #[.agg #[.slice none 0 0,.int .i64 0]] w fun e w'=>e= .returned (.bool true)/\Below w.heap.size w w':=by
 have HB:=hD (bel1 w (.cells #[.slice none 0 0,.int .i64 0] 33))
 have hand:bits .and .i64 0 63=0:=by decide
 go_enter Tryz.func166,Tryz.ntmps166
 go_wp2
 go_ret
 exact ⟨rfl,HB.out⟩
theorem Qpv {H:Nat->Prop}{w:World}{a:PA}{h:Sl}{p:V8} (g:AV H w a h p) (hl:a.len<=1000000) (W:World) (hb:Below w.heap.size w W) :
  Calls Tryz.prog 165 #[p.v] W fun e w'=>e= .returned (.bool true)/\Below W.heap.size W w':=by
 cases a with
 | nums s l =>
  rcases g.nums with h | ⟨rfl,rfl⟩
  ·refine (Qmk (n:=l.length) (F:=fun j=>l.getD j 0) hl (fun W' hb'=>(Keeps.lat h.num (Lat.below (Qaa hb hb'))).now)).mono ?_
   rintro e w' ⟨rfl,hb2⟩
   refine ⟨?_,hb2⟩
   rw [h.least]
   simp
  ·exact Qpt W
 | chars s l =>
  obtain ⟨c,rfl,_⟩:=g.chars
  exact QhP _ _ _ _ _ _ _ _ 1 (by decide) W fun W=>QlJ _ _ _ _ _ _ _ W
 | boxes s l =>
  obtain ⟨A,n,c,rfl,_⟩:=g.boxes
  exact QhP _ _ _ _ _ _ _ _ 2 (by decide) W fun W=>QlK _ _ _ _ _ _ _ W
theorem QmN (n:Nat) (hn:n<=1048576) (w:World) :
  Calls Tryz.prog 57 #[.int .i64 (n:Int),.bool true] w fun e w'=>∃ g,e= .returned (.agg #[.slice (some ⟨g,0,none⟩) ((n+63) / 64) ((n+63) / 64),.int .i64 (n:Int)])/\RowU w' w.heap.size g ((n+63) / 64) (packW (fun _=>true) n)/\Below w.heap.size w w':=by
 obtain ⟨M,hM⟩:∃ M,M=(n+63) / 64:=⟨_,rfl⟩
 have hMi:((n:Int)+63) / 64=(M:Int):=by omega
 have hmm:max (0:Int) (min (n:Int) 1048576)=(n:Int):=by omega
 have hmk:=run_make_row' (P:=Tryz.prog) 31 104 (.int .u64 0) 8 Tryz.underlying31 QeD rfl .i64 .i64 M (by omega) (by omega)
 rw [<- hM]
 have HM:=hD hM
 have hMb:M<=16384:=by omega
 clear hM
 have hs1:(w.alloc (.cells bcells 33)).heap.size=w.heap.size+1:=by simp
 have hs2:((w.alloc (.cells bcells 33)).alloc (.cells (madeCells #[.int .u64 0] M) 104)).heap.size=w.heap.size+2:=by simp
 have HR0:Hid (RowU (((w.alloc (.cells bcells 33)).alloc (.cells (madeCells #[.int .u64 0] M) 104)).alloc (.cells #[.slice (some ⟨w.heap.size+1,0,none⟩) M M,.int .i64 (n:Int)] 33)) (w.heap.size+1) (w.heap.size+1) M (fun _=>0)):=by
  have h:=(RowU.made (w.alloc (.cells bcells 33)) (w.heap.size+1) (by rw [hs1];omega) M (by unfold maxLen;omega)).below (bel1 _ (.cells #[.slice (some ⟨w.heap.size+1,0,none⟩) M M,.int .i64 (n:Int)] 33))
  rw [hs1] at h
  exact h
 have HB0:=hD (bel3 w (.cells bcells 33) (.cells (madeCells #[.int .u64 0] M) 104) (.cells #[.slice (some ⟨w.heap.size+1,0,none⟩) M M,.int .i64 (n:Int)] 33))
 have HK10:=hD (Qar (bel2 (w.alloc (.cells bcells 33)) (.cells (madeCells #[.int .u64 0] M) 104) (.cells #[.slice (some ⟨w.heap.size+1,0,none⟩) M M,.int .i64 (n:Int)] 33)))
 have HK20:Hid ((((w.alloc (.cells bcells 33)).alloc (.cells (madeCells #[.int .u64 0] M) 104)).alloc (.cells #[.slice (some ⟨w.heap.size+1,0,none⟩) M M,.int .i64 (n:Int)] 33)).heap[w.heap.size+2]?=some (.cells #[.slice (some ⟨w.heap.size+1,0,none⟩) M M,.int .i64 (n:Int)] 33)):=by
  have h:=heap_alloc_new ((w.alloc (.cells bcells 33)).alloc (.cells (madeCells #[.int .u64 0] M) 104)) (.cells #[.slice (some ⟨w.heap.size+1,0,none⟩) M M,.int .i64 (n:Int)] 33)
  rw [hs2] at h
  exact h
 clear hs1 hs2
 go_enter Tryz.func57,Tryz.ntmps57
 go_wp2_with fail
 go_loopw [20] (fun ii wr=>∃ i:Nat,i<=M/\ii= .int .i64 i/\RowU wr (w.heap.size+1) (w.heap.size+1) M (fun j=>if j < i then 18446744073709551615 else 0)/\Below w.heap.size w wr/\wr.heap[w.heap.size]?=some (.cells bcells 33)/\wr.heap[w.heap.size+2]?=some (.cells #[.slice (some ⟨w.heap.size+1,0,none⟩) M M,.int .i64 (n:Int)] 33)) (fun ii _=>M - (intOf ii).toNat)
 case atStart=>exact ⟨0,Nat.zero_le _,rfl,HR0.out.same (fun j _=>by rw [if_neg (Nat.not_lt_zero _)]),HB0.out,HK10.out,HK20.out⟩
 case round =>
  clear HR0 HB0 HK10 HK20 hmk
  obtain ⟨i,hi,rfl,hrow,hbl,hk1,hk2⟩:=hrel
  have HROW:=hD hrow
  have HBL:=hD hbl
  have HK1:=hD hk1
  have HK2:=hD hk2
  clear hrow hbl hk1 hk2
  by_cases hlt:i < M
  ·obtain ⟨hv0,hv1,hvf⟩:=Qaj HK2.out
   have hcw:=HROW.out.cell hlt
   have hfw:=HROW.out.frozen i
   have HPUT:=hD (HROW.out.put hlt 18446744073709551615 (F':=fun j=>if j < i+1 then 18446744073709551615 else 0) (fun j _=>by
    by_cases e:j=i
    ·rw [if_pos e,if_pos (by omega)]
    ·rw [if_neg e]
     by_cases h2:j < i
     ·rw [if_pos h2,if_pos (by omega)]
     ·rw [if_neg h2,if_neg (by omega)]))
   have HB3:=hD (HBL.out.setCell (p:=⟨w.heap.size+1,i,none⟩) (by show _<=w.heap.size+1;omega) (.int .u64 18446744073709551615))
   have HK13:=hD ((Below.heap_setCell wr ⟨w.heap.size+1,i,none⟩ (.int .u64 18446744073709551615) w.heap.size (by show _≠w.heap.size+1;omega)).trans HK1.out)
   have HK23:=hD ((Below.heap_setCell wr ⟨w.heap.size+1,i,none⟩ (.int .u64 18446744073709551615) (w.heap.size+2) (by show _≠w.heap.size+1;omega)).trans HK2.out)
   go_wp2
   exact ⟨⟨i+1,by omega,by go_num,HPUT.out,HB3.out,HK13.out,HK23.out⟩,by simp [intOf];omega⟩
  ·obtain rfl:i=M:=by omega
   have HT:=hD (QeF (w.heap.size+1) (w.heap.size+1) n i _ wr hn HM.out HROW.out (fun j hj=>by
    show (if j < i then _ else _) < _
    rw [if_pos hj]
    decide))
   have HF:Hid (∀ j,j < i->trimF n i (fun j=>if j < i then 18446744073709551615 else 0) j=packW (fun _=>true) n j):=by
    refine QcW n i _ (fun _=>true) HM.out (fun j hj=>?_) (fun j hj m hm hin=>?_)
    ·show (if j < i then _ else _) < _
     rw [if_pos hj]
     decide
    ·show Nat.testBit (if j < i then _ else _) m=_
     rw [if_pos hj]
     have:=QgH 0 m hm (by decide)
     rw [show 18446744073709551615 - 0=18446744073709551615 from rfl] at this
     rw [this]
     simp
   obtain ⟨hv0,hv1,hvf⟩:=Qaj HK2.out
   go_wp2_with fail
   refine HT.out.mono ?_
   rintro e w5 ⟨rfl,hr5,hb5,ho5⟩
   have HR5:=hD (hr5.same (F':=packW (fun _=>true) n) (fun j hj=>(HF.out j hj).symm))
   have HB5:=hD (HBL.out.trans (hb5.mono (by omega)))
   have HK5:=hD (show w5.heap[w.heap.size]?=some (.cells bcells 33) by rw [hb5.block _ (by omega)];exact HK1.out)
   have hVl:w.heap.size+2 < wr.heap.size:=lt_of_block HK2.out
   have HKV:=hD (show w5.heap[w.heap.size+2]?=some (.cells #[.slice (some ⟨w.heap.size+1,0,none⟩) i i,.int .i64 (n:Int)] 33) by rw [ho5 (w.heap.size+2) hVl (by omega)];exact HK2.out)
   clear hr5 hb5 ho5 hv0 hv1 hvf
   obtain ⟨hv0,hv1,hvf⟩:=Qaj HKV.out
   obtain ⟨hk0,hk1,hkf⟩:=Qaj HK5.out
   go_wp2
   refine bodyPost_ret (QeE rfl _ _ _ rfl (Qa2 HK5.out _ _)) rfl ⟨w.heap.size+1,rfl,?_,Qa1 HB5.out (Nat.le_refl _) _ _⟩
   exact Qct (HR5.out.lower (by omega)) (by show some (w.heap.size+1)≠_;intro e;injection e;omega) _ _
theorem QiZ (n j:Nat):packW (fun _=>false) n j=0:=by
 apply Nat.eq_of_testBit_eq
 intro m
 rw [Nat.zero_testBit]
 by_cases hm:m < 64
 ·rw [Qay _ _ _ _ hm];simp
 ·exact Qa0 _ _ _ _ hm
theorem Qpw (n:Nat) (t:Bool) (hn:n<=1048576) (w:World) :
  Calls Tryz.prog 57 #[.int .i64 (n:Int),.bool t] w fun e w'=>∃ g,e= .returned (.agg #[.slice (some ⟨g,0,none⟩) ((n+63) / 64) ((n+63) / 64),.int .i64 (n:Int)])/\RowU w' w.heap.size g ((n+63) / 64) (packW (fun _=>t) n)/\Below w.heap.size w w':=by
 cases t
 ·refine (Qd4 n hn w).mono ?_
  rintro e w' ⟨g,rfl,hr,hb⟩
  exact ⟨g,rfl,hr.same fun j _=>QiZ n j,hb⟩
 ·exact QmN n hn w
def mT (t i:Nat):Nat:=if t.testBit i then 18446744073709551615 else 0
theorem QmO:∀ t:Fin 16,∀ i:Fin 4,IntKind.u64.wrap (-IntKind.u64.wrap (bits BinOp.and IntKind.u8 ((t.val:Int) / 2 ^ i.val) 1))=((mT t.val i.val:Nat):Int):=by decide+kernel
theorem QhQ (t i:Nat):mT t i < 18446744073709551616:=by unfold mT;split <;> decide
theorem Qpx {m:Nat} (hm:m < 64):(18446744073709551615:Nat).testBit m=true:=by
 have:=QgH 0 m hm (by decide)
 rw [show 18446744073709551615 - 0=18446744073709551615 from rfl] at this
 rw [this]
 simp
theorem Qtk (t i m:Nat) (hm:m < 64):(mT t i).testBit m=t.testBit i:=by
 unfold mT
 split
 ·rename_i h;rw [h];exact Qpx hm
 ·rename_i h;rw [Nat.zero_testBit];simpa using h
def tW (t a b:Nat):Nat:=mT t 0 &&& (18446744073709551615 - a) &&& (18446744073709551615 - b) ||| mT t 1 &&& (18446744073709551615 - a) &&& b ||| mT t 2 &&& a &&& (18446744073709551615 - b) ||| mT t 3 &&& a &&& b
theorem QaL (x y:Nat) (h:x < 18446744073709551616):x &&& y < 18446744073709551616:=Nat.lt_of_le_of_lt Nat.and_le_left h
theorem QkX (x y:Nat) (h:x < 18446744073709551616) (h':y < 18446744073709551616):x ||| y < 18446744073709551616:=Nat.or_lt_two_pow (n:=64) h h'
theorem Qpy (t a b:Nat):tW t a b < 18446744073709551616 :=
 QkX _ _ (QkX _ _ (QkX _ _ (QaL _ _ (QaL _ _ (QhQ _ _))) (QaL _ _ (QaL _ _ (QhQ _ _)))) (QaL _ _ (QaL _ _ (QhQ _ _)))) (QaL _ _ (QaL _ _ (QhQ _ _)))
theorem Qqo (t a b m:Nat) (ha:a < 18446744073709551616) (hb:b < 18446744073709551616) (hm:m < 64):(tW t a b).testBit m=t.testBit (2*(a.testBit m).toNat+(b.testBit m).toNat):=by
 unfold tW
 simp only [Nat.testBit_or,Nat.testBit_and,Qtk _ _ _ hm,QgH a m hm ha,QgH b m hm hb]
 cases a.testBit m <;> cases b.testBit m <;> simp
theorem Qtl (t a b:Nat) (ha:a < 18446744073709551616) (hb:b < 18446744073709551616) :
  bits .or .u64 (bits .or .u64 (bits .or .u64 (bits .andNot .u64 (bits .andNot .u64 ((mT t 0:Nat):Int) (a:Int)) (b:Int)) (bits .and .u64 (bits .andNot .u64 ((mT t 1:Nat):Int) (a:Int)) (b:Int))) (bits .andNot .u64 (bits .and .u64 ((mT t 2:Nat):Int) (a:Int)) (b:Int))) (bits .and .u64 (bits .and .u64 ((mT t 3:Nat):Int) (a:Int)) (b:Int))=((tW t a b:Nat):Int):=by
 have m0:=QhQ t 0
 have m1:=QhQ t 1
 have m2:=QhQ t 2
 have m3:=QhQ t 3
 rw [u64_andNot_nat _ _ m0 ha,u64_andNot_nat _ _ (QaL _ _ m0) hb,u64_andNot_nat _ _ m1 ha,u64_and_nat _ _ (QaL _ _ m1) hb,u64_or_nat _ _ (QaL _ _ (QaL _ _ m0)) (QaL _ _ (QaL _ _ m1)),
  u64_and_nat _ _ m2 ha,u64_andNot_nat _ _ (QaL _ _ m2) hb,u64_or_nat _ _ (QkX _ _ (QaL _ _ (QaL _ _ m0)) (QaL _ _ (QaL _ _ m1))) (QaL _ _ (QaL _ _ m2)),
  u64_and_nat _ _ m3 ha,u64_and_nat _ _ (QaL _ _ m3) hb,u64_or_nat _ _ (QkX _ _ (QkX _ _ (QaL _ _ (QaL _ _ m0)) (QaL _ _ (QaL _ _ m1))) (QaL _ _ (QaL _ _ m2))) (QaL _ _ (QaL _ _ m3))]
 rfl
def Qpz (w0:World) (n:Int) (M:Nat) (p:Value) (wx:World):Prop :=
 ∃ V g,p= .pointer (some ⟨V,0,none⟩)/\RowU wx w0.heap.size g M (fun _=>0)/\Below w0.heap.size w0 wx/\wx.heap[V]?=some (.cells #[.slice (some ⟨g,0,none⟩) M M,.int .i64 n] 33)/\V≠g/\w0.heap.size<=V
theorem QmP (w0:World) (n:Int) (M:Nat) (hM:M<=maxLen):Qpz w0 n M (.pointer (some ⟨w0.heap.size,0,none⟩)) ((w0.alloc (.cells #[.slice (some ⟨w0.heap.size+1,0,none⟩) M M,.int .i64 n] 33)).alloc (.cells (madeCells #[.int .u64 0] M) 104)).drew:=by
 have hs:(w0.alloc (.cells #[.slice (some ⟨w0.heap.size+1,0,none⟩) M M,.int .i64 n] 33)).heap.size=w0.heap.size+1:=by simp
 refine ⟨w0.heap.size,w0.heap.size+1,rfl,?_,(bel2 w0 _ _).drew,?_,by omega,Nat.le_refl _⟩
 ·have h:=RowU.made (w0.alloc (.cells #[.slice (some ⟨w0.heap.size+1,0,none⟩) M M,.int .i64 n] 33)) w0.heap.size (by rw [hs];omega) M hM
  rw [hs] at h
  exact h
 ·exact Qar ((bel1 (w0.alloc (.cells #[.slice (some ⟨w0.heap.size+1,0,none⟩) M M,.int .i64 n] 33)) (.cells (madeCells #[.int .u64 0] M) 104)).drew)
theorem QmQ (w0:World) (n:Int) (M:Nat) (hM:M<=maxLen):Qpz w0 n M (.pointer (some ⟨w0.heap.size+1,0,none⟩)) ((w0.alloc (.cells (madeCells #[.int .u64 0] M) 104)).alloc (.cells #[.slice (some ⟨w0.heap.size,0,none⟩) M M,.int .i64 n] 33)).drew:=by
 have hs:(w0.alloc (.cells (madeCells #[.int .u64 0] M) 104)).heap.size=w0.heap.size+1:=by simp
 refine ⟨w0.heap.size+1,w0.heap.size,rfl,?_,(bel2 w0 _ _).drew,?_,by omega,by omega⟩
 ·exact (RowU.made w0 w0.heap.size (Nat.le_refl _) M hM).below ((bel1 _ (.cells #[.slice (some ⟨w0.heap.size,0,none⟩) M M,.int .i64 n] 33)).drew)
 ·have h:=heap_alloc_new (w0.alloc (.cells (madeCells #[.int .u64 0] M) 104)) (.cells #[.slice (some ⟨w0.heap.size,0,none⟩) M M,.int .i64 n] 33)
  rw [hs] at h
  exact h
abbrev tabC (t i:Nat):Array Value:=#[.int .u64 (if 0 < i then mT t 0 else 0:Nat),.int .u64 (if 1 < i then mT t 1 else 0:Nat),.int .u64 (if 2 < i then mT t 2 else 0:Nat),.int .u64 (if 3 < i then mT t 3 else 0:Nat)]
theorem QmR {w:World}{G:Nat}{e:TypeId}{t i:Nat} (hi:i < 4) (h:w.heap[G]?=some (.cells (tabC t i) e)):(w.setCell ⟨G,i,none⟩ (.int .u64 (mT t i:Nat))).heap[G]?=some (.cells (tabC t (i+1)) e):=by
 have h0:=heap_setCell_same _ G i _ e (.int .u64 (mT t i:Nat)) h
 rw [h0]
 match i,hi with
 | 0,_=>simp [tabC]
 | 1,_=>simp [tabC]
 | 2,_=>simp [tabC]
 | 3,_=>simp [tabC]
theorem Qc3 {w:World}{G:Nat}{e:TypeId}{t i:Nat} (h:w.heap[G]?=some (.cells (tabC t i) e)) (j:Nat) (hj:j < 4):w.cell? ⟨G,j,none⟩=some (.int .u64 (if j < i then mT t j else 0:Nat))/\w.frozen? ⟨G,j,none⟩=false:=by
 refine ⟨?_,frozen_of_row _ _ j _ e h⟩
 rw [cell_of_row _ G j _ e (0,0) h]
 match j,hj with
 | 0,_=>rfl
 | 1,_=>rfl
 | 2,_=>rfl
 | 3,_=>rfl
structure TrS (w W:World) (o1 o2:Obj) (t i:Nat):Prop where
 one:W.heap[w.heap.size]?=some o1
 two:W.heap[w.heap.size+1]?=some o2
 res:W.heap[w.heap.size+2]?=some (.cells bcells 33)
 tab:W.heap[w.heap.size+3]?=some (.cells (tabC t i) 161)
 bel:Below w.heap.size w W
theorem TrS.sz {w W:World}{o1 o2:Obj}{t i:Nat} (h:TrS w W o1 o2 t i):w.heap.size+4<=W.heap.size:=lt_of_block h.tab
theorem TrS.step {w W W':World}{o1 o2:Obj}{t i:Nat} (h:TrS w W o1 o2 t i) (hb:Below (w.heap.size+4) W W'):TrS w W' o1 o2 t i :=
 ⟨by rw [hb.block _ (by omega)];exact h.one,by rw [hb.block _ (by omega)];exact h.two,by rw [hb.block _ (by omega)];exact h.res,by rw [hb.block _ (by omega)];exact h.tab,h.bel.trans (hb.mono (by omega))⟩
theorem TrS.new (w:World) (o1 o2:Obj) (t:Nat):TrS w ((((w.alloc o1).alloc o2).alloc (.cells bcells 33)).alloc (.cells #[.int .u64 0,.int .u64 0,.int .u64 0,.int .u64 0] 161)) o1 o2 t 0:=by
 have s1:(w.alloc o1).heap.size=w.heap.size+1:=by simp
 have s2:((w.alloc o1).alloc o2).heap.size=w.heap.size+2:=by simp
 have s3:(((w.alloc o1).alloc o2).alloc (.cells bcells 33)).heap.size=w.heap.size+3:=by simp
 refine ⟨Qar (bel3 (w.alloc o1) _ _ _),?_,?_,?_,Qaa (bel3 w _ _ _) (bel1 _ _)⟩
 ·have h:=Qar (bel2 ((w.alloc o1).alloc o2) (.cells bcells 33) (.cells #[.int .u64 0,.int .u64 0,.int .u64 0,.int .u64 0] 161))
  rw [s1] at h
  exact h
 ·have h:=Qar (bel1 (((w.alloc o1).alloc o2).alloc (.cells bcells 33)) (.cells #[.int .u64 0,.int .u64 0,.int .u64 0,.int .u64 0] 161))
  rw [s2] at h
  exact h
 ·have h:=heap_alloc_new (((w.alloc o1).alloc o2).alloc (.cells bcells 33)) (.cells #[.int .u64 0,.int .u64 0,.int .u64 0,.int .u64 0] 161)
  rw [s3] at h
  exact h
theorem QkY (t:Nat) (ht:t < 16) (b1 o1 c1 b2 o2 c2 n:Nat) (l1 l2:Nat->Bool) (w:World) (hn:n<=1048576)
  (hc1:∀ j,j < (n+63) / 64->w.cell? ⟨b1,o1+j,none⟩=some (.int .u64 (packW l1 n j:Nat))) (hc2:∀ j,j < (n+63) / 64->w.cell? ⟨b2,o2+j,none⟩=some (.int .u64 (packW l2 n j:Nat))) :
  Calls Tryz.prog 63 #[.int .u8 (t:Int),.agg #[.slice (some ⟨b1,o1,none⟩) ((n+63) / 64) c1,.int .i64 (n:Int)],.agg #[.slice (some ⟨b2,o2,none⟩) ((n+63) / 64) c2,.int .i64 (n:Int)]] w fun e w'=>∃ g,e= .returned (.tuple #[.agg #[.slice (some ⟨g,0,none⟩) ((n+63) / 64) ((n+63) / 64),.int .i64 (n:Int)],.bool true])/\RowU w' w.heap.size g ((n+63) / 64) (packW (fun i=>t.testBit (2*(l1 i).toNat+(l2 i).toNat)) n)/\Below w.heap.size w w':=by
 obtain ⟨M,hM⟩:∃ M,M=(n+63) / 64:=⟨_,rfl⟩
 rw [<- hM] at hc1 hc2 ⊢
 have HC1:=hD hc1
 have HC2:=hD hc2
 have HM:=hD hM
 have hMb:M<=16384:=by omega
 have hmk:=run_make_row' (P:=Tryz.prog) 31 104 (.int .u64 0) 8 Tryz.underlying31 QeD rfl .i64 .i64 M (by omega) (by omega)
 have HT0:=hD (TrS.new w (.cells #[.slice (some ⟨b1,o1,none⟩) M c1,.int .i64 (n:Int)] 33) (.cells #[.slice (some ⟨b2,o2,none⟩) M c2,.int .i64 (n:Int)] 33) t)
 clear hc1 hc2 hM
 obtain ⟨X1,hX1⟩:∃ X:Obj,X= .cells #[.slice (some ⟨b1,o1,none⟩) M c1,.int .i64 (n:Int)] 33:=⟨_,rfl⟩
 obtain ⟨X2,hX2⟩:∃ X:Obj,X= .cells #[.slice (some ⟨b2,o2,none⟩) M c2,.int .i64 (n:Int)] 33:=⟨_,rfl⟩
 have HX1:=hD hX1
 have HX2:=hD hX2
 have HT0':Hid (TrS w ((((w.alloc (.cells #[.slice (some ⟨b1,o1,none⟩) M c1,.int .i64 (n:Int)] 33)).alloc (.cells #[.slice (some ⟨b2,o2,none⟩) M c2,.int .i64 (n:Int)] 33)).alloc (.cells bcells 33)).alloc (.cells #[.int .u64 0,.int .u64 0,.int .u64 0,.int .u64 0] 161)) X1 X2 t 0):=by
  show TrS _ _ _ _ _ _
  rw [hX1,hX2]
  exact HT0.out
 clear hX1 hX2 HT0
 go_enter Tryz.func63,Tryz.ntmps63
 go_wp2_with fail
 go_loopw [20] (fun ii wr=>∃ i:Nat,i<=4/\ii= .int .i64 i/\TrS w wr X1 X2 t i) (fun ii _=>4 - (intOf ii).toNat)
 case atStart=>exact ⟨0,Nat.zero_le _,rfl,HT0'.out⟩
 case round =>
  clear HT0'
  obtain ⟨i,hi,rfl,hts⟩:=hrel
  have HTS:=hD hts
  clear hts
  by_cases hlt:i < 4
  ·obtain ⟨hcell,hf⟩:=Qc3 HTS.out.tab i hlt
   have hlt2:(i:Int) < 4:=by omega
   have HMC:Hid (IntKind.u64.wrap (-IntKind.u64.wrap (bits BinOp.and IntKind.u8 ((t:Int) / 2 ^ i) 1))=((mT t i:Nat):Int)):=QmO ⟨t,ht⟩ ⟨i,hlt⟩
   have HNEW:Hid (TrS w (wr.setCell ⟨w.heap.size+3,i,none⟩ (.int .u64 (mT t i:Nat))) X1 X2 t (i+1)) :=
    ⟨by rw [Below.heap_setCell _ _ _ _ (by show _≠w.heap.size+3;omega)];exact HTS.out.one,by rw [Below.heap_setCell _ _ _ _ (by show _≠w.heap.size+3;omega)];exact HTS.out.two,by rw [Below.heap_setCell _ _ _ _ (by show _≠w.heap.size+3;omega)];exact HTS.out.res,QmR hlt HTS.out.tab,HTS.out.bel.setCell (by show _<=w.heap.size+3;omega) _⟩
   go_wp2
   rw [HMC.out]
   exact ⟨⟨i+1,by omega,by go_num,HNEW.out⟩,by simp [intOf];omega⟩
  ·obtain rfl:i=4:=by omega
   have HTS0:=HTS
   obtain ⟨hx0,hx1,_⟩:=Qaj (by have:=HTS.out.one;rw [HX1.out] at this;exact this)
   obtain ⟨hy0,hy1,_⟩:=Qaj (by have:=HTS.out.two;rw [HX2.out] at this;exact this)
   have HMA:=hD (QmP wr (n:Int) M (by unfold maxLen;omega))
   have HMB:=hD (QmQ wr (n:Int) M (by unfold maxLen;omega))
   go_wp2_with fail
   obtain ⟨B,hB⟩:∃ B,B=wr.heap.size:=⟨_,rfl⟩
   have hBw:w.heap.size+4<=B:=by rw [hB];exact HTS.out.sz
   go_cut [10] from 33 (fun p wx=>Qpz wr (n:Int) M p wx)
   case first =>
    have z0:w.heap.size < wr.heap.size:=by have:=HTS.out.sz;omega
    have hx0a:=fun o=>Qab hx0 o
    have hx1a:=fun o=>Qab hx1 o
    go_region
    all_goals
     go_wp2
     go_meet
     first | exact HMA.out | exact HMB.out
   obtain ⟨V,g,rfl,hr0,hb0,hkV,hVg,hV⟩:=hcut
   have hg2:=hr0.low.1
   rw [<- hB] at hr0 hV hg2
   have HR0:=hD hr0
   have HT1:=hD (HTS.out.step (hb0.mono HTS.out.sz))
   have HKV:=hD hkV
   clear hr0 hb0 hkV hmk HMA HMB HTS HTS0 hB hx0 hx1 hy0 hy1
   obtain ⟨hv0,hv1,_⟩:=Qaj HKV.out
   go_wp2_with fail
   go_loopw [43] (fun ii wr=>∃ i:Nat,i<=M/\ii= .int .i64 i/\RowU wr B g M (fun j=>if j < i then tW t (packW l1 n j) (packW l2 n j) else 0)/\TrS w wr X1 X2 t 4/\wr.heap[V]?=some (.cells #[.slice (some ⟨g,0,none⟩) M M,.int .i64 (n:Int)] 33)) (fun ii _=>M - (intOf ii).toNat)
   case atStart=>exact ⟨0,Nat.zero_le _,rfl,HR0.out.same (fun j _=>by rw [if_neg (Nat.not_lt_zero _)]),HT1.out,HKV.out⟩
   case round =>
    clear HR0 HT1 HKV hv0 hv1
    obtain ⟨i,hi,rfl,hrow,hts,hkv⟩:=hrel
    have HROW:=hD hrow
    have HTS:=hD hts
    have HKV:=hD hkv
    clear hrow hts hkv
    by_cases hlt:i < M
    ·obtain ⟨hx0,hx1,_⟩:=Qaj (by have:=HTS.out.one;rw [HX1.out] at this;exact this)
     obtain ⟨hy0,hy1,_⟩:=Qaj (by have:=HTS.out.two;rw [HX2.out] at this;exact this)
     have hca:wr.cell? ⟨b1,o1+i,none⟩=some (.int .u64 (packW l1 n i:Nat)):=by rw [HTS.out.bel.cell (Qav (HC1.out i hlt))];exact HC1.out i hlt
     have hcb:wr.cell? ⟨b2,o2+i,none⟩=some (.int .u64 (packW l2 n i:Nat)):=by rw [HTS.out.bel.cell (Qav (HC2.out i hlt))];exact HC2.out i hlt
     have HRUN:=hD (Qtl t (packW l1 n i) (packW l2 n i) (QaR l1 n i) (QaR l2 n i))
     have HPUT:=hD (fun W (hr:RowU W B g M (fun j=>if j < i then tW t (packW l1 n j) (packW l2 n j) else 0))=>hr.put hlt (tW t (packW l1 n i) (packW l2 n i)) (F':=fun j=>if j < i+1 then tW t (packW l1 n j) (packW l2 n j) else 0) (fun j _=>by
      by_cases e:j=i
      ·rw [if_pos e,if_pos (by omega),e]
      ·rw [if_neg e]
       by_cases h2:j < i
       ·rw [if_pos h2,if_pos (by omega)]
       ·rw [if_neg h2,if_neg (by omega)]))
     generalize packW l1 n i=a at *
     generalize packW l2 n i=b at *
     go_wp2_with fail
     go_cut [12,13] from 46 to 87 (fun x y wx=>x= .int .u64 (a:Int)/\y= .int .u64 (b:Int)/\Below wr.heap.size wr wx)
     case first =>
      go_quiet (fail)
      go_wp2
      go_meet
      exact ⟨rfl,rfl,QgB (Below.refl _ _) _⟩
     case rest =>
      obtain ⟨rfl,rfl,hbc⟩:=hcut
      have HROWC:=hD (HROW.out.below hbc)
      have HTSC:=hD (HTS.out.step (hbc.mono HTS.out.sz))
      have HKVC:=hD (show wc.heap[V]?=some (.cells #[.slice (some ⟨g,0,none⟩) M M,.int .i64 (n:Int)] 33) by rw [hbc.block _ (lt_of_block HKV.out)];exact HKV.out)
      have HP2:=hD (HPUT.out wc HROWC.out)
      clear hbc hx0 hx1 hy0 hy1 hca hcb HROW HTS HKV HPUT
      obtain ⟨hv0,hv1,hvf⟩:=Qaj HKVC.out
      have hcw:=HROWC.out.cell hlt
      have hfw:=HROWC.out.frozen i
      have t0:wc.cell? ⟨w.heap.size+3,0,none⟩=some (.int .u64 ((mT t 0:Nat):Int)):=(Qc3 HTSC.out.tab 0 (by decide)).1
      have t1:wc.cell? ⟨w.heap.size+3,1,none⟩=some (.int .u64 ((mT t 1:Nat):Int)):=(Qc3 HTSC.out.tab 1 (by decide)).1
      have t2:wc.cell? ⟨w.heap.size+3,2,none⟩=some (.int .u64 ((mT t 2:Nat):Int)):=(Qc3 HTSC.out.tab 2 (by decide)).1
      have t3:wc.cell? ⟨w.heap.size+3,3,none⟩=some (.int .u64 ((mT t 3:Nat):Int)):=(Qc3 HTSC.out.tab 3 (by decide)).1
      have HT2:Hid (TrS w (wc.setCell ⟨g,i,none⟩ (.int .u64 (tW t a b:Nat))) X1 X2 t 4):=HTSC.out.step ((Below.refl _ wc).setCell (by show _<=g;omega) _)
      have HK2:=hD ((Below.heap_setCell wc ⟨g,i,none⟩ (.int .u64 (tW t a b:Nat)) V (by show _≠g;exact hVg)).trans HKVC.out)
      go_wp2
      rw [HRUN.out]
      exact ⟨⟨i+1,by omega,by go_num,HP2.out,HT2.out,HK2.out⟩,by simp [intOf];omega⟩
    ·obtain rfl:i=M:=by omega
     have HT:=hD (QeF B g n i _ wr hn HM.out HROW.out (fun j hj=>by
      show (if j < i then _ else _) < _
      rw [if_pos hj]
      exact Qpy _ _ _))
     have HF:Hid (∀ j,j < i->trimF n i (fun j=>if j < i then tW t (packW l1 n j) (packW l2 n j) else 0) j=packW (fun i=>t.testBit (2*(l1 i).toNat+(l2 i).toNat)) n j):=by
      refine QcW n i _ _ HM.out (fun j hj=>?_) (fun j hj m hm hin=>?_)
      ·show (if j < i then _ else _) < _
       rw [if_pos hj]
       exact Qpy _ _ _
      ·show Nat.testBit (if j < i then _ else _) m=_
       rw [if_pos hj,Qqo t _ _ m (QaR l1 n j) (QaR l2 n j) hm,Qay l1 n j m hm,Qay l2 n j m hm]
       simp [hin]
     obtain ⟨hv0,hv1,hvf⟩:=Qaj HKV.out
     go_wp2_with fail
     refine HT.out.mono ?_
     rintro e w5 ⟨rfl,hr5,hb5,ho5⟩
     have HR5:=hD (hr5.same (F':=packW (fun i=>t.testBit (2*(l1 i).toNat+(l2 i).toNat)) n) (fun j hj=>(HF.out j hj).symm))
     have HT5:=hD (HTS.out.step (hb5.mono hBw))
     have hVl:V < wr.heap.size:=lt_of_block HKV.out
     have HKV5:=hD (show w5.heap[V]?=some (.cells #[.slice (some ⟨g,0,none⟩) i i,.int .i64 (n:Int)] 33) by rw [ho5 V hVl hVg];exact HKV.out)
     clear hr5 hb5 ho5 hv0 hv1 hvf
     obtain ⟨hv0,hv1,hvf⟩:=Qaj HKV5.out
     obtain ⟨hk0,hk1,hkf⟩:=Qaj HT5.out.res
     go_wp2
     refine bodyPost_ret (v := .tuple #[.agg #[.slice (some ⟨g,0,none⟩) i i,.int .i64 (n:Int)],.bool true]) ?_ rfl ⟨g,rfl,?_,Qa1 HT5.out.bel (by omega) _ _⟩
     ·exact QbI (fn:=Tryz.f63) (p:=6) (u:=7) rfl _ _ (w.heap.size+2) (by rfl) (Qa2 HT5.out.res _ _)
     ·exact Qct (HR5.out.lower (by omega)) (by show some g≠_;intro e;injection e;omega) _ _
end Go.Proofs.YtdelgpelkfndeaaGreatDoor
