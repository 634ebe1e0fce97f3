/- shape.Split of the shape of three. each.FoldNum of an array of three numbers. value.of, value.Of and rebuslaw07.Of of numbers, with the room of the header. The .. Conditions: as each theorem says. -/
import Derived.Test.YtakgmnafbjdccaaGreatDoorMg28
import Derived.Test.YtakgmnafbjdccaaGreatDoorMg30
import Derived.Test.YtakgmnafbjdccaaGreatDoorMg19
import Derived.BigQuiet
import Derived.Test.YtakgmnafbjdccaaGreatDoorMg23
import Derived.Test.YtakgmnafbjdccaaGreatDoorMg11
import Derived.Test.YtakgmnafbjdccaaGreatDoorMg24
import Derived.StillTailTactics
set_option maxRecDepth 100000
set_option maxHeartbeats 4000000
namespace Go.Proofs.YtakgmnafbjdccaaGreatDoor
open Go Go.RowKit Go.Proofs Fl
theorem bel_drewN4 {B:Nat}{a w:World} (h:Below B a w) (k:Nat):Below B a (w.drewN k):=⟨h.os,h.tape,h.output,h.size,h.block⟩
theorem four_slots {fn:Func}{t u v x:Tmp} (h:fn.results=#[.tmp t,.tmp u,.tmp v,.tmp x]) (tmps:Array Value) (P:Program) (w:World) :
  (results fn tmps).run P w= .ok (.tuple #[tmps.getD t undef,tmps.getD u undef,tmps.getD v undef,tmps.getD x undef]) w:=by
 simp [results,h]
theorem good_three (v:Value) (w:World) (hs:Reads1 w v [.int .i64 3]):Calls Tryz.prog 163 #[v] w fun e w'=>e= .returned (.bool true)/\w'=w:=by
 have HP:=Lib.hid (product_any v [3] 1048576 w hs (by decide))
 go_enter Tryz.func163,Tryz.ntmps163
 go_wp2_with fail
 refine HP.out.mono ?_
 rintro e w2 ⟨rfl,rfl⟩
 rw [show prodE [3] 1048576=(3,0) by decide]
 go_wp2
 go_ret
 exact ⟨rfl,rfl⟩
theorem split_three (b o c:Nat) (hc:1<=c) (w:World) (hs:w.cell? ⟨b,o,none⟩=some (.int .i64 3)) :
  Calls Tryz.prog 95 #[.slice (some ⟨b,o,none⟩) 1 c,.int .i64 0] w fun e w'=>e= .returned (.tuple #[.int .i64 1,.int .i64 3,.int .i64 1,.bool true])/\Below w.heap.size w w':=by
 have hr:Reads1 w (.slice (some ⟨b,o,none⟩) 1 c) [.int .i64 3] := .inr ⟨b,o,1,c,rfl,rfl,fun j hj=>by
  have hj:j=0:=by simpa using hj
  subst hj
  exact hs⟩
 have HG:=Lib.hid (good_three _ w hr)
 have HP:=Lib.hid (fun a c=>product_any (.slice a 0 c) [] 1048576 w (.inl ⟨a,c,rfl,rfl⟩) (by decide))
 have e0:prodE [] 1048576=(1,0):=by decide
 rw [e0] at HP
 clear hr
 go_enter Tryz.func95,Tryz.ntmps95
 go_wp2_with fail
 refine HG.out.mono ?_
 rintro e w2 ⟨rfl,rfl⟩
 go_wp2_with fail
 refine (HP.out _ _).mono ?_
 rintro e w3 ⟨rfl,rfl⟩
 go_wp2_with fail
 all_goals
  refine (HP.out _ _).mono ?_
  rintro e w4 ⟨rfl,rfl⟩
  go_wp2_with fail
  go_quiet (fail)
  go_wp2
  refine bodyPost_ret (four_slots rfl _ _ _) rfl ⟨by simp,bel_drewN4 (Below.refl _ _) _⟩
theorem fnum_three (Φ:Value->World->Prop) (b o c:Nat) (p:V8) (w:World) (hc:1<=c) (hcell:w.cell? ⟨b,o,none⟩=some (.int .i64 3))
  (hcls:∀ W,Below w.heap.size w W->Calls Tryz.prog 66 #[p.v] W fun e w'=>e= .returned (.int .i64 0)/\Below W.heap.size W w')
  (hF:∀ W,Below w.heap.size w W->w.heap.size+2<=W.heap.size->Calls Tryz.prog 96 #[.int .i64 1,p.v,.int .i64 1,.int .i64 3,.int .i64 1] W fun e w'=>∃ u:V8,e= .returned (.tuple #[u.v,.int .i64 0])/\Keeps (fun b=>b=w.heap.size+1) w' (Φ u.v)/\Below W.heap.size W w') :
  Calls Tryz.prog 36 #[.int .i64 1,arrV (some ⟨b,o,none⟩,1,c) p,.bool false] w fun e w'=>∃ (A:Option Addr) (c':Nat) (u:V8),e= .returned (.tuple #[arrV (A,0,c') u,.int .i64 0])/\Keeps (fun _=>False) w' (Φ u.v)/\Below w.heap.size w w':=by
 have HS0:=Lib.hid (A1.new w (some ⟨b,o,none⟩,1,c) p)
 have HCL:=Lib.hid hcls
 have HF:=Lib.hid hF
 have HRD:Hid (∀ W,Below w.heap.size w W->Reads1 W (.slice (some ⟨b,o,none⟩) 1 c) [.int .i64 3]):=fun W hb => .inr ⟨b,o,1,c,rfl,rfl,fun j hj=>by
  have hj:j=0:=by simpa using hj
  subst hj
  exact cell_up hb hcell⟩
 have HSP:=Lib.hid (fun W (hb:Below w.heap.size w W)=>split_three b o c hc W (cell_up hb hcell))
 have HWO:=Lib.hid (fun W (hb:Below w.heap.size w W)=>without_one (some ⟨b,o,none⟩,1,c) 3 W (HRD.out W hb))
 have HAX:=Lib.hid (fun W=>axis_last (some ⟨b,o,none⟩,1,c) p 0 rfl (Nat.zero_le _) W)
 clear hcls hF hcell
 go_enter Tryz.func36,Tryz.ntmps36
 go_wp2_with fail
 refine (known_any 1 _).mono ?_
 rintro e w1 ⟨rfl,rfl⟩
 rw [show knownB 1=true by decide]
 obtain ⟨c0,c1,c2,c3,c4,c5,c6,c7,c8⟩:=HS0.out.one.c
 go_wp2_with fail
 refine (HAX.out _).mono ?_
 rintro e w2 ⟨rfl,hb⟩
 have HS2:=Lib.hid (HS0.out.step hb)
 clear hb c0 c1 c2 c3 c4 c5 c6 c7 c8 HS0
 obtain ⟨c0,c1,c2,c3,c4,c5,c6,c7,c8⟩:=HS2.out.one.c
 go_wp2_with fail
 refine (HCL.out _ HS2.out.bel).mono ?_
 rintro e w3 ⟨rfl,hb⟩
 have HS3:=Lib.hid (HS2.out.step hb)
 clear hb c0 c1 c2 c3 c4 c5 c6 c7 c8 HS2
 obtain ⟨c0,c1,c2,c3,c4,c5,c6,c7,c8⟩:=HS3.out.one.c
 go_wp2_with fail
 refine (HWO.out _ HS3.out.bel).mono ?_
 rintro e w4 ⟨A4,c4',rfl,hb⟩
 have HS4:=Lib.hid (HS3.out.step hb)
 clear hb c0 c1 c2 c3 c4 c5 c6 c7 c8 HS3
 obtain ⟨c0,c1,c2,c3,c4,c5,c6,c7,c8⟩:=HS4.out.one.c
 go_wp2_with fail
 refine (HSP.out _ HS4.out.bel).mono ?_
 rintro e w5 ⟨rfl,hb⟩
 have HS5:=Lib.hid (HS4.out.step hb)
 clear hb c0 c1 c2 c3 c4 c5 c6 c7 c8 HS4
 obtain ⟨c0,c1,c2,c3,c4,c5,c6,c7,c8⟩:=HS5.out.one.c
 go_wp2_with fail
 refine (HF.out _ HS5.out.bel (by have:=HS5.out.sz;omega)).mono ?_
 rintro e w6 ⟨u,rfl,hk,hb⟩
 have HS6:=Lib.hid ((HS5.out.step hb).step (bel1 w6 u.o))
 have HKV:=Lib.hid (hk.step (bel1 w6 u.o))
 have HV:=Lib.hid (boxP_new w6 u)
 clear hb hk c0 c1 c2 c3 c4 c5 c6 c7 c8 HS5
 obtain ⟨h0,h1,h2,h3,h4,h5,h6,h7⟩:=HV.out
 obtain ⟨⟨y0,y1,y2,y3,y4,y5,y6,y7,y8⟩,yz⟩:=zero_block HS6.out.res
 have hlt6:=HS6.out.sz
 go_wp2
 refine bodyPost_ret (v := .tuple #[arrV (A4,0,c4') u,.int .i64 0]) ?_ rfl ⟨A4,c4',u,rfl,(Keeps.lat HKV.out (Lat.set9 (H:=fun b=>b=w.heap.size+1) (G:=w.heap.size+1) rfl _ _ _ _ _ _ _ _ _)).sub (fun _ _ e=>e.elim),below_set9 HS6.out.bel (Nat.le_succ _) _ _ _ _ _ _ _ _ _⟩
 exact ret_arr2 (fn:=Tryz.f36) (p:=6) (u:=7) rfl _ _ (w.heap.size+1) (by rfl) (set9_block HS6.out.res _ _ _ _ _ _ _ _ _)
def AvC (H:Nat->Prop) (w:World) (a:PA) (e:Ending) (w':World):Prop:=∃ h p,e= .returned (.tuple #[arrV h p,.int .i64 0])/\AV H w' a h p/\Below w.heap.size w w'/\h.2.1<=h.2.2
def AaC (H:Nat->Prop) (w:World) (a:PA) (e:Ending) (w':World):Prop:=∃ h p,e= .returned (arrV h p)/\AV H w' a h p/\Below w.heap.size w w'/\h.2.1<=h.2.2
theorem clShc_any {H:Nat->Prop}{w:World}{h:Sl}{s:List Nat} (g:ShV H w h s) (hl:s.length<=1048576) (hH:∀ b,H b->b < w.heap.size) :
  Calls Tryz.prog 69 #[sv h] w fun e w'=>∃ A n c,e= .returned (.slice A n c)/\ShV H w' (A,n,c) s/\n<=c/\Below w.heap.size w w':=by
 refine (clI_any g.now (by rw [List.length_map];omega) (by intro u hu;obtain ⟨z,_,rfl⟩:=List.mem_map.1 hu;rfl)).mono ?_
 rintro e w' ⟨v',rfl,ho,hb⟩
 have hk:=ho.keepsH hH
 rcases ho.2 with ⟨rfl,hn⟩ | ⟨g,cap,cur,rfl,hbg,hg,hnc,_⟩
 ·exact ⟨none,0,0,rfl,hk,Nat.le_refl _,hb⟩
 ·exact ⟨_,_,cap,rfl,hk,hnc,hb⟩
theorem of_0c (H:Nat->Prop) (d:Nat) (hd:d<=40) (sn:List Nat) (items:List RI) (h x:Sl) (w:World) (hH:∀ b,H b->b < w.heap.size) (hok:OkIs (d+1) 0 items) (hsn:OkSh sn items.length) (hM:cntP (.mk (sn.map Int.ofNat) items 0)<=1000000) (hr:PV H w (.mk (sn.map Int.ofNat) items 0) h x 0) :
  Calls Tryz.prog 116 #[plV h x 0,.int .i64 ((d+1:Nat):Int)] w (AvC H w (clP (.mk (sn.map Int.ofNat) items 0))):=by
 obtain ⟨hsr,_,hx,hit⟩:=hr.open_
 obtain ⟨A,m,cc⟩:=x
 dsimp only at hx hit
 have hsz:cntP (.mk (sn.map Int.ofNat) items 0)=items.length+(sn.map Int.ofNat).length+1+cntIs items:=by rw [cntP]
 rw [hsz,List.length_map] at hM
 have hsh:ShV H w h sn:=by rw [List.map_map] at hsr;exact hsr
 have HK:=Lib.hid hit
 have HMI:=Lib.hid hx
 have HSH:=Lib.hid hsh
 have hmb:m<=1000000:=by omega
 have HOKI:Hid (∀ i (hi:i < items.length),OkI (d+1) 0 items[i]):=fun i hi=>okIs_at hi hok
 have hpe:prodE sn 1048576=((m:Int),0):=by rw [hx];exact prodE_ok hsn (by omega)
 have HPR:Hid (∀ W,Below w.heap.size w W->Calls Tryz.prog 73 #[sv h,.int .i64 1048576] W fun e w'=>e= .returned (.tuple #[.int .i64 (m:Int),.int .i64 0])/\W=w'):=fun W hb=>by
  have h1:=product_any (sv h) sn 1048576 W (hsh.step hb).now (by omega)
  rw [hpe] at h1
  exact h1
 have HI0:=Lib.hid (OfI.new w h (A,m,cc) 0)
 obtain ⟨z,hz⟩:∃ z:Int,z=((d+1:Nat):Int):=⟨_,rfl⟩
 rw [<- hz]
 have hz0:(z==0)=false:=by simp;omega
 have hne:((m:Int) != (m:Int))=false:=by simp
 have HLN:Hid (sn.length<=1048576):=by unfold Hid;omega
 clear hz hx hsz hM hit hok hsr hr hsn hpe hsh hd
 go_enter Tryz.func116,Tryz.ntmps116
 obtain ⟨c0,c1,c2⟩:=HI0.out.arg
 dsimp only [sv] at c1
 go_wp2_with fail
 refine (HPR.out _ HI0.out.bel).mono ?_
 rintro e w1 ⟨rfl,rfl⟩
 generalize hW:(w.alloc (.cells #[sv h,.slice A m cc,.int .i64 0] 25)).alloc (.cells zeroL 40)=W at *
 clear hW HPR
 go_wp2
 clear c0 c1 c2
 go_loopw [8,49] (fun v iv wr=>∃ (i:Nat) (vA:Option Addr) (vn vc:Nat),i<=m/\iv= .int .i64 (i:Int)/\v= .slice vA vn vc/\Own1 wr (w.heap.size+2) 51 (.slice vA vn vc) ((items.take i).map fun t => .float .f64 t.numOf)/\OfI w h (A,m,cc) 0 wr) (fun _ iv _=>m - (intOf iv).toNat)
 case atStart=>exact ⟨0,none,0,0,Nat.zero_le _,rfl,rfl,Own1.nil _ _ _,HI0.out⟩
 case round =>
  obtain ⟨i,vA,vn,vc,hi,rfl,rfl,hown,hofi⟩:=hrel
  have HOWN:=Lib.hid hown
  have HOF:=Lib.hid hofi
  obtain ⟨c0,c1,c2⟩:=hofi.arg
  dsimp only [sv] at c1
  clear hown hofi
  by_cases him:i < m
  ·have him2:(i:Int) < (m:Int):=by omega
   have hik:i < items.length:=by have:=HMI.out;omega
   obtain ⟨b,o,k',n',c',y,rfl,-,hiv,hat⟩:=HK.out i hik
   have HTK:Hid (items.take (i+1)=items.take i++[items[i]]):=List.take_succ_eq_append_getElem hik
   have HOI:=Lib.hid (HOKI.out i hik)
   have hlb:(items.take i).length<=1000000:=by rw [List.length_take];omega
   have HLB:=Lib.hid hlb
   clear hlb
   generalize items[i]=it at hiv HTK HOI
   cases it with
   | mk kind num char box =>
   obtain ⟨rfl,rfl,rfl,hy,hbx⟩:=hiv.open_
   obtain ⟨yA,ym,yc⟩:=y
   obtain ⟨d0,d1,d2,d3⟩:=hat wr (Lat.below HOF.out.bel)
   dsimp only [sv] at d3
   have hk0:=HOI.out
   rw [OkI] at hk0
   obtain ⟨rfl,hkn,hkb⟩:=hk0
   have hst:=fun md=>st_item wr 0 0 n' 0 (.slice none 0 0) 55 md
   have g0:=fun o=>cell_box1 c0 o
   have g1:=fun o=>cell_box1 c1 o
   have g2:=fun o=>cell_box1 c2 o
   clear hy hbx hat hiv hkn hkb
   obtain ⟨XB,hXB⟩:∃ XB:Obj,XB= .cells #[.int .i64 0,.float .f64 n',.int .i32 c',.slice yA ym yc] 55:=⟨_,rfl⟩
   have HW1:=Lib.hid (HOF.out.step (bel1 wr XB))
   have HO1:=Lib.hid (HOWN.out.below (bel1 wr XB))
   have HGG:Hid (wr.heap.size+1=(wr.alloc XB).heap.size):=by unfold Hid;simp
   have HSZ:Hid (w.heap.size+2<=(wr.alloc XB).heap.size):=HW1.out.sz
   have HL1:Hid ((((items.take i).map fun t=>Value.float .f64 t.numOf).length+1)*8<=140737488355328):=by unfold Hid;have:=HLB.out;rw [List.length_map];omega
   have HL2:Hid (((items.take i).map fun t=>Value.float .f64 t.numOf).length+1<=140737488355328):=by unfold Hid;have:=HLB.out;rw [List.length_map];omega
   subst hXB
   go_wp2_with (at_builtin;go_loud (refine wpList_push1' rfl (.tmp 63) (.tmp 66) 34 51 rfl Tryz.underlying34 (.float .f64 0) 8 info_f64 rfl (w.heap.size+2) (.slice vA vn vc) ((items.take i).map fun t=>Value.float .f64 t.numOf) rfl HO1.out (.float .f64 n') rfl (wr.heap.size+1) HGG.out rfl HL1.out HL2.out HSZ.out ?_);intro v' w' hown' hbw;(obtain ⟨vA',vn',vc',hvn'⟩:∃ A n c,v'= .slice A n c:=by (obtain ⟨a,c,e⟩:=hown'.reads.len;exact ⟨a,_,c,e⟩));subst hvn';have HV:=Lib.hid hown';have HOF2:=Lib.hid (HW1.out.more (hbw _ (Below.refl _ _)));clear hown' hbw)
   go_roundw
   case rel=>exact ⟨i+1,vA',vn',vc',by omega,by go_num,rfl,by rw [HTK.out,List.map_append];exact HV.out,HOF2.out⟩
   case measure=>simp [intOf];omega
  ·have hge:¬ (i:Int) < (m:Int):=by omega
   obtain rfl:i=m:=by omega
   have HTL:Hid (items.take i=items):=by unfold Hid;rw [HMI.out];exact List.take_length
   rw [HTL.out] at HOWN
   have HRD:Hid (Reads1 wr (.slice vA vn vc) ((List.range i).map fun j => .float .f64 ((items.map RI.numOf).getD j 0))):=by
    unfold Hid
    have h1:=HOWN.out.reads
    have h2:=map_range_getD (items.map RI.numOf) 0 (Value.float .f64)
    rw [List.length_map,<- HMI.out,List.map_map] at h2
    rw [h2];exact h1
   have HG:Hid (∀ j,j < i->okF ((items.map RI.numOf).getD j 0)=true/\(items.map RI.numOf).getD j 0 < 18446744073709551616):=fun j hj=>by
    have hji:j < items.length:=by have:=HMI.out;omega
    have h1:=HOKI.out j hji
    have e:(items.map RI.numOf).getD j 0=items[j].numOf:=by simp [List.getD,hji]
    rw [e]
    generalize items[j]=it at h1
    cases it with
    | mk k n c box =>
     rw [OkI] at h1
     exact h1.2.1 h1.1
   have HN:=Lib.hid (numbers_tid (fun b=>H b\/b=w.heap.size+1) (.slice vA vn vc) i (fun j=>(items.map RI.numOf).getD j 0) wr (fun b e=>by
    have h1:=HOF.out.sz
    rcases e with e | e
    ·have:=hH b e;omega
    ·omega) HRD.out (by omega) (fun j hj=>(HG.out j hj).2) (fun j hj=>(HG.out j hj).1))
   unfold Vec2R at HN
   go_wp2_with fail
   refine HN.out.mono ?_
   rintro e w2 ⟨k4,b4,bn4,s4,i4,f4,c4,x4,rfl,hkv,hb2⟩
   obtain ⟨p,hp⟩:∃ p:V8,p=⟨k4,b4,bn4,s4,i4,f4,c4,x4⟩:=⟨_,rfl⟩
   have hkv2:Keeps (fun b=>H b\/b=w.heap.size+1) w2 (NumV p.v (leastF (fun j=>tidF ((items.map RI.numOf).getD j 0)) i:Nat) i (fun j=>tidF ((items.map RI.numOf).getD j 0))):=by rw [hp];exact hkv
   clear hkv HN HRD HG
   have hkv:=hkv2
   clear hkv2
   have HOF3:=Lib.hid ((HOF.out.step hb2).step (bel1 w2 p.o))
   obtain ⟨y0,y1,y2⟩:=(HOF.out.step hb2).arg
   have gy2:=fun o=>cell_box1 y2 o
   have HB3:=Lib.hid (bel_both hb2 (bel1 w2 p.o))
   have HKV:=Lib.hid (Keeps.lat hkv (Lat.below (bel1 w2 p.o)))
   have HBP:=Lib.hid (boxP_new w2 p)
   obtain ⟨W3,hW3⟩:∃ W3,W3=w2.alloc p.o:=⟨_,rfl⟩
   rw [<- hW3] at HOF3 HB3 HKV HBP
   have HH1:Hid (∀ W:World,W3.heap.size<=W.heap.size->∀ b,(H b\/b=w.heap.size+1)->b < W.heap.size):=fun W hW b e=>by
    have h1:=OfI.sz (Hid.out HOF3)
    rcases e with e | e
    ·have:=hH b e;omega
    ·omega
   have HSH1:Hid (∀ W:World,Below W3.heap.size W3 W->ShV (fun b=>H b\/b=w.heap.size+1) W h sn):=fun W hb=>Keeps.lat (Keeps.lat (Keeps.sub HSH.out (fun b hb e=>by
    rcases e with e | e
    ·exact e
    ·omega)) (Lat.below HOF3.out.bel)) (Lat.below hb)
   have HCL:=Lib.hid (fun W (hb:Below W3.heap.size W3 W)=>clShc_any (HSH1.out W hb) HLN.out (HH1.out W hb.size))
   clear hb2 hkv c0 c1 c2
   subst hp
   dsimp only [V8.o] at hW3
   go_wp2
   rw [<- hW3]
   obtain ⟨a0,a1,a2⟩:=HOF3.out.arg
   obtain ⟨⟨z0,z1,z2,z3,z4,z5,z6,z7,z8⟩,zz⟩:=zero_block HOF3.out.res
   obtain ⟨p0,p1,p2,p3,p4,p5,p6,p7⟩:=(show Boxed W3 w2.heap.size k4 (.slice b4.1 b4.2.1 b4.2.2) bn4 (.slice s4.1 s4.2.1 s4.2.2) (.slice i4.1 i4.2.1 i4.2.2) (.slice f4.1 f4.2.1 f4.2.2) (.slice c4.1 c4.2.1 c4.2.2) (.slice x4.1 x4.2.1 x4.2.2) from HBP.out)
   have hl1:w2.heap.size < W3.heap.size:=HBP.out.lt
   have hl2:w.heap.size+1 < W3.heap.size:=lt_blk HOF3.out.res
   have hl3:w.heap.size < W3.heap.size:=by omega
   clear hW3 gy2 y0 y1 y2
   go_region_with (go_at_call 69;((with_reducible refine (HCL.out _ ?_).mono ?_);(repeat (first | (with_reducible assumption) | (with_reducible exact Below.refl _ _) | (with_reducible refine Below.drew ?_)));rintro e wa ⟨cA,cn,ccc,rfl,hsh,hcap,hba⟩);have HCAP:=Lib.hid hcap;clear hcap;have HBa:=Lib.hid (bel_both (show Below W3.heap.size W3 W3.drew from (Below.refl _ _).drew) hba);have HOFa:=Lib.hid (HOF3.out.step HBa.out);(obtain ⟨⟨y0,y1,y2,y3,y4,y5,y6,y7,y8⟩,yy⟩:=zero_block HOFa.out.res);(obtain ⟨q0,q1,q2,q3,q4,q5,q6,q7⟩:=(show Boxed wa w2.heap.size k4 (.slice b4.1 b4.2.1 b4.2.2) bn4 (.slice s4.1 s4.2.1 s4.2.2) (.slice i4.1 i4.2.1 i4.2.2) (.slice f4.1 f4.2.1 f4.2.2) (.slice c4.1 c4.2.1 c4.2.2) (.slice x4.1 x4.2.1 x4.2.2) from HBP.out.below HBa.out));have HSHa:=Lib.hid hsh;clear hba hsh)
   all_goals
    go_wp2
    refine bodyPost_ret (v := .tuple #[arrV (cA,cn,ccc) ⟨k4,b4,bn4,s4,i4,f4,c4,x4⟩,.int .i64 0]) ?_ rfl ⟨(cA,cn,ccc),⟨k4,b4,bn4,s4,i4,f4,c4,x4⟩,rfl,av_nums HMI.out (Keeps.sub (Keeps.lat HSHa.out (Lat.set9 (G:=w.heap.size+1) (.inr rfl) _ _ _ _ _ _ _ _ _)) (fun _ _ e => .inl e)) (Keeps.sub (Keeps.lat (Keeps.lat HKV.out (Lat.below HBa.out)) (Lat.set9 (G:=w.heap.size+1) (.inr rfl) _ _ _ _ _ _ _ _ _)) (fun _ _ e => .inl e)),below_set9 HOFa.out.bel (Nat.le_succ _) _ _ _ _ _ _ _ _ _,HCAP.out⟩
    exact ret_arr2 (fn:=Tryz.f116) (p:=4) (u:=5) rfl _ _ (w.heap.size+1) (by rfl) (set9_block HOFa.out.res _ _ _ _ _ _ _ _ _)
theorem aofc (H:Nat->Prop) (s:List Int) (items:List RI) (h x:Sl) (f:Int) (w:World) (hH:∀ b,H b->b < w.heap.size) (hok:OkP 40 (.mk s items 0)) (hM:cntP (.mk s items 0)<=1000000) (hr:PV H w (.mk s items 0) h x f) :
  Calls Tryz.prog 116 #[plV h x f,.int .i64 ((40:Nat):Int)] w (AvC H w (clP (.mk s items 0))):=by
 obtain ⟨_,rfl,_,_⟩:=hr.open_
 rw [OkP] at hok
 obtain ⟨_,_,⟨sn,rfl,hs⟩,hi⟩:=hok
 exact of_0c H 39 (by omega) sn items h x w hH hi hs hM hr
theorem vOfc_any (H:Nat->Prop) (s:List Int) (items:List RI) (h x:Sl) (f:Int) (w:World) (hH:∀ b,H b->b < w.heap.size) (hok:OkP 40 (.mk s items 0)) (hM:cntP (.mk s items 0)<=1000000) (hr:PV H w (.mk s items 0) h x f) :
  Calls Tryz.prog 57 #[plV h x f] w (AvC H w (clP (.mk s items 0))):=by
 have HI0:=Lib.hid (OfI.new w h x f)
 have HC:=Lib.hid (aofc (Hole H w ((w.alloc (.cells #[sv h,sv x,.int .i64 f] 25)).alloc (.cells zeroL 40))) s items h x f _ (Hole.lt hH HI0.out.bel) hok hM (hr.arg HI0.out.bel))
 unfold AvC at HC
 have HH:=Lib.hid hH
 clear hok hM hr hH
 go_enter Tryz.func57,Tryz.ntmps57
 obtain ⟨c0,c1,c2⟩:=HI0.out.arg
 go_wp2_with fail
 refine HC.out.mono ?_
 rintro e w1 ⟨h',p,rfl,hav,hb,hcap⟩
 have HCAP:=Lib.hid hcap
 clear hcap
 have HOF:=Lib.hid (HI0.out.step hb)
 have HAV:=Lib.hid hav
 have hlt:w.heap.size+1 < ((w.alloc (.cells #[sv h,sv x,.int .i64 f] 25)).alloc (.cells zeroL 40)).heap.size:=lt_blk HI0.out.res
 have HLT:=Lib.hid hlt
 obtain ⟨⟨z0,z1,z2,z3,z4,z5,z6,z7,z8⟩,zz⟩:=zero_block HOF.out.res
 clear hb hav hlt c0 c1 c2
 go_wp2
 refine bodyPost_ret (v := .tuple #[arrV h' p,.int .i64 0]) ?_ rfl ⟨h',p,rfl,AV.sub (fun b _ e => .inl e) (AV.lat (Lat.set9 (G:=w.heap.size+1) (.inr ⟨by omega,HLT.out⟩) _ _ _ _ _ _ _ _ _) HAV.out),below_set9 HOF.out.bel (Nat.le_succ _) _ _ _ _ _ _ _ _ _,HCAP.out⟩
 exact ret_arr2 (fn:=Tryz.f57) (p:=2) (u:=3) rfl _ _ (w.heap.size+1) (by rfl) (set9_block HOF.out.res _ _ _ _ _ _ _ _ _)
theorem lawOfc_any (H:Nat->Prop) (s:List Int) (items:List RI) (h x:Sl) (f:Int) (w:World) (hH:∀ b,H b->b < w.heap.size) (hok:OkP 40 (.mk s items 0)) (hM:cntP (.mk s items 0)<=1000000) (hr:PV H w (.mk s items 0) h x f) :
  Calls Tryz.prog 13 #[plV h x f] w (AaC H w (clP (.mk s items 0))):=by
 have HI0:=Lib.hid (OfI.new w h x f)
 have HC:=Lib.hid (vOfc_any (Hole H w ((w.alloc (.cells #[sv h,sv x,.int .i64 f] 25)).alloc (.cells zeroL 40))) s items h x f _ (Hole.lt hH HI0.out.bel) hok hM (hr.arg HI0.out.bel))
 unfold AvC at HC
 have HH:=Lib.hid hH
 clear hok hM hr hH
 go_enter Tryz.func13,Tryz.ntmps13
 obtain ⟨c0,c1,c2⟩:=HI0.out.arg
 go_wp2_with fail
 refine HC.out.mono ?_
 rintro e w1 ⟨h',p,rfl,hav,hb,hcap⟩
 have HCAP:=Lib.hid hcap
 clear hcap
 have HOF:=Lib.hid (HI0.out.step hb)
 have HAV:=Lib.hid hav
 have hlt:w.heap.size+1 < ((w.alloc (.cells #[sv h,sv x,.int .i64 f] 25)).alloc (.cells zeroL 40)).heap.size:=lt_blk HI0.out.res
 have HLT:=Lib.hid hlt
 obtain ⟨⟨y0,y1,y2,y3,y4,y5,y6,y7,y8⟩,yz⟩:=zero_block HOF.out.res
 have hl1:w.heap.size+1 < w1.heap.size:=lt_blk HOF.out.res
 have b0:=fun o=>cell_box1 y0 o
 have b1:=fun o=>cell_box1 y1 o
 have b2:=fun o=>cell_box1 y2 o
 have b3:=fun o=>cell_box1 y3 o
 have b4:=fun o=>cell_box1 y4 o
 have b5:=fun o=>cell_box1 y5 o
 have b6:=fun o=>cell_box1 y6 o
 have b7:=fun o=>cell_box1 y7 o
 have b8:=fun o=>cell_box1 y8 o
 have u0:=fun (j:Nat) o=>frozen_box (j:=0) y0 yz o
 have u1:=fun o=>frozen_box y1 yz o
 have u2:=fun o=>frozen_box y2 yz o
 have u3:=fun o=>frozen_box y3 yz o
 have u4:=fun o=>frozen_box y4 yz o
 have u5:=fun o=>frozen_box y5 yz o
 have u6:=fun o=>frozen_box y6 yz o
 have u7:=fun o=>frozen_box y7 yz o
 have u8:=fun o=>frozen_box y8 yz o
 have u00:=fun o=>frozen_box y0 yz o
 clear hb hav hlt c0 c1 c2 u0
 go_wp2
 refine bodyPost_ret (v:=arrV h' p) ?_ rfl ⟨h',p,rfl,AV.sub (fun b _ e => .inl e) (AV.step (AV.lat (Lat.set9 (G:=w.heap.size+1) (.inr ⟨by omega,HLT.out⟩) _ _ _ _ _ _ _ _ _) HAV.out) (bel1 _ _)),bel_both (below_set9 HOF.out.bel (Nat.le_succ _) _ _ _ _ _ _ _ _ _) (bel1 _ _),HCAP.out⟩
 exact ret_arr (fn:=Tryz.f13) (p:=2) rfl _ _ (w.heap.size+1) (by rfl) (blk_alloc (set9_block HOF.out.res _ _ _ _ _ _ _ _ _) _)
mutual
def TfP:RP->Prop
 | .mk _ items _=>TfIs items
def TfIs:List RI->Prop
 | []=>True
 | t::ts=>TfI t/\TfIs ts
def TfI:RI->Prop
 | .mk _ n _ box=>TF n/\TfPs box
def TfPs:List RP->Prop
 | []=>True
 | t::ts=>TfP t/\TfPs ts
end
theorem tfIs_at:∀ {ts:List RI}{i:Nat} (hi:i < ts.length),TfIs ts->TfI ts[i]
 | [],_,hi,_=>by simp at hi
 | t::ts,0,_,h=>by rw [TfIs] at h;exact h.1
 | t::ts,i+1,hi,h=>by rw [TfIs] at h;simpa using tfIs_at (ts:=ts) (i:=i) (by simpa using hi) h.2
theorem tfIs_of:∀ (ts:List RI),(∀ i (hi:i < ts.length),TfI ts[i])->TfIs ts
 | [],_=>by rw [TfIs];trivial
 | t::ts,h=>by
  rw [TfIs]
  exact ⟨by have:=h 0 (by simp);simpa using this,tfIs_of ts fun i hi=>by have:=h (i+1) (by simpa using hi);simpa using this⟩
theorem tfPs_at:∀ {ts:List RP}{i:Nat} (hi:i < ts.length),TfPs ts->TfP ts[i]
 | [],_,hi,_=>by simp at hi
 | t::ts,0,_,h=>by rw [TfPs] at h;exact h.1
 | t::ts,i+1,hi,h=>by rw [TfPs] at h;simpa using tfPs_at (ts:=ts) (i:=i) (by simpa using hi) h.2
mutual
theorem tf_raw:∀ (d:Nat) (a:PA),GoodA d a->TfP (rawP a)
 | d,.nums s l,h=>by
  rw [rawP,TfP]
  rw [GoodA] at h
  refine tfIs_of _ fun i hi=>?_
  rw [List.getElem_map,TfI,TfPs]
  exact ⟨h.2.2 _ (List.getElem_mem _),trivial⟩
 | d,.chars s l,h=>by
  rw [rawP,TfP]
  refine tfIs_of _ fun i hi=>?_
  rw [List.getElem_map,TfI,TfPs]
  exact ⟨tf_zero,trivial⟩
 | d,.boxes s l,h=>by
  rw [GoodA] at h
  rw [rawP,TfP]
  exact tf_rawBs (d - 1) l h.2.2
theorem tf_rawBs:∀ (d:Nat) (l:List PA),GoodAs d l->TfIs (rawBs l)
 | _,[],_=>by rw [rawBs,TfIs];trivial
 | d,a::ar,h=>by
  rw [GoodAs] at h
  rw [rawBs,TfIs,TfI,TfPs,TfPs]
  exact ⟨⟨tf_zero,tf_raw d a h.1,trivial⟩,tf_rawBs d ar h.2⟩
end
mutual
def LnP:RP->Prop
 | .mk s items _=>s.length<=1048576/\items.length<=1048576/\LnIs items
def LnIs:List RI->Prop
 | []=>True
 | t::ts=>LnI t/\LnIs ts
def LnI:RI->Prop
 | .mk _ _ _ box=>box.length<=1048576/\LnPs box
def LnPs:List RP->Prop
 | []=>True
 | t::ts=>LnP t/\LnPs ts
end
theorem lnIs_at:∀ {ts:List RI}{i:Nat} (hi:i < ts.length),LnIs ts->LnI ts[i]
 | [],_,hi,_=>by simp at hi
 | t::ts,0,_,h=>by rw [LnIs] at h;exact h.1
 | t::ts,i+1,hi,h=>by rw [LnIs] at h;simpa using lnIs_at (ts:=ts) (i:=i) (by simpa using hi) h.2
theorem lnIs_of:∀ (ts:List RI),(∀ i (hi:i < ts.length),LnI ts[i])->LnIs ts
 | [],_=>by rw [LnIs];trivial
 | t::ts,h=>by
  rw [LnIs]
  exact ⟨by have:=h 0 (by simp);simpa using this,lnIs_of ts fun i hi=>by have:=h (i+1) (by simpa using hi);simpa using this⟩
theorem lnPs_at:∀ {ts:List RP}{i:Nat} (hi:i < ts.length),LnPs ts->LnP ts[i]
 | [],_,hi,_=>by simp at hi
 | t::ts,0,_,h=>by rw [LnPs] at h;exact h.1
 | t::ts,i+1,hi,h=>by rw [LnPs] at h;simpa using lnPs_at (ts:=ts) (i:=i) (by simpa using hi) h.2
mutual
theorem ln_raw:∀ (d:Nat) (a:PA),GoodA d a->SmA 1000000 a->LnP (rawP a)
 | d,.nums s l,h,hs=>by
  have h8:s.length<=8:=h.sh.2.1
  have hl:l.length<=1000000:=hs.len
  rw [rawP,LnP,List.length_map,List.length_map]
  refine ⟨by omega,by omega,lnIs_of _ fun i hi=>?_⟩
  rw [List.getElem_map,LnI,LnPs]
  exact ⟨by simp,trivial⟩
 | d,.chars s l,h,hs=>by
  have h8:s.length<=8:=h.sh.2.1
  have hl:l.length<=1000000:=hs.len
  rw [rawP,LnP,List.length_map,List.length_map]
  refine ⟨by omega,by omega,lnIs_of _ fun i hi=>?_⟩
  rw [List.getElem_map,LnI,LnPs]
  exact ⟨by simp,trivial⟩
 | d,.boxes s l,h,hs=>by
  have h8:s.length<=8:=h.sh.2.1
  have hl:l.length<=1000000:=hs.len
  rw [GoodA] at h
  rw [SmA] at hs
  rw [rawP,LnP,List.length_map,rawBs_len]
  exact ⟨by omega,by omega,ln_rawBs (d - 1) l h.2.2 hs.2⟩
theorem ln_rawBs:∀ (d:Nat) (l:List PA),GoodAs d l->SmAs 1000000 l->LnIs (rawBs l)
 | _,[],_,_=>by rw [rawBs,LnIs];trivial
 | d,a::ar,h,hs=>by
  rw [GoodAs] at h
  rw [SmAs] at hs
  rw [rawBs,LnIs,LnI,LnPs,LnPs]
  exact ⟨⟨by simp,ln_raw d a h.1 hs.1,trivial⟩,ln_rawBs d ar h.2 hs.2⟩
end
abbrev itO (k:Int) (n:Nat) (c:Int) (x:Sl):Obj := .cells #[.int .i64 k,.float .f64 n,.int .i32 c,.slice x.1 x.2.1 x.2.2] 55
abbrev plO (h x:Sl) (f:Int):Obj := .cells #[.slice h.1 h.2.1 h.2.2,.slice x.1 x.2.1 x.2.2,.int .i64 f] 25
theorem at4_c {w:World}{b:Nat}{k:Int}{n:Nat}{c:Int}{x:Sl} (g:At4 w b 0 k n c x):w.cell? ⟨b,0,none⟩=some (.int .i64 k)/\w.cell? ⟨b,1,none⟩=some (.float .f64 n)/\w.cell? ⟨b,2,none⟩=some (.int .i32 c)/\w.cell? ⟨b,3,none⟩=some (.slice x.1 x.2.1 x.2.2):=g
theorem at3_c {w:World}{b:Nat}{h x:Sl}{f:Int} (g:At3 w b 0 h x f):w.cell? ⟨b,0,none⟩=some (.slice h.1 h.2.1 h.2.2)/\w.cell? ⟨b,1,none⟩=some (.slice x.1 x.2.1 x.2.2)/\w.cell? ⟨b,2,none⟩=some (.int .i64 f):=g
theorem at4_box (w:World) (k:Int) (n:Nat) (c:Int) (x:Sl):At4 (w.alloc (itO k n c x)) w.heap.size 0 k n c x:=by
 have h:=block4 (heap_alloc_new w (itO k n c x))
 exact h.1
theorem at3_box (w:World) (h x:Sl) (f:Int):At3 (w.alloc (plO h x f)) w.heap.size 0 h x f:=by
 have g:=block3 (heap_alloc_new w (plO h x f))
 exact g.1
structure Two3 (w:World) (h x h' x':Sl) (f:Int) (W:World):Prop where
 one:At3 W w.heap.size 0 h x f
 two:At3 W (w.heap.size+1) 0 h' x' f
 bel:Below w.heap.size w W
theorem Two3.new (w:World) (h x h' x':Sl) (f:Int):Two3 w h x h' x' f ((w.alloc (plO h x f)).alloc (plO h' x' f)):=by
 have g:=at3_box (w.alloc (plO h x f)) h' x' f
 have e:(w.alloc (plO h x f)).heap.size=w.heap.size+1:=by simp
 rw [e] at g
 exact ⟨(at3_box w h x f).of fun j=>(bel1 _ _).cell (p:=⟨w.heap.size,j,none⟩) (by simp),g,bel2 _ _ _⟩
theorem Two3.step {w W W':World}{h x h' x':Sl}{f:Int} (g:Two3 w h x h' x' f W) (hb:Below W.heap.size W W'):Two3 w h x h' x' f W' :=
 ⟨g.one.of fun j=>hb.cell (p:=⟨w.heap.size,j,none⟩) g.one.lt,g.two.of fun j=>hb.cell (p:=⟨w.heap.size+1,j,none⟩) g.two.lt,bel_both g.bel hb⟩
structure Two4 (w:World) (k:Int) (n:Nat) (c:Int) (x x':Sl) (W:World):Prop where
 one:At4 W w.heap.size 0 k n c x
 two:At4 W (w.heap.size+1) 0 k n c x'
 bel:Below w.heap.size w W
theorem Two4.new (w:World) (k:Int) (n:Nat) (c:Int) (x x':Sl):Two4 w k n c x x' ((w.alloc (itO k n c x)).alloc (itO k n c x')):=by
 have g:=at4_box (w.alloc (itO k n c x)) k n c x'
 have e:(w.alloc (itO k n c x)).heap.size=w.heap.size+1:=by simp
 rw [e] at g
 exact ⟨(at4_box w k n c x).of fun j=>(bel1 _ _).cell (p:=⟨w.heap.size,j,none⟩) (by simp),g,bel2 _ _ _⟩
theorem Two4.step {w W W':World}{k:Int}{n:Nat}{c:Int}{x x':Sl} (g:Two4 w k n c x x' W) (hb:Below W.heap.size W W'):Two4 w k n c x x' W' :=
 ⟨g.one.of fun j=>hb.cell (p:=⟨w.heap.size,j,none⟩) g.one.lt,g.two.of fun j=>hb.cell (p:=⟨w.heap.size+1,j,none⟩) g.two.lt,bel_both g.bel hb⟩
def SameC (t:RP):Prop:=∀ (H H':Nat->Prop) (h x h' x':Sl) (f f':Int) (w:World),PV H w t h x f->PV H' w t h' x' f' ->
  Calls Tryz.prog 62 #[plV h x f,plV h' x' f'] w fun e w'=>e= .returned (.bool true)/\Below w.heap.size w w'
theorem ritem_any (kind:Int) (num:Nat) (char:Int) (box:List RP) (hnum:TF num) (hl:box.length<=1048576) (hih:∀ i (hi:i < box.length),SameC box[i]) (H H':Nat->Prop) (k:Int) (n:Nat) (c:Int) (x:Sl) (k':Int) (n':Nat) (c':Int) (x':Sl) (w:World)
  (hp:IV H w (.mk kind num char box) k n c x) (hq:IV H' w (.mk kind num char box) k' n' c' x') :
  Calls Tryz.prog 120 #[itV k n c x,itV k' n' c' x'] w fun e w'=>e= .returned (.bool true)/\Below w.heap.size w w':=by
 obtain ⟨rfl,rfl,rfl,hx,hk⟩:=hp.open_
 obtain ⟨rfl,rfl,rfl,hx',hk'⟩:=hq.open_
 obtain ⟨A,m,cc⟩:=x
 obtain ⟨A',m',cc'⟩:=x'
 dsimp only at hx hx' hk hk'
 obtain rfl:m'=m:=by omega
 have hmb:m'<=1048576:=by omega
 have HM:=Lib.hid hx
 have HK:=Lib.hid hk
 have HK':=Lib.hid hk'
 have HIH:=Lib.hid hih
 unfold SameC at HIH
 have HBT:=Lib.hid (fun W=>bits_tf hnum W)
 have HT0:=Lib.hid (Two4.new w k' n' c' (A,m',cc) (A',m',cc'))
 have e1:(k' != k')=false:=by simp
 have e2:(c' != c')=false:=by simp
 have e3:((m':Int) != (m':Int))=false:=by simp
 obtain ⟨W,hW⟩:∃ W,W=(w.alloc (itO k' n' c' (A,m',cc))).alloc (itO k' n' c' (A',m',cc')):=⟨_,rfl⟩
 have HW:=Lib.hid hW
 rw [<- hW] at HT0
 clear hp hq hx hx' hk hk' hih hnum hl hW
 go_enter Tryz.func120,Tryz.ntmps120
 go_wp2_with fail
 rw [<- HW.out]
 refine (HBT.out _).mono ?_
 rintro e w' ⟨rfl,rfl⟩
 obtain ⟨a0,a1,a2,a3⟩:=at4_c HT0.out.one
 obtain ⟨b0,b1,b2,b3⟩:=at4_c HT0.out.two
 dsimp only at a3 b3
 go_wp2
 clear a0 a1 a2 a3 b0 b1 b2 b3
 go_loopw [5,5] (fun _ iv wr=>∃ i:Nat,i<=m'/\iv= .int .i64 (i:Int)/\Below W.heap.size W wr) (fun _ iv _=>m' - (intOf iv).toNat)
 case atStart=>exact ⟨0,Nat.zero_le _,rfl,Below.refl _ _⟩
 case round =>
  obtain ⟨i,hi,rfl,hbl⟩:=hrel
  have HTR:=Lib.hid (HT0.out.step hbl)
  obtain ⟨a0,a1,a2,a3⟩:=at4_c HTR.out.one
  obtain ⟨b0,b1,b2,b3⟩:=at4_c HTR.out.two
  dsimp only at a3 b3
  have HBL:=Lib.hid hbl
  by_cases hlt:i < m'
  ·have h1:i < box.length:=by have:=HM.out;omega
   obtain ⟨b,o,p0,p1,p2,rfl,-,hpv,hce⟩:=HK.out i h1
   obtain ⟨b',o',r0,r1,r2,rfl,-,hpv',hce'⟩:=HK'.out i h1
   obtain ⟨c0,c1,c2⟩:=hce _ (Lat.below HTR.out.bel)
   obtain ⟨d0,d1,d2⟩:=hce' _ (Lat.below HTR.out.bel)
   dsimp only [sv] at c0 c1 c2 d0 d1 d2
   have HIC:=Lib.hid (HIH.out i h1 _ _ p0 p1 r0 r1 p2 r2 _ (hpv.step (bel_both HTR.out.bel (below_drewN (Below.refl wr.heap.size wr) 1))) (hpv'.step (bel_both HTR.out.bel (below_drewN (Below.refl wr.heap.size wr) 1))))
   have hlt2:(i:Int) < (m':Int):=by omega
   clear hbl hce hce' hpv hpv'
   go_wp2
   go_still_tail 10,(by kernel_rfl)
   change wpList _ _ _ _ _ (wr.drewN 1)
   have HB1:=Lib.hid (bel_both HBL.out (below_drewN (Below.refl wr.heap.size wr) 1))
   clear a0 a1 a2 a3 b0 b1 b2 b3 c0 c1 c2 d0 d1 d2
   generalize wr.drewN 1=wd at *
   go_wp2_with fail
   refine HIC.out.mono ?_
   rintro e w2 ⟨rfl,hb⟩
   have HB2:=Lib.hid (bel_both HB1.out hb)
   clear hb
   go_wp2
   go_roundw
   case rel=>exact ⟨i+1,by omega,by go_num,HB2.out⟩
   case measure=>simp [intOf];omega
  ·have hlt2:¬ (i:Int) < (m':Int):=by omega
   clear hbl
   go_wp2
   go_ret
   exact ⟨rfl,HTR.out.bel⟩
theorem rsame_step (s:List Int) (items:List RI) (fill:Int) (hs:s.length<=1048576) (hl:items.length<=1048576)
  (hih:∀ i (hi:i < items.length) (H H':Nat->Prop) (k:Int) (n:Nat) (c:Int) (x:Sl) (k':Int) (n':Nat) (c':Int) (x':Sl) (w:World),IV H w items[i] k n c x->IV H' w items[i] k' n' c' x' ->
   Calls Tryz.prog 120 #[itV k n c x,itV k' n' c' x'] w fun e w'=>e= .returned (.bool true)/\Below w.heap.size w w') :
  SameC (.mk s items fill):=by
 intro H H' h x h' x' f f' w hp hq
 obtain ⟨hsr,rfl,hx,hk⟩:=hp.open_
 obtain ⟨hsr',rfl,hx',hk'⟩:=hq.open_
 obtain ⟨A,m,cc⟩:=x
 obtain ⟨A',m',cc'⟩:=x'
 dsimp only at hx hx' hk hk'
 obtain rfl:m'=m:=by omega
 have hmb:m'<=1048576:=by omega
 have HM:=Lib.hid hx
 have HK:=Lib.hid hk
 have HK':=Lib.hid hk'
 have HIH:=Lib.hid hih
 have HT0:=Lib.hid (Two3.new w h (A,m',cc) h' (A',m',cc') f')
 have e1:(f' != f')=false:=by simp
 have e3:((m':Int) != (m':Int))=false:=by simp
 obtain ⟨W,hW⟩:∃ W,W=(w.alloc (plO h (A,m',cc) f')).alloc (plO h' (A',m',cc') f'):=⟨_,rfl⟩
 have HW:=Lib.hid hW
 rw [<- hW] at HT0
 have HIN:=Lib.hid (ints_same (sv h) (sv h') s W (Keeps.lat hsr (Lat.below HT0.out.bel)).now (Keeps.lat hsr' (Lat.below HT0.out.bel)).now hs)
 clear hp hq hx hx' hk hk' hih hl hW hsr hsr' hs
 go_enter Tryz.func62,Tryz.ntmps62
 go_wp2_with fail
 rw [<- HW.out]
 refine HIN.out.mono ?_
 rintro e w1 ⟨rfl,hb⟩
 have HT1:=Lib.hid (HT0.out.step hb)
 clear hb HT0 HIN
 obtain ⟨a0,a1,a2⟩:=at3_c HT1.out.one
 obtain ⟨b0,b1,b2⟩:=at3_c HT1.out.two
 dsimp only at a1 b1
 go_wp2
 clear a0 a1 a2 b0 b1 b2
 go_loopw [5,5] (fun _ iv wr=>∃ i:Nat,i<=m'/\iv= .int .i64 (i:Int)/\Below w1.heap.size w1 wr) (fun _ iv _=>m' - (intOf iv).toNat)
 case atStart=>exact ⟨0,Nat.zero_le _,rfl,Below.refl _ _⟩
 case round =>
  obtain ⟨i,hi,rfl,hbl⟩:=hrel
  have HTR:=Lib.hid (HT1.out.step hbl)
  obtain ⟨a0,a1,a2⟩:=at3_c HTR.out.one
  obtain ⟨b0,b1,b2⟩:=at3_c HTR.out.two
  dsimp only at a1 b1
  have HBL:=Lib.hid hbl
  by_cases hlt:i < m'
  ·have h1:i < items.length:=by have:=HM.out;omega
   obtain ⟨b,o,p0,p1,p2,p3,rfl,-,hpv,hce⟩:=HK.out i h1
   obtain ⟨b',o',r0,r1,r2,r3,rfl,-,hpv',hce'⟩:=HK'.out i h1
   obtain ⟨c0,c1,c2,c3⟩:=hce _ (Lat.below HTR.out.bel)
   obtain ⟨d0,d1,d2,d3⟩:=hce' _ (Lat.below HTR.out.bel)
   dsimp only [sv] at c0 c1 c2 c3 d0 d1 d2 d3
   have HIC:=Lib.hid (HIH.out i h1 _ _ p0 p1 p2 p3 r0 r1 r2 r3 _ (hpv.step (bel_both HTR.out.bel (below_drewN (Below.refl wr.heap.size wr) 1))) (hpv'.step (bel_both HTR.out.bel (below_drewN (Below.refl wr.heap.size wr) 1))))
   have hlt2:(i:Int) < (m':Int):=by omega
   clear hbl hce hce' hpv hpv'
   go_wp2
   go_still_tail 10,(by kernel_rfl)
   change wpList _ _ _ _ _ (wr.drewN 1)
   have HB1:=Lib.hid (bel_both HBL.out (below_drewN (Below.refl wr.heap.size wr) 1))
   clear a0 a1 a2 b0 b1 b2 c0 c1 c2 c3 d0 d1 d2 d3
   generalize wr.drewN 1=wd at *
   go_wp2_with fail
   refine HIC.out.mono ?_
   rintro e w2 ⟨rfl,hb⟩
   have HB2:=Lib.hid (bel_both HB1.out hb)
   clear hb
   go_wp2
   go_roundw
   case rel=>exact ⟨i+1,by omega,by go_num,HB2.out⟩
   case measure=>simp [intOf];omega
  ·have hlt2:¬ (i:Int) < (m':Int):=by omega
   clear hbl
   go_wp2
   go_ret
   exact ⟨rfl,HTR.out.bel⟩
theorem rsame_any:∀ (N:Nat) (t:RP),cntP t<=N->LnP t->TfP t->SameC t
 | 0,t,h,_,_=>by have:=cntP_pos t;omega
 | N+1,.mk s items fill,h,hN,ht=>by
  rw [cntP] at h
  rw [TfP] at ht
  rw [LnP] at hN
  refine rsame_step s items fill hN.1 hN.2.1 fun i hi=>?_
  have hc:=cntIs_at hi
  have htf:=tfIs_at hi ht
  have hln:=lnIs_at hi hN.2.2
  generalize items[i]=it at hc htf hln
  cases it with
  | mk kind num char box =>
   rw [cntI] at hc
   rw [TfI] at htf
   rw [LnI] at hln
   exact ritem_any kind num char box htf.1 hln.1 fun j hj=>rsame_any N box[j] (by have:=cntPs_at hj;omega) (lnPs_at hj hln.2) (tfPs_at hj htf.2)
theorem rsame_raw {a:PA} (d:Nat) (hg:GoodA d a) (hs:SmA 1000000 a):SameC (rawP a):=rsame_any (cntP (rawP a)) _ (Nat.le_refl _) (ln_raw d a hg hs) (tf_raw d a hg)
end Go.Proofs.YtakgmnafbjdccaaGreatDoor
