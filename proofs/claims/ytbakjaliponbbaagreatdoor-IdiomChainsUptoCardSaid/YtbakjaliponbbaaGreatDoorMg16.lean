/- The walk of value.of over good plain arrays of fill 0. The walk of value.of over good plain arrays of fill 1. The walk of value.of over good plain arrays of .. Conditions: as each theorem says. -/
import Derived.Test.YtbakjaliponbbaaGreatDoorMg12
set_option maxRecDepth 100000
set_option maxHeartbeats 4000000
namespace Go.Proofs.YtbakjaliponbbaaGreatDoor
open Go Go.RowKit Go.Proofs Fl
theorem of_0 (H:Nat->Prop) (d:Nat) (hd:d<=40) (sn:List Nat) (items:List RI) (h x:Sl) (w:World) (hH:∀ b,H b->b < w.heap.size) (hok:OkIs (d+1) 0 items) (hsn:OkSh sn items.length) (hM:cntP (.mk (sn.map Int.ofNat) items 0)<=1000000) (hr:PV H w (.mk (sn.map Int.ofNat) items 0) h x 0) :
  Calls Tryz.prog 100 #[plV h x 0,.int .i64 ((d+1:Nat):Int)] w (AvR H w (clP (.mk (sn.map Int.ofNat) items 0))):=by
 obtain ⟨hsr,_,hx,hit⟩:=hr.open_
 obtain ⟨A,m,cc⟩:=x
 dsimp only at hx hit
 have hsz:cntP (.mk (sn.map Int.ofNat) items 0)=items.length+(sn.map Int.ofNat).length+1+cntIs items:=by rw [cntP]
 rw [hsz,List.length_map] at hM
 have hsh:ShV H w h sn:=by rw [List.map_map] at hsr;exact hsr
 have HK:=Lib.hid hit
 have HMI:=Lib.hid hx
 have HSH:=Lib.hid hsh
 have hmb:m<=1000000:=by omega
 have HOKI:Hid (∀ i (hi:i < items.length),OkI (d+1) 0 items[i]):=fun i hi=>okIs_at hi hok
 have hpe:prodE sn 1048576=((m:Int),0):=by rw [hx];exact prodE_ok hsn (by omega)
 have HPR:Hid (∀ W,Below w.heap.size w W->Calls Tryz.prog 150 #[sv h,.int .i64 1048576] W fun e w'=>e= .returned (.tuple #[.int .i64 (m:Int),.int .i64 0])/\W=w'):=fun W hb=>by
  have h1:=product_any (sv h) sn 1048576 W (hsh.step hb).now (by omega)
  rw [hpe] at h1
  exact h1
 have HI0:=Lib.hid (OfI.new w h (A,m,cc) 0)
 obtain ⟨z,hz⟩:∃ z:Int,z=((d+1:Nat):Int):=⟨_,rfl⟩
 rw [<- hz]
 have hz0:(z==0)=false:=by simp;omega
 have hne:((m:Int) != (m:Int))=false:=by simp
 have HLN:Hid (sn.length<=1048576):=by unfold Hid;omega
 clear hz hx hsz hM hit hok hsr hr hsn hpe hsh hd
 go_enter Tryz.func100,Tryz.ntmps100
 obtain ⟨c0,c1,c2⟩:=HI0.out.arg
 dsimp only [sv] at c1
 go_wp2_with fail
 refine (HPR.out _ HI0.out.bel).mono ?_
 rintro e w1 ⟨rfl,rfl⟩
 generalize hW:(w.alloc (.cells #[sv h,.slice A m cc,.int .i64 0] 44)).alloc (.cells zeroL 59)=W at *
 clear hW HPR
 go_wp2
 clear c0 c1 c2
 go_loopw [8,49] (fun v iv wr=>∃ (i:Nat) (vA:Option Addr) (vn vc:Nat),i<=m/\iv= .int .i64 (i:Int)/\v= .slice vA vn vc/\Own1 wr (w.heap.size+2) 96 (.slice vA vn vc) ((items.take i).map fun t => .float .f64 t.numOf)/\OfI w h (A,m,cc) 0 wr) (fun _ iv _=>m - (intOf iv).toNat)
 case atStart=>exact ⟨0,none,0,0,Nat.zero_le _,rfl,rfl,Own1.nil _ _ _,HI0.out⟩
 case round =>
  obtain ⟨i,vA,vn,vc,hi,rfl,rfl,hown,hofi⟩:=hrel
  have HOWN:=Lib.hid hown
  have HOF:=Lib.hid hofi
  obtain ⟨c0,c1,c2⟩:=hofi.arg
  dsimp only [sv] at c1
  clear hown hofi
  by_cases him:i < m
  ·have him2:(i:Int) < (m:Int):=by omega
   have hik:i < items.length:=by have:=HMI.out;omega
   obtain ⟨b,o,k',n',c',y,rfl,-,hiv,hat⟩:=HK.out i hik
   have HTK:Hid (items.take (i+1)=items.take i++[items[i]]):=List.take_succ_eq_append_getElem hik
   have HOI:=Lib.hid (HOKI.out i hik)
   have hlb:(items.take i).length<=1000000:=by rw [List.length_take];omega
   have HLB:=Lib.hid hlb
   clear hlb
   generalize items[i]=it at hiv HTK HOI
   cases it with
   | mk kind num char box =>
   obtain ⟨rfl,rfl,rfl,hy,hbx⟩:=hiv.open_
   obtain ⟨yA,ym,yc⟩:=y
   obtain ⟨d0,d1,d2,d3⟩:=hat wr (Lat.below HOF.out.bel)
   dsimp only [sv] at d3
   have hk0:=HOI.out
   rw [OkI] at hk0
   obtain ⟨rfl,hkn,hkb⟩:=hk0
   have hst:=fun md=>st_item wr 0 0 n' 0 (.slice none 0 0) 106 md
   have g0:=fun o=>cell_box1 c0 o
   have g1:=fun o=>cell_box1 c1 o
   have g2:=fun o=>cell_box1 c2 o
   clear hy hbx hat hiv hkn hkb
   obtain ⟨XB,hXB⟩:∃ XB:Obj,XB= .cells #[.int .i64 0,.float .f64 n',.int .i32 c',.slice yA ym yc] 106:=⟨_,rfl⟩
   have HW1:=Lib.hid (HOF.out.step (bel1 wr XB))
   have HO1:=Lib.hid (HOWN.out.below (bel1 wr XB))
   have HGG:Hid (wr.heap.size+1=(wr.alloc XB).heap.size):=by unfold Hid;simp
   have HSZ:Hid (w.heap.size+2<=(wr.alloc XB).heap.size):=HW1.out.sz
   have HL1:Hid ((((items.take i).map fun t=>Value.float .f64 t.numOf).length+1)*8<=140737488355328):=by unfold Hid;have:=HLB.out;rw [List.length_map];omega
   have HL2:Hid (((items.take i).map fun t=>Value.float .f64 t.numOf).length+1<=140737488355328):=by unfold Hid;have:=HLB.out;rw [List.length_map];omega
   subst hXB
   go_wp2_with (at_builtin;go_loud (refine wpList_push1' rfl (.tmp 63) (.tmp 66) 26 96 rfl Tryz.underlying26 (.float .f64 0) 8 info_f64 rfl (w.heap.size+2) (.slice vA vn vc) ((items.take i).map fun t=>Value.float .f64 t.numOf) rfl HO1.out (.float .f64 n') rfl (wr.heap.size+1) HGG.out rfl HL1.out HL2.out HSZ.out ?_);intro v' w' hown' hbw;(obtain ⟨vA',vn',vc',hvn'⟩:∃ A n c,v'= .slice A n c:=by (obtain ⟨a,c,e⟩:=hown'.reads.len;exact ⟨a,_,c,e⟩));subst hvn';have HV:=Lib.hid hown';have HOF2:=Lib.hid (HW1.out.more (hbw _ (Below.refl _ _)));clear hown' hbw)
   go_roundw
   case rel=>exact ⟨i+1,vA',vn',vc',by omega,by go_num,rfl,by rw [HTK.out,List.map_append];exact HV.out,HOF2.out⟩
   case measure=>simp [intOf];omega
  ·have hge:¬ (i:Int) < (m:Int):=by omega
   obtain rfl:i=m:=by omega
   have HTL:Hid (items.take i=items):=by unfold Hid;rw [HMI.out];exact List.take_length
   rw [HTL.out] at HOWN
   have HRD:Hid (Reads1 wr (.slice vA vn vc) ((List.range i).map fun j => .float .f64 ((items.map RI.numOf).getD j 0))):=by
    unfold Hid
    have h1:=HOWN.out.reads
    have h2:=map_range_getD (items.map RI.numOf) 0 (Value.float .f64)
    rw [List.length_map,<- HMI.out,List.map_map] at h2
    rw [h2];exact h1
   have HG:Hid (∀ j,j < i->okF ((items.map RI.numOf).getD j 0)=true/\(items.map RI.numOf).getD j 0 < 18446744073709551616):=fun j hj=>by
    have hji:j < items.length:=by have:=HMI.out;omega
    have h1:=HOKI.out j hji
    have e:(items.map RI.numOf).getD j 0=items[j].numOf:=by simp [List.getD,hji]
    rw [e]
    generalize items[j]=it at h1
    cases it with
    | mk k n c box =>
     rw [OkI] at h1
     exact h1.2.1 h1.1
   have HN:=Lib.hid (numbers_tid (fun b=>H b\/b=w.heap.size+1) (.slice vA vn vc) i (fun j=>(items.map RI.numOf).getD j 0) wr (fun b e=>by
    have h1:=HOF.out.sz
    rcases e with e | e
    ·have:=hH b e;omega
    ·omega) HRD.out (by omega) (fun j hj=>(HG.out j hj).2) (fun j hj=>(HG.out j hj).1))
   unfold Vec2R at HN
   go_wp2_with fail
   refine HN.out.mono ?_
   rintro e w2 ⟨k4,b4,bn4,s4,i4,f4,c4,x4,rfl,hkv,hb2⟩
   obtain ⟨p,hp⟩:∃ p:V8,p=⟨k4,b4,bn4,s4,i4,f4,c4,x4⟩:=⟨_,rfl⟩
   have hkv2:Keeps (fun b=>H b\/b=w.heap.size+1) w2 (NumV p.v (leastF (fun j=>tidF ((items.map RI.numOf).getD j 0)) i:Nat) i (fun j=>tidF ((items.map RI.numOf).getD j 0))):=by rw [hp];exact hkv
   clear hkv HN HRD HG
   have hkv:=hkv2
   clear hkv2
   have HOF3:=Lib.hid ((HOF.out.step hb2).step (bel1 w2 p.o))
   obtain ⟨y0,y1,y2⟩:=(HOF.out.step hb2).arg
   have gy2:=fun o=>cell_box1 y2 o
   have HB3:=Lib.hid (bel_both hb2 (bel1 w2 p.o))
   have HKV:=Lib.hid (Keeps.lat hkv (Lat.below (bel1 w2 p.o)))
   have HBP:=Lib.hid (boxP_new w2 p)
   obtain ⟨W3,hW3⟩:∃ W3,W3=w2.alloc p.o:=⟨_,rfl⟩
   rw [<- hW3] at HOF3 HB3 HKV HBP
   have HH1:Hid (∀ W:World,W3.heap.size<=W.heap.size->∀ b,(H b\/b=w.heap.size+1)->b < W.heap.size):=fun W hW b e=>by
    have h1:=OfI.sz (Hid.out HOF3)
    rcases e with e | e
    ·have:=hH b e;omega
    ·omega
   have HSH1:Hid (∀ W:World,Below W3.heap.size W3 W->ShV (fun b=>H b\/b=w.heap.size+1) W h sn):=fun W hb=>Keeps.lat (Keeps.lat (Keeps.sub HSH.out (fun b hb e=>by
    rcases e with e | e
    ·exact e
    ·omega)) (Lat.below HOF3.out.bel)) (Lat.below hb)
   have HCL:=Lib.hid (fun W (hb:Below W3.heap.size W3 W)=>clSh_any (HSH1.out W hb) HLN.out (HH1.out W hb.size))
   clear hb2 hkv c0 c1 c2
   subst hp
   dsimp only [V8.o] at hW3
   go_wp2
   rw [<- hW3]
   obtain ⟨a0,a1,a2⟩:=HOF3.out.arg
   obtain ⟨⟨z0,z1,z2,z3,z4,z5,z6,z7,z8⟩,zz⟩:=zero_block HOF3.out.res
   obtain ⟨p0,p1,p2,p3,p4,p5,p6,p7⟩:=(show Boxed W3 w2.heap.size k4 (.slice b4.1 b4.2.1 b4.2.2) bn4 (.slice s4.1 s4.2.1 s4.2.2) (.slice i4.1 i4.2.1 i4.2.2) (.slice f4.1 f4.2.1 f4.2.2) (.slice c4.1 c4.2.1 c4.2.2) (.slice x4.1 x4.2.1 x4.2.2) from HBP.out)
   have hl1:w2.heap.size < W3.heap.size:=HBP.out.lt
   have hl2:w.heap.size+1 < W3.heap.size:=lt_blk HOF3.out.res
   have hl3:w.heap.size < W3.heap.size:=by omega
   clear hW3 gy2 y0 y1 y2
   go_region_with (go_at_call 134;((with_reducible refine (HCL.out _ ?_).mono ?_);(repeat (first | (with_reducible assumption) | (with_reducible exact Below.refl _ _) | (with_reducible refine Below.drew ?_)));rintro e wa ⟨cA,cn,ccc,rfl,hsh,hba⟩);have HBa:=Lib.hid (bel_both (show Below W3.heap.size W3 W3.drew from (Below.refl _ _).drew) hba);have HOFa:=Lib.hid (HOF3.out.step HBa.out);(obtain ⟨⟨y0,y1,y2,y3,y4,y5,y6,y7,y8⟩,yy⟩:=zero_block HOFa.out.res);(obtain ⟨q0,q1,q2,q3,q4,q5,q6,q7⟩:=(show Boxed wa w2.heap.size k4 (.slice b4.1 b4.2.1 b4.2.2) bn4 (.slice s4.1 s4.2.1 s4.2.2) (.slice i4.1 i4.2.1 i4.2.2) (.slice f4.1 f4.2.1 f4.2.2) (.slice c4.1 c4.2.1 c4.2.2) (.slice x4.1 x4.2.1 x4.2.2) from HBP.out.below HBa.out));have HSHa:=Lib.hid hsh;clear hba hsh)
   all_goals
    go_wp2
    refine bodyPost_ret (v := .tuple #[arrV (cA,cn,ccc) ⟨k4,b4,bn4,s4,i4,f4,c4,x4⟩,.int .i64 0]) ?_ rfl ⟨(cA,cn,ccc),⟨k4,b4,bn4,s4,i4,f4,c4,x4⟩,rfl,av_nums HMI.out (Keeps.sub (Keeps.lat HSHa.out (Lat.set9 (G:=w.heap.size+1) (.inr rfl) _ _ _ _ _ _ _ _ _)) (fun _ _ e => .inl e)) (Keeps.sub (Keeps.lat (Keeps.lat HKV.out (Lat.below HBa.out)) (Lat.set9 (G:=w.heap.size+1) (.inr rfl) _ _ _ _ _ _ _ _ _)) (fun _ _ e => .inl e)),below_set9 HOFa.out.bel (Nat.le_succ _) _ _ _ _ _ _ _ _ _⟩
    exact ret_arr2 (fn:=Tryz.f100) (p:=4) (u:=5) rfl _ _ (w.heap.size+1) (by rfl) (set9_block HOFa.out.res _ _ _ _ _ _ _ _ _)
theorem of_1 (H:Nat->Prop) (d:Nat) (hd:d<=40) (sn:List Nat) (items:List RI) (h x:Sl) (w:World) (hH:∀ b,H b->b < w.heap.size) (hok:OkIs (d+1) 1 items) (hsn:OkSh sn items.length) (hM:cntP (.mk (sn.map Int.ofNat) items 1)<=1000000) (hr:PV H w (.mk (sn.map Int.ofNat) items 1) h x 1) :
  Calls Tryz.prog 100 #[plV h x 1,.int .i64 ((d+1:Nat):Int)] w (AvR H w (clP (.mk (sn.map Int.ofNat) items 1))):=by
 obtain ⟨hsr,_,hx,hit⟩:=hr.open_
 obtain ⟨A,m,cc⟩:=x
 dsimp only at hx hit
 have hsz:cntP (.mk (sn.map Int.ofNat) items 1)=items.length+(sn.map Int.ofNat).length+1+cntIs items:=by rw [cntP]
 rw [hsz,List.length_map] at hM
 have hsh:ShV H w h sn:=by rw [List.map_map] at hsr;exact hsr
 have HK:=Lib.hid hit
 have HMI:=Lib.hid hx
 have HSH:=Lib.hid hsh
 have hmb:m<=1000000:=by omega
 have HOKI:Hid (∀ i (hi:i < items.length),OkI (d+1) 1 items[i]):=fun i hi=>okIs_at hi hok
 have hpe:prodE sn 1048576=((m:Int),0):=by rw [hx];exact prodE_ok hsn (by omega)
 have HPR:Hid (∀ W,Below w.heap.size w W->Calls Tryz.prog 150 #[sv h,.int .i64 1048576] W fun e w'=>e= .returned (.tuple #[.int .i64 (m:Int),.int .i64 0])/\W=w'):=fun W hb=>by
  have h1:=product_any (sv h) sn 1048576 W (hsh.step hb).now (by omega)
  rw [hpe] at h1
  exact h1
 have HI0:=Lib.hid (OfI.new w h (A,m,cc) 1)
 obtain ⟨z,hz⟩:∃ z:Int,z=((d+1:Nat):Int):=⟨_,rfl⟩
 rw [<- hz]
 have hz0:(z==0)=false:=by simp;omega
 have hne:((m:Int) != (m:Int))=false:=by simp
 have HLN:Hid (sn.length<=1048576):=by unfold Hid;omega
 clear hz hx hsz hM hit hok hsr hr hsn hpe hsh hd
 go_enter Tryz.func100,Tryz.ntmps100
 obtain ⟨c0,c1,c2⟩:=HI0.out.arg
 dsimp only [sv] at c1
 go_wp2_with fail
 refine (HPR.out _ HI0.out.bel).mono ?_
 rintro e w1 ⟨rfl,rfl⟩
 generalize hW:(w.alloc (.cells #[sv h,.slice A m cc,.int .i64 1] 44)).alloc (.cells zeroL 59)=W at *
 clear hW HPR
 go_wp2
 clear c0 c1 c2
 go_loopw [8,9,49] (fun n8 v iv wr=>∃ (i:Nat) (vA:Option Addr) (vn vc:Nat),i<=m/\iv= .int .i64 (i:Int)/\n8= .slice none 0 0/\v= .slice vA vn vc/\Own1 wr (w.heap.size+2) 21 (.slice vA vn vc) ((items.take i).map fun t => .int .i32 t.charOf)/\OfI w h (A,m,cc) 1 wr) (fun _ _ iv _=>m - (intOf iv).toNat)
 case atStart=>exact ⟨0,none,0,0,Nat.zero_le _,rfl,rfl,rfl,Own1.nil _ _ _,HI0.out⟩
 case round =>
  obtain ⟨i,vA,vn,vc,hi,rfl,rfl,rfl,hown,hofi⟩:=hrel
  have HOWN:=Lib.hid hown
  have HOF:=Lib.hid hofi
  obtain ⟨c0,c1,c2⟩:=hofi.arg
  dsimp only [sv] at c1
  clear hown hofi
  by_cases him:i < m
  ·have him2:(i:Int) < (m:Int):=by omega
   have hik:i < items.length:=by have:=HMI.out;omega
   obtain ⟨b,o,k',n',c',y,rfl,-,hiv,hat⟩:=HK.out i hik
   have HTK:Hid (items.take (i+1)=items.take i++[items[i]]):=List.take_succ_eq_append_getElem hik
   have HOI:=Lib.hid (HOKI.out i hik)
   have hlb:(items.take i).length<=1000000:=by rw [List.length_take];omega
   have HLB:=Lib.hid hlb
   clear hlb
   generalize items[i]=it at hiv HTK HOI
   cases it with
   | mk kind num char box =>
   obtain ⟨rfl,rfl,rfl,hy,hbx⟩:=hiv.open_
   obtain ⟨yA,ym,yc⟩:=y
   obtain ⟨d0,d1,d2,d3⟩:=hat wr (Lat.below HOF.out.bel)
   dsimp only [sv] at d3
   have hk0:=HOI.out
   rw [OkI] at hk0
   obtain ⟨rfl,hkn,hkb⟩:=hk0
   have hst:=fun md=>st_item wr 1 0 n' 0 (.slice none 0 0) 106 md
   have g0:=fun o=>cell_box1 c0 o
   have g1:=fun o=>cell_box1 c1 o
   have g2:=fun o=>cell_box1 c2 o
   clear hy hbx hat hiv hkn hkb
   obtain ⟨XB,hXB⟩:∃ XB:Obj,XB= .cells #[.int .i64 1,.float .f64 n',.int .i32 c',.slice yA ym yc] 106:=⟨_,rfl⟩
   have HW1:=Lib.hid (HOF.out.step (bel1 wr XB))
   have HO1:=Lib.hid (HOWN.out.below (bel1 wr XB))
   have HGG:Hid (wr.heap.size+1=(wr.alloc XB).heap.size):=by unfold Hid;simp
   have HSZ:Hid (w.heap.size+2<=(wr.alloc XB).heap.size):=HW1.out.sz
   have HL1:Hid ((((items.take i).map fun t=>Value.int .i32 t.charOf).length+1)*4<=140737488355328):=by unfold Hid;have:=HLB.out;rw [List.length_map];omega
   have HL2:Hid (((items.take i).map fun t=>Value.int .i32 t.charOf).length+1<=140737488355328):=by unfold Hid;have:=HLB.out;rw [List.length_map];omega
   subst hXB
   go_wp2_with (at_builtin;go_loud (refine wpList_push1' rfl (.tmp 70) (.tmp 73) 27 21 rfl Tryz.underlying27 (.int .i32 0) 4 info_i32 rfl (w.heap.size+2) (.slice vA vn vc) ((items.take i).map fun t=>Value.int .i32 t.charOf) rfl HO1.out (.int .i32 c') rfl (wr.heap.size+1) HGG.out rfl HL1.out HL2.out HSZ.out ?_);intro v' w' hown' hbw;(obtain ⟨vA',vn',vc',hvn'⟩:∃ A n c,v'= .slice A n c:=by (obtain ⟨a,c,e⟩:=hown'.reads.len;exact ⟨a,_,c,e⟩));subst hvn';have HV:=Lib.hid hown';have HOF2:=Lib.hid (HW1.out.more (hbw _ (Below.refl _ _)));clear hown' hbw)
   go_roundw
   case rel=>exact ⟨i+1,vA',vn',vc',by omega,by go_num,rfl,rfl,by rw [HTK.out,List.map_append];exact HV.out,HOF2.out⟩
   case measure=>simp [intOf];omega
  ·have hge:¬ (i:Int) < (m:Int):=by omega
   obtain rfl:i=m:=by omega
   have HTL:Hid (items.take i=items):=by unfold Hid;rw [HMI.out];exact List.take_length
   rw [HTL.out] at HOWN
   have HRD:Hid (Reads1 wr (.slice vA vn vc) ((items.map RI.charOf).map (Value.int .i32))):=by
    unfold Hid
    rw [List.map_map]
    exact HOWN.out.reads
   have HN:=Lib.hid (numbers_tid (fun b=>H b\/b=w.heap.size+1) (.slice none 0 0) 0 (fun _=>0) wr (fun b e=>by
    have h1:=HOF.out.sz
    rcases e with e | e
    ·have:=hH b e;omega
    ·omega) (.inl ⟨none,0,rfl,rfl⟩) (by omega) (fun j hj=>by omega) (fun j hj=>by omega))
   unfold Vec2R at HN
   go_wp2_with fail
   refine HN.out.mono ?_
   rintro e w2 ⟨k4,b4,bn4,s4,i4,f4,c4,x4,rfl,-,hb2⟩
   obtain ⟨y0,y1,y2⟩:=(HOF.out.step hb2).arg
   have gy2:=fun o=>cell_box1 y2 o
   have HB2:=Lib.hid hb2
   have HCH:=Lib.hid (fun o:Obj=>chars_any (HRD.out.below (bel_both hb2 (bel1 w2 o))) (show (items.map RI.charOf).length<=1000000 by rw [List.length_map,<- HMI.out];omega))
   clear hb2 c0 c1 c2 HN
   go_wp2_with fail
   refine (HCH.out _).mono ?_
   rintro e w3 ⟨u,rfl,hou,hb3⟩
   obtain ⟨uA,un,uc,huv⟩:∃ A n c,u= .slice A n c:=by obtain ⟨a,c,e⟩:=hou.reads.len;exact ⟨a,_,c,e⟩
   subst huv
   have HK3:=Lib.hid (block_up hb3)
   obtain ⟨⟨b0,b1,b2,b3,b4',b5,b6,b7⟩,bz⟩:=boxed_of HK3.out
   have HB3a:=Lib.hid (bel_both HB2.out (bel_both (bel1 w2 _) hb3))
   have hlt3:=lt_blk HK3.out
   have HOU:=Lib.hid hou
   have hww2:wr.heap.size<=w2.heap.size:=HB2.out.size
   clear hou hb3 gy2 y0 y1 y2
   obtain ⟨W3,hW3⟩:∃ W3,W3=set8 w3 w2.heap.size (.int .i64 5) vnil (.int .i64 0) vnil vnil vnil (.slice uA un uc) vnil:=⟨_,rfl⟩
   have HBS:Hid (Below wr.heap.size wr W3):=by unfold Hid;rw [hW3];exact below_set8 HB3a.out hww2 _ _ _ _ _ _ _ _
   have HOF3:=Lib.hid (HOF.out.step HBS.out)
   have HBP:Hid (Boxed W3 w2.heap.size 5 vnil 0 vnil vnil vnil (.slice uA un uc) vnil):=by unfold Hid;rw [hW3];exact (boxed_of (set8_block HK3.out _ _ _ _ _ _ _ _)).1
   have hwsz:w.heap.size+2<=wr.heap.size:=HOF.out.sz
   have HKV:Hid (RdH (fun b=>H b\/b=w.heap.size+1) W3 (.slice uA un uc) ((items.map RI.charOf).map (Value.int .i32))):=by
    unfold Hid
    rw [hW3]
    have h1:Keeps (fun b=>(H b\/b=w.heap.size+1)\/b=w2.heap.size) w3 (fun W=>Reads1 W (.slice uA un uc) ((items.map RI.charOf).map (Value.int .i32))):=HOU.out.keepsH fun b e=>by
     have h9:(w2.alloc (.cells #[.int .i64 k4,.slice b4.1 b4.2.1 b4.2.2,.int .i64 bn4,.slice s4.1 s4.2.1 s4.2.2,.slice i4.1 i4.2.1 i4.2.2,.slice f4.1 f4.2.1 f4.2.2,.slice c4.1 c4.2.1 c4.2.2,.slice x4.1 x4.2.1 x4.2.2] 57)).heap.size=w2.heap.size+1:=by simp
     rw [h9]
     rcases e with (e | e) | e
     ·have:=hH b e;omega
     ·omega
     ·omega
    exact (Keeps.set8 h1 (.inr rfl) _ _ _ _ _ _ _ _).sub fun _ _ e => .inl e
   have HH1:Hid (∀ W:World,W3.heap.size<=W.heap.size->∀ b,(H b\/b=w.heap.size+1)->b < W.heap.size):=fun W hW b e=>by
    have h1:=OfI.sz (Hid.out HOF3)
    rcases e with e | e
    ·have:=hH b e;omega
    ·omega
   have HSH1:Hid (∀ W:World,Below W3.heap.size W3 W->ShV (fun b=>H b\/b=w.heap.size+1) W h sn):=fun W hb=>Keeps.lat (Keeps.lat (Keeps.sub HSH.out (fun b hb e=>by
    rcases e with e | e
    ·exact e
    ·omega)) (Lat.below HOF3.out.bel)) (Lat.below hb)
   have HCL:=Lib.hid (fun W (hb:Below W3.heap.size W3 W)=>clSh_any (HSH1.out W hb) HLN.out (HH1.out W hb.size))
   obtain ⟨a0,a1,a2⟩:=HOF3.out.arg
   rw [hW3] at a2
   dsimp only [set8] at hW3 a2
   clear a0 a1
   go_wp2
   rw [<- hW3]
   obtain ⟨a0,a1,a2'⟩:=HOF3.out.arg
   obtain ⟨⟨z0,z1,z2,z3,z4,z5,z6,z7,z8⟩,zz⟩:=zero_block HOF3.out.res
   obtain ⟨p0,p1,p2,p3,p4,p5,p6,p7⟩:=HBP.out
   clear hW3 a2 b0 b1 b2 b3 b4' b5 b6 b7 bz HCH HB3a
   go_region_with (go_at_call 134;((with_reducible refine (HCL.out _ ?_).mono ?_);(repeat (first | (with_reducible assumption) | (with_reducible exact Below.refl _ _) | (with_reducible refine Below.drew ?_)));rintro e wa ⟨cA,cn,ccc,rfl,hsh,hba⟩);have HBa:=Lib.hid (bel_both (show Below W3.heap.size W3 W3.drew from (Below.refl _ _).drew) hba);have HOFa:=Lib.hid (HOF3.out.step HBa.out);(obtain ⟨⟨y0,y1,y2,y3,y4,y5,y6,y7,y8⟩,yy⟩:=zero_block HOFa.out.res);(obtain ⟨q0,q1,q2,q3,q4,q5,q6,q7⟩:=(show Boxed wa w2.heap.size 5 vnil 0 vnil vnil vnil (.slice uA un uc) vnil from HBP.out.below HBa.out));have HSHa:=Lib.hid hsh;clear hba hsh)
   all_goals
    go_wp2
    refine bodyPost_ret (v := .tuple #[arrV (cA,cn,ccc) (charsP (uA,un,uc)),.int .i64 0]) ?_ rfl ⟨(cA,cn,ccc),charsP (uA,un,uc),rfl,av_chars (Keeps.sub (Keeps.lat HSHa.out (Lat.set9 (G:=w.heap.size+1) (.inr rfl) _ _ _ _ _ _ _ _ _)) (fun _ _ e => .inl e)) (Keeps.sub (Keeps.lat (Keeps.lat HKV.out (Lat.below HBa.out)) (Lat.set9 (G:=w.heap.size+1) (.inr rfl) _ _ _ _ _ _ _ _ _)) (fun _ _ e => .inl e)),below_set9 HOFa.out.bel (Nat.le_succ _) _ _ _ _ _ _ _ _ _⟩
    exact ret_arr2 (fn:=Tryz.f100) (p:=4) (u:=5) rfl _ _ (w.heap.size+1) (by rfl) (set9_block HOFa.out.res _ _ _ _ _ _ _ _ _)
theorem of_2 (H:Nat->Prop) (d:Nat) (hd:d<=40) (hIH:∀ (H:Nat->Prop) (t:RP) (h x:Sl) (f:Int) (w:World),(∀ b,H b->b < w.heap.size)->OkP d t->cntP t<=1000000->PV H w t h x f->Calls Tryz.prog 100 #[plV h x f,.int .i64 (d:Int)] w (AvR H w (clP t))) (sn:List Nat) (items:List RI) (h x:Sl) (w:World) (hH:∀ b,H b->b < w.heap.size) (hok:OkIs (d+1) 2 items) (hsn:OkSh sn items.length) (hM:cntP (.mk (sn.map Int.ofNat) items 2)<=1000000) (hr:PV H w (.mk (sn.map Int.ofNat) items 2) h x 2) :
  Calls Tryz.prog 100 #[plV h x 2,.int .i64 ((d+1:Nat):Int)] w (AvR H w (clP (.mk (sn.map Int.ofNat) items 2))):=by
 obtain ⟨hsr,_,hx,hit⟩:=hr.open_
 obtain ⟨A,m,cc⟩:=x
 dsimp only at hx hit
 have hsz:cntP (.mk (sn.map Int.ofNat) items 2)=items.length+(sn.map Int.ofNat).length+1+cntIs items:=by rw [cntP]
 rw [hsz,List.length_map] at hM
 have hsh:ShV H w h sn:=by rw [List.map_map] at hsr;exact hsr
 have HK:=Lib.hid hit
 have HMI:=Lib.hid hx
 have HSH:=Lib.hid hsh
 have hmb:m<=1000000:=by omega
 have HOKI:Hid (∀ i (hi:i < items.length),OkI (d+1) 2 items[i]):=fun i hi=>okIs_at hi hok
 have hpe:prodE sn 1048576=((m:Int),0):=by rw [hx];exact prodE_ok hsn (by omega)
 have HPR:Hid (∀ W,Below w.heap.size w W->Calls Tryz.prog 150 #[sv h,.int .i64 1048576] W fun e w'=>e= .returned (.tuple #[.int .i64 (m:Int),.int .i64 0])/\W=w'):=fun W hb=>by
  have h1:=product_any (sv h) sn 1048576 W (hsh.step hb).now (by omega)
  rw [hpe] at h1
  exact h1
 have HI0:=Lib.hid (OfI.new w h (A,m,cc) 2)
 obtain ⟨z,hz⟩:∃ z:Int,z=((d+1:Nat):Int):=⟨_,rfl⟩
 rw [<- hz]
 have hz0:(z==0)=false:=by simp;omega
 have hne:((m:Int) != (m:Int))=false:=by simp
 have HLN:Hid (sn.length<=1048576):=by unfold Hid;omega
 have HIH:=Lib.hid hIH
 have hz1:z - 1=(d:Int):=by omega
 have hz2:IntKind.i64.wrap (d:Int)=(d:Int):=IntWalk.i64_in _ (by omega)
 have HCN:Hid (∀ i (hi:i < items.length),cntI items[i]<=1000000):=fun i hi=>by have:=cntIs_at hi;omega
 clear hIH
 clear hz hx hsz hM hit hok hsr hr hsn hpe hsh hd
 go_enter Tryz.func100,Tryz.ntmps100
 obtain ⟨c0,c1,c2⟩:=HI0.out.arg
 dsimp only [sv] at c1
 go_wp2_with fail
 refine (HPR.out _ HI0.out.bel).mono ?_
 rintro e w1 ⟨rfl,rfl⟩
 generalize hW:(w.alloc (.cells #[sv h,.slice A m cc,.int .i64 2] 44)).alloc (.cells zeroL 59)=W at *
 clear hW HPR
 go_wp2
 clear c0 c1 c2
 go_loopw [8,10,49] (fun n8 v iv wr=>∃ (i:Nat) (vA:Option Addr) (vn vc:Nat),i<=m/\iv= .int .i64 (i:Int)/\n8= .slice none 0 0/\v= .slice vA vn vc/\AOwn (fun b=>H b\/b=w.heap.size+1) wr (w.heap.size+2) (.slice vA vn vc) ((clIs items).take i)/\OfI w h (A,m,cc) 2 wr) (fun _ _ iv _=>m - (intOf iv).toNat)
 case atStart=>exact ⟨0,none,0,0,Nat.zero_le _,rfl,rfl,rfl,AOwn.nil _ _ _,HI0.out⟩
 case round =>
  obtain ⟨i,vA,vn,vc,hi,rfl,rfl,rfl,hown,hofi⟩:=hrel
  have HOWN:=Lib.hid hown
  have HOF:=Lib.hid hofi
  obtain ⟨c0,c1,c2⟩:=hofi.arg
  dsimp only [sv] at c1
  clear hown hofi
  by_cases him:i < m
  ·have him2:(i:Int) < (m:Int):=by omega
   have hik:i < items.length:=by have:=HMI.out;omega
   obtain ⟨b,o,k',n',c',y,rfl,-,hiv,hat⟩:=HK.out i hik
   have hic:i < (clIs items).length:=by rw [clIs_len];exact hik
   have HTK:Hid ((clIs items).take (i+1)=(clIs items).take i++[clI items[i]]):=by unfold Hid;rw [List.take_succ_eq_append_getElem hic,clIs_at hik hic]
   have HOI:=Lib.hid (HOKI.out i hik)
   have HCI:=Lib.hid (HCN.out i hik)
   have HLB:Hid (((clIs items).take i).length<=1048576):=by unfold Hid;rw [List.length_take];omega
   generalize items[i]=it at hiv HTK HOI HCI
   cases it with
   | mk kind num char box =>
   obtain ⟨rfl,rfl,rfl,hy,hbx⟩:=hiv.open_
   obtain ⟨yA,ym,yc⟩:=y
   dsimp only at hy hbx
   obtain ⟨d0,d1,d2,d3⟩:=hat wr (Lat.below HOF.out.bel)
   dsimp only [sv] at d3
   have hk0:=HOI.out
   rw [OkI] at hk0
   obtain ⟨rfl,hkn,hkb⟩:=hk0
   obtain ⟨hb1,hbo⟩:=hkb rfl
   have hb0:0 < box.length:=by omega
   obtain ⟨bb,o2,h',y',f',hyA,hnH,hpv,hat3⟩:=hbx 0 hb0
   subst hyA
   obtain rfl:ym=1:=by omega
   have hop:=okPs_head hb0 hbo
   have hcl:clI (.mk 2 n' c' box)=clP box[0]:=clI_one hb0
   have hct:cntP box[0]<=1000000:=by have:=HCI.out;rw [cntI] at this;have:=cntPs_at hb0;omega
   rw [hcl] at HTK
   have hst:=fun md=>st_item wr 2 0 n' 0 (.slice none 0 0) 106 md
   have g0:=fun o=>cell_box1 c0 o
   have g1:=fun o=>cell_box1 c1 o
   have g2:=fun o=>cell_box1 c2 o
   have HB1:=Lib.hid (bel_both HOF.out.bel (bel1 wr (.cells #[.int .i64 2,.float .f64 n',.int .i32 c',.slice (some ⟨bb,o2,none⟩) 1 yc] 106)))
   obtain ⟨t0,t1,t2⟩:=hat3 _ (Lat.below HB1.out)
   simp only [Nat.zero_mul,Nat.add_zero] at t0 t1 t2
   have HIC:=Lib.hid (HIH.out (Hole H w (wr.alloc (.cells #[.int .i64 2,.float .f64 n',.int .i32 c',.slice (some ⟨bb,o2,none⟩) 1 yc] 106))) box[0] h' y' f' (wr.alloc (.cells #[.int .i64 2,.float .f64 n',.int .i32 c',.slice (some ⟨bb,o2,none⟩) 1 yc] 106)) (Hole.lt hH HB1.out) hop hct (hpv.arg HB1.out))
   unfold AvR at HIC
   clear hy hbx hat hiv hkn hkb hbo hpv hat3 hop hct hcl hb1 hnH
   generalize box[0]=zt at HIC HTK
   go_wp2_with fail
   refine HIC.out.mono ?_
   rintro e w2 ⟨h2,p2,rfl,hav,hb2⟩
   have hwsz:w.heap.size+2<=wr.heap.size:=HOF.out.sz
   have HWW:=Lib.hid (bel_both (bel1 wr (.cells #[.int .i64 2,.float .f64 n',.int .i32 c',.slice (some ⟨bb,o2,none⟩) 1 yc] 106)) hb2)
   have HW4:=Lib.hid (bel_both HWW.out (bel1 w2 (arrO h2 p2)))
   have HW1:=Lib.hid (HOF.out.step HW4.out)
   have HO1:=Lib.hid (HOWN.out.below HW4.out)
   have HAV:Hid (AV (fun b=>(H b\/b=w.heap.size+1)\/(Value.slice vA vn vc).ownBlock=some b) (w2.alloc (arrO h2 p2)) (clP zt) h2 p2):=AV.sub (fun b hb e=>by
    rcases e with (e | e) | e
    ·exact .inl e
    ·exact .inr ⟨by omega,by simp;omega⟩
    ·have h9:=HOWN.out.own_lt e
     exact .inr ⟨by omega,by simp;omega⟩) (hav.step (bel1 w2 (arrO h2 p2)))
   have HGG:Hid (w2.heap.size+1=(w2.alloc (arrO h2 p2)).heap.size):=by unfold Hid;simp
   have HSZ:Hid (w.heap.size+2<=(w2.alloc (arrO h2 p2)).heap.size):=HW1.out.sz
   clear hav hb2 HIC
   go_wp2_with (at_builtin;refine wpList_pushA' rfl (.tmp 96) (.tmp 98) rfl (fun b=>H b\/b=w.heap.size+1) (w.heap.size+2) (.slice vA vn vc) ((clIs items).take i) rfl HO1.out h2 p2 (clP zt) HAV.out (w2.heap.size+1) HGG.out rfl HLB.out HSZ.out ?_;intro v' w' hown' hbw;(obtain ⟨vA',vn',vc',hvn'⟩:∃ A n c,v'= .slice A n c:=by (obtain ⟨a,c,e⟩:=hown'.len;exact ⟨a,_,c,e⟩));subst hvn';have HV:=Lib.hid hown';have HOF2:=Lib.hid (HW1.out.more (hbw _ (Below.refl _ _)));clear hown' hbw)
   go_roundw
   case rel=>exact ⟨i+1,vA',vn',vc',by omega,by go_num,rfl,rfl,by rw [HTK.out];exact HV.out,HOF2.out⟩
   case measure=>simp [intOf];omega
  ·have hge:¬ (i:Int) < (m:Int):=by omega
   obtain rfl:i=m:=by omega
   have HTL:Hid ((clIs items).take i=clIs items):=by unfold Hid;rw [HMI.out,<- clIs_len items];exact List.take_length
   rw [HTL.out] at HOWN
   obtain ⟨xs,hxs,hasl⟩:=HOWN.out.asl (fun b e=>by
    have h1:=HOF.out.sz
    rcases e with e | e
    ·have:=hH b e;omega
    ·omega)
   obtain ⟨sA,sn',sc⟩:=xs
   have h9:Value.slice vA vn vc= .slice sA sn' sc:=hxs
   injection h9 with h10 h11 h12
   subst h10;subst h11;subst h12
   have HRD:=Lib.hid hasl
   clear hasl hxs
   have HN:=Lib.hid (numbers_tid (fun b=>H b\/b=w.heap.size+1) (.slice none 0 0) 0 (fun _=>0) wr (fun b e=>by
    have h1:=HOF.out.sz
    rcases e with e | e
    ·have:=hH b e;omega
    ·omega) (.inl ⟨none,0,rfl,rfl⟩) (by omega) (fun j hj=>by omega) (fun j hj=>by omega))
   unfold Vec2R at HN
   go_wp2_with fail
   refine HN.out.mono ?_
   rintro e w2 ⟨k4,b4,bn4,s4,i4,f4,c4,x4,rfl,-,hb2⟩
   obtain ⟨y0,y1,y2⟩:=(HOF.out.step hb2).arg
   have gy2:=fun o=>cell_box1 y2 o
   have HB2:=Lib.hid hb2
   have HCH:Hid (∀ o:Obj,Calls Tryz.prog 153 #[.slice vA vn vc] (w2.alloc o) (BxR (fun b=>(H b\/b=w.heap.size+1)\/b=w2.heap.size) (w2.alloc o) (clIs items))):=fun o=>boxes_any (x:=(vA,vn,vc)) ((HRD.out.step hb2).sub (fun b hb e=>by
    rcases e with e | e
    ·exact e
    ·omega) |>.step (bel1 w2 o)) (by rw [clIs_len,<- HMI.out];omega) (fun b e=>by
    have h1:=(HOF.out.step hb2).sz
    rcases e with (e | e) | e
    ·have:=hH b e;simp;omega
    ·simp;omega
    ·simp;omega)
   unfold BxR at HCH
   clear hb2 c0 c1 c2 HN
   go_wp2_with fail
   refine (HCH.out _).mono ?_
   rintro e w3 ⟨⟨uA,un,uc⟩,rfl,hou,hb3⟩
   dsimp only [sv]
   have HK3:=Lib.hid (block_up hb3)
   obtain ⟨⟨b0,b1,b2,b3,b4',b5,b6,b7⟩,bz⟩:=boxed_of HK3.out
   have HB3a:=Lib.hid (bel_both HB2.out (bel_both (bel1 w2 _) hb3))
   have hlt3:=lt_blk HK3.out
   have HOU:=Lib.hid hou
   have hww2:wr.heap.size<=w2.heap.size:=HB2.out.size
   clear hou hb3 gy2 y0 y1 y2
   obtain ⟨W3,hW3⟩:∃ W3,W3=set8 w3 w2.heap.size (.int .i64 6) vnil (.int .i64 0) vnil vnil vnil vnil (.slice uA un uc):=⟨_,rfl⟩
   have HBS:Hid (Below wr.heap.size wr W3):=by unfold Hid;rw [hW3];exact below_set8 HB3a.out hww2 _ _ _ _ _ _ _ _
   have HOF3:=Lib.hid (HOF.out.step HBS.out)
   have HBP:Hid (Boxed W3 w2.heap.size 6 vnil 0 vnil vnil vnil vnil (.slice uA un uc)):=by unfold Hid;rw [hW3];exact (boxed_of (set8_block HK3.out _ _ _ _ _ _ _ _)).1
   have hwsz:w.heap.size+2<=wr.heap.size:=HOF.out.sz
   have HKV:Hid (ASl (fun b=>H b\/b=w.heap.size+1) W3 (uA,un,uc) (clIs items)):=by
    unfold Hid
    rw [hW3]
    exact ASl.sub (fun _ _ e => .inl e) (ASl.lat (Lat.set8 (G:=w2.heap.size) (.inr rfl) _ _ _ _ _ _ _ _) HOU.out)
   have HH1:Hid (∀ W:World,W3.heap.size<=W.heap.size->∀ b,(H b\/b=w.heap.size+1)->b < W.heap.size):=fun W hW b e=>by
    have h1:=OfI.sz (Hid.out HOF3)
    rcases e with e | e
    ·have:=hH b e;omega
    ·omega
   have HSH1:Hid (∀ W:World,Below W3.heap.size W3 W->ShV (fun b=>H b\/b=w.heap.size+1) W h sn):=fun W hb=>Keeps.lat (Keeps.lat (Keeps.sub HSH.out (fun b hb e=>by
    rcases e with e | e
    ·exact e
    ·omega)) (Lat.below HOF3.out.bel)) (Lat.below hb)
   have HCL:=Lib.hid (fun W (hb:Below W3.heap.size W3 W)=>clSh_any (HSH1.out W hb) HLN.out (HH1.out W hb.size))
   obtain ⟨a0,a1,a2⟩:=HOF3.out.arg
   rw [hW3] at a2
   dsimp only [set8] at hW3 a2
   clear a0 a1
   go_wp2
   rw [<- hW3]
   obtain ⟨a0,a1,a2'⟩:=HOF3.out.arg
   obtain ⟨⟨z0,z1,z2,z3,z4,z5,z6,z7,z8⟩,zz⟩:=zero_block HOF3.out.res
   obtain ⟨p0,p1,p2,p3,p4,p5,p6,p7⟩:=HBP.out
   clear hW3 a2 b0 b1 b2 b3 b4' b5 b6 b7 bz HCH HB3a
   go_region_with (go_at_call 134;((with_reducible refine (HCL.out _ ?_).mono ?_);(repeat (first | (with_reducible assumption) | (with_reducible exact Below.refl _ _) | (with_reducible refine Below.drew ?_)));rintro e wa ⟨cA,cn,ccc,rfl,hsh,hba⟩);have HBa:=Lib.hid (bel_both (show Below W3.heap.size W3 W3.drew from (Below.refl _ _).drew) hba);have HOFa:=Lib.hid (HOF3.out.step HBa.out);(obtain ⟨⟨y0,y1,y2,y3,y4,y5,y6,y7,y8⟩,yy⟩:=zero_block HOFa.out.res);(obtain ⟨q0,q1,q2,q3,q4,q5,q6,q7⟩:=(show Boxed wa w2.heap.size 6 vnil 0 vnil vnil vnil vnil (.slice uA un uc) from HBP.out.below HBa.out));have HSHa:=Lib.hid hsh;clear hba hsh)
   all_goals
    go_wp2
    refine bodyPost_ret (v := .tuple #[arrV (cA,cn,ccc) (boxesP (uA,un,uc)),.int .i64 0]) ?_ rfl ⟨(cA,cn,ccc),boxesP (uA,un,uc),rfl,av_boxed (Keeps.sub (Keeps.lat HSHa.out (Lat.set9 (G:=w.heap.size+1) (.inr rfl) _ _ _ _ _ _ _ _ _)) (fun _ _ e => .inl e)) (ASl.sub (fun _ _ e => .inl e) (ASl.lat (Lat.set9 (G:=w.heap.size+1) (.inr rfl) _ _ _ _ _ _ _ _ _) (ASl.lat (Lat.below HBa.out) HKV.out))),below_set9 HOFa.out.bel (Nat.le_succ _) _ _ _ _ _ _ _ _ _⟩
    exact ret_arr2 (fn:=Tryz.f100) (p:=4) (u:=5) rfl _ _ (w.heap.size+1) (by rfl) (set9_block HOFa.out.res _ _ _ _ _ _ _ _ _)
theorem aof_walk:∀ (d:Nat) (H:Nat->Prop) (t:RP) (h x:Sl) (f:Int) (w:World),d<=40->(∀ b,H b->b < w.heap.size)->OkP d t->cntP t<=1000000->PV H w t h x f ->
  Calls Tryz.prog 100 #[plV h x f,.int .i64 (d:Int)] w (AvR H w (clP t))
 | 0,_,.mk s items fill,_,_,_,_,_,_,hok,_,_=>by rw [OkP] at hok;exact absurd hok.1 (Nat.lt_irrefl _)
 | d+1,H,.mk s items fill,h,x,f,w,hd,hH,hok,hM,hr=>by
  obtain ⟨_,rfl,_,_⟩:=hr.open_
  rw [OkP] at hok
  obtain ⟨_,hf,⟨sn,rfl,hs⟩,hi⟩:=hok
  rcases hf with rfl | rfl | rfl
  ·exact of_0 H d (by omega) sn items h x w hH hi hs hM hr
  ·exact of_1 H d (by omega) sn items h x w hH hi hs hM hr
  ·exact of_2 H d (by omega) (fun H t h x f w h0 h1 h2 h3=>aof_walk d H t h x f w (by omega) h0 h1 h2 h3) sn items h x w hH hi hs hM hr
theorem vOf_any (H:Nat->Prop) (t:RP) (h x:Sl) (f:Int) (w:World) (hH:∀ b,H b->b < w.heap.size) (hok:OkP 40 t) (hM:cntP t<=1000000) (hr:PV H w t h x f) :
  Calls Tryz.prog 49 #[plV h x f] w (AvR H w (clP t)):=by
 have HI0:=Lib.hid (OfI.new w h x f)
 have HC:=Lib.hid (aof_walk 40 (Hole H w ((w.alloc (.cells #[sv h,sv x,.int .i64 f] 44)).alloc (.cells zeroL 59))) t h x f _ (Nat.le_refl _) (Hole.lt hH HI0.out.bel) hok hM (hr.arg HI0.out.bel))
 unfold AvR at HC
 have HH:=Lib.hid hH
 clear hok hM hr hH
 go_enter Tryz.func49,Tryz.ntmps49
 obtain ⟨c0,c1,c2⟩:=HI0.out.arg
 go_wp2_with fail
 refine HC.out.mono ?_
 rintro e w1 ⟨h',p,rfl,hav,hb⟩
 have HOF:=Lib.hid (HI0.out.step hb)
 have HAV:=Lib.hid hav
 have hlt:w.heap.size+1 < ((w.alloc (.cells #[sv h,sv x,.int .i64 f] 44)).alloc (.cells zeroL 59)).heap.size:=lt_blk HI0.out.res
 have HLT:=Lib.hid hlt
 obtain ⟨⟨z0,z1,z2,z3,z4,z5,z6,z7,z8⟩,zz⟩:=zero_block HOF.out.res
 clear hb hav hlt c0 c1 c2
 go_wp2
 refine bodyPost_ret (v := .tuple #[arrV h' p,.int .i64 0]) ?_ rfl ⟨h',p,rfl,AV.sub (fun b _ e => .inl e) (AV.lat (Lat.set9 (G:=w.heap.size+1) (.inr ⟨by omega,HLT.out⟩) _ _ _ _ _ _ _ _ _) HAV.out),below_set9 HOF.out.bel (Nat.le_succ _) _ _ _ _ _ _ _ _ _⟩
 exact ret_arr2 (fn:=Tryz.f49) (p:=2) (u:=3) rfl _ _ (w.heap.size+1) (by rfl) (set9_block HOF.out.res _ _ _ _ _ _ _ _ _)
theorem blk_alloc {W:World}{G:Nat}{o:Obj} (h:W.heap[G]?=some o) (o':Obj):(W.alloc o').heap[G]?=some o:=by
 rw [(bel1 W o').block G (lt_blk h)];exact h
def AaR (H:Nat->Prop) (w:World) (a:PA) (e:Ending) (w':World):Prop:=∃ h p,e= .returned (arrV h p)/\AV H w' a h p/\Below w.heap.size w w'
theorem lawOf_any (H:Nat->Prop) (t:RP) (h x:Sl) (f:Int) (w:World) (hH:∀ b,H b->b < w.heap.size) (hok:OkP 40 t) (hM:cntP t<=1000000) (hr:PV H w t h x f) :
  Calls Tryz.prog 17 #[plV h x f] w (AaR H w (clP t)):=by
 have HI0:=Lib.hid (OfI.new w h x f)
 have HC:=Lib.hid (vOf_any (Hole H w ((w.alloc (.cells #[sv h,sv x,.int .i64 f] 44)).alloc (.cells zeroL 59))) t h x f _ (Hole.lt hH HI0.out.bel) hok hM (hr.arg HI0.out.bel))
 unfold AvR at HC
 have HH:=Lib.hid hH
 clear hok hM hr hH
 go_enter Tryz.func17,Tryz.ntmps17
 obtain ⟨c0,c1,c2⟩:=HI0.out.arg
 go_wp2_with fail
 refine HC.out.mono ?_
 rintro e w1 ⟨h',p,rfl,hav,hb⟩
 have HOF:=Lib.hid (HI0.out.step hb)
 have HAV:=Lib.hid hav
 have hlt:w.heap.size+1 < ((w.alloc (.cells #[sv h,sv x,.int .i64 f] 44)).alloc (.cells zeroL 59)).heap.size:=lt_blk HI0.out.res
 have HLT:=Lib.hid hlt
 obtain ⟨⟨y0,y1,y2,y3,y4,y5,y6,y7,y8⟩,yz⟩:=zero_block HOF.out.res
 have hl1:w.heap.size+1 < w1.heap.size:=lt_blk HOF.out.res
 have b0:=fun o=>cell_box1 y0 o
 have b1:=fun o=>cell_box1 y1 o
 have b2:=fun o=>cell_box1 y2 o
 have b3:=fun o=>cell_box1 y3 o
 have b4:=fun o=>cell_box1 y4 o
 have b5:=fun o=>cell_box1 y5 o
 have b6:=fun o=>cell_box1 y6 o
 have b7:=fun o=>cell_box1 y7 o
 have b8:=fun o=>cell_box1 y8 o
 have u0:=fun (j:Nat) o=>frozen_box (j:=0) y0 yz o
 have u1:=fun o=>frozen_box y1 yz o
 have u2:=fun o=>frozen_box y2 yz o
 have u3:=fun o=>frozen_box y3 yz o
 have u4:=fun o=>frozen_box y4 yz o
 have u5:=fun o=>frozen_box y5 yz o
 have u6:=fun o=>frozen_box y6 yz o
 have u7:=fun o=>frozen_box y7 yz o
 have u8:=fun o=>frozen_box y8 yz o
 have u00:=fun o=>frozen_box y0 yz o
 clear hb hav hlt c0 c1 c2 u0
 go_wp2
 refine bodyPost_ret (v:=arrV h' p) ?_ rfl ⟨h',p,rfl,AV.sub (fun b _ e => .inl e) (AV.step (AV.lat (Lat.set9 (G:=w.heap.size+1) (.inr ⟨by omega,HLT.out⟩) _ _ _ _ _ _ _ _ _) HAV.out) (bel1 _ _)),bel_both (below_set9 HOF.out.bel (Nat.le_succ _) _ _ _ _ _ _ _ _ _) (bel1 _ _)⟩
 exact ret_arr (fn:=Tryz.f17) (p:=2) rfl _ _ (w.heap.size+1) (by rfl) (blk_alloc (set9_block HOF.out.res _ _ _ _ _ _ _ _ _) _)
end Go.Proofs.YtbakjaliponbbaaGreatDoor
