/- The walk of rebusref27's Iota. Printed by gen_riu.py. rebusref34.DoChain of a good array. Printed by gen_rdf.py. Plain laws: the runes of a string, one by one. .. Conditions: as each theorem says. -/
import Derived.Test.YtbakjaliponbbaaGreatDoorMg26
import Derived.Test.YtbakjaliponbbaaGreatDoorMg31
import Derived.Laws.RangeAny
import Derived.Laws.IdiomStrings
import Derived.Lib.RuneCount
import Derived.Test.YtbakjaliponbbaaGreatDoorMg00
import Derived.BigQuiet
import Derived.Deep.DeepCutAuto
import Derived.Deep.CutBlock
set_option maxRecDepth 100000
set_option maxHeartbeats 1600000
namespace Go.Proofs.YtbakjaliponbbaaGreatDoor
open Go Go.RowKit Go.Proofs Fl
theorem riota_rank {H:Nat->Prop}{w:World}{a:PA}{h x:Sl} (g:PV H w (rawP a) h x (a.fill:Int)) (o most:Nat) (hr:¬ a.shape.length<=1) (W:World) (hb:Below w.heap.size w W):Calls Tryz.prog 157 #[plV h x (a.fill:Int),.int .i64 (o:Int),.int .i64 (most:Int)] W (PoR H W none):=by
 rw [rp_eta (rawP a)] at g
 have hil:(rawP a).its.length=a.len:=rawP_len a
 obtain ⟨hsr,-,hx,hit⟩:=g.open_
 have hrk:h.2.1=a.shape.length:=by
  obtain ⟨A9,n9,c9,e9,e8,-⟩:=int_open hsr.now
  injection e9 with _ e9 _
  rw [e9,e8,rawP_shp,List.length_map]
 obtain ⟨xA,xn,xc⟩:=x
 dsimp only at hx hit
 have HB:=Lib.hid hb
 have HS0:=Lib.hid (P1.new W h (xA,xn,xc) (a.fill:Int))
 have HLS:=Lib.hid (fun W=>rlist27_any h (xA,xn,xc) (a.fill:Int) W)
 obtain ⟨w1,hw1⟩:∃ w1,w1=(W.alloc (plO h (xA,xn,xc) (a.fill:Int))).alloc (plO nilS nilS 0):=⟨_,rfl⟩
 have HW1:=Lib.hid hw1
 rw [<- hw1] at HS0
 have hd1:decide ((h.2.1:Int)<=1)=false:=decide_eq_false (by omega)
 rw [hd1] at HLS
 clear g hil hsr hx hrk hb hw1 hd1 hr hit
 go_enter Tryz.func157,Tryz.ntmps157
 obtain ⟨p0,p1,p2⟩:=at3_c HS0.out.one
 dsimp only at p1
 rw [HW1.out] at p0 p1 p2
 go_wp2_with fail
 rw [<- HW1.out]
 refine (HLS.out _).mono ?_
 rintro e w2 ⟨rfl,hb2⟩
 have HS2:=Lib.hid (HS0.out.step hb2)
 clear hb2 p0 p1 p2 HS0 HLS HW1
 obtain ⟨p0,p1,p2⟩:=at3_c HS2.out.one
 dsimp only at p1
 have HBE:=Lib.hid (below_set3 HS2.out.bel (Nat.le_succ _) (.slice none 0 0) (.slice none 0 0) (.int .i64 0))
 have HRE:=Lib.hid (set3_block HS2.out.res (.slice none 0 0) (.slice none 0 0) (.int .i64 0))
 go_upto_region 2 with fail
 obtain ⟨⟨z0,z1,z2⟩,zz⟩:=block3 HS2.out.res
 go_wp2
 refine bodyPost_ret (v := .tuple #[plV nilS nilS 0,.int .i64 22]) ?_ rfl (poR_no (by decide) HBE.out)
 exact ret_pl2 (fn:=Tryz.f157) (p:=6) (u:=7) rfl _ _ (W.heap.size+1) (by rfl) HRE.out
theorem riota_len {H:Nat->Prop}{w:World}{a:PA}{h x:Sl} (g:PV H w (rawP a) h x (a.fill:Int)) (o most:Nat) (hr:a.shape.length<=1) (hl:¬ a.len=1) (W:World) (hb:Below w.heap.size w W):Calls Tryz.prog 157 #[plV h x (a.fill:Int),.int .i64 (o:Int),.int .i64 (most:Int)] W (PoR H W none):=by
 rw [rp_eta (rawP a)] at g
 have hil:(rawP a).its.length=a.len:=rawP_len a
 obtain ⟨hsr,-,hx,hit⟩:=g.open_
 have hrk:h.2.1=a.shape.length:=by
  obtain ⟨A9,n9,c9,e9,e8,-⟩:=int_open hsr.now
  injection e9 with _ e9 _
  rw [e9,e8,rawP_shp,List.length_map]
 obtain ⟨xA,xn,xc⟩:=x
 dsimp only at hx hit
 have HB:=Lib.hid hb
 have HS0:=Lib.hid (P1.new W h (xA,xn,xc) (a.fill:Int))
 have HLS:=Lib.hid (fun W=>rlist27_any h (xA,xn,xc) (a.fill:Int) W)
 obtain ⟨w1,hw1⟩:∃ w1,w1=(W.alloc (plO h (xA,xn,xc) (a.fill:Int))).alloc (plO nilS nilS 0):=⟨_,rfl⟩
 have HW1:=Lib.hid hw1
 rw [<- hw1] at HS0
 have hd1:decide ((h.2.1:Int)<=1)=true:=decide_eq_true (by omega)
 rw [hd1] at HLS
 have hl1:((xn:Int) != 1)=true:=by rw [hx,hil];simpa using fun e:((a.len:Nat):Int)=1=>hl (by omega)
 clear g hil hsr hx hrk hb hw1 hd1 hr hl hit
 go_enter Tryz.func157,Tryz.ntmps157
 obtain ⟨p0,p1,p2⟩:=at3_c HS0.out.one
 dsimp only at p1
 rw [HW1.out] at p0 p1 p2
 go_wp2_with fail
 rw [<- HW1.out]
 refine (HLS.out _).mono ?_
 rintro e w2 ⟨rfl,hb2⟩
 have HS2:=Lib.hid (HS0.out.step hb2)
 clear hb2 p0 p1 p2 HS0 HLS HW1
 obtain ⟨p0,p1,p2⟩:=at3_c HS2.out.one
 dsimp only at p1
 have HBE:=Lib.hid (below_set3 HS2.out.bel (Nat.le_succ _) (.slice none 0 0) (.slice none 0 0) (.int .i64 0))
 have HRE:=Lib.hid (set3_block HS2.out.res (.slice none 0 0) (.slice none 0 0) (.int .i64 0))
 go_upto_region 2 with fail
 obtain ⟨⟨z0,z1,z2⟩,zz⟩:=block3 HS2.out.res
 go_wp2
 refine bodyPost_ret (v := .tuple #[plV nilS nilS 0,.int .i64 22]) ?_ rfl (poR_no (by decide) HBE.out)
 exact ret_pl2 (fn:=Tryz.f157) (p:=6) (u:=7) rfl _ _ (W.heap.size+1) (by rfl) HRE.out
theorem riota_fill {H:Nat->Prop}{w:World}{a:PA}{h x:Sl} (g:PV H w (rawP a) h x (a.fill:Int)) (o most:Nat) (hr:a.shape.length<=1) (hl:a.len=1) (hf:¬ a.fill=0) (W:World) (hb:Below w.heap.size w W):Calls Tryz.prog 157 #[plV h x (a.fill:Int),.int .i64 (o:Int),.int .i64 (most:Int)] W (PoR H W none):=by
 rw [rp_eta (rawP a)] at g
 have hil:(rawP a).its.length=a.len:=rawP_len a
 obtain ⟨hsr,-,hx,hit⟩:=g.open_
 have hrk:h.2.1=a.shape.length:=by
  obtain ⟨A9,n9,c9,e9,e8,-⟩:=int_open hsr.now
  injection e9 with _ e9 _
  rw [e9,e8,rawP_shp,List.length_map]
 obtain ⟨xA,xn,xc⟩:=x
 dsimp only at hx hit
 have HB:=Lib.hid hb
 have HS0:=Lib.hid (P1.new W h (xA,xn,xc) (a.fill:Int))
 have HLS:=Lib.hid (fun W=>rlist27_any h (xA,xn,xc) (a.fill:Int) W)
 obtain ⟨w1,hw1⟩:∃ w1,w1=(W.alloc (plO h (xA,xn,xc) (a.fill:Int))).alloc (plO nilS nilS 0):=⟨_,rfl⟩
 have HW1:=Lib.hid hw1
 rw [<- hw1] at HS0
 have hd1:decide ((h.2.1:Int)<=1)=true:=decide_eq_true (by omega)
 rw [hd1] at HLS
 have hl1:((xn:Int) != 1)=false:=by rw [hx,hil,hl];rfl
 have hx1:(0:Int) < (xn:Int):=by omega
 have hx2:0 < xn:=by omega
 obtain ⟨b,o9,k9,n9,c9,y9,hxA,-,hiv,hat⟩:=hit 0 (by omega)
 subst hxA
 have hnum:numI (rawP a).its[0]=n9:=by
  generalize (rawP a).its[0]=t at hiv
  cases t with
  | mk kind num char box=>rw [IV] at hiv;exact hiv.2.1.symm
 have HAT:Hid (∀ W,Below w.heap.size w W->At4 W b (o9+0*4) k9 n9 c9 y9):=fun W hb=>hat W (Lat.below hb)
 have hf1:(((a.fill:Nat):Int) != 0)=true:=by simpa using fun e:(a.fill:Int)=0=>hf (by omega)
 clear g hil hsr hx hrk hb hw1 hd1 hr hl hf hnum hiv hat hit
 go_enter Tryz.func157,Tryz.ntmps157
 obtain ⟨p0,p1,p2⟩:=at3_c HS0.out.one
 dsimp only at p1
 rw [HW1.out] at p0 p1 p2
 go_wp2_with fail
 rw [<- HW1.out]
 refine (HLS.out _).mono ?_
 rintro e w2 ⟨rfl,hb2⟩
 have HS2:=Lib.hid (HS0.out.step hb2)
 clear hb2 p0 p1 p2 HS0 HLS HW1
 obtain ⟨p0,p1,p2⟩:=at3_c HS2.out.one
 dsimp only at p1
 obtain ⟨q0,q1,q2,q3⟩:=HAT.out _ (bel_both HB.out HS2.out.bel)
 simp only [Nat.zero_mul,Nat.add_zero] at q0 q1 q2 q3
 have HBE:=Lib.hid (below_set3 HS2.out.bel (Nat.le_succ _) (.slice none 0 0) (.slice none 0 0) (.int .i64 0))
 have HRE:=Lib.hid (set3_block HS2.out.res (.slice none 0 0) (.slice none 0 0) (.int .i64 0))
 go_upto_region 5 with fail
 obtain ⟨⟨z0,z1,z2⟩,zz⟩:=block3 HS2.out.res
 go_wp2
 refine bodyPost_ret (v := .tuple #[plV nilS nilS 0,.int .i64 24]) ?_ rfl (poR_no (by decide) HBE.out)
 exact ret_pl2 (fn:=Tryz.f157) (p:=6) (u:=7) rfl _ _ (W.heap.size+1) (by rfl) HRE.out
theorem riota_none {H:Nat->Prop}{w:World}{a:PA}{h x:Sl} (g:PV H w (rawP a) h x (a.fill:Int)) (o most:Nat) (d:Nat) (hg:GoodA d a) (hr:a.shape.length<=1) (hl:a.len=1) (hf:a.fill=0) (hw:wholeP ((numsA a).getD 0 0)=none) (W:World) (hb:Below w.heap.size w W):Calls Tryz.prog 157 #[plV h x (a.fill:Int),.int .i64 (o:Int),.int .i64 (most:Int)] W (PoR H W none):=by
 have hf1:(((a.fill:Nat):Int) != 0)=false:=by rw [hf];rfl
 have HF:=Lib.hid hf
 clear hf
 rw [rp_eta (rawP a)] at g
 have hil:(rawP a).its.length=a.len:=rawP_len a
 obtain ⟨hsr,-,hx,hit⟩:=g.open_
 have hrk:h.2.1=a.shape.length:=by
  obtain ⟨A9,n9,c9,e9,e8,-⟩:=int_open hsr.now
  injection e9 with _ e9 _
  rw [e9,e8,rawP_shp,List.length_map]
 obtain ⟨xA,xn,xc⟩:=x
 dsimp only at hx hit
 have HB:=Lib.hid hb
 have HS0:=Lib.hid (P1.new W h (xA,xn,xc) (a.fill:Int))
 have HLS:=Lib.hid (fun W=>rlist27_any h (xA,xn,xc) (a.fill:Int) W)
 obtain ⟨w1,hw1⟩:∃ w1,w1=(W.alloc (plO h (xA,xn,xc) (a.fill:Int))).alloc (plO nilS nilS 0):=⟨_,rfl⟩
 have HW1:=Lib.hid hw1
 rw [<- hw1] at HS0
 have hd1:decide ((h.2.1:Int)<=1)=true:=decide_eq_true (by omega)
 rw [hd1] at HLS
 have hl1:((xn:Int) != 1)=false:=by rw [hx,hil,hl];rfl
 have hx1:(0:Int) < (xn:Int):=by omega
 have hx2:0 < xn:=by omega
 obtain ⟨b,o9,k9,n9,c9,y9,hxA,-,hiv,hat⟩:=hit 0 (by omega)
 subst hxA
 have hnum:numI (rawP a).its[0]=n9:=by
  generalize (rawP a).its[0]=t at hiv
  cases t with
  | mk kind num char box=>rw [IV] at hiv;exact hiv.2.1.symm
 have HAT:Hid (∀ W,Below w.heap.size w W->At4 W b (o9+0*4) k9 n9 c9 y9):=fun W hb=>hat W (Lat.below hb)
 have hnv:n9=(numsA a).getD 0 0:=by
  rw [<- hnum,<- numsA_its a]
  have h0:0 < (rawP a).its.length:=by omega
  simp [List.getD,h0]
 have hwo:∀ W,Calls Tryz.prog 177 #[.float .f64 n9] W fun e w'=>e= .returned (.bool false)/\W=w':=fun W=>by
  have htf:TF n9:=by
   rw [hnv]
   have h0:0 < (numsA a).length:=by rw [numsA_len];omega
   rw [show (numsA a).getD 0 0=(numsA a)[0] from by simp [List.getD,h0]]
   exact numsA_tf hg _ (List.getElem_mem _)
  rw [<- hnv] at hw
  rcases whole_cases htf with ⟨z,-,-,e⟩ | ⟨-,s,Z,hz,rfl,hn⟩
  ·rw [e] at hw;cases hw
  ·exact rwhole_no' s hz hn W
 have HWO:=Lib.hid hwo
 clear g hil hsr hx hrk hb hw1 hd1 hr hl hnum hiv hat hit hwo hnv hw hg
 go_enter Tryz.func157,Tryz.ntmps157
 obtain ⟨p0,p1,p2⟩:=at3_c HS0.out.one
 dsimp only at p1
 rw [HW1.out] at p0 p1 p2
 go_wp2_with fail
 rw [<- HW1.out]
 refine (HLS.out _).mono ?_
 rintro e w2 ⟨rfl,hb2⟩
 have HS2:=Lib.hid (HS0.out.step hb2)
 clear hb2 p0 p1 p2 HS0 HLS HW1
 obtain ⟨p0,p1,p2⟩:=at3_c HS2.out.one
 dsimp only at p1
 obtain ⟨q0,q1,q2,q3⟩:=HAT.out _ (bel_both HB.out HS2.out.bel)
 simp only [Nat.zero_mul,Nat.add_zero] at q0 q1 q2 q3
 clear HAT
 go_wp2_with fail
 refine (HWO.out _).mono ?_
 rintro e w3 ⟨rfl,rfl⟩
 have HBE:=Lib.hid (below_set3 HS2.out.bel (Nat.le_succ _) (.slice none 0 0) (.slice none 0 0) (.int .i64 0))
 have HRE:=Lib.hid (set3_block HS2.out.res (.slice none 0 0) (.slice none 0 0) (.int .i64 0))
 go_upto_region 5 with fail
 obtain ⟨⟨z0,z1,z2⟩,zz⟩:=block3 HS2.out.res
 go_wp2
 refine bodyPost_ret (v := .tuple #[plV nilS nilS 0,.int .i64 24]) ?_ rfl (poR_no (by decide) HBE.out)
 exact ret_pl2 (fn:=Tryz.f157) (p:=6) (u:=7) rfl _ _ (W.heap.size+1) (by rfl) HRE.out
theorem riota_neg {H:Nat->Prop}{w:World}{a:PA}{h x:Sl} (g:PV H w (rawP a) h x (a.fill:Int)) (o most:Nat) (hr:a.shape.length<=1) (hl:a.len=1) (hf:a.fill=0) (z:Int) (hw:wholeP ((numsA a).getD 0 0)=some z) (hz:z < 0) (W:World) (hb:Below w.heap.size w W):Calls Tryz.prog 157 #[plV h x (a.fill:Int),.int .i64 (o:Int),.int .i64 (most:Int)] W (PoR H W none):=by
 have hf1:(((a.fill:Nat):Int) != 0)=false:=by rw [hf];rfl
 have HF:=Lib.hid hf
 clear hf
 rw [rp_eta (rawP a)] at g
 have hil:(rawP a).its.length=a.len:=rawP_len a
 obtain ⟨hsr,-,hx,hit⟩:=g.open_
 have hrk:h.2.1=a.shape.length:=by
  obtain ⟨A9,n9,c9,e9,e8,-⟩:=int_open hsr.now
  injection e9 with _ e9 _
  rw [e9,e8,rawP_shp,List.length_map]
 obtain ⟨xA,xn,xc⟩:=x
 dsimp only at hx hit
 have HB:=Lib.hid hb
 have HS0:=Lib.hid (P1.new W h (xA,xn,xc) (a.fill:Int))
 have HLS:=Lib.hid (fun W=>rlist27_any h (xA,xn,xc) (a.fill:Int) W)
 obtain ⟨w1,hw1⟩:∃ w1,w1=(W.alloc (plO h (xA,xn,xc) (a.fill:Int))).alloc (plO nilS nilS 0):=⟨_,rfl⟩
 have HW1:=Lib.hid hw1
 rw [<- hw1] at HS0
 have hd1:decide ((h.2.1:Int)<=1)=true:=decide_eq_true (by omega)
 rw [hd1] at HLS
 have hl1:((xn:Int) != 1)=false:=by rw [hx,hil,hl];rfl
 have hx1:(0:Int) < (xn:Int):=by omega
 have hx2:0 < xn:=by omega
 obtain ⟨b,o9,k9,n9,c9,y9,hxA,-,hiv,hat⟩:=hit 0 (by omega)
 subst hxA
 have hnum:numI (rawP a).its[0]=n9:=by
  generalize (rawP a).its[0]=t at hiv
  cases t with
  | mk kind num char box=>rw [IV] at hiv;exact hiv.2.1.symm
 have HAT:Hid (∀ W,Below w.heap.size w W->At4 W b (o9+0*4) k9 n9 c9 y9):=fun W hb=>hat W (Lat.below hb)
 have hnv:n9=(numsA a).getD 0 0:=by
  rw [<- hnum,<- numsA_its a]
  have h0:0 < (rawP a).its.length:=by omega
  simp [List.getD,h0]
 obtain ⟨hgz,hzz⟩:=wholeP_some hw
 have hn9:n9=fi z:=by rw [hnv,hzz]
 subst hn9
 have HWO:=Lib.hid (fun W=>rwhole_fi z hgz W)
 have ho0:FloatKind.f64.format.order (fi z) 0=some (compare z 0):=by
  have h:=order_fi z 0 (natAbs_good hgz) (by decide)
  rw [fi_zero] at h
  exact h
 rw [Int.compare_eq_lt.2 hz] at ho0
 generalize fi z=fz at *
 clear g hil hsr hx hrk hb hw1 hd1 hr hl hnum hiv hat hit hnv hw hgz hzz hz
 go_enter Tryz.func157,Tryz.ntmps157
 obtain ⟨p0,p1,p2⟩:=at3_c HS0.out.one
 dsimp only at p1
 rw [HW1.out] at p0 p1 p2
 go_wp2_with fail
 rw [<- HW1.out]
 refine (HLS.out _).mono ?_
 rintro e w2 ⟨rfl,hb2⟩
 have HS2:=Lib.hid (HS0.out.step hb2)
 clear hb2 p0 p1 p2 HS0 HLS HW1
 obtain ⟨p0,p1,p2⟩:=at3_c HS2.out.one
 dsimp only at p1
 obtain ⟨q0,q1,q2,q3⟩:=HAT.out _ (bel_both HB.out HS2.out.bel)
 simp only [Nat.zero_mul,Nat.add_zero] at q0 q1 q2 q3
 clear HAT
 go_wp2_with fail
 refine (HWO.out _).mono ?_
 rintro e w3 ⟨rfl,rfl⟩
 have HBE:=Lib.hid (below_set3 HS2.out.bel (Nat.le_succ _) (.slice none 0 0) (.slice none 0 0) (.int .i64 0))
 have HRE:=Lib.hid (set3_block HS2.out.res (.slice none 0 0) (.slice none 0 0) (.int .i64 0))
 go_upto_region 5 with fail
 obtain ⟨⟨z0,z1,z2⟩,zz⟩:=block3 HS2.out.res
 go_wp2
 refine bodyPost_ret (v := .tuple #[plV nilS nilS 0,.int .i64 24]) ?_ rfl (poR_no (by decide) HBE.out)
 exact ret_pl2 (fn:=Tryz.f157) (p:=6) (u:=7) rfl _ _ (W.heap.size+1) (by rfl) HRE.out
theorem riota_big {H:Nat->Prop}{w:World}{a:PA}{h x:Sl} (g:PV H w (rawP a) h x (a.fill:Int)) (o most:Nat) (hm:most<=1000000) (hr:a.shape.length<=1) (hl:a.len=1) (hf:a.fill=0) (z:Int) (hw:wholeP ((numsA a).getD 0 0)=some z) (hz:0<=z) (hz2:(most:Int) < z) (W:World) (hb:Below w.heap.size w W):Calls Tryz.prog 157 #[plV h x (a.fill:Int),.int .i64 (o:Int),.int .i64 (most:Int)] W (PoR H W none):=by
 have hf1:(((a.fill:Nat):Int) != 0)=false:=by rw [hf];rfl
 have HF:=Lib.hid hf
 clear hf
 rw [rp_eta (rawP a)] at g
 have hil:(rawP a).its.length=a.len:=rawP_len a
 obtain ⟨hsr,-,hx,hit⟩:=g.open_
 have hrk:h.2.1=a.shape.length:=by
  obtain ⟨A9,n9,c9,e9,e8,-⟩:=int_open hsr.now
  injection e9 with _ e9 _
  rw [e9,e8,rawP_shp,List.length_map]
 obtain ⟨xA,xn,xc⟩:=x
 dsimp only at hx hit
 have HB:=Lib.hid hb
 have HS0:=Lib.hid (P1.new W h (xA,xn,xc) (a.fill:Int))
 have HLS:=Lib.hid (fun W=>rlist27_any h (xA,xn,xc) (a.fill:Int) W)
 obtain ⟨w1,hw1⟩:∃ w1,w1=(W.alloc (plO h (xA,xn,xc) (a.fill:Int))).alloc (plO nilS nilS 0):=⟨_,rfl⟩
 have HW1:=Lib.hid hw1
 rw [<- hw1] at HS0
 have hd1:decide ((h.2.1:Int)<=1)=true:=decide_eq_true (by omega)
 rw [hd1] at HLS
 have hl1:((xn:Int) != 1)=false:=by rw [hx,hil,hl];rfl
 have hx1:(0:Int) < (xn:Int):=by omega
 have hx2:0 < xn:=by omega
 obtain ⟨b,o9,k9,n9,c9,y9,hxA,-,hiv,hat⟩:=hit 0 (by omega)
 subst hxA
 have hnum:numI (rawP a).its[0]=n9:=by
  generalize (rawP a).its[0]=t at hiv
  cases t with
  | mk kind num char box=>rw [IV] at hiv;exact hiv.2.1.symm
 have HAT:Hid (∀ W,Below w.heap.size w W->At4 W b (o9+0*4) k9 n9 c9 y9):=fun W hb=>hat W (Lat.below hb)
 have hnv:n9=(numsA a).getD 0 0:=by
  rw [<- hnum,<- numsA_its a]
  have h0:0 < (rawP a).its.length:=by omega
  simp [List.getD,h0]
 obtain ⟨hgz,hzz⟩:=wholeP_some hw
 have hn9:n9=fi z:=by rw [hnv,hzz]
 subst hn9
 have HWO:=Lib.hid (fun W=>rwhole_fi z hgz W)
 have ho0:FloatKind.f64.format.order (fi z) 0=some (compare z 0):=by
  have h:=order_fi z 0 (natAbs_good hgz) (by decide)
  rw [fi_zero] at h
  exact h
 have ho1:¬ FloatKind.f64.format.order (fi z) 0=some .lt:=by rw [ho0];intro e;have:=Int.compare_eq_lt.1 (Option.some.inj e);omega
 have ho2:(FloatKind.f64.format.order (fi z) 0==some .lt)=false:=beq_eq_false_iff_ne.2 ho1
 have ho3:FloatKind.f64.format.order (fi z) (floatOfInt .f64 (most:Int))=some .gt:=by
  show Ieee.double.order (fi z) (fi (most:Int))=_
  rw [order_fi z most (natAbs_good hgz) (by omega),Int.compare_eq_gt.2 hz2]
 clear ho0
 generalize fi z=fz at *
 clear g hil hsr hx hrk hb hw1 hd1 hr hl hnum hiv hat hit hnv hw hgz hzz hz hz2
 go_enter Tryz.func157,Tryz.ntmps157
 obtain ⟨p0,p1,p2⟩:=at3_c HS0.out.one
 dsimp only at p1
 rw [HW1.out] at p0 p1 p2
 go_wp2_with fail
 rw [<- HW1.out]
 refine (HLS.out _).mono ?_
 rintro e w2 ⟨rfl,hb2⟩
 have HS2:=Lib.hid (HS0.out.step hb2)
 clear hb2 p0 p1 p2 HS0 HLS HW1
 obtain ⟨p0,p1,p2⟩:=at3_c HS2.out.one
 dsimp only at p1
 obtain ⟨q0,q1,q2,q3⟩:=HAT.out _ (bel_both HB.out HS2.out.bel)
 simp only [Nat.zero_mul,Nat.add_zero] at q0 q1 q2 q3
 clear HAT
 go_wp2_with fail
 refine (HWO.out _).mono ?_
 rintro e w3 ⟨rfl,rfl⟩
 have HBE:=Lib.hid (below_set3 HS2.out.bel (Nat.le_succ _) (.slice none 0 0) (.slice none 0 0) (.int .i64 0))
 have HRE:=Lib.hid (set3_block HS2.out.res (.slice none 0 0) (.slice none 0 0) (.int .i64 0))
 go_upto_region 7 with fail
 obtain ⟨⟨z0,z1,z2⟩,zz⟩:=block3 HS2.out.res
 go_wp2
 refine bodyPost_ret (v := .tuple #[plV nilS nilS 0,.int .i64 26]) ?_ rfl (poR_no (by decide) HBE.out)
 exact ret_pl2 (fn:=Tryz.f157) (p:=6) (u:=7) rfl _ _ (W.heap.size+1) (by rfl) HRE.out
theorem conv_fint (n:Int) (h:Good n) (w:World):(convert 96 3 (.float .f64 (fi n))).run Tryz.prog w= .ok (.int .i64 n) w:=by
 have hn:=natAbs_good h
 have h1:=toInt64_W (decide (n < 0)) (rep_fi n hn) (by rw [Nat.mul_div_cancel _ K_pos];omega)
 rw [Nat.mul_div_cancel _ K_pos,sg_dec_natAbs,<- fi_W n hn] at h1
 exact run_convert_float_int (P:=Tryz.prog) w 96 3 .f64 .i64 (fi n) _ (by kernel_rfl) Tryz.underlying3 h1
theorem riota_ok {H:Nat->Prop}{w:World}{a:PA}{h x:Sl} (g:PV H w (rawP a) h x (a.fill:Int)) (o most:Nat) (hH:∀ b,H b->b < w.heap.size) (ho:o<=1) (hm:most<=1000000) (hr:a.shape.length<=1) (hl:a.len=1) (hf:a.fill=0) (n:Nat) (hw:wholeP ((numsA a).getD 0 0)=some (n:Int)) (hn:n<=most) (W:World) (hb:Below w.heap.size w W):Calls Tryz.prog 157 #[plV h x (a.fill:Int),.int .i64 (o:Int),.int .i64 (most:Int)] W (PoR H W (some (.nums [n] ((List.range n).map fun j=>fi ((j+o:Nat):Int))))):=by
 obtain ⟨z,hz⟩:∃ z:Int,z=(n:Int):=⟨_,rfl⟩
 rw [<- hz] at hw
 have HH:=Lib.hid hH
 clear hH
 have hf1:(((a.fill:Nat):Int) != 0)=false:=by rw [hf];rfl
 have HF:=Lib.hid hf
 clear hf
 rw [rp_eta (rawP a)] at g
 have hil:(rawP a).its.length=a.len:=rawP_len a
 obtain ⟨hsr,-,hx,hit⟩:=g.open_
 have hrk:h.2.1=a.shape.length:=by
  obtain ⟨A9,n9,c9,e9,e8,-⟩:=int_open hsr.now
  injection e9 with _ e9 _
  rw [e9,e8,rawP_shp,List.length_map]
 obtain ⟨xA,xn,xc⟩:=x
 dsimp only at hx hit
 have HB:=Lib.hid hb
 have HS0:=Lib.hid (P1.new W h (xA,xn,xc) (a.fill:Int))
 have HLS:=Lib.hid (fun W=>rlist27_any h (xA,xn,xc) (a.fill:Int) W)
 obtain ⟨w1,hw1⟩:∃ w1,w1=(W.alloc (plO h (xA,xn,xc) (a.fill:Int))).alloc (plO nilS nilS 0):=⟨_,rfl⟩
 have HW1:=Lib.hid hw1
 rw [<- hw1] at HS0
 have hd1:decide ((h.2.1:Int)<=1)=true:=decide_eq_true (by omega)
 rw [hd1] at HLS
 have hl1:((xn:Int) != 1)=false:=by rw [hx,hil,hl];rfl
 have hx1:(0:Int) < (xn:Int):=by omega
 have hx2:0 < xn:=by omega
 obtain ⟨b,o9,k9,n9,c9,y9,hxA,-,hiv,hat⟩:=hit 0 (by omega)
 subst hxA
 have hnum:numI (rawP a).its[0]=n9:=by
  generalize (rawP a).its[0]=t at hiv
  cases t with
  | mk kind num char box=>rw [IV] at hiv;exact hiv.2.1.symm
 have HAT:Hid (∀ W,Below w.heap.size w W->At4 W b (o9+0*4) k9 n9 c9 y9):=fun W hb=>hat W (Lat.below hb)
 have hnv:n9=(numsA a).getD 0 0:=by
  rw [<- hnum,<- numsA_its a]
  have h0:0 < (rawP a).its.length:=by omega
  simp [List.getD,h0]
 obtain ⟨hgz,hzz⟩:=wholeP_some hw
 have hn9:n9=fi z:=by rw [hnv,hzz]
 subst hn9
 have HWO:=Lib.hid (fun W=>rwhole_fi z hgz W)
 have ho0:FloatKind.f64.format.order (fi z) 0=some (compare z 0):=by
  have h:=order_fi z 0 (natAbs_good hgz) (by decide)
  rw [fi_zero] at h
  exact h
 have ho1:¬ FloatKind.f64.format.order (fi z) 0=some .lt:=by rw [ho0];intro e;have:=Int.compare_eq_lt.1 (Option.some.inj e);omega
 have ho2:(FloatKind.f64.format.order (fi z) 0==some .lt)=false:=beq_eq_false_iff_ne.2 ho1
 have ho3:¬ FloatKind.f64.format.order (fi z) (floatOfInt .f64 (most:Int))=some .gt:=by
  show ¬ Ieee.double.order (fi z) (fi (most:Int))=_
  rw [order_fi z most (natAbs_good hgz) (by omega)];intro e;have:=Int.compare_eq_gt.1 (Option.some.inj e);omega
 have ho4:(FloatKind.f64.format.order (fi z) (floatOfInt .f64 (most:Int))==some .gt)=false:=beq_eq_false_iff_ne.2 ho3
 have hcv:∀ W,(convert 96 3 (.float .f64 (fi z))).run Tryz.prog W= .ok (.int .i64 (n:Int)) W:=fun W=>by rw [<- hz];exact conv_fint z hgz W
 clear ho0 hz
 generalize fi z=fz at *
 have hnb:n<=1000000:=by omega
 clear g hil hsr hx hrk hb hw1 hd1 hr hl hnum hiv hat hit hnv hw hgz hzz hn
 go_enter Tryz.func157,Tryz.ntmps157
 obtain ⟨p0,p1,p2⟩:=at3_c HS0.out.one
 dsimp only at p1
 rw [HW1.out] at p0 p1 p2
 go_wp2_with fail
 rw [<- HW1.out]
 refine (HLS.out _).mono ?_
 rintro e w2 ⟨rfl,hb2⟩
 have HS2:=Lib.hid (HS0.out.step hb2)
 clear hb2 p0 p1 p2 HS0 HLS HW1
 obtain ⟨p0,p1,p2⟩:=at3_c HS2.out.one
 dsimp only at p1
 obtain ⟨q0,q1,q2,q3⟩:=HAT.out _ (bel_both HB.out HS2.out.bel)
 simp only [Nat.zero_mul,Nat.add_zero] at q0 q1 q2 q3
 clear HAT
 go_wp2_with fail
 refine (HWO.out _).mono ?_
 rintro e w3 ⟨rfl,rfl⟩
 have HO0:Hid (Own1 w2 (W.heap.size+2) 3 (.slice none 0 0) ((List.range 0).map fun j:Nat=>Value.int .i64 (j:Int))):=Own1.nil _ _ _
 go_wp2
 clear p0 p1 p2 q0 q1 q2 q3
 go_loopw [9,10] (fun vv iv wr=>∃ i:Nat,i<=n/\iv= .int .i64 (i:Int)/\Own1 wr (W.heap.size+2) 3 vv ((List.range i).map fun j:Nat=>Value.int .i64 (j:Int))/\P1 W wr h (some ⟨b,o9,none⟩,xn,xc) (a.fill:Int)) (fun _ iv _=>n - (intOf iv).toNat)
 case atStart=>exact ⟨0,Nat.zero_le _,rfl,HO0.out,HS2.out⟩
 case round =>
  obtain ⟨i,hi,rfl,hown,hst⟩:=hrel
  have HOWN:=Lib.hid hown
  have HST:=Lib.hid hst
  obtain ⟨vA,vc,hv⟩:∃ A c,_=Value.slice A ((List.range i).map fun j:Nat=>Value.int .i64 (j:Int)).length c:=hown.reads.len
  subst hv
  clear hown hst HO0 HS2
  have hsz:W.heap.size+2<=wr.heap.size:=HST.out.sz
  have hlen:((List.range i).map fun j:Nat=>Value.int .i64 (j:Int)).length=i:=by simp
  by_cases hlt:i < n
  ·have hlt2:(i:Int) < (n:Int):=by omega
   have HSI:Hid (((List.range i).map fun j:Nat=>Value.int .i64 (j:Int))++[Value.int .i64 (i:Int)]=(List.range (i+1)).map fun j:Nat=>Value.int .i64 (j:Int)):=rng_snoc (fun j:Nat=>Value.int .i64 (j:Int)) i
   have HL1:Hid ((((List.range i).map fun j:Nat=>Value.int .i64 (j:Int)).length+1)*8<=140737488355328):=by unfold Hid;rw [hlen];omega
   have HL2:Hid (((List.range i).map fun j:Nat=>Value.int .i64 (j:Int)).length+1<=140737488355328):=by unfold Hid;rw [hlen];omega
   clear hlen
   generalize hXX:((List.range i).map fun j:Nat=>Value.int .i64 (j:Int))=XX at *
   clear hXX
   go_wp2_with (at_builtin;refine wpList_push1' rfl (.tmp 50) (.tmp 52) 41 3 rfl Tryz.underlying41 (.int .i64 0) 8 info_intC rfl (W.heap.size+2) _ XX rfl HOWN.out (.int .i64 (i:Int)) rfl wr.heap.size rfl rfl HL1.out HL2.out hsz ?_;intro v' w6 hv' hb';have HB':=Lib.hid (hb' wr (Below.refl _ _));rw [HSI.out] at hv';have HV:=Lib.hid hv';clear hb' hv')
   go_roundw
   case rel=>exact ⟨i+1,by omega,by go_num,HV.out,HST.out.up HB'.out⟩
   case measure=>simp [intOf];omega
  ·have hge:¬ (i:Int) < (n:Int):=by omega
   obtain rfl:i=n:=by omega
   have HRN:=Lib.hid (rints_any (.slice vA i vc) i o (fun j=>j) (fun b=>H b\/b=W.heap.size+1) wr (fun b e=>by
    have h1:=HB.out.size
    have h9:=HST.out.sz
    rcases e with e | e
    ·have:=HH.out b e;omega
    ·omega) (by omega) ho (fun j hj=>by omega) (by have h:=HOWN.out.reads;rw [hlen] at h;exact h))
   unfold PlR at HRN
   rw [hlen]
   clear hlen HOWN
   go_wp2_with fail
   refine HRN.out.mono ?_
   rintro e w5 ⟨h5,x5,rfl,hp5,hb5⟩
   have HS5:=Lib.hid (HST.out.step hb5)
   clear hb5 HRN HST
   have HPV:=Lib.hid (pl_fin hp5)
   have HBE:=Lib.hid (below_set3 HS5.out.bel (Nat.le_succ _) (sv h5) (sv x5) (.int .i64 0))
   have HRE:=Lib.hid (set3_block HS5.out.res (sv h5) (sv x5) (.int .i64 0))
   obtain ⟨⟨z0,z1,z2⟩,zz⟩:=block3 HS5.out.res
   clear hp5
   go_wp2
   refine bodyPost_ret (v := .tuple #[plV h5 x5 0,.int .i64 0]) ?_ rfl (poR_yes HPV.out HBE.out)
   exact ret_pl2 (fn:=Tryz.f157) (p:=6) (u:=7) rfl _ _ (W.heap.size+1) (by rfl) HRE.out
theorem riota_any {H:Nat->Prop}{w:World}{a:PA}{h x:Sl} (g:PV H w (rawP a) h x (a.fill:Int)) (o most:Nat) (hH:∀ b,H b->b < w.heap.size) (ho:o<=1) (hm:most<=1000000) (d:Nat) (hg:GoodA d a) (W:World) (hb:Below w.heap.size w W):Calls Tryz.prog 157 #[plV h x (a.fill:Int),.int .i64 (o:Int),.int .i64 (most:Int)] W (PoR H W ((iotaN a most).map fun m => .nums [m] ((List.range m).map fun j=>fi ((j+o:Nat):Int)))):=by
 unfold iotaN
 by_cases hl:a.len=1
 ·by_cases hr:a.shape.length<=1
  ·rw [if_pos ⟨hl,hr⟩]
   by_cases hf:a.fill=0
   ·have hwv:whV a=wholeP ((numsA a).getD 0 0):=by
     cases a with
     | nums s l=>rfl
     | chars s l=>cases hf
     | boxes s l=>cases hf
    rw [hwv]
    cases hw:wholeP ((numsA a).getD 0 0) with
    | none=>exact riota_none g o most d hg hr hl hf hw W hb
    | some z =>
     dsimp only
     by_cases hz:0<=z
     ·by_cases hz2:z<=(most:Int)
      ·rw [if_pos ⟨hz,hz2⟩]
       obtain ⟨n,rfl⟩:∃ n:Nat,z=(n:Int):=⟨z.toNat,by omega⟩
       rw [Int.toNat_natCast]
       exact riota_ok g o most hH ho hm hr hl hf n hw (by omega) W hb
      ·rw [if_neg (fun e=>hz2 e.2)]
       exact riota_big g o most hm hr hl hf z hw hz (by omega) W hb
     ·rw [if_neg (fun e=>hz e.1)]
      exact riota_neg g o most hr hl hf z hw (by omega) W hb
   ·have hwv:whV a=none:=by
     cases a with
     | nums s l=>exact absurd rfl hf
     | chars s l=>rfl
     | boxes s l=>rfl
    rw [hwv]
    exact riota_fill g o most hr hl hf W hb
  ·rw [if_neg (fun e=>hr e.2)]
   exact riota_rank g o most hr W hb
 ·rw [if_neg (fun e=>hl e.1)]
  by_cases hr:a.shape.length<=1
  ·exact riota_len g o most hr hl W hb
  ·exact riota_rank g o most hr W hb
def shpA (a:PA):PA := .nums [a.shape.length] (a.shape.map fun d:Nat=>fi (d:Int))
def talN (a:PA):Nat:=match a.shape with | []=>1 | d::_=>d
noncomputable def rG (j:Nat) (a:PA) (o most:Nat):Option PA :=
 match j with
 | 0=>some (revA a) | 1=>some (shpA a) | 2=>grE a false o | 3=>grE a true o | 4=>whE a o | 5=>unE a | 6=>whE a o | 7=>some (shpA a) | 8=>some (shpA a) | 9=>some (ravA a)
 | 10=>(iotaN a most).map fun m => .nums [m] ((List.range m).map fun j=>fi ((j+o:Nat):Int))
 | _=>some (ravA a)
noncomputable def rF (j:Nat) (a:PA):PA :=
 match j with
 | 5=>oneA (talN a:Int) | 6=>oneA (talN a:Int) | 7=>oneA (talN a:Int) | 8=>shpA a | 9=>oneA (talN a:Int) | 10=>revA a | _=>firE a
noncomputable def rchE (j:Nat) (a:PA) (o most:Nat):Option PA:=(toldE most (rG j a o most)).bind fun R=>toldE most (some (rF j R))
theorem pzR_pl {H:Nat->Prop}{w:World}{t:RP}{f:Int}{e:Ending}{w':World} (h:PlR H w t f e w'):PzR H w t e w':=by
 obtain ⟨h',x',e',hp,hb⟩:=h
 exact ⟨h',x',f,e',hp,hb⟩
theorem shape34 {H:Nat->Prop}{w:World}{a:PA}{h x:Sl}{f:Int} (g:PV H w (rawP a) h x f) (hl:a.shape.length<=1048576) (hd:∀ d∈a.shape,d<=1048576) (W:World) (hb:Below w.heap.size w W) (hH:∀ b,H b->b < w.heap.size) :
  Calls Tryz.prog 155 #[plV h x f] W (PzR H W (rawP (shpA a))):=by
 rw [rp_eta (rawP a),rawP_shp] at g
 exact (rshape_any g hl hd W hb hH).mono fun e w' h=>pzR_pl h
theorem toldE_some {most:Nat}{r:Option PA}{R:PA} (h:toldE most r=some R):r=some R/\R.len<=most:=by
 unfold toldE at h
 cases r with
 | none=>exact absurd h (by simp)
 | some t =>
  simp only [Option.bind_some] at h
  split at h
  ·rename_i h1
   injection h with h
   subst h
   exact ⟨rfl,h1⟩
  ·exact absurd h (by simp)
theorem primG_any {H:Nat->Prop}{w:World}{a:PA}{h x:Sl} (g:PV H w (rawP a) h x (a.fill:Int)) (hH:∀ b,H b->b < w.heap.size) (hcap:h.2.1<=h.2.2) (d:Nat) (hg:GoodA d a) (hs:SmA 1000000 a) (hl:a.len<=1000000) (o most:Nat) (ho:o<=1) (hm:most<=1000000) (j:Nat) (hj:j < 12) (W:World) (hb:Below w.heap.size w W) :
  Calls Tryz.prog 101 #[.int .i32 (sgG j),plV h x (a.fill:Int),.int .i64 (o:Int),.int .i64 (most:Int)] W (PoR H W (rG j a o most)):=by
 have hok:OkSh a.shape a.len:=hg.sh.2
 have hsl:a.shape.length<=1048576:=by have:=hok.1;omega
 have hsd:∀ d∈a.shape,d<=1048576:=fun d hd=>by
  obtain ⟨i,hi,rfl⟩:=List.getElem_of_mem hd
  exact Nat.le_trans (prod1_elem hi) hok.2.1
 have hgf:=g
 obtain ⟨f,hf⟩:∃ f:Int,f=(a.fill:Int):=⟨_,rfl⟩
 rw [<- hf] at g ⊢
 have HH:Hid (∀ b,H b->b < W.heap.size):=fun b e=>by have:=hH b e;have:=hb.size;omega
 have hG:∀ W',P1 W W' h x f->PV (fun b=>H b\/b=W.heap.size+1) W' (rawP a) h x f:=fun W' s=>PV.step (PV.sub (fun b hb9 e=>by
  rcases e with e | e
  ·exact e
  ·have:=hb.size;omega) g) (bel_both hb s.bel)
 have hHo:∀ W',P1 W W' h x f->∀ b,(H b\/b=W.heap.size+1)->b < W'.heap.size:=fun W' s b e=>hole1 HH.out s b e
 have hgo:∀ W',P1 W W' h x f->PV (fun b=>H b\/b=W.heap.size+1) W' (rawP a) h x (a.fill:Int):=fun W' s=>by have:=hG W' s;rw [hf] at this;exact this
 have cG:∀ up W',P1 W W' h x f->Calls Tryz.prog 160 #[plV h x f,.bool up,.int .i64 (o:Int)] W' (PoR (fun b=>H b\/b=W.heap.size+1) W' (grE a up o)):=fun up W' s=>by
  have h9:=rgrade27_any (hgo W' s) up o hcap (hHo W' s) ho d hg hl W' (Below.refl _ _)
  rw [<- hf] at h9
  exact h9
 have cW:∀ W',P1 W W' h x f->Calls Tryz.prog 158 #[plV h x f,.int .i64 (o:Int)] W' (PoR (fun b=>H b\/b=W.heap.size+1) W' (whE a o)):=fun W' s=>by
  have h9:=rwhere_any (hgo W' s) (hHo W' s) o d hg hl ho W' (Below.refl _ _)
  rw [<- hf] at h9
  exact h9
 have cS:∀ W',P1 W W' h x f->Calls Tryz.prog 155 #[plV h x f] W' (PzR (fun b=>H b\/b=W.heap.size+1) W' (rawP (shpA a))):=fun W' s=>shape34 (hG W' s) hsl hsd W' (Below.refl _ _) (hHo W' s)
 match j,hj with
 | 0,_=>exact prim_rev h x f o most W (revA a) H (fun W' s=>rreverse_any (hG W' s) (hHo W' s) d hg hl W' (Below.refl _ _))
 | 1,_=>exact prim_shp h x f o most W (shpA a) H cS
 | 2,_=>exact prim_gru h x f o most W (grE a false o) H (fun W' s=>cG false W' s)
 | 3,_=>exact prim_grd h x f o most W (grE a true o) H (fun W' s=>cG true W' s)
 | 4,_=>exact prim_whe h x f o most W (whE a o) H cW
 | 5,_=>exact prim_uni h x f o most W (unE a) H (fun W' s=>by
   have h9:=runique_any (hgo W' s) (hHo W' s) d hg hs hl W' (Below.refl _ _)
   rw [<- hf] at h9
   exact h9)
 | 6,_=>exact prim_whe h x f o most W (whE a o) H cW
 | 7,_=>exact prim_shp h x f o most W (shpA a) H cS
 | 8,_=>exact prim_shp h x f o most W (shpA a) H cS
 | 9,_=>exact prim_rav g hH o most W hb
 | 10,_=>exact prim_iot h x f o most W _ H (fun W' s=>by
   have h9:=riota_any (hgo W' s) o most (hHo W' s) ho hm d hg W' (Below.refl _ _)
   rw [<- hf] at h9
   exact h9)
 | 11,_=>exact prim_rav g hH o most W hb
 | n+12,h9=>omega
theorem primF_any {H:Nat->Prop}{w:World}{a:PA}{h x:Sl} (g:PV H w (rawP a) h x (a.fill:Int)) (hH:∀ b,H b->b < w.heap.size) (hl:a.len<=1000000) (o most:Nat) (j:Nat) (hj:j < 12) (h8:j=8->a.shape.length<=8/\∀ d∈a.shape,d<=8) (h10:j=10->GoodA 1 a) (W:World) (hb:Below w.heap.size w W) :
  Calls Tryz.prog 101 #[.int .i32 (sgF j),plV h x (a.fill:Int),.int .i64 (o:Int),.int .i64 (most:Int)] W (PoR H W (some (rF j a))):=by
 have hrk:=rank_len g
 have hsr:Keeps H w (fun W'=>Reads1 W' (sv h) (a.shape.map natV)):=by
  have h1:=g
  rw [rp_eta (rawP a)] at h1
  have h2:=h1.open_.1
  rw [rawP_shp,List.map_map] at h2
  exact h2
 obtain ⟨f,hf⟩:∃ f:Int,f=(a.fill:Int):=⟨_,rfl⟩
 rw [<- hf] at g ⊢
 have HH:Hid (∀ b,H b->b < W.heap.size):=fun b e=>by have:=hH b e;have:=hb.size;omega
 have hG:∀ W',P1 W W' h x f->PV (fun b=>H b\/b=W.heap.size+1) W' (rawP a) h x f:=fun W' s=>PV.step (PV.sub (fun b hb9 e=>by
  rcases e with e | e
  ·exact e
  ·have:=hb.size;omega) g) (bel_both hb s.bel)
 have hHo:∀ W',P1 W W' h x f->∀ b,(H b\/b=W.heap.size+1)->b < W'.heap.size:=fun W' s b e=>hole1 HH.out s b e
 have cT:Calls Tryz.prog 101 #[.int .i32 8802,plV h x f,.int .i64 (o:Int),.int .i64 (most:Int)] W (PoR H W (some (oneA (talN a:Int)))):=by
  unfold talN
  rcases hsh:a.shape with _ | ⟨dd,t⟩
  ·exact prim_tal0 h x f o most W H HH.out (by rw [hrk,hsh];rfl)
  ·obtain ⟨A9,n9,c9,e9,hn9,hc9⟩:=map_open (hsr.step hb).now
   obtain ⟨b,o9,hA,hce⟩:=hc9 0 (by rw [hsh];simp)
   injection e9 with e1 e2 e3
   refine prim_tal1 h x f o most W H HH.out dd b o9 (by rw [e1,hA]) (by rw [hrk,hsh];simp) ?_
   rw [Nat.add_zero] at hce
   rw [hce]
   simp only [hsh,List.getElem_cons_zero]
 have cF:Calls Tryz.prog 101 #[.int .i32 8835,plV h x f,.int .i64 (o:Int),.int .i64 (most:Int)] W (PoR H W (some (firE a))) :=
  prim_fir h x f o most W (firE a) H (fun W' s=>rfirst28_any (hG W' s) (by omega) W' (Below.refl _ _) (hHo W' s))
 match j,hj,h8,h10 with
 | 0,_,_,_=>exact cF
 | 1,_,_,_=>exact cF
 | 2,_,_,_=>exact cF
 | 3,_,_,_=>exact cF
 | 4,_,_,_=>exact cF
 | 5,_,_,_=>exact cT
 | 6,_,_,_=>exact cT
 | 7,_,_,_=>exact cT
 | 8,_,h8,_=>exact prim_shp h x f o most W (shpA a) H (fun W' s=>shape34 (hG W' s) (by have:=(h8 rfl).1;omega) (fun d hd=>Nat.le_trans ((h8 rfl).2 d hd) (by decide)) W' (Below.refl _ _) (hHo W' s))
 | 9,_,_,_=>exact cT
 | 10,_,_,h10=>exact prim_rev h x f o most W (revA a) H (fun W' s=>rreverse_any (hG W' s) (hHo W' s) 1 (h10 rfl) hl W' (Below.refl _ _))
 | 11,_,_,_=>exact cF
 | n+12,h9,_,_=>omega
theorem rdochain_any {H:Nat->Prop}{w:World}{a:PA}{h x:Sl} (g:PV H w (rawP a) h x (a.fill:Int)) (hH:∀ b,H b->b < w.heap.size) (hcap:h.2.1<=h.2.2) (d:Nat) (hg:GoodA d a) (hs:SmA 1000000 a) (hl:a.len<=1000000) (o most:Nat) (ho:o<=1) (hm:most<=1000000) (j:Nat) (hj:j < 12) (W0:World) (hb0:Below w.heap.size w W0) :
  Calls Tryz.prog 19 #[.agg #[.int .i64 1,.int .i32 (sgF j),.int .i32 (sgG j)],plV h x (a.fill:Int),.int .i64 (o:Int),.int .i64 (most:Int)] W0 (PoR H W0 (rchE j a o most)):=by
 obtain ⟨W,hW⟩:∃ W,W=W0.alloc (phO (sgF j) (sgG j)):=⟨_,rfl⟩
 have hb:Below w.heap.size w W:=by rw [hW];exact bel_both hb0 (bel1 W0 _)
 have hok:OkSh a.shape a.len:=hg.sh.2
 have hgf:=g
 obtain ⟨f,hf⟩:∃ f:Int,f=(a.fill:Int):=⟨_,rfl⟩
 rw [<- hf] at g ⊢
 have HH:Hid (∀ b,H b->b < W.heap.size):=fun b e=>by have:=hH b e;have:=hb.size;omega
 have hG:∀ W',P1 W W' h x f->PV (fun b=>H b\/b=W.heap.size+1) W' (rawP a) h x f:=fun W' s=>PV.step (PV.sub (fun b hb9 e=>by
  rcases e with e | e
  ·exact e
  ·have:=hb.size;omega) g) (bel_both hb s.bel)
 have hHo:∀ W',P1 W W' h x f->∀ b,(H b\/b=W.heap.size+1)->b < W'.heap.size:=fun W' s b e=>hole1 HH.out s b e
 refine chain34_of (sgF j) (sgG j) h x f o most W0 W hW (toldE most (rG j a o most)) (fun R=>toldE most (some (rF j R))) H (fun W1 s1=>?_) (fun R hR W1 h7 x7 s1 g7 W2 hb2=>?_)
 ·refine do1_of (sgG j) h x f o most W1 (rG j a o most) _ (fun W2 s2=>?_)
  have h9:=primG_any (H:=fun b=>(H b\/b=W.heap.size+1)\/b=W1.heap.size+1) (w:=W2) (a:=a) (h:=h) (x:=x) (by
   rw [<- hf]
   exact PV.step (PV.sub (fun b hb9 e=>by
    rcases e with e | e
    ·exact e
    ·omega) (hG W1 s1)) s2.bel) (fun b e=>by
    have h1:=lt_blk s2.res
    rcases e with e | e
    ·have:=hHo W1 s1 b e;omega
    ·omega) hcap d hg hs hl o most ho hm j hj W2 (Below.refl _ _)
  rw [<- hf] at h9
  exact h9
 ·obtain ⟨hR1,hR2⟩:=toldE_some hR
  refine do1_of (sgF j) h7 x7 (R.fill:Int) o most W2 (some (rF j R)) _ (fun W3 s3=>?_)
  refine primF_any (H:=fun b=>(H b\/b=W.heap.size+1)\/b=W2.heap.size+1) (w:=W3) (PV.step (PV.sub (fun b hb9 e=>by
   rcases e with e | e
   ·exact e
   ·have:=hb2.size;omega) g7) (bel_both hb2 s3.bel)) (fun b e=>by
   have h1:=lt_blk s3.res
   have h2:=hb2.size
   rcases e with e | e
   ·have:=hHo W1 s1 b e;omega
   ·omega) (by omega) o most j hj (fun e8=>?_) (fun e10=>?_) W3 (Below.refl _ _)
  ·subst e8
   injection hR1 with hR1
   subst hR1
   refine ⟨by simp [shpA,PA.shape],fun d hd=>?_⟩
   have e:d=a.shape.length:=by simpa [shpA,PA.shape] using hd
   have:=hok.1
   omega
  ·subst e10
   obtain ⟨m,hm1,hm2⟩:=Option.map_eq_some_iff.1 (show (iotaN a most).map (fun m=>PA.nums [m] ((List.range m).map fun j=>fi ((j+o:Nat):Int)))=some R from hR1)
   subst hm2
   have hml:m<=most:=by simpa [PA.len] using hR2
   rw [GoodA]
   refine ⟨by decide,⟨by simp,?_,?_⟩,fun y hy=>?_⟩
   ·show max 1 m*1<=1048576
    omega
   ·show m*1=_
    simp
   ·obtain ⟨i,hi,rfl⟩:=List.mem_map.1 hy
    have:=List.mem_range.1 hi
    exact tf_fi ⟨by omega,by omega⟩
end Go.Proofs.YtbakjaliponbbaaGreatDoor
namespace Go.Proofs.YtbakjaliponbbaaGreatDoor
open Go
def rl (s:ByteArray):Nat->Nat->List Int
 | 0,_=>[]
 | f+1,i=>if i < s.size then ((Utf8.decode s i).1:Int)::rl s f (i+(Utf8.decode s i).2) else []
def runesOf (s:ByteArray):List Int:=rl s s.size 0
theorem rl_end (s:ByteArray){f i:Nat} (h:s.size<=i):rl s f i=[]:=by
 cases f with
 | zero=>rfl
 | succ f=>rw [rl,if_neg (by omega)]
theorem rl_fuel (s:ByteArray):∀ f g i,s.size - i<=f->s.size - i<=g->rl s f i=rl s g i
 | 0,g,i,h,_=>by rw [rl_end s (by omega),rl_end s (by omega)]
 | f+1,0,i,_,h=>by rw [rl_end s (by omega),rl_end s (by omega)]
 | f+1,g+1,i,h1,h2=>by
  rw [rl,rl]
  split
  ·rename_i hi
   have hw:=Lib.decode_width_pos s i hi
   rw [rl_fuel s f g _ (by omega) (by omega)]
  ·rfl
theorem rl_step (s:ByteArray){i:Nat} (h:i < s.size):rl s (s.size - i) i=((Utf8.decode s i).1:Int)::rl s (s.size - (i+(Utf8.decode s i).2)) (i+(Utf8.decode s i).2):=by
 have hw:=Lib.decode_width_pos s i h
 obtain ⟨f,hf⟩:∃ f,s.size - i=f+1:=⟨s.size - i - 1,by omega⟩
 rw [hf,rl,if_pos h,rl_fuel s f (s.size - (i+(Utf8.decode s i).2)) _ (by omega) (by omega)]
end Go.Proofs.YtbakjaliponbbaaGreatDoor
namespace Go.Proofs.YtbakjaliponbbaaGreatDoor
open Go Go.RowKit Go.Proofs
theorem Runes.opn {w:World}{v:Value}{l:List Int} (h:Runes w v l):∃ A cc n,v= .slice A n cc/\n=l.length /\
  ∀ i,i < l.length->∃ b o,A=some ⟨b,o,none⟩/\∀ w1,Below w.heap.size w w1->w1.cell? ⟨b,o+i,none⟩=some (.int .i32 (l.getD i 0)):=by
 rcases h with ⟨a,c,rfl,rfl⟩ | ⟨b,o,n,c,rfl,hn,hc⟩
 ·exact ⟨a,c,0,rfl,rfl,fun i hi=>by simp at hi⟩
 ·refine ⟨_,c,n,rfl,hn,fun i hi=>⟨b,o,rfl,fun w1 hb=>?_⟩⟩
  have:=hc i hi
  rw [hb.cell (cell_lt this),this]
  simp [List.getD,hi]
def codeS:List Int->Int->Int->Int
 | [],_,_=>0
 | x::xs,n,c=>if x=c/\c≠0 then n+1 else codeS xs (n+1) c
def codeStr:ByteArray:=⟨#[43,45,195,151,195,183,226,140,136,226,140,138,124,42,0,0,60,226,137,164,61,226,137,165,62,226,137,160,0,0,0,0,226,136,167,226,136,168,226,141,178,226,141,177]⟩
def codeL:List Int:=[43,45,215,247,8968,8970,124,42,0,0,60,8804,61,8805,62,8800,0,0,0,0,8743,8744,9074,9073]
def codeZ (c:Int):Int:=codeS codeL 0 c
theorem codeStr_runes:runesOf codeStr=codeL:=by decide+kernel
theorem code_walk (c:Int) (w:World):Calls Tryz.prog 26 #[.int .i32 c] w fun e w'=>e= .returned (.int .i64 (codeZ c))/\Below w.heap.size w w':=by
 obtain ⟨R,hR⟩:∃ R,R=codeZ c:=⟨_,rfl⟩
 obtain ⟨s,hs⟩:∃ s,s=codeStr:=⟨_,rfl⟩
 have hrl:runesOf s=codeL:=by rw [hs];exact codeStr_runes
 have HR0:Hid (R=codeS (rl s (s.size - 0) 0) 0 c):=by
  unfold Hid;rw [hR];show _=codeS (runesOf s) 0 c;rw [hrl];rfl
 have HL0:Hid ((0:Int)+(rl s (s.size - 0) 0).length<=100):=by
  unfold Hid;show (0:Int)+((runesOf s).length:Nat)<=100;rw [hrl];decide
 have HS:=Lib.hid hs
 rw [<- hR]
 clear hR hrl hs
 go_enter Tryz.func26,Tryz.ntmps26
 go_upto_region 1 with fail
 go_cut [3] from 4 (fun v wx=>v= .string s/\wx=w)
 case first =>
  go_wp2
  go_meet
  exact ⟨by rw [HS.out];rfl,rfl⟩
 case rest =>
  obtain ⟨rfl,rfl⟩:=hcut
  clear HS
  go_wp2
  go_loopw [4] (fun nv wr=>∃ (pos:Nat) (n:Int),wr=wc.iter s pos/\nv= .int .i64 n/\0<=n/\Hid (n+(rl s (s.size - pos) pos).length<=100)/\Hid (R=codeS (rl s (s.size - pos) pos) n c)) (fun _ wr=>s.size - wr.iterPos wc.heap.size)
  case atStart=>exact ⟨0,0,rfl,rfl,by omega,HL0.out,HR0.out⟩
  case round =>
   obtain ⟨pos,n,rfl,rfl,hn,hl,hrel⟩:=hrel
   by_cases h:pos < s.size
   ·have hnx:=fun ty=>run_next_any (P:=Tryz.prog) wc s pos ty h
    have HST:=Lib.hid (rl_step s h)
    have hwd:=Lib.decode_width_pos s pos h
    generalize Utf8.decode s pos=d at *
    obtain ⟨x,k⟩:=d
    simp only at hnx hwd HST
    have HL2:Hid (n+1+(rl s (s.size - (pos+k)) (pos+k)).length<=100):=by
     unfold Hid;have:=hl.out;rw [HST.out] at this;simp at this;omega
    have hn3:n+1<=100:=by have:=HL2.out;omega
    by_cases hc:(x:Int)=c
    ·by_cases hz:c=0
     ·have HT:Hid (R=codeS (rl s (s.size - (pos+k)) (pos+k)) (n+1) c):=by unfold Hid;rw [hrel.out,HST.out,codeS,if_neg (fun e=>e.2 hz)]
      have q1:((x:Int)==c)=true:=by simpa using hc
      have q2:(c != 0)=false:=by simpa using hz
      clear HST hrel hl hc hz
      go_wp2
      go_roundw
      case rel=>exact ⟨pos+k,n+1,rfl,by go_num,by omega,HL2.out,HT.out⟩
      case measure=>simp;omega
     ·have HT:Hid (R=n+1):=by unfold Hid;rw [hrel.out,HST.out,codeS,if_pos ⟨hc,hz⟩]
      have q1:((x:Int)==c)=true:=by simpa using hc
      have q2:(c != 0)=true:=by simpa using hz
      clear HST hrel hl hc hz
      go_wp2
      go_ret
      exact ⟨by rw [HT.out];go_num,(Below.refl _ wc).alloc (Nat.le_refl _) _⟩
    ·have HT:Hid (R=codeS (rl s (s.size - (pos+k)) (pos+k)) (n+1) c):=by unfold Hid;rw [hrel.out,HST.out,codeS,if_neg (fun e=>hc e.1)]
     have q1:((x:Int)==c)=false:=by simpa using hc
     clear HST hrel hl hc
     go_wp2
     go_roundw
     case rel=>exact ⟨pos+k,n+1,rfl,by go_num,by omega,HL2.out,HT.out⟩
     case measure=>simp;omega
   ·have hnx:=fun ty=>run_next_end (P:=Tryz.prog) wc s pos ty h
    have HT:Hid (R=0):=by unfold Hid;rw [hrel.out,rl_end s (by omega)];rfl
    go_wp2
    go_ret
    exact ⟨by rw [HT.out];rfl,(Below.refl _ wc).alloc (Nat.le_refl _) _⟩
inductive RTree where
 | mk (kind:Int) (nums:List Nat) (text:List Int) (name:ByteArray) (char:Int) (kids:List RTree)
mutual
def RN (w:World):RTree->List Value->Prop
 | .mk k nums text name c kids,vs=>∃ nv tv kv,vs=[.int .i64 k,nv,tv,.string name,.int .i32 c,kv]/\Reads1 w nv (nums.map (Value.float .f64))/\Reads1 w tv (text.map (Value.int .i32)) /\
   ((kids=[]/\∃ a cc,kv= .slice a 0 cc)\/(kids≠[]/\∃ b o cc,kv= .slice (some ⟨b,o,none⟩) kids.length cc/\kids.length<=cc/\RKs w b o kids))
def RKs (w:World) (b:Nat):Nat->List RTree->Prop
 | _,[]=>True
 | o,t::ts=>(∃ v0 v1 v2 v3 v4 v5,w.cell? ⟨b,o,none⟩=some v0/\w.cell? ⟨b,o+1,none⟩=some v1/\w.cell? ⟨b,o+2,none⟩=some v2/\w.cell? ⟨b,o+3,none⟩=some v3/\w.cell? ⟨b,o+4,none⟩=some v4/\w.cell? ⟨b,o+5,none⟩=some v5 /\
   RN w t [v0,v1,v2,v3,v4,v5])/\RKs w b (o+6) ts
end
mutual
theorem RN.below {w w':World} (hb:Below w.heap.size w w'):∀ (t:RTree) (vs:List Value),RN w t vs->RN w' t vs
 | .mk k nums text name c kids,vs,h=>by
  rw [RN] at h ⊢
  obtain ⟨nv,tv,kv,h1,h2,h3,h4⟩:=h
  refine ⟨nv,tv,kv,h1,h2.below hb,h3.below hb,?_⟩
  rcases h4 with h4 | ⟨h4,b,o,cc,h5,h5c,h6⟩
  ·exact .inl h4
  ·exact .inr ⟨h4,b,o,cc,h5,h5c,RKs.below hb b o kids h6⟩
theorem RKs.below {w w':World} (hb:Below w.heap.size w w') (b:Nat):∀ (o:Nat) (ts:List RTree),RKs w b o ts->RKs w' b o ts
 | _,[],_=>by rw [RKs];trivial
 | o,t::ts,h=>by
  rw [RKs] at h ⊢
  obtain ⟨⟨v0,v1,v2,v3,v4,v5,h0,h1,h2,h3,h4,h5,h6⟩,h7⟩:=h
  have k:∀ {p:Addr} {v:Value},w.cell? p=some v->w'.cell? p=some v:=fun {p v} h=>by rw [hb.cell (cell_lt h)];exact h
  exact ⟨⟨v0,v1,v2,v3,v4,v5,k h0,k h1,k h2,k h3,k h4,k h5,RN.below hb t _ h6⟩,RKs.below hb b (o+6) ts h7⟩
end
theorem RKs.at_ {w:World}{b:Nat}:∀ {ts:List RTree}{o i:Nat} (hi:i < ts.length),RKs w b o ts->∃ v0 v1 v2 v3 v4 v5,w.cell? ⟨b,o+i*6,none⟩=some v0/\w.cell? ⟨b,o+i*6+1,none⟩=some v1/\w.cell? ⟨b,o+i*6+2,none⟩=some v2 /\
  w.cell? ⟨b,o+i*6+3,none⟩=some v3/\w.cell? ⟨b,o+i*6+4,none⟩=some v4/\w.cell? ⟨b,o+i*6+5,none⟩=some v5/\RN w ts[i] [v0,v1,v2,v3,v4,v5]
 | [],_,_,hi,_=>by simp at hi
 | t::ts,o,0,_,h=>by
  rw [RKs] at h
  simpa using h.1
 | t::ts,o,i+1,hi,h=>by
  rw [RKs] at h
  have:=RKs.at_ (ts:=ts) (o:=o+6) (i:=i) (by simpa using hi) h.2
  have e:o+6+i*6=o+(i+1)*6:=by omega
  rw [e] at this
  simpa using this
mutual
def sizeR:RTree->Nat
 | .mk _ _ _ _ _ kids=>1+sizeRs kids
def sizeRs:List RTree->Nat
 | []=>0
 | t::ts=>sizeR t+sizeRs ts
end
theorem sizeRs_at:∀ {ts:List RTree}{i:Nat} (hi:i < ts.length),sizeR ts[i]<=sizeRs ts
 | [],_,hi=>by simp at hi
 | t::ts,0,_=>by rw [sizeRs];simp
 | t::ts,i+1,hi=>by
  have:=sizeRs_at (ts:=ts) (i:=i) (by simpa using hi)
  rw [sizeRs];simp;omega
theorem RN.open_ {w:World}{k:Int}{nums:List Nat}{text:List Int}{name:ByteArray}{c:Int}{kids:List RTree}{vs:List Value} (h:RN w (.mk k nums text name c kids) vs) :
  ∃ nv tv A cc m,vs=[.int .i64 k,nv,tv,.string name,.int .i32 c,.slice A m cc]/\Reads1 w nv (nums.map (Value.float .f64))/\Reads1 w tv (text.map (Value.int .i32))/\m=kids.length /\
   ∀ i (hi:i < kids.length),∃ b o v0 v1 v2 v3 v4 v5,A=some ⟨b,o,none⟩/\RN w kids[i] [v0,v1,v2,v3,v4,v5]/\∀ w1,Below w.heap.size w w1 ->
    w1.cell? ⟨b,o+i*6,none⟩=some v0/\w1.cell? ⟨b,o+i*6+1,none⟩=some v1/\w1.cell? ⟨b,o+i*6+2,none⟩=some v2/\w1.cell? ⟨b,o+i*6+3,none⟩=some v3/\w1.cell? ⟨b,o+i*6+4,none⟩=some v4/\w1.cell? ⟨b,o+i*6+5,none⟩=some v5:=by
 rw [RN] at h
 obtain ⟨nv,tv,kv,h1,h2,h3,h4⟩:=h
 rcases h4 with ⟨rfl,a,cc,rfl⟩ | ⟨h4,b,o,cc,rfl,_,h6⟩
 ·exact ⟨nv,tv,a,cc,0,h1,h2,h3,rfl,fun i hi=>by simp at hi⟩
 ·refine ⟨nv,tv,_,cc,_,h1,h2,h3,rfl,fun i hi=>?_⟩
  obtain ⟨v0,v1,v2,v3,v4,v5,c0,c1,c2,c3,c4,c5,hr⟩:=RKs.at_ hi h6
  refine ⟨b,o,v0,v1,v2,v3,v4,v5,rfl,hr,fun w1 hb=>?_⟩
  have k:∀ {p:Addr} {v:Value},w.cell? p=some v->w1.cell? p=some v:=fun {p v} h=>by rw [hb.cell (cell_lt h)];exact h
  exact ⟨k c0,k c1,k c2,k c3,k c4,k c5⟩
theorem RN.cap {w:World}{t:RTree}{v0 v1 v2 v3 v4:Value}{A:Option Addr}{m cc:Nat} (h:RN w t [v0,v1,v2,v3,v4,.slice A m cc]):m<=cc:=by
 cases t with
 | mk k nums text name c kids =>
  rw [RN] at h
  obtain ⟨nv,tv,kv,h1,h2,h3,h4⟩:=h
  simp only [List.cons.injEq,and_true] at h1
  obtain ⟨-,-,-,-,-,rfl⟩:=h1
  rcases h4 with ⟨-,a,c',e⟩ | ⟨-,b,o,c',e,hc,-⟩
  ·injection e with _ e _
   omega
  ·injection e with _ e1 e2
   omega
theorem Reads1.slice {w:World}{v:Value}{xs:List Value} (h:Reads1 w v xs):∃ A n c,v= .slice A n c/\n=xs.length:=by
 obtain ⟨a,c,rfl⟩:=h.len;exact ⟨a,_,c,rfl,rfl⟩
mutual
def TN (w:World):RTree->List Value->Prop
 | .mk k nums text name c kids,vs=>∃ (at_:Int) (nv tv kv:Value),vs=[.int .i64 k,.int .i64 at_,nv,tv,.string name,.int .i32 c,kv]/\Reads1 w nv (nums.map (Value.float .f64))/\Reads1 w tv (text.map (Value.int .i32)) /\
   ((kids=[]/\∃ a cc,kv= .slice a 0 cc)\/(kids≠[]/\∃ b o cc,kv= .slice (some ⟨b,o,none⟩) kids.length cc/\kids.length<=cc/\TKs w b o kids))
def TKs (w:World) (b:Nat):Nat->List RTree->Prop
 | _,[]=>True
 | o,t::ts=>(∃ v0 v1 v2 v3 v4 v5 v6,w.cell? ⟨b,o,none⟩=some v0/\w.cell? ⟨b,o+1,none⟩=some v1/\w.cell? ⟨b,o+2,none⟩=some v2/\w.cell? ⟨b,o+3,none⟩=some v3/\w.cell? ⟨b,o+4,none⟩=some v4/\w.cell? ⟨b,o+5,none⟩=some v5/\w.cell? ⟨b,o+6,none⟩=some v6 /\
   TN w t [v0,v1,v2,v3,v4,v5,v6])/\TKs w b (o+7) ts
end
mutual
theorem TN.below {w w':World} (hb:Below w.heap.size w w'):∀ (t:RTree) (vs:List Value),TN w t vs->TN w' t vs
 | .mk k nums text name c kids,vs,h=>by
  rw [TN] at h ⊢
  obtain ⟨a,nv,tv,kv,h1,h2,h3,h4⟩:=h
  refine ⟨a,nv,tv,kv,h1,h2.below hb,h3.below hb,?_⟩
  rcases h4 with h4 | ⟨h4,b,o,cc,h5,h5c,h6⟩
  ·exact .inl h4
  ·exact .inr ⟨h4,b,o,cc,h5,h5c,TKs.below hb b o kids h6⟩
theorem TKs.below {w w':World} (hb:Below w.heap.size w w') (b:Nat):∀ (o:Nat) (ts:List RTree),TKs w b o ts->TKs w' b o ts
 | _,[],_=>by rw [TKs];trivial
 | o,t::ts,h=>by
  rw [TKs] at h ⊢
  obtain ⟨⟨v0,v1,v2,v3,v4,v5,v6,h0,h1,h2,h3,h4,h5,h6,h8⟩,h7⟩:=h
  have k:∀ {p:Addr} {v:Value},w.cell? p=some v->w'.cell? p=some v:=fun {p v} h=>by rw [hb.cell (cell_lt h)];exact h
  exact ⟨⟨v0,v1,v2,v3,v4,v5,v6,k h0,k h1,k h2,k h3,k h4,k h5,k h6,TN.below hb t _ h8⟩,TKs.below hb b (o+7) ts h7⟩
end
theorem TKs.at_ {w:World}{b:Nat}:∀ {ts:List RTree}{o i:Nat} (hi:i < ts.length),TKs w b o ts->∃ v0 v1 v2 v3 v4 v5 v6,w.cell? ⟨b,o+i*7,none⟩=some v0/\w.cell? ⟨b,o+i*7+1,none⟩=some v1/\w.cell? ⟨b,o+i*7+2,none⟩=some v2 /\
  w.cell? ⟨b,o+i*7+3,none⟩=some v3/\w.cell? ⟨b,o+i*7+4,none⟩=some v4/\w.cell? ⟨b,o+i*7+5,none⟩=some v5/\w.cell? ⟨b,o+i*7+6,none⟩=some v6/\TN w ts[i] [v0,v1,v2,v3,v4,v5,v6]
 | [],_,_,hi,_=>by simp at hi
 | t::ts,o,0,_,h=>by
  rw [TKs] at h
  simpa using h.1
 | t::ts,o,i+1,hi,h=>by
  rw [TKs] at h
  have:=TKs.at_ (ts:=ts) (o:=o+7) (i:=i) (by simpa using hi) h.2
  have e:o+7+i*7=o+(i+1)*7:=by omega
  rw [e] at this
  simpa using this
theorem TN.open_ {w:World}{k:Int}{nums:List Nat}{text:List Int}{name:ByteArray}{c:Int}{kids:List RTree}{vs:List Value} (h:TN w (.mk k nums text name c kids) vs) :
  ∃ (at_:Int) (nv tv:Value) (A:Option Addr) (cc m:Nat),vs=[.int .i64 k,.int .i64 at_,nv,tv,.string name,.int .i32 c,.slice A m cc]/\Reads1 w nv (nums.map (Value.float .f64))/\Reads1 w tv (text.map (Value.int .i32))/\m=kids.length /\
   ∀ i (hi:i < kids.length),∃ b o v0 v1 v2 v3 v4 v5 v6,A=some ⟨b,o,none⟩/\TN w kids[i] [v0,v1,v2,v3,v4,v5,v6]/\∀ w1,Below w.heap.size w w1 ->
    w1.cell? ⟨b,o+i*7,none⟩=some v0/\w1.cell? ⟨b,o+i*7+1,none⟩=some v1/\w1.cell? ⟨b,o+i*7+2,none⟩=some v2/\w1.cell? ⟨b,o+i*7+3,none⟩=some v3/\w1.cell? ⟨b,o+i*7+4,none⟩=some v4/\w1.cell? ⟨b,o+i*7+5,none⟩=some v5/\w1.cell? ⟨b,o+i*7+6,none⟩=some v6:=by
 rw [TN] at h
 obtain ⟨at_,nv,tv,kv,h1,h2,h3,h4⟩:=h
 rcases h4 with ⟨rfl,a,cc,rfl⟩ | ⟨h4,b,o,cc,rfl,_,h6⟩
 ·exact ⟨at_,nv,tv,a,cc,0,h1,h2,h3,rfl,fun i hi=>by simp at hi⟩
 ·refine ⟨at_,nv,tv,_,cc,_,h1,h2,h3,rfl,fun i hi=>?_⟩
  obtain ⟨v0,v1,v2,v3,v4,v5,v6,c0,c1,c2,c3,c4,c5,c6,hr⟩:=TKs.at_ hi h6
  refine ⟨b,o,v0,v1,v2,v3,v4,v5,v6,rfl,hr,fun w1 hb=>?_⟩
  have k:∀ {p:Addr} {v:Value},w.cell? p=some v->w1.cell? p=some v:=fun {p v} h=>by rw [hb.cell (cell_lt h)];exact h
  exact ⟨k c0,k c1,k c2,k c3,k c4,k c5,k c6⟩
theorem TN.cap {w:World}{k:Int}{nums:List Nat}{text:List Int}{name:ByteArray}{c:Int}{kids:List RTree}{u0 u1 u2 u3 u4 u5:Value}{A:Option Addr}{m cc:Nat} (h:TN w (.mk k nums text name c kids) [u0,u1,u2,u3,u4,u5,.slice A m cc]):m<=cc:=by
 rw [TN] at h
 obtain ⟨at_,nv,tv,kv,h1,h2,h3,h4⟩:=h
 simp only [List.cons.injEq,and_true] at h1
 obtain ⟨_,_,_,_,_,_,h7⟩:=h1
 rcases h4 with ⟨_,a,c2,rfl⟩ | ⟨_,b,o,c2,rfl,hc,_⟩
 ·cases h7;omega
 ·cases h7;exact hc
end Go.Proofs.YtbakjaliponbbaaGreatDoor
