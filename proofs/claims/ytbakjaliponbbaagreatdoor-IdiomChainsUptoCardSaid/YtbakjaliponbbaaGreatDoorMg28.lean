/- The walk of rebusref27's Grade. Printed by .. Conditions: as each theorem says. -/
import Derived.Test.YtbakjaliponbbaaGreatDoorMg27
import Derived.Test.YtbakjaliponbbaaGreatDoorMg07
set_option maxRecDepth 100000
set_option maxHeartbeats 800000
namespace Go.Proofs.YtbakjaliponbbaaGreatDoor
open Go Go.RowKit Go.Proofs Fl
theorem rgr_rank {H:Nat->Prop}{w:World}{a:PA}{h x:Sl} (g:PV H w (rawP a) h x (a.fill:Int)) (down:Bool) (o:Nat) (hr:a.shape.length=0) (W:World) (hb:Below w.heap.size w W):Calls Tryz.prog 160 #[plV h x (a.fill:Int),.bool down,.int .i64 (o:Int)] W (PoR H W none):=by
 rw [rp_eta (rawP a)] at g
 have hil:(rawP a).its.length=a.len:=rawP_len a
 have hrk:h.2.1=a.shape.length:=by
  obtain ⟨A9,n9,c9,e9,e8,-⟩:=int_open g.open_.1.now
  injection e9 with _ e9 _
  rw [e9,e8,rawP_shp,List.length_map]
 have HB:=Lib.hid hb
 have HS0:=Lib.hid (P1.new W h x (a.fill:Int))
 obtain ⟨w1,hw1⟩:∃ w1,w1=(W.alloc (plO h x (a.fill:Int))).alloc (plO nilS nilS 0):=⟨_,rfl⟩
 have HW1:=Lib.hid hw1
 rw [<- hw1] at HS0
 have hr1:((h.2.1:Int)==0)=true:=by rw [hrk,hr];rfl
 clear g hil hrk hb hw1 hr
 go_enter Tryz.func160,Tryz.ntmps160
 obtain ⟨p0,p1,p2⟩:=at3_c HS0.out.one
 rw [HW1.out] at p0 p1 p2
 go_upto_region 2 with fail
 rw [<- HW1.out] at p0 p1 p2 ⊢
 have HBE:=Lib.hid (below_set3 HS0.out.bel (Nat.le_succ _) (.slice none 0 0) (.slice none 0 0) (.int .i64 0))
 have HRE:=Lib.hid (set3_block HS0.out.res (.slice none 0 0) (.slice none 0 0) (.int .i64 0))
 obtain ⟨⟨z0,z1,z2⟩,zz⟩:=block3 HS0.out.res
 go_wp2
 refine bodyPost_ret (v := .tuple #[plV nilS nilS 0,.int .i64 22]) ?_ rfl (poR_no (by decide) HBE.out)
 exact ret_pl2 (fn:=Tryz.f160) (p:=6) (u:=7) rfl _ _ (W.heap.size+1) (by rfl) HRE.out
theorem rgr_box {H:Nat->Prop}{w:World}{a:PA}{h x:Sl} (g:PV H w (rawP a) h x (a.fill:Int)) (down:Bool) (o:Nat) (hr:¬ a.shape.length=0) (hf:a.fill=2) (W:World) (hb:Below w.heap.size w W):Calls Tryz.prog 160 #[plV h x (a.fill:Int),.bool down,.int .i64 (o:Int)] W (PoR H W none):=by
 rw [rp_eta (rawP a)] at g
 have hil:(rawP a).its.length=a.len:=rawP_len a
 have hrk:h.2.1=a.shape.length:=by
  obtain ⟨A9,n9,c9,e9,e8,-⟩:=int_open g.open_.1.now
  injection e9 with _ e9 _
  rw [e9,e8,rawP_shp,List.length_map]
 have HB:=Lib.hid hb
 have HS0:=Lib.hid (P1.new W h x (a.fill:Int))
 obtain ⟨w1,hw1⟩:∃ w1,w1=(W.alloc (plO h x (a.fill:Int))).alloc (plO nilS nilS 0):=⟨_,rfl⟩
 have HW1:=Lib.hid hw1
 rw [<- hw1] at HS0
 have hr1:((h.2.1:Int)==0)=false:=by rw [hrk];exact beq_eq_false_iff_ne.2 (by omega)
 have hf1:(((a.fill:Nat):Int)==2)=true:=by rw [hf];rfl
 clear g hil hrk hb hw1 hr hf
 go_enter Tryz.func160,Tryz.ntmps160
 obtain ⟨p0,p1,p2⟩:=at3_c HS0.out.one
 rw [HW1.out] at p0 p1 p2
 go_upto_region 4 with fail
 rw [<- HW1.out] at p0 p1 p2 ⊢
 have HBE:=Lib.hid (below_set3 HS0.out.bel (Nat.le_succ _) (.slice none 0 0) (.slice none 0 0) (.int .i64 0))
 have HRE:=Lib.hid (set3_block HS0.out.res (.slice none 0 0) (.slice none 0 0) (.int .i64 0))
 obtain ⟨⟨z0,z1,z2⟩,zz⟩:=block3 HS0.out.res
 go_wp2
 refine bodyPost_ret (v := .tuple #[plV nilS nilS 0,.int .i64 24]) ?_ rfl (poR_no (by decide) HBE.out)
 exact ret_pl2 (fn:=Tryz.f160) (p:=6) (u:=7) rfl _ _ (W.heap.size+1) (by rfl) HRE.out
theorem rank_len {H:Nat->Prop}{w:World}{a:PA}{h x:Sl}{f:Int} (g:PV H w (rawP a) h x f):h.2.1=a.shape.length:=by
 rw [rp_eta (rawP a)] at g
 obtain ⟨A9,n9,c9,e9,e8,-⟩:=int_open g.open_.1.now
 injection e9 with _ e9 _
 rw [e9,e8,rawP_shp,List.length_map]
theorem elA_kind (a:PA) (i:Nat):kindI (elA a i)=(a.fill:Int):=by cases a <;> rfl
theorem elA_tf {d:Nat}{a:PA} (hg:GoodA d a) (i:Nat) (hi:i < a.len):TF (numI (elA a i)):=by
 cases a with
 | nums s l =>
  rw [GoodA] at hg
  have hi2:i < l.length:=hi
  show TF (l.getD i 0)
  rw [show l.getD i 0=l[i] from by simp [List.getD,hi2]]
  exact hg.2.2 _ (List.getElem_mem _)
 | chars s l=>exact tf_zero
 | boxes s l=>exact tf_zero
noncomputable def grK (a:PA) (down:Bool):List Nat :=
 if 0 < prodN a.shape.tail then (List.range ((rawP a).its.length / prodN a.shape.tail)).map (gradeN (lessE (fun p=>(rawP a).its.getD p default) (prodN a.shape.tail) down) ((rawP a).its.length / prodN a.shape.tail) ((rawP a).its.length / prodN a.shape.tail))
 else List.range (a.shape.getD 0 0)
theorem rgr_someA {H:Nat->Prop}{w:World}{a:PA}{h x:Sl} (g:PV H w (rawP a) h x (a.fill:Int)) (down:Bool) (o:Nat) (hcap:h.2.1<=h.2.2) (hH:∀ b,H b->b < w.heap.size) (ho:o<=1) (d:Nat) (hg:GoodA d a) (hl:a.len<=1000000) (hr:¬ a.shape.length=0) (hf:¬ a.fill=2) (hc2:1 < h.2.2) (hz:0 < prodN a.shape.tail) (W:World) (hb:Below w.heap.size w W):Calls Tryz.prog 160 #[plV h x (a.fill:Int),.bool down,.int .i64 (o:Int)] W (PoR H W (some (.nums [(grK a down).length] ((grK a down).map fun i=>fi ((i+o:Nat):Int))))):=by
 have hK:grK a down=(List.range ((rawP a).its.length / prodN a.shape.tail)).map (gradeN (lessE (fun p=>(rawP a).its.getD p default) (prodN a.shape.tail) down) ((rawP a).its.length / prodN a.shape.tail) ((rawP a).its.length / prodN a.shape.tail)):=if_pos hz
 have HH:=Lib.hid hH
 rw [rp_eta (rawP a)] at g
 have hil:(rawP a).its.length=a.len:=rawP_len a
 have hrk:h.2.1=a.shape.length:=by
  obtain ⟨A9,n9,c9,e9,e8,-⟩:=int_open g.open_.1.now
  injection e9 with _ e9 _
  rw [e9,e8,rawP_shp,List.length_map]
 have HB:=Lib.hid hb
 have HS0:=Lib.hid (P1.new W h x (a.fill:Int))
 obtain ⟨w1,hw1⟩:∃ w1,w1=(W.alloc (plO h x (a.fill:Int))).alloc (plO nilS nilS 0):=⟨_,rfl⟩
 have HW1:=Lib.hid hw1
 rw [<- hw1] at HS0
 have hf1:(((a.fill:Nat):Int)==2)=false:=by simpa using fun e:(a.fill:Int)=2=>hf (by omega)
 have hr1:((h.2.1:Int)==0)=false:=by rw [hrk];exact beq_eq_false_iff_ne.2 (by omega)
 obtain ⟨d0,s0,hsh⟩:∃ d0 s0,a.shape=d0::s0:=by
  cases hs:a.shape with
  | nil=>rw [hs] at hr;exact absurd rfl hr
  | cons d0 s0=>exact ⟨d0,s0,rfl⟩
 have hits:=PV.its g
 obtain ⟨hsr,-,-,-⟩:=g.open_
 rw [rawP_shp,List.map_map,hsh] at hsr
 obtain ⟨A9,n9,c9,he9,hn9,hcell⟩:=map_open hsr.now
 obtain ⟨hA,hn,hc⟩:=h
 injection he9 with e1 e2 e3
 dsimp only at e1 e2 hrk hcap hc2
 subst e1;subst e2;subst e3
 obtain ⟨b9,o9,hA9,-⟩:=hcell 0 (by simp)
 subst hA9
 have hok:OkSh a.shape a.len:=hg.sh.2
 rw [hsh] at hok hrk
 have hs8:s0.length<=7:=by have:=hok.1;simp at this;omega
 have hp1:prod1 s0<=1048576:=by
  have h1:prod1 (d0::s0)<=1048576:=hok.2.1
  have h2:prod1 (d0::s0)=max 1 d0*prod1 s0:=rfl
  have h3:prod1 s0<=max 1 d0*prod1 s0:=Nat.le_mul_of_pos_left _ (by omega)
  omega
 have hd0b:d0<=1048576:=by
  have h1:=prod1_elem (s:=d0::s0) (k:=0) (by simp)
  have h2:(d0::s0)[0]=d0:=rfl
  have h3:=hok.2.1
  omega
 have hnn:hn=s0.length+1:=by rw [hrk];rfl
 have hcl0:w.cell? ⟨b9,o9,none⟩=some (.int .i64 (d0:Int)):=by
  obtain ⟨b8,o8,e8,hc8⟩:=hcell 0 (by simp)
  injection e8 with e8
  injection e8 with e6 e7 _
  subst e6;subst e7
  exact hc8
 have HCL0:=Lib.hid hcl0
 have hrt:∀ W',Below w.heap.size w W'->Reads1 W' (.slice (some ⟨b9,o9+1,none⟩) (hn - 1) (hc - 1)) (s0.map fun n:Nat => .int .i64 (n:Int)):=fun W' hb'=>by
  refine .inr ⟨b9,o9+1,hn - 1,hc - 1,rfl,by rw [List.length_map];omega,fun j hj=>?_⟩
  have hj2:j < s0.length:=by simpa using hj
  obtain ⟨b8,o8,e8,hc8⟩:=hcell (j+1) (by simpa using hj2)
  injection e8 with e8
  injection e8 with e6 e7 _
  subst e6;subst e7
  rw [show o9+1+j=o9+(j+1) by omega,cell_up hb' hc8]
  simp
 have HPR:=Lib.hid (fun W' (hb':Below w.heap.size w W')=>rprod_nat (.slice (some ⟨b9,o9+1,none⟩) (hn - 1) (hc - 1)) s0 1048576 W' (hrt W' hb') (by omega))
 have hpe:prodE s0 1048576=((prodN s0:Int),0):=prodE_ok (n:=prodN s0) ⟨by omega,hp1,rfl⟩ (by have:=prodN_le s0;omega)
 rw [hpe] at HPR
 dsimp only at HPR
 have hn1:1<=hn:=by omega
 have hn1i:(1:Int)<=(hn:Int):=by omega
 have hcA:¬ hc=1:=by omega
 have hcB:¬ hc - 1=0:=by omega
 clear hnn hrk hn9
 rw [hsh,List.tail_cons] at hK hz
 obtain ⟨sz,hsz⟩:∃ sz,sz=prodN s0:=⟨_,rfl⟩
 rw [<- hsz] at hK hz HPR
 have hzi:((sz:Nat):Int) > 0:=by omega
 have HGR:=Lib.hid (fun W' (hb':Below W.heap.size W W')=>rgrade16_any hits (by omega) (a.fill:Int) (fun p hp=>by
  have e:=rawP_at (a:=a) (i:=p) (by omega)
  rw [List.getD_eq_getElem?_getD,List.getElem?_eq_getElem hp,Option.getD_some] at e
  rw [e];exact elA_kind a p) (fun p hp=>by
  have e:=rawP_at (a:=a) (i:=p) (by omega)
  rw [List.getD_eq_getElem?_getD,List.getElem?_eq_getElem hp,Option.getD_some] at e
  rw [e];exact elA_tf hg p (by omega)) sz hz down W' (bel_both hb hb'))
 obtain ⟨K,hKK⟩:∃ K,K=grK a down:=⟨_,rfl⟩
 rw [<- hKK]
 have HKE:Hid (((List.range ((rawP a).its.length / sz)).map fun p=>Value.int .i64 (gradeN (lessE (fun p=>(rawP a).its.getD p default) sz down) ((rawP a).its.length / sz) ((rawP a).its.length / sz) p:Nat))=K.map fun i:Nat=>Value.int .i64 (i:Int)):=by
  unfold Hid
  rw [hKK,hK,List.map_map]
  rfl
 have HKL:Hid (K.length=(rawP a).its.length / sz/\∀ k∈K,k<=1000000):=by
  have hdl:(rawP a).its.length / sz<=(rawP a).its.length:=Nat.div_le_self _ _
  refine ⟨by rw [hKK,hK,List.length_map,List.length_range],fun k hk=>?_⟩
  rw [hKK,hK] at hk
  obtain ⟨p,hp,rfl⟩:=List.mem_map.1 hk
  have hp2:=List.mem_range.1 hp
  have:=gradeN_lt (lessE (fun p=>(rawP a).its.getD p default) sz down) ((rawP a).its.length / sz) (by omega) p ((rawP a).its.length / sz) (Nat.le_refl _)
  omega
 have HML:Hid ((rawP a).its.length / sz<=1000000):=by
  have hdl:(rawP a).its.length / sz<=(rawP a).its.length:=Nat.div_le_self _ _
  unfold Hid
  omega
 rw [HKE.out] at HGR
 generalize (rawP a).its.length / sz=m at HGR HKL HML
 generalize (rawP a).its=its9 at *
 obtain ⟨xA,xn,xc⟩:=x
 dsimp only [sv] at HGR
 clear hK hKK hz hsz hsh hok hg hits g hb hw1 hil hf hr hl hH HKE
 clear hcl0 hpe hrt hsr hcell
 go_enter Tryz.func160,Tryz.ntmps160
 obtain ⟨p0,p1,p2⟩:=at3_c HS0.out.one
 dsimp only at p0
 rw [HW1.out] at p0 p1 p2
 go_wp2_with fail
 rw [<- HW1.out]
 refine (HPR.out _ (bel_both HB.out HS0.out.bel)).mono ?_
 rintro e w2 ⟨rfl,rfl⟩
 clear p0 p1 p2 HPR HW1
 obtain ⟨p0,p1,p2⟩:=at3_c HS0.out.one
 dsimp only at p0
 go_wp2_with fail
 refine (HGR.out _ HS0.out.bel).mono ?_
 rintro e w3 ⟨kA,kc,rfl,hok3,hb3⟩
 have HS3:=Lib.hid (HS0.out.step hb3)
 have HRN:=Lib.hid (rints_list _ K o (fun b=>H b\/b=W.heap.size+1) w3 (fun b e=>by
  have h1:=HB.out.size
  have h9:=HS3.out.sz
  rcases e with e | e
  ·have:=HH.out b e;omega
  ·omega) (by have:=HKL.out.1;have:=HML.out;omega) ho (fun k hk=>by have:=HKL.out.2 k hk;omega) hok3.reads)
 unfold PlR at HRN
 clear hok3 hb3 HGR HS0 p0 p1 p2
 go_wp2_with fail
 refine HRN.out.mono ?_
 rintro e w5 ⟨h5,x5,rfl,hp5,hb5⟩
 have HS5:=Lib.hid (HS3.out.step hb5)
 clear hb5 HRN HS3
 have HPV:=Lib.hid (pl_fin hp5)
 have HBE:=Lib.hid (below_set3 HS5.out.bel (Nat.le_succ _) (sv h5) (sv x5) (.int .i64 0))
 have HRE:=Lib.hid (set3_block HS5.out.res (sv h5) (sv x5) (.int .i64 0))
 obtain ⟨⟨z0,z1,z2⟩,zz⟩:=block3 HS5.out.res
 clear hp5
 go_wp2
 refine bodyPost_ret (v := .tuple #[plV h5 x5 0,.int .i64 0]) ?_ rfl (poR_yes HPV.out HBE.out)
 exact ret_pl2 (fn:=Tryz.f160) (p:=6) (u:=7) rfl _ _ (W.heap.size+1) (by rfl) HRE.out
theorem rgr_someB {H:Nat->Prop}{w:World}{a:PA}{h x:Sl} (g:PV H w (rawP a) h x (a.fill:Int)) (down:Bool) (o:Nat) (hcap:h.2.1<=h.2.2) (hH:∀ b,H b->b < w.heap.size) (ho:o<=1) (d:Nat) (hg:GoodA d a) (hl:a.len<=1000000) (hr:¬ a.shape.length=0) (hf:¬ a.fill=2) (hc2:h.2.2=1) (hz:0 < prodN a.shape.tail) (W:World) (hb:Below w.heap.size w W):Calls Tryz.prog 160 #[plV h x (a.fill:Int),.bool down,.int .i64 (o:Int)] W (PoR H W (some (.nums [(grK a down).length] ((grK a down).map fun i=>fi ((i+o:Nat):Int))))):=by
 have hK:grK a down=(List.range ((rawP a).its.length / prodN a.shape.tail)).map (gradeN (lessE (fun p=>(rawP a).its.getD p default) (prodN a.shape.tail) down) ((rawP a).its.length / prodN a.shape.tail) ((rawP a).its.length / prodN a.shape.tail)):=if_pos hz
 have HH:=Lib.hid hH
 rw [rp_eta (rawP a)] at g
 have hil:(rawP a).its.length=a.len:=rawP_len a
 have hrk:h.2.1=a.shape.length:=by
  obtain ⟨A9,n9,c9,e9,e8,-⟩:=int_open g.open_.1.now
  injection e9 with _ e9 _
  rw [e9,e8,rawP_shp,List.length_map]
 have HB:=Lib.hid hb
 have HS0:=Lib.hid (P1.new W h x (a.fill:Int))
 obtain ⟨w1,hw1⟩:∃ w1,w1=(W.alloc (plO h x (a.fill:Int))).alloc (plO nilS nilS 0):=⟨_,rfl⟩
 have HW1:=Lib.hid hw1
 rw [<- hw1] at HS0
 have hf1:(((a.fill:Nat):Int)==2)=false:=by simpa using fun e:(a.fill:Int)=2=>hf (by omega)
 have hr1:((h.2.1:Int)==0)=false:=by rw [hrk];exact beq_eq_false_iff_ne.2 (by omega)
 obtain ⟨d0,s0,hsh⟩:∃ d0 s0,a.shape=d0::s0:=by
  cases hs:a.shape with
  | nil=>rw [hs] at hr;exact absurd rfl hr
  | cons d0 s0=>exact ⟨d0,s0,rfl⟩
 have hits:=PV.its g
 obtain ⟨hsr,-,-,-⟩:=g.open_
 rw [rawP_shp,List.map_map,hsh] at hsr
 obtain ⟨A9,n9,c9,he9,hn9,hcell⟩:=map_open hsr.now
 obtain ⟨hA,hn,hc⟩:=h
 injection he9 with e1 e2 e3
 dsimp only at e1 e2 hrk hcap hc2
 subst e1;subst e2;subst e3
 obtain ⟨b9,o9,hA9,-⟩:=hcell 0 (by simp)
 subst hA9
 have hok:OkSh a.shape a.len:=hg.sh.2
 rw [hsh] at hok hrk
 have hs8:s0.length<=7:=by have:=hok.1;simp at this;omega
 have hp1:prod1 s0<=1048576:=by
  have h1:prod1 (d0::s0)<=1048576:=hok.2.1
  have h2:prod1 (d0::s0)=max 1 d0*prod1 s0:=rfl
  have h3:prod1 s0<=max 1 d0*prod1 s0:=Nat.le_mul_of_pos_left _ (by omega)
  omega
 have hd0b:d0<=1048576:=by
  have h1:=prod1_elem (s:=d0::s0) (k:=0) (by simp)
  have h2:(d0::s0)[0]=d0:=rfl
  have h3:=hok.2.1
  omega
 have hnn:hn=s0.length+1:=by rw [hrk];rfl
 have hcl0:w.cell? ⟨b9,o9,none⟩=some (.int .i64 (d0:Int)):=by
  obtain ⟨b8,o8,e8,hc8⟩:=hcell 0 (by simp)
  injection e8 with e8
  injection e8 with e6 e7 _
  subst e6;subst e7
  exact hc8
 have HCL0:=Lib.hid hcl0
 subst hc2
 obtain rfl:hn=1:=by omega
 obtain rfl:s0=[]:=List.eq_nil_of_length_eq_zero (by omega)
 have hrt:∀ W',Below w.heap.size w W'->Reads1 W' (.slice (some ⟨b9,o9,none⟩) 0 0) (([]:List Nat).map fun n:Nat => .int .i64 (n:Int)):=fun W' _ => .inl ⟨_,_,rfl,rfl⟩
 have HPR:=Lib.hid (fun W' (hb':Below w.heap.size w W')=>rprod_nat (.slice (some ⟨b9,o9,none⟩) 0 0) [] 1048576 W' (hrt W' hb') (by decide))
 have hpe:prodE [] 1048576=((prodN []:Int),0):=prodE_ok (n:=prodN []) ⟨by omega,hp1,rfl⟩ (by have:=prodN_le [];omega)
 rw [hpe] at HPR
 dsimp only at HPR
 clear hnn hrk hcap hn9
 rw [hsh,List.tail_cons] at hK hz
 obtain ⟨sz,hsz⟩:∃ sz,sz=prodN []:=⟨_,rfl⟩
 rw [<- hsz] at hK hz HPR
 have hzi:((sz:Nat):Int) > 0:=by omega
 have HGR:=Lib.hid (fun W' (hb':Below W.heap.size W W')=>rgrade16_any hits (by omega) (a.fill:Int) (fun p hp=>by
  have e:=rawP_at (a:=a) (i:=p) (by omega)
  rw [List.getD_eq_getElem?_getD,List.getElem?_eq_getElem hp,Option.getD_some] at e
  rw [e];exact elA_kind a p) (fun p hp=>by
  have e:=rawP_at (a:=a) (i:=p) (by omega)
  rw [List.getD_eq_getElem?_getD,List.getElem?_eq_getElem hp,Option.getD_some] at e
  rw [e];exact elA_tf hg p (by omega)) sz hz down W' (bel_both hb hb'))
 obtain ⟨K,hKK⟩:∃ K,K=grK a down:=⟨_,rfl⟩
 rw [<- hKK]
 have HKE:Hid (((List.range ((rawP a).its.length / sz)).map fun p=>Value.int .i64 (gradeN (lessE (fun p=>(rawP a).its.getD p default) sz down) ((rawP a).its.length / sz) ((rawP a).its.length / sz) p:Nat))=K.map fun i:Nat=>Value.int .i64 (i:Int)):=by
  unfold Hid
  rw [hKK,hK,List.map_map]
  rfl
 have HKL:Hid (K.length=(rawP a).its.length / sz/\∀ k∈K,k<=1000000):=by
  have hdl:(rawP a).its.length / sz<=(rawP a).its.length:=Nat.div_le_self _ _
  refine ⟨by rw [hKK,hK,List.length_map,List.length_range],fun k hk=>?_⟩
  rw [hKK,hK] at hk
  obtain ⟨p,hp,rfl⟩:=List.mem_map.1 hk
  have hp2:=List.mem_range.1 hp
  have:=gradeN_lt (lessE (fun p=>(rawP a).its.getD p default) sz down) ((rawP a).its.length / sz) (by omega) p ((rawP a).its.length / sz) (Nat.le_refl _)
  omega
 have HML:Hid ((rawP a).its.length / sz<=1000000):=by
  have hdl:(rawP a).its.length / sz<=(rawP a).its.length:=Nat.div_le_self _ _
  unfold Hid
  omega
 rw [HKE.out] at HGR
 generalize (rawP a).its.length / sz=m at HGR HKL HML
 generalize (rawP a).its=its9 at *
 obtain ⟨xA,xn,xc⟩:=x
 dsimp only [sv] at HGR
 clear hK hKK hz hsz hsh hok hg hits g hb hw1 hil hf hr hl hH HKE
 clear hcl0 hpe hrt hsr hcell
 go_enter Tryz.func160,Tryz.ntmps160
 obtain ⟨p0,p1,p2⟩:=at3_c HS0.out.one
 dsimp only at p0
 rw [HW1.out] at p0 p1 p2
 go_wp2_with fail
 rw [<- HW1.out]
 refine (HPR.out _ (bel_both HB.out HS0.out.bel)).mono ?_
 rintro e w2 ⟨rfl,rfl⟩
 clear p0 p1 p2 HPR HW1
 obtain ⟨p0,p1,p2⟩:=at3_c HS0.out.one
 dsimp only at p0
 go_wp2_with fail
 refine (HGR.out _ HS0.out.bel).mono ?_
 rintro e w3 ⟨kA,kc,rfl,hok3,hb3⟩
 have HS3:=Lib.hid (HS0.out.step hb3)
 have HRN:=Lib.hid (rints_list _ K o (fun b=>H b\/b=W.heap.size+1) w3 (fun b e=>by
  have h1:=HB.out.size
  have h9:=HS3.out.sz
  rcases e with e | e
  ·have:=HH.out b e;omega
  ·omega) (by have:=HKL.out.1;have:=HML.out;omega) ho (fun k hk=>by have:=HKL.out.2 k hk;omega) hok3.reads)
 unfold PlR at HRN
 clear hok3 hb3 HGR HS0 p0 p1 p2
 go_wp2_with fail
 refine HRN.out.mono ?_
 rintro e w5 ⟨h5,x5,rfl,hp5,hb5⟩
 have HS5:=Lib.hid (HS3.out.step hb5)
 clear hb5 HRN HS3
 have HPV:=Lib.hid (pl_fin hp5)
 have HBE:=Lib.hid (below_set3 HS5.out.bel (Nat.le_succ _) (sv h5) (sv x5) (.int .i64 0))
 have HRE:=Lib.hid (set3_block HS5.out.res (sv h5) (sv x5) (.int .i64 0))
 obtain ⟨⟨z0,z1,z2⟩,zz⟩:=block3 HS5.out.res
 clear hp5
 go_wp2
 refine bodyPost_ret (v := .tuple #[plV h5 x5 0,.int .i64 0]) ?_ rfl (poR_yes HPV.out HBE.out)
 exact ret_pl2 (fn:=Tryz.f160) (p:=6) (u:=7) rfl _ _ (W.heap.size+1) (by rfl) HRE.out
theorem rgr_none {H:Nat->Prop}{w:World}{a:PA}{h x:Sl} (g:PV H w (rawP a) h x (a.fill:Int)) (down:Bool) (o:Nat) (hcap:h.2.1<=h.2.2) (hH:∀ b,H b->b < w.heap.size) (ho:o<=1) (d:Nat) (hg:GoodA d a) (hr:¬ a.shape.length=0) (hf:¬ a.fill=2) (hc2:1 < h.2.2) (hz:¬ 0 < prodN a.shape.tail) (W:World) (hb:Below w.heap.size w W):Calls Tryz.prog 160 #[plV h x (a.fill:Int),.bool down,.int .i64 (o:Int)] W (PoR H W (some (.nums [(grK a down).length] ((grK a down).map fun i=>fi ((i+o:Nat):Int))))):=by
 have hK:grK a down=List.range (a.shape.getD 0 0):=if_neg hz
 have HH:=Lib.hid hH
 rw [rp_eta (rawP a)] at g
 have hil:(rawP a).its.length=a.len:=rawP_len a
 have hrk:h.2.1=a.shape.length:=by
  obtain ⟨A9,n9,c9,e9,e8,-⟩:=int_open g.open_.1.now
  injection e9 with _ e9 _
  rw [e9,e8,rawP_shp,List.length_map]
 have HB:=Lib.hid hb
 have HS0:=Lib.hid (P1.new W h x (a.fill:Int))
 obtain ⟨w1,hw1⟩:∃ w1,w1=(W.alloc (plO h x (a.fill:Int))).alloc (plO nilS nilS 0):=⟨_,rfl⟩
 have HW1:=Lib.hid hw1
 rw [<- hw1] at HS0
 have hf1:(((a.fill:Nat):Int)==2)=false:=by simpa using fun e:(a.fill:Int)=2=>hf (by omega)
 have hr1:((h.2.1:Int)==0)=false:=by rw [hrk];exact beq_eq_false_iff_ne.2 (by omega)
 obtain ⟨d0,s0,hsh⟩:∃ d0 s0,a.shape=d0::s0:=by
  cases hs:a.shape with
  | nil=>rw [hs] at hr;exact absurd rfl hr
  | cons d0 s0=>exact ⟨d0,s0,rfl⟩
 have hits:=PV.its g
 obtain ⟨hsr,-,-,-⟩:=g.open_
 rw [rawP_shp,List.map_map,hsh] at hsr
 obtain ⟨A9,n9,c9,he9,hn9,hcell⟩:=map_open hsr.now
 obtain ⟨hA,hn,hc⟩:=h
 injection he9 with e1 e2 e3
 dsimp only at e1 e2 hrk hcap hc2
 subst e1;subst e2;subst e3
 obtain ⟨b9,o9,hA9,-⟩:=hcell 0 (by simp)
 subst hA9
 have hok:OkSh a.shape a.len:=hg.sh.2
 rw [hsh] at hok hrk
 have hs8:s0.length<=7:=by have:=hok.1;simp at this;omega
 have hp1:prod1 s0<=1048576:=by
  have h1:prod1 (d0::s0)<=1048576:=hok.2.1
  have h2:prod1 (d0::s0)=max 1 d0*prod1 s0:=rfl
  have h3:prod1 s0<=max 1 d0*prod1 s0:=Nat.le_mul_of_pos_left _ (by omega)
  omega
 have hd0b:d0<=1048576:=by
  have h1:=prod1_elem (s:=d0::s0) (k:=0) (by simp)
  have h2:(d0::s0)[0]=d0:=rfl
  have h3:=hok.2.1
  omega
 have hnn:hn=s0.length+1:=by rw [hrk];rfl
 have hcl0:w.cell? ⟨b9,o9,none⟩=some (.int .i64 (d0:Int)):=by
  obtain ⟨b8,o8,e8,hc8⟩:=hcell 0 (by simp)
  injection e8 with e8
  injection e8 with e6 e7 _
  subst e6;subst e7
  exact hc8
 have HCL0:=Lib.hid hcl0
 have hrt:∀ W',Below w.heap.size w W'->Reads1 W' (.slice (some ⟨b9,o9+1,none⟩) (hn - 1) (hc - 1)) (s0.map fun n:Nat => .int .i64 (n:Int)):=fun W' hb'=>by
  refine .inr ⟨b9,o9+1,hn - 1,hc - 1,rfl,by rw [List.length_map];omega,fun j hj=>?_⟩
  have hj2:j < s0.length:=by simpa using hj
  obtain ⟨b8,o8,e8,hc8⟩:=hcell (j+1) (by simpa using hj2)
  injection e8 with e8
  injection e8 with e6 e7 _
  subst e6;subst e7
  rw [show o9+1+j=o9+(j+1) by omega,cell_up hb' hc8]
  simp
 have HPR:=Lib.hid (fun W' (hb':Below w.heap.size w W')=>rprod_nat (.slice (some ⟨b9,o9+1,none⟩) (hn - 1) (hc - 1)) s0 1048576 W' (hrt W' hb') (by omega))
 have hpe:prodE s0 1048576=((prodN s0:Int),0):=prodE_ok (n:=prodN s0) ⟨by omega,hp1,rfl⟩ (by have:=prodN_le s0;omega)
 rw [hpe] at HPR
 dsimp only at HPR
 have hn1:1<=hn:=by omega
 have hn1i:(1:Int)<=(hn:Int):=by omega
 have hcA:¬ hc=1:=by omega
 have hcB:¬ hc - 1=0:=by omega
 clear hnn hrk hn9
 rw [hsh,List.tail_cons] at hz
 rw [hsh] at hK
 have hK2:grK a down=List.range d0:=hK
 rw [hK2]
 have hz0:prodN s0=0:=by omega
 rw [hz0] at HPR
 have HPR0:Hid (∀ W',Below w.heap.size w W'->Calls Tryz.prog 130 #[.slice (some ⟨b9,o9+1,none⟩) (hn - 1) (hc - 1),.int .i64 1048576] W' fun e w'=>e= .returned (.tuple #[.int .i64 0,.int .i64 0])/\W'=w'):=HPR.out
 clear HPR
 have HPR:=HPR0
 clear HPR0 hK hK2 hz0 hz hsh hok hg hits g hb hw1 hil hf hr hH
 clear hcl0 hpe hrt hsr hcell
 go_enter Tryz.func160,Tryz.ntmps160
 obtain ⟨p0,p1,p2⟩:=at3_c HS0.out.one
 dsimp only at p0
 rw [HW1.out] at p0 p1 p2
 go_wp2_with fail
 rw [<- HW1.out]
 refine (HPR.out _ (bel_both HB.out HS0.out.bel)).mono ?_
 rintro e w2 ⟨rfl,rfl⟩
 clear p0 p1 p2 HPR HW1
 obtain ⟨p0,p1,p2⟩:=at3_c HS0.out.one
 dsimp only at p0
 have HO0:Hid (Own1 w1 (W.heap.size+2) 3 (.slice none 0 0) ((List.range 0).map fun j:Nat=>Value.int .i64 (j:Int))):=Own1.nil _ _ _
 have hn0:(0:Int) < (hn:Int):=by omega
 have hn00:0 < hn:=by omega
 go_wp2
 clear p0 p1 p2
 go_loopw [10,11] (fun vv iv wr=>∃ i:Nat,i<=d0/\iv= .int .i64 (i:Int)/\Own1 wr (W.heap.size+2) 3 vv ((List.range i).map fun j:Nat=>Value.int .i64 (j:Int))/\P1 W wr (some ⟨b9,o9,none⟩,hn,hc) x (a.fill:Int)) (fun _ iv _=>d0 - (intOf iv).toNat)
 case atStart=>exact ⟨0,Nat.zero_le _,rfl,HO0.out,HS0.out⟩
 case round =>
  obtain ⟨i,hi,rfl,hown,hst⟩:=hrel
  have HOWN:=Lib.hid hown
  have HST:=Lib.hid hst
  obtain ⟨vA,vc,hv⟩:∃ A c,_=Value.slice A ((List.range i).map fun j:Nat=>Value.int .i64 (j:Int)).length c:=hown.reads.len
  subst hv
  clear hown hst HO0 HS0
  have hsz:W.heap.size+2<=wr.heap.size:=HST.out.sz
  have hlen:((List.range i).map fun j:Nat=>Value.int .i64 (j:Int)).length=i:=by simp
  obtain ⟨p0,p1,p2⟩:=at3_c HST.out.one
  dsimp only at p0
  have ce:=cell_up (bel_both HB.out HST.out.bel) HCL0.out
  by_cases hlt:i < d0
  ·have hlt2:(i:Int) < (d0:Int):=by omega
   have HSI:Hid (((List.range i).map fun j:Nat=>Value.int .i64 (j:Int))++[Value.int .i64 (i:Int)]=(List.range (i+1)).map fun j:Nat=>Value.int .i64 (j:Int)):=rng_snoc (fun j:Nat=>Value.int .i64 (j:Int)) i
   have HL1:Hid ((((List.range i).map fun j:Nat=>Value.int .i64 (j:Int)).length+1)*8<=140737488355328):=by unfold Hid;rw [hlen];omega
   have HL2:Hid (((List.range i).map fun j:Nat=>Value.int .i64 (j:Int)).length+1<=140737488355328):=by unfold Hid;rw [hlen];omega
   clear hlen
   generalize hXX:((List.range i).map fun j:Nat=>Value.int .i64 (j:Int))=XX at *
   clear hXX
   go_wp2_with (at_builtin;refine wpList_push1' rfl (.tmp 45) (.tmp 47) 41 3 rfl Tryz.underlying41 (.int .i64 0) 8 info_intC rfl (W.heap.size+2) _ XX rfl HOWN.out (.int .i64 (i:Int)) rfl wr.heap.size rfl rfl HL1.out HL2.out hsz ?_;intro v' w6 hv' hb';have HB':=Lib.hid (hb' wr (Below.refl _ _));rw [HSI.out] at hv';have HV:=Lib.hid hv';clear hb' hv')
   go_roundw
   case rel=>exact ⟨i+1,by omega,by go_num,HV.out,HST.out.up HB'.out⟩
   case measure=>simp [intOf];omega
  ·have hge:¬ (i:Int) < (d0:Int):=by omega
   obtain rfl:i=d0:=by omega
   have HRN:=Lib.hid (rints_list (.slice vA i vc) (List.range i) o (fun b=>H b\/b=W.heap.size+1) wr (fun b e=>by
    have h1:=HB.out.size
    have h9:=HST.out.sz
    rcases e with e | e
    ·have:=HH.out b e;omega
    ·omega) (by rw [List.length_range];omega) ho (fun k hk=>by have:=List.mem_range.1 hk;omega) (by have h:=HOWN.out.reads;rw [hlen] at h;exact h))
   unfold PlR at HRN
   rw [hlen]
   clear hlen HOWN
   go_wp2_with fail
   refine HRN.out.mono ?_
   rintro e w5 ⟨h5,x5,rfl,hp5,hb5⟩
   have HS5:=Lib.hid (HST.out.step hb5)
   clear hb5 HRN HST p0 p1 p2 ce
   have HPV:=Lib.hid (pl_fin hp5)
   have HBE:=Lib.hid (below_set3 HS5.out.bel (Nat.le_succ _) (sv h5) (sv x5) (.int .i64 0))
   have HRE:=Lib.hid (set3_block HS5.out.res (sv h5) (sv x5) (.int .i64 0))
   obtain ⟨⟨z0,z1,z2⟩,zz⟩:=block3 HS5.out.res
   clear hp5
   go_wp2
   refine bodyPost_ret (v := .tuple #[plV h5 x5 0,.int .i64 0]) ?_ rfl (poR_yes HPV.out HBE.out)
   exact ret_pl2 (fn:=Tryz.f160) (p:=6) (u:=7) rfl _ _ (W.heap.size+1) (by rfl) HRE.out
noncomputable def grE (a:PA) (down:Bool) (o:Nat):Option PA:=if a.shape.length=0\/a.fill=2 then none else some (.nums [(grK a down).length] ((grK a down).map fun i=>fi ((i+o:Nat):Int)))
theorem rgrade27_any {H:Nat->Prop}{w:World}{a:PA}{h x:Sl} (g:PV H w (rawP a) h x (a.fill:Int)) (down:Bool) (o:Nat) (hcap:h.2.1<=h.2.2) (hH:∀ b,H b->b < w.heap.size) (ho:o<=1) (d:Nat) (hg:GoodA d a) (hl:a.len<=1000000) (W:World) (hb:Below w.heap.size w W):Calls Tryz.prog 160 #[plV h x (a.fill:Int),.bool down,.int .i64 (o:Int)] W (PoR H W (grE a down o)):=by
 unfold grE
 by_cases hr:a.shape.length=0
 ·rw [if_pos (.inl hr)];exact rgr_rank g down o hr W hb
 ·by_cases hf:a.fill=2
  ·rw [if_pos (.inr hf)];exact rgr_box g down o hr hf W hb
  ·rw [if_neg (fun e=>e.elim hr hf)]
   by_cases hz:0 < prodN a.shape.tail
   ·by_cases hc2:1 < h.2.2
    ·exact rgr_someA g down o hcap hH ho d hg hl hr hf hc2 hz W hb
    ·exact rgr_someB g down o hcap hH ho d hg hl hr hf (by have:=rank_len g;omega) hz W hb
   ·have hc2:1 < h.2.2:=by
     have h1:=rank_len g
     rcases Nat.lt_or_ge 1 a.shape.length with h2 | h2
     ·omega
     ·exfalso
      cases hs:a.shape with
      | nil=>rw [hs] at hr;exact hr rfl
      | cons d0 s0 =>
       rw [hs] at h2 hz
       have h3:s0=[]:=by
        cases s0 with
        | nil=>rfl
        | cons y ys=>simp at h2
       rw [h3] at hz
       exact hz (show 0 < 1 from Nat.one_pos)
    exact rgr_none g down o hcap hH ho d hg hr hf hc2 hz W hb
end Go.Proofs.YtbakjaliponbbaaGreatDoor
