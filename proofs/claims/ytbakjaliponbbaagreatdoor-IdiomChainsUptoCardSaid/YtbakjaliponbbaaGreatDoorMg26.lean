/- The walks of rebusref27's Where, Iota and Unique. Printed by gen_rwh.py. The walk of rebusref27's Unique. Printed by .. Conditions: as each theorem says. -/
import Derived.Test.YtbakjaliponbbaaGreatDoorMg24
import Derived.Test.YtbakjaliponbbaaGreatDoorMg25
set_option maxRecDepth 100000
set_option maxHeartbeats 2000000
namespace Go.Proofs.YtbakjaliponbbaaGreatDoor
open Go Go.RowKit Go.Proofs Fl
def PoR (H:Nat->Prop) (w:World) (r:Option PA) (e:Ending) (w':World):Prop :=
 match r with
 | some t=>∃ h x,e= .returned (.tuple #[plV h x (t.fill:Int),.int .i64 0])/\PV H w' (rawP t) h x (t.fill:Int)/\Below w.heap.size w w'
 | none=>∃ z:Int,z≠0/\e= .returned (.tuple #[plV nilS nilS 0,.int .i64 z])/\Below w.heap.size w w'
theorem poR_no {H:Nat->Prop}{w w':World}{z:Int} (hz:z≠0) (hb:Below w.heap.size w w'):PoR H w none (.returned (.tuple #[plV nilS nilS 0,.int .i64 z])) w':=⟨z,hz,rfl,hb⟩
theorem poR_yes {H:Nat->Prop}{w w':World}{t:PA}{h x:Sl} (g:PV H w' (rawP t) h x (t.fill:Int)) (hb:Below w.heap.size w w'):PoR H w (some t) (.returned (.tuple #[plV h x (t.fill:Int),.int .i64 0])) w':=⟨h,x,rfl,g,hb⟩
theorem rng_getD {α:Type} (K:List Nat) (g:Nat->α):(List.range K.length).map (fun j=>g (K.getD j 0))=K.map g:=by
 apply List.ext_getElem
 ·simp
 ·intro i h1 h2
  have h3:i < K.length:=by simpa using h2
  simp [List.getD,h3]
theorem rints_list (va:Value) (K:List Nat) (o:Nat) (H:Nat->Prop) (w:World) (hH:∀ b,H b->b < w.heap.size) (hn:K.length<=1048576) (ho:o<=1) (hL:∀ k∈K,k<=1048576) (hr:Reads1 w va (K.map fun i:Nat => .int .i64 (i:Int))) :
  Calls Tryz.prog 213 #[va,.int .i64 (o:Int)] w (PlR H w (rawP (.nums [K.length] (K.map fun i=>fi ((i+o:Nat):Int)))) 0):=by
 have h:=rints_any va K.length o (fun j=>K.getD j 0) H w hH hn ho (fun j hj=>by
  have e:K.getD j 0=K[j]:=by simp [List.getD,hj]
  show K.getD j 0<=_
  rw [e];exact hL _ (List.getElem_mem _)) (by rw [rng_getD K (fun i:Nat=>Value.int .i64 (i:Int))];exact hr)
 rw [rng_getD K (fun i=>fi ((i+o:Nat):Int))] at h
 exact h
theorem numsA_len (a:PA):(numsA a).length=a.len:=by cases a <;> simp [numsA,PA.len]
theorem numsA_its (a:PA):(rawP a).its.map numI=numsA a:=by
 cases a with
 | nums s l=>rw [rawP];show (l.map _).map numI=_;rw [List.map_map];exact List.map_id _
 | chars s l=>rw [rawP];show (l.map _).map numI=_;rw [List.map_map];rfl
 | boxes s l=>rw [rawP];show (rawBs l).map numI=_;rw [rawBs_map,List.map_map];rfl
theorem numsA_tf {d:Nat}{a:PA} (hg:GoodA d a):∀ x∈numsA a,TF x:=by
 cases a with
 | nums s l=>rw [GoodA] at hg;exact hg.2.2
 | chars s l=>intro x hx;obtain ⟨_,_,rfl⟩:=List.mem_map.1 hx;exact tf_zero
 | boxes s l=>intro x hx;obtain ⟨_,_,rfl⟩:=List.mem_map.1 hx;exact tf_zero
def onK (T:Nat->Bool) (k:Nat):List Nat:=(List.range k).filter T
theorem onK_yes {T:Nat->Bool}{k:Nat} (h:T k=true):onK T (k+1)=onK T k++[k]:=by
 unfold onK
 rw [List.range_succ,List.filter_append]
 simp [h]
theorem onK_no {T:Nat->Bool}{k:Nat} (h:T k=false):onK T (k+1)=onK T k:=by
 unfold onK
 rw [List.range_succ,List.filter_append]
 simp [h]
theorem onK_le (T:Nat->Bool) (k:Nat):(onK T k).length<=k:=by
 have:=List.length_filter_le T (List.range k)
 rw [List.length_range] at this
 exact this
theorem onK_lt {T:Nat->Bool}{k i:Nat} (h:i∈onK T k):i < k:=List.mem_range.1 (List.mem_filter.1 h).1
noncomputable def whE (a:PA) (o:Nat):Option PA:=if a.shape.length=1/\tsA a=true then some (.nums [(onK (bitsA a) a.len).length] ((onK (bitsA a) a.len).map fun i=>fi ((i+o:Nat):Int))) else none
theorem tsA_nums {a:PA}:tsA a=true↔a.fill=0/\∀ x∈numsA a,isT x=true:=by
 cases a with
 | nums s l=>exact ⟨fun h=>⟨rfl,of_decide_eq_true h⟩,fun h=>decide_eq_true h.2⟩
 | chars s l=>exact ⟨(fun h=>by cases h),(fun h=>by cases h.1)⟩
 | boxes s l=>exact ⟨(fun h=>by cases h),(fun h=>by cases h.1)⟩
theorem rwhere_rank {H:Nat->Prop}{w:World}{a:PA}{h x:Sl} (g:PV H w (rawP a) h x (a.fill:Int)) (hH:∀ b,H b->b < w.heap.size) (o:Nat) (hr:¬ a.shape.length=1) (W:World) (hb:Below w.heap.size w W):Calls Tryz.prog 158 #[plV h x (a.fill:Int),.int .i64 (o:Int)] W (PoR H W none):=by
 rw [rp_eta (rawP a)] at g
 have hil:(rawP a).its.length=a.len:=rawP_len a
 have hrk:h.2.1=a.shape.length:=by
  have h1:=g.open_.1
  obtain ⟨A9,n9,c9,e9,e8,-⟩:=int_open h1.now
  injection e9 with _ e9 _
  rw [e9,e8,rawP_shp,List.length_map]
 have HH:=Lib.hid hH
 have HB:=Lib.hid hb
 have HS0:=Lib.hid (P1.new W h x (a.fill:Int))
 obtain ⟨w1,hw1⟩:∃ w1,w1=(W.alloc (plO h x (a.fill:Int))).alloc (plO nilS nilS 0):=⟨_,rfl⟩
 have HW1:=Lib.hid hw1
 have hr1:((h.2.1:Int) != 1)=true:=by rw [hrk];simpa using fun e:((a.shape.length:Nat):Int)=1=>hr (by omega)
 rw [<- hw1] at HS0
 clear g hil hrk hr hb hH hw1
 go_enter Tryz.func158,Tryz.ntmps158
 obtain ⟨p0,p1,p2⟩:=at3_c HS0.out.one
 rw [HW1.out] at p0 p1 p2
 go_upto_region 2 with fail
 rw [<- HW1.out] at p0 p1 p2 ⊢
 have HBE:=Lib.hid (below_set3 HS0.out.bel (Nat.le_succ _) (.slice none 0 0) (.slice none 0 0) (.int .i64 0))
 have HRE:=Lib.hid (set3_block HS0.out.res (.slice none 0 0) (.slice none 0 0) (.int .i64 0))
 obtain ⟨⟨z0,z1,z2⟩,zz⟩:=block3 HS0.out.res
 go_wp2
 refine bodyPost_ret (v := .tuple #[plV nilS nilS 0,.int .i64 22]) ?_ rfl (poR_no (by decide) HBE.out)
 exact ret_pl2 (fn:=Tryz.f158) (p:=4) (u:=5) rfl _ _ (W.heap.size+1) (by rfl) HRE.out
theorem rwhere_bad {H:Nat->Prop}{w:World}{a:PA}{h x:Sl} (g:PV H w (rawP a) h x (a.fill:Int)) (hH:∀ b,H b->b < w.heap.size) (o:Nat) (d:Nat) (hg:GoodA d a) (hl:a.len<=1000000) (hr:a.shape.length=1) (ht:¬ ∀ x∈numsA a,isT x=true) (W:World) (hb:Below w.heap.size w W):Calls Tryz.prog 158 #[plV h x (a.fill:Int),.int .i64 (o:Int)] W (PoR H W none):=by
 rw [rp_eta (rawP a)] at g
 have hil:(rawP a).its.length=a.len:=rawP_len a
 have hrk:h.2.1=a.shape.length:=by
  have h1:=g.open_.1
  obtain ⟨A9,n9,c9,e9,e8,-⟩:=int_open h1.now
  injection e9 with _ e9 _
  rw [e9,e8,rawP_shp,List.length_map]
 have HH:=Lib.hid hH
 have HB:=Lib.hid hb
 have HS0:=Lib.hid (P1.new W h x (a.fill:Int))
 obtain ⟨w1,hw1⟩:∃ w1,w1=(W.alloc (plO h x (a.fill:Int))).alloc (plO nilS nilS 0):=⟨_,rfl⟩
 have HW1:=Lib.hid hw1
 have HNU:=Lib.hid (fun W' (hb':Below w.heap.size w W')=>rnumbers27_any g (by rw [hil];omega) W' hb')
 rw [show ((rawP a).its.map fun t=>Value.float .f64 (numI t))=(numsA a).map (Value.float .f64) from by rw [<- numsA_its,List.map_map];rfl] at HNU
 have hr1:((h.2.1:Int) != 1)=false:=by rw [hrk,hr];rfl
 have HTF:=Lib.hid (numsA_tf hg)
 have hnl:(numsA a).length=a.len:=numsA_len a
 rw [<- hw1] at HS0
 clear g hg hil hrk hr hb hH hw1
 go_enter Tryz.func158,Tryz.ntmps158
 obtain ⟨p0,p1,p2⟩:=at3_c HS0.out.one
 rw [HW1.out] at p0 p1 p2
 go_wp2_with fail
 rw [<- HW1.out]
 refine (HNU.out _ (bel_both HB.out HS0.out.bel)).mono ?_
 rintro e w2 ⟨nA,nn,nc,rfl,hown,hb2⟩
 have HS2:=Lib.hid (HS0.out.step hb2)
 have HRT:=Lib.hid (rtruths12_any (.slice nA nn nc) (numsA a) w2 HTF.out (by omega) hown.reads)
 unfold RtR at HRT
 clear hown hb2 HNU HS0 p0 p1 p2
 go_wp2_with fail
 refine HRT.out.mono ?_
 rintro e w3 (⟨hT,-⟩ | ⟨-,rfl,hb3⟩)
 ·exact absurd hT ht
 have HS3:=Lib.hid (HS2.out.step hb3)
 clear hb3 ht HRT HS2
 obtain ⟨p0,p1,p2⟩:=at3_c HS3.out.one
 have HBE:=Lib.hid (below_set3 HS3.out.bel (Nat.le_succ _) (.slice none 0 0) (.slice none 0 0) (.int .i64 0))
 have HRE:=Lib.hid (set3_block HS3.out.res (.slice none 0 0) (.slice none 0 0) (.int .i64 0))
 obtain ⟨⟨z0,z1,z2⟩,zz⟩:=block3 HS3.out.res
 go_wp2
 refine bodyPost_ret (v := .tuple #[plV nilS nilS 0,.int .i64 24]) ?_ rfl (poR_no (by decide) HBE.out)
 exact ret_pl2 (fn:=Tryz.f158) (p:=4) (u:=5) rfl _ _ (W.heap.size+1) (by rfl) HRE.out
theorem rwhere_fill {H:Nat->Prop}{w:World}{a:PA}{h x:Sl} (g:PV H w (rawP a) h x (a.fill:Int)) (hH:∀ b,H b->b < w.heap.size) (o:Nat) (d:Nat) (hg:GoodA d a) (hl:a.len<=1000000) (hr:a.shape.length=1) (ht:∀ x∈numsA a,isT x=true) (hf:¬ a.fill=0) (W:World) (hb:Below w.heap.size w W):Calls Tryz.prog 158 #[plV h x (a.fill:Int),.int .i64 (o:Int)] W (PoR H W none):=by
 have hf1:(((a.fill:Nat):Int) != 0)=true:=by simpa using fun e:(a.fill:Int)=0=>hf (by omega)
 rw [rp_eta (rawP a)] at g
 have hil:(rawP a).its.length=a.len:=rawP_len a
 have hrk:h.2.1=a.shape.length:=by
  have h1:=g.open_.1
  obtain ⟨A9,n9,c9,e9,e8,-⟩:=int_open h1.now
  injection e9 with _ e9 _
  rw [e9,e8,rawP_shp,List.length_map]
 have HH:=Lib.hid hH
 have HB:=Lib.hid hb
 have HS0:=Lib.hid (P1.new W h x (a.fill:Int))
 obtain ⟨w1,hw1⟩:∃ w1,w1=(W.alloc (plO h x (a.fill:Int))).alloc (plO nilS nilS 0):=⟨_,rfl⟩
 have HW1:=Lib.hid hw1
 have HNU:=Lib.hid (fun W' (hb':Below w.heap.size w W')=>rnumbers27_any g (by rw [hil];omega) W' hb')
 rw [show ((rawP a).its.map fun t=>Value.float .f64 (numI t))=(numsA a).map (Value.float .f64) from by rw [<- numsA_its,List.map_map];rfl] at HNU
 have hr1:((h.2.1:Int) != 1)=false:=by rw [hrk,hr];rfl
 have HTF:=Lib.hid (numsA_tf hg)
 have hnl:(numsA a).length=a.len:=numsA_len a
 rw [<- hw1] at HS0
 clear g hg hil hrk hr hb hH hw1
 go_enter Tryz.func158,Tryz.ntmps158
 obtain ⟨p0,p1,p2⟩:=at3_c HS0.out.one
 rw [HW1.out] at p0 p1 p2
 go_wp2_with fail
 rw [<- HW1.out]
 refine (HNU.out _ (bel_both HB.out HS0.out.bel)).mono ?_
 rintro e w2 ⟨nA,nn,nc,rfl,hown,hb2⟩
 have HS2:=Lib.hid (HS0.out.step hb2)
 have HRT:=Lib.hid (rtruths12_any (.slice nA nn nc) (numsA a) w2 HTF.out (by omega) hown.reads)
 unfold RtR at HRT
 clear hown hb2 HNU HS0 p0 p1 p2
 go_wp2_with fail
 refine HRT.out.mono ?_
 rintro e w3 (⟨-,bA,bn,bc,rfl,hown,hb3⟩ | ⟨hn,-,-⟩)
 rotate_left
 ·exact absurd ht hn
 have HS3:=Lib.hid (HS2.out.step hb3)
 clear hb3 ht hown HRT HS2 hf
 obtain ⟨p0,p1,p2⟩:=at3_c HS3.out.one
 have HBE:=Lib.hid (below_set3 HS3.out.bel (Nat.le_succ _) (.slice none 0 0) (.slice none 0 0) (.int .i64 0))
 have HRE:=Lib.hid (set3_block HS3.out.res (.slice none 0 0) (.slice none 0 0) (.int .i64 0))
 obtain ⟨⟨z0,z1,z2⟩,zz⟩:=block3 HS3.out.res
 go_wp2
 refine bodyPost_ret (v := .tuple #[plV nilS nilS 0,.int .i64 24]) ?_ rfl (poR_no (by decide) HBE.out)
 exact ret_pl2 (fn:=Tryz.f158) (p:=4) (u:=5) rfl _ _ (W.heap.size+1) (by rfl) HRE.out
theorem rwhere_ok {H:Nat->Prop}{w:World}{a:PA}{h x:Sl} (g:PV H w (rawP a) h x (a.fill:Int)) (hH:∀ b,H b->b < w.heap.size) (o:Nat) (d:Nat) (hg:GoodA d a) (hl:a.len<=1000000) (ho:o<=1) (hr:a.shape.length=1) (ht:∀ x∈numsA a,isT x=true) (hf:a.fill=0) (W:World) (hb:Below w.heap.size w W):Calls Tryz.prog 158 #[plV h x (a.fill:Int),.int .i64 (o:Int)] W (PoR H W (some (.nums [(onK (bitsA a) a.len).length] ((onK (bitsA a) a.len).map fun i=>fi ((i+o:Nat):Int))))):=by
 have hf1:(((a.fill:Nat):Int) != 0)=false:=by rw [hf];rfl
 have HF:=Lib.hid hf
 clear hf
 obtain ⟨T,hT⟩:∃ T,T=bitsA a:=⟨_,rfl⟩
 have HTE:Hid (∀ j (hj:j < (numsA a).length),decide ((numsA a)[j]=flagF true)=T j):=fun j hj=>by
  subst hT
  cases a with
  | nums s l =>
   have hj2:j < l.length:=hj
   show decide (l[j]=_)=decide (l.getD j 0=_)
   rw [show l.getD j 0=l[j] from by simp [List.getD,hj2]]
  | chars s l=>cases HF.out
  | boxes s l=>cases HF.out
 obtain ⟨n,hn⟩:∃ n,n=a.len:=⟨_,rfl⟩
 rw [<- hT,<- hn]
 have HN9:=Lib.hid hn
 have hl9:n<=1000000:=by omega
 clear hT hn
 rw [rp_eta (rawP a)] at g
 have hil:(rawP a).its.length=a.len:=rawP_len a
 have hrk:h.2.1=a.shape.length:=by
  have h1:=g.open_.1
  obtain ⟨A9,n9,c9,e9,e8,-⟩:=int_open h1.now
  injection e9 with _ e9 _
  rw [e9,e8,rawP_shp,List.length_map]
 have HH:=Lib.hid hH
 have HB:=Lib.hid hb
 have HS0:=Lib.hid (P1.new W h x (a.fill:Int))
 obtain ⟨w1,hw1⟩:∃ w1,w1=(W.alloc (plO h x (a.fill:Int))).alloc (plO nilS nilS 0):=⟨_,rfl⟩
 have HW1:=Lib.hid hw1
 have HNU:=Lib.hid (fun W' (hb':Below w.heap.size w W')=>rnumbers27_any g (by rw [hil];omega) W' hb')
 rw [show ((rawP a).its.map fun t=>Value.float .f64 (numI t))=(numsA a).map (Value.float .f64) from by rw [<- numsA_its,List.map_map];rfl] at HNU
 have hr1:((h.2.1:Int) != 1)=false:=by rw [hrk,hr];rfl
 have HTF:=Lib.hid (numsA_tf hg)
 have hnl:(numsA a).length=a.len:=numsA_len a
 rw [<- hw1] at HS0
 clear g hg hil hrk hr hb hH hw1
 go_enter Tryz.func158,Tryz.ntmps158
 obtain ⟨p0,p1,p2⟩:=at3_c HS0.out.one
 rw [HW1.out] at p0 p1 p2
 go_wp2_with fail
 rw [<- HW1.out]
 refine (HNU.out _ (bel_both HB.out HS0.out.bel)).mono ?_
 rintro e w2 ⟨nA,nn,nc,rfl,hown,hb2⟩
 have HS2:=Lib.hid (HS0.out.step hb2)
 have HRT:=Lib.hid (rtruths12_any (.slice nA nn nc) (numsA a) w2 HTF.out (by omega) hown.reads)
 unfold RtR at HRT
 clear hown hb2 HNU HS0 p0 p1 p2
 go_wp2_with fail
 refine HRT.out.mono ?_
 rintro e w3 (⟨-,bA,bn,bc,rfl,hown,hb3⟩ | ⟨hn,-,-⟩)
 rotate_left
 ·exact absurd ht hn
 have HS3:=Lib.hid (HS2.out.step hb3)
 obtain ⟨A9,n9,c9,he9,hn9,hcell⟩:=map_open hown.reads
 injection he9 with e1 e2 e3
 subst e1;subst e2;subst e3
 have HCE:=Lib.hid hcell
 obtain rfl:bn=n:=by have h1:=HN9.out;omega
 have HNL:Hid ((numsA a).length=bn):=by unfold Hid;rw [hnl];exact HN9.out.symm
 have HO0:Hid (Own1 w3 w3.heap.size 3 (.slice none 0 0) ((onK T 0).map fun i:Nat=>Value.int .i64 (i:Int))):=Own1.nil _ _ _
 have HB3:=Lib.hid (Below.refl w3.heap.size w3)
 have HLW:Hid (W.heap.size+2<=w3.heap.size):=HS3.out.sz
 clear hb3 ht hown HRT HS2 hcell HTF hnl hn9 HN9 hl
 obtain ⟨p0,p1,p2⟩:=at3_c HS3.out.one
 go_wp2
 clear p0 p1 p2
 go_loopw [8,9] (fun vv iv wr=>∃ i:Nat,i<=bn/\iv= .int .i64 (i:Int)/\Own1 wr w3.heap.size 3 vv ((onK T i).map fun i:Nat=>Value.int .i64 (i:Int))/\Below w3.heap.size w3 wr/\P1 W wr h x (a.fill:Int)) (fun _ iv _=>bn - (intOf iv).toNat)
 case atStart=>exact ⟨0,Nat.zero_le _,rfl,HO0.out,HB3.out,HS3.out⟩
 case round =>
  obtain ⟨i,hi,rfl,hown,hbl,hst⟩:=hrel
  have HOWN:=Lib.hid hown
  have HBL:=Lib.hid hbl
  have HST:=Lib.hid hst
  obtain ⟨vA,vc,hv⟩:∃ A c,_=Value.slice A ((onK T i).map fun i:Nat=>Value.int .i64 (i:Int)).length c:=hown.reads.len
  subst hv
  clear hown hbl hst HO0 HB3 HS3
  have hsz:w3.heap.size<=wr.heap.size:=HBL.out.size
  have hlen:((onK T i).map fun i:Nat=>Value.int .i64 (i:Int)).length<=1000000:=by rw [List.length_map];have:=onK_le T i;omega
  by_cases hlt:i < bn
  ·have hlt2:(i:Int) < (bn:Int):=by omega
   have hiN:i < (numsA a).length:=by have:=HNL.out;omega
   obtain ⟨b9,o9,rfl,hce⟩:=HCE.out i hiN
   have ce:=cell_up HBL.out hce
   rw [HTE.out i hiN] at ce
   clear hce
   cases hti:T i with
   | true =>
    rw [hti] at ce
    have HSI:Hid (((onK T i).map fun i:Nat=>Value.int .i64 (i:Int))++[Value.int .i64 (i:Int)]=(onK T (i+1)).map fun i:Nat=>Value.int .i64 (i:Int)):=by unfold Hid;rw [onK_yes hti,List.map_append];rfl
    have HL1:Hid ((((onK T i).map fun i:Nat=>Value.int .i64 (i:Int)).length+1)*8<=140737488355328):=by unfold Hid;omega
    have HL2:Hid (((onK T i).map fun i:Nat=>Value.int .i64 (i:Int)).length+1<=140737488355328):=by unfold Hid;omega
    clear hlen hti
    generalize hXX:((onK T i).map fun i:Nat=>Value.int .i64 (i:Int))=XX at *
    clear hXX
    go_wp2_with (at_builtin;refine wpList_push1' rfl (.tmp 39) (.tmp 41) 41 3 rfl Tryz.underlying41 (.int .i64 0) 8 info_intC rfl w3.heap.size _ XX rfl HOWN.out (.int .i64 (i:Int)) rfl wr.heap.size rfl rfl HL1.out HL2.out hsz ?_;intro v' w6 hv' hb';have HB':=Lib.hid (hb' wr (Below.refl _ _));rw [HSI.out] at hv';have HV:=Lib.hid hv';have HBW:=Lib.hid (hb' w3 HBL.out);clear hb' hv')
    go_roundw
    case rel=>exact ⟨i+1,by omega,by go_num,HV.out,HBW.out,HST.out.up (HB'.out.mono HLW.out)⟩
    case measure=>simp [intOf];omega
   | false =>
    rw [hti] at ce
    have HNI:Hid (onK T (i+1)=onK T i):=onK_no hti
    clear hti hlen
    generalize ((onK T i).map fun i:Nat=>Value.int .i64 (i:Int)).length=nn at HOWN ⊢
    go_wp2
    go_roundw
    case rel=>exact ⟨i+1,by omega,by go_num,by rw [HNI.out];exact HOWN.out,HBL.out,HST.out⟩
    case measure=>simp [intOf];omega
  ·have hge:¬ (i:Int) < (bn:Int):=by omega
   obtain rfl:i=bn:=by omega
   have HRN:=Lib.hid (rints_list (.slice vA (onK T i).length vc) (onK T i) o (fun b=>H b\/b=W.heap.size+1) wr (fun b e=>by
    have h1:=HB.out.size
    have h9:=HST.out.sz
    rcases e with e | e
    ·have:=HH.out b e;omega
    ·omega) (by rw [List.length_map] at hlen;omega) ho (fun k hk=>by have:=onK_lt hk;omega) (by have h:=HOWN.out.reads;rw [List.length_map] at h;exact h))
   unfold PlR at HRN
   clear hlen HOWN
   go_wp2_with fail
   refine HRN.out.mono ?_
   rintro e w5 ⟨h5,x5,rfl,hp5,hb5⟩
   have HS5:=Lib.hid (HST.out.step hb5)
   clear hb5 HRN HST
   have HPV:=Lib.hid (pl_fin hp5)
   have HBE:=Lib.hid (below_set3 HS5.out.bel (Nat.le_succ _) (sv h5) (sv x5) (.int .i64 0))
   have HRE:=Lib.hid (set3_block HS5.out.res (sv h5) (sv x5) (.int .i64 0))
   obtain ⟨⟨z0,z1,z2⟩,zz⟩:=block3 HS5.out.res
   clear hp5
   go_wp2
   refine bodyPost_ret (v := .tuple #[plV h5 x5 0,.int .i64 0]) ?_ rfl (poR_yes HPV.out HBE.out)
   exact ret_pl2 (fn:=Tryz.f158) (p:=4) (u:=5) rfl _ _ (W.heap.size+1) (by rfl) HRE.out
theorem rwhere_any {H:Nat->Prop}{w:World}{a:PA}{h x:Sl} (g:PV H w (rawP a) h x (a.fill:Int)) (hH:∀ b,H b->b < w.heap.size) (o:Nat) (d:Nat) (hg:GoodA d a) (hl:a.len<=1000000) (ho:o<=1) (W:World) (hb:Below w.heap.size w W):Calls Tryz.prog 158 #[plV h x (a.fill:Int),.int .i64 (o:Int)] W (PoR H W (whE a o)):=by
 unfold whE
 by_cases hr:a.shape.length=1
 ·by_cases ht:∀ x∈numsA a,isT x=true
  ·by_cases hf:a.fill=0
   ·rw [if_pos ⟨hr,tsA_nums.2 ⟨hf,ht⟩⟩];exact rwhere_ok g hH o d hg hl ho hr ht hf W hb
   ·rw [if_neg (fun e=>hf (tsA_nums.1 e.2).1)];exact rwhere_fill g hH o d hg hl hr ht hf W hb
  ·rw [if_neg (fun e=>ht (tsA_nums.1 e.2).2)];exact rwhere_bad g hH o d hg hl hr ht W hb
 ·rw [if_neg (fun e=>hr e.1)];exact rwhere_rank g hH o hr W hb
theorem P1.dr {w W:World}{h x:Sl}{f:Int} (s:P1 w W h x f):P1 w W.drew h x f:=s.step (Below.refl _ W).drew
theorem p1_set {w W:World}{h x:Sl}{f:Int} (s:P1 w W h x f) (a0 a1 a2:Value):At3 (set3 W (w.heap.size+1) a0 a1 a2) w.heap.size 0 h x f :=
 At3.lat (H:=fun b=>b=w.heap.size+1) s.one (by omega) (Lat.set3 (H:=fun b=>b=w.heap.size+1) (G:=w.heap.size+1) rfl a0 a1 a2)
theorem itsR_of {H:Nat->Prop}{w:World}{B:Nat}{A:Option Addr}{n c:Nat}{l:List RI} (h:IOwn H w B (.slice A n c) l) (hH:∀ b,H b->b < B):ItsR H w (A,n,c) l:=by
 obtain ⟨x,e,g⟩:=h.pv hH (s:=[]) (hd:=nilS) (fun _ _ _ => .inl ⟨none,0,rfl,rfl⟩) 0
 obtain ⟨xA,xn,xc⟩:=x
 injection e with e1 e2 e3
 subst e1;subst e2;subst e3
 exact g
noncomputable def unE (a:PA):Option PA:=if a.shape.length<=1 then some (pkA [(fstK (rawP a).its a.len).length] a (fstK (rawP a).its a.len)) else none
theorem pickL_el {a:PA}{K:List Nat} (h:∀ k∈K,k < a.len):pickL (rawP a).its K=K.map (elA a):=by
 unfold pickL
 exact List.map_congr_left fun k hk=>rawP_at (h k hk)
theorem hole1 {H:Nat->Prop}{w W:World}{h x:Sl}{f:Int} (hH:∀ b,H b->b < w.heap.size) (s:P1 w W h x f) (b:Nat) (e:H b\/b=w.heap.size+1):b < W.heap.size:=by
 have h1:=lt_blk s.res
 rcases e with e | e
 ·have:=hH b e;omega
 ·omega
theorem runique_any {H:Nat->Prop}{w:World}{a:PA}{h x:Sl} (g:PV H w (rawP a) h x (a.fill:Int)) (hH:∀ b,H b->b < w.heap.size) (d:Nat) (hg:GoodA d a) (hs:SmA 1000000 a) (hl:a.len<=1000000) (W0:World) (hb:Below w.heap.size w W0):Calls Tryz.prog 159 #[plV h x (a.fill:Int)] W0 (PoR H W0 (unE a)):=by
 have hI:=fun i k (hi:i < a.len) (hk:k < a.len)=>ritem_els d hg hs i k hi hk
 rw [rp_eta (rawP a)] at g
 have hil:(rawP a).its.length=a.len:=rawP_len a
 have hrk:h.2.1=a.shape.length:=by
  obtain ⟨A9,n9,c9,e9,e8,-⟩:=int_open g.open_.1.now
  injection e9 with _ e9 _
  rw [e9,e8,rawP_shp,List.length_map]
 have HH:Hid (∀ b,H b->b < W0.heap.size):=fun b e=>by have:=hH b e;have:=hb.size;omega
 have hits:=PV.its g
 obtain ⟨f,hf⟩:∃ f:Int,f=(a.fill:Int):=⟨_,rfl⟩
 have HS0:=Lib.hid (P1.new W0 h x f)
 have HLS:=Lib.hid (fun W=>rlist27_any h x f W)
 obtain ⟨w1,hw1⟩:∃ w1,w1=(W0.alloc (plO h x f)).alloc (plO nilS nilS 0):=⟨_,rfl⟩
 have HW1:=Lib.hid hw1
 rw [<- hw1] at HS0
 unfold unE
 by_cases hr:a.shape.length<=1
 ·rw [if_pos hr]
  have hd1:decide ((h.2.1:Int)<=1)=true:=decide_eq_true (by omega)
  rw [hd1] at HLS
  have HFS:=Lib.hid (fun W (hb':Below W0.heap.size W0 W)=>rfirsts_any hits (by omega) (fun i k hi hk=>by
   have hi2:i < a.len:=by omega
   have hk2:k < a.len:=by omega
   have e1:=rawP_at hi2
   have e2:=rawP_at hk2
   rw [List.getD_eq_getElem?_getD,List.getElem?_eq_getElem hi,Option.getD_some] at e1
   rw [List.getD_eq_getElem?_getD,List.getElem?_eq_getElem hk,Option.getD_some] at e2
   rw [e1,e2]
   exact hI i k hi2 hk2) W (bel_both hb hb'))
  unfold FkR at HFS
  rw [hil] at HFS
  have HPK:=Lib.hid (fun W va (s:P1 W0 W h x f) hrd=>rpick_any (H:=fun b=>H b\/b=W0.heap.size+1) (w:=W) (PV.step (PV.sub (fun b hb9 e=>by
   rcases e with e | e
   ·exact e
   ·have:=hb.size;omega) hits) (bel_both hb s.bel)) (fstK (rawP a).its a.len) va f W (Below.refl _ _) (fun b e=>hole1 HH.out s b e) hrd (fun k hk=>by have:=fstK_lt hk;omega) (by omega) (by have:=fstK_le (rawP a).its a.len;omega))
  have HPL:Hid (pickL (rawP a).its (fstK (rawP a).its a.len)=(fstK (rawP a).its a.len).map (elA a)):=pickL_el fun k hk=>fstK_lt hk
  have HEL:Hid (((fstK (rawP a).its a.len).map (elA a)).length=(fstK (rawP a).its a.len).length):=List.length_map _
  have HOUT:Hid (∀ h7 x7 W,PV H W (.mk [(((fstK (rawP a).its a.len).length:Nat):Int)] ((fstK (rawP a).its a.len).map (elA a)) f) h7 x7 f->Below W0.heap.size W0 W->PoR H W0 (some (pkA [(fstK (rawP a).its a.len).length] a (fstK (rawP a).its a.len))) (.returned (.tuple #[plV h7 x7 f,.int .i64 0])) W):=fun h7 x7 W hp hbl=>by
   subst hf
   refine ⟨h7,x7,by rw [pkA_fill],?_,hbl⟩
   rw [raw_pk,pkA_fill]
   exact hp
  rw [<- hf]
  generalize fstK (rawP a).its a.len=K at HFS HPK HPL HEL HOUT ⊢
  generalize pkA [K.length] a K=R at HOUT ⊢
  generalize K.map (elA a)=EL at HPL HEL HOUT
  clear g hil hrk hits hI hg hs hl hb hf hw1 hr hd1 hH
  go_enter Tryz.func159,Tryz.ntmps159
  obtain ⟨p0,p1,p2⟩:=at3_c HS0.out.one
  rw [HW1.out] at p0 p1 p2
  go_wp2_with fail
  rw [<- HW1.out]
  refine (HLS.out _).mono ?_
  rintro e w2 ⟨rfl,hb2⟩
  have HS2:=Lib.hid (HS0.out.step hb2)
  clear hb2 p0 p1 p2 HS0 HLS HW1
  go_upto_region 3 with fail
  have hls0:P1 W0 w2.drew h x f:=HS2.out.dr
  have hls00:=HS2.out
  refine wp_region_noPanic ?_
  refine wp_region_held_drew (S:=fun W=>W.cell? ⟨W0.heap.size,0,none⟩=some (.slice h.1 h.2.1 h.2.2)/\W.cell? ⟨W0.heap.size,1,none⟩=some (.slice x.1 x.2.1 x.2.2)/\W.cell? ⟨W0.heap.size,2,none⟩=some (.int .i64 f)) (by kernel_rfl) (by exact at3_c hls0.one) (fun hHeld=>?_)
  refine wpAnyH_take (i:=0) (v:=?av1) rfl (by kernel_rfl) (by kernel_rfl) (by kernel_rfl) (fun _ _ _ h=>h) (Or.inl ⟨by rfl,?ay1⟩) (by assumption) ?as1
  case ay1=>(intro w hSw;(try dsimp only at hSw);go_simp;try with_reducible rfl)
  change wpAnyH _ _ _ _ _ _ _ (Act.put _ (some 8) _) _
  simp only [Act.put,List.setIfInBounds_toArray,List.set_cons_zero,List.set_cons_succ]
  refine wpAnyH_take (i:=1) (v:=?av2) rfl (by kernel_rfl) (by kernel_rfl) (by kernel_rfl) (fun _ _ _ h=>h) (Or.inl ⟨by rfl,?ay2⟩) (by assumption) ?as2
  case ay2=>(intro w hSw;(try dsimp only at hSw);go_simp;try with_reducible rfl)
  change wpAnyH _ _ _ _ _ _ _ (Act.put _ (some 9) _) _
  simp only [Act.put,List.setIfInBounds_toArray,List.set_cons_zero,List.set_cons_succ]
  refine wpAnyH_take (i:=2) (v:=?av3) rfl (by kernel_rfl) (by kernel_rfl) (by kernel_rfl) (fun _ _ _ h=>h) (Or.inl ⟨by rfl,?ay3⟩) (by assumption) ?as3
  case ay3=>(intro w hSw;(try dsimp only at hSw);go_simp;try with_reducible rfl)
  change wpAnyH _ _ _ _ _ _ _ (Act.put _ (some 10) _) _
  simp only [Act.put,List.setIfInBounds_toArray,List.set_cons_zero,List.set_cons_succ]
  refine wpAnyH_take (i:=3) (v:=?av4) rfl (by kernel_rfl) (by kernel_rfl) (by kernel_rfl) (fun _ _ _ h=>h) (Or.inl ⟨by rfl,?ay4⟩) (by assumption) ?as4
  case ay4=>(intro w hSw;(try dsimp only at hSw);go_simp;try with_reducible rfl)
  change wpAnyH _ _ _ _ _ _ _ (Act.put _ (some 11) _) _
  simp only [Act.put,List.setIfInBounds_toArray,List.set_cons_zero,List.set_cons_succ]
  refine wpAnyH_take (i:=4) (v:=?av5) rfl (by kernel_rfl) (by kernel_rfl) (by kernel_rfl) (fun _ _ _ h=>h) (Or.inl ⟨by rfl,?ay5⟩) (by assumption) ?as5
  case ay5=>(intro w hSw;(try dsimp only at hSw);go_simp;try with_reducible rfl)
  change wpAnyH _ _ _ _ _ _ _ (Act.put _ (some 12) _) _
  simp only [Act.put,List.setIfInBounds_toArray,List.set_cons_zero,List.set_cons_succ]
  refine wpAnyH_take (i:=5) (v:=?av6) rfl (by kernel_rfl) (by kernel_rfl) (by kernel_rfl) (fun _ _ _ h=>h) (Or.inl ⟨by rfl,?ay6⟩) (by assumption) ?as6
  case ay6=>(intro w hSw;(try dsimp only at hSw);go_simp;try with_reducible rfl)
  change wpAnyH _ _ _ _ _ _ _ (Act.put _ (some 13) _) _
  simp only [Act.put,List.setIfInBounds_toArray,List.set_cons_zero,List.set_cons_succ]
  refine wpAnyH_take (i:=8) (v:=?av7) rfl (by kernel_rfl) (by kernel_rfl) (by kernel_rfl) (fun _ _ _ h=>h) (Or.inl ⟨by rfl,?ay7⟩) (by assumption) ?as7
  case ay7=>(intro w hSw;(try dsimp only at hSw);go_simp;try with_reducible rfl)
  change wpAnyH _ _ _ _ _ _ _ (Act.put _ (some 16) _) _
  simp only [Act.put,List.setIfInBounds_toArray,List.set_cons_zero,List.set_cons_succ]
  refine wpAnyH_take (i:=9) (v:=?av8) rfl (by kernel_rfl) (by kernel_rfl) (by kernel_rfl) (fun _ _ _ h=>h) (Or.inl ⟨by rfl,?ay8⟩) (by assumption) ?as8
  case ay8=>(intro w hSw;(try dsimp only at hSw);go_simp;try with_reducible rfl)
  change wpAnyH _ _ _ _ _ _ _ (Act.put _ (some 17) _) _
  simp only [Act.put,List.setIfInBounds_toArray,List.set_cons_zero,List.set_cons_succ]
  refine wpAnyH_ready (rs:=[6]) (by kernel_rfl) (by simp) ?_
  refine AllReadyH.cons rfl (fun K hK=>?_) AllReadyH.nil
  go_simp
  (go_at_call 218;(with_reducible refine (HFS.out _ ?_).mono ?_);exact P1.bel (by repeat (first | (with_reducible assumption) | (with_reducible refine P1.dr ?_)));rintro e w5 ⟨fA,fn,fc,rfl,hof,hb5⟩;have hp5:P1 W0 w5 h x f:=P1.step (by repeat (first | (with_reducible assumption) | (with_reducible refine P1.dr ?_))) hb5;have hrd:=hof.reads;clear hof hb5)
  refine hK.out _ _ (by first | (with_reducible assumption) | ((with_reducible (refine at3_c (P1.one (w:=W0) (h:=h) (x:=x) (f:=f) ?_)));(repeat (first | (with_reducible assumption) | (with_reducible refine P1.dr ?_)));done) | (exact at3_c (p1_set (by assumption) _ _ _))) (fun hHeld=>?_)
  clear hK K
  refine wpAnyH_ready (rs:=[7]) (by kernel_rfl) (by simp) ?_
  refine AllReadyH.cons rfl (fun K hK=>?_) AllReadyH.nil
  go_simp
  (go_at_call 217;(with_reducible refine (HPK.out _ _ hp5 hrd).mono ?_);rintro e w6 ⟨gA,gn,gc,rfl,hio,hb6⟩;have hp6:P1 W0 w6 h x f:=hp5.step hb6;have hit6:=Lib.hid (itsR_of hio (fun b e=>hole1 HH.out hp5 b e));clear hio hb6)
  refine hK.out _ _ (by first | (with_reducible assumption) | ((with_reducible (refine at3_c (P1.one (w:=W0) (h:=h) (x:=x) (f:=f) ?_)));(repeat (first | (with_reducible assumption) | (with_reducible refine P1.dr ?_)));done) | (exact at3_c (p1_set (by assumption) _ _ _))) (fun hHeld=>?_)
  clear hK K
  refine wpAnyH_ready (rs:=[10]) (by kernel_rfl) (by simp) ?_
  refine AllReadyH.cons rfl (fun K hK=>?_) AllReadyH.nil
  go_simp
  (go_at_call 216;(with_reducible refine (rlst_any hit6.out (fun b e=>hole1 HH.out hp6 b e) f).mono ?_);rintro e w7 ⟨h7,x7,rfl,hpv7,hb7⟩;have hp7:P1 W0 w7 h x f:=hp6.step hb7;clear hb7)
  refine hK.out _ _ (by first | (with_reducible assumption) | ((with_reducible (refine at3_c (P1.one (w:=W0) (h:=h) (x:=x) (f:=f) ?_)));(repeat (first | (with_reducible assumption) | (with_reducible refine P1.dr ?_)));done) | (exact at3_c (p1_set (by assumption) _ _ _))) (fun hHeld=>?_)
  clear hK K
  refine wpAnyH_ready (rs:=[11]) (by kernel_rfl) (by simp) ?_
  refine AllReadyH.cons rfl (fun K hK=>?_) AllReadyH.nil
  (skip;(obtain ⟨⟨z0,z1,z2⟩,zz⟩:=block3 hp7.res);go_simp)
  refine hK.out _ _ (by first | (with_reducible assumption) | ((with_reducible (refine at3_c (P1.one (w:=W0) (h:=h) (x:=x) (f:=f) ?_)));(repeat (first | (with_reducible assumption) | (with_reducible refine P1.dr ?_)));done) | (exact at3_c (p1_set (by assumption) _ _ _))) (fun hHeld=>?_)
  clear hK K
  refine wpAnyH_ready (rs:=[12]) (by kernel_rfl) (by simp) ?_
  refine AllReadyH.cons rfl (fun K hK=>?_) AllReadyH.nil
  go_simp
  refine hK.out _ _ (by first | (with_reducible assumption) | ((with_reducible (refine at3_c (P1.one (w:=W0) (h:=h) (x:=x) (f:=f) ?_)));(repeat (first | (with_reducible assumption) | (with_reducible refine P1.dr ?_)));done) | (exact at3_c (p1_set (by assumption) _ _ _))) (fun hHeld=>?_)
  clear hK K
  refine wpAnyH_done (by kernel_rfl) ?_ _
  refine NoPanic.normal ?_
  rw [HPL.out,HEL.out] at hpv7
  have HPV:=Lib.hid (pl_fin hpv7)
  have HBE:=Lib.hid (below_set3 hp7.bel (Nat.le_succ _) (sv h7) (sv x7) (.int .i64 f))
  have HRE:=Lib.hid (set3_block hp7.res (sv h7) (sv x7) (.int .i64 f))
  go_wp2
  refine bodyPost_ret (v := .tuple #[plV h7 x7 f,.int .i64 0]) ?_ rfl (HOUT.out _ _ _ HPV.out HBE.out)
  exact ret_pl2 (fn:=Tryz.f159) (p:=2) (u:=3) rfl _ _ (W0.heap.size+1) (by rfl) HRE.out
 ·rw [if_neg hr]
  have hd1:decide ((h.2.1:Int)<=1)=false:=decide_eq_false (by omega)
  rw [hd1] at HLS
  rw [<- hf]
  clear g hil hrk hits hI hg hs hl hb hf hw1 hr hd1 hH
  go_enter Tryz.func159,Tryz.ntmps159
  obtain ⟨p0,p1,p2⟩:=at3_c HS0.out.one
  rw [HW1.out] at p0 p1 p2
  go_wp2_with fail
  rw [<- HW1.out]
  refine (HLS.out _).mono ?_
  rintro e w2 ⟨rfl,hb2⟩
  have HS2:=Lib.hid (HS0.out.step hb2)
  clear hb2 p0 p1 p2 HS0 HLS HW1
  obtain ⟨p0,p1,p2⟩:=at3_c HS2.out.one
  have HBE:=Lib.hid (below_set3 HS2.out.bel (Nat.le_succ _) (.slice none 0 0) (.slice none 0 0) (.int .i64 0))
  have HRE:=Lib.hid (set3_block HS2.out.res (.slice none 0 0) (.slice none 0 0) (.int .i64 0))
  go_upto_region 2 with fail
  obtain ⟨⟨z0,z1,z2⟩,zz⟩:=block3 HS2.out.res
  go_wp2
  refine bodyPost_ret (v := .tuple #[plV nilS nilS 0,.int .i64 22]) ?_ rfl (poR_no (by decide) HBE.out)
  exact ret_pl2 (fn:=Tryz.f159) (p:=2) (u:=3) rfl _ _ (W0.heap.size+1) (by rfl) HRE.out
end Go.Proofs.YtbakjaliponbbaaGreatDoor
