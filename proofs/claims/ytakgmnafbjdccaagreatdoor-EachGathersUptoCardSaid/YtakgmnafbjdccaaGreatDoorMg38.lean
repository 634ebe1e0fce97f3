/- The walk of the law .. Conditions: as each theorem says. -/
import Derived.Test.YtakgmnafbjdccaaGreatDoorMg33
import Derived.Test.YtakgmnafbjdccaaGreatDoorMg36
import Derived.Test.YtakgmnafbjdccaaGreatDoorMg37
import Derived.Test.YtakgmnafbjdccaaGreatDoorMg32
set_option maxRecDepth 100000
set_option maxHeartbeats 4000000
namespace Go.Proofs.YtakgmnafbjdccaaGreatDoor
open Go Go.RowKit Go.Proofs Fl
theorem reads_three {W:World}{B:Nat}{e:TypeId}{x y z:Nat} (h:W.heap[B]?=some (.cells #[.float .f64 x,.float .f64 y,.float .f64 z] e)):Reads1 W (.slice (some ⟨B,0,none⟩) 3 3) ([x,y,z].map (Value.float .f64)):=by
 refine .inr ⟨B,0,3,3,rfl,rfl,fun j hj=>?_⟩
 have hj2:j < 3:=by simpa using hj
 rw [cell_of_row _ B (0+j) _ e (0,0) h]
 match j,hj2 with
 | 0,_=>rfl
 | 1,_=>rfl
 | 2,_=>rfl
theorem lawOfc_nums {s l:List Nat} (hs:OkSh s l.length) (hl:∀ x∈l,TF x) (hc:l.length<=1000) (h x:Sl) (f:Int) (w:World) (hr:PV noH w (rawP (.nums s l)) h x f) :
  Calls Tryz.prog 13 #[plV h x f] w (AaC noH w (.nums s l)):=by
 have e:rawP (.nums s l)= .mk (s.map Int.ofNat) (l.map fun x=>RI.mk 0 x 0 []) 0:=by rw [rawP]
 have h1:=lawOfc_any noH _ _ h x f w (noH_lt w) (e▸ok_raw0 hs hl) (by rw [<- e,cnt_raw0];have:=hs.1;omega) (e▸hr)
 rwa [<- e,cl_raw0 hl] at h1
theorem sm_cl1 {t:RP} (h:cntP t<=1500):SmA 1000000 (clP t):=SmA.up (by decide) _ (smP t h)
theorem shape_of {H:Nat->Prop}{w:World}{t:RP}{h x:Sl}{f:Int} (o:OkP 40 t) (g:PV H w t h x f):ShV H w h (clP t).shape:=by
 cases t with
 | mk s items fill =>
  rw [OkP] at o
  obtain ⟨-,hf,⟨sn,rfl,-⟩,-⟩:=o
  have hsr:=g.open_.1
  have e:(clP (.mk (sn.map Int.ofNat) items fill)).shape=sn:=by
   rw [clP,toNat_of]
   rcases hf with rfl | rfl | rfl <;> rfl
  rw [e]
  rw [List.map_map] at hsr
  exact hsr
theorem awake25_any (w:World) (tz:TzTab w):Calls Tryz.prog 19 #[] w fun e w'=>e= .returned (.bool true)/\Below w.heap.size w w':=by
 have HTZ:=Lib.hid tz
 clear tz
 go_enter Tryz.func19,Tryz.ntmps19
 have HN1:=Lib.hid (rnums_any _ _ noH (w.alloc (.cells #[.float .f64 4607182418800017408,.float .f64 4611686018427387904,.float .f64 4613937818241073152] 51)) (noH_lt _) (reads_three (heap_alloc_new w (.cells #[.float .f64 4607182418800017408,.float .f64 4611686018427387904,.float .f64 4613937818241073152] 51))) (by simp))
 have HB0:=Lib.hid (bel1 w (.cells #[.float .f64 4607182418800017408,.float .f64 4611686018427387904,.float .f64 4613937818241073152] 51))
 unfold PlR at HN1
 go_wp2_with fail
 refine HN1.out.mono ?_
 rintro e w1 ⟨h1,x1,rfl,hp1,hb⟩
 have HB1:=Lib.hid (bel_both HB0.out hb)
 have HP1:=Lib.hid hp1
 clear hb hp1 HN1 HB0
 go_wp2_with fail
 refine (lawOfc_nums sh3 all3 (by decide) h1 x1 0 _ HP1.out).mono ?_
 rintro e w2 ⟨h2,p2,rfl,ha2,hb,hc2⟩
 have HB2:=Lib.hid (bel_both HB1.out hb)
 have HFN:=Lib.hid (fnum_123 (HTZ.out.below (bel_both HB1.out hb)) ha2 hc2)
 clear hb ha2 hc2 HB1 HP1
 go_wp2_with fail
 refine HFN.out.mono ?_
 rintro e w3 ⟨A,c3,p3,rfl,hav3,hb⟩
 obtain ⟨h3,hh3⟩:∃ h:Sl,h=(A,0,c3):=⟨_,rfl⟩
 have HB3:=Lib.hid (bel_both (bel_both HB2.out hb) (bel1 w3 (arrO h3 p3)))
 rw [<- hh3] at hav3
 have HA3:=Lib.hid (AV.step hav3 (bel1 w3 (arrO h3 p3)))
 have HV3:=Lib.hid (at9_new w3 h3 p3)
 obtain ⟨V,hV⟩:∃ V,V=w3.heap.size:=⟨_,rfl⟩
 obtain ⟨wa,hwa⟩:∃ wa,wa=w3.alloc (arrO h3 p3):=⟨_,rfl⟩
 have HHH:=Lib.hid hh3
 have HWA:Hid (wa=w3.alloc (arrO (A,0,c3) p3)):=by rw [<- hh3];exact hwa
 have HVV:=Lib.hid hV
 rw [<- hwa] at HB3 HV3 HA3
 rw [<- hV] at HV3
 clear hV hwa hb hav3 HFN HB2 hh3
 go_upto_region 2 with fail
 rw [<- HWA.out,<- HVV.out]
 have HS0:=Lib.hid (LdA.new HV3.out)
 have HNU:=Lib.hid (fun W=>rnum_any 4618441417868443648 noH W (noH_lt W))
 have HSH:=Lib.hid (fun W (hW:LdA wa V h3 p3 W) (h4 x4:Sl) (hp:PV noH W (rawP a6) h4 x4 0)=>shows25_ok (noH_lt W) good6 (sm_1 _ _) (AV.step HA3.out hW.bel) hp)
 unfold PlR at HNU
 clear HA3 HV3
 have hs0:=HS0.out.dr
 have hs00:=HS0.out
 go_region_held3 (fun W=>(W.cell? ⟨V,0,none⟩=some (.slice h3.1 h3.2.1 h3.2.2)/\W.cell? ⟨V,1,none⟩=some (.int .i64 p3.k)/\W.cell? ⟨V,2,none⟩=some (.slice p3.b.1 p3.b.2.1 p3.b.2.2)/\W.cell? ⟨V,3,none⟩=some (.int .i64 p3.bn)/\W.cell? ⟨V,4,none⟩=some (.slice p3.s.1 p3.s.2.1 p3.s.2.2)/\W.cell? ⟨V,5,none⟩=some (.slice p3.i.1 p3.i.2.1 p3.i.2.2)/\W.cell? ⟨V,6,none⟩=some (.slice p3.f.1 p3.f.2.1 p3.f.2.2)/\W.cell? ⟨V,7,none⟩=some (.slice p3.c.1 p3.c.2.1 p3.c.2.2)/\W.cell? ⟨V,8,none⟩=some (.slice p3.x.1 p3.x.2.1 p3.x.2.2))/\LdA wa V h3 p3 W)
  (first | (with_reducible assumption) | (with_reducible (refine lda_s ?_);repeat (first | (with_reducible assumption) | (with_reducible refine LdA.dr ?_))))
  (first
   | (go_at_call 49;(with_reducible refine (HNU.out _).mono ?_);rintro e w4 ⟨h4,x4,rfl,hp4,hb4⟩;have hst4:LdA wa V h3 p3 w4:=LdA.step (by repeat (first | (with_reducible assumption) | (with_reducible refine LdA.dr ?_))) hb4;have HSC:=Lib.hid (HSH.out w4 hst4 h4 x4 hp4);clear hb4 hp4)
   | (go_at_call 21;(with_reducible refine HSC.out.mono ?_);rintro e w5 ⟨rfl,hb5⟩;have hst5:LdA wa V h3 p3 w5:=LdA.step hst4 hb5;clear hb5))
 all_goals
  go_wp2
  go_ret
  exact ⟨rfl,bel_both HB3.out hst5.bel⟩
def EgK (w wb:World) (h x:Sl) (f:Int) (A:Nat) (u:Sl) (p:V8) (T:Nat) (h2 x2:Sl) (f2:Int) (W:World):Prop:=At3 W w.heap.size 0 h x f/\At9 W A 0 u p/\At3 W T 0 h2 x2 f2/\Below wb.heap.size wb W
theorem egK_kept {w wb:World}{h x:Sl}{f:Int}{A:Nat}{u:Sl}{p:V8}{T:Nat}{h2 x2:Sl}{f2:Int} (hw:w.heap.size < wb.heap.size) (hA:A < wb.heap.size) (hT:T < wb.heap.size):KeptAt wb.heap.size (EgK w wb h x f A u p T h2 x2 f2):=fun _ _ _ hb ⟨g1,g2,g3,g4⟩ =>
 ⟨g1.of fun j=>hb.cell (p:=⟨w.heap.size,j,none⟩) hw,g2.of fun j=>hb.cell (p:=⟨A,j,none⟩) hA,g3.of fun j=>hb.cell (p:=⟨T,j,none⟩) hT,g4.trans hb⟩
theorem shv_rd {H:Nat->Prop}{w:World}{h:Sl}{s:List Nat} (g:ShV H w h s):RdH H w (sv h) ((s.map Int.ofNat).map (Value.int .i64)):=by
 rw [List.map_map]
 exact g
structure EgX (w0:World) (V:Nat) (h:Sl) (p:V8) (T:Nat) (h1 x1:Sl) (f:Int) (W:World):Prop where
 one:At9 W V 0 h p
 two:At3 W T 0 h1 x1 f
 bel:Below w0.heap.size w0 W
theorem EgX.step {w0 W W':World}{V:Nat}{h:Sl}{p:V8}{T:Nat}{h1 x1:Sl}{f:Int} (g:EgX w0 V h p T h1 x1 f W) (hb:Below W.heap.size W W'):EgX w0 V h p T h1 x1 f W':=⟨g.one.below hb,At3.belowP g.two hb,bel_both g.bel hb⟩
theorem EgX.dr {w0 W:World}{V:Nat}{h:Sl}{p:V8}{T:Nat}{h1 x1:Sl}{f:Int} (g:EgX w0 V h p T h1 x1 f W):EgX w0 V h p T h1 x1 f W.drew:=g.step (Below.refl _ W).drew
theorem EgX.self {w0 W:World}{V:Nat}{h:Sl}{p:V8}{T:Nat}{h1 x1:Sl}{f:Int} (g:EgX w0 V h p T h1 x1 f W):EgX w0 V h p T h1 x1 f W:=g
theorem egx_s {w0 W:World}{V:Nat}{h:Sl}{p:V8}{T:Nat}{h1:Sl}{A1:Option Addr}{n1 c1:Nat}{f:Int} (g:EgX w0 V h p T h1 (A1,n1,c1) f W):(W.cell? ⟨V,0,none⟩=some (.slice h.1 h.2.1 h.2.2)/\W.cell? ⟨V,1,none⟩=some (.int .i64 p.k)/\W.cell? ⟨V,2,none⟩=some (.slice p.b.1 p.b.2.1 p.b.2.2)/\W.cell? ⟨V,3,none⟩=some (.int .i64 p.bn)/\W.cell? ⟨V,4,none⟩=some (.slice p.s.1 p.s.2.1 p.s.2.2)/\W.cell? ⟨V,5,none⟩=some (.slice p.i.1 p.i.2.1 p.i.2.2)/\W.cell? ⟨V,6,none⟩=some (.slice p.f.1 p.f.2.1 p.f.2.2)/\W.cell? ⟨V,7,none⟩=some (.slice p.c.1 p.c.2.1 p.c.2.2)/\W.cell? ⟨V,8,none⟩=some (.slice p.x.1 p.x.2.1 p.x.2.2))/\(W.cell? ⟨T,0,none⟩=some (.slice h1.1 h1.2.1 h1.2.2)/\W.cell? ⟨T,1,none⟩=some (.slice A1 n1 c1)/\W.cell? ⟨T,2,none⟩=some (.int .i64 f))/\EgX w0 V h p T h1 (A1,n1,c1) f W:=⟨g.one.c,at3_c g.two,g⟩
theorem eGathers_any (t:RP) (h x:Sl) (f:Int) (w:World) (i1:FitP t) (m1:cntP t<=1048576) (tz:TzTab w) (r1:PV (fun _=>False) w t h x f) :
  Calls Tryz.prog 5 #[plV h x f] w fun e w'=>e= .returned (.bool true)/\Below w.heap.size w w':=by
 have HFA:=Lib.hid (fun W (hb:Below w.heap.size w W)=>fine25_any t h x f W i1 m1 (r1.step hb))
 have HR1:=Lib.hid r1
 have HAW:=Lib.hid (fun W (hb:Below w.heap.size w W)=>awake25_any W (tz.below hb))
 have HX0:=Lib.hid (at3_box w h x f)
 have HB0:=Lib.hid (bel1 w (plO h x f))
 unfold FineR at HFA
 clear i1 m1 r1 tz
 go_enter Tryz.func5,Tryz.ntmps5
 obtain ⟨c0,c1,c2⟩:=at3_c HX0.out
 go_wp2_with fail
 refine (HFA.out _ HB0.out).mono ?_
 rintro e w1 ⟨b1,rfl,hg1,hb⟩
 have HX1:=Lib.hid (At3.belowP HX0.out hb)
 have HB1:=Lib.hid (bel_both HB0.out hb)
 have hz1:w.heap.size+1<=w1.heap.size:=by have:=hb.size;simp at this;omega
 clear hb c0 c1 c2 HX0 HB0 HFA
 cases b1 with
 | false =>
  go_wp2_with fail
  refine (HAW.out _ HB1.out).mono ?_
  rintro e w2 ⟨rfl,hb⟩
  have HB:=Lib.hid (bel_both HB1.out hb)
  clear hb
  go_wp2
  go_ret
  exact ⟨rfl,HB.out⟩
 | true =>
  obtain ⟨o1,n1⟩:=hg1 rfl
  have hok:=okP_good 40 t o1
  obtain ⟨sn,hsn⟩:∃ sn:List Nat,sn=(clP t).shape:=⟨_,rfl⟩
  have HGA:=Lib.hid hok
  have HSM:=Lib.hid (sm_cl1 n1)
  have HOF:=Lib.hid (fun W (hs:EgS w w1 h x f W)=>lawOf_any (Fre w1 W) t h x f W (fun b e=>e.2) o1 (by omega) (PV.sub (fun b hl e=>by have:=e.1;have:=hz1;omega) (HR1.out) |>.step (bel_both HB1.out hs.bel)))
  have HTD:=Lib.hid (fun W (hs:EgS w w1 h x f W)=>tidy_walk 40 (Fre w1 W) t h x f W (fun b e=>e.2) o1 (by omega) (PV.sub (fun b hl e=>by have:=e.1;have:=hz1;omega) (HR1.out) |>.step (bel_both HB1.out hs.bel)))
  have HST:=Lib.hid (show EgS w w1 h x f w1 from ⟨HX1.out,Below.refl _ _,hz1⟩)
  have HSHP:=Lib.hid (shape_of o1 HR1.out)
  generalize hcl:clP t=cl at *
  unfold AaR at HOF
  unfold PlR at HTD
  obtain ⟨c0,c1,c2⟩:=at3_c HX1.out
  go_wp2_with fail
  go_cut [3,4] from 5 (fun va vt wx=>EgMid w w1 h x f cl (rawP cl) f va vt wx)
  case first =>
   have hs0:=HST.out.dr
   have hs00:=HST.out
   clear c0 c1 c2
   go_region_held3 (fun W=>(W.cell? ⟨w.heap.size,0,none⟩=some (.slice h.1 h.2.1 h.2.2)/\W.cell? ⟨w.heap.size,1,none⟩=some (.slice x.1 x.2.1 x.2.2)/\W.cell? ⟨w.heap.size,2,none⟩=some (.int .i64 f))/\EgS w w1 h x f W)
    (first | (with_reducible assumption) | (with_reducible (refine egs_s ?_);repeat (first | (with_reducible assumption) | (with_reducible refine EgS.dr ?_) | (with_reducible refine EgS.put ?_ (by first | assumption | omega | (simp;omega)) _) | (with_reducible refine EgS.al ?_ _))))
    (first
     | (go_at_call 13;(with_reducible refine (HOF.out _ ?_).mono ?_);exact EgS.self (by repeat (first | (with_reducible assumption) | (with_reducible refine EgS.dr ?_) | (with_reducible refine EgS.al ?_ _)));rintro e w2 ⟨u2,p2,rfl,hav2,hb2⟩;have hst2:EgS w w1 h x f w2:=EgS.step (by repeat (first | (with_reducible assumption) | (with_reducible refine EgS.dr ?_) | (with_reducible refine EgS.al ?_ _))) hb2;obtain ⟨hc2,hf2⟩:=bcell2 hb2;have hz2:=hb2.size;(first | (have hy32:w1.heap.size+1 < w2.heap.size:=sz2a hz2;have hy31:=Nat.lt_of_succ_lt hy32) | (have hy31:w1.heap.size < w2.heap.size:=sz1a hz2) | skip);have hs2z:=hst2.bel.size;have HAV2:=Lib.hid hav2;have HB2:=Lib.hid hb2;clear hb2 hav2)
     | (go_at_call 15;(with_reducible refine (HTD.out _ ?_).mono ?_);exact EgS.self (by repeat (first | (with_reducible assumption) | (with_reducible refine EgS.dr ?_) | (with_reducible refine EgS.al ?_ _)));rintro e w3 ⟨h3,x3,rfl,hpv3,hb3⟩;have hst3:EgS w w1 h x f w3:=EgS.step (by repeat (first | (with_reducible assumption) | (with_reducible refine EgS.dr ?_) | (with_reducible refine EgS.al ?_ _))) hb3;obtain ⟨hc3,hf3⟩:=bcell2 hb3;have hz3:=hb3.size;have hz23:w2.heap.size<=w3.heap.size:=(by first | exact hz3 | exact Nat.le_of_lt (sz1a hz3) | exact Nat.le_of_lt (Nat.lt_of_succ_lt (sz2a hz3)));(first | have hy42:=Nat.lt_of_lt_of_le hy32 hz23 | skip);(first | have hy41:=Nat.lt_of_lt_of_le hy31 hz23 | skip);(first | (have hy44:w2.heap.size+1 < w3.heap.size:=sz2a hz3;have hy43:=Nat.lt_of_succ_lt hy44) | (have hy43:w2.heap.size < w3.heap.size:=sz1a hz3) | skip);have hs3z:=hst3.bel.size;have HPV3:=Lib.hid hpv3;have HB3:=Lib.hid hb3;clear hb3 hpv3))
   all_goals
    go_wp2
    go_meet
    have hb23:Below w2.heap.size w2 w3:=by first | exact HB3.out | exact bel_both (bel1 _ _) HB3.out | exact bel_both (bel2 _ _ _) HB3.out
    refine egMid_of ?_ HAV2.out HPV3.out hb23 hst3 ?_ ?_ ?_ ?_
    rotate_left
    ·exact ⟨by first | omega | (simp <;> omega),by first | omega | (simp <;> omega)⟩
    ·exact ⟨by first | omega | (simp <;> omega),by first | omega | (simp <;> omega)⟩
    ·exact ⟨by first | omega | (simp <;> omega),by first | omega | (simp <;> omega)⟩
    ·exact ⟨by first | omega | (simp <;> omega),by first | omega | (simp <;> omega)⟩
    ·first
      | (with_reducible exact put2_nn _ _ _)
      | (with_reducible exact put2_nn' _ _ _)
      | (with_reducible refine put2_on ?_ _ _ _;(repeat (first | (with_reducible exact ZB.new _) | (with_reducible exact ZP.new _) | (with_reducible exact ZB.new1 _ _) | (with_reducible exact ZP.new1 _ _) | (with_reducible refine ZB.dr ?_) | (with_reducible refine ZP.dr ?_) | (with_reducible refine ZB.al ?_ _) | (with_reducible refine ZP.al ?_ _) | (with_reducible refine ZB.step ?_ HB3.out) | (with_reducible refine ZP.step ?_ HB3.out) | (with_reducible refine ZB.step ?_ HB2.out) | (with_reducible refine ZP.step ?_ HB2.out))))
      | (with_reducible refine put2_no ?_ _ _ _ _;(repeat (first | (with_reducible exact ZB.new _) | (with_reducible exact ZP.new _) | (with_reducible exact ZB.new1 _ _) | (with_reducible exact ZP.new1 _ _) | (with_reducible refine ZB.dr ?_) | (with_reducible refine ZP.dr ?_) | (with_reducible refine ZB.al ?_ _) | (with_reducible refine ZP.al ?_ _) | (with_reducible refine ZB.step ?_ HB3.out) | (with_reducible refine ZP.step ?_ HB3.out) | (with_reducible refine ZB.step ?_ HB2.out) | (with_reducible refine ZP.step ?_ HB2.out))))
      | (with_reducible refine put2_oo (by omega) ?_ ?_ _ _ _ _ _;(repeat (first | (with_reducible exact ZB.new _) | (with_reducible exact ZP.new _) | (with_reducible exact ZB.new1 _ _) | (with_reducible exact ZP.new1 _ _) | (with_reducible refine ZB.dr ?_) | (with_reducible refine ZP.dr ?_) | (with_reducible refine ZB.al ?_ _) | (with_reducible refine ZP.al ?_ _) | (with_reducible refine ZB.step ?_ HB3.out) | (with_reducible refine ZP.step ?_ HB3.out) | (with_reducible refine ZB.step ?_ HB2.out) | (with_reducible refine ZP.step ?_ HB2.out)));(repeat (first | (with_reducible exact ZB.new _) | (with_reducible exact ZP.new _) | (with_reducible exact ZB.new1 _ _) | (with_reducible exact ZP.new1 _ _) | (with_reducible refine ZB.dr ?_) | (with_reducible refine ZP.dr ?_) | (with_reducible refine ZB.al ?_ _) | (with_reducible refine ZP.al ?_ _) | (with_reducible refine ZB.step ?_ HB3.out) | (with_reducible refine ZP.step ?_ HB3.out) | (with_reducible refine ZB.step ?_ HB2.out) | (with_reducible refine ZP.step ?_ HB2.out))))
      | (with_reducible refine put2_oo' (by omega) ?_ ?_ _ _ _ _ _;(repeat (first | (with_reducible exact ZB.new _) | (with_reducible exact ZP.new _) | (with_reducible exact ZB.new1 _ _) | (with_reducible exact ZP.new1 _ _) | (with_reducible refine ZB.dr ?_) | (with_reducible refine ZP.dr ?_) | (with_reducible refine ZB.al ?_ _) | (with_reducible refine ZP.al ?_ _) | (with_reducible refine ZB.step ?_ HB3.out) | (with_reducible refine ZP.step ?_ HB3.out) | (with_reducible refine ZB.step ?_ HB2.out) | (with_reducible refine ZP.step ?_ HB2.out)));(repeat (first | (with_reducible exact ZB.new _) | (with_reducible exact ZP.new _) | (with_reducible exact ZB.new1 _ _) | (with_reducible exact ZP.new1 _ _) | (with_reducible refine ZB.dr ?_) | (with_reducible refine ZP.dr ?_) | (with_reducible refine ZB.al ?_ _) | (with_reducible refine ZP.al ?_ _) | (with_reducible refine ZB.step ?_ HB3.out) | (with_reducible refine ZP.step ?_ HB3.out) | (with_reducible refine ZB.step ?_ HB2.out) | (with_reducible refine ZP.step ?_ HB2.out))))
  case rest =>
   obtain ⟨A,T,u,p,h2,x2,rfl,rfl,hA,hT,hne,hlA,hlT,hav,hpv,hst⟩:=hcut
   obtain ⟨wb,hwb⟩:∃ wb,wb=wc:=⟨_,rfl⟩
   subst hwb
   have HAV:=Lib.hid (AV.sub (H':=noH) (fun b _ e=>e.elim) hav)
   have HPV:=Lib.hid (PV.sub (H':=noH) (fun b _ e=>e.elim) hpv)
   have HST2:=Lib.hid hst
   have HK0:Hid (EgK w wb h x f A u p T h2 x2 f wb):=⟨hst.one,(at9_of hA).1,(block3 hT).1,Below.refl _ _⟩
   have hAl:=lt_blk hA
   have hTl:=lt_blk hT
   have hwl:=hst.one.lt
   have HKP:=Lib.hid (egK_kept (f:=f) (h:=h) (x:=x) (u:=u) (p:=p) (h2:=h2) (x2:=x2) (f2:=f) hwl hAl hTl)
   have HG0:Hid (EgI w wb.heap.size (EgK w wb h x f A u p T h2 x2 f) (partsA cl 0) ((partsA cl 0).map rawP) (.slice none 0 0) (.slice none 0 0) wb) :=
    ⟨AOwn.nil _ _ _,POwn.nil _ _ _,(fun b e=>by cases e),HK0.out,bel_both HB1.out hst.bel,by have:=hst.bel.size;have:=HB1.out.size;omega,Nat.le_refl _⟩
   obtain ⟨n,hn⟩:∃ n,n=cl.len:=⟨_,rfl⟩
   have hn2:n<=1000000:=by rw [hn];exact HSM.out.len
   obtain ⟨items,hit,hlen⟩:=rawP_mk cl
   have hxl:x2.2.1=n:=by
    have hq:=HPV.out
    rw [hit] at hq
    have:=hq.open_.2.2.1
    rw [hn,<- hlen]
    exact this
   have HN:=Lib.hid hn
   have HGD2:Hid (∀ c,c<=n->∀ z∈partsA cl c,GoodA 39 z):=fun c hc=>partsA_good HGA.out (by decide) (by have:=HN.out;omega)
   have HSM2:Hid (∀ c,c<=n->∀ z∈partsA cl c,SmA 1000000 z):=fun c hc=>partsA_small (by decide) HSM.out (by have:=HN.out;omega)
   obtain ⟨xA,xn,xc⟩:=x2
   have hxn:xn=n:=hxl
   subst hxn
   have HEP:Hid (∀ i,i < xn->∀ (K:Nat->Prop) W,(∀ b,K b->wb.heap.size<=b/\b < W.heap.size)->Below wb.heap.size wb W->Calls Tryz.prog 20 #[arrV u p,.int .i64 (i:Int)] W (AaR K W (partA cl i))):=fun i hi K W hK hb =>
    epart_any W ((AV.sub (fun b hl e=>by have:=(hK b e).1;omega) HAV.out).step hb) (fun b e=>(hK b e).2) i (by have:=HN.out;omega) (by have:=HN.out;omega)
   have HRP:Hid (∀ i,i < xn->∀ (K:Nat->Prop) W,(∀ b,K b->wb.heap.size<=b/\b < W.heap.size)->Below wb.heap.size wb W->Calls Tryz.prog 22 #[plV h2 (xA,xn,xc) f,.int .i64 (i:Int)] W fun e w'=>∃ h4 x4 f4,e= .returned (plV h4 x4 f4)/\PV K w' (rawP (partA cl i)) h4 x4 f4/\Below W.heap.size W w'):=fun i hi K W hK hb=>by
    have g:PV K W (rawP cl) h2 (xA,xn,xc) f:=(PV.sub (fun b hl e=>by have:=(hK b e).1;omega) HPV.out).step hb
    refine (erp_any g i (by have:=HN.out;omega) (by have:=HN.out;omega) W (Below.refl _ W) (fun b e=>(hK b e).2)).mono ?_
    rintro e w' ⟨h4,x4,f4,rfl,hp,hb2⟩
    refine ⟨h4,x4,f4,rfl,?_,hb2⟩
    rcases hp with hp | ⟨_,_,hp⟩
    ·exact hp.step hb2
    ·exact hp
   clear hA hT hav hpv hst hAl hTl hwl hit hlen hxl hn HOF HTD c0 c1 c2 HPV HAV
   go_wp2
   go_loopw [5,6,7] (fun vl vm iv wr=>∃ (i:Nat) (lA:Option Addr) (ln lc:Nat) (mA:Option Addr) (mn mc:Nat),i<=xn/\iv= .int .i64 (i:Int)/\vl= .slice lA ln lc/\vm= .slice mA mn mc/\EgI w wb.heap.size (EgK w wb h x f A u p T h2 (xA,xn,xc) f) (partsA cl i) ((partsA cl i).map rawP) (.slice lA ln lc) (.slice mA mn mc) wr) (fun _ _ iv _=>xn - (intOf iv).toNat)
   case atStart=>exact ⟨0,none,0,0,none,0,0,Nat.zero_le _,rfl,rfl,rfl,HG0.out⟩
   case round =>
    obtain ⟨i,lA,ln,lc,mA,mn,mc,hi,rfl,rfl,rfl,hg⟩:=hrel
    have HG:=Lib.hid hg
    by_cases him:i < xn
    ·have him2:(i:Int) < (xn:Int):=by omega
     have HEI:=Lib.hid (HEP.out i him)
     have HRI:=Lib.hid (HRP.out i him)
     have HP1:=Lib.hid (HGD2.out xn (Nat.le_refl _) (partA cl i) (List.mem_map.2 ⟨i,List.mem_range.2 him,rfl⟩))
     have HP2:=Lib.hid (HSM2.out xn (Nat.le_refl _) (partA cl i) (List.mem_map.2 ⟨i,List.mem_range.2 him,rfl⟩))
     have HSU:Hid (partsA cl (i+1)=partsA cl i++[partA cl i]):=partsA_succ cl i
     have HLN:Hid ((partsA cl i).length<=1048576):=by unfold Hid;rw [partsA_len];omega
     generalize partA cl i=pa at *
     generalize partsA cl i=ps at *
     obtain ⟨k1,k2,k3,k4⟩:=hg.kept
     obtain ⟨t0,t1,t2⟩:=at3_c k3
     dsimp only at t1
     obtain ⟨a0,a1,a2,a3,a4,a5,a6,a7,a8⟩:=k2.c
     have HK4:=Lib.hid k4
     unfold AaR at HEI
     clear hg k1 k2 k3 k4
     go_wp2_with fail
     refine (HEI.out (fun b=>(Value.slice mA mn mc).ownBlock=some b\/(Value.slice lA ln lc).ownBlock=some b) wr (fun b e=>by
      rcases e with e | e
      ·exact HG.out.rowm.own_lt e
      ·exact HG.out.rowl.own_lt e) HK4.out).mono ?_
     rintro e w3 ⟨hx,px,rfl,havx,hb⟩
     have HG3:=Lib.hid ((HG.out.step HKP.out hb).step HKP.out (bel1 w3 (arrO hx px)))
     have HAX:=Lib.hid (AV.step havx (bel1 w3 (arrO hx px)))
     have HVX:=Lib.hid (at9_new w3 hx px)
     obtain ⟨V,hV⟩:∃ V,V=w3.heap.size:=⟨_,rfl⟩
     obtain ⟨wx,hwx⟩:∃ wx,wx=w3.alloc (arrO hx px):=⟨_,rfl⟩
     have HWX:=Lib.hid hwx
     have HVV:=Lib.hid hV
     rw [<- hwx] at HG3 HVX HAX
     rw [<- hV] at HVX
     clear hV hwx hb havx t0 t1 t2 a0 a1 a2 a3 a4 a5 a6 a7 a8 HG HK4 HEI
     go_upto_region 10 with fail
     rw [<- HWX.out,<- HVV.out]
     have HS0:Hid (EgX wx V hx px T h2 (xA,xn,xc) f wx):=⟨HVX.out,HG3.out.kept.2.2.1,Below.refl _ _⟩
     have HRA:=Lib.hid (fun W (hs:EgX wx V hx px T h2 (xA,xn,xc) f W)=>HRI.out noH W (fun b e=>e.elim) (bel_both HG3.out.kept.2.2.2 hs.bel))
     have HSH:=Lib.hid (fun W (hs:EgX wx V hx px T h2 (xA,xn,xc) f W) h4 x4 f4 hp=>shows25_ok (H:=noH) (H':=noH) (h1:=h4) (x1:=x4) (f:=f4) (noH_lt W) (GoodA.up (by decide) _ HP1.out) HP2.out ((AV.sub (fun b _ e=>e.elim) HAX.out).step hs.bel) hp)
     go_cut [32] from 27 to 42 (fun v wy=>v= .bool false/\EgX wx V hx px T h2 (xA,xn,xc) f wy)
     case first =>
      have hs0:=HS0.out.dr
      have hs00:=HS0.out
      go_region_held3 (fun W=>(W.cell? ⟨V,0,none⟩=some (.slice hx.1 hx.2.1 hx.2.2)/\W.cell? ⟨V,1,none⟩=some (.int .i64 px.k)/\W.cell? ⟨V,2,none⟩=some (.slice px.b.1 px.b.2.1 px.b.2.2)/\W.cell? ⟨V,3,none⟩=some (.int .i64 px.bn)/\W.cell? ⟨V,4,none⟩=some (.slice px.s.1 px.s.2.1 px.s.2.2)/\W.cell? ⟨V,5,none⟩=some (.slice px.i.1 px.i.2.1 px.i.2.2)/\W.cell? ⟨V,6,none⟩=some (.slice px.f.1 px.f.2.1 px.f.2.2)/\W.cell? ⟨V,7,none⟩=some (.slice px.c.1 px.c.2.1 px.c.2.2)/\W.cell? ⟨V,8,none⟩=some (.slice px.x.1 px.x.2.1 px.x.2.2))/\(W.cell? ⟨T,0,none⟩=some (.slice h2.1 h2.2.1 h2.2.2)/\W.cell? ⟨T,1,none⟩=some (.slice xA xn xc)/\W.cell? ⟨T,2,none⟩=some (.int .i64 f))/\EgX wx V hx px T h2 (xA,xn,xc) f W)
       (first | (with_reducible assumption) | (with_reducible (refine egx_s ?_);repeat (first | (with_reducible assumption) | (with_reducible refine EgX.dr ?_))))
       (first
        | (go_at_call 22;(with_reducible refine (HRA.out _ ?_).mono ?_);exact EgX.self (by repeat (first | (with_reducible assumption) | (with_reducible refine EgX.dr ?_)));rintro e w4 ⟨h4,x4,f4,rfl,hp4,hb4⟩;have hst4:EgX wx V hx px T h2 (xA,xn,xc) f w4:=EgX.step (by repeat (first | (with_reducible assumption) | (with_reducible refine EgX.dr ?_))) hb4;have HSC:=Lib.hid (HSH.out w4 hst4 h4 x4 f4 hp4);clear hb4 hp4)
        | (go_at_call 21;(with_reducible refine HSC.out.mono ?_);rintro e w5 ⟨rfl,hb5⟩;have hst5:EgX wx V hx px T h2 (xA,xn,xc) f w5:=EgX.step hst4 hb5;clear hb5))
      all_goals
       go_wp2
       go_meet
       exact ⟨rfl,hst5⟩
     case rest =>
      obtain ⟨rfl,hs5⟩:=hcut
      obtain ⟨w5,hw5⟩:∃ w5,w5=wc:=⟨_,rfl⟩
      subst hw5
      have HG5:=Lib.hid (HG3.out.step HKP.out hs5.bel)
      have HA5:=Lib.hid (HAX.out.step hs5.bel)
      obtain ⟨v0,v1,v2,v3,v4,v5,v6,v7,v8⟩:=hs5.one.c
      clear hs5 HG3 HAX HVX HRA HSH HS0 HWX HVV
      go_wp2_with (at_builtin;go_loud (refine wpList_pushA rfl (.tmp 33) (.tmp 35) rfl (fun b=>(Value.slice mA mn mc).ownBlock=some b) wb.heap.size (.slice lA ln lc) ps rfl HG5.out.rowl hx px pa HA5.out rfl HLN.out HG5.out.low.2 ?_);intro v' w6 hown' hbw hlat hat;have HG6:=Lib.hid (HG5.out.push_l HKP.out hown' (hbw _ ((Below.refl _ w5).mono HG5.out.low.2)) hlat hat);(obtain ⟨lA',ln',lc',hvn'⟩:∃ A n c,v'= .slice A n c:=by (obtain ⟨a,c,e⟩:=hown'.len;exact ⟨a,_,c,e⟩));subst hvn';(obtain ⟨t0,t1,t2⟩:=at3_c HG6.out.kept.2.2.1);dsimp only at t1;clear hown' hbw hlat hat)
      refine (HRI.out (fun b=>(Value.slice lA' ln' lc').ownBlock=some b\/(Value.slice mA mn mc).ownBlock=some b) w6 (fun b e=>by
       rcases e with e | e
       ·exact HG6.out.rowl.own_lt e
       ·exact HG6.out.rowm.own_lt e) HG6.out.kept.2.2.2).mono ?_
      rintro e w7 ⟨h4,x4,f4,rfl,hp4,hb⟩
      have HG7:=Lib.hid (HG6.out.step HKP.out hb)
      have HP7:=Lib.hid hp4
      have HLM:Hid ((ps.map rawP).length<=1048576):=by unfold Hid;rw [List.length_map];exact HLN.out
      clear hp4 hb t0 t1 t2 v0 v1 v2 v3 v4 v5 v6 v7 v8 HG5 HA5
      go_wp2_with (at_builtin;go_loud (refine wpList_pushP rfl (.tmp 37) (.tmp 41) rfl (fun b=>(Value.slice lA' ln' lc').ownBlock=some b) wb.heap.size (.slice mA mn mc) (ps.map rawP) rfl HG7.out.rowm ⟨h4,x4,f4⟩ (rawP pa) HP7.out rfl HLM.out HG7.out.low.2 ?_);intro v' w8 hown' hbw hlat hat;have HG8:=Lib.hid (HG7.out.push_m HKP.out hown' (hbw _ ((Below.refl _ w7).mono HG7.out.low.2)) hlat hat);(obtain ⟨mA',mn',mc',hvn'⟩:∃ A n c,v'= .slice A n c:=by (obtain ⟨a,c,e⟩:=hown'.len;exact ⟨a,_,c,e⟩));subst hvn';clear hown' hbw hlat hat)
      go_roundw
      case rel=>exact ⟨i+1,lA',ln',lc',mA',mn',mc',by omega,by go_num,rfl,rfl,by rw [HSU.out,List.map_append];exact HG8.out⟩
      case measure=>simp [intOf];omega
    ·have hix:xn=i:=by omega
     subst hix
     have hge:¬ (xn:Int) < (xn:Int):=by omega
     obtain ⟨k1,k2,k3,k4⟩:=hg.kept
     obtain ⟨t0,t1,t2⟩:=at3_c k3
     dsimp only at t1
     have hasl:ASl noH wr (lA,ln,lc) (partsA cl xn):=by
      obtain ⟨⟨q1,q2,q3⟩,e,hq⟩:=(hg.rowl.sub (H':=noH) (fun _ _ e=>e.elim)).asl (fun _ e=>e.elim)
      unfold sv at e
      injection e with e1 e2 e3
      dsimp only at e1 e2 e3
      subst e1;subst e2;subst e3
      exact hq
     have hpsl:PSl noH wr (mA,mn,mc) ((partsA cl xn).map rawP):=by
      obtain ⟨⟨q1,q2,q3⟩,e,hq⟩:=(hg.rowm.sub (H':=noH) (fun _ _ e=>e.elim)).psl (fun _ e=>e.elim)
      unfold sv at e
      injection e with e1 e2 e3
      dsimp only at e1 e2 e3
      subst e1;subst e2;subst e3
      exact hq
     have hpl:(partsA cl xn).length=xn:=partsA_len cl xn
     have hsl:=HGA.out.sh.2
     rw [<- HN.out] at hsl
     have hones:=good_ones (HGD2.out xn (Nat.le_refl _))
     have HBW:=Lib.hid hg.bel
     have HS0:Hid (EgS w wr h x f wr):=⟨k1,Below.refl _ _,by have:=k1.lt;omega⟩
     have HGO:=Lib.hid (gat_good (s:=cl.shape) (l:=partsA cl xn) (by rw [hpl];exact hsl) (HGD2.out xn (Nat.le_refl _)))
     have HGS:=Lib.hid (gat_small (M:=1000000) (s:=cl.shape) (l:=partsA cl xn) (by omega) (HSM2.out xn (Nat.le_refl _)))
     have HGT:=Lib.hid (fun W (hs:EgS w wr h x f W)=>egather_any noH cl.shape (partsA cl xn) h (lA,ln,lc) W (noH_lt W) (by omega) (hasl.step hs.bel) (HSHP.out.lat (Lat.below (bel_both HBW.out hs.bel))) (by have:=hsl.1;omega) hones.1 hones.2)
     have HRG:=Lib.hid (fun W (hs:EgS w wr h x f W)=>rgather_any noH cl.shape (partsA cl xn) h (mA,mn,mc) W (noH_lt W) (by omega) (hpsl.step hs.bel) (shv_rd (HSHP.out.lat (Lat.below (bel_both HBW.out hs.bel)))) hones.1 hones.2)
     generalize gatA cl.shape (partsA cl xn)=G at HGO HGS HGT HRG
     have HSH:=Lib.hid (fun W hq pq h1 x1 f1 (ha:AvAt noH G hq pq W) (hp:PV noH W (rawP G) h1 x1 f1)=>shows25_ok (H:=noH) (H':=noH) (noH_lt W) HGO.out HGS.out ha hp)
     have HA2:=Lib.hid (fun W (hs:EgS w wr h x f W)=>HAW.out W (bel_both HBW.out hs.bel))
     unfold AaR at HGT
     unfold PlR at HRG
     clear hasl hpsl hpl hsl hones hg k1 k2 k3 k4 HGD2 HSM2 HEP HRP HGA HSM HKP HG
     dsimp only [sv] at HGT HRG
     go_wp2_with fail
     have hs0:=HS0.out.dr
     have hs00:=HS0.out
     clear t0 t1 t2
     go_region_held3 (fun W=>(W.cell? ⟨w.heap.size,0,none⟩=some (.slice h.1 h.2.1 h.2.2)/\W.cell? ⟨w.heap.size,1,none⟩=some (.slice x.1 x.2.1 x.2.2)/\W.cell? ⟨w.heap.size,2,none⟩=some (.int .i64 f))/\EgS w wr h x f W)
      (first | (with_reducible assumption) | (with_reducible (refine egs_s ?_);repeat (first | (with_reducible assumption) | (with_reducible refine EgS.dr ?_))))
      (first
       | (go_at_call 23;(with_reducible refine (HGT.out _ ?_).mono ?_);exact EgS.self (by repeat (first | (with_reducible assumption) | (with_reducible refine EgS.dr ?_)));rintro e w2 ⟨hq,pq,rfl,havq,hb2⟩;have hst2:EgS w wr h x f w2:=EgS.step (by repeat (first | (with_reducible assumption) | (with_reducible refine EgS.dr ?_))) hb2;have hat2:AvAt noH G hq pq w2:=havq;clear hb2 havq)
       | (go_at_call 24;(with_reducible refine (HRG.out _ ?_).mono ?_);exact EgS.self (by repeat (first | (with_reducible assumption) | (with_reducible refine EgS.dr ?_)));rintro e w3 ⟨fq,h3,x3,rfl,hpv3,hb3⟩;have hst3:EgS w wr h x f w3:=EgS.step (by repeat (first | (with_reducible assumption) | (with_reducible refine EgS.dr ?_))) hb3;have hat3:AvAt noH G hq pq w3:=AvAt.step (by repeat (first | (with_reducible assumption) | (with_reducible refine AvAt.dr ?_))) hb3;have HSC:=Lib.hid (HSH.out w3 hq pq h3 x3 fq hat3 hpv3);clear hb3 hpv3)
       | (go_at_call 21;(with_reducible refine HSC.out.mono ?_);rintro e w4 ⟨rfl,hb4⟩;have hst4:EgS w wr h x f w4:=EgS.step hst3 hb4;clear hb4)
       | (go_at_call 19;(with_reducible refine (HA2.out _ ?_).mono ?_);exact EgS.self (by repeat (first | (with_reducible assumption) | (with_reducible refine EgS.dr ?_)));rintro e w5 ⟨rfl,hb5⟩;have hst5:EgS w wr h x f w5:=EgS.step (by repeat (first | (with_reducible assumption) | (with_reducible refine EgS.dr ?_))) hb5;clear hb5))
     all_goals
      go_wp2
      go_ret
      exact ⟨rfl,bel_both HBW.out hst5.bel⟩
end Go.Proofs.YtakgmnafbjdccaaGreatDoor
