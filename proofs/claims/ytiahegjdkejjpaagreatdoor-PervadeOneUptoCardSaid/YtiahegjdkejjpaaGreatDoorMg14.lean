/- The walks of arith.whole and of .. Conditions: as each theorem says. -/
import Derived.Test.YtiahegjdkejjpaaGreatDoorMg12
import Derived.Test.YtiahegjdkejjpaaGreatDoorMg10
set_option maxRecDepth 100000
set_option maxHeartbeats 4000000
namespace Go.Proofs.YtiahegjdkejjpaaGreatDoor
open Go Go.RowKit Go.Proofs Fl
def awZ (q a b:Int):Option Int:=if q=7 then some (restZ a b) else wholeZ q a b
theorem awhole_all (q a b:Int) (ha:Good a) (hb:Good b) (w:World):Calls Tryz.prog 268 #[.int .i64 q,.int .i64 a,.int .i64 b] w (OptR (awZ q a b) w):=by
 by_cases h1:q=1
 ·subst h1
  have HC:=Lib.hid (addInt_all a b ha hb)
  show Calls _ _ _ _ (OptR (okZ (a+b)) w)
  generalize okZ (a+b)=r at *
  clear ha hb
  unfold OptR at *
  go_enter Tryz.func268,Tryz.ntmps268
  go_wp2_with fail
  refine (HC.out _).mono ?_
  rintro e w' ⟨rfl,rfl⟩
  go_wp2
  go_ret2
  exact ⟨rfl,rfl⟩
 by_cases h2:q=2
 ·subst h2
  have HC:=Lib.hid (subInt_all a b ha hb)
  show Calls _ _ _ _ (OptR (okZ (a - b)) w)
  generalize okZ (a - b)=r at *
  clear ha hb
  unfold OptR at *
  go_enter Tryz.func268,Tryz.ntmps268
  go_wp2_with fail
  refine (HC.out _).mono ?_
  rintro e w' ⟨rfl,rfl⟩
  go_wp2
  go_ret2
  exact ⟨rfl,rfl⟩
 by_cases h3:q=3
 ·subst h3
  have HC:=Lib.hid (mulInt_all a b ha hb)
  show Calls _ _ _ _ (OptR (okZ (a*b)) w)
  generalize okZ (a*b)=r at *
  clear ha hb
  unfold OptR at *
  go_enter Tryz.func268,Tryz.ntmps268
  go_wp2_with fail
  refine (HC.out _).mono ?_
  rintro e w' ⟨rfl,rfl⟩
  go_wp2
  go_ret2
  exact ⟨rfl,rfl⟩
 by_cases h5:q=5
 ·subst h5
  show Calls _ _ _ _ (OptR (some (max a b)) w)
  unfold OptR
  go_enter Tryz.func268,Tryz.ntmps268
  go_wp2
  go_ret2
  exact ⟨rfl,rfl⟩
 by_cases h6:q=6
 ·subst h6
  show Calls _ _ _ _ (OptR (some (min a b)) w)
  unfold OptR
  go_enter Tryz.func268,Tryz.ntmps268
  go_wp2
  go_ret2
  exact ⟨rfl,rfl⟩
 by_cases h7:q=7
 ·subst h7
  have HC:=Lib.hid (restInt_any a b ha hb)
  show Calls _ _ _ _ (OptR (some (restZ a b)) w)
  generalize restZ a b=r at *
  clear ha hb
  unfold OptR
  go_enter Tryz.func268,Tryz.ntmps268
  go_wp2_with fail
  refine (HC.out _).mono ?_
  rintro e w' ⟨rfl,rfl⟩
  go_wp2
  go_ret2
  exact ⟨rfl,rfl⟩
 have hz:awZ q a b=none:=by unfold awZ wholeZ;rw [if_neg h7,if_neg h1,if_neg h2,if_neg h3,if_neg h5,if_neg h6]
 rw [hz]
 have e1:(q==1)=false:=by simpa using h1
 have e2:(q==2)=false:=by simpa using h2
 have e3:(q==3)=false:=by simpa using h3
 have e5:(q==5)=false:=by simpa using h5
 have e6:(q==6)=false:=by simpa using h6
 have e7:(q==7)=false:=by simpa using h7
 unfold OptR
 clear h1 h2 h3 h5 h6 h7 hz
 go_enter Tryz.func268,Tryz.ntmps268
 go_wp2
 go_ret2
 exact ⟨rfl,rfl⟩
theorem awZ_good {q a b c:Int} (ha:Good a) (hb:Good b) (h:awZ q a b=some c):Good c:=by
 unfold awZ at h
 split at h
 ·injection h with h;subst h;exact restZ_good ha hb
 ·exact wholeZ_good ha hb h
theorem awZ_one (pw:Nat->Nat->Nat×Int){q a b c:Int} (ha:Good a) (hb:Good b) (h:awZ q a b=some c):oneP pw q (fi a) (fi b)=(fi c,0):=by
 unfold awZ at h
 split at h
 ·rename_i e
  subst e
  injection h with h
  subst h
  exact restP_of (wholeP_fi ha) (wholeP_fi hb)
 ·exact wholeZ_one pw ha hb h
def AwOut (H:Nat->Prop) (w:World) (R:Nat->Nat×Int) (N:Nat) (e:Ending) (w':World):Prop :=
 ((∀ c,c < N->(R c).2=0)/\Vec2R H w (fun u W=>NumV u (leastF (fun c=>(R c).1) N:Nat) N (fun c=>(R c).1) W) e w')\/NoVec w e w'
def WhOut (k:Int) (m:Nat) (F:Nat->Nat) (w:World) (e:Ending) (w':World):Prop :=
 ∃ (a:Option Addr) (l c:Nat),e= .returned (.tuple #[.slice a l c,.bool (k != 4)])/\(k≠4->l=m/\Reads1 w' (.slice a l c) ((List.range m).map fun j => .int .i64 (zOf (F j))))/\Below w.heap.size w w'
theorem wholesW_any (p:V8) (m:Nat) (F:Nat->Nat) (w:World) (hm:m<=1000000) (hN:∀ W,Below w.heap.size w W->NumV p.v p.k m F W) :
  Calls Tryz.prog 122 #[p.v] w (WhOut p.k m F w):=by
 have h0:=numX_of (hN w (Below.refl _ _))
 by_cases h4:p.k=4
 ·have e4:p.v=vecV 4 (.slice p.b.1 p.b.2.1 p.b.2.2) p.bn (.slice p.s.1 p.s.2.1 p.s.2.2) (.slice p.i.1 p.i.2.1 p.i.2.2) (.slice p.f.1 p.f.2.1 p.f.2.2) (.slice p.c.1 p.c.2.1 p.c.2.2) (.slice p.x.1 p.x.2.1 p.x.2.2):=by rw [<- h4]
  rw [e4]
  refine (wholes_4 _ _ _ _ _ _ _ w).mono ?_
  rintro e w' ⟨rfl,hb⟩
  exact ⟨none,0,0,by rw [h4];rfl,fun h=>absurd h4 h,hb⟩
 ·have hb4:(p.k != 4)=true:=by simpa using h4
  by_cases h3:p.k=3
  ·have e3:p.v=vecV 3 (.slice p.b.1 p.b.2.1 p.b.2.2) p.bn (.slice p.s.1 p.s.2.1 p.s.2.2) (.slice p.i.1 p.i.2.1 p.i.2.2) (.slice p.f.1 p.f.2.1 p.f.2.2) (.slice p.c.1 p.c.2.1 p.c.2.2) (.slice p.x.1 p.x.2.1 p.x.2.2):=by rw [<- h3]
   rw [e3]
   refine (wholes_3 _ _ _ _ _ _ _ _ w (h0.ints h3) (by simpa using hm) (fun u hu=>by
    obtain ⟨j,_,rfl⟩:=List.mem_map.1 hu
    rfl)).mono ?_
   rintro e w1 ⟨v,rfl,ho,hb⟩
   obtain ⟨a,c2,rfl,_⟩:=reads_at ho.reads
   exact ⟨a,m,c2,by rw [hb4],fun _=>⟨rfl,ho.reads⟩,hb⟩
  ·refine (wholes_any p.k p.b p.bn p.s p.i p.f p.c p.x m F w h4 hm (fun h=>absurd h h3) (fun W hb=>numX_of (hN W hb))).mono ?_
   rintro e w1 ⟨b,o,c,rfl,hc,hb⟩
   exact ⟨some ⟨b,o,none⟩,m,c,by rw [hb4],fun _=>⟨rfl,.inr ⟨b,o,m,c,rfl,by simp,fun i hi=>by rw [hc i (by simpa using hi)];simp⟩⟩,hb⟩
theorem store_int {w:World}{a:Addr}{y:Value} (hc:w.cell? a=some y) (hf:w.frozen? a=false) (x:Int) (m:Mode):(store a (.int .i64 x) m).run Tryz.prog w= .ok () (w.setCell a (.int .i64 x)):=by
 rw [run_store Tryz.prog w a _ m rfl,hc]
 simp [hf]
theorem awholes_no (f:Int) (p q:V8) (m n N:Nat) (F G:Nat->Nat) (w:World) (hm:m<=1000000) (hn:n<=1000000)
  (hP:∀ W,Below w.heap.size w W->NumV p.v p.k m F W) (hQ:∀ W,Below w.heap.size w W->NumV q.v q.k n G W) (h4:p.k=4\/q.k=4) :
  Calls Tryz.prog 231 #[.int .i64 f,.int .i64 (N:Int),p.v,q.v] w (NoVec w):=by
 have HP:=Lib.hid (fun W (hb:Below w.heap.size w W)=>wholesW_any p m F W hm (fun W' hb'=>hP W' (bel_both hb hb')))
 have HQ:=Lib.hid (fun W (hb:Below w.heap.size w W)=>wholesW_any q n G W hn (fun W' hb'=>hQ W' (bel_both hb hb')))
 unfold WhOut at HP HQ
 have HS0:=Lib.hid (St2.new w p q)
 have hcase:((p.k != 4)=false)\/((p.k != 4)=true/\(q.k != 4)=false):=by
  by_cases h:p.k=4
  ·left;simp [h]
  ·right;exact ⟨by simpa using h,by simpa using h4.resolve_left h⟩
 generalize (p.k != 4)=tp at *
 generalize (q.k != 4)=tq at *
 clear hP hQ h4
 rcases hcase with rfl | ⟨rfl,rfl⟩
 all_goals
  go_enter Tryz.func231,Tryz.ntmps231
  obtain ⟨h0,h1,h2,h3,h4,h5,h6,h7⟩:=HS0.out.one
  go_wp2_with fail
  refine (HP.out _ HS0.out.bel).mono ?_
  rintro e w1 ⟨a1,l1,c1,rfl,-,hb1⟩
  have HS1:=Lib.hid (HS0.out.step hb1)
  clear hb1 h0 h1 h2 h3 h4 h5 h6 h7
  obtain ⟨h0,h1,h2,h3,h4,h5,h6,h7⟩:=HS1.out.two
  go_wp2_with fail
  refine (HQ.out _ HS1.out.bel).mono ?_
  rintro e w2 ⟨a2,l2,c2,rfl,-,hb2⟩
  have HS2:=Lib.hid (HS1.out.step hb2)
  clear hb2 h0 h1 h2 h3 h4 h5 h6 h7
  obtain ⟨⟨h0,h1,h2,h3,h4,h5,h6,h7⟩,hz⟩:=boxed_of HS2.out.res
  go_wp2
  refine bodyPost_ret (v := .tuple #[vecV 0 vnil 0 vnil vnil vnil vnil vnil,.bool false]) ?_ rfl ⟨rfl,below_set8 HS2.out.bel (by omega) _ _ _ _ _ _ _ _⟩
  exact ret_vec2 (fn:=Tryz.f231) (p:=8) (u:=9) rfl _ _ (w.heap.size+2) (by rfl) (set8_block HS2.out.res _ _ _ _ _ _ _ _)
def AwMid (wr:World) (a b:Int) (x y:Value) (W:World):Prop:=x= .int .i64 a/\y= .int .i64 b/\Below wr.heap.size wr W
theorem awholes_go (pw:Nat->Nat->Nat×Int) (H:Nat->Prop) (f:Int) (p q:V8) (m n N:Nat) (F G:Nat->Nat) (w:World) (hH:∀ b,H b->b < w.heap.size) (hL:lenP m n=some N) (hm:m<=1000000) (hn:n<=1000000)
  (hP:∀ W,Below w.heap.size w W->NumV p.v p.k m F W) (hQ:∀ W,Below w.heap.size w W->NumV q.v q.k n G W) (h4:p.k≠4) (h4':q.k≠4) :
  Calls Tryz.prog 231 #[.int .i64 f,.int .i64 (N:Int),p.v,q.v] w (AwOut H w (fun c=>oneP pw f (F (ixP m c)) (G (ixP n c))) N):=by
 have hNb:N<=1000000:=lenP_le hL hm hn
 have HP:=Lib.hid (fun W (hb:Below w.heap.size w W)=>wholesW_any p m F W hm (fun W' hb'=>hP W' (bel_both hb hb')))
 have HQ:=Lib.hid (fun W (hb:Below w.heap.size w W)=>wholesW_any q n G W hn (fun W' hb'=>hQ W' (bel_both hb hb')))
 unfold WhOut at HP HQ
 have b4:(p.k != 4)=true:=by simpa using h4
 have b4':(q.k != 4)=true:=by simpa using h4'
 rw [b4] at HP
 rw [b4'] at HQ
 have HFZ:Hid (∀ j,j < m->Good (zOf (F j))/\F j=fi (zOf (F j))):=fun j hj=>by
  obtain ⟨z,hg,e⟩:=(hP w (Below.refl _ _)).ints h4 j hj
  have e2:zOf (F j)=z:=by rw [e];exact zOf_of (wholeP_fi hg)
  rw [e2];exact ⟨hg,e⟩
 have HGZ:Hid (∀ j,j < n->Good (zOf (G j))/\G j=fi (zOf (G j))):=fun j hj=>by
  obtain ⟨z,hg,e⟩:=(hQ w (Below.refl _ _)).ints h4' j hj
  have e2:zOf (G j)=z:=by rw [e];exact zOf_of (wholeP_fi hg)
  rw [e2];exact ⟨hg,e⟩
 have HS0:=Lib.hid (St2.new w p q)
 have HH:=Lib.hid hH
 have H4:=Lib.hid h4
 have H4':=Lib.hid h4'
 have HIX:=Lib.hid (fun c (hc:c < N)=>ixP_lt hL hc)
 have HLP:=Lib.hid hL
 have hmk:=run_make_row' (P:=Tryz.prog) 32 2 (.int .i64 0) 8 Tryz.underlying32 info_i64 rfl .i64 .i64 N (by omega) (by omega)
 obtain ⟨R,hR⟩:∃ R:Nat->Nat×Int,R=fun c=>oneP pw f (F (ixP m c)) (G (ixP n c)):=⟨_,rfl⟩
 rw [<- hR]
 have HR:Hid (∀ c,R c=oneP pw f (F (ixP m c)) (G (ixP n c))):=fun c=>by rw [hR]
 obtain ⟨ff,hff⟩:∃ ff:Nat->Value,ff=fun c => .int .i64 (zOf (R c).1):=⟨_,rfl⟩
 have HFF:Hid (∀ c,ff c= .int .i64 (zOf (R c).1)):=fun c=>by rw [hff]
 clear hff hR hP hQ h4 h4' b4 b4' hH hL
 go_enter Tryz.func231,Tryz.ntmps231
 obtain ⟨h0,h1,h2,h3,h4,h5,h6,h7⟩:=HS0.out.one
 go_wp2_with fail
 refine (HP.out _ HS0.out.bel).mono ?_
 rintro e w1 ⟨a1,l1,c1,rfl,hx1,hb1⟩
 have HS1:=Lib.hid (HS0.out.step hb1)
 obtain ⟨rfl,hx⟩:=hx1 H4.out
 have HX1:=Lib.hid hx
 clear hb1 h0 h1 h2 h3 h4 h5 h6 h7 hx hx1 HS0
 obtain ⟨h0,h1,h2,h3,h4,h5,h6,h7⟩:=HS1.out.two
 go_wp2_with fail
 refine (HQ.out _ HS1.out.bel).mono ?_
 rintro e w2 ⟨a2,l2,c2,rfl,hy1,hb2⟩
 have HS2:=Lib.hid (HS1.out.step hb2)
 obtain ⟨rfl,hy⟩:=hy1 H4'.out
 have HX2:=Lib.hid (HX1.out.below hb2)
 have HY2:=Lib.hid hy
 clear hb2 h0 h1 h2 h3 h4 h5 h6 h7 hy hy1 HS1 HX1 HP HQ
 have HF0:=Lib.hid (Fill.made w2 w2.heap.size (Nat.le_refl _) 2 ff (.int .i64 0) N (by unfold maxLen;omega))
 have HB0:=Lib.hid (bel1 w2 (.cells (madeCells #[.int .i64 0] N) 2))
 go_wp2
 go_loopw [40] (fun j wr=>∃ c:Nat,c<=N/\j= .int .i64 c/\Fill wr w2.heap.size w2.heap.size 2 ff (.int .i64 0) N c/\Below w2.heap.size w2 wr/\∀ cc,cc < c->∃ z,R cc=(fi z,0)/\Good z) (fun j _=>N - (intOf j).toNat)
 case atStart=>exact ⟨0,Nat.zero_le _,rfl,HF0.out,HB0.out,fun cc h=>absurd h (Nat.not_lt_zero _)⟩
 case round =>
  clear HF0 HB0
  obtain ⟨c,hc,rfl,hfl,hbl,hall⟩:=hrel
  have HFL:=Lib.hid hfl
  have HBL:=Lib.hid hbl
  have HALL:=Lib.hid hall
  clear hfl hbl hall
  by_cases hlt:c < N
  ·obtain ⟨hi1,hi2⟩:=HIX.out c hlt
   have HI1:=Lib.hid hi1
   have HI2:=Lib.hid hi2
   have m0:0 < l1:=by omega
   have n0:0 < l2:=by omega
   obtain ⟨ax,cx,hs1,hcx⟩:=reads_at HX2.out
   injection hs1 with hs1 _ hs3
   subst hs1;subst hs3
   obtain ⟨bx,ox,rfl,hx0⟩:=hcx 0 m0
   obtain ⟨ay,cy,hs1,hcy⟩:=reads_at HY2.out
   injection hs1 with hs1 _ hs3
   subst hs1;subst hs3
   obtain ⟨by',oy,rfl,hy0⟩:=hcy 0 n0
   rw [Nat.add_zero] at hx0 hy0
   obtain ⟨bx2,ox2,ex,hxi⟩:=hcx (ixP l1 c) hi1
   injection ex with ex
   injection ex with ex1 ex2 _
   subst ex1;subst ex2
   obtain ⟨by2,oy2,ey,hyi⟩:=hcy (ixP l2 c) hi2
   injection ey with ey
   injection ey with ey1 ey2 _
   subst ey1;subst ey2
   have hx0':wr.cell? ⟨bx,ox,none⟩=some (.int .i64 (zOf (F 0))):=by rw [HBL.out.cell (cell_lt hx0)];exact hx0
   have hy0':wr.cell? ⟨by',oy,none⟩=some (.int .i64 (zOf (G 0))):=by rw [HBL.out.cell (cell_lt hy0)];exact hy0
   obtain ⟨A,hA⟩:∃ A,A=zOf (F (ixP l1 c)):=⟨_,rfl⟩
   obtain ⟨B,hB⟩:∃ B,B=zOf (G (ixP l2 c)):=⟨_,rfl⟩
   have HA0:Hid (l1=1->zOf (F 0)=A):=fun h=>by rw [hA];unfold ixP;rw [if_pos h]
   have HB0:Hid (l2=1->zOf (G 0)=B):=fun h=>by rw [hB];unfold ixP;rw [if_pos h]
   have HAC:Hid (l1≠1->ixP l1 c=c):=fun h=>if_neg h
   have HBC2:Hid (l2≠1->ixP l2 c=c):=fun h=>if_neg h
   rw [<- hA] at hxi
   rw [<- hB] at hyi
   have HXI:=Lib.hid (fun W (hb:Below w2.heap.size w2 W)=>(show W.cell? ⟨bx,ox+ixP l1 c,none⟩=some (.int .i64 A) by rw [hb.cell (cell_lt hxi)];exact hxi))
   have HYI:=Lib.hid (fun W (hb:Below w2.heap.size w2 W)=>(show W.cell? ⟨by',oy+ixP l2 c,none⟩=some (.int .i64 B) by rw [hb.cell (cell_lt hyi)];exact hyi))
   obtain ⟨hgx,hfx⟩:=HFZ.out _ hi1
   obtain ⟨hgy,hfy⟩:=HGZ.out _ hi2
   rw [<- hA] at hgx hfx
   rw [<- hB] at hgy hfy
   have HWH:=Lib.hid (fun W=>awhole_all f _ _ hgx hgy W)
   have HRC:=Lib.hid (HR.out c)
   have HW1:=Lib.hid (fun z (h:awZ f A B=some z)=>awZ_one pw hgx hgy h)
   have HW2:=Lib.hid (fun z (h:awZ f A B=some z)=>awZ_good hgx hgy h)
   rw [<- hfx,<- hfy,<- HRC.out] at HW1
   have HFC:=Lib.hid (HFF.out c)
   unfold OptR at HWH
   generalize awZ f A B=rr at *
   clear hx0 hy0 hxi hyi hcx hcy hgx hgy hfx hfy hA hB hi1 hi2
   go_wp2
   go_cut [16,17] from 43 to 76 (fun x y wx=>AwMid wr (zOf (F 0)) (zOf (G 0)) x y wx)
   case first =>
    go_quiet (fail)
    go_wp2
    go_meet
    exact ⟨rfl,rfl,drewN1' (Below.refl _ _) _⟩
   case rest =>
    obtain ⟨rfl,rfl,hbc⟩:=hcut
    have HBC:=Lib.hid (bel_both HBL.out hbc)
    have HFLC:=Lib.hid (HFL.out.below hbc)
    have HSC:=Lib.hid (HS2.out.step HBC.out)
    have HSZ:=Lib.hid HS2.out.sz
    have hsz:w.heap.size+2 < w2.heap.size:=HS2.out.sz
    have hc3:=HFLC.out.cell hlt
    have hz3:=HFLC.out.frozen c
    clear hbc hx0' hy0' HFL HBL
    by_cases e1:l1=1
    ·rw [HA0.out e1]
     have t1:¬ 1 < (l1:Int):=by omega
     have t1':¬ 1 < l1:=by omega
     clear e1
     by_cases e2:l2=1
     ·rw [HB0.out e2]
      have t2:¬ 1 < (l2:Int):=by omega
      have t2':¬ 1 < l2:=by omega
      clear e2
      rcases rr with _ | z
      ·have HWN:Hid (∀ W,Calls Tryz.prog 268 #[.int .i64 f,.int .i64 A,.int .i64 B] W fun e w'=>e= .returned (.tuple #[.int .i64 0,.bool false])/\W=w'):=HWH.out
       have hst:=fun md=>store_int hc3 hz3 0 md
       obtain ⟨⟨h0,h1,h2,h3,h4,h5,h6,h7⟩,hz⟩:=boxed_of HSC.out.res
       have HSP:=Lib.hid (HSC.out.put (g:=w2.heap.size) (j:=c) HSZ.out (.int .i64 0))
       clear HWH
       go_wp2_with fail
       refine (HWN.out _).mono ?_
       rintro e w' ⟨rfl,rfl⟩
       go_wp2
       refine bodyPost_ret (v := .tuple #[vecV 0 vnil 0 vnil vnil vnil vnil vnil,.bool false]) ?_ rfl (.inr ⟨rfl,below_set8 HSP.out.bel (Nat.le_add_right _ 2) _ _ _ _ _ _ _ _⟩)
       exact ret_vec2 (fn:=Tryz.f231) (p:=8) (u:=9) rfl _ _ (w.heap.size+2) (by rfl) (set8_block HSP.out.res _ _ _ _ _ _ _ _)
      ·have HWN:Hid (∀ W,Calls Tryz.prog 268 #[.int .i64 f,.int .i64 A,.int .i64 B] W fun e w'=>e= .returned (.tuple #[.int .i64 z,.bool true])/\W=w'):=HWH.out
       have hst:=fun md=>store_int hc3 hz3 z md
       have HRZ:Hid (R c=(fi z,0)):=HW1.out z rfl
       have HGD:Hid (Good z):=HW2.out z rfl
       have HPUT:Hid (Fill (wc.setCell ⟨w2.heap.size,c,none⟩ (.int .i64 z)) w2.heap.size w2.heap.size 2 ff (.int .i64 0) N (c+1)):=by
        have h:=HFLC.out.put hlt
        rw [HFC.out,HRZ.out,show zOf (fi z,(0:Int)).1=z from zOf_of (wholeP_fi HGD.out)] at h
        exact h
       have HBP:=Lib.hid (show Below w2.heap.size w2 (wc.setCell ⟨w2.heap.size,c,none⟩ (.int .i64 z)) from HBC.out.setCell (Nat.le_refl _) _)
       have HALL2:Hid (∀ cc,cc < c+1->∃ z,R cc=(fi z,0)/\Good z):=fun cc hcc=>by
        by_cases e:cc=c
        ·rw [e];exact ⟨z,HRZ.out,HGD.out⟩
        ·exact HALL.out cc (by omega)
       clear HWH
       go_wp2_with fail
       refine (HWN.out _).mono ?_
       rintro e w' ⟨rfl,rfl⟩
       go_wp2
       go_roundw
       case rel=>exact ⟨c+1,by omega,by go_num,HPUT.out,HBP.out,HALL2.out⟩
       case measure=>simp [intOf];omega
     ·have hyc:wc.cell? ⟨by',oy+c,none⟩=some (.int .i64 B):=by
       have h:=HYI.out wc HBC.out
       rw [HBC2.out e2] at h
       exact h
      have t2:1 < (l2:Int):=by omega
      have t2':1 < l2:=by omega
      have t2b:c < l2:=by have h1:=HBC2.out e2;have h2:=HI2.out;omega
      clear e2
      rcases rr with _ | z
      ·have HWN:Hid (∀ W,Calls Tryz.prog 268 #[.int .i64 f,.int .i64 A,.int .i64 B] W fun e w'=>e= .returned (.tuple #[.int .i64 0,.bool false])/\W=w'):=HWH.out
       have hst:=fun md=>store_int hc3 hz3 0 md
       obtain ⟨⟨h0,h1,h2,h3,h4,h5,h6,h7⟩,hz⟩:=boxed_of HSC.out.res
       have HSP:=Lib.hid (HSC.out.put (g:=w2.heap.size) (j:=c) HSZ.out (.int .i64 0))
       clear HWH
       go_wp2_with fail
       refine (HWN.out _).mono ?_
       rintro e w' ⟨rfl,rfl⟩
       go_wp2
       refine bodyPost_ret (v := .tuple #[vecV 0 vnil 0 vnil vnil vnil vnil vnil,.bool false]) ?_ rfl (.inr ⟨rfl,below_set8 HSP.out.bel (Nat.le_add_right _ 2) _ _ _ _ _ _ _ _⟩)
       exact ret_vec2 (fn:=Tryz.f231) (p:=8) (u:=9) rfl _ _ (w.heap.size+2) (by rfl) (set8_block HSP.out.res _ _ _ _ _ _ _ _)
      ·have HWN:Hid (∀ W,Calls Tryz.prog 268 #[.int .i64 f,.int .i64 A,.int .i64 B] W fun e w'=>e= .returned (.tuple #[.int .i64 z,.bool true])/\W=w'):=HWH.out
       have hst:=fun md=>store_int hc3 hz3 z md
       have HRZ:Hid (R c=(fi z,0)):=HW1.out z rfl
       have HGD:Hid (Good z):=HW2.out z rfl
       have HPUT:Hid (Fill (wc.setCell ⟨w2.heap.size,c,none⟩ (.int .i64 z)) w2.heap.size w2.heap.size 2 ff (.int .i64 0) N (c+1)):=by
        have h:=HFLC.out.put hlt
        rw [HFC.out,HRZ.out,show zOf (fi z,(0:Int)).1=z from zOf_of (wholeP_fi HGD.out)] at h
        exact h
       have HBP:=Lib.hid (show Below w2.heap.size w2 (wc.setCell ⟨w2.heap.size,c,none⟩ (.int .i64 z)) from HBC.out.setCell (Nat.le_refl _) _)
       have HALL2:Hid (∀ cc,cc < c+1->∃ z,R cc=(fi z,0)/\Good z):=fun cc hcc=>by
        by_cases e:cc=c
        ·rw [e];exact ⟨z,HRZ.out,HGD.out⟩
        ·exact HALL.out cc (by omega)
       clear HWH
       go_wp2_with fail
       refine (HWN.out _).mono ?_
       rintro e w' ⟨rfl,rfl⟩
       go_wp2
       go_roundw
       case rel=>exact ⟨c+1,by omega,by go_num,HPUT.out,HBP.out,HALL2.out⟩
       case measure=>simp [intOf];omega
    ·have hxc:wc.cell? ⟨bx,ox+c,none⟩=some (.int .i64 A):=by
      have h:=HXI.out wc HBC.out
      rw [HAC.out e1] at h
      exact h
     have t1:1 < (l1:Int):=by omega
     have t1':1 < l1:=by omega
     have t1b:c < l1:=by have h1:=HAC.out e1;have h2:=HI1.out;omega
     clear e1
     by_cases e2:l2=1
     ·rw [HB0.out e2]
      have t2:¬ 1 < (l2:Int):=by omega
      have t2':¬ 1 < l2:=by omega
      clear e2
      rcases rr with _ | z
      ·have HWN:Hid (∀ W,Calls Tryz.prog 268 #[.int .i64 f,.int .i64 A,.int .i64 B] W fun e w'=>e= .returned (.tuple #[.int .i64 0,.bool false])/\W=w'):=HWH.out
       have hst:=fun md=>store_int hc3 hz3 0 md
       obtain ⟨⟨h0,h1,h2,h3,h4,h5,h6,h7⟩,hz⟩:=boxed_of HSC.out.res
       have HSP:=Lib.hid (HSC.out.put (g:=w2.heap.size) (j:=c) HSZ.out (.int .i64 0))
       clear HWH
       go_wp2_with fail
       refine (HWN.out _).mono ?_
       rintro e w' ⟨rfl,rfl⟩
       go_wp2
       refine bodyPost_ret (v := .tuple #[vecV 0 vnil 0 vnil vnil vnil vnil vnil,.bool false]) ?_ rfl (.inr ⟨rfl,below_set8 HSP.out.bel (Nat.le_add_right _ 2) _ _ _ _ _ _ _ _⟩)
       exact ret_vec2 (fn:=Tryz.f231) (p:=8) (u:=9) rfl _ _ (w.heap.size+2) (by rfl) (set8_block HSP.out.res _ _ _ _ _ _ _ _)
      ·have HWN:Hid (∀ W,Calls Tryz.prog 268 #[.int .i64 f,.int .i64 A,.int .i64 B] W fun e w'=>e= .returned (.tuple #[.int .i64 z,.bool true])/\W=w'):=HWH.out
       have hst:=fun md=>store_int hc3 hz3 z md
       have HRZ:Hid (R c=(fi z,0)):=HW1.out z rfl
       have HGD:Hid (Good z):=HW2.out z rfl
       have HPUT:Hid (Fill (wc.setCell ⟨w2.heap.size,c,none⟩ (.int .i64 z)) w2.heap.size w2.heap.size 2 ff (.int .i64 0) N (c+1)):=by
        have h:=HFLC.out.put hlt
        rw [HFC.out,HRZ.out,show zOf (fi z,(0:Int)).1=z from zOf_of (wholeP_fi HGD.out)] at h
        exact h
       have HBP:=Lib.hid (show Below w2.heap.size w2 (wc.setCell ⟨w2.heap.size,c,none⟩ (.int .i64 z)) from HBC.out.setCell (Nat.le_refl _) _)
       have HALL2:Hid (∀ cc,cc < c+1->∃ z,R cc=(fi z,0)/\Good z):=fun cc hcc=>by
        by_cases e:cc=c
        ·rw [e];exact ⟨z,HRZ.out,HGD.out⟩
        ·exact HALL.out cc (by omega)
       clear HWH
       go_wp2_with fail
       refine (HWN.out _).mono ?_
       rintro e w' ⟨rfl,rfl⟩
       go_wp2
       go_roundw
       case rel=>exact ⟨c+1,by omega,by go_num,HPUT.out,HBP.out,HALL2.out⟩
       case measure=>simp [intOf];omega
     ·have hyc:wc.cell? ⟨by',oy+c,none⟩=some (.int .i64 B):=by
       have h:=HYI.out wc HBC.out
       rw [HBC2.out e2] at h
       exact h
      have t2:1 < (l2:Int):=by omega
      have t2':1 < l2:=by omega
      have t2b:c < l2:=by have h1:=HBC2.out e2;have h2:=HI2.out;omega
      clear e2
      rcases rr with _ | z
      ·have HWN:Hid (∀ W,Calls Tryz.prog 268 #[.int .i64 f,.int .i64 A,.int .i64 B] W fun e w'=>e= .returned (.tuple #[.int .i64 0,.bool false])/\W=w'):=HWH.out
       have hst:=fun md=>store_int hc3 hz3 0 md
       obtain ⟨⟨h0,h1,h2,h3,h4,h5,h6,h7⟩,hz⟩:=boxed_of HSC.out.res
       have HSP:=Lib.hid (HSC.out.put (g:=w2.heap.size) (j:=c) HSZ.out (.int .i64 0))
       clear HWH
       go_wp2_with fail
       refine (HWN.out _).mono ?_
       rintro e w' ⟨rfl,rfl⟩
       go_wp2
       refine bodyPost_ret (v := .tuple #[vecV 0 vnil 0 vnil vnil vnil vnil vnil,.bool false]) ?_ rfl (.inr ⟨rfl,below_set8 HSP.out.bel (Nat.le_add_right _ 2) _ _ _ _ _ _ _ _⟩)
       exact ret_vec2 (fn:=Tryz.f231) (p:=8) (u:=9) rfl _ _ (w.heap.size+2) (by rfl) (set8_block HSP.out.res _ _ _ _ _ _ _ _)
      ·have HWN:Hid (∀ W,Calls Tryz.prog 268 #[.int .i64 f,.int .i64 A,.int .i64 B] W fun e w'=>e= .returned (.tuple #[.int .i64 z,.bool true])/\W=w'):=HWH.out
       have hst:=fun md=>store_int hc3 hz3 z md
       have HRZ:Hid (R c=(fi z,0)):=HW1.out z rfl
       have HGD:Hid (Good z):=HW2.out z rfl
       have HPUT:Hid (Fill (wc.setCell ⟨w2.heap.size,c,none⟩ (.int .i64 z)) w2.heap.size w2.heap.size 2 ff (.int .i64 0) N (c+1)):=by
        have h:=HFLC.out.put hlt
        rw [HFC.out,HRZ.out,show zOf (fi z,(0:Int)).1=z from zOf_of (wholeP_fi HGD.out)] at h
        exact h
       have HBP:=Lib.hid (show Below w2.heap.size w2 (wc.setCell ⟨w2.heap.size,c,none⟩ (.int .i64 z)) from HBC.out.setCell (Nat.le_refl _) _)
       have HALL2:Hid (∀ cc,cc < c+1->∃ z,R cc=(fi z,0)/\Good z):=fun cc hcc=>by
        by_cases e:cc=c
        ·rw [e];exact ⟨z,HRZ.out,HGD.out⟩
        ·exact HALL.out cc (by omega)
       clear HWH
       go_wp2_with fail
       refine (HWN.out _).mono ?_
       rintro e w' ⟨rfl,rfl⟩
       go_wp2
       go_roundw
       case rel=>exact ⟨c+1,by omega,by go_num,HPUT.out,HBP.out,HALL2.out⟩
       case measure=>simp [intOf];omega
  ·obtain rfl:c=N:=by omega
   have HZ:Hid (∀ j,j < c->∃ z,(R j).1=fi z/\zOf (R j).1=z/\Good z):=fun j hj=>by
    obtain ⟨z,hz,hg⟩:=HALL.out j hj
    rw [hz]
    exact ⟨z,rfl,zOf_of (wholeP_fi hg),hg⟩
   have HGO:Hid (∀ j,j < c->Good (zOf (R j).1)):=fun j hj=>by
    obtain ⟨z,_,h2,hg⟩:=HZ.out j hj
    rw [h2];exact hg
   have HFO:Hid (∀ j,j < c->(R j).1=fi (zOf (R j).1)):=fun j hj=>by
    obtain ⟨z,h1,h2,_⟩:=HZ.out j hj
    rw [h2];exact h1
   have HOK:Hid (∀ j,j < c->(R j).2=0):=fun j hj=>by
    obtain ⟨z,hz,_⟩:=HALL.out j hj
    rw [hz]
   have HRD:Hid (Reads1 wr (.slice (some ⟨w2.heap.size,0,none⟩) c c) (((List.range c).map fun j=>zOf (R j).1).map (.int .i64))):=by
    have h:=HFL.out.own.reads
    have e:(List.range c).map ff=((List.range c).map fun j=>zOf (R j).1).map (.int .i64):=by
     rw [List.map_map]
     exact List.map_congr_left fun j _=>HFF.out j
    rw [e] at h
    exact h
   have HI:=Lib.hid (ints_any HRD.out (by simpa using hNb) (fun y hy=>by
    obtain ⟨j,hj,rfl⟩:=List.mem_map.1 hy
    exact HGO.out j (List.mem_range.1 hj)))
   have HST:=Lib.hid (HS2.out.step HBL.out)
   clear HFZ HGZ HFL
   go_wp2_with fail
   refine HI.out.mono ?_
   rintro e w3 ⟨u,rfl,hou,hb3⟩
   rw [List.map_map] at hou
   have HS3:=Lib.hid ((HST.out.step hb3))
   have HU:=Lib.hid (hou.lower (show w.heap.size+3<=wr.heap.size from HST.out.sz))
   obtain ⟨ua,un,uc,hu⟩:∃ a n c,u= .slice a n c:=by obtain ⟨a,c,e⟩:=hou.reads.len;exact ⟨a,_,c,e⟩
   subst hu
   clear hb3 hou HST
   have HS4:=Lib.hid (HS3.out.al (.cells #[.int .i64 3,vnil,.int .i64 0,vnil,.slice ua un uc,vnil,vnil,vnil] 37))
   have HU4:=Lib.hid (HU.out.alloc (.cells #[.int .i64 3,vnil,.int .i64 0,vnil,.slice ua un uc,vnil,vnil,vnil] 37))
   have HKV:Hid (Keeps (fun j=>H j\/j=w.heap.size+2) (w3.alloc (.cells #[.int .i64 3,vnil,.int .i64 0,vnil,.slice ua un uc,vnil,vnil,vnil] 37)) (NumV (vecW 3 (none,0,0) 0 (none,0,0) (ua,un,uc) (none,0,0) (none,0,0) (none,0,0)) 3 c (fun j=>(R j).1))) :=
    ((HU.out.keepsH (fun j e=>by rcases e with e | e;have:=HH.out j e;omega;omega)).imp fun W' h2=>(numV_ints ⟨⟨_,rfl,h2⟩,HGO.out⟩).congr HFO.out).step (bel1 w3 _)
   have HSQ:=Lib.hid (squeeze_num (fun j=>H j\/j=w.heap.size+2) 3 (none,0,0) 0 (none,0,0) (ua,un,uc) (none,0,0) (none,0,0) (none,0,0) c (fun j=>(R j).1) _ (fun j e=>by
    have h1:=HS4.out.sz
    rcases e with e | e
    ·have:=HH.out j e;omega
    ·omega) hNb HKV.out)
   go_wp2_with fail
   refine HSQ.out.mono ?_
   rintro e w5 ⟨k5,b5,bn5,s5,i5,f5,c5,x5,rfl,hk5,hb5⟩
   have HS5:=Lib.hid (HS4.out.step hb5)
   have HKE:=Lib.hid hk5
   clear hb5 hk5
   have z5':w.heap.size+2 < w5.heap.size:=HS5.out.sz
   obtain ⟨⟨h0,h1,h2,h3,h4,h5,h6,h7⟩,hz⟩:=boxed_of HS5.out.res
   go_wp2
   refine bodyPost_ret (v := .tuple #[vecW k5 b5 bn5 s5 i5 f5 c5 x5,.bool true]) ?_ rfl (.inl ⟨HOK.out,k5,b5,bn5,s5,i5,f5,c5,x5,rfl,(HKE.out.set8 (.inr rfl) _ _ _ _ _ _ _ _).sub (fun _ _ e => .inl e),below_set8 HS5.out.bel (Nat.le_add_right _ 2) _ _ _ _ _ _ _ _⟩)
   exact ret_vec2 (fn:=Tryz.f231) (p:=8) (u:=9) rfl _ _ (w.heap.size+2) (by rfl) (set8_block HS5.out.res _ _ _ _ _ _ _ _)
end Go.Proofs.YtiahegjdkejjpaaGreatDoor
