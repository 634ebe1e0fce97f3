/- The walks of rebusref24.Two. The walk of rebusref24.Two at boxes, over contracts. rebusref24.Two of any two good arrays tells twoE. The walks of .. Conditions: as each theorem says. -/
import Derived.Test.YtdelgpelkfndeaaGreatDoorMgA
import Derived.Test.YtdelgpelkfndeaaGreatDoorMg21
import Derived.Test.YtdelgpelkfndeaaGreatDoorMg18
import Derived.Test.YtdelgpelkfndeaaGreatDoorMg15
set_option maxRecDepth 100000
set_option maxHeartbeats 4000000
namespace Go.Proofs.YtdelgpelkfndeaaGreatDoor
open Go Go.RowKit Go.Proofs Fl
theorem Qaw {fn:Func}{p u:Tmp} (h:fn.results=#[.cell p 25,.tmp u]) (tmps:Array Value) (w:World) (G:Nat){e:TypeId}{a0 a1 a2:Value}
  (hp:tmps.getD p undef= .pointer (some ⟨G,0,none⟩)) (hg:w.heap[G]?=some (.cells #[a0,a1,a2] e)) :
  (results fn tmps).run Tryz.prog w= .ok (.tuple #[.agg #[a0,a1,a2],tmps.getD u undef]) w:=by
 rw [results_cell_tmp h,hp]
 have:=run_loadVar_row (P:=Tryz.prog) w G e 25 _ (0,0) _ hg Tryz.underlying25 rfl Qd6
 simp [asAddr,Result.andThen,this]
def AtR (k:Int) (n:Nat) (c:Int) (w:World) (e:Ending) (w':World):Prop:=∃ y:Sl,e= .returned (itV k n c y)/\Below w.heap.size w w'
theorem Qqz {H:Nat->Prop}{w W w':World}{k:Int}{n:Nat}{c:Int}{e:Ending} (g:ItR H w W (.mk k n c []) e w'):AtR k n c W e w':=by
 obtain ⟨k',n',c',y,rfl,hiv,hb⟩:=g
 obtain ⟨rfl,rfl,rfl,_,_⟩:=hiv.open_
 exact ⟨y,rfl,hb⟩
theorem Qig (H:Nat->Prop) (f:Int) (h1 x1 h2 x2:Sl) (f1 f2:Int) (r:Int×PA) (w:World) (hk:Qaz f=false) (hr:r.1=1) :
  Calls Tryz.prog 38 #[.int .i64 f,plV h1 x1 f1,plV h2 x2 f2] w (RtU H w r):=by
 have HKN:=hD (fun W=>Qby f W)
 rw [hk] at HKN
 have HS0:=hD (P3.new w h1 x1 f1 h2 x2 f2)
 have HFL:=hD hr
 clear hk hr
 go_enter Tryz.func38,Tryz.ntmps38
 go_wp2_with fail
 refine (HKN.out _).mono ?_
 rintro e w1 ⟨rfl,hw1⟩
 rw [hw1] at HS0
 clear hw1
 obtain ⟨⟨y0,y1,y2⟩,yz⟩:=block3 HS0.out.res
 go_wp2
 refine bodyPost_ret (v := .tuple #[plV nilS nilS 0,.int .i64 1]) ?_ rfl (Qb9 HFL.out (by decide) (Qaf HS0.out.p2.bel (Nat.le_add_right _ 2) _ _ _))
 exact Qaw (fn:=Tryz.f38) (p:=6) (u:=7) rfl _ _ (w.heap.size+2) (by rfl) (Qae HS0.out.res _ _ _)
theorem Qln {H H1 H2:Nat->Prop} (f:Int){a b:PA}{h1 x1 h2 x2:Sl}{f1 f2:Int} (r:Int×PA) (w:World) (hk:Qaz f=true) (ga:PV H1 w (rawP a) h1 x1 f1) (gb:PV H2 w (rawP b) h2 x2 f2) (sa:a.shape.length<=1048576) (sb:b.shape.length<=1048576) (hr:r.1=(Qaq a b).1) (hfr:(Qaq a b).1≠0) :
  Calls Tryz.prog 38 #[.int .i64 f,plV h1 x1 f1,plV h2 x2 f2] w (RtU H w r):=by
 have HKN:=hD (fun W=>Qby f W)
 rw [hk] at HKN
 have HS0:=hD (P3.new w h1 x1 f1 h2 x2 f2)
 have HFR:=hD (fun W (hs:P3 w W h1 x1 f1 h2 x2 f2)=>Qc4 (a:=a) (b:=b) f1 f2 W (Qet (Keeps.lat (Qap ga).1 (Lat.below hs.p2.bel)).now) (Qet (Keeps.lat (Qap gb).1 (Lat.below hs.p2.bel)).now) (Qap ga).2.2 (Qap gb).2.2 sa sb)
 unfold FrR at HFR
 have HFL:=hD hr
 have HNE:=hD hfr
 have ne:((Qaq a b).1 != 0)=true:=by simpa using hfr
 generalize (Qaq a b).1=E at *
 clear ga gb hk sa sb hr hfr
 go_enter Tryz.func38,Tryz.ntmps38
 go_wp2_with fail
 refine (HKN.out _).mono ?_
 rintro e w1 ⟨rfl,hw1⟩
 rw [hw1] at HS0
 clear hw1
 obtain ⟨p0,p1,p2⟩:=Qax HS0.out.p2.one
 obtain ⟨q0,q1,q2⟩:=Qax HS0.out.p2.two
 go_wp2_with fail
 refine (HFR.out _ HS0.out).mono ?_
 clear p0 p1 p2 q0 q1 q2
 rintro e w2 ⟨⟨h0,_⟩ | ⟨_,rfl⟩,hb2⟩
 ·exact absurd h0 HNE.out
 ·have HS2:=hD (HS0.out.step hb2)
  clear hb2 HS0 HFR
  obtain ⟨⟨y0,y1,y2⟩,yz⟩:=block3 HS2.out.res
  go_wp2
  refine bodyPost_ret (v := .tuple #[plV nilS nilS 0,.int .i64 E]) ?_ rfl (Qb9 HFL.out HNE.out (Qaf HS2.out.p2.bel (Nat.le_add_right _ 2) _ _ _))
  exact Qaw (fn:=Tryz.f38) (p:=6) (u:=7) rfl _ _ (w.heap.size+2) (by rfl) (Qae HS2.out.res _ _ _)
theorem Qg4 {H H1 H2:Nat->Prop} (f:Int){a b:PA}{h1 x1 h2 x2:Sl}{f1 f2:Int} (r:Int×PA) (w:World) (n:Nat) (hk:Qaz f=true) (ga:PV H1 w (rawP a) h1 x1 f1) (gb:PV H2 w (rawP b) h2 x2 f2) (sa:a.shape.length<=1048576) (sb:b.shape.length<=1048576) (hfr:(Qaq a b).1=0) (hL:lenP a.len b.len=some n) (hff:(f1=0/\f2=1)\/(f1=1/\f2=0)\/(f1=1/\f2=1)) (h13:f≠13) (h16:f≠16) (hr:r.1=24) :
  Calls Tryz.prog 38 #[.int .i64 f,plV h1 x1 f1,plV h2 x2 f2] w (RtU H w r):=by
 have HKN:=hD (fun W=>Qby f W)
 rw [hk] at HKN
 have HS0:=hD (P3.new w h1 x1 f1 h2 x2 f2)
 have HFR:=hD (fun W (hs:P3 w W h1 x1 f1 h2 x2 f2)=>Qc4 (a:=a) (b:=b) f1 f2 W (Qet (Keeps.lat (Qap ga).1 (Lat.below hs.p2.bel)).now) (Qet (Keeps.lat (Qap gb).1 (Lat.below hs.p2.bel)).now) (Qap ga).2.2 (Qap gb).2.2 sa sb)
 unfold FrR at HFR
 have HLN:Hid (∀ W,Calls Tryz.prog 73 #[.int .i64 (x1.2.1:Nat),.int .i64 (x2.2.1:Nat)] W fun e w'=>e= .returned (.int .i64 (n:Nat))/\W=w'):=fun W=>by
  have h:=QeL a.len b.len n hL W
  rwa [<- (Qap ga).2.2,<- (Qap gb).2.2] at h
 have HFL:=hD hr
 have e13:(f != 13)=true:=by simpa using h13
 have e16:(f != 16)=true:=by simpa using h16
 clear ga gb hk sa sb hr hL h13 h16
 go_enter Tryz.func38,Tryz.ntmps38
 go_wp2_with fail
 refine (HKN.out _).mono ?_
 rintro e w1 ⟨rfl,hw1⟩
 rw [hw1] at HS0
 clear hw1
 obtain ⟨p0,p1,p2⟩:=Qax HS0.out.p2.one
 obtain ⟨q0,q1,q2⟩:=Qax HS0.out.p2.two
 go_wp2_with fail
 refine (HFR.out _ HS0.out).mono ?_
 clear p0 p1 p2 q0 q1 q2
 rintro e w2 ⟨⟨_,s,rfl,hs⟩ | ⟨hne,_⟩,hb2⟩
 case inr=>exact absurd hfr hne
 have HS2:=hD (HS0.out.step hb2)
 have HSS:=hD hs
 clear hb2 HS0 HFR hs hfr
 obtain ⟨p0,p1,p2⟩:=Qax HS2.out.p2.one
 obtain ⟨q0,q1,q2⟩:=Qax HS2.out.p2.two
 go_wp2_with fail
 refine (HLN.out _).mono ?_
 rintro e w3 ⟨rfl,rfl⟩
 clear HLN HSS
 rcases hff with ⟨rfl,rfl⟩ | ⟨rfl,rfl⟩ | ⟨rfl,rfl⟩
 all_goals
  obtain ⟨⟨y0,y1,y2⟩,yz⟩:=block3 HS2.out.res
  go_wp2
  refine bodyPost_ret (v := .tuple #[plV nilS nilS 0,.int .i64 24]) ?_ rfl (Qb9 HFL.out (by decide) (Qaf HS2.out.p2.bel (Nat.le_add_right _ 2) _ _ _))
  exact Qaw (fn:=Tryz.f38) (p:=6) (u:=7) rfl _ _ (w.heap.size+2) (by rfl) (Qae HS2.out.res _ _ _)
theorem QdV {H H1 H2:Nat->Prop} (f:Int){a b:PA}{h1 x1 h2 x2:Sl}{f1 f2:Int} (r:Int×PA) (w:World) (n:Nat) (hnb:n<=1000000) (R:Nat->Nat×Int) (sh:List Nat) (hH:∀ b,H b->b < w.heap.size) (hk:Qaz f=true) (ga:PV H1 w (rawP a) h1 x1 f1) (gb:PV H2 w (rawP b) h2 x2 f2) (sa:a.shape.length<=1048576) (sb:b.shape.length<=1048576) (hfr:(Qaq a b).1=0) (hL:lenP a.len b.len=some n) (hsa:RdH H w (sv h1) (Qbv a.shape)) (hsb:RdH H w (sv h2) (Qbv b.shape)) (hsh:(Qaq a b).2=sh) (hff:(f1=0/\f2=0)\/(((f1=0/\f2=1)\/(f1=1/\f2=0)\/(f1=1/\f2=1))/\(f=13\/f=16))) (ka kb:Int) (na nb:Nat->Nat) (ca cb:Nat->Int)
  (hAA:∀ i,i < n->∀ W,Below w.heap.size w W->Calls Tryz.prog 75 #[plV h1 x1 f1,.int .i64 (i:Int)] W (AtR ka (na i) (ca i) W)) (hAB:∀ i,i < n->∀ W,Below w.heap.size w W->Calls Tryz.prog 75 #[plV h2 x2 f2,.int .i64 (i:Int)] W (AtR kb (nb i) (cb i) W))
  (hPR:∀ i,i < n->∀ (W:World) (y1 y2:Sl),Calls Tryz.prog 74 #[.int .i64 f,itV ka (na i) (ca i) y1,itV kb (nb i) (cb i) y2] W fun e w'=>e= .returned (.tuple #[itV 0 (R i).1 0 nilS,.int .i64 (R i).2])/\Below W.heap.size W w')
  (hok:(∀ j,j < n->(R j).2=0)->r.1=0/\rawP r.2= .mk (sh.map Int.ofNat) ((List.range n).map fun j=>RI.mk 0 (R j).1 0 []) 0) (hbad:∀ c,c < n->(R c).2≠0->r.1=(R c).2) :
  Calls Tryz.prog 38 #[.int .i64 f,plV h1 x1 f1,plV h2 x2 f2] w (RtU H w r):=by
 have HKN:=hD (fun W=>Qby f W)
 rw [hk] at HKN
 have HS0:=hD (P3.new w h1 x1 f1 h2 x2 f2)
 have HFR:=hD (fun W (hs:P3 w W h1 x1 f1 h2 x2 f2)=>Qc4 (a:=a) (b:=b) f1 f2 W (Qet (Keeps.lat (Qap ga).1 (Lat.below hs.p2.bel)).now) (Qet (Keeps.lat (Qap gb).1 (Lat.below hs.p2.bel)).now) (Qap ga).2.2 (Qap gb).2.2 sa sb)
 unfold FrR at HFR
 have HLN:Hid (∀ W,Calls Tryz.prog 73 #[.int .i64 (x1.2.1:Nat),.int .i64 (x2.2.1:Nat)] W fun e w'=>e= .returned (.int .i64 (n:Nat))/\W=w'):=fun W=>by
  have h:=QeL a.len b.len n hL W
  rwa [<- (Qap ga).2.2,<- (Qap gb).2.2] at h
 have HAA:=hD hAA
 have HAB:=hD hAB
 have HPR:=hD hPR
 clear hAA hAB hPR
 have HOK:=hD hok
 have HBAD:=hD hbad
 have HSA:=hD hsa
 have HSB:=hD hsb
 have HH:=hD hH
 have HSH:=hD hsh
 clear ga gb hk sa sb hL hok hbad hsa hsb hH hsh
 go_enter Tryz.func38,Tryz.ntmps38
 go_wp2_with fail
 refine (HKN.out _).mono ?_
 rintro e w1 ⟨rfl,hw1⟩
 rw [hw1] at HS0
 clear hw1
 obtain ⟨p0,p1,p2⟩:=Qax HS0.out.p2.one
 obtain ⟨q0,q1,q2⟩:=Qax HS0.out.p2.two
 go_wp2_with fail
 refine (HFR.out _ HS0.out).mono ?_
 clear p0 p1 p2 q0 q1 q2
 rintro e w2 ⟨⟨_,s,rfl,hs⟩ | ⟨hne,_⟩,hb2⟩
 case inr=>exact absurd hfr hne
 have HS2:=hD (HS0.out.step hb2)
 have HSS:=hD hs
 clear hb2 HS0 HFR hs hfr
 obtain ⟨p0,p1,p2⟩:=Qax HS2.out.p2.one
 obtain ⟨q0,q1,q2⟩:=Qax HS2.out.p2.two
 go_wp2_with fail
 refine (HLN.out _).mono ?_
 rintro e w3 ⟨rfl,rfl⟩
 have HRD:Hid (RdH H w (sv s) (Qbv sh)):=by
  rcases HSS.out with ⟨rfl,h⟩ | ⟨rfl,h⟩
  ·unfold Hid;rw [<- HSH.out,h];exact HSA.out
  ·unfold Hid;rw [<- HSH.out,h];exact HSB.out
 clear HSS HSA HSB HSH HLN
 go_upto_region 7 with fail
 go_cut [47] from 19 (fun v wx=>v= .bool true/\wx=w2)
 case first =>
  rcases hff with ⟨rfl,rfl⟩ | ⟨⟨rfl,rfl⟩ | ⟨rfl,rfl⟩ | ⟨rfl,rfl⟩,_⟩
  all_goals
   go_wp2
   go_meet
   exact ⟨rfl,rfl⟩
 obtain ⟨rfl,hwc⟩:=hcut
 have hwd:=hwc.symm
 subst hwd
 go_upto_region 8 with fail
 go_cut [61] from 19 (fun v wx=>v= .bool false/\wx=w2)
 case first =>
  rcases hff with ⟨rfl,rfl⟩ | ⟨⟨rfl,rfl⟩ | ⟨rfl,rfl⟩ | ⟨rfl,rfl⟩,rfl | rfl⟩
  all_goals
   go_wp2
   go_meet
   exact ⟨rfl,rfl⟩
 obtain ⟨rfl,hwc⟩:=hcut
 have hwd:=hwc.symm
 subst hwd
 clear p0 p1 p2 q0 q1 q2
 obtain ⟨wa,hwa⟩:∃ wa,wa=w2:=⟨_,rfl⟩
 subst hwa
 go_wp2_with fail
 obtain ⟨U,hU⟩:∃ U,U=wa.alloc (plO s nilS 0):=⟨_,rfl⟩
 have HU0:=hD hU
 obtain ⟨G,hG⟩:∃ G,G=wa.heap.size:=⟨_,rfl⟩
 have hbU:Below wa.heap.size wa U:=by rw [hU];exact bel1 _ _
 have hgb:=HS2.out.sz
 have hsU:U.heap.size=wa.heap.size+1:=by rw [hU];simp
 have HI0:Hid (RtI (fun b=>H b\/b=w.heap.size+2\/b=G) w U G h1 x1 f1 h2 x2 f2 s 0 ((List.range 0).map fun j=>RI.mk 0 (R j).1 0 []) (.slice none 0 0) U) :=
  ⟨IOwn.nil _ _ _,by rw [hU,hG];exact heap_alloc_new wa _,HS2.out.step hbU,Lat.below (Below.refl _ _),by omega,by omega⟩
 have HKU:Hid (∀ b,(fun b=>H b\/b=w.heap.size+2\/b=G) b->b < U.heap.size):=fun b e=>by
  rcases e with e | e | e
  ·have:=HH.out b e;omega
  ·omega
  ·omega
 have HRU:Hid (RdH (fun b=>H b\/b=w.heap.size+2\/b=G) U (sv s) (Qbv sh)):=Keeps.lat (Keeps.sub HRD.out fun b hb e=>by
  rcases e with e | e | e
  ·exact e
  ·omega
  ·omega) (Lat.below (Qaa HS2.out.p2.bel hbU))
 have hgU:w.heap.size+3<=U.heap.size:=by omega
 clear hU hbU hsU HS2 HRD hgb
 rw [<- HU0.out,<- hG]
 clear hG
 go_loopw [12] (fun iv wr=>∃ (c:Nat) (v:Value),c<=n/\iv= .int .i64 (c:Int)/\(∀ j,j < c->(R j).2=0)/\RtI (fun b=>H b\/b=w.heap.size+2\/b=G) w U G h1 x1 f1 h2 x2 f2 s 0 ((List.range c).map fun j=>RI.mk 0 (R j).1 0 []) v wr) (fun iv _=>n - (intOf iv).toNat)
 case atStart=>exact ⟨0,_,Nat.zero_le _,rfl,fun j hj=>absurd hj (Nat.not_lt_zero _),HI0.out⟩
 case round =>
  obtain ⟨c,v,hc,rfl,hall,hti⟩:=hrel
  have HTI:=hD hti
  have HALL:=hD hall
  clear hti hall HI0 HU0
  obtain ⟨vA,vn,vc,hvn⟩:∃ A n c,v= .slice A n c:=by obtain ⟨a,c,e⟩:=HTI.out.own.len;exact ⟨a,_,c,e⟩
  subst hvn
  by_cases hlt:c < n
  ·have hlt2:(c:Int) < (n:Int):=by omega
   have HST:Hid (RtS w wr h1 x1 f1 h2 x2 f2 wr):=⟨HTI.out.p3,Below.refl _ _,by have:=HTI.out.sz;omega⟩
   have HA:=hD (fun W (hs:RtS w wr h1 x1 f1 h2 x2 f2 W)=>HAA.out c hlt W hs.p3.p2.bel)
   have HB:=hD (fun W (hs:RtS w wr h1 x1 f1 h2 x2 f2 W)=>HAB.out c hlt W hs.p3.p2.bel)
   have HTW:=hD (HPR.out c hlt)
   unfold AtR at HA HB
   generalize na c=n1 at HA HTW
   generalize nb c=n2 at HB HTW
   generalize ca c=c1 at HA HTW
   generalize cb c=c2 at HB HTW
   have HRC:Hid (∃ rc,rc=R c):=⟨_,rfl⟩
   obtain ⟨rc,hrc⟩:=HRC.out
   rw [<- hrc] at HTW
   have HRCE:=hD hrc
   clear hrc HRC
   go_upto_region 14 with fail
   go_cut [13,14] from 65 to 90 (fun v e wx=>Qr9 w wr h1 x1 f1 h2 x2 f2 rc.1 rc.2 v e wx)
   case first =>
    have hs0:=HST.out.dr
    have hs00:=HST.out
    go_region_held3 (fun W=>((W.cell? ⟨w.heap.size,0,none⟩=some (.slice h1.1 h1.2.1 h1.2.2)/\W.cell? ⟨w.heap.size,1,none⟩=some (.slice x1.1 x1.2.1 x1.2.2)/\W.cell? ⟨w.heap.size,2,none⟩=some (.int .i64 f1))/\(W.cell? ⟨w.heap.size+1,0,none⟩=some (.slice h2.1 h2.2.1 h2.2.2)/\W.cell? ⟨w.heap.size+1,1,none⟩=some (.slice x2.1 x2.2.1 x2.2.2)/\W.cell? ⟨w.heap.size+1,2,none⟩=some (.int .i64 f2)))/\RtS w wr h1 x1 f1 h2 x2 f2 W)
     (first | with_reducible assumption | (with_reducible (refine Qty ?_);repeat (first | with_reducible assumption | with_reducible refine RtS.dr ?_ | (with_reducible refine RtS.put ?_ (by first | assumption | omega | (simp;omega)) _) | with_reducible refine RtS.al ?_ _)))
     (first
      | (go_at_call 75;(with_reducible refine (HA.out _ ?_).mono ?_);exact RtS.self (by repeat (first | with_reducible assumption | with_reducible refine RtS.dr ?_ | with_reducible refine RtS.al ?_ _));rintro e w1 ⟨y1,rfl,hb1⟩;have hst1:RtS w wr h1 x1 f1 h2 x2 f2 w1:=RtS.step (by repeat (first | with_reducible assumption | with_reducible refine RtS.dr ?_ | with_reducible refine RtS.al ?_ _)) hb1;obtain ⟨hc1,hfz1⟩:=bcell2 hb1;have hz1:=hb1.size;have hs1z:=hst1.bel.size;(first | (have hsq1:wr.heap.size < w1.heap.size:=Nat.lt_of_lt_of_le (Qa5 _ _) hz1) | (have hsq1:wr.heap.size < w1.heap.size:=Nat.lt_of_lt_of_le (Qa6 _ _) hz1) | skip);have HB1:=hD hb1;clear hb1)
      | (go_at_call 75;(with_reducible refine (HB.out _ ?_).mono ?_);exact RtS.self (by repeat (first | with_reducible assumption | with_reducible refine RtS.dr ?_ | with_reducible refine RtS.al ?_ _));rintro e w2 ⟨y2,rfl,hb2⟩;have hst2:RtS w wr h1 x1 f1 h2 x2 f2 w2:=RtS.step (by repeat (first | with_reducible assumption | with_reducible refine RtS.dr ?_ | with_reducible refine RtS.al ?_ _)) hb2;obtain ⟨hc2,hfz2⟩:=bcell2 hb2;have hz2:=hb2.size;have hs2z:=hst2.bel.size;(first | (have hsq2:w1.heap.size < w2.heap.size:=Nat.lt_of_lt_of_le (Qa5 _ _) hz2) | (have hsq2:w1.heap.size < w2.heap.size:=Nat.lt_of_lt_of_le (Qa6 _ _) hz2) | (have hsq2:w1.heap.size<=w2.heap.size:=hz2) | skip);(first | (have hsr2:wr.heap.size < w2.heap.size:=Nat.lt_of_lt_of_le hsq1 (Nat.le_of_lt hsq2)) | (have hsr2:wr.heap.size < w2.heap.size:=Nat.lt_of_lt_of_le hsq1 hsq2) | skip);have HB2:=hD hb2;clear hb2)
      | (go_at_call 74;(with_reducible refine (HTW.out _ _ _).mono ?_);rintro e w5 ⟨rfl,hb5⟩;have hst5:RtS w wr h1 x1 f1 h2 x2 f2 w5:=RtS.step (by repeat (first | with_reducible assumption | with_reducible refine RtS.dr ?_ | with_reducible refine RtS.al ?_ _)) hb5;obtain ⟨hc5,hfz5⟩:=bcell2 hb5;have hz5:=hb5.size;have hs5z:=hst5.bel.size;(first | (have hsq5:w2.heap.size < w5.heap.size:=Nat.lt_of_lt_of_le (Qa5 _ _) hz5) | (have hsq5:w2.heap.size < w5.heap.size:=Nat.lt_of_lt_of_le (Qa6 _ _) hz5) | (have hsq5:w2.heap.size<=w5.heap.size:=hz5) | skip);(first | (have hsr5:wr.heap.size < w5.heap.size:=Nat.lt_of_lt_of_le hsr2 hsq5) | skip);(first | (have hsr6:w1.heap.size < w5.heap.size:=Nat.lt_of_lt_of_le hsq2 hsq5) | skip);have HB5:=hD hb5;(first | (have hzz:ZO (itO 0 0 0 nilS) wr.heap.size w5:=ZO.via HB5.out (ZO.via HB2.out (ZO.via HB1.out (ZO.new _ wr)));have hstf:=Qlf hzz rc.1) | (have hzz:ZO (itO 0 0 0 nilS) wr.heap.size w5:=ZO.via HB5.out (ZO.via HB2.out (ZO.via HB1.out (ZO.dr (ZO.new _ wr))));have hstf:=Qlf hzz rc.1) | (have hzz:ZO (itO 0 0 0 nilS) w1.heap.size w5:=ZO.via HB5.out (ZO.via HB2.out (ZO.new _ w1));have hstf:=Qlf hzz rc.1) | (have hzz:ZO (itO 0 0 0 nilS) w1.heap.size w5:=ZO.via HB5.out (ZO.via HB2.out (ZO.dr (ZO.new _ w1)));have hstf:=Qlf hzz rc.1) | (have hzz:ZO (itO 0 0 0 nilS) w2.heap.size w5:=ZO.via HB5.out (ZO.new _ w2);have hstf:=Qlf hzz rc.1) | (have hzz:ZO (itO 0 0 0 nilS) w2.heap.size w5:=ZO.via HB5.out (ZO.dr (ZO.new _ w2));have hstf:=Qlf hzz rc.1) | (have hstf:=fun md=>QaK w5 0 0 rc.1 0 (.slice none 0 0) 63 md))))
    all_goals
     go_wp2
     go_meet
     first
      | with_reducible exact QnK hst5
      | (with_reducible refine QnL hst5 (ZO.step ?_ HB5.out) ?_;all_goals (first | with_reducible exact Nat.le_refl _ | exact hst1.bel.size | exact hst2.bel.size | (repeat (first | with_reducible exact ZO.new _ _ | with_reducible refine ZO.dr ?_ | with_reducible refine ZO.step ?_ HB2.out | with_reducible refine ZO.step ?_ HB1.out))))
   obtain ⟨V,rfl,rfl,hVz,hVb,hst⟩:=hcut
   have HTI2:=hD (HTI.out.step hst.bel)
   have HVB:=hD hVb
   obtain ⟨wb,hwb⟩:∃ wb,wb=wc:=⟨_,rfl⟩
   subst hwb
   clear hst hVb HAA HAB HPR HA HB HTW HST
   by_cases h0:rc.2=0
   ·have ne:(rc.2 != 0)=false:=by simpa using h0
    have HZ:Hid ((R c).2=0):=by unfold Hid;rw [<- HRCE.out];exact h0
    have HAL:Hid (∀ j,j < c+1->(R j).2=0):=fun j hj=>by
     by_cases e:j=c
     ·subst e;exact HZ.out
     ·exact HALL.out j (by omega)
    have HTK:Hid (((List.range (c+1)).map fun j=>RI.mk 0 (R j).1 0 [])=((List.range c).map fun j=>RI.mk 0 (R j).1 0 [])++[RI.mk 0 (R c).1 0 []]):=by unfold Hid;rw [List.range_succ,List.map_append];rfl
    have HLB:Hid (((List.range c).map fun j=>RI.mk 0 (R j).1 0 []).length<=1048576):=by unfold Hid;simp;omega
    rw [<- HRCE.out] at HTK
    generalize ((List.range c).map fun j=>RI.mk 0 (R j).1 0 [])=lc at HTI2 HTK HLB
    obtain ⟨⟨e0,e1,e2⟩,ez⟩:=block3 HTI2.out.out
    obtain ⟨⟨d0,d1,d2,d3⟩,dz⟩:=block4 HVB.out
    have HGG:Hid (wb.heap.size=wb.heap.size):=rfl
    have HSZ:Hid (U.heap.size<=wb.heap.size):=HTI2.out.sz
    have HAV:Hid (IV (fun b=>(fun b=>H b\/b=w.heap.size+2\/b=G) b\/(Value.slice vA vn vc).ownBlock=some b) wb (.mk 0 rc.1 0 []) 0 rc.1 0 nilS):=Qbr _ _ _ _ _ _ _
    have g1:=fun o=>Qab e1 o
    clear h0
    go_wp2_with (at_builtin;refine QaD rfl (.tmp 86) (.tmp 88) rfl (fun b=>H b\/b=w.heap.size+2\/b=G) U.heap.size (.slice vA vn vc) lc rfl HTI2.out.own ⟨0,rc.1,0,nilS⟩ (.mk 0 rc.1 0 []) HAV.out wb.heap.size HGG.out rfl HLB.out HSZ.out ?_;intro v' w' hown' hbw hlat hat2;(obtain ⟨vA',vn',vc',hvn'⟩:∃ A n c,v'= .slice A n c:=by (obtain ⟨a,c,e⟩:=hown'.len;exact ⟨a,_,c,e⟩));subst hvn';have HBW:=hD (hbw _ (Below.refl _ _));have HP:=hD (HTI2.out.push (.inr (.inr rfl)) HKU.out hown' HBW.out);(obtain ⟨⟨q0,q1,q2⟩,qz⟩:=block3 (show w'.heap[G]?=_ from (HBW.out.block _ HTI2.out.old).trans HTI2.out.out));clear hown' hbw hlat hat2)
    go_roundw
    case rel=>exact ⟨c+1,_,by omega,by go_num,HAL.out,by rw [HTK.out];exact HP.out⟩
    case measure=>simp [intOf];omega
   ·have ne:(rc.2 != 0)=true:=by simpa using h0
    have HE:Hid (r.1=rc.2):=by
     unfold Hid
     rw [HRCE.out]
     exact HBAD.out c hlt (by rw [<- HRCE.out];exact h0)
    have HN:=hD h0
    have HS9:=hD HTI2.out.p3
    clear h0
    obtain ⟨⟨y0,y1,y2⟩,yz⟩:=block3 HS9.out.res
    go_wp2
    refine bodyPost_ret (v := .tuple #[plV nilS nilS 0,.int .i64 rc.2]) ?_ rfl (Qb9 HE.out HN.out (Qaf HS9.out.p2.bel (Nat.le_add_right _ 2) _ _ _))
    exact Qaw (fn:=Tryz.f38) (p:=6) (u:=7) rfl _ _ (w.heap.size+2) (by rfl) (Qae HS9.out.res _ _ _)
  ·obtain rfl:c=n:=by omega
   have hge:¬ (c:Int) < (c:Int):=by omega
   obtain ⟨hr1,hr2⟩:=HOK.out HALL.out
   have HR1:=hD hr1
   obtain ⟨x',hx',hpv⟩:=HTI.out.done (H:=H) (.inr (.inr rfl)) (.inr (.inl rfl)) (fun b e => .inl e) HKU.out HRU.out (sv s) (.slice vA vn vc) (.int .i64 0)
   obtain ⟨xA,xn,xc⟩:=x'
   have h9:Value.slice vA vn vc= .slice xA xn xc:=hx'
   injection h9 with h10 h11 h12
   subst h10;subst h11;subst h12
   rw [<- hr2] at hpv
   have HPV:=hD hpv
   obtain ⟨⟨e0,e1,e2⟩,ez⟩:=block3 HTI.out.out
   obtain ⟨⟨z0,z1,z2⟩,zz⟩:=block3 HTI.out.p3.res
   have HRB:=hD (Qae HTI.out.p3.res (sv s) (.slice vA vn vc) (.int .i64 0))
   have HBB:=hD (Qaf HTI.out.p3.p2.bel (G:=w.heap.size+2) (by omega) (sv s) (.slice vA vn vc) (.int .i64 0))
   clear hpv hx' hr1 hr2
   go_wp2
   refine bodyPost_ret (v := .tuple #[plV s (vA,vn,vc) 0,.int .i64 0]) ?_ rfl (Qfz HR1.out HPV.out HBB.out)
   exact Qaw (fn:=Tryz.f38) (p:=6) (u:=7) rfl _ _ (w.heap.size+2) (by rfl) HRB.out
theorem Qlo {H H1 H2:Nat->Prop} (f:Int){a b:PA}{h1 x1 h2 x2:Sl}{f1 f2:Int} (r:Int×PA) (w:World) (n:Nat) (hnb:n<=1000000) (R:Nat->Int×PA) (sh:List Nat) (hH:∀ b,H b->b < w.heap.size) (hk:Qaz f=true) (ga:PV H1 w (rawP a) h1 x1 f1) (gb:PV H2 w (rawP b) h2 x2 f2) (sa:a.shape.length<=1048576) (sb:b.shape.length<=1048576) (hfr:(Qaq a b).1=0) (hL:lenP a.len b.len=some n) (hsa:RdH H w (sv h1) (Qbv a.shape)) (hsb:RdH H w (sv h2) (Qbv b.shape)) (hsh:(Qaq a b).2=sh) (hff:(f1=2)\/(f1≠2/\f2=2)) (hPA:∀ i,i < n->∀ W,Below w.heap.size w W->Calls Tryz.prog 76 #[plV h1 x1 f1,.int .i64 (i:Int)] W (PvS H1 w W (rawP (Qak a i)))) (hPB:∀ i,i < n->∀ W,Below w.heap.size w W->Calls Tryz.prog 76 #[plV h2 x2 f2,.int .i64 (i:Int)] W (PvS H2 w W (rawP (Qak b i))))
  (hIH:∀ i,i < n->∀ (w1 w2 W:World) (u1 u2 y1 y2:Sl) (g1 g2:Int),Below w.heap.size w W->Below w1.heap.size w1 W->Below w2.heap.size w2 W->PvA H1 w w1 (Qak a i) u1 y1 g1->PvA H2 w w2 (Qak b i) u2 y2 g2->Calls Tryz.prog 38 #[.int .i64 f,plV u1 y1 g1,plV u2 y2 g2] W (RtU (Hole H w W) W (R i)))
  (hok:(∀ j,j < n->(R j).1=0)->r.1=0/\rawP r.2= .mk (sh.map Int.ofNat) ((List.range n).map fun j=>RI.mk 2 0 0 [rawP (R j).2]) 2) (hbad:∀ c,c < n->(∀ j,j < c->(R j).1=0)->(R c).1≠0->r.1=(R c).1) :
  Calls Tryz.prog 38 #[.int .i64 f,plV h1 x1 f1,plV h2 x2 f2] w (RtU H w r):=by
 have HKN:=hD (fun W=>Qby f W)
 rw [hk] at HKN
 have HS0:=hD (P3.new w h1 x1 f1 h2 x2 f2)
 have HFR:=hD (fun W (hs:P3 w W h1 x1 f1 h2 x2 f2)=>Qc4 (a:=a) (b:=b) f1 f2 W (Qet (Keeps.lat (Qap ga).1 (Lat.below hs.p2.bel)).now) (Qet (Keeps.lat (Qap gb).1 (Lat.below hs.p2.bel)).now) (Qap ga).2.2 (Qap gb).2.2 sa sb)
 unfold FrR at HFR
 have HLN:Hid (∀ W,Calls Tryz.prog 73 #[.int .i64 (x1.2.1:Nat),.int .i64 (x2.2.1:Nat)] W fun e w'=>e= .returned (.int .i64 (n:Nat))/\W=w'):=fun W=>by
  have h:=QeL a.len b.len n hL W
  rwa [<- (Qap ga).2.2,<- (Qap gb).2.2] at h
 have HPA:=hD hPA
 have HPB:=hD hPB
 have HIH:=hD hIH
 clear hPA hPB hIH
 have HOK:=hD hok
 have HBAD:=hD hbad
 have HSA:=hD hsa
 have HSB:=hD hsb
 have HH:=hD hH
 have HSH:=hD hsh
 clear ga gb hk sa sb hL hok hbad hsa hsb hH hsh
 go_enter Tryz.func38,Tryz.ntmps38
 go_wp2_with fail
 refine (HKN.out _).mono ?_
 rintro e w1 ⟨rfl,hw1⟩
 rw [hw1] at HS0
 clear hw1
 obtain ⟨p0,p1,p2⟩:=Qax HS0.out.p2.one
 obtain ⟨q0,q1,q2⟩:=Qax HS0.out.p2.two
 go_wp2_with fail
 refine (HFR.out _ HS0.out).mono ?_
 clear p0 p1 p2 q0 q1 q2
 rintro e w2 ⟨⟨_,s,rfl,hs⟩ | ⟨hne,_⟩,hb2⟩
 case inr=>exact absurd hfr hne
 have HS2:=hD (HS0.out.step hb2)
 have HSS:=hD hs
 clear hb2 HS0 HFR hs hfr
 obtain ⟨p0,p1,p2⟩:=Qax HS2.out.p2.one
 obtain ⟨q0,q1,q2⟩:=Qax HS2.out.p2.two
 go_wp2_with fail
 refine (HLN.out _).mono ?_
 rintro e w3 ⟨rfl,rfl⟩
 have HRD:Hid (RdH H w (sv s) (Qbv sh)):=by
  rcases HSS.out with ⟨rfl,h⟩ | ⟨rfl,h⟩
  ·unfold Hid;rw [<- HSH.out,h];exact HSA.out
  ·unfold Hid;rw [<- HSH.out,h];exact HSB.out
 clear HSS HSA HSB HSH HLN
 go_upto_region 7 with fail
 go_cut [47] from 19 (fun v wx=>v= .bool false/\wx=w2)
 case first =>
  rcases hff with rfl | ⟨hn2,rfl⟩
  ·go_wp2
   go_meet
   exact ⟨rfl,rfl⟩
  ·have e2:(f1 != 2)=true:=by simpa using hn2
   go_wp2
   go_meet
   exact ⟨rfl,rfl⟩
 obtain ⟨rfl,hwc⟩:=hcut
 have hwd:=hwc.symm
 subst hwd
 clear p0 p1 p2 q0 q1 q2
 obtain ⟨wa,hwa⟩:∃ wa,wa=w2:=⟨_,rfl⟩
 subst hwa
 go_wp2_with fail
 obtain ⟨U,hU⟩:∃ U,U=wa.alloc (plO s nilS 2):=⟨_,rfl⟩
 have HU0:=hD hU
 obtain ⟨G,hG⟩:∃ G,G=wa.heap.size:=⟨_,rfl⟩
 have hbU:Below wa.heap.size wa U:=by rw [hU];exact bel1 _ _
 have hgb:=HS2.out.sz
 have hsU:U.heap.size=wa.heap.size+1:=by rw [hU];simp
 have HI0:Hid (RtI (fun b=>H b\/b=w.heap.size+2\/b=G) w U G h1 x1 f1 h2 x2 f2 s 2 ((List.range 0).map fun j=>RI.mk 2 0 0 [rawP (R j).2]) (.slice none 0 0) U) :=
  ⟨IOwn.nil _ _ _,by rw [hU,hG];exact heap_alloc_new wa _,HS2.out.step hbU,Lat.below (Below.refl _ _),by omega,by omega⟩
 have HKU:Hid (∀ b,(fun b=>H b\/b=w.heap.size+2\/b=G) b->b < U.heap.size):=fun b e=>by
  rcases e with e | e | e
  ·have:=HH.out b e;omega
  ·omega
  ·omega
 have HRU:Hid (RdH (fun b=>H b\/b=w.heap.size+2\/b=G) U (sv s) (Qbv sh)):=Keeps.lat (Keeps.sub HRD.out fun b hb e=>by
  rcases e with e | e | e
  ·exact e
  ·omega
  ·omega) (Lat.below (Qaa HS2.out.p2.bel hbU))
 have hgU:w.heap.size+3<=U.heap.size:=by omega
 clear hU hbU hsU HS2 HRD hgb
 rw [<- HU0.out,<- hG]
 clear hG
 go_loopw [16] (fun iv wr=>∃ (c:Nat) (v:Value),c<=n/\iv= .int .i64 (c:Int)/\(∀ j,j < c->(R j).1=0)/\RtI (fun b=>H b\/b=w.heap.size+2\/b=G) w U G h1 x1 f1 h2 x2 f2 s 2 ((List.range c).map fun j=>RI.mk 2 0 0 [rawP (R j).2]) v wr) (fun iv _=>n - (intOf iv).toNat)
 case atStart=>exact ⟨0,_,Nat.zero_le _,rfl,fun j hj=>absurd hj (Nat.not_lt_zero _),HI0.out⟩
 case round =>
  obtain ⟨c,v,hc,rfl,hall,hti⟩:=hrel
  have HTI:=hD hti
  have HALL:=hD hall
  clear hti hall HI0 HU0
  obtain ⟨vA,vn,vc,hvn⟩:∃ A n c,v= .slice A n c:=by obtain ⟨a,c,e⟩:=HTI.out.own.len;exact ⟨a,_,c,e⟩
  subst hvn
  by_cases hlt:c < n
  ·have hlt2:(c:Int) < (n:Int):=by omega
   have HST:Hid (RtS w wr h1 x1 f1 h2 x2 f2 wr):=⟨HTI.out.p3,Below.refl _ _,by have:=HTI.out.sz;omega⟩
   have HA:=hD (fun W (hs:RtS w wr h1 x1 f1 h2 x2 f2 W)=>HPA.out c hlt W hs.p3.p2.bel)
   have HB:=hD (fun W (hs:RtS w wr h1 x1 f1 h2 x2 f2 W)=>HPB.out c hlt W hs.p3.p2.bel)
   have HTW:=hD (fun (w1 w2 W:World) (u1 u2 y1 y2:Sl) (g1 g2:Int) (hs:RtS w wr h1 x1 f1 h2 x2 f2 W)=>HIH.out c hlt w1 w2 W u1 u2 y1 y2 g1 g2 hs.p3.p2.bel)
   unfold PvS at HA HB
   unfold RtU at HTW
   have HKW:Hid (∀ b,(fun b=>(H b\/b=w.heap.size+2\/b=G)\/(Value.slice vA vn vc).ownBlock=some b) b->H b\/(w.heap.size<=b/\b < wr.heap.size)):=fun b e=>by
    have h8:=HTI.out.sz
    have h9:=HTI.out.old
    have h10:=HTI.out.big
    rcases e with (e | e | e) | e
    ·exact .inl e
    ·exact .inr ⟨by omega,by omega⟩
    ·exact .inr ⟨by omega,by omega⟩
    ·have h11:=HTI.out.own.own_lt e
     exact .inr ⟨by omega,by omega⟩
   have HRC:Hid (∃ rc,rc=R c):=⟨_,rfl⟩
   obtain ⟨rc,hrc⟩:=HRC.out
   rw [<- hrc] at HTW
   have HRCE:=hD hrc
   clear hrc HRC
   go_upto_region 23 with fail
   go_cut [17,18] from 94 to 121 (fun v e wx=>Qr8 w wr (fun b=>(H b\/b=w.heap.size+2\/b=G)\/(Value.slice vA vn vc).ownBlock=some b) h1 x1 f1 h2 x2 f2 rc v e wx)
   case first =>
    have hs0:=HST.out.dr
    have hs00:=HST.out
    go_region_held3 (fun W=>((W.cell? ⟨w.heap.size,0,none⟩=some (.slice h1.1 h1.2.1 h1.2.2)/\W.cell? ⟨w.heap.size,1,none⟩=some (.slice x1.1 x1.2.1 x1.2.2)/\W.cell? ⟨w.heap.size,2,none⟩=some (.int .i64 f1))/\(W.cell? ⟨w.heap.size+1,0,none⟩=some (.slice h2.1 h2.2.1 h2.2.2)/\W.cell? ⟨w.heap.size+1,1,none⟩=some (.slice x2.1 x2.2.1 x2.2.2)/\W.cell? ⟨w.heap.size+1,2,none⟩=some (.int .i64 f2)))/\RtS w wr h1 x1 f1 h2 x2 f2 W)
     (first | with_reducible assumption | (with_reducible (refine Qty ?_);repeat (first | with_reducible assumption | with_reducible refine RtS.dr ?_ | (with_reducible refine RtS.put ?_ (by first | assumption | omega | (simp;omega)) _) | with_reducible refine RtS.al ?_ _)))
     (first
      | (go_at_call 76;(with_reducible refine (HA.out _ ?_).mono ?_);exact RtS.self (by repeat (first | with_reducible assumption | with_reducible refine RtS.dr ?_ | with_reducible refine RtS.al ?_ _));rintro e w1 ⟨u1,y1,g1,rfl,hpa,hb1⟩;have hpv1:PvA H1 w w1 (Qak a c) u1 y1 g1:=hpa;have hst1:RtS w wr h1 x1 f1 h2 x2 f2 w1:=RtS.step (by repeat (first | with_reducible assumption | with_reducible refine RtS.dr ?_ | with_reducible refine RtS.al ?_ _)) hb1;obtain ⟨hc1,hfz1⟩:=bcell2 hb1;have hz1:=hb1.size;have hs1z:=hst1.bel.size;(first | (have hsq1:wr.heap.size < w1.heap.size:=Nat.lt_of_lt_of_le (Qa5 _ _) hz1) | (have hsq1:wr.heap.size < w1.heap.size:=Nat.lt_of_lt_of_le (Qa6 _ _) hz1) | skip);have HB1:=hD hb1;clear hb1;clear hpa)
      | (go_at_call 76;(with_reducible refine (HB.out _ ?_).mono ?_);exact RtS.self (by repeat (first | with_reducible assumption | with_reducible refine RtS.dr ?_ | with_reducible refine RtS.al ?_ _));rintro e w2 ⟨u2,y2,g2,rfl,hpb,hb2⟩;have hpv2:PvA H2 w w2 (Qak b c) u2 y2 g2:=hpb;have hbl2:BelT w1 w2:=BelT.step (by repeat (first | with_reducible exact BelT.refl _ | with_reducible refine BelT.dr ?_ | with_reducible refine BelT.al ?_ _)) hb2;have hst2:RtS w wr h1 x1 f1 h2 x2 f2 w2:=RtS.step (by repeat (first | with_reducible assumption | with_reducible refine RtS.dr ?_ | with_reducible refine RtS.al ?_ _)) hb2;obtain ⟨hc2,hfz2⟩:=bcell2 hb2;have hz2:=hb2.size;have hs2z:=hst2.bel.size;(first | (have hsq2:w1.heap.size < w2.heap.size:=Nat.lt_of_lt_of_le (Qa5 _ _) hz2) | (have hsq2:w1.heap.size < w2.heap.size:=Nat.lt_of_lt_of_le (Qa6 _ _) hz2) | (have hsq2:w1.heap.size<=w2.heap.size:=hz2) | skip);(first | (have hsr2:wr.heap.size < w2.heap.size:=Nat.lt_of_lt_of_le hsq1 (Nat.le_of_lt hsq2)) | (have hsr2:wr.heap.size < w2.heap.size:=Nat.lt_of_lt_of_le hsq1 hsq2) | skip);have HB2:=hD hb2;clear hb2;clear hpb)
      | (go_at_call 38;(with_reducible refine (HTW.out w1 w2 _ _ _ _ _ _ _ ?_ ?_ ?_ hpv1 hpv2).mono ?_);exact RtS.self (by repeat (first | with_reducible assumption | with_reducible refine RtS.dr ?_ | with_reducible refine RtS.al ?_ _));exact BelT.self (by repeat (first | with_reducible assumption | with_reducible refine BelT.dr ?_ | with_reducible refine BelT.al ?_ _));exact BelT.self (by repeat (first | with_reducible exact BelT.refl _ | with_reducible refine BelT.dr ?_ | with_reducible refine BelT.al ?_ _));rintro e w5 ⟨h5,x5,g5,rfl,hpv5,hb5⟩;have hst5:RtS w wr h1 x1 f1 h2 x2 f2 w5:=RtS.step (by repeat (first | with_reducible assumption | with_reducible refine RtS.dr ?_ | with_reducible refine RtS.al ?_ _)) hb5;obtain ⟨hc5,hfz5⟩:=bcell2 hb5;have hz5:=hb5.size;have hs5z:=hst5.bel.size;(first | (have hsq5:w2.heap.size < w5.heap.size:=Nat.lt_of_lt_of_le (Qa5 _ _) hz5) | (have hsq5:w2.heap.size < w5.heap.size:=Nat.lt_of_lt_of_le (Qa6 _ _) hz5) | (have hsq5:w2.heap.size<=w5.heap.size:=hz5) | skip);(first | (have hsr5:wr.heap.size < w5.heap.size:=Nat.lt_of_lt_of_le hsr2 hsq5) | skip);(first | (have hsr6:w1.heap.size < w5.heap.size:=Nat.lt_of_lt_of_le hsq2 hsq5) | skip);have HB5:=hD hb5;have HPV5:=hD hpv5;clear hpv5))
    all_goals
     go_wp2
     go_meet
     first
      | with_reducible exact Qib HKW.out HPV5.out hst2.bel.size hst5
      | (with_reducible exact Qib HKW.out HPV5.out (RtS.dr hst2).bel.size hst5)
      | (with_reducible refine QnJ HKW.out HPV5.out hst5 (ZO.step ?_ HB5.out) ?_ ?_;all_goals (first | with_reducible exact Nat.le_refl _ | exact hst1.bel.size | exact hst2.bel.size | (repeat (first | with_reducible exact ZO.new _ _ | with_reducible refine ZO.dr ?_ | with_reducible refine ZO.step ?_ HB2.out | with_reducible refine ZO.step ?_ HB1.out))))
   obtain ⟨V,h5,x5,g5,rfl,rfl,hVz,hVb,hpv,hst⟩:=hcut
   have HTI2:=hD (HTI.out.step hst.bel)
   have HVB:=hD hVb
   have HPV:=hD hpv
   obtain ⟨wb,hwb⟩:∃ wb,wb=wc:=⟨_,rfl⟩
   subst hwb
   clear hst hVb hpv HPA HPB HIH HA HB HTW HST
   by_cases h0:rc.1=0
   ·have ne:(rc.1 != 0)=false:=by simpa using h0
    have HZ:Hid ((R c).1=0):=by unfold Hid;rw [<- HRCE.out];exact h0
    have HAL:Hid (∀ j,j < c+1->(R j).1=0):=fun j hj=>by
     by_cases e:j=c
     ·subst e;exact HZ.out
     ·exact HALL.out j (by omega)
    have HTK:Hid (((List.range (c+1)).map fun j=>RI.mk 2 0 0 [rawP (R j).2])=((List.range c).map fun j=>RI.mk 2 0 0 [rawP (R j).2])++[RI.mk 2 0 0 [rawP (R c).2]]):=by unfold Hid;rw [List.range_succ,List.map_append];rfl
    have HLB:Hid (((List.range c).map fun j=>RI.mk 2 0 0 [rawP (R j).2]).length<=1048576):=by unfold Hid;simp;omega
    rw [<- HRCE.out] at HTK
    generalize ((List.range c).map fun j=>RI.mk 2 0 0 [rawP (R j).2])=lc at HTI2 HTK HLB
    obtain ⟨⟨e0,e1,e2⟩,ez⟩:=block3 HTI2.out.out
    obtain ⟨⟨d0,d1,d2⟩,dz⟩:=block3 HVB.out
    have HBX:=hD (bel1 wb (plO h5 x5 g5))
    have HTW:=hD (HTI2.out.step HBX.out)
    have HGG:Hid (wb.heap.size+1=(wb.alloc (plO h5 x5 g5)).heap.size):=by unfold Hid;simp
    have HSZ:Hid (U.heap.size<=(wb.alloc (plO h5 x5 g5)).heap.size):=HTW.out.sz
    have HAV:Hid (IV (fun b=>(fun b=>H b\/b=w.heap.size+2\/b=G) b\/(Value.slice vA vn vc).ownBlock=some b) (wb.alloc (plO h5 x5 g5)) (.mk 2 0 0 [rawP rc.2]) 2 0 0 (some ⟨wb.heap.size,0,none⟩,1,1)):=by
     have hpw:=HPV.out h0
     have h8:=HTI2.out.sz
     refine QjM ?_ (PV.sub (fun b hb e=>?_) (hpw.step HBX.out)) (Qbd wb h5 x5 g5)
     ·rintro (e | e)
      ·have:=HKU.out _ e;omega
      ·have:=(HTI2.out.own.own_lt e).2;omega
     ·exact e
    have g1:=fun o=>Qab e1 o
    have g2:=fun o o'=>QaE e1 o o'
    have hst0:=fun md=>QaK (wb.alloc (plO h5 x5 g5)) 2 0 0 0 (.slice none 0 0) 63 md
    have u1:(wb.alloc (plO h5 x5 g5)).frozen? ⟨G,1,none⟩=false:=by rw [HBX.out.frozen (p:=⟨G,1,none⟩) (by show G < _;have:=HTI2.out.old;have:=HTI2.out.sz;omega)];exact ez 1
    clear h0
    go_wp2_with (at_builtin;refine QaD rfl (.tmp 115) (.tmp 119) rfl (fun b=>H b\/b=w.heap.size+2\/b=G) U.heap.size (.slice vA vn vc) lc rfl HTW.out.own ⟨2,0,0,(some ⟨wb.heap.size,0,none⟩,1,1)⟩ (.mk 2 0 0 [rawP rc.2]) HAV.out (wb.heap.size+1) HGG.out rfl HLB.out HSZ.out ?_;intro v' w' hown' hbw hlat hat2;(obtain ⟨vA',vn',vc',hvn'⟩:∃ A n c,v'= .slice A n c:=by (obtain ⟨a,c,e⟩:=hown'.len;exact ⟨a,_,c,e⟩));subst hvn';have HBW:=hD (hbw _ (Below.refl _ _));have HP:=hD (HTW.out.push (.inr (.inr rfl)) HKU.out hown' HBW.out);(obtain ⟨⟨q0,q1,q2⟩,qz⟩:=block3 (show w'.heap[G]?=_ from (HBW.out.block _ HTW.out.old).trans HTW.out.out));clear hown' hbw hlat hat2)
    go_roundw
    case rel=>exact ⟨c+1,_,by omega,by go_num,HAL.out,by rw [HTK.out];exact HP.out⟩
    case measure=>simp [intOf];omega
   ·have ne:(rc.1 != 0)=true:=by simpa using h0
    have HE:Hid (r.1=rc.1):=by
     unfold Hid
     rw [HRCE.out]
     exact HBAD.out c hlt HALL.out (by rw [<- HRCE.out];exact h0)
    have HN:=hD h0
    have HS9:=hD HTI2.out.p3
    clear h0
    obtain ⟨⟨y0,y1,y2⟩,yz⟩:=block3 HS9.out.res
    go_wp2
    refine bodyPost_ret (v := .tuple #[plV nilS nilS 0,.int .i64 rc.1]) ?_ rfl (Qb9 HE.out HN.out (Qaf HS9.out.p2.bel (Nat.le_add_right _ 2) _ _ _))
    exact Qaw (fn:=Tryz.f38) (p:=6) (u:=7) rfl _ _ (w.heap.size+2) (by rfl) (Qae HS9.out.res _ _ _)
  ·obtain rfl:c=n:=by omega
   have hge:¬ (c:Int) < (c:Int):=by omega
   obtain ⟨hr1,hr2⟩:=HOK.out HALL.out
   have HR1:=hD hr1
   obtain ⟨x',hx',hpv⟩:=HTI.out.done (H:=H) (.inr (.inr rfl)) (.inr (.inl rfl)) (fun b e => .inl e) HKU.out HRU.out (sv s) (.slice vA vn vc) (.int .i64 2)
   obtain ⟨xA,xn,xc⟩:=x'
   have h9:Value.slice vA vn vc= .slice xA xn xc:=hx'
   injection h9 with h10 h11 h12
   subst h10;subst h11;subst h12
   rw [<- hr2] at hpv
   have HPV:=hD hpv
   obtain ⟨⟨e0,e1,e2⟩,ez⟩:=block3 HTI.out.out
   obtain ⟨⟨z0,z1,z2⟩,zz⟩:=block3 HTI.out.p3.res
   have HRB:=hD (Qae HTI.out.p3.res (sv s) (.slice vA vn vc) (.int .i64 2))
   have HBB:=hD (Qaf HTI.out.p3.p2.bel (G:=w.heap.size+2) (by omega) (sv s) (.slice vA vn vc) (.int .i64 2))
   clear hpv hx' hr1 hr2
   go_wp2
   refine bodyPost_ret (v := .tuple #[plV s (vA,vn,vc) 2,.int .i64 0]) ?_ rfl (Qfz HR1.out HPV.out HBB.out)
   exact Qaw (fn:=Tryz.f38) (p:=6) (u:=7) rfl _ _ (w.heap.size+2) (by rfl) HRB.out
theorem Qg5 {p:PA}{k:Int}{n:Nat}{c:Int} (e:rawP p= .mk [] [.mk k n c []] k) (hk:k≠2):p.fill≠2/\p.shape=[]:=by
 obtain ⟨items,e2,_⟩:=QgX p
 rw [e2] at e
 injection e with e3 _ e5
 exact ⟨fun h=>by rw [h] at e5;exact hk e5.symm,by simpa using e3⟩
theorem QfH {a:PA} (i:Nat) (h:a.fill≠2):∃ k n c,rawP (Qak a i)= .mk [] [.mk k n c []] k/\k≠2:=by
 cases a with
 | nums s l=>exact ⟨0,_,0,by rw [Qak,rawP];rfl,by decide⟩
 | chars s l=>exact ⟨1,0,_,by rw [Qak,rawP];rfl,by decide⟩
 | boxes s l=>exact absurd rfl h
theorem Qlp (l:List PA):Qbs l=l.map fun a=>RI.mk 2 0 0 [rawP a]:=by
 induction l with
 | nil=>rw [Qbs];rfl
 | cons a l ih=>rw [Qbs,ih];rfl
theorem Qg6 {H:Nat->Prop}{w:World}{s l:List Nat}{h x:Sl}{f:Int} (g:PV H w (rawP (.nums s l)) h x f) (i:Nat) (hi:ixP l.length i < l.length) (hl:l.length<=1000000) (W:World) (hb:Below w.heap.size w W) :
  Calls Tryz.prog 75 #[plV h x f,.int .i64 (i:Int)] W (AtR 0 (l.getD (ixP l.length i) 0) 0 W):=by
 rw [rawP] at g
 have hm:(l.map fun x=>RI.mk 0 x 0 []).length=l.length:=by simp
 have h1:=QdM g i (by rw [hm];exact hi) (by rw [hm];omega) W hb
 have e:(l.map fun x=>RI.mk 0 x 0 [])[ixP (l.map fun x=>RI.mk 0 x 0 []).length i]'(by rw [hm];exact hi)= .mk 0 (l.getD (ixP l.length i) 0) 0 []:=by
  simp [List.getD,hi]
 rw [e] at h1
 exact h1.mono fun _ _ t=>Qqz t
theorem QeO {H:Nat->Prop}{w:World}{s:List Nat}{l:List Int}{h x:Sl}{f:Int} (g:PV H w (rawP (.chars s l)) h x f) (i:Nat) (hi:ixP l.length i < l.length) (hl:l.length<=1000000) (W:World) (hb:Below w.heap.size w W) :
  Calls Tryz.prog 75 #[plV h x f,.int .i64 (i:Int)] W (AtR 1 0 (l.getD (ixP l.length i) 0) W):=by
 rw [rawP] at g
 have hm:(l.map fun c=>RI.mk 1 0 c []).length=l.length:=by simp
 have h1:=QdM g i (by rw [hm];exact hi) (by rw [hm];omega) W hb
 have e:(l.map fun c=>RI.mk 1 0 c [])[ixP (l.map fun c=>RI.mk 1 0 c []).length i]'(by rw [hm];exact hi)= .mk 1 0 (l.getD (ixP l.length i) 0) []:=by
  simp [List.getD,hi]
 rw [e] at h1
 exact h1.mono fun _ _ t=>Qqz t
theorem Qsn {f:Int} (hf:f=13\/f=16) (x:Nat) (hx:TF x) (c:Int) (W:World) (y1 y2:Sl) :
  Calls Tryz.prog 74 #[.int .i64 f,itV 0 x 0 y1,itV 1 0 c y2] W fun e w'=>e= .returned (.tuple #[itV 0 (Qai (false==decide (f=13))) 0 nilS,.int .i64 0])/\Below W.heap.size W w':=by
 rcases hf with rfl | rfl
 ·exact Qbl 13 0 1 x 0 0 c y1 y2 false (.inl rfl) (.inr ⟨rfl,rfl⟩) (fun W b1 b2 hs=>Qbk 13 0 1 false b1 b2 x 0 y1 0 c y2 (.inl ⟨.inl ⟨rfl,rfl⟩,.inl ⟨rfl,rfl⟩⟩) W hs hx Qa8) W
 ·exact Qbl 16 0 1 x 0 0 c y1 y2 true (.inr ⟨rfl,rfl⟩) (.inr ⟨rfl,rfl⟩) (fun W b1 b2 hs=>Qbk 16 0 1 true b1 b2 x 0 y1 0 c y2 (.inl ⟨.inr ⟨rfl,rfl⟩,.inl ⟨rfl,rfl⟩⟩) W hs hx Qa8) W
theorem Qso {f:Int} (hf:f=13\/f=16) (x:Nat) (hx:TF x) (c:Int) (W:World) (y1 y2:Sl) :
  Calls Tryz.prog 74 #[.int .i64 f,itV 1 0 c y1,itV 0 x 0 y2] W fun e w'=>e= .returned (.tuple #[itV 0 (Qai (false==decide (f=13))) 0 nilS,.int .i64 0])/\Below W.heap.size W w':=by
 rcases hf with rfl | rfl
 ·exact Qbl 13 1 0 0 x c 0 y1 y2 false (.inl rfl) (.inl rfl) (fun W b1 b2 hs=>Qbk 13 1 0 false b1 b2 0 c y1 x 0 y2 (.inl ⟨.inl ⟨rfl,rfl⟩,.inr (.inl ⟨rfl,rfl⟩)⟩) W hs Qa8 hx) W
 ·exact Qbl 16 1 0 0 x c 0 y1 y2 true (.inr ⟨rfl,rfl⟩) (.inl rfl) (fun W b1 b2 hs=>Qbk 16 1 0 true b1 b2 0 c y1 x 0 y2 (.inl ⟨.inr ⟨rfl,rfl⟩,.inr (.inl ⟨rfl,rfl⟩)⟩) W hs Qa8 hx) W
theorem Qsp {f:Int} (hf:f=13\/f=16) (c c2:Int) (W:World) (y1 y2:Sl) :
  Calls Tryz.prog 74 #[.int .i64 f,itV 1 0 c y1,itV 1 0 c2 y2] W fun e w'=>e= .returned (.tuple #[itV 0 (Qai (decide (c=c2)==decide (f=13))) 0 nilS,.int .i64 0])/\Below W.heap.size W w':=by
 by_cases h:c=c2
 ·subst h
  rw [decide_eq_true rfl]
  rcases hf with rfl | rfl
  ·exact Qbl 13 1 1 0 0 c c y1 y2 true (.inl rfl) (.inl rfl) (fun W b1 b2 hs=>Qbk 13 1 1 true b1 b2 0 c y1 0 c y2 (.inr ⟨.inl ⟨rfl,rfl⟩,rfl,rfl,rfl⟩) W hs Qa8 Qa8) W
  ·exact Qbl 16 1 1 0 0 c c y1 y2 false (.inr ⟨rfl,rfl⟩) (.inl rfl) (fun W b1 b2 hs=>Qbk 16 1 1 false b1 b2 0 c y1 0 c y2 (.inr ⟨.inr ⟨rfl,rfl⟩,rfl,rfl,rfl⟩) W hs Qa8 Qa8) W
 ·have hne:(c==c2)=false:=by simpa using h
  rw [decide_eq_false h]
  rcases hf with rfl | rfl
  ·exact Qbl 13 1 1 0 0 c c2 y1 y2 false (.inl rfl) (.inl rfl) (fun W b1 b2 hs=>Qbk 13 1 1 false b1 b2 0 c y1 0 c2 y2 (.inl ⟨.inl ⟨rfl,rfl⟩,.inr (.inr ⟨rfl,rfl,hne⟩)⟩) W hs Qa8 Qa8) W
  ·exact Qbl 16 1 1 0 0 c c2 y1 y2 true (.inr ⟨rfl,rfl⟩) (.inl rfl) (fun W b1 b2 hs=>Qbk 16 1 1 true b1 b2 0 c y1 0 c2 y2 (.inl ⟨.inr ⟨rfl,rfl⟩,.inr (.inr ⟨rfl,rfl,hne⟩)⟩) W hs Qa8 Qa8) W
noncomputable def elE (f:Int) (a b:PA) (c:Nat):Nat×Int :=
 match a,b with
 | .nums _ l,.nums _ m=>oneP pwP f (l.getD (ixP l.length c) 0) (m.getD (ixP m.length c) 0)
 | _,_=>(Qai (Qew a b c==decide (f=13)),0)
theorem QeP {f:Int}{a b:PA} (ha:a.fill≠2) (hb:b.fill≠2) (h13:(a.fill=0/\b.fill=0)\/f=13\/f=16) (h:∀ j,j < lenE a b->(elE f a b j).2=0) :
  (Qc7 f a b).1=0/\rawP (Qc7 f a b).2= .mk ((Qaq a b).2.map Int.ofNat) ((List.range (lenE a b)).map fun j=>RI.mk 0 (elE f a b j).1 0 []) 0:=by
 have key:Qdh f a b=(0,(List.range (lenE a b)).map fun j=>(elE f a b j).1):=by
  have el:(f=13\/f=16)->(if f=13\/f=16 then ((0:Int),(List.range (lenE a b)).map fun c=>Qai (Qew a b c==decide (f=13))) else (24,[]))=(0,(List.range (lenE a b)).map fun c=>Qai (Qew a b c==decide (f=13))):=fun h=>if_pos h
  cases a with
  | boxes s l=>exact absurd rfl ha
  | nums sa la =>
   cases b with
   | boxes s l=>exact absurd rfl hb
   | nums sb lb =>
    rw [QbR]
    rcases QbB (lenE (.nums sa la) (.nums sb lb)) (fun c=>oneP pwP f (la.getD (ixP la.length c) 0) (lb.getD (ixP lb.length c) 0)) with ⟨⟨c,hc,h1⟩,_⟩ | ⟨_,h2⟩
    ·exact absurd (h c hc) h1
    ·rw [h2];rfl
   | chars sb lb=>exact el (h13.resolve_left fun e=>by cases e.2)
  | chars sa la =>
   cases b with
   | boxes s l=>exact absurd rfl hb
   | nums sb lb=>exact el (h13.resolve_left fun e=>by cases e.1)
   | chars sb lb=>exact el (h13.resolve_left fun e=>by cases e.1)
 unfold Qc7
 rw [key]
 refine ⟨rfl,?_⟩
 rw [if_neg (by simp),rawP,List.map_map]
 rfl
theorem QnY {f:Int}{sa la sb lb:List Nat}{d e:Nat} (ga:GoodA d (.nums sa la)) (gb:GoodA e (.nums sb lb)) (hfr:(Qaq (.nums sa la) (.nums sb lb)).1=0){c:Nat} (hc:c < lenE (.nums sa la) (.nums sb lb)) (h:(elE f (.nums sa la) (.nums sb lb) c).2≠0):(Qc7 f (.nums sa la) (.nums sb lb)).1=(elE f (.nums sa la) (.nums sb lb) c).2:=by
 have hij:=Qb5 ga gb hfr hc
 have h24:(elE f (.nums sa la) (.nums sb lb) c).2=24:=by
  show (oneP pwP f _ _).2=24
  rcases QfZ QrC f (show TF (la.getD (ixP la.length c) 0) from ga.nums _ hij.1) (show TF (lb.getD (ixP lb.length c) 0) from gb.nums _ hij.2) with ⟨y,hy,e1⟩ | e1
  ·exact absurd (by show (oneP pwP f _ _).2=0;rw [e1]) h
  ·rw [e1]
 rw [h24]
 have key:Qdh f (.nums sa la) (.nums sb lb)=(24,[]):=by
  rw [QbR]
  rcases QbB (lenE (.nums sa la) (.nums sb lb)) (fun c=>oneP pwP f (la.getD (ixP la.length c) 0) (lb.getD (ixP lb.length c) 0)) with ⟨_,h2⟩ | ⟨h1,_⟩
  ·exact h2
  ·exact absurd (h1 c hc) h
 unfold Qc7
 rw [key]
 rfl
theorem QfI {f:Int}{a b:PA} (h:¬ (a.fill=0/\b.fill=0)) (h13:f≠13) (h16:f≠16):(Qc7 f a b).1=24:=by
 have el:(if f=13\/f=16 then ((0:Int),(List.range (lenE a b)).map fun c=>Qai (Qew a b c==decide (f=13))) else (24,[]))=(24,[]):=if_neg (by rintro (h | h);exact h13 h;exact h16 h)
 have key:Qdh f a b=(24,[]):=by
  cases a with
  | boxes s l=>exact el
  | nums sa la =>
   cases b with
   | boxes s l=>exact el
   | nums sb lb=>exact absurd ⟨rfl,rfl⟩ h
   | chars sb lb=>exact el
  | chars sa la=>exact el
 unfold Qc7
 rw [key]
 rfl
theorem Qsq {n:Nat}{R:Nat->Int×PA}{sh:List Nat} (h:∀ j,j < n->(R j).1=0):(bxE n R sh).1=0/\rawP (bxE n R sh).2= .mk (sh.map Int.ofNat) ((List.range n).map fun j=>RI.mk 2 0 0 [rawP (R j).2]) 2:=by
 rw [Qtx sh h]
 refine ⟨rfl,?_⟩
 rw [rawP,Qlp,List.map_map]
 rfl
theorem QnZ {H H1 H2:Nat->Prop} (f:Int){a b:PA}{d e:Nat}{h1 x1 h2 x2:Sl}{f1 f2:Int} (w:World) (hH:∀ b,H b->b < w.heap.size) (hk:Qaz f=true) (ga:GoodA d a) (gb:GoodA e b) (ma:SmA 1000000 a) (mb:SmA 1000000 b) (va:PV H1 w (rawP a) h1 x1 f1) (vb:PV H2 w (rawP b) h2 x2 f2)
  (hsa:RdH H w (sv h1) (Qbv a.shape)) (hsb:RdH H w (sv h2) (Qbv b.shape)) (hfr:(Qaq a b).1=0) (ha:a.fill≠2) (hb:b.fill≠2) :
  Calls Tryz.prog 38 #[.int .i64 f,plV h1 x1 f1,plV h2 x2 f2] w (RtU H w (Qc7 f a b)):=by
 have la:a.shape.length<=1048576:=by have:a.shape.length<=8:=ga.sh.2.1;omega
 have lb:b.shape.length<=1048576:=by have:b.shape.length<=8:=gb.sh.2.1;omega
 have hL:=(QdI ga gb hfr).2
 have hn:=QgT ma mb
 have hij:=fun i hi=>Qb5 ga gb hfr (i:=i) hi
 have q1:=(Qap va).2.1
 have q2:=(Qap vb).2.1
 cases a with
 | boxes s l=>exact absurd rfl ha
 | nums sa l1 =>
  cases b with
  | boxes s l=>exact absurd rfl hb
  | nums sb l2 =>
   exact QdV f (Qc7 f (.nums sa l1) (.nums sb l2)) w _ hn (elE f (.nums sa l1) (.nums sb l2)) _ hH hk va vb la lb hfr hL hsa hsb rfl (.inl ⟨q1,q2⟩) 0 0 (fun i=>l1.getD (ixP l1.length i) 0) (fun i=>l2.getD (ixP l2.length i) 0) (fun _=>0) (fun _=>0)
    (fun i hi W hb=>Qg6 va i (hij i hi).1 ma.len W hb) (fun i hi W hb=>Qg6 vb i (hij i hi).2 mb.len W hb)
    (fun i hi W y1 y2=>QnD f hk _ _ (ga.nums _ (hij i hi).1) (gb.nums _ (hij i hi).2) 0 0 y1 y2 W)
    (fun h=>QeP ha hb (.inl ⟨rfl,rfl⟩) h) (fun c hc h=>QnY ga gb hfr hc h)
  | chars sb l2 =>
   by_cases h13:f=13\/f=16
   ·exact QdV f (Qc7 f (.nums sa l1) (.chars sb l2)) w _ hn (elE f (.nums sa l1) (.chars sb l2)) _ hH hk va vb la lb hfr hL hsa hsb rfl (.inr ⟨.inl ⟨q1,q2⟩,h13⟩) 0 1 (fun i=>l1.getD (ixP l1.length i) 0) (fun _=>0) (fun _=>0) (fun i=>l2.getD (ixP l2.length i) 0)
     (fun i hi W hb=>Qg6 va i (hij i hi).1 ma.len W hb) (fun i hi W hb=>QeO vb i (hij i hi).2 mb.len W hb)
     (fun i hi W y1 y2=>Qsn h13 _ (ga.nums _ (hij i hi).1) _ W y1 y2)
     (fun h=>QeP ha hb (.inr h13) h) (fun c _ h=>absurd rfl h)
   ·exact Qg4 f (Qc7 f (.nums sa l1) (.chars sb l2)) w _ hk va vb la lb hfr hL (.inl ⟨q1,q2⟩) (fun h=>h13 (.inl h)) (fun h=>h13 (.inr h)) (QfI (fun h=>by cases h.2) (fun h=>h13 (.inl h)) (fun h=>h13 (.inr h)))
 | chars sa l1 =>
  cases b with
  | boxes s l=>exact absurd rfl hb
  | nums sb l2 =>
   by_cases h13:f=13\/f=16
   ·exact QdV f (Qc7 f (.chars sa l1) (.nums sb l2)) w _ hn (elE f (.chars sa l1) (.nums sb l2)) _ hH hk va vb la lb hfr hL hsa hsb rfl (.inr ⟨.inr (.inl ⟨q1,q2⟩),h13⟩) 1 0 (fun _=>0) (fun i=>l2.getD (ixP l2.length i) 0) (fun i=>l1.getD (ixP l1.length i) 0) (fun _=>0)
     (fun i hi W hb=>QeO va i (hij i hi).1 ma.len W hb) (fun i hi W hb=>Qg6 vb i (hij i hi).2 mb.len W hb)
     (fun i hi W y1 y2=>Qso h13 _ (gb.nums _ (hij i hi).2) _ W y1 y2)
     (fun h=>QeP ha hb (.inr h13) h) (fun c _ h=>absurd rfl h)
   ·exact Qg4 f (Qc7 f (.chars sa l1) (.nums sb l2)) w _ hk va vb la lb hfr hL (.inr (.inl ⟨q1,q2⟩)) (fun h=>h13 (.inl h)) (fun h=>h13 (.inr h)) (QfI (fun h=>by cases h.1) (fun h=>h13 (.inl h)) (fun h=>h13 (.inr h)))
  | chars sb l2 =>
   by_cases h13:f=13\/f=16
   ·exact QdV f (Qc7 f (.chars sa l1) (.chars sb l2)) w _ hn (elE f (.chars sa l1) (.chars sb l2)) _ hH hk va vb la lb hfr hL hsa hsb rfl (.inr ⟨.inr (.inr ⟨q1,q2⟩),h13⟩) 1 1 (fun _=>0) (fun _=>0) (fun i=>l1.getD (ixP l1.length i) 0) (fun i=>l2.getD (ixP l2.length i) 0)
     (fun i hi W hb=>QeO va i (hij i hi).1 ma.len W hb) (fun i hi W hb=>QeO vb i (hij i hi).2 mb.len W hb)
     (fun i hi W y1 y2=>Qsp h13 _ _ W y1 y2)
     (fun h=>QeP ha hb (.inr h13) h) (fun c _ h=>absurd rfl h)
   ·exact Qg4 f (Qc7 f (.chars sa l1) (.chars sb l2)) w _ hk va vb la lb hfr hL (.inr (.inr ⟨q1,q2⟩)) (fun h=>h13 (.inl h)) (fun h=>h13 (.inr h)) (QfI (fun h=>by cases h.1) (fun h=>h13 (.inl h)) (fun h=>h13 (.inr h)))
theorem Qkl:∀ (N:Nat) (H:Nat->Prop) (f:Int) (a b:PA) (d e:Nat) (h1 x1 h2 x2:Sl) (f1 f2:Int) (w:World),(∀ b,H b->b < w.heap.size) ->
  GoodA d a->GoodA e b->SmA 1000000 a->SmA 1000000 b->depA a+depA b < N->ArgOk H w a h1 x1 f1->ArgOk H w b h2 x2 f2 ->
  Calls Tryz.prog 38 #[.int .i64 f,plV h1 x1 f1,plV h2 x2 f2] w (RtU H w (twoE N f a b))
 | 0,_,_,_,_,_,_,_,_,_,_,_,_,_,_,_,_,_,_,hN,_,_=>absurd hN (Nat.not_lt_zero _)
 | N+1,H,f,a,b,d,e,h1,x1,h2,x2,f1,f2,w,hH,ga,gb,sa,sb,hN,va,vb=>by
  have la:a.shape.length<=1048576:=by have:a.shape.length<=8:=ga.sh.2.1;omega
  have lb:b.shape.length<=1048576:=by have:b.shape.length<=8:=gb.sh.2.1;omega
  have pick:∀ {c:PA} {h x:Sl} {fo:Int},ArgOk H w c h x fo->∃ K:Nat->Prop,(∀ b,K b->b < w.heap.size)/\PV K w (rawP c) h x fo/\(c.fill=2->∀ b,H b->K b):=by
   intro c h x fo g
   by_cases h2:c.fill=2
   ·exact ⟨H,hH,g.box h2,fun _ _ e=>e⟩
   ·obtain ⟨K,k1,k2⟩:=g.pv hH
    exact ⟨K,k1,k2,fun e=>absurd e h2⟩
  obtain ⟨H1,hH1,pa,xa⟩:=pick va
  obtain ⟨H2,hH2,pb,xb⟩:=pick vb
  cases hk:Qaz f with
  | false=>exact Qig H f h1 x1 h2 x2 f1 f2 _ w hk (Qia hk)
  | true =>
   by_cases hf:(Qaq a b).1=0
   ·by_cases hx:a.fill=2\/b.fill=2
    ·rw [Qp1 hk hf hx]
     have q1:=(Qap pa).2.1
     have q2:=(Qap pb).2.1
     refine Qlo f _ w (lenE a b) (QgT sa sb) (fun i=>twoE N f (Qak a i) (Qak b i)) (Qaq a b).2 hH hk pa pb la lb hf (QdI ga gb hf).2 va.sh vb.sh rfl ?_ ?_ ?_ ?_ (fun h=>Qsq h) (fun c hc h1 h2=>Qr7 _ hc h1 h2)
     ·by_cases h2:a.fill=2
      ·exact .inl (by rw [q1,h2];rfl)
      ·exact .inr ⟨by rw [q1];omega,by rw [q2,hx.resolve_left h2];rfl⟩
     ·exact fun i hi W hb=>QhZ pa i (Qb5 ga gb hf hi).1 (by have:=sa.len;omega) W hb hH1
     ·exact fun i hi W hb=>QhZ pb i (Qb5 ga gb hf hi).2 (by have:=sb.len;omega) W hb hH2
     ·intro i hi w1 w2 W u1 u2 y1 y2 g1 g2 hb hb1 hb2 hp1 hp2
      have hij:=Qb5 ga gb hf hi
      have da:=QdH hij.1
      have db:=QdH hij.2
      refine Qkl N (Hole H w W) f (Qak a i) (Qak b i) d e u1 y1 u2 y2 g1 g2 W (Hole.lt hH hb) (QaO ga hij.1) (QaO gb hij.2) (Qd7 (by decide) sa i hij.1) (Qd7 (by decide) sb i hij.2) ?_
       (Qek hb hb1 hH1 xa (fun k n c e hk=>Qg5 e hk) (QfH i) hb.size hp1) (Qek hb hb2 hH2 xb (fun k n c e hk=>Qg5 e hk) (QfH i) hb.size hp2)
      rcases hx with hx | hx
      ·have:=da.2 hx;omega
      ·have:=db.2 hx;omega
    ·rw [QnI hk hf hx]
     exact QnZ f w hH hk ga gb sa sb pa pb va.sh vb.sh hf (fun h=>hx (.inl h)) (fun h=>hx (.inr h))
   ·exact Qln f _ w hk pa pb la lb (Qle hk hf) hf
theorem ArgOk.up {H H':Nat->Prop}{w W:World}{a:PA}{h x:Sl}{f:Int} (g:ArgOk H w a h x f) (hb:Below w.heap.size w W) (hs:∀ b,b < w.heap.size->H' b->H b):ArgOk H' W a h x f:=by
 rcases g with ⟨h0,h1,H1,h2,h3⟩ | g
 ·exact .inl ⟨h0,(h1.sub hs).step hb,H1,fun b e=>by have:=h2 b e;have:=hb.size;omega,h3.step hb⟩
 ·exact .inr (PV.step (PV.sub hs g) hb)
theorem Qn0 {H:Nat->Prop} (f:Int){a b:PA}{d e:Nat}{h1 x1 h2 x2:Sl}{f1 f2:Int} (w:World) (hH:∀ b,H b->b < w.heap.size) (ga:GoodA d a) (gb:GoodA e b) (sa:SmA 1000000 a) (sb:SmA 1000000 b) (va:ArgOk H w a h1 x1 f1) (vb:ArgOk H w b h2 x2 f2) :
  Calls Tryz.prog 38 #[.int .i64 f,plV h1 x1 f1,plV h2 x2 f2] w (RtU H w (twA f a b)) :=
 Qkl (depA a+depA b+1) H f a b d e h1 x1 h2 x2 f1 f2 w hH ga gb sa sb (by omega) va vb
theorem Qjh {H:Nat->Prop} (f:Int){a b:PA}{d e:Nat}{h1 x1 h2 x2:Sl}{f1 f2:Int} (w:World) (hf:0<=f) (hf2:f<=100) (hH:∀ b,H b->b < w.heap.size) (ga:GoodA d a) (gb:GoodA e b) (sa:SmA 1000000 a) (sb:SmA 1000000 b) (va:ArgOk H w a h1 x1 f1) (vb:ArgOk H w b h2 x2 f2) :
  Calls Tryz.prog 185 #[.int .i64 (f+100),plV h1 x1 f1,plV h2 x2 f2] w (RtU H w (twA f a b)):=by
 have HS0:=hD (P3.new w h1 x1 f1 h2 x2 f2)
 have hsub:f+100 - 100=f:=by omega
 have HTW:=hD (fun W (hs:P3 w W h1 x1 f1 h2 x2 f2)=>Qn0 (H:=fun b=>H b\/b=w.heap.size+2) f W (fun b e=>by
   have:=hs.sz
   rcases e with e | e
   ·have:=hH b e;omega
   ·omega) ga gb sa sb (va.up hs.p2.bel (fun b hb e=>by
   rcases e with e | e
   ·exact e
   ·omega)) (vb.up hs.p2.bel (fun b hb e=>by
   rcases e with e | e
   ·exact e
   ·omega)))
 unfold RtU at HTW
 have hge:f+100>=100:=by omega
 generalize twA f a b=r at *
 clear ga gb sa sb va vb hH
 go_enter Tryz.func185,Tryz.ntmps185
 obtain ⟨p0,p1,p2⟩:=Qax HS0.out.p2.one
 obtain ⟨q0,q1,q2⟩:=Qax HS0.out.p2.two
 go_wp2_with fail
 try rw [hsub]
 refine (HTW.out _ HS0.out).mono ?_
 rintro e w2 ⟨h',x',f',rfl,hp,hb⟩
 have HS2:=hD (HS0.out.step hb)
 have HP:=hD hp
 clear hb hp p0 p1 p2 q0 q1 q2 HTW HS0
 obtain ⟨⟨y0,y1,y2⟩,yz⟩:=block3 HS2.out.res
 go_wp2
 refine bodyPost_ret (v := .tuple #[plV h' x' f',.int .i64 r.1]) ?_ rfl ⟨h',x',f',rfl,fun h0=>PV.sub (fun _ _ e => .inl e) (PV.lat (Lat.set3 (H:=fun b=>H b\/b=w.heap.size+2) (G:=w.heap.size+2) (.inr rfl) _ _ _) (HP.out h0)),Qaf HS2.out.p2.bel (Nat.le_add_right _ 2) _ _ _⟩
 exact Qaw (fn:=Tryz.f185) (p:=6) (u:=7) rfl _ _ (w.heap.size+2) (by rfl) (Qae HS2.out.res _ _ _)
theorem Qih {H:Nat->Prop} (f:Int) (hk:Qaz f=true) (w:World) (hH:∀ b,H b->b < w.heap.size) :
  Calls Tryz.prog 183 #[.int .i64 (f+100)] w (RtU H w (QcO f)):=by
 have HST:=hD (fun W=>Qf0 f hk W)
 have hf1:1<=f:=by rcases QcB hk with h | h | h <;> omega
 have hf2:f<=24:=by rcases QcB hk with h | h | h <;> omega
 have hsub:f+100 - 100=f:=by omega
 have hlt:¬ f+100 < 100:=by omega
 have HH:=hD hH
 unfold QjH at HST
 have HR0:=hD (heap_alloc_new w (plO nilS nilS 0))
 have HB0:=hD (bel1 w (plO nilS nilS 0))
 clear hk hH
 go_enter Tryz.func183,Tryz.ntmps183
 go_wp2_with fail
 try rw [hsub]
 refine (HST.out _).mono ?_
 rintro e w1 ⟨rfl,hb⟩
 have HR1:Hid (w1.heap[w.heap.size]?=some (plO nilS nilS 0)):=by unfold Hid;rw [hb.block _ (by simp)];exact HR0.out
 have HB1:=hD (Qaa HB0.out hb)
 clear hb HR0 HB0
 have HSA:Hid (QcO f=match QbK f with | some x=>(0,.nums [] [x]) | none=>(24,default)):=rfl
 cases hs:QbK f with
 | none =>
  have e0:QcO f=(24,default):=by rw [HSA.out,hs]
  obtain ⟨⟨y0,y1,y2⟩,yz⟩:=block3 HR1.out
  clear HST
  go_wp2
  refine bodyPost_ret (v := .tuple #[plV nilS nilS 0,.int .i64 24]) ?_ rfl (Qb9 (r:=QcO f) (by rw [e0]) (by decide) (Qaf HB1.out (Nat.le_refl _) _ _ _))
  exact Qaw (fn:=Tryz.f183) (p:=2) (u:=3) rfl _ _ w.heap.size (by rfl) (Qae HR1.out _ _ _)
 | some v =>
  have e0:QcO f=(0,.nums [] [v]):=by rw [HSA.out,hs]
  have HSZ:=hD HB1.out.size
  have HI:=hD (QbC w1 0 v 0 nilS)
  have HR2:Hid ((w1.alloc (itO 0 v 0 nilS)).heap[w.heap.size]?=some (plO nilS nilS 0)):=by unfold Hid;exact QaJ HR1.out _
  have HB2:=hD (Qaa HB1.out (bel1 w1 (itO 0 v 0 nilS)))
  obtain ⟨⟨y0,y1,y2⟩,yz⟩:=block3 HR2.out
  clear HST
  go_wp2
  refine bodyPost_ret (v := .tuple #[plV nilS (some ⟨w1.heap.size,0,none⟩,1,1) 0,.int .i64 0]) ?_ rfl (Qfz (r:=QcO f) (by rw [e0]) ?_ (Qaf HB2.out (Nat.le_refl _) _ _ _))
  ·exact Qaw (fn:=Tryz.f183) (p:=2) (u:=3) rfl _ _ w.heap.size (by rfl) (Qae HR2.out _ _ _)
  ·rw [e0,rawP]
   refine QkN (fun W hz hb => .inl ⟨none,0,rfl,rfl⟩) rfl fun i hi=>?_
   have hi0:i=0:=by simpa using hi
   subst hi0
   refine ⟨w1.heap.size,0,0,v,0,nilS,rfl,fun e=>by have:=HH.out _ e;have:=HSZ.out;omega,Qbr _ _ _ _ _ _ _,?_⟩
   exact At4.lat (H:=fun b=>b=w.heap.size) HI.out (fun e=>Nat.lt_irrefl _ (e▸(lt_blk HR1.out:w.heap.size < w1.heap.size))) (Lat.set3 (H:=fun b=>b=w.heap.size) (G:=w.heap.size) rfl _ _ _)
end Go.Proofs.YtdelgpelkfndeaaGreatDoor
