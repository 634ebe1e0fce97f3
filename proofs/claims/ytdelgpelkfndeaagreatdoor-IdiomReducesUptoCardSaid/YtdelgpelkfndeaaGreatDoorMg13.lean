/- The walks of value.Alike (elements of one class) and value.Same at any two good arrays. Printed by gen_als.py. The walks of the reference's Ints, Item and Same .. Conditions: as each theorem says. -/
import Derived.Test.YtdelgpelkfndeaaGreatDoorMgA
import Derived.Test.YtdelgpelkfndeaaGreatDoorMg10
import Derived.Test.YtdelgpelkfndeaaGreatDoorMg11
import Derived.Test.YtdelgpelkfndeaaGreatDoorMg12
import Derived.Test.YtdelgpelkfndeaaGreatDoorMg09
set_option maxRecDepth 100000
set_option maxHeartbeats 2000000
namespace Go.Proofs.YtdelgpelkfndeaaGreatDoor
open Go Go.RowKit Go.Proofs Fl
theorem Qto {x y:Nat} (hx:TF x) (hy:TF y) (h:FloatKind.f64.format.order x y=some .eq):x=y :=
 (Qrb hx hy).1 (by show (FloatKind.f64.format.order x y).getD .eq= .eq;rw [h];rfl)
theorem Qqq {x y:Nat} (hx:TF x) (hy:TF y):(FloatKind.f64.format.order x y==some .eq)=decide (x=y):=by
 by_cases e:x=y
 ·subst e
  obtain ⟨s,Z,hz,rfl,_⟩:=hx
  rw [Qjw s hz]
  simp
 ·rw [decide_eq_false e,beq_eq_false_iff_ne]
  intro h
  exact e (Qto hx hy h)
theorem QrL (x y:Nat):eqI (.mk 0 x 0 []) (.mk 0 y 0 [])=decide (x=y):=by
 by_cases h:x=y
 ·subst h;rw [decide_eq_true rfl];exact eqI_iff.2 rfl
 ·rw [decide_eq_false h];exact eqI_no.2 (fun e=>h (by injection e))
theorem QrM (x y:Int):eqI (.mk 1 0 x []) (.mk 1 0 y [])=(x==y):=by
 by_cases h:x=y
 ·subst h;rw [beq_self_eq_true];exact eqI_iff.2 rfl
 ·rw [beq_eq_false_iff_ne.2 h];exact eqI_no.2 (fun e=>h (by injection e))
theorem QrN (x y:RP):eqI (.mk 2 0 0 [x]) (.mk 2 0 0 [y])=eqR x y:=by
 by_cases h:x=y
 ·subst h;rw [eqR_iff.2 rfl];exact eqI_iff.2 rfl
 ·rw [eqR_no.2 h];exact eqI_no.2 (fun e=>h (by injection e with _ _ _ e;injection e))
structure V2B (w W:World) (p q:V8):Prop where
 one:BoxP W w.heap.size p
 two:BoxP W (w.heap.size+1) q
 bel:Below w.heap.size w W
abbrev V2BC (w W:World) (p q:V8):Prop:=((W.cell? ⟨w.heap.size,0,none⟩=some (.int .i64 p.k)/\W.cell? ⟨w.heap.size,1,none⟩=some (.slice p.b.1 p.b.2.1 p.b.2.2)/\W.cell? ⟨w.heap.size,2,none⟩=some (.int .i64 p.bn)/\W.cell? ⟨w.heap.size,3,none⟩=some (.slice p.s.1 p.s.2.1 p.s.2.2)/\W.cell? ⟨w.heap.size,4,none⟩=some (.slice p.i.1 p.i.2.1 p.i.2.2)/\W.cell? ⟨w.heap.size,5,none⟩=some (.slice p.f.1 p.f.2.1 p.f.2.2)/\W.cell? ⟨w.heap.size,6,none⟩=some (.slice p.c.1 p.c.2.1 p.c.2.2)/\W.cell? ⟨w.heap.size,7,none⟩=some (.slice p.x.1 p.x.2.1 p.x.2.2))/\(W.cell? ⟨w.heap.size+1,0,none⟩=some (.int .i64 q.k)/\W.cell? ⟨w.heap.size+1,1,none⟩=some (.slice q.b.1 q.b.2.1 q.b.2.2)/\W.cell? ⟨w.heap.size+1,2,none⟩=some (.int .i64 q.bn)/\W.cell? ⟨w.heap.size+1,3,none⟩=some (.slice q.s.1 q.s.2.1 q.s.2.2)/\W.cell? ⟨w.heap.size+1,4,none⟩=some (.slice q.i.1 q.i.2.1 q.i.2.2)/\W.cell? ⟨w.heap.size+1,5,none⟩=some (.slice q.f.1 q.f.2.1 q.f.2.2)/\W.cell? ⟨w.heap.size+1,6,none⟩=some (.slice q.c.1 q.c.2.1 q.c.2.2)/\W.cell? ⟨w.heap.size+1,7,none⟩=some (.slice q.x.1 q.x.2.1 q.x.2.2)))
theorem V2B.step {w W W':World}{p q:V8} (h:V2B w W p q) (hb:Below W.heap.size W W'):V2B w W' p q:=⟨h.one.below hb,h.two.below hb,Qaa h.bel hb⟩
theorem V2B.dr {w W:World}{p q:V8} (h:V2B w W p q):V2B w W.drew p q:=h.step (Below.refl _ W).drew
theorem V2B.self {w W:World}{p q:V8} (h:V2B w W p q):V2B w W p q:=h
theorem V2B.new (w:World) (p q:V8):V2B w ((w.alloc p.o).alloc q.o) p q:=by
 have h:=Qb3 (w.alloc p.o) q
 have e:(w.alloc p.o).heap.size=w.heap.size+1:=by simp
 rw [e] at h
 exact ⟨(Qb3 w p).below (bel1 _ _),h,bel2 w _ _⟩
theorem Qi6 {w W:World}{p q:V8} (h:V2B w W p q):V2BC w W p q/\V2B w W p q:=⟨⟨h.one,h.two⟩,h⟩
theorem a2_t {w W:World}{h1 h2:Sl}{p q:V8} (h:A2 w W h1 p h2 q):A2C w W h1 p h2 q/\A2 w W h1 p h2 q:=⟨⟨h.one.c,h.two.c⟩,h⟩
theorem Qgb {Ha Hb:Nat->Prop}{w0:World}{s s':List Nat}{l l2:List Nat}{h1 h2:Sl}{p q:V8} (ga:AV Ha w0 (.nums s l) h1 p) (gb:AV Hb w0 (.nums s' l2) h2 q) (i k:Nat) (hi:i < l.length) (hk:k < l2.length) (ha:∀ j,j < l.length->TF (l.getD j 0)) (hb:∀ j,j < l2.length->TF (l2.getD j 0)) (w:World) (hb0:Below w0.heap.size w0 w) :
  Calls Tryz.prog 171 #[p.v,.int .i64 (i:Int),q.v,.int .i64 (k:Int)] w fun e w'=>e= .returned (.bool (eqI (elA (.nums s l) i) (elA (.nums s' l2) k)))/\Below w.heap.size w w':=by
 have HCA:Hid (∀ W,V2B w W p q->Calls Tryz.prog 44 #[p.v] W fun e w'=>e= .returned (.int .i64 0)/\Below W.heap.size W w'):=fun W hs=>QaC ga W (Qaa hb0 hs.bel)
 have HCB:Hid (∀ W,V2B w W p q->Calls Tryz.prog 44 #[q.v] W fun e w'=>e= .returned (.int .i64 0)/\Below W.heap.size W w'):=fun W hs=>QaC gb W (Qaa hb0 hs.bel)
 have HNA:=hD (fun W (hs:V2B w W p q)=>Qj7 ga W (Qaa hb0 hs.bel) i hi)
 have HNB:=hD (fun W (hs:V2B w W p q)=>Qj7 gb W (Qaa hb0 hs.bel) k hk)
 have hrf:=Qqq (ha i hi) (hb k hk)
 rw [elA,elA,QrL,<- hrf]
 generalize l.getD i 0=y at HNA ⊢
 generalize l2.getD k 0=z at HNB ⊢
 clear ha hb hrf
 have HS0:=hD (V2B.new w p q)
 clear ga gb hb0 hi hk
 go_enter Tryz.func171,Tryz.ntmps171
 go_wp2_with fail
 obtain ⟨wz,hwz⟩:∃ wz,wz=(w.alloc p.o).alloc q.o:=⟨_,rfl⟩
 rw [<- hwz] at HS0
 have HWZ:=hD hwz
 clear hwz
 rw [<- HWZ.out]
 go_cut [13] from 9 (fun x wx=>x= .bool false/\V2B w wx p q)
 case first =>
  have hs0:=HS0.out.dr
  have hs00:=HS0.out
  go_region_held3 (fun W=>V2BC w W p q/\V2B w W p q)
   (first | with_reducible assumption | (with_reducible (refine Qi6 ?_);repeat (first | with_reducible assumption | with_reducible refine V2B.dr ?_)))
   (first
    | (go_at_call 44;(with_reducible refine (HCA.out _ ?_).mono ?_);exact V2B.self (by repeat (first | with_reducible assumption | with_reducible refine V2B.dr ?_));rintro e w1 ⟨rfl,hb1⟩;have hst1:V2B w w1 p q:=V2B.step (by repeat (first | with_reducible assumption | with_reducible refine V2B.dr ?_)) hb1;clear hb1)
    | (go_at_call 44;(with_reducible refine (HCB.out _ ?_).mono ?_);exact V2B.self (by repeat (first | with_reducible assumption | with_reducible refine V2B.dr ?_));rintro e w2 ⟨rfl,hb2⟩;have hst2:V2B w w2 p q:=V2B.step (by repeat (first | with_reducible assumption | with_reducible refine V2B.dr ?_)) hb2;clear hb2))
  all_goals
   go_wp2
   go_meet
   exact ⟨rfl,hst2⟩
 obtain ⟨rfl,hst⟩:=hcut
 have HST:=hD hst
 clear hst HS0 HWZ
 obtain ⟨c0,c1,c2,c3,c4,c5,c6,c7⟩:=HST.out.one
 go_wp2_with fail
 refine (HCA.out _ HST.out).mono ?_
 rintro e w3 ⟨rfl,hb⟩
 have HS3:=hD (HST.out.step hb)
 clear hb c0 c1 c2 c3 c4 c5 c6 c7 HST
 go_wp2_with fail
 have hs0:=HS3.out.dr
 have hs00:=HS3.out
 go_region_held3 (fun W=>V2BC w W p q/\V2B w W p q)
  (first | with_reducible assumption | (with_reducible (refine Qi6 ?_);repeat (first | with_reducible assumption | with_reducible refine V2B.dr ?_)))
  (first
   | (go_at_call 92;(with_reducible refine (HNA.out _ ?_).mono ?_);exact V2B.self (by repeat (first | with_reducible assumption | with_reducible refine V2B.dr ?_));rintro e w4 ⟨rfl,hb4⟩;have hst4:V2B w w4 p q:=V2B.step (by repeat (first | with_reducible assumption | with_reducible refine V2B.dr ?_)) hb4;clear hb4)
   | (go_at_call 92;(with_reducible refine (HNB.out _ ?_).mono ?_);exact V2B.self (by repeat (first | with_reducible assumption | with_reducible refine V2B.dr ?_));rintro e w5 ⟨rfl,hb5⟩;have hst5:V2B w w5 p q:=V2B.step (by repeat (first | with_reducible assumption | with_reducible refine V2B.dr ?_)) hb5;clear hb5))
 all_goals
  go_wp2
  go_ret
  exact ⟨rfl,hst5.bel⟩
theorem Qgc {Ha Hb:Nat->Prop}{w0:World}{s s':List Nat}{l l2:List Int}{h1 h2:Sl}{p q:V8} (ga:AV Ha w0 (.chars s l) h1 p) (gb:AV Hb w0 (.chars s' l2) h2 q) (i k:Nat) (hi:i < l.length) (hk:k < l2.length) (w:World) (hb0:Below w0.heap.size w0 w) :
  Calls Tryz.prog 171 #[p.v,.int .i64 (i:Int),q.v,.int .i64 (k:Int)] w fun e w'=>e= .returned (.bool (eqI (elA (.chars s l) i) (elA (.chars s' l2) k)))/\Below w.heap.size w w':=by
 have HCA:Hid (∀ W,V2B w W p q->Calls Tryz.prog 44 #[p.v] W fun e w'=>e= .returned (.int .i64 1)/\Below W.heap.size W w'):=fun W hs=>QaC ga W (Qaa hb0 hs.bel)
 have HCB:Hid (∀ W,V2B w W p q->Calls Tryz.prog 44 #[q.v] W fun e w'=>e= .returned (.int .i64 1)/\Below W.heap.size W w'):=fun W hs=>QaC gb W (Qaa hb0 hs.bel)
 have HNA:=hD (fun W (hs:V2B w W p q)=>Qcm ga i hi W (Qaa hb0 hs.bel))
 have HNB:=hD (fun W (hs:V2B w W p q)=>Qcm gb k hk W (Qaa hb0 hs.bel))
 have e1:l.getD i 0=l[i]:=by simp [List.getD,hi]
 have e2:l2.getD k 0=l2[k]:=by simp [List.getD,hk]
 rw [elA,elA,QrM,e1,e2]
 generalize l[i]=y at HNA ⊢
 generalize l2[k]=z at HNB ⊢
 clear e1 e2
 have HS0:=hD (V2B.new w p q)
 clear ga gb hb0 hi hk
 go_enter Tryz.func171,Tryz.ntmps171
 go_wp2_with fail
 obtain ⟨wz,hwz⟩:∃ wz,wz=(w.alloc p.o).alloc q.o:=⟨_,rfl⟩
 rw [<- hwz] at HS0
 have HWZ:=hD hwz
 clear hwz
 rw [<- HWZ.out]
 go_cut [13] from 9 (fun x wx=>x= .bool false/\V2B w wx p q)
 case first =>
  have hs0:=HS0.out.dr
  have hs00:=HS0.out
  go_region_held3 (fun W=>V2BC w W p q/\V2B w W p q)
   (first | with_reducible assumption | (with_reducible (refine Qi6 ?_);repeat (first | with_reducible assumption | with_reducible refine V2B.dr ?_)))
   (first
    | (go_at_call 44;(with_reducible refine (HCA.out _ ?_).mono ?_);exact V2B.self (by repeat (first | with_reducible assumption | with_reducible refine V2B.dr ?_));rintro e w1 ⟨rfl,hb1⟩;have hst1:V2B w w1 p q:=V2B.step (by repeat (first | with_reducible assumption | with_reducible refine V2B.dr ?_)) hb1;clear hb1)
    | (go_at_call 44;(with_reducible refine (HCB.out _ ?_).mono ?_);exact V2B.self (by repeat (first | with_reducible assumption | with_reducible refine V2B.dr ?_));rintro e w2 ⟨rfl,hb2⟩;have hst2:V2B w w2 p q:=V2B.step (by repeat (first | with_reducible assumption | with_reducible refine V2B.dr ?_)) hb2;clear hb2))
  all_goals
   go_wp2
   go_meet
   exact ⟨rfl,hst2⟩
 obtain ⟨rfl,hst⟩:=hcut
 have HST:=hD hst
 clear hst HS0 HWZ
 obtain ⟨c0,c1,c2,c3,c4,c5,c6,c7⟩:=HST.out.one
 go_wp2_with fail
 refine (HCA.out _ HST.out).mono ?_
 rintro e w3 ⟨rfl,hb⟩
 have HS3:=hD (HST.out.step hb)
 clear hb c0 c1 c2 c3 c4 c5 c6 c7 HST
 go_wp2_with fail
 have hs0:=HS3.out.dr
 have hs00:=HS3.out
 go_region_held3 (fun W=>V2BC w W p q/\V2B w W p q)
  (first | with_reducible assumption | (with_reducible (refine Qi6 ?_);repeat (first | with_reducible assumption | with_reducible refine V2B.dr ?_)))
  (first
   | (go_at_call 93;(with_reducible refine (HNA.out _ ?_).mono ?_);exact V2B.self (by repeat (first | with_reducible assumption | with_reducible refine V2B.dr ?_));rintro e w4 ⟨rfl,hb4⟩;have hst4:V2B w w4 p q:=V2B.step (by repeat (first | with_reducible assumption | with_reducible refine V2B.dr ?_)) hb4;clear hb4)
   | (go_at_call 93;(with_reducible refine (HNB.out _ ?_).mono ?_);exact V2B.self (by repeat (first | with_reducible assumption | with_reducible refine V2B.dr ?_));rintro e w5 ⟨rfl,hb5⟩;have hst5:V2B w w5 p q:=V2B.step (by repeat (first | with_reducible assumption | with_reducible refine V2B.dr ?_)) hb5;clear hb5))
 all_goals
  go_wp2
  go_ret
  exact ⟨rfl,hst5.bel⟩
theorem Qgd {Ha Hb:Nat->Prop}{w0:World}{s s':List Nat}{l l2:List PA}{h1 h2:Sl}{p q:V8} (ga:AV Ha w0 (.boxes s l) h1 p) (gb:AV Hb w0 (.boxes s' l2) h2 q) (i k:Nat) (hi:i < l.length) (hk:k < l2.length) (hIH:∀ (W:World) (u1 u2:Sl) (v1 v2:V8),AV Ha W (l.getD i default) u1 v1->AV Hb W (l2.getD k default) u2 v2->Calls Tryz.prog 230 #[arrV u1 v1,arrV u2 v2] W fun e w'=>e= .returned (.bool (eqR (rawP (l.getD i default)) (rawP (l2.getD k default))))/\Below W.heap.size W w') (w:World) (hb0:Below w0.heap.size w0 w) :
  Calls Tryz.prog 171 #[p.v,.int .i64 (i:Int),q.v,.int .i64 (k:Int)] w fun e w'=>e= .returned (.bool (eqI (elA (.boxes s l) i) (elA (.boxes s' l2) k)))/\Below w.heap.size w w':=by
 have HCA:Hid (∀ W,V2B w W p q->Calls Tryz.prog 44 #[p.v] W fun e w'=>e= .returned (.int .i64 2)/\Below W.heap.size W w'):=fun W hs=>QaC ga W (Qaa hb0 hs.bel)
 have HCB:Hid (∀ W,V2B w W p q->Calls Tryz.prog 44 #[q.v] W fun e w'=>e= .returned (.int .i64 2)/\Below W.heap.size W w'):=fun W hs=>QaC gb W (Qaa hb0 hs.bel)
 have HNA:=hD (fun W (hs:V2B w W p q)=>QdL (AV.step ga (Qaa hb0 hs.bel)) i hi W (Below.refl _ _))
 have HNB:=hD (fun W (hs:V2B w W p q)=>QdL (AV.step gb (Qaa hb0 hs.bel)) k hk W (Below.refl _ _))
 have HII:=hD hIH
 have e1:l.getD i default=l[i]:=by simp [List.getD,hi]
 have e2:l2.getD k default=l2[k]:=by simp [List.getD,hk]
 rw [e1,e2] at HII
 rw [elA,elA,QrN,e1,e2]
 unfold BoxR at HNA HNB
 generalize l[i]=y at HNA HII ⊢
 generalize l2[k]=z at HNB HII ⊢
 clear hIH e1 e2
 have HS0:=hD (V2B.new w p q)
 clear ga gb hb0 hi hk
 go_enter Tryz.func171,Tryz.ntmps171
 go_wp2_with fail
 obtain ⟨wz,hwz⟩:∃ wz,wz=(w.alloc p.o).alloc q.o:=⟨_,rfl⟩
 rw [<- hwz] at HS0
 have HWZ:=hD hwz
 clear hwz
 rw [<- HWZ.out]
 go_cut [13] from 9 (fun x wx=>x= .bool false/\V2B w wx p q)
 case first =>
  have hs0:=HS0.out.dr
  have hs00:=HS0.out
  go_region_held3 (fun W=>V2BC w W p q/\V2B w W p q)
   (first | with_reducible assumption | (with_reducible (refine Qi6 ?_);repeat (first | with_reducible assumption | with_reducible refine V2B.dr ?_)))
   (first
    | (go_at_call 44;(with_reducible refine (HCA.out _ ?_).mono ?_);exact V2B.self (by repeat (first | with_reducible assumption | with_reducible refine V2B.dr ?_));rintro e w1 ⟨rfl,hb1⟩;have hst1:V2B w w1 p q:=V2B.step (by repeat (first | with_reducible assumption | with_reducible refine V2B.dr ?_)) hb1;clear hb1)
    | (go_at_call 44;(with_reducible refine (HCB.out _ ?_).mono ?_);exact V2B.self (by repeat (first | with_reducible assumption | with_reducible refine V2B.dr ?_));rintro e w2 ⟨rfl,hb2⟩;have hst2:V2B w w2 p q:=V2B.step (by repeat (first | with_reducible assumption | with_reducible refine V2B.dr ?_)) hb2;clear hb2))
  all_goals
   go_wp2
   go_meet
   exact ⟨rfl,hst2⟩
 obtain ⟨rfl,hst⟩:=hcut
 have HST:=hD hst
 clear hst HS0 HWZ
 obtain ⟨c0,c1,c2,c3,c4,c5,c6,c7⟩:=HST.out.one
 go_wp2_with fail
 refine (HCA.out _ HST.out).mono ?_
 rintro e w3 ⟨rfl,hb⟩
 have HS3:=hD (HST.out.step hb)
 clear hb c0 c1 c2 c3 c4 c5 c6 c7 HST
 go_wp2_with fail
 have hs0:=HS3.out.dr
 have hs00:=HS3.out
 go_region_held3 (fun W=>V2BC w W p q/\V2B w W p q)
  (first | with_reducible assumption | (with_reducible (refine Qi6 ?_);repeat (first | with_reducible assumption | with_reducible refine V2B.dr ?_)))
  (first
   | (go_at_call 108;(with_reducible refine (HNA.out _ ?_).mono ?_);exact V2B.self (by repeat (first | with_reducible assumption | with_reducible refine V2B.dr ?_));rintro e w4 ⟨u4,v4,rfl,hav4,hb4⟩;have hst4:V2B w w4 p q:=V2B.step (by repeat (first | with_reducible assumption | with_reducible refine V2B.dr ?_)) hb4;have hat4:AvAt Ha y u4 v4 w4:=AV.step hav4 hb4;clear hav4;clear hb4)
   | (go_at_call 108;(with_reducible refine (HNB.out _ ?_).mono ?_);exact V2B.self (by repeat (first | with_reducible assumption | with_reducible refine V2B.dr ?_));rintro e w5 ⟨u5,v5,rfl,hav5,hb5⟩;have hst5:V2B w w5 p q:=V2B.step (by repeat (first | with_reducible assumption | with_reducible refine V2B.dr ?_)) hb5;have hat5:AvAt Hb z u5 v5 w5:=AV.step hav5 hb5;have hat45:AvAt Ha y u4 v4 w5:=AvAt.step (by repeat (first | with_reducible assumption | with_reducible refine AvAt.dr ?_)) hb5;clear hav5;clear hb5)
   | (go_at_call 230;(with_reducible refine (HII.out _ _ _ _ _ ?_ ?_).mono ?_);exact AvAt.self (by repeat (first | with_reducible assumption | with_reducible refine AvAt.dr ?_));exact AvAt.self (by repeat (first | with_reducible assumption | with_reducible refine AvAt.dr ?_));rintro e w6 ⟨rfl,hb6⟩;have hst6:V2B w w6 p q:=V2B.step (by repeat (first | with_reducible assumption | with_reducible refine V2B.dr ?_)) hb6;clear hb6))
 all_goals
  go_wp2
  go_ret
  exact ⟨rfl,hst6.bel⟩
def SmR (n:Nat) (al:Nat->Bool) (w:World) (e:Ending) (w':World):Prop:=∃ r,e= .returned (.bool r)/\(r=true↔∀ i,i < n->al i=true)/\Below w.heap.size w w'
theorem Qtp {n:Nat}{al:Nat->Bool}{w w':World}{i:Nat} (hi:i < n) (h:al i=false) (hb:Below w.heap.size w w'):SmR n al w (.returned (.bool false)) w':=⟨false,rfl,⟨fun e=>absurd e (by decide),fun e=>by rw [e i hi] at h;exact absurd h (by decide)⟩,hb⟩
theorem QrO {n:Nat}{al:Nat->Bool}{w w':World} (h:∀ j,j < n->al j=true) (hb:Below w.heap.size w w'):SmR n al w (.returned (.bool true)) w':=⟨true,rfl,⟨fun _=>h,fun _=>rfl⟩,hb⟩
theorem QmX {Ha Hb:Nat->Prop}{a b:PA}{h1 h2:Sl}{p q:V8} (w:World) (ga:AV Ha w a h1 p) (gb:AV Hb w b h2 q) (hs1:a.shape.length<=1048576) (hs2:b.shape.length<=1048576) (hne:¬ a.shape=b.shape) :
  Calls Tryz.prog 230 #[arrV h1 p,arrV h2 q] w fun e w'=>e= .returned (.bool false)/\Below w.heap.size w w':=by
 have HSS:Hid (∀ W,A2 w W h1 p h2 q->Calls Tryz.prog 253 #[sv h1,sv h2] W fun e w'=>e= .returned (.bool (decide (a.shape=b.shape)))/\Below W.heap.size W w'):=fun W hW=>Qed ga.shape gb.shape hs1 hs2 W hW.bel
 have HCA:=hD (fun W (hW:A2 w W h1 p h2 q)=>QaC ga W hW.bel)
 have HCB:=hD (fun W (hW:A2 w W h1 p h2 q)=>QaC gb W hW.bel)
 have HLA:=hD (fun W (hW:A2 w W h1 p h2 q)=>Qbj ga W hW.bel)
 have HLB:=hD (fun W (hW:A2 w W h1 p h2 q)=>Qbj gb W hW.bel)
 rw [decide_eq_false hne] at HSS
 generalize a.len=n at *
 generalize b.len=m at *
 generalize a.fill=z at *
 generalize b.fill=z9 at *
 have HS0:=hD (A2.new w h1 h2 p q)
 clear ga gb hs1 hs2
 go_enter Tryz.func230,Tryz.ntmps230
 go_wp2_with fail
 obtain ⟨wz,hwz⟩:∃ wz,wz=(w.alloc (arrO h1 p)).alloc (arrO h2 q):=⟨_,rfl⟩
 rw [<- hwz] at HS0
 have HWZ:=hD hwz
 clear hwz
 rw [<- HWZ.out]
 have HSSn:=hD (fun n:LatW wz=>HSS.out _ (HS0.out.step n.h))
 have hL1:=LatW.cell (w:=wz) (g:=w.heap.size) HS0.out.one.lt
 have hL2:=LatW.cell (w:=wz) (g:=w.heap.size+1) HS0.out.two.lt
 obtain ⟨c0,c1,c2,c3,c4,c5,c6,c7,c8⟩:=HS0.out.one.c
 obtain ⟨g0,g1,g2,g3,g4,g5,g6,g7,g8⟩:=HS0.out.two.c
 refine QaA (by kernel_rfl) (by kernel_rfl) ?_
 repeat (go_big_quiet_step (first | (go_at_call 253;with_reducible refine QaM (HSSn.out _))))
 refine wpQuiet_nil ?_
 intro _ hw'
 obtain ⟨nq,hw2⟩:=hw'
 subst hw2
 clear hL1 hL2
 go_wp2
 go_ret
 exact ⟨rfl,(HS0.out.step nq.h).bel⟩
theorem QmY {Ha Hb:Nat->Prop}{a b:PA}{h1 h2:Sl}{p q:V8} (w:World) (ga:AV Ha w a h1 p) (gb:AV Hb w b h2 q) (hs1:a.shape.length<=1048576) (hs2:b.shape.length<=1048576) (hse:a.shape=b.shape) (hfe:¬ a.fill=b.fill) :
  Calls Tryz.prog 230 #[arrV h1 p,arrV h2 q] w fun e w'=>e= .returned (.bool false)/\Below w.heap.size w w':=by
 have HSS:Hid (∀ W,A2 w W h1 p h2 q->Calls Tryz.prog 253 #[sv h1,sv h2] W fun e w'=>e= .returned (.bool (decide (a.shape=b.shape)))/\Below W.heap.size W w'):=fun W hW=>Qed ga.shape gb.shape hs1 hs2 W hW.bel
 have HCA:=hD (fun W (hW:A2 w W h1 p h2 q)=>QaC ga W hW.bel)
 have HCB:=hD (fun W (hW:A2 w W h1 p h2 q)=>QaC gb W hW.bel)
 have HLA:=hD (fun W (hW:A2 w W h1 p h2 q)=>Qbj ga W hW.bel)
 have HLB:=hD (fun W (hW:A2 w W h1 p h2 q)=>Qbj gb W hW.bel)
 rw [decide_eq_true hse] at HSS
 have zz:((a.fill:Int) != (b.fill:Int))=true:=by simp;omega
 generalize a.len=n at *
 generalize b.len=m at *
 generalize a.fill=z at *
 generalize b.fill=z9 at *
 have HS0:=hD (A2.new w h1 h2 p q)
 clear ga gb hs1 hs2 hse
 go_enter Tryz.func230,Tryz.ntmps230
 go_wp2_with fail
 obtain ⟨wz,hwz⟩:∃ wz,wz=(w.alloc (arrO h1 p)).alloc (arrO h2 q):=⟨_,rfl⟩
 rw [<- hwz] at HS0
 have HWZ:=hD hwz
 clear hwz
 rw [<- HWZ.out]
 have HSSn:=hD (fun n:LatW wz=>HSS.out _ (HS0.out.step n.h))
 have HCAn:=hD (fun n:LatW wz=>HCA.out _ (HS0.out.step n.h))
 have HCBn:=hD (fun n:LatW wz=>HCB.out _ (HS0.out.step n.h))
 have hL1:=LatW.cell (w:=wz) (g:=w.heap.size) HS0.out.one.lt
 have hL2:=LatW.cell (w:=wz) (g:=w.heap.size+1) HS0.out.two.lt
 obtain ⟨c0,c1,c2,c3,c4,c5,c6,c7,c8⟩:=HS0.out.one.c
 obtain ⟨g0,g1,g2,g3,g4,g5,g6,g7,g8⟩:=HS0.out.two.c
 refine QaA (by kernel_rfl) (by kernel_rfl) ?_
 repeat (go_big_quiet_step (first | (go_at_call 253;with_reducible refine QaM (HSSn.out _)) | (go_at_call 44;with_reducible refine QaM (HCAn.out _)) | (go_at_call 44;with_reducible refine QaM (HCBn.out _))))
 refine wpQuiet_nil ?_
 intro _ hw'
 obtain ⟨nq,hw2⟩:=hw'
 subst hw2
 clear hL1 hL2
 go_wp2
 go_ret
 exact ⟨rfl,(HS0.out.step nq.h).bel⟩
theorem QmZ {Ha Hb:Nat->Prop}{a b:PA}{h1 h2:Sl}{p q:V8} (w:World) (ga:AV Ha w a h1 p) (gb:AV Hb w b h2 q) (hs1:a.shape.length<=1048576) (hs2:b.shape.length<=1048576) (hse:a.shape=b.shape) (hfe:a.fill=b.fill) (hle:a.len=b.len) (hl:a.len<=1000000) (al:Nat->Bool)
  (hAL:∀ i,i < a.len->∀ W,Below w.heap.size w W->Calls Tryz.prog 171 #[p.v,.int .i64 (i:Int),q.v,.int .i64 (i:Int)] W fun e w'=>e= .returned (.bool (al i))/\Below W.heap.size W w') :
  Calls Tryz.prog 230 #[arrV h1 p,arrV h2 q] w (SmR a.len al w):=by
 have HSS:Hid (∀ W,A2 w W h1 p h2 q->Calls Tryz.prog 253 #[sv h1,sv h2] W fun e w'=>e= .returned (.bool (decide (a.shape=b.shape)))/\Below W.heap.size W w'):=fun W hW=>Qed ga.shape gb.shape hs1 hs2 W hW.bel
 have HCA:=hD (fun W (hW:A2 w W h1 p h2 q)=>QaC ga W hW.bel)
 have HCB:=hD (fun W (hW:A2 w W h1 p h2 q)=>QaC gb W hW.bel)
 have HLA:=hD (fun W (hW:A2 w W h1 p h2 q)=>Qbj ga W hW.bel)
 have HLB:=hD (fun W (hW:A2 w W h1 p h2 q)=>Qbj gb W hW.bel)
 rw [decide_eq_true hse] at HSS
 rw [<- hfe] at HCB
 rw [<- hle] at HLB
 have zz:((a.fill:Int) != (a.fill:Int))=false:=by simp
 have nn:((a.len:Int) != (a.len:Int))=false:=by simp
 have HAL:=hD hAL
 generalize a.len=n at *
 generalize b.len=m at *
 generalize a.fill=z at *
 generalize b.fill=z9 at *
 have HS0:=hD (A2.new w h1 h2 p q)
 clear ga gb hs1 hs2 hse hAL
 go_enter Tryz.func230,Tryz.ntmps230
 go_wp2_with fail
 obtain ⟨wz,hwz⟩:∃ wz,wz=(w.alloc (arrO h1 p)).alloc (arrO h2 q):=⟨_,rfl⟩
 rw [<- hwz] at HS0
 have HWZ:=hD hwz
 clear hwz
 rw [<- HWZ.out]
 go_cut [29] from 6 (fun x wx=>x= .bool false/\A2 w wx h1 p h2 q)
 case first =>
  have hs0:=HS0.out.dr
  have hs00:=HS0.out
  go_region_held3 (fun W=>A2C w W h1 p h2 q/\A2 w W h1 p h2 q)
   (first | with_reducible assumption | (with_reducible (refine a2_t ?_);repeat (first | with_reducible assumption | with_reducible refine A2.dr ?_)))
   (first
    | (go_at_call 253;(with_reducible refine (HSS.out _ ?_).mono ?_);exact A2.self (by repeat (first | with_reducible assumption | with_reducible refine A2.dr ?_));rintro e w1 ⟨rfl,hb1⟩;have hst1:A2 w w1 h1 p h2 q:=A2.step (by repeat (first | with_reducible assumption | with_reducible refine A2.dr ?_)) hb1;clear hb1)
    | (go_at_call 44;(with_reducible refine (HCA.out _ ?_).mono ?_);exact A2.self (by repeat (first | with_reducible assumption | with_reducible refine A2.dr ?_));rintro e w2 ⟨rfl,hb2⟩;have hst2:A2 w w2 h1 p h2 q:=A2.step (by repeat (first | with_reducible assumption | with_reducible refine A2.dr ?_)) hb2;clear hb2)
    | (go_at_call 44;(with_reducible refine (HCB.out _ ?_).mono ?_);exact A2.self (by repeat (first | with_reducible assumption | with_reducible refine A2.dr ?_));rintro e w3 ⟨rfl,hb3⟩;have hst3:A2 w w3 h1 p h2 q:=A2.step (by repeat (first | with_reducible assumption | with_reducible refine A2.dr ?_)) hb3;clear hb3)
    | (go_at_call 23;(with_reducible refine (HLA.out _ ?_).mono ?_);exact A2.self (by repeat (first | with_reducible assumption | with_reducible refine A2.dr ?_));rintro e w4 ⟨rfl,hb4⟩;have hst4:A2 w w4 h1 p h2 q:=A2.step (by repeat (first | with_reducible assumption | with_reducible refine A2.dr ?_)) hb4;clear hb4)
    | (go_at_call 23;(with_reducible refine (HLB.out _ ?_).mono ?_);exact A2.self (by repeat (first | with_reducible assumption | with_reducible refine A2.dr ?_));rintro e w5 ⟨rfl,hb5⟩;have hst5:A2 w w5 h1 p h2 q:=A2.step (by repeat (first | with_reducible assumption | with_reducible refine A2.dr ?_)) hb5;clear hb5))
  all_goals
   go_wp2
   go_meet
   exact ⟨rfl,hst5⟩
 obtain ⟨rfl,hst⟩:=hcut
 have HST:=hD hst
 clear hst HS0 HWZ
 obtain ⟨c0,c1,c2,c3,c4,c5,c6,c7,c8⟩:=HST.out.one.c
 go_wp2_with fail
 refine (HLA.out _ HST.out).mono ?_
 rintro e w3 ⟨rfl,hb⟩
 have HS3:=hD (HST.out.step hb)
 clear hb c0 c1 c2 c3 c4 c5 c6 c7 c8 HST HCA HCB HLA HLB HSS
 go_wp2
 go_loopw [33] (fun iv wr=>∃ i:Nat,i<=n/\iv= .int .i64 (i:Int)/\(∀ j,j < i->al j=true)/\A2 w wr h1 p h2 q) (fun iv _=>n - (intOf iv).toNat)
 case atStart=>exact ⟨0,Nat.zero_le _,rfl,fun j hj=>absurd hj (Nat.not_lt_zero _),HS3.out⟩
 case round =>
  obtain ⟨i,hi,rfl,hal,hti⟩:=hrel
  have HTI:=hD hti
  have HJ:=hD hal
  clear hti hal
  by_cases hlt:i < n
  ·have hlt2:(i:Int) < (n:Int):=by omega
   obtain ⟨c0,c1,c2,c3,c4,c5,c6,c7,c8⟩:=HTI.out.one.c
   obtain ⟨g0,g1,g2,g3,g4,g5,g6,g7,g8⟩:=HTI.out.two.c
   go_wp2_with fail
   refine (HAL.out i hlt _ HTI.out.bel).mono ?_
   rintro e w4 ⟨rfl,hb⟩
   have HT4:=hD (HTI.out.step hb)
   clear hb c0 c1 c2 c3 c4 c5 c6 c7 c8 g0 g1 g2 g3 g4 g5 g6 g7 g8
   cases hali:al i with
   | true =>
    have HA:=hD hali
    clear hali
    go_wp2
    go_roundw
    case rel =>
     refine ⟨i+1,by omega,by go_num,fun j hj=>?_,HT4.out⟩
     by_cases e:j=i
     ·subst e;exact HA.out
     ·exact HJ.out j (by omega)
    case measure=>simp [intOf];omega
   | false =>
    have HA:=hD hali
    clear hali
    go_wp2
    go_ret
    exact Qtp hlt HA.out HT4.out.bel
  ·have hge:¬ (i:Int) < (n:Int):=by omega
   go_wp2
   go_ret
   exact QrO (fun j hj=>HJ.out j (by omega)) HTI.out.bel
theorem Qk1 {Ha Hb:Nat->Prop}{a b:PA}{h1 h2:Sl}{p q:V8} (w:World) (ga:AV Ha w a h1 p) (gb:AV Hb w b h2 q) (hs1:a.shape.length<=1048576) (hs2:b.shape.length<=1048576) (hnm:a.shape=b.shape->a.len=b.len) (hl:a.len<=1000000)
  (hAL:a.fill=b.fill->∀ i,i < a.len->i < b.len->∀ W,Below w.heap.size w W->Calls Tryz.prog 171 #[p.v,.int .i64 (i:Int),q.v,.int .i64 (i:Int)] W fun e w'=>e= .returned (.bool (eqI (elA a i) (elA b i)))/\Below W.heap.size W w') :
  Calls Tryz.prog 230 #[arrV h1 p,arrV h2 q] w fun e w'=>e= .returned (.bool (eqR (rawP a) (rawP b)))/\Below w.heap.size w w':=by
 by_cases h3:a.shape=b.shape
 ·by_cases h4:a.fill=b.fill
  ·have h5:=hnm h3
   refine (QmZ w ga gb hs1 hs2 h3 h4 h5 hl (fun i=>eqI (elA a i) (elA b i)) (fun i hi W hb=>hAL h4 i hi (by omega) W hb)).mono ?_
   rintro e w' ⟨r,rfl,hr,hb⟩
   refine ⟨?_,hb⟩
   have:r=eqR (rawP a) (rawP b):=by
    rw [Bool.eq_iff_iff,hr,eqR_iff,QgU]
    exact ⟨fun h=>⟨h3,h4,h5,fun i hi=>eqI_iff.1 (h i hi)⟩,fun h i hi=>eqI_iff.2 (h.2.2.2 i hi)⟩
   rw [this]
  ·rw [eqR_no.2 (fun e=>h4 ((QgU a b).1 e).2.1)]
   exact QmY w ga gb hs1 hs2 h3 h4
 ·rw [eqR_no.2 (fun e=>h3 ((QgU a b).1 e).1)]
  exact QmX w ga gb hs1 hs2 h3
theorem QpA {s:List Nat}{n m:Nat} (h1:OkSh s n) (h2:OkSh s m):n=m:=by rw [<- h1.2.2,<- h2.2.2]
theorem QhS:∀ (d:Nat) (Ha Hb:Nat->Prop) (a b:PA) (h1 h2:Sl) (p q:V8) (w:World),GoodA d a->SmA 1000000 a->GoodA d b->SmA 1000000 b->AV Ha w a h1 p->AV Hb w b h2 q ->
  Calls Tryz.prog 230 #[arrV h1 p,arrV h2 q] w fun e w'=>e= .returned (.bool (eqR (rawP a) (rawP b)))/\Below w.heap.size w w'
 | 0,_,_,_,_,_,_,_,_,_,hg,_,_,_,_,_=>absurd hg.sh.1 (Nat.lt_irrefl _)
 | d+1,Ha,Hb,a,b,h1,h2,p,q,w,hg,hs,hg2,hs2,ga,gb=>by
  have s1:a.shape.length<=8:=hg.sh.2.1
  have s2:b.shape.length<=8:=hg2.sh.2.1
  refine Qk1 w ga gb (by omega) (by omega) (fun e=>QpA hg.sh.2 (by rw [e];exact hg2.sh.2)) hs.len fun hf i hi hk W hb=>?_
  cases a with
  | nums s l =>
   cases b with
   | nums s' l'=>exact Qgb ga gb i i hi hk hg.nums hg2.nums W hb
   | chars s' l'=>exact absurd hf (show ¬ (0:Nat)=1 by decide)
   | boxes s' l'=>exact absurd hf (show ¬ (0:Nat)=2 by decide)
  | chars s l =>
   cases b with
   | nums s' l'=>exact absurd hf (show ¬ (1:Nat)=0 by decide)
   | chars s' l'=>exact Qgc ga gb i i hi hk W hb
   | boxes s' l'=>exact absurd hf (show ¬ (1:Nat)=2 by decide)
  | boxes s l =>
   cases b with
   | nums s' l'=>exact absurd hf (show ¬ (2:Nat)=0 by decide)
   | chars s' l'=>exact absurd hf (show ¬ (2:Nat)=1 by decide)
   | boxes s' l' =>
    have hi2:i < l.length:=hi
    have hk2:i < l'.length:=hk
    have e1:l.getD i default=l[i]:=by simp [List.getD,hi2]
    have e2:l'.getD i default=l'[i]:=by simp [List.getD,hk2]
    refine Qgd ga gb i i hi2 hk2 (fun W u1 u2 v1 v2 g1 g2=>?_) W hb
    rw [e1] at g1 ⊢
    rw [e2] at g2 ⊢
    exact QhS d Ha Hb l[i] l'[i] u1 u2 v1 v2 W (by simpa using hg.boxes i hi2) (hs.boxes i hi2) (by simpa using hg2.boxes i hk2) (hs2.boxes i hk2) g1 g2
theorem Qge {Ha Hb:Nat->Prop}{a b:PA}{h1 h2:Sl}{p q:V8}{w0:World} (d:Nat) (hg:GoodA (d+1) a) (hs:SmA 1000000 a) (hg2:GoodA (d+1) b) (hs2:SmA 1000000 b) (ga:AV Ha w0 a h1 p) (gb:AV Hb w0 b h2 q) (hf:a.fill=b.fill) (i k:Nat) (hi:i < a.len) (hk:k < b.len) (w:World) (hb:Below w0.heap.size w0 w) :
  Calls Tryz.prog 171 #[p.v,.int .i64 (i:Int),q.v,.int .i64 (k:Int)] w fun e w'=>e= .returned (.bool (eqI (elA a i) (elA b k)))/\Below w.heap.size w w':=by
 cases a with
 | nums s l =>
  cases b with
  | nums s' l'=>exact Qgb ga gb i k hi hk hg.nums hg2.nums w hb
  | chars s' l'=>exact absurd hf (show ¬ (0:Nat)=1 by decide)
  | boxes s' l'=>exact absurd hf (show ¬ (0:Nat)=2 by decide)
 | chars s l =>
  cases b with
  | nums s' l'=>exact absurd hf (show ¬ (1:Nat)=0 by decide)
  | chars s' l'=>exact Qgc ga gb i k hi hk w hb
  | boxes s' l'=>exact absurd hf (show ¬ (1:Nat)=2 by decide)
 | boxes s l =>
  cases b with
  | nums s' l'=>exact absurd hf (show ¬ (2:Nat)=0 by decide)
  | chars s' l'=>exact absurd hf (show ¬ (2:Nat)=1 by decide)
  | boxes s' l' =>
   have hi2:i < l.length:=hi
   have hk2:k < l'.length:=hk
   have e1:l.getD i default=l[i]:=by simp [List.getD,hi2]
   have e2:l'.getD k default=l'[k]:=by simp [List.getD,hk2]
   refine Qgd ga gb i k hi2 hk2 (fun W u1 u2 v1 v2 g1 g2=>?_) w hb
   rw [e1] at g1 ⊢
   rw [e2] at g2 ⊢
   exact QhS d Ha Hb l[i] l'[k] u1 u2 v1 v2 W (by simpa using hg.boxes i hi2) (hs.boxes i hi2) (by simpa using hg2.boxes k hk2) (hs2.boxes k hk2) g1 g2
theorem QrP {a b:Nat} (ha:TF a) (hb:TF b) (hn:a≠b) (w:World):Calls Tryz.prog 169 #[.float .f64 a,.float .f64 b] w fun e w'=>e= .returned (.bool false)/\w=w':=by
 have h1:(FloatKind.f64.format.order a b==some .eq)=false:=by rw [Qqq ha hb];exact decide_eq_false hn
 have h2:=beq_eq_false_iff_ne.1 h1
 clear ha hb hn
 go_enter Tryz.func169,Tryz.ntmps169
 go_wp2
 go_ret
 exact ⟨rfl,rfl⟩
theorem QpB (va vb:Value) (s t:List Int) (w:World) (ha:Reads1 w va (s.map (Value.int .i64))) (hb:Reads1 w vb (t.map (Value.int .i64))) (hl:s.length<=1048576) :
  Calls Tryz.prog 105 #[va,vb] w fun e w'=>e= .returned (.bool (decide (s=t)))/\Below w.heap.size w w':=by
 obtain ⟨A,n,c,rfl,hn,hcell⟩:=Qcz ha
 obtain ⟨A2,n2,c2,rfl,hn2,hcell2⟩:=Qcz hb
 have HC:=hD hcell
 have HC2:=hD hcell2
 have HN:=hD hn
 have HN2:=hD hn2
 by_cases hnn:n2=n
 ·subst hnn
  have hnb:n2<=1048576:=by omega
  have hne:((n2:Int) != (n2:Int))=false:=by simp
  clear ha hb hl hn hn2 hcell hcell2
  obtain ⟨r,hr⟩:∃ r,r=decide (s=t):=⟨_,rfl⟩
  have HR:=hD hr
  rw [<- hr]
  clear hr
  go_enter Tryz.func105,Tryz.ntmps105
  go_wp2
  go_loopw [5] (fun i wr=>∃ k:Nat,k<=n2/\i= .int .i64 (k:Int)/\(∀ j,j < k->s[j]?=t[j]?)/\Below w.heap.size w wr) (fun i _=>n2 - (intOf i).toNat)
  case atStart=>exact ⟨0,Nat.zero_le _,rfl,fun j hj=>absurd hj (Nat.not_lt_zero _),Below.refl _ _⟩
  case round =>
   obtain ⟨k,hk,rfl,hj,hbl⟩:=hrel
   have HBL:=hD hbl
   have HJ:=hD hj
   clear hj
   by_cases hlt:k < n2
   ·have hks:k < s.length:=by have:=HN.out;omega
    have hkt:k < t.length:=by have:=HN2.out;omega
    obtain ⟨b,o,rfl,hce⟩:=HC.out k hks
    obtain ⟨b',o',rfl,hce'⟩:=HC2.out k hkt
    have c1:=QaB hbl hce
    have c2':=QaB hbl hce'
    have HS:Hid (s[k]?=some s[k]):=List.getElem?_eq_getElem hks
    have HT:Hid (t[k]?=some t[k]):=List.getElem?_eq_getElem hkt
    generalize s[k]=x at c1 HS
    generalize t[k]=y at c2' HT
    have hlt2:(k:Int) < (n2:Int):=by omega
    clear hce hce' hbl
    by_cases hxy:x=y
    ·subst hxy
     have hxe:(x != x)=false:=by simp
     go_wp2
     go_quiet (fail)
     go_wp2
     go_roundw
     case rel =>
      refine ⟨k+1,by omega,by go_num,fun j hj=>?_,Qao HBL.out _⟩
      by_cases e:j=k
      ·rw [e,HS.out,HT.out]
      ·exact HJ.out j (by omega)
     case measure=>simp [intOf];omega
    ·have hxe:(x != y)=true:=by simpa using hxy
     have HRF:Hid (r=false):=by
      unfold Hid
      rw [HR.out]
      refine decide_eq_false fun e=>hxy ?_
      have h1:=HS.out
      rw [e,HT.out] at h1
      exact (Option.some.inj h1).symm
     obtain rfl:=HRF.out
     clear hxy
     go_wp2
     go_quiet (fail)
     go_wp2
     go_ret
     exact ⟨rfl,Qao HBL.out _⟩
   ·have hge:¬ (k:Int) < (n2:Int):=by omega
    have HRF:Hid (r=true):=by
     unfold Hid
     rw [HR.out]
     refine decide_eq_true (List.ext_getElem? fun j=>?_)
     by_cases hj:j < k
     ·exact HJ.out j hj
     ·have h1:=HN.out
      have h2:=HN2.out
      rw [List.getElem?_eq_none (by omega),List.getElem?_eq_none (by omega)]
    obtain rfl:=HRF.out
    clear hlt hbl
    go_wp2
    go_ret
    exact ⟨rfl,HBL.out⟩
 ·have hne:((n:Int) != (n2:Int))=true:=by simp;omega
  have hst:s≠t:=fun e=>hnn (by have h1:=hn;have h2:=hn2;rw [e] at h1;omega)
  rw [decide_eq_false hst]
  clear ha hb hl hn hn2 hcell hcell2 hst hnn
  go_enter Tryz.func105,Tryz.ntmps105
  go_wp2
  go_ret
  exact ⟨rfl,Below.refl _ _⟩
structure Tw3 (w:World) (h x:Sl) (f:Int) (h' x':Sl) (f':Int) (W:World):Prop where
 one:At3 W w.heap.size 0 h x f
 two:At3 W (w.heap.size+1) 0 h' x' f'
 bel:Below w.heap.size w W
theorem Tw3.new (w:World) (h x:Sl) (f:Int) (h' x':Sl) (f':Int):Tw3 w h x f h' x' f' ((w.alloc (plO h x f)).alloc (plO h' x' f')):=by
 have g:=Qbd (w.alloc (plO h x f)) h' x' f'
 have e:(w.alloc (plO h x f)).heap.size=w.heap.size+1:=by simp
 rw [e] at g
 exact ⟨(Qbd w h x f).of fun j=>(bel1 _ _).cell (p:=⟨w.heap.size,j,none⟩) (by simp),g,bel2 _ _ _⟩
theorem Tw3.step {w W W':World}{h x h' x':Sl}{f f':Int} (g:Tw3 w h x f h' x' f' W) (hb:Below W.heap.size W W'):Tw3 w h x f h' x' f' W' :=
 ⟨g.one.of fun j=>hb.cell (p:=⟨w.heap.size,j,none⟩) g.one.lt,g.two.of fun j=>hb.cell (p:=⟨w.heap.size+1,j,none⟩) g.two.lt,Qaa g.bel hb⟩
structure Tw4 (w:World) (k:Int) (n:Nat) (c:Int) (x:Sl) (k':Int) (n':Nat) (c':Int) (x':Sl) (W:World):Prop where
 one:At4 W w.heap.size 0 k n c x
 two:At4 W (w.heap.size+1) 0 k' n' c' x'
 bel:Below w.heap.size w W
theorem Tw4.new (w:World) (k:Int) (n:Nat) (c:Int) (x:Sl) (k':Int) (n':Nat) (c':Int) (x':Sl):Tw4 w k n c x k' n' c' x' ((w.alloc (itO k n c x)).alloc (itO k' n' c' x')):=by
 have g:=QbC (w.alloc (itO k n c x)) k' n' c' x'
 have e:(w.alloc (itO k n c x)).heap.size=w.heap.size+1:=by simp
 rw [e] at g
 exact ⟨(QbC w k n c x).of fun j=>(bel1 _ _).cell (p:=⟨w.heap.size,j,none⟩) (by simp),g,bel2 _ _ _⟩
theorem Tw4.step {w W W':World}{k:Int}{n:Nat}{c:Int}{x:Sl}{k':Int}{n':Nat}{c':Int}{x':Sl} (g:Tw4 w k n c x k' n' c' x' W) (hb:Below W.heap.size W W'):Tw4 w k n c x k' n' c' x' W' :=
 ⟨g.one.of fun j=>hb.cell (p:=⟨w.heap.size,j,none⟩) g.one.lt,g.two.of fun j=>hb.cell (p:=⟨w.heap.size+1,j,none⟩) g.two.lt,Qaa g.bel hb⟩
def SamB (t u:RP):Prop:=∀ (H H':Nat->Prop) (h x h' x':Sl) (f f':Int) (w:World),PV H w t h x f->PV H' w u h' x' f' ->
  Calls Tryz.prog 55 #[plV h x f,plV h' x' f'] w fun e w'=>e= .returned (.bool (eqR t u))/\Below w.heap.size w w'
def ItmB (t u:RI):Prop:=∀ (H H':Nat->Prop) (k:Int) (n:Nat) (c:Int) (x:Sl) (k':Int) (n':Nat) (c':Int) (x':Sl) (w:World),IV H w t k n c x->IV H' w u k' n' c' x' ->
  Calls Tryz.prog 106 #[itV k n c x,itV k' n' c' x'] w fun e w'=>e= .returned (.bool (eqI t u))/\Below w.heap.size w w'
theorem QhT (kind:Int) (num:Nat) (char:Int) (box:List RP) (kind':Int) (num':Nat) (char':Int) (box':List RP) (hnum:TF num) (hnum':TF num') (hl:box.length<=1048576) (hih:∀ i (hi:i < box.length) (hi':i < box'.length),SamB box[i] box'[i]):ItmB (.mk kind num char box) (.mk kind' num' char' box'):=by
 intro H H' k n c x k' n' c' x' w hp hq
 obtain ⟨rfl,rfl,rfl,hx,hk⟩:=hp.open_
 obtain ⟨rfl,rfl,rfl,hx',hk'⟩:=hq.open_
 obtain ⟨A,m,cc⟩:=x
 obtain ⟨A',m',cc'⟩:=x'
 dsimp only at hx hx' hk hk'
 have hmb:m<=1048576:=by omega
 have HM:=hD hx
 have HM':=hD hx'
 have HK:=hD hk
 have HK':=hD hk'
 have HIH:=hD hih
 unfold SamB at HIH
 have HT0:=hD (Tw4.new w k n c (A,m,cc) k' n' c' (A',m',cc'))
 obtain ⟨r,hr⟩:∃ r,r=eqI (.mk k n c box) (.mk k' n' c' box'):=⟨_,rfl⟩
 have HR:=hD hr
 rw [<- hr]
 clear hp hq hx hx' hk hk' hih hl hr
 by_cases hkk:k=k'
 ·subst hkk
  have e1:(k != k)=false:=by simp
  by_cases hcc:c=c'
  ·subst hcc
   have e2:(c != c)=false:=by simp
   by_cases hnn:n=n'
   ·subst hnn
    have HBT:=hD (fun W=>Qme hnum W)
    by_cases hmm:m=m'
    ·subst hmm
     have e3:((m:Int) != (m:Int))=false:=by simp
     obtain ⟨W,hW⟩:∃ W,W=(w.alloc (itO k n c (A,m,cc))).alloc (itO k n c (A',m,cc')):=⟨_,rfl⟩
     have HW:=hD hW
     rw [<- hW] at HT0
     clear hnum hnum' hW
     go_enter Tryz.func106,Tryz.ntmps106
     go_wp2_with fail
     rw [<- HW.out]
     refine (HBT.out _).mono ?_
     rintro e w' ⟨rfl,rfl⟩
     obtain ⟨a0,a1,a2,a3⟩:=Qfj HT0.out.one
     obtain ⟨b0,b1,b2,b3⟩:=Qfj HT0.out.two
     dsimp only at a3 b3
     go_wp2
     clear a0 a1 a2 a3 b0 b1 b2 b3
     go_loopw [5,5] (fun _ iv wr=>∃ i:Nat,i<=m/\iv= .int .i64 (i:Int)/\(∀ j,j < i->box[j]?=box'[j]?)/\Below W.heap.size W wr) (fun _ iv _=>m - (intOf iv).toNat)
     case atStart=>exact ⟨0,Nat.zero_le _,rfl,fun j hj=>absurd hj (Nat.not_lt_zero _),Below.refl _ _⟩
     case round =>
      obtain ⟨i,hi,rfl,hj,hbl⟩:=hrel
      have HJ:=hD hj
      clear hj
      have HTR:=hD (HT0.out.step hbl)
      obtain ⟨a0,a1,a2,a3⟩:=Qfj HTR.out.one
      obtain ⟨b0,b1,b2,b3⟩:=Qfj HTR.out.two
      dsimp only at a3 b3
      have HBL:=hD hbl
      by_cases hlt:i < m
      ·have h1:i < box.length:=by have:=HM.out;omega
       have h2:i < box'.length:=by have:=HM'.out;omega
       obtain ⟨b,o,p0,p1,p2,rfl,-,hpv,hce⟩:=HK.out i h1
       obtain ⟨b',o',r0,r1,r2,rfl,-,hpv',hce'⟩:=HK'.out i h2
       obtain ⟨c0,c1,c2⟩:=hce _ (Lat.below HTR.out.bel)
       obtain ⟨d0,d1,d2⟩:=hce' _ (Lat.below HTR.out.bel)
       dsimp only [sv] at c0 c1 c2 d0 d1 d2
       have HIC:=hD (HIH.out i h1 h2 _ _ p0 p1 r0 r1 p2 r2 _ (hpv.step (Qaa HTR.out.bel (Qao (Below.refl wr.heap.size wr) 1))) (hpv'.step (Qaa HTR.out.bel (Qao (Below.refl wr.heap.size wr) 1))))
       have HS:Hid (box[i]?=some box[i]):=List.getElem?_eq_getElem h1
       have HT:Hid (box'[i]?=some box'[i]):=List.getElem?_eq_getElem h2
       have hlt2:(i:Int) < (m:Int):=by omega
       clear hbl hce hce' hpv hpv'
       generalize box[i]=x at HIC HS
       generalize box'[i]=y at HIC HT
       go_wp2
       go_still_tail 10,(by kernel_rfl)
       change wpList _ _ _ _ _ (wr.drewN 1)
       have HB1:=hD (Qaa HBL.out (Qao (Below.refl wr.heap.size wr) 1))
       clear a0 a1 a2 a3 b0 b1 b2 b3 c0 c1 c2 d0 d1 d2
       generalize wr.drewN 1=wd at *
       go_wp2_with fail
       refine HIC.out.mono ?_
       rintro e w2 ⟨rfl,hb⟩
       have HB2:=hD (Qaa HB1.out hb)
       clear hb
       by_cases hxy:x=y
       ·rw [eqR_iff.2 hxy]
        go_wp2
        go_roundw
        case rel =>
         refine ⟨i+1,by omega,by go_num,fun j hj=>?_,HB2.out⟩
         by_cases e:j=i
         ·rw [e,HS.out,HT.out,hxy]
         ·exact HJ.out j (by omega)
        case measure=>simp [intOf];omega
       ·rw [eqR_no.2 hxy]
        have HRF:Hid (r=false):=by
         unfold Hid
         rw [HR.out]
         refine eqI_no.2 fun e=>hxy ?_
         injection e with _ _ _ e
         have h1:=HS.out
         rw [e,HT.out] at h1
         exact (Option.some.inj h1).symm
        obtain rfl:=HRF.out
        go_wp2
        go_ret
        exact ⟨rfl,Qaa HT0.out.bel HB2.out⟩
      ·have hlt2:¬ (i:Int) < (m:Int):=by omega
       have HRF:Hid (r=true):=by
        unfold Hid
        rw [HR.out]
        refine eqI_iff.2 ?_
        rw [show box=box' from List.ext_getElem? fun j=>by
         by_cases hj:j < i
         ·exact HJ.out j hj
         ·have h1:=HM.out
          have h2:=HM'.out
          rw [List.getElem?_eq_none (by omega),List.getElem?_eq_none (by omega)]]
       obtain rfl:=HRF.out
       clear hbl
       go_wp2
       go_ret
       exact ⟨rfl,HTR.out.bel⟩
    ·have e3:((m:Int) != (m':Int))=true:=by simp;omega
     have HRF:Hid (r=false):=by
      unfold Hid
      rw [HR.out]
      refine eqI_no.2 fun e=>hmm ?_
      injection e with _ _ _ e
      have h1:=HM.out
      have h2:=HM'.out
      rw [e] at h1
      omega
     obtain rfl:=HRF.out
     obtain ⟨W,hW⟩:∃ W,W=(w.alloc (itO k n c (A,m,cc))).alloc (itO k n c (A',m',cc')):=⟨_,rfl⟩
     have HW:=hD hW
     rw [<- hW] at HT0
     clear hnum hnum' hW hmm
     go_enter Tryz.func106,Tryz.ntmps106
     go_wp2_with fail
     rw [<- HW.out]
     refine (HBT.out _).mono ?_
     rintro e w' ⟨rfl,rfl⟩
     obtain ⟨a0,a1,a2,a3⟩:=Qfj HT0.out.one
     obtain ⟨b0,b1,b2,b3⟩:=Qfj HT0.out.two
     dsimp only at a3 b3
     go_wp2
     go_ret
     exact ⟨rfl,HT0.out.bel⟩
   ·have HBT:=hD (fun W=>QrP hnum hnum' hnn W)
    have HRF:Hid (r=false):=by
     unfold Hid
     rw [HR.out]
     exact eqI_no.2 fun e=>hnn (by injection e)
    obtain rfl:=HRF.out
    obtain ⟨W,hW⟩:∃ W,W=(w.alloc (itO k n c (A,m,cc))).alloc (itO k n' c (A',m',cc')):=⟨_,rfl⟩
    have HW:=hD hW
    rw [<- hW] at HT0
    clear hnum hnum' hW hnn
    go_enter Tryz.func106,Tryz.ntmps106
    go_wp2_with fail
    rw [<- HW.out]
    refine (HBT.out _).mono ?_
    rintro e w' ⟨rfl,rfl⟩
    go_wp2
    go_ret
    exact ⟨rfl,HT0.out.bel⟩
  ·have e2:(c != c')=true:=by simpa using hcc
   have HRF:Hid (r=false):=by
    unfold Hid
    rw [HR.out]
    exact eqI_no.2 fun e=>hcc (by injection e)
   obtain rfl:=HRF.out
   clear hnum hnum' hcc
   go_enter Tryz.func106,Tryz.ntmps106
   go_wp2
   go_ret
   exact ⟨rfl,HT0.out.bel⟩
 ·have e1:(k != k')=true:=by simpa using hkk
  have HRF:Hid (r=false):=by
   unfold Hid
   rw [HR.out]
   exact eqI_no.2 fun e=>hkk (by injection e)
  obtain rfl:=HRF.out
  clear hnum hnum' hkk
  go_enter Tryz.func106,Tryz.ntmps106
  go_wp2
  go_ret
  exact ⟨rfl,HT0.out.bel⟩
theorem Qm0 (s:List Int) (items:List RI) (fill:Int) (s':List Int) (items':List RI) (fill':Int) (hs:s.length<=1048576) (hl:items.length<=1048576)
  (hih:∀ i (hi:i < items.length) (hi':i < items'.length),ItmB items[i] items'[i]):SamB (.mk s items fill) (.mk s' items' fill'):=by
 intro H H' h x h' x' f f' w hp hq
 obtain ⟨hsr,rfl,hx,hk⟩:=hp.open_
 obtain ⟨hsr',rfl,hx',hk'⟩:=hq.open_
 obtain ⟨A,m,cc⟩:=x
 obtain ⟨A',m',cc'⟩:=x'
 dsimp only at hx hx' hk hk'
 have hmb:m<=1048576:=by omega
 have HM:=hD hx
 have HM':=hD hx'
 have HK:=hD hk
 have HK':=hD hk'
 have HIH:=hD hih
 unfold ItmB at HIH
 have HT0:=hD (Tw3.new w h (A,m,cc) f h' (A',m',cc') f')
 obtain ⟨r,hr⟩:∃ r,r=eqR (.mk s items f) (.mk s' items' f'):=⟨_,rfl⟩
 have HR:=hD hr
 rw [<- hr]
 by_cases hff:f=f'
 ·subst hff
  have e1:(f != f)=false:=by simp
  obtain ⟨W,hW⟩:∃ W,W=(w.alloc (plO h (A,m,cc) f)).alloc (plO h' (A',m',cc') f):=⟨_,rfl⟩
  have HW:=hD hW
  rw [<- hW] at HT0
  have HIN:=hD (QpB (sv h) (sv h') s s' W (Keeps.lat hsr (Lat.below HT0.out.bel)).now (Keeps.lat hsr' (Lat.below HT0.out.bel)).now hs)
  clear hp hq hx hx' hk hk' hih hl hW hsr hsr' hs hr
  by_cases hss:s=s'
  ·subst hss
   rw [decide_eq_true rfl] at HIN
   by_cases hmm:m=m'
   ·subst hmm
    have e3:((m:Int) != (m:Int))=false:=by simp
    go_enter Tryz.func55,Tryz.ntmps55
    go_wp2_with fail
    rw [<- HW.out]
    refine HIN.out.mono ?_
    rintro e w1 ⟨rfl,hb⟩
    have HT1:=hD (HT0.out.step hb)
    clear hb HT0 HIN
    obtain ⟨a0,a1,a2⟩:=Qax HT1.out.one
    obtain ⟨b0,b1,b2⟩:=Qax HT1.out.two
    dsimp only at a1 b1
    go_wp2
    clear a0 a1 a2 b0 b1 b2
    go_loopw [5,5] (fun _ iv wr=>∃ i:Nat,i<=m/\iv= .int .i64 (i:Int)/\(∀ j,j < i->items[j]?=items'[j]?)/\Below w1.heap.size w1 wr) (fun _ iv _=>m - (intOf iv).toNat)
    case atStart=>exact ⟨0,Nat.zero_le _,rfl,fun j hj=>absurd hj (Nat.not_lt_zero _),Below.refl _ _⟩
    case round =>
     obtain ⟨i,hi,rfl,hj,hbl⟩:=hrel
     have HJ:=hD hj
     clear hj
     have HTR:=hD (HT1.out.step hbl)
     obtain ⟨a0,a1,a2⟩:=Qax HTR.out.one
     obtain ⟨b0,b1,b2⟩:=Qax HTR.out.two
     dsimp only at a1 b1
     have HBL:=hD hbl
     by_cases hlt:i < m
     ·have h1:i < items.length:=by have:=HM.out;omega
      have h2:i < items'.length:=by have:=HM'.out;omega
      obtain ⟨b,o,p0,p1,p2,p3,rfl,-,hpv,hce⟩:=HK.out i h1
      obtain ⟨b',o',r0,r1,r2,r3,rfl,-,hpv',hce'⟩:=HK'.out i h2
      obtain ⟨c0,c1,c2,c3⟩:=hce _ (Lat.below HTR.out.bel)
      obtain ⟨d0,d1,d2,d3⟩:=hce' _ (Lat.below HTR.out.bel)
      dsimp only [sv] at c0 c1 c2 c3 d0 d1 d2 d3
      have HIC:=hD (HIH.out i h1 h2 _ _ p0 p1 p2 p3 r0 r1 r2 r3 _ (hpv.step (Qaa HTR.out.bel (Qao (Below.refl wr.heap.size wr) 1))) (hpv'.step (Qaa HTR.out.bel (Qao (Below.refl wr.heap.size wr) 1))))
      have HS:Hid (items[i]?=some items[i]):=List.getElem?_eq_getElem h1
      have HT:Hid (items'[i]?=some items'[i]):=List.getElem?_eq_getElem h2
      have hlt2:(i:Int) < (m:Int):=by omega
      clear hbl hce hce' hpv hpv'
      generalize items[i]=x at HIC HS
      generalize items'[i]=y at HIC HT
      go_wp2
      go_still_tail 10,(by kernel_rfl)
      change wpList _ _ _ _ _ (wr.drewN 1)
      have HB1:=hD (Qaa HBL.out (Qao (Below.refl wr.heap.size wr) 1))
      clear a0 a1 a2 b0 b1 b2 c0 c1 c2 c3 d0 d1 d2 d3
      generalize wr.drewN 1=wd at *
      go_wp2_with fail
      refine HIC.out.mono ?_
      rintro e w2 ⟨rfl,hb⟩
      have HB2:=hD (Qaa HB1.out hb)
      clear hb
      by_cases hxy:x=y
      ·rw [eqI_iff.2 hxy]
       go_wp2
       go_roundw
       case rel =>
        refine ⟨i+1,by omega,by go_num,fun j hj=>?_,HB2.out⟩
        by_cases e:j=i
        ·rw [e,HS.out,HT.out,hxy]
        ·exact HJ.out j (by omega)
       case measure=>simp [intOf];omega
      ·rw [eqI_no.2 hxy]
       have HRF:Hid (r=false):=by
        unfold Hid
        rw [HR.out]
        refine eqR_no.2 fun e=>hxy ?_
        injection e with _ e _
        have h1:=HS.out
        rw [e,HT.out] at h1
        exact (Option.some.inj h1).symm
       obtain rfl:=HRF.out
       go_wp2
       go_ret
       exact ⟨rfl,Qaa HT1.out.bel HB2.out⟩
     ·have hlt2:¬ (i:Int) < (m:Int):=by omega
      have HRF:Hid (r=true):=by
       unfold Hid
       rw [HR.out]
       refine eqR_iff.2 ?_
       rw [show items=items' from List.ext_getElem? fun j=>by
        by_cases hj:j < i
        ·exact HJ.out j hj
        ·have h1:=HM.out
         have h2:=HM'.out
         rw [List.getElem?_eq_none (by omega),List.getElem?_eq_none (by omega)]]
      obtain rfl:=HRF.out
      clear hbl
      go_wp2
      go_ret
      exact ⟨rfl,HTR.out.bel⟩
   ·have e3:((m:Int) != (m':Int))=true:=by simp;omega
    have HRF:Hid (r=false):=by
     unfold Hid
     rw [HR.out]
     refine eqR_no.2 fun e=>hmm ?_
     injection e with _ e _
     have h1:=HM.out
     have h2:=HM'.out
     rw [e] at h1
     omega
    obtain rfl:=HRF.out
    clear hmm
    go_enter Tryz.func55,Tryz.ntmps55
    go_wp2_with fail
    rw [<- HW.out]
    refine HIN.out.mono ?_
    rintro e w1 ⟨rfl,hb⟩
    have HT1:=hD (HT0.out.step hb)
    clear hb HT0 HIN
    obtain ⟨a0,a1,a2⟩:=Qax HT1.out.one
    obtain ⟨b0,b1,b2⟩:=Qax HT1.out.two
    dsimp only at a1 b1
    go_wp2
    go_ret
    exact ⟨rfl,HT1.out.bel⟩
  ·rw [decide_eq_false hss] at HIN
   have HRF:Hid (r=false):=by
    unfold Hid
    rw [HR.out]
    exact eqR_no.2 fun e=>hss (by injection e)
   obtain rfl:=HRF.out
   clear hss
   go_enter Tryz.func55,Tryz.ntmps55
   go_wp2_with fail
   rw [<- HW.out]
   refine HIN.out.mono ?_
   rintro e w1 ⟨rfl,hb⟩
   have HT1:=hD (HT0.out.step hb)
   clear hb HT0 HIN
   go_wp2
   go_ret
   exact ⟨rfl,HT1.out.bel⟩
 ·have e1:(f != f')=true:=by simpa using hff
  have HRF:Hid (r=false):=by
   unfold Hid
   rw [HR.out]
   exact eqR_no.2 fun e=>hff (by injection e)
  obtain rfl:=HRF.out
  clear hff hp hq hx hx' hk hk' hih hl hsr hsr' hs hr
  go_enter Tryz.func55,Tryz.ntmps55
  go_wp2
  go_ret
  exact ⟨rfl,HT0.out.bel⟩
theorem Qgf:∀ (N:Nat) (t u:RP),cntP t<=N->LnP t->TfP t->LnP u->TfP u->SamB t u
 | 0,t,_,h,_,_,_,_=>by have:=QdC t;omega
 | N+1,.mk s items fill,.mk s' items' fill',h,hN,ht,hN',ht'=>by
  rw [cntP] at h
  rw [TfP] at ht ht'
  rw [LnP] at hN hN'
  refine Qm0 s items fill s' items' fill' hN.1 hN.2.1 fun i hi hi'=>?_
  have hc:=QbF hi
  have htf:=Qd8 hi ht
  have hln:=Qea hi hN.2.2
  have htf':=Qd8 hi' ht'
  have hln':=Qea hi' hN'.2.2
  generalize items[i]=it at hc htf hln
  generalize items'[i]=it' at htf' hln'
  cases it with
  | mk kind num char box =>
   cases it' with
   | mk kind' num' char' box' =>
    rw [cntI] at hc
    rw [TfI] at htf htf'
    rw [LnI] at hln hln'
    exact QhT kind num char box kind' num' char' box' htf.1 htf'.1 hln.1 fun j hj hj'=>Qgf N box[j] box'[j] (by have:=Qcw hj;omega) (Qeb hj hln.2) (Qd9 hj htf.2) (Qeb hj' hln'.2) (Qd9 hj' htf'.2)
end Go.Proofs.YtdelgpelkfndeaaGreatDoor
