/- The walks of value.Alike (elements of one class) and value.Same at any two good arrays. Printed by .. Conditions: as each theorem says. -/
import Derived.Test.YtbakjaliponbbaaGreatDoorMg11
import Derived.Test.YtbakjaliponbbaaGreatDoorMg13
set_option maxRecDepth 100000
set_option maxHeartbeats 2000000
namespace Go.Proofs.YtbakjaliponbbaaGreatDoor
open Go Go.RowKit Go.Proofs Fl
theorem tf_ord {x y:Nat} (hx:TF x) (hy:TF y) (h:FloatKind.f64.format.order x y=some .eq):x=y :=
 (tf_eq hx hy).1 (by show (FloatKind.f64.format.order x y).getD .eq= .eq;rw [h];rfl)
theorem feq_tf {x y:Nat} (hx:TF x) (hy:TF y):(FloatKind.f64.format.order x y==some .eq)=decide (x=y):=by
 by_cases e:x=y
 ·subst e
  obtain ⟨s,Z,hz,rfl,_⟩:=hx
  rw [fo_refl' s hz]
  simp
 ·rw [decide_eq_false e,beq_eq_false_iff_ne]
  intro h
  exact e (tf_ord hx hy h)
theorem eqI_num (x y:Nat):eqI (.mk 0 x 0 []) (.mk 0 y 0 [])=decide (x=y):=by
 by_cases h:x=y
 ·subst h;rw [decide_eq_true rfl];exact eqI_iff.2 rfl
 ·rw [decide_eq_false h];exact eqI_no.2 (fun e=>h (by injection e))
theorem eqI_chr (x y:Int):eqI (.mk 1 0 x []) (.mk 1 0 y [])=(x==y):=by
 by_cases h:x=y
 ·subst h;rw [beq_self_eq_true];exact eqI_iff.2 rfl
 ·rw [beq_eq_false_iff_ne.2 h];exact eqI_no.2 (fun e=>h (by injection e))
theorem eqI_box (x y:RP):eqI (.mk 2 0 0 [x]) (.mk 2 0 0 [y])=eqR x y:=by
 by_cases h:x=y
 ·subst h;rw [eqR_iff.2 rfl];exact eqI_iff.2 rfl
 ·rw [eqR_no.2 h];exact eqI_no.2 (fun e=>h (by injection e with _ _ _ e;injection e))
structure V2B (w W:World) (p q:V8):Prop where
 one:BoxP W w.heap.size p
 two:BoxP W (w.heap.size+1) q
 bel:Below w.heap.size w W
theorem V2B.step {w W W':World}{p q:V8} (h:V2B w W p q) (hb:Below W.heap.size W W'):V2B w W' p q:=⟨h.one.below hb,h.two.below hb,bel_both h.bel hb⟩
theorem V2B.dr {w W:World}{p q:V8} (h:V2B w W p q):V2B w W.drew p q:=h.step (Below.refl _ W).drew
theorem V2B.self {w W:World}{p q:V8} (h:V2B w W p q):V2B w W p q:=h
theorem V2B.new (w:World) (p q:V8):V2B w ((w.alloc p.o).alloc q.o) p q:=by
 have h:=boxP_new (w.alloc p.o) q
 have e:(w.alloc p.o).heap.size=w.heap.size+1:=by simp
 rw [e] at h
 exact ⟨(boxP_new w p).below (bel1 _ _),h,bel2 w _ _⟩
theorem v2b_s {w W:World}{p q:V8} (h:V2B w W p q):((W.cell? ⟨w.heap.size,0,none⟩=some (.int .i64 p.k)/\W.cell? ⟨w.heap.size,1,none⟩=some (.slice p.b.1 p.b.2.1 p.b.2.2)/\W.cell? ⟨w.heap.size,2,none⟩=some (.int .i64 p.bn)/\W.cell? ⟨w.heap.size,3,none⟩=some (.slice p.s.1 p.s.2.1 p.s.2.2)/\W.cell? ⟨w.heap.size,4,none⟩=some (.slice p.i.1 p.i.2.1 p.i.2.2)/\W.cell? ⟨w.heap.size,5,none⟩=some (.slice p.f.1 p.f.2.1 p.f.2.2)/\W.cell? ⟨w.heap.size,6,none⟩=some (.slice p.c.1 p.c.2.1 p.c.2.2)/\W.cell? ⟨w.heap.size,7,none⟩=some (.slice p.x.1 p.x.2.1 p.x.2.2))/\(W.cell? ⟨w.heap.size+1,0,none⟩=some (.int .i64 q.k)/\W.cell? ⟨w.heap.size+1,1,none⟩=some (.slice q.b.1 q.b.2.1 q.b.2.2)/\W.cell? ⟨w.heap.size+1,2,none⟩=some (.int .i64 q.bn)/\W.cell? ⟨w.heap.size+1,3,none⟩=some (.slice q.s.1 q.s.2.1 q.s.2.2)/\W.cell? ⟨w.heap.size+1,4,none⟩=some (.slice q.i.1 q.i.2.1 q.i.2.2)/\W.cell? ⟨w.heap.size+1,5,none⟩=some (.slice q.f.1 q.f.2.1 q.f.2.2)/\W.cell? ⟨w.heap.size+1,6,none⟩=some (.slice q.c.1 q.c.2.1 q.c.2.2)/\W.cell? ⟨w.heap.size+1,7,none⟩=some (.slice q.x.1 q.x.2.1 q.x.2.2)))/\V2B w W p q:=⟨⟨h.one,h.two⟩,h⟩
theorem a2_t {w W:World}{h1 h2:Sl}{p q:V8} (h:A2 w W h1 p h2 q):((W.cell? ⟨w.heap.size,0,none⟩=some (.slice h1.1 h1.2.1 h1.2.2)/\W.cell? ⟨w.heap.size,1,none⟩=some (.int .i64 p.k)/\W.cell? ⟨w.heap.size,2,none⟩=some (.slice p.b.1 p.b.2.1 p.b.2.2)/\W.cell? ⟨w.heap.size,3,none⟩=some (.int .i64 p.bn)/\W.cell? ⟨w.heap.size,4,none⟩=some (.slice p.s.1 p.s.2.1 p.s.2.2)/\W.cell? ⟨w.heap.size,5,none⟩=some (.slice p.i.1 p.i.2.1 p.i.2.2)/\W.cell? ⟨w.heap.size,6,none⟩=some (.slice p.f.1 p.f.2.1 p.f.2.2)/\W.cell? ⟨w.heap.size,7,none⟩=some (.slice p.c.1 p.c.2.1 p.c.2.2)/\W.cell? ⟨w.heap.size,8,none⟩=some (.slice p.x.1 p.x.2.1 p.x.2.2))/\(W.cell? ⟨w.heap.size+1,0,none⟩=some (.slice h2.1 h2.2.1 h2.2.2)/\W.cell? ⟨w.heap.size+1,1,none⟩=some (.int .i64 q.k)/\W.cell? ⟨w.heap.size+1,2,none⟩=some (.slice q.b.1 q.b.2.1 q.b.2.2)/\W.cell? ⟨w.heap.size+1,3,none⟩=some (.int .i64 q.bn)/\W.cell? ⟨w.heap.size+1,4,none⟩=some (.slice q.s.1 q.s.2.1 q.s.2.2)/\W.cell? ⟨w.heap.size+1,5,none⟩=some (.slice q.i.1 q.i.2.1 q.i.2.2)/\W.cell? ⟨w.heap.size+1,6,none⟩=some (.slice q.f.1 q.f.2.1 q.f.2.2)/\W.cell? ⟨w.heap.size+1,7,none⟩=some (.slice q.c.1 q.c.2.1 q.c.2.2)/\W.cell? ⟨w.heap.size+1,8,none⟩=some (.slice q.x.1 q.x.2.1 q.x.2.2)))/\A2 w W h1 p h2 q:=⟨⟨h.one.c,h.two.c⟩,h⟩
theorem galike_num {Ha Hb:Nat->Prop}{w0:World}{s s':List Nat}{l l2:List Nat}{h1 h2:Sl}{p q:V8} (ga:AV Ha w0 (.nums s l) h1 p) (gb:AV Hb w0 (.nums s' l2) h2 q) (i k:Nat) (hi:i < l.length) (hk:k < l2.length) (ha:∀ j,j < l.length->TF (l.getD j 0)) (hb:∀ j,j < l2.length->TF (l2.getD j 0)) (w:World) (hb0:Below w0.heap.size w0 w) :
  Calls Tryz.prog 240 #[p.v,.int .i64 (i:Int),q.v,.int .i64 (k:Int)] w fun e w'=>e= .returned (.bool (eqI (elA (.nums s l) i) (elA (.nums s' l2) k)))/\Below w.heap.size w w':=by
 have HCA:Hid (∀ W,V2B w W p q->Calls Tryz.prog 135 #[p.v] W fun e w'=>e= .returned (.int .i64 0)/\Below W.heap.size W w'):=fun W hs=>av_class ga W (bel_both hb0 hs.bel)
 have HCB:Hid (∀ W,V2B w W p q->Calls Tryz.prog 135 #[q.v] W fun e w'=>e= .returned (.int .i64 0)/\Below W.heap.size W w'):=fun W hs=>av_class gb W (bel_both hb0 hs.bel)
 have HNA:=Lib.hid (fun W (hs:V2B w W p q)=>av_num ga W (bel_both hb0 hs.bel) i hi)
 have HNB:=Lib.hid (fun W (hs:V2B w W p q)=>av_num gb W (bel_both hb0 hs.bel) k hk)
 have hrf:=feq_tf (ha i hi) (hb k hk)
 rw [elA,elA,eqI_num,<- hrf]
 generalize l.getD i 0=y at HNA ⊢
 generalize l2.getD k 0=z at HNB ⊢
 clear ha hb hrf
 have HS0:=Lib.hid (V2B.new w p q)
 clear ga gb hb0 hi hk
 go_enter Tryz.func240,Tryz.ntmps240
 go_wp2_with fail
 obtain ⟨wz,hwz⟩:∃ wz,wz=(w.alloc p.o).alloc q.o:=⟨_,rfl⟩
 rw [<- hwz] at HS0
 have HWZ:=Lib.hid hwz
 clear hwz
 rw [<- HWZ.out]
 go_cut [13] from 9 (fun x wx=>x= .bool false/\V2B w wx p q)
 case first =>
  have hs0:=HS0.out.dr
  have hs00:=HS0.out
  go_region_held3 (fun W=>((W.cell? ⟨w.heap.size,0,none⟩=some (.int .i64 p.k)/\W.cell? ⟨w.heap.size,1,none⟩=some (.slice p.b.1 p.b.2.1 p.b.2.2)/\W.cell? ⟨w.heap.size,2,none⟩=some (.int .i64 p.bn)/\W.cell? ⟨w.heap.size,3,none⟩=some (.slice p.s.1 p.s.2.1 p.s.2.2)/\W.cell? ⟨w.heap.size,4,none⟩=some (.slice p.i.1 p.i.2.1 p.i.2.2)/\W.cell? ⟨w.heap.size,5,none⟩=some (.slice p.f.1 p.f.2.1 p.f.2.2)/\W.cell? ⟨w.heap.size,6,none⟩=some (.slice p.c.1 p.c.2.1 p.c.2.2)/\W.cell? ⟨w.heap.size,7,none⟩=some (.slice p.x.1 p.x.2.1 p.x.2.2))/\(W.cell? ⟨w.heap.size+1,0,none⟩=some (.int .i64 q.k)/\W.cell? ⟨w.heap.size+1,1,none⟩=some (.slice q.b.1 q.b.2.1 q.b.2.2)/\W.cell? ⟨w.heap.size+1,2,none⟩=some (.int .i64 q.bn)/\W.cell? ⟨w.heap.size+1,3,none⟩=some (.slice q.s.1 q.s.2.1 q.s.2.2)/\W.cell? ⟨w.heap.size+1,4,none⟩=some (.slice q.i.1 q.i.2.1 q.i.2.2)/\W.cell? ⟨w.heap.size+1,5,none⟩=some (.slice q.f.1 q.f.2.1 q.f.2.2)/\W.cell? ⟨w.heap.size+1,6,none⟩=some (.slice q.c.1 q.c.2.1 q.c.2.2)/\W.cell? ⟨w.heap.size+1,7,none⟩=some (.slice q.x.1 q.x.2.1 q.x.2.2)))/\V2B w W p q)
   (first | (with_reducible assumption) | (with_reducible (refine v2b_s ?_);repeat (first | (with_reducible assumption) | (with_reducible refine V2B.dr ?_))))
   (first
    | (go_at_call 135;(with_reducible refine (HCA.out _ ?_).mono ?_);exact V2B.self (by repeat (first | (with_reducible assumption) | (with_reducible refine V2B.dr ?_)));rintro e w1 ⟨rfl,hb1⟩;have hst1:V2B w w1 p q:=V2B.step (by repeat (first | (with_reducible assumption) | (with_reducible refine V2B.dr ?_))) hb1;clear hb1)
    | (go_at_call 135;(with_reducible refine (HCB.out _ ?_).mono ?_);exact V2B.self (by repeat (first | (with_reducible assumption) | (with_reducible refine V2B.dr ?_)));rintro e w2 ⟨rfl,hb2⟩;have hst2:V2B w w2 p q:=V2B.step (by repeat (first | (with_reducible assumption) | (with_reducible refine V2B.dr ?_))) hb2;clear hb2))
  all_goals
   go_wp2
   go_meet
   exact ⟨rfl,hst2⟩
 obtain ⟨rfl,hst⟩:=hcut
 have HST:=Lib.hid hst
 clear hst HS0 HWZ
 obtain ⟨c0,c1,c2,c3,c4,c5,c6,c7⟩:=HST.out.one
 go_wp2_with fail
 refine (HCA.out _ HST.out).mono ?_
 rintro e w3 ⟨rfl,hb⟩
 have HS3:=Lib.hid (HST.out.step hb)
 clear hb c0 c1 c2 c3 c4 c5 c6 c7 HST
 go_wp2_with fail
 have hs0:=HS3.out.dr
 have hs00:=HS3.out
 go_region_held3 (fun W=>((W.cell? ⟨w.heap.size,0,none⟩=some (.int .i64 p.k)/\W.cell? ⟨w.heap.size,1,none⟩=some (.slice p.b.1 p.b.2.1 p.b.2.2)/\W.cell? ⟨w.heap.size,2,none⟩=some (.int .i64 p.bn)/\W.cell? ⟨w.heap.size,3,none⟩=some (.slice p.s.1 p.s.2.1 p.s.2.2)/\W.cell? ⟨w.heap.size,4,none⟩=some (.slice p.i.1 p.i.2.1 p.i.2.2)/\W.cell? ⟨w.heap.size,5,none⟩=some (.slice p.f.1 p.f.2.1 p.f.2.2)/\W.cell? ⟨w.heap.size,6,none⟩=some (.slice p.c.1 p.c.2.1 p.c.2.2)/\W.cell? ⟨w.heap.size,7,none⟩=some (.slice p.x.1 p.x.2.1 p.x.2.2))/\(W.cell? ⟨w.heap.size+1,0,none⟩=some (.int .i64 q.k)/\W.cell? ⟨w.heap.size+1,1,none⟩=some (.slice q.b.1 q.b.2.1 q.b.2.2)/\W.cell? ⟨w.heap.size+1,2,none⟩=some (.int .i64 q.bn)/\W.cell? ⟨w.heap.size+1,3,none⟩=some (.slice q.s.1 q.s.2.1 q.s.2.2)/\W.cell? ⟨w.heap.size+1,4,none⟩=some (.slice q.i.1 q.i.2.1 q.i.2.2)/\W.cell? ⟨w.heap.size+1,5,none⟩=some (.slice q.f.1 q.f.2.1 q.f.2.2)/\W.cell? ⟨w.heap.size+1,6,none⟩=some (.slice q.c.1 q.c.2.1 q.c.2.2)/\W.cell? ⟨w.heap.size+1,7,none⟩=some (.slice q.x.1 q.x.2.1 q.x.2.2)))/\V2B w W p q)
  (first | (with_reducible assumption) | (with_reducible (refine v2b_s ?_);repeat (first | (with_reducible assumption) | (with_reducible refine V2B.dr ?_))))
  (first
   | (go_at_call 138;(with_reducible refine (HNA.out _ ?_).mono ?_);exact V2B.self (by repeat (first | (with_reducible assumption) | (with_reducible refine V2B.dr ?_)));rintro e w4 ⟨rfl,hb4⟩;have hst4:V2B w w4 p q:=V2B.step (by repeat (first | (with_reducible assumption) | (with_reducible refine V2B.dr ?_))) hb4;clear hb4)
   | (go_at_call 138;(with_reducible refine (HNB.out _ ?_).mono ?_);exact V2B.self (by repeat (first | (with_reducible assumption) | (with_reducible refine V2B.dr ?_)));rintro e w5 ⟨rfl,hb5⟩;have hst5:V2B w w5 p q:=V2B.step (by repeat (first | (with_reducible assumption) | (with_reducible refine V2B.dr ?_))) hb5;clear hb5))
 all_goals
  go_wp2
  go_ret
  exact ⟨rfl,hst5.bel⟩
theorem galike_chr {Ha Hb:Nat->Prop}{w0:World}{s s':List Nat}{l l2:List Int}{h1 h2:Sl}{p q:V8} (ga:AV Ha w0 (.chars s l) h1 p) (gb:AV Hb w0 (.chars s' l2) h2 q) (i k:Nat) (hi:i < l.length) (hk:k < l2.length) (w:World) (hb0:Below w0.heap.size w0 w) :
  Calls Tryz.prog 240 #[p.v,.int .i64 (i:Int),q.v,.int .i64 (k:Int)] w fun e w'=>e= .returned (.bool (eqI (elA (.chars s l) i) (elA (.chars s' l2) k)))/\Below w.heap.size w w':=by
 have HCA:Hid (∀ W,V2B w W p q->Calls Tryz.prog 135 #[p.v] W fun e w'=>e= .returned (.int .i64 1)/\Below W.heap.size W w'):=fun W hs=>av_class ga W (bel_both hb0 hs.bel)
 have HCB:Hid (∀ W,V2B w W p q->Calls Tryz.prog 135 #[q.v] W fun e w'=>e= .returned (.int .i64 1)/\Below W.heap.size W w'):=fun W hs=>av_class gb W (bel_both hb0 hs.bel)
 have HNA:=Lib.hid (fun W (hs:V2B w W p q)=>vchar_any ga i hi W (bel_both hb0 hs.bel))
 have HNB:=Lib.hid (fun W (hs:V2B w W p q)=>vchar_any gb k hk W (bel_both hb0 hs.bel))
 have e1:l.getD i 0=l[i]:=by simp [List.getD,hi]
 have e2:l2.getD k 0=l2[k]:=by simp [List.getD,hk]
 rw [elA,elA,eqI_chr,e1,e2]
 generalize l[i]=y at HNA ⊢
 generalize l2[k]=z at HNB ⊢
 clear e1 e2
 have HS0:=Lib.hid (V2B.new w p q)
 clear ga gb hb0 hi hk
 go_enter Tryz.func240,Tryz.ntmps240
 go_wp2_with fail
 obtain ⟨wz,hwz⟩:∃ wz,wz=(w.alloc p.o).alloc q.o:=⟨_,rfl⟩
 rw [<- hwz] at HS0
 have HWZ:=Lib.hid hwz
 clear hwz
 rw [<- HWZ.out]
 go_cut [13] from 9 (fun x wx=>x= .bool false/\V2B w wx p q)
 case first =>
  have hs0:=HS0.out.dr
  have hs00:=HS0.out
  go_region_held3 (fun W=>((W.cell? ⟨w.heap.size,0,none⟩=some (.int .i64 p.k)/\W.cell? ⟨w.heap.size,1,none⟩=some (.slice p.b.1 p.b.2.1 p.b.2.2)/\W.cell? ⟨w.heap.size,2,none⟩=some (.int .i64 p.bn)/\W.cell? ⟨w.heap.size,3,none⟩=some (.slice p.s.1 p.s.2.1 p.s.2.2)/\W.cell? ⟨w.heap.size,4,none⟩=some (.slice p.i.1 p.i.2.1 p.i.2.2)/\W.cell? ⟨w.heap.size,5,none⟩=some (.slice p.f.1 p.f.2.1 p.f.2.2)/\W.cell? ⟨w.heap.size,6,none⟩=some (.slice p.c.1 p.c.2.1 p.c.2.2)/\W.cell? ⟨w.heap.size,7,none⟩=some (.slice p.x.1 p.x.2.1 p.x.2.2))/\(W.cell? ⟨w.heap.size+1,0,none⟩=some (.int .i64 q.k)/\W.cell? ⟨w.heap.size+1,1,none⟩=some (.slice q.b.1 q.b.2.1 q.b.2.2)/\W.cell? ⟨w.heap.size+1,2,none⟩=some (.int .i64 q.bn)/\W.cell? ⟨w.heap.size+1,3,none⟩=some (.slice q.s.1 q.s.2.1 q.s.2.2)/\W.cell? ⟨w.heap.size+1,4,none⟩=some (.slice q.i.1 q.i.2.1 q.i.2.2)/\W.cell? ⟨w.heap.size+1,5,none⟩=some (.slice q.f.1 q.f.2.1 q.f.2.2)/\W.cell? ⟨w.heap.size+1,6,none⟩=some (.slice q.c.1 q.c.2.1 q.c.2.2)/\W.cell? ⟨w.heap.size+1,7,none⟩=some (.slice q.x.1 q.x.2.1 q.x.2.2)))/\V2B w W p q)
   (first | (with_reducible assumption) | (with_reducible (refine v2b_s ?_);repeat (first | (with_reducible assumption) | (with_reducible refine V2B.dr ?_))))
   (first
    | (go_at_call 135;(with_reducible refine (HCA.out _ ?_).mono ?_);exact V2B.self (by repeat (first | (with_reducible assumption) | (with_reducible refine V2B.dr ?_)));rintro e w1 ⟨rfl,hb1⟩;have hst1:V2B w w1 p q:=V2B.step (by repeat (first | (with_reducible assumption) | (with_reducible refine V2B.dr ?_))) hb1;clear hb1)
    | (go_at_call 135;(with_reducible refine (HCB.out _ ?_).mono ?_);exact V2B.self (by repeat (first | (with_reducible assumption) | (with_reducible refine V2B.dr ?_)));rintro e w2 ⟨rfl,hb2⟩;have hst2:V2B w w2 p q:=V2B.step (by repeat (first | (with_reducible assumption) | (with_reducible refine V2B.dr ?_))) hb2;clear hb2))
  all_goals
   go_wp2
   go_meet
   exact ⟨rfl,hst2⟩
 obtain ⟨rfl,hst⟩:=hcut
 have HST:=Lib.hid hst
 clear hst HS0 HWZ
 obtain ⟨c0,c1,c2,c3,c4,c5,c6,c7⟩:=HST.out.one
 go_wp2_with fail
 refine (HCA.out _ HST.out).mono ?_
 rintro e w3 ⟨rfl,hb⟩
 have HS3:=Lib.hid (HST.out.step hb)
 clear hb c0 c1 c2 c3 c4 c5 c6 c7 HST
 go_wp2_with fail
 have hs0:=HS3.out.dr
 have hs00:=HS3.out
 go_region_held3 (fun W=>((W.cell? ⟨w.heap.size,0,none⟩=some (.int .i64 p.k)/\W.cell? ⟨w.heap.size,1,none⟩=some (.slice p.b.1 p.b.2.1 p.b.2.2)/\W.cell? ⟨w.heap.size,2,none⟩=some (.int .i64 p.bn)/\W.cell? ⟨w.heap.size,3,none⟩=some (.slice p.s.1 p.s.2.1 p.s.2.2)/\W.cell? ⟨w.heap.size,4,none⟩=some (.slice p.i.1 p.i.2.1 p.i.2.2)/\W.cell? ⟨w.heap.size,5,none⟩=some (.slice p.f.1 p.f.2.1 p.f.2.2)/\W.cell? ⟨w.heap.size,6,none⟩=some (.slice p.c.1 p.c.2.1 p.c.2.2)/\W.cell? ⟨w.heap.size,7,none⟩=some (.slice p.x.1 p.x.2.1 p.x.2.2))/\(W.cell? ⟨w.heap.size+1,0,none⟩=some (.int .i64 q.k)/\W.cell? ⟨w.heap.size+1,1,none⟩=some (.slice q.b.1 q.b.2.1 q.b.2.2)/\W.cell? ⟨w.heap.size+1,2,none⟩=some (.int .i64 q.bn)/\W.cell? ⟨w.heap.size+1,3,none⟩=some (.slice q.s.1 q.s.2.1 q.s.2.2)/\W.cell? ⟨w.heap.size+1,4,none⟩=some (.slice q.i.1 q.i.2.1 q.i.2.2)/\W.cell? ⟨w.heap.size+1,5,none⟩=some (.slice q.f.1 q.f.2.1 q.f.2.2)/\W.cell? ⟨w.heap.size+1,6,none⟩=some (.slice q.c.1 q.c.2.1 q.c.2.2)/\W.cell? ⟨w.heap.size+1,7,none⟩=some (.slice q.x.1 q.x.2.1 q.x.2.2)))/\V2B w W p q)
  (first | (with_reducible assumption) | (with_reducible (refine v2b_s ?_);repeat (first | (with_reducible assumption) | (with_reducible refine V2B.dr ?_))))
  (first
   | (go_at_call 136;(with_reducible refine (HNA.out _ ?_).mono ?_);exact V2B.self (by repeat (first | (with_reducible assumption) | (with_reducible refine V2B.dr ?_)));rintro e w4 ⟨rfl,hb4⟩;have hst4:V2B w w4 p q:=V2B.step (by repeat (first | (with_reducible assumption) | (with_reducible refine V2B.dr ?_))) hb4;clear hb4)
   | (go_at_call 136;(with_reducible refine (HNB.out _ ?_).mono ?_);exact V2B.self (by repeat (first | (with_reducible assumption) | (with_reducible refine V2B.dr ?_)));rintro e w5 ⟨rfl,hb5⟩;have hst5:V2B w w5 p q:=V2B.step (by repeat (first | (with_reducible assumption) | (with_reducible refine V2B.dr ?_))) hb5;clear hb5))
 all_goals
  go_wp2
  go_ret
  exact ⟨rfl,hst5.bel⟩
theorem galike_box {Ha Hb:Nat->Prop}{w0:World}{s s':List Nat}{l l2:List PA}{h1 h2:Sl}{p q:V8} (ga:AV Ha w0 (.boxes s l) h1 p) (gb:AV Hb w0 (.boxes s' l2) h2 q) (i k:Nat) (hi:i < l.length) (hk:k < l2.length) (hIH:∀ (W:World) (u1 u2:Sl) (v1 v2:V8),AV Ha W (l.getD i default) u1 v1->AV Hb W (l2.getD k default) u2 v2->Calls Tryz.prog 260 #[arrV u1 v1,arrV u2 v2] W fun e w'=>e= .returned (.bool (eqR (rawP (l.getD i default)) (rawP (l2.getD k default))))/\Below W.heap.size W w') (w:World) (hb0:Below w0.heap.size w0 w) :
  Calls Tryz.prog 240 #[p.v,.int .i64 (i:Int),q.v,.int .i64 (k:Int)] w fun e w'=>e= .returned (.bool (eqI (elA (.boxes s l) i) (elA (.boxes s' l2) k)))/\Below w.heap.size w w':=by
 have HCA:Hid (∀ W,V2B w W p q->Calls Tryz.prog 135 #[p.v] W fun e w'=>e= .returned (.int .i64 2)/\Below W.heap.size W w'):=fun W hs=>av_class ga W (bel_both hb0 hs.bel)
 have HCB:Hid (∀ W,V2B w W p q->Calls Tryz.prog 135 #[q.v] W fun e w'=>e= .returned (.int .i64 2)/\Below W.heap.size W w'):=fun W hs=>av_class gb W (bel_both hb0 hs.bel)
 have HNA:=Lib.hid (fun W (hs:V2B w W p q)=>vbox_any (AV.step ga (bel_both hb0 hs.bel)) i hi W (Below.refl _ _))
 have HNB:=Lib.hid (fun W (hs:V2B w W p q)=>vbox_any (AV.step gb (bel_both hb0 hs.bel)) k hk W (Below.refl _ _))
 have HII:=Lib.hid hIH
 have e1:l.getD i default=l[i]:=by simp [List.getD,hi]
 have e2:l2.getD k default=l2[k]:=by simp [List.getD,hk]
 rw [e1,e2] at HII
 rw [elA,elA,eqI_box,e1,e2]
 unfold BoxR at HNA HNB
 generalize l[i]=y at HNA HII ⊢
 generalize l2[k]=z at HNB HII ⊢
 clear hIH e1 e2
 have HS0:=Lib.hid (V2B.new w p q)
 clear ga gb hb0 hi hk
 go_enter Tryz.func240,Tryz.ntmps240
 go_wp2_with fail
 obtain ⟨wz,hwz⟩:∃ wz,wz=(w.alloc p.o).alloc q.o:=⟨_,rfl⟩
 rw [<- hwz] at HS0
 have HWZ:=Lib.hid hwz
 clear hwz
 rw [<- HWZ.out]
 go_cut [13] from 9 (fun x wx=>x= .bool false/\V2B w wx p q)
 case first =>
  have hs0:=HS0.out.dr
  have hs00:=HS0.out
  go_region_held3 (fun W=>((W.cell? ⟨w.heap.size,0,none⟩=some (.int .i64 p.k)/\W.cell? ⟨w.heap.size,1,none⟩=some (.slice p.b.1 p.b.2.1 p.b.2.2)/\W.cell? ⟨w.heap.size,2,none⟩=some (.int .i64 p.bn)/\W.cell? ⟨w.heap.size,3,none⟩=some (.slice p.s.1 p.s.2.1 p.s.2.2)/\W.cell? ⟨w.heap.size,4,none⟩=some (.slice p.i.1 p.i.2.1 p.i.2.2)/\W.cell? ⟨w.heap.size,5,none⟩=some (.slice p.f.1 p.f.2.1 p.f.2.2)/\W.cell? ⟨w.heap.size,6,none⟩=some (.slice p.c.1 p.c.2.1 p.c.2.2)/\W.cell? ⟨w.heap.size,7,none⟩=some (.slice p.x.1 p.x.2.1 p.x.2.2))/\(W.cell? ⟨w.heap.size+1,0,none⟩=some (.int .i64 q.k)/\W.cell? ⟨w.heap.size+1,1,none⟩=some (.slice q.b.1 q.b.2.1 q.b.2.2)/\W.cell? ⟨w.heap.size+1,2,none⟩=some (.int .i64 q.bn)/\W.cell? ⟨w.heap.size+1,3,none⟩=some (.slice q.s.1 q.s.2.1 q.s.2.2)/\W.cell? ⟨w.heap.size+1,4,none⟩=some (.slice q.i.1 q.i.2.1 q.i.2.2)/\W.cell? ⟨w.heap.size+1,5,none⟩=some (.slice q.f.1 q.f.2.1 q.f.2.2)/\W.cell? ⟨w.heap.size+1,6,none⟩=some (.slice q.c.1 q.c.2.1 q.c.2.2)/\W.cell? ⟨w.heap.size+1,7,none⟩=some (.slice q.x.1 q.x.2.1 q.x.2.2)))/\V2B w W p q)
   (first | (with_reducible assumption) | (with_reducible (refine v2b_s ?_);repeat (first | (with_reducible assumption) | (with_reducible refine V2B.dr ?_))))
   (first
    | (go_at_call 135;(with_reducible refine (HCA.out _ ?_).mono ?_);exact V2B.self (by repeat (first | (with_reducible assumption) | (with_reducible refine V2B.dr ?_)));rintro e w1 ⟨rfl,hb1⟩;have hst1:V2B w w1 p q:=V2B.step (by repeat (first | (with_reducible assumption) | (with_reducible refine V2B.dr ?_))) hb1;clear hb1)
    | (go_at_call 135;(with_reducible refine (HCB.out _ ?_).mono ?_);exact V2B.self (by repeat (first | (with_reducible assumption) | (with_reducible refine V2B.dr ?_)));rintro e w2 ⟨rfl,hb2⟩;have hst2:V2B w w2 p q:=V2B.step (by repeat (first | (with_reducible assumption) | (with_reducible refine V2B.dr ?_))) hb2;clear hb2))
  all_goals
   go_wp2
   go_meet
   exact ⟨rfl,hst2⟩
 obtain ⟨rfl,hst⟩:=hcut
 have HST:=Lib.hid hst
 clear hst HS0 HWZ
 obtain ⟨c0,c1,c2,c3,c4,c5,c6,c7⟩:=HST.out.one
 go_wp2_with fail
 refine (HCA.out _ HST.out).mono ?_
 rintro e w3 ⟨rfl,hb⟩
 have HS3:=Lib.hid (HST.out.step hb)
 clear hb c0 c1 c2 c3 c4 c5 c6 c7 HST
 go_wp2_with fail
 have hs0:=HS3.out.dr
 have hs00:=HS3.out
 go_region_held3 (fun W=>((W.cell? ⟨w.heap.size,0,none⟩=some (.int .i64 p.k)/\W.cell? ⟨w.heap.size,1,none⟩=some (.slice p.b.1 p.b.2.1 p.b.2.2)/\W.cell? ⟨w.heap.size,2,none⟩=some (.int .i64 p.bn)/\W.cell? ⟨w.heap.size,3,none⟩=some (.slice p.s.1 p.s.2.1 p.s.2.2)/\W.cell? ⟨w.heap.size,4,none⟩=some (.slice p.i.1 p.i.2.1 p.i.2.2)/\W.cell? ⟨w.heap.size,5,none⟩=some (.slice p.f.1 p.f.2.1 p.f.2.2)/\W.cell? ⟨w.heap.size,6,none⟩=some (.slice p.c.1 p.c.2.1 p.c.2.2)/\W.cell? ⟨w.heap.size,7,none⟩=some (.slice p.x.1 p.x.2.1 p.x.2.2))/\(W.cell? ⟨w.heap.size+1,0,none⟩=some (.int .i64 q.k)/\W.cell? ⟨w.heap.size+1,1,none⟩=some (.slice q.b.1 q.b.2.1 q.b.2.2)/\W.cell? ⟨w.heap.size+1,2,none⟩=some (.int .i64 q.bn)/\W.cell? ⟨w.heap.size+1,3,none⟩=some (.slice q.s.1 q.s.2.1 q.s.2.2)/\W.cell? ⟨w.heap.size+1,4,none⟩=some (.slice q.i.1 q.i.2.1 q.i.2.2)/\W.cell? ⟨w.heap.size+1,5,none⟩=some (.slice q.f.1 q.f.2.1 q.f.2.2)/\W.cell? ⟨w.heap.size+1,6,none⟩=some (.slice q.c.1 q.c.2.1 q.c.2.2)/\W.cell? ⟨w.heap.size+1,7,none⟩=some (.slice q.x.1 q.x.2.1 q.x.2.2)))/\V2B w W p q)
  (first | (with_reducible assumption) | (with_reducible (refine v2b_s ?_);repeat (first | (with_reducible assumption) | (with_reducible refine V2B.dr ?_))))
  (first
   | (go_at_call 137;(with_reducible refine (HNA.out _ ?_).mono ?_);exact V2B.self (by repeat (first | (with_reducible assumption) | (with_reducible refine V2B.dr ?_)));rintro e w4 ⟨u4,v4,rfl,hav4,hb4⟩;have hst4:V2B w w4 p q:=V2B.step (by repeat (first | (with_reducible assumption) | (with_reducible refine V2B.dr ?_))) hb4;have hat4:AvAt Ha y u4 v4 w4:=AV.step hav4 hb4;clear hav4;clear hb4)
   | (go_at_call 137;(with_reducible refine (HNB.out _ ?_).mono ?_);exact V2B.self (by repeat (first | (with_reducible assumption) | (with_reducible refine V2B.dr ?_)));rintro e w5 ⟨u5,v5,rfl,hav5,hb5⟩;have hst5:V2B w w5 p q:=V2B.step (by repeat (first | (with_reducible assumption) | (with_reducible refine V2B.dr ?_))) hb5;have hat5:AvAt Hb z u5 v5 w5:=AV.step hav5 hb5;have hat45:AvAt Ha y u4 v4 w5:=AvAt.step (by repeat (first | (with_reducible assumption) | (with_reducible refine AvAt.dr ?_))) hb5;clear hav5;clear hb5)
   | (go_at_call 260;(with_reducible refine (HII.out _ _ _ _ _ ?_ ?_).mono ?_);exact AvAt.self (by repeat (first | (with_reducible assumption) | (with_reducible refine AvAt.dr ?_)));exact AvAt.self (by repeat (first | (with_reducible assumption) | (with_reducible refine AvAt.dr ?_)));rintro e w6 ⟨rfl,hb6⟩;have hst6:V2B w w6 p q:=V2B.step (by repeat (first | (with_reducible assumption) | (with_reducible refine V2B.dr ?_))) hb6;clear hb6))
 all_goals
  go_wp2
  go_ret
  exact ⟨rfl,hst6.bel⟩
def SmR (n:Nat) (al:Nat->Bool) (w:World) (e:Ending) (w':World):Prop:=∃ r,e= .returned (.bool r)/\(r=true↔∀ i,i < n->al i=true)/\Below w.heap.size w w'
theorem smR_no {n:Nat}{al:Nat->Bool}{w w':World}{i:Nat} (hi:i < n) (h:al i=false) (hb:Below w.heap.size w w'):SmR n al w (.returned (.bool false)) w':=⟨false,rfl,⟨fun e=>absurd e (by decide),fun e=>by rw [e i hi] at h;exact absurd h (by decide)⟩,hb⟩
theorem smR_yes {n:Nat}{al:Nat->Bool}{w w':World} (h:∀ j,j < n->al j=true) (hb:Below w.heap.size w w'):SmR n al w (.returned (.bool true)) w':=⟨true,rfl,⟨fun _=>h,fun _=>rfl⟩,hb⟩
theorem gsame_shp {Ha Hb:Nat->Prop}{a b:PA}{h1 h2:Sl}{p q:V8} (w:World) (ga:AV Ha w a h1 p) (gb:AV Hb w b h2 q) (hs1:a.shape.length<=1048576) (hs2:b.shape.length<=1048576) (hne:¬ a.shape=b.shape) :
  Calls Tryz.prog 260 #[arrV h1 p,arrV h2 q] w fun e w'=>e= .returned (.bool false)/\Below w.heap.size w w':=by
 have HSS:Hid (∀ W,A2 w W h1 p h2 q->Calls Tryz.prog 270 #[sv h1,sv h2] W fun e w'=>e= .returned (.bool (decide (a.shape=b.shape)))/\Below W.heap.size W w'):=fun W hW=>shSame_any ga.shape gb.shape hs1 hs2 W hW.bel
 have HCA:=Lib.hid (fun W (hW:A2 w W h1 p h2 q)=>av_class ga W hW.bel)
 have HCB:=Lib.hid (fun W (hW:A2 w W h1 p h2 q)=>av_class gb W hW.bel)
 have HLA:=Lib.hid (fun W (hW:A2 w W h1 p h2 q)=>av_len ga W hW.bel)
 have HLB:=Lib.hid (fun W (hW:A2 w W h1 p h2 q)=>av_len gb W hW.bel)
 rw [decide_eq_false hne] at HSS
 generalize a.len=n at *
 generalize b.len=m at *
 generalize a.fill=z at *
 generalize b.fill=z9 at *
 have HS0:=Lib.hid (A2.new w h1 h2 p q)
 clear ga gb hs1 hs2
 go_enter Tryz.func260,Tryz.ntmps260
 go_wp2_with fail
 obtain ⟨wz,hwz⟩:∃ wz,wz=(w.alloc (arrO h1 p)).alloc (arrO h2 q):=⟨_,rfl⟩
 rw [<- hwz] at HS0
 have HWZ:=Lib.hid hwz
 clear hwz
 rw [<- HWZ.out]
 have hs0:=HS0.out.dr
 have hs00:=HS0.out
 refine wp_region_noPanic ?_
 refine wp_region_held_drew (S:=fun W=>((W.cell? ⟨w.heap.size,0,none⟩=some (.slice h1.1 h1.2.1 h1.2.2)/\W.cell? ⟨w.heap.size,1,none⟩=some (.int .i64 p.k)/\W.cell? ⟨w.heap.size,2,none⟩=some (.slice p.b.1 p.b.2.1 p.b.2.2)/\W.cell? ⟨w.heap.size,3,none⟩=some (.int .i64 p.bn)/\W.cell? ⟨w.heap.size,4,none⟩=some (.slice p.s.1 p.s.2.1 p.s.2.2)/\W.cell? ⟨w.heap.size,5,none⟩=some (.slice p.i.1 p.i.2.1 p.i.2.2)/\W.cell? ⟨w.heap.size,6,none⟩=some (.slice p.f.1 p.f.2.1 p.f.2.2)/\W.cell? ⟨w.heap.size,7,none⟩=some (.slice p.c.1 p.c.2.1 p.c.2.2)/\W.cell? ⟨w.heap.size,8,none⟩=some (.slice p.x.1 p.x.2.1 p.x.2.2))/\(W.cell? ⟨w.heap.size+1,0,none⟩=some (.slice h2.1 h2.2.1 h2.2.2)/\W.cell? ⟨w.heap.size+1,1,none⟩=some (.int .i64 q.k)/\W.cell? ⟨w.heap.size+1,2,none⟩=some (.slice q.b.1 q.b.2.1 q.b.2.2)/\W.cell? ⟨w.heap.size+1,3,none⟩=some (.int .i64 q.bn)/\W.cell? ⟨w.heap.size+1,4,none⟩=some (.slice q.s.1 q.s.2.1 q.s.2.2)/\W.cell? ⟨w.heap.size+1,5,none⟩=some (.slice q.i.1 q.i.2.1 q.i.2.2)/\W.cell? ⟨w.heap.size+1,6,none⟩=some (.slice q.f.1 q.f.2.1 q.f.2.2)/\W.cell? ⟨w.heap.size+1,7,none⟩=some (.slice q.c.1 q.c.2.1 q.c.2.2)/\W.cell? ⟨w.heap.size+1,8,none⟩=some (.slice q.x.1 q.x.2.1 q.x.2.2)))/\A2 w W h1 p h2 q) (by kernel_rfl) (by exact a2_t hs0) (fun hHeld=>?_)
 refine wpAnyH_take (i:=0) (v:=?av1) rfl (by kernel_rfl) (by kernel_rfl) (by kernel_rfl) (fun _ _ _ h=>h) (Or.inl ⟨by rfl,?ay1⟩) (by assumption) ?as1
 case ay1=>(intro w hSw;(try dsimp only at hSw);go_simp;try with_reducible rfl)
 change wpAnyH _ _ _ _ _ _ _ (Act.put _ (some 6) _) _
 simp only [Act.put,List.setIfInBounds_toArray,List.set_cons_zero,List.set_cons_succ]
 refine wpAnyH_take (i:=1) (v:=?av2) rfl (by kernel_rfl) (by kernel_rfl) (by kernel_rfl) (fun _ _ _ h=>h) (Or.inl ⟨by rfl,?ay2⟩) (by assumption) ?as2
 case ay2=>(intro w hSw;(try dsimp only at hSw);go_simp;try with_reducible rfl)
 change wpAnyH _ _ _ _ _ _ _ (Act.put _ (some 7) _) _
 simp only [Act.put,List.setIfInBounds_toArray,List.set_cons_zero,List.set_cons_succ]
 refine wpAnyH_take (i:=2) (v:=?av3) rfl (by kernel_rfl) (by kernel_rfl) (by kernel_rfl) (fun _ _ _ h=>h) (Or.inl ⟨by rfl,?ay3⟩) (by assumption) ?as3
 case ay3=>(intro w hSw;(try dsimp only at hSw);go_simp;try with_reducible rfl)
 change wpAnyH _ _ _ _ _ _ _ (Act.put _ (some 8) _) _
 simp only [Act.put,List.setIfInBounds_toArray,List.set_cons_zero,List.set_cons_succ]
 refine wpAnyH_take (i:=3) (v:=?av4) rfl (by kernel_rfl) (by kernel_rfl) (by kernel_rfl) (fun _ _ _ h=>h) (Or.inl ⟨by rfl,?ay4⟩) (by assumption) ?as4
 case ay4=>(intro w hSw;(try dsimp only at hSw);go_simp;try with_reducible rfl)
 change wpAnyH _ _ _ _ _ _ _ (Act.put _ (some 9) _) _
 simp only [Act.put,List.setIfInBounds_toArray,List.set_cons_zero,List.set_cons_succ]
 refine wpAnyH_ready (rs:=[4]) (by kernel_rfl) (by simp) ?_
 refine AllReadyH.cons rfl (fun K hK=>?_) AllReadyH.nil
 go_simp
 (go_at_call 270;(with_reducible refine (HSS.out _ ?_).mono ?_);exact A2.self (by repeat (first | (with_reducible assumption) | (with_reducible refine A2.dr ?_)));rintro e w1 ⟨rfl,hb1⟩;have hst1:A2 w w1 h1 p h2 q:=A2.step (by repeat (first | (with_reducible assumption) | (with_reducible refine A2.dr ?_))) hb1;clear hb1)
 refine hK.out _ _ (by (first | (with_reducible assumption) | (with_reducible (refine a2_t ?_);repeat (first | (with_reducible assumption) | (with_reducible refine A2.dr ?_))))) (fun hHeld=>?_)
 clear hK K
 refine wpAnyH_take (i:=5) (v:=?av5) rfl (by kernel_rfl) (by kernel_rfl) (by kernel_rfl) (fun _ _ _ h=>h) (Or.inl ⟨by rfl,?ay5⟩) (by assumption) ?as5
 case ay5=>(intro w hSw;(try dsimp only at hSw);go_simp;try with_reducible rfl)
 change wpAnyH _ _ _ _ _ _ _ (Act.put _ (some 11) _) _
 simp only [Act.put,List.setIfInBounds_toArray,List.set_cons_zero,List.set_cons_succ]
 refine wpAnyH_take (i:=6) (v:=?av6) rfl (by kernel_rfl) (by kernel_rfl) (by kernel_rfl) (fun _ _ _ h=>h) (Or.inl ⟨by rfl,?ay6⟩) (by assumption) ?as6
 case ay6=>(intro w hSw;(try dsimp only at hSw);go_simp;try with_reducible rfl)
 change wpAnyH _ _ _ _ _ _ _ (Act.put _ (some 12) _) _
 simp only [Act.put,List.setIfInBounds_toArray,List.set_cons_zero,List.set_cons_succ]
 refine wpAnyH_take (i:=7) (v:=undef) rfl (by kernel_rfl) (by kernel_rfl) (by kernel_rfl) (fun _ _ _ h=>h) (Or.inr ⟨by (go_simp <;> (intro h;cases h)),rfl⟩) (by assumption) ?_
 change wpAnyH _ _ _ _ _ _ _ (Act.put _ (some 13) _) _
 simp only [Act.put,List.setIfInBounds_toArray,List.set_cons_zero,List.set_cons_succ]
 refine wpAnyH_take (i:=8) (v:=undef) rfl (by kernel_rfl) (by kernel_rfl) (by kernel_rfl) (fun _ _ _ h=>h) (Or.inr ⟨by (go_simp <;> (intro h;cases h)),rfl⟩) (by assumption) ?_
 change wpAnyH _ _ _ _ _ _ _ (Act.put _ (some 14) _) _
 simp only [Act.put,List.setIfInBounds_toArray,List.set_cons_zero,List.set_cons_succ]
 refine wpAnyH_take (i:=9) (v:=undef) rfl (by kernel_rfl) (by kernel_rfl) (by kernel_rfl) (fun _ _ _ h=>h) (Or.inr ⟨by (go_simp <;> (intro h;cases h)),rfl⟩) (by assumption) ?_
 change wpAnyH _ _ _ _ _ _ _ (Act.put _ (some 15) _) _
 simp only [Act.put,List.setIfInBounds_toArray,List.set_cons_zero,List.set_cons_succ]
 refine wpAnyH_take (i:=10) (v:=undef) rfl (by kernel_rfl) (by kernel_rfl) (by kernel_rfl) (fun _ _ _ h=>h) (Or.inr ⟨by (go_simp <;> (intro h;cases h)),rfl⟩) (by assumption) ?_
 change wpAnyH _ _ _ _ _ _ _ (Act.put _ (some 16) _) _
 simp only [Act.put,List.setIfInBounds_toArray,List.set_cons_zero,List.set_cons_succ]
 refine wpAnyH_take (i:=11) (v:=undef) rfl (by kernel_rfl) (by kernel_rfl) (by kernel_rfl) (fun _ _ _ h=>h) (Or.inr ⟨by (go_simp <;> (intro h;cases h)),rfl⟩) (by assumption) ?_
 change wpAnyH _ _ _ _ _ _ _ (Act.put _ (some 17) _) _
 simp only [Act.put,List.setIfInBounds_toArray,List.set_cons_zero,List.set_cons_succ]
 refine wpAnyH_take (i:=12) (v:=undef) rfl (by kernel_rfl) (by kernel_rfl) (by kernel_rfl) (fun _ _ _ h=>h) (Or.inr ⟨by (go_simp <;> (intro h;cases h)),rfl⟩) (by assumption) ?_
 change wpAnyH _ _ _ _ _ _ _ (Act.put _ (some 18) _) _
 simp only [Act.put,List.setIfInBounds_toArray,List.set_cons_zero,List.set_cons_succ]
 refine wpAnyH_take (i:=13) (v:=undef) rfl (by kernel_rfl) (by kernel_rfl) (by kernel_rfl) (fun _ _ _ h=>h) (Or.inr ⟨by (go_simp <;> (intro h;cases h)),rfl⟩) (by assumption) ?_
 change wpAnyH _ _ _ _ _ _ _ (Act.put _ (some 19) _) _
 simp only [Act.put,List.setIfInBounds_toArray,List.set_cons_zero,List.set_cons_succ]
 refine wpAnyH_take (i:=14) (v:=?av14) rfl (by kernel_rfl) (by kernel_rfl) (by kernel_rfl) (fun _ _ _ h=>h) (Or.inl ⟨by rfl,?ay14⟩) (by assumption) ?as14
 case ay14=>(intro w hSw;(try dsimp only at hSw);go_simp;try with_reducible rfl)
 change wpAnyH _ _ _ _ _ _ _ (Act.put _ (some 20) _) _
 simp only [Act.put,List.setIfInBounds_toArray,List.set_cons_zero,List.set_cons_succ]
 refine wpAnyH_take (i:=15) (v:=?av15) rfl (by kernel_rfl) (by kernel_rfl) (by kernel_rfl) (fun _ _ _ h=>h) (Or.inl ⟨by rfl,?ay15⟩) (by assumption) ?as15
 case ay15=>(intro w hSw;(try dsimp only at hSw);go_simp;try with_reducible rfl)
 change wpAnyH _ _ _ _ _ _ _ (Act.put _ (some 21) _) _
 simp only [Act.put,List.setIfInBounds_toArray,List.set_cons_zero,List.set_cons_succ]
 refine wpAnyH_take (i:=16) (v:=undef) rfl (by kernel_rfl) (by kernel_rfl) (by kernel_rfl) (fun _ _ _ h=>h) (Or.inr ⟨by (go_simp <;> (intro h;cases h)),rfl⟩) (by assumption) ?_
 change wpAnyH _ _ _ _ _ _ _ (Act.put _ (some 22) _) _
 simp only [Act.put,List.setIfInBounds_toArray,List.set_cons_zero,List.set_cons_succ]
 refine wpAnyH_take (i:=17) (v:=undef) rfl (by kernel_rfl) (by kernel_rfl) (by kernel_rfl) (fun _ _ _ h=>h) (Or.inr ⟨by (go_simp <;> (intro h;cases h)),rfl⟩) (by assumption) ?_
 change wpAnyH _ _ _ _ _ _ _ (Act.put _ (some 23) _) _
 simp only [Act.put,List.setIfInBounds_toArray,List.set_cons_zero,List.set_cons_succ]
 refine wpAnyH_take (i:=18) (v:=undef) rfl (by kernel_rfl) (by kernel_rfl) (by kernel_rfl) (fun _ _ _ h=>h) (Or.inr ⟨by (go_simp <;> (intro h;cases h)),rfl⟩) (by assumption) ?_
 change wpAnyH _ _ _ _ _ _ _ (Act.put _ (some 24) _) _
 simp only [Act.put,List.setIfInBounds_toArray,List.set_cons_zero,List.set_cons_succ]
 refine wpAnyH_take (i:=19) (v:=undef) rfl (by kernel_rfl) (by kernel_rfl) (by kernel_rfl) (fun _ _ _ h=>h) (Or.inr ⟨by (go_simp <;> (intro h;cases h)),rfl⟩) (by assumption) ?_
 change wpAnyH _ _ _ _ _ _ _ (Act.put _ (some 25) _) _
 simp only [Act.put,List.setIfInBounds_toArray,List.set_cons_zero,List.set_cons_succ]
 refine wpAnyH_take (i:=20) (v:=undef) rfl (by kernel_rfl) (by kernel_rfl) (by kernel_rfl) (fun _ _ _ h=>h) (Or.inr ⟨by (go_simp <;> (intro h;cases h)),rfl⟩) (by assumption) ?_
 change wpAnyH _ _ _ _ _ _ _ (Act.put _ (some 26) _) _
 simp only [Act.put,List.setIfInBounds_toArray,List.set_cons_zero,List.set_cons_succ]
 refine wpAnyH_take (i:=21) (v:=undef) rfl (by kernel_rfl) (by kernel_rfl) (by kernel_rfl) (fun _ _ _ h=>h) (Or.inr ⟨by (go_simp <;> (intro h;cases h)),rfl⟩) (by assumption) ?_
 change wpAnyH _ _ _ _ _ _ _ (Act.put _ (some 27) _) _
 simp only [Act.put,List.setIfInBounds_toArray,List.set_cons_zero,List.set_cons_succ]
 refine wpAnyH_take (i:=22) (v:=undef) rfl (by kernel_rfl) (by kernel_rfl) (by kernel_rfl) (fun _ _ _ h=>h) (Or.inr ⟨by (go_simp <;> (intro h;cases h)),rfl⟩) (by assumption) ?_
 change wpAnyH _ _ _ _ _ _ _ (Act.put _ (some 28) _) _
 simp only [Act.put,List.setIfInBounds_toArray,List.set_cons_zero,List.set_cons_succ]
 refine wpAnyH_take (i:=23) (v:=?av23) rfl (by kernel_rfl) (by kernel_rfl) (by kernel_rfl) (fun _ _ _ h=>h) (Or.inl ⟨by rfl,?ay23⟩) (by assumption) ?as23
 case ay23=>(intro w hSw;(try dsimp only at hSw);go_simp;try with_reducible rfl)
 change wpAnyH _ _ _ _ _ _ _ (Act.put _ (some 29) _) _
 simp only [Act.put,List.setIfInBounds_toArray,List.set_cons_zero,List.set_cons_succ]
 refine wpAnyH_done (by kernel_rfl) ?_ _
 refine NoPanic.normal ?_
 go_wp2
 go_ret
 exact ⟨rfl,hst1.bel⟩
theorem gsame_fil {Ha Hb:Nat->Prop}{a b:PA}{h1 h2:Sl}{p q:V8} (w:World) (ga:AV Ha w a h1 p) (gb:AV Hb w b h2 q) (hs1:a.shape.length<=1048576) (hs2:b.shape.length<=1048576) (hse:a.shape=b.shape) (hfe:¬ a.fill=b.fill) :
  Calls Tryz.prog 260 #[arrV h1 p,arrV h2 q] w fun e w'=>e= .returned (.bool false)/\Below w.heap.size w w':=by
 have HSS:Hid (∀ W,A2 w W h1 p h2 q->Calls Tryz.prog 270 #[sv h1,sv h2] W fun e w'=>e= .returned (.bool (decide (a.shape=b.shape)))/\Below W.heap.size W w'):=fun W hW=>shSame_any ga.shape gb.shape hs1 hs2 W hW.bel
 have HCA:=Lib.hid (fun W (hW:A2 w W h1 p h2 q)=>av_class ga W hW.bel)
 have HCB:=Lib.hid (fun W (hW:A2 w W h1 p h2 q)=>av_class gb W hW.bel)
 have HLA:=Lib.hid (fun W (hW:A2 w W h1 p h2 q)=>av_len ga W hW.bel)
 have HLB:=Lib.hid (fun W (hW:A2 w W h1 p h2 q)=>av_len gb W hW.bel)
 rw [decide_eq_true hse] at HSS
 have zz:((a.fill:Int) != (b.fill:Int))=true:=by simp;omega
 generalize a.len=n at *
 generalize b.len=m at *
 generalize a.fill=z at *
 generalize b.fill=z9 at *
 have HS0:=Lib.hid (A2.new w h1 h2 p q)
 clear ga gb hs1 hs2 hse
 go_enter Tryz.func260,Tryz.ntmps260
 go_wp2_with fail
 obtain ⟨wz,hwz⟩:∃ wz,wz=(w.alloc (arrO h1 p)).alloc (arrO h2 q):=⟨_,rfl⟩
 rw [<- hwz] at HS0
 have HWZ:=Lib.hid hwz
 clear hwz
 rw [<- HWZ.out]
 have hs0:=HS0.out.dr
 have hs00:=HS0.out
 refine wp_region_noPanic ?_
 refine wp_region_held_drew (S:=fun W=>((W.cell? ⟨w.heap.size,0,none⟩=some (.slice h1.1 h1.2.1 h1.2.2)/\W.cell? ⟨w.heap.size,1,none⟩=some (.int .i64 p.k)/\W.cell? ⟨w.heap.size,2,none⟩=some (.slice p.b.1 p.b.2.1 p.b.2.2)/\W.cell? ⟨w.heap.size,3,none⟩=some (.int .i64 p.bn)/\W.cell? ⟨w.heap.size,4,none⟩=some (.slice p.s.1 p.s.2.1 p.s.2.2)/\W.cell? ⟨w.heap.size,5,none⟩=some (.slice p.i.1 p.i.2.1 p.i.2.2)/\W.cell? ⟨w.heap.size,6,none⟩=some (.slice p.f.1 p.f.2.1 p.f.2.2)/\W.cell? ⟨w.heap.size,7,none⟩=some (.slice p.c.1 p.c.2.1 p.c.2.2)/\W.cell? ⟨w.heap.size,8,none⟩=some (.slice p.x.1 p.x.2.1 p.x.2.2))/\(W.cell? ⟨w.heap.size+1,0,none⟩=some (.slice h2.1 h2.2.1 h2.2.2)/\W.cell? ⟨w.heap.size+1,1,none⟩=some (.int .i64 q.k)/\W.cell? ⟨w.heap.size+1,2,none⟩=some (.slice q.b.1 q.b.2.1 q.b.2.2)/\W.cell? ⟨w.heap.size+1,3,none⟩=some (.int .i64 q.bn)/\W.cell? ⟨w.heap.size+1,4,none⟩=some (.slice q.s.1 q.s.2.1 q.s.2.2)/\W.cell? ⟨w.heap.size+1,5,none⟩=some (.slice q.i.1 q.i.2.1 q.i.2.2)/\W.cell? ⟨w.heap.size+1,6,none⟩=some (.slice q.f.1 q.f.2.1 q.f.2.2)/\W.cell? ⟨w.heap.size+1,7,none⟩=some (.slice q.c.1 q.c.2.1 q.c.2.2)/\W.cell? ⟨w.heap.size+1,8,none⟩=some (.slice q.x.1 q.x.2.1 q.x.2.2)))/\A2 w W h1 p h2 q) (by kernel_rfl) (by exact a2_t hs0) (fun hHeld=>?_)
 refine wpAnyH_take (i:=0) (v:=?av24) rfl (by kernel_rfl) (by kernel_rfl) (by kernel_rfl) (fun _ _ _ h=>h) (Or.inl ⟨by rfl,?ay24⟩) (by assumption) ?as24
 case ay24=>(intro w hSw;(try dsimp only at hSw);go_simp;try with_reducible rfl)
 change wpAnyH _ _ _ _ _ _ _ (Act.put _ (some 6) _) _
 simp only [Act.put,List.setIfInBounds_toArray,List.set_cons_zero,List.set_cons_succ]
 refine wpAnyH_take (i:=1) (v:=?av25) rfl (by kernel_rfl) (by kernel_rfl) (by kernel_rfl) (fun _ _ _ h=>h) (Or.inl ⟨by rfl,?ay25⟩) (by assumption) ?as25
 case ay25=>(intro w hSw;(try dsimp only at hSw);go_simp;try with_reducible rfl)
 change wpAnyH _ _ _ _ _ _ _ (Act.put _ (some 7) _) _
 simp only [Act.put,List.setIfInBounds_toArray,List.set_cons_zero,List.set_cons_succ]
 refine wpAnyH_take (i:=2) (v:=?av26) rfl (by kernel_rfl) (by kernel_rfl) (by kernel_rfl) (fun _ _ _ h=>h) (Or.inl ⟨by rfl,?ay26⟩) (by assumption) ?as26
 case ay26=>(intro w hSw;(try dsimp only at hSw);go_simp;try with_reducible rfl)
 change wpAnyH _ _ _ _ _ _ _ (Act.put _ (some 8) _) _
 simp only [Act.put,List.setIfInBounds_toArray,List.set_cons_zero,List.set_cons_succ]
 refine wpAnyH_take (i:=3) (v:=?av27) rfl (by kernel_rfl) (by kernel_rfl) (by kernel_rfl) (fun _ _ _ h=>h) (Or.inl ⟨by rfl,?ay27⟩) (by assumption) ?as27
 case ay27=>(intro w hSw;(try dsimp only at hSw);go_simp;try with_reducible rfl)
 change wpAnyH _ _ _ _ _ _ _ (Act.put _ (some 9) _) _
 simp only [Act.put,List.setIfInBounds_toArray,List.set_cons_zero,List.set_cons_succ]
 refine wpAnyH_ready (rs:=[4]) (by kernel_rfl) (by simp) ?_
 refine AllReadyH.cons rfl (fun K hK=>?_) AllReadyH.nil
 go_simp
 (go_at_call 270;(with_reducible refine (HSS.out _ ?_).mono ?_);exact A2.self (by repeat (first | (with_reducible assumption) | (with_reducible refine A2.dr ?_)));rintro e w1 ⟨rfl,hb1⟩;have hst1:A2 w w1 h1 p h2 q:=A2.step (by repeat (first | (with_reducible assumption) | (with_reducible refine A2.dr ?_))) hb1;clear hb1)
 refine hK.out _ _ (by (first | (with_reducible assumption) | (with_reducible (refine a2_t ?_);repeat (first | (with_reducible assumption) | (with_reducible refine A2.dr ?_))))) (fun hHeld=>?_)
 clear hK K
 refine wpAnyH_take (i:=5) (v:=?av28) rfl (by kernel_rfl) (by kernel_rfl) (by kernel_rfl) (fun _ _ _ h=>h) (Or.inl ⟨by rfl,?ay28⟩) (by assumption) ?as28
 case ay28=>(intro w hSw;(try dsimp only at hSw);go_simp;try with_reducible rfl)
 change wpAnyH _ _ _ _ _ _ _ (Act.put _ (some 11) _) _
 simp only [Act.put,List.setIfInBounds_toArray,List.set_cons_zero,List.set_cons_succ]
 refine wpAnyH_take (i:=6) (v:=?av29) rfl (by kernel_rfl) (by kernel_rfl) (by kernel_rfl) (fun _ _ _ h=>h) (Or.inl ⟨by rfl,?ay29⟩) (by assumption) ?as29
 case ay29=>(intro w hSw;(try dsimp only at hSw);go_simp;try with_reducible rfl)
 change wpAnyH _ _ _ _ _ _ _ (Act.put _ (some 12) _) _
 simp only [Act.put,List.setIfInBounds_toArray,List.set_cons_zero,List.set_cons_succ]
 refine wpAnyH_take (i:=7) (v:=?av30) rfl (by kernel_rfl) (by kernel_rfl) (by kernel_rfl) (fun _ _ _ h=>h) (Or.inl ⟨by go_simp,?ay30⟩) (by assumption) ?as30
 case ay30=>(intro w hSw;(try dsimp only at hSw);go_simp;try with_reducible rfl)
 change wpAnyH _ _ _ _ _ _ _ (Act.put _ (some 13) _) _
 simp only [Act.put,List.setIfInBounds_toArray,List.set_cons_zero,List.set_cons_succ]
 refine wpAnyH_take (i:=8) (v:=?av31) rfl (by kernel_rfl) (by kernel_rfl) (by kernel_rfl) (fun _ _ _ h=>h) (Or.inl ⟨by go_simp,?ay31⟩) (by assumption) ?as31
 case ay31=>(intro w hSw;(try dsimp only at hSw);go_simp;try with_reducible rfl)
 change wpAnyH _ _ _ _ _ _ _ (Act.put _ (some 14) _) _
 simp only [Act.put,List.setIfInBounds_toArray,List.set_cons_zero,List.set_cons_succ]
 refine wpAnyH_take (i:=10) (v:=?av32) rfl (by kernel_rfl) (by kernel_rfl) (by kernel_rfl) (fun _ _ _ h=>h) (Or.inl ⟨by go_simp,?ay32⟩) (by assumption) ?as32
 case ay32=>(intro w hSw;(try dsimp only at hSw);go_simp;try with_reducible rfl)
 change wpAnyH _ _ _ _ _ _ _ (Act.put _ (some 16) _) _
 simp only [Act.put,List.setIfInBounds_toArray,List.set_cons_zero,List.set_cons_succ]
 refine wpAnyH_take (i:=11) (v:=?av33) rfl (by kernel_rfl) (by kernel_rfl) (by kernel_rfl) (fun _ _ _ h=>h) (Or.inl ⟨by go_simp,?ay33⟩) (by assumption) ?as33
 case ay33=>(intro w hSw;(try dsimp only at hSw);go_simp;try with_reducible rfl)
 change wpAnyH _ _ _ _ _ _ _ (Act.put _ (some 17) _) _
 simp only [Act.put,List.setIfInBounds_toArray,List.set_cons_zero,List.set_cons_succ]
 refine wpAnyH_ready (rs:=[9]) (by kernel_rfl) (by simp) ?_
 refine AllReadyH.cons rfl (fun K hK=>?_) AllReadyH.nil
 go_simp
 (go_at_call 135;(with_reducible refine (HCA.out _ ?_).mono ?_);exact A2.self (by repeat (first | (with_reducible assumption) | (with_reducible refine A2.dr ?_)));rintro e w2 ⟨rfl,hb2⟩;have hst2:A2 w w2 h1 p h2 q:=A2.step (by repeat (first | (with_reducible assumption) | (with_reducible refine A2.dr ?_))) hb2;clear hb2)
 refine hK.out _ _ (by (first | (with_reducible assumption) | (with_reducible (refine a2_t ?_);repeat (first | (with_reducible assumption) | (with_reducible refine A2.dr ?_))))) (fun hHeld=>?_)
 clear hK K
 refine wpAnyH_ready (rs:=[12]) (by kernel_rfl) (by simp) ?_
 refine AllReadyH.cons rfl (fun K hK=>?_) AllReadyH.nil
 go_simp
 (go_at_call 135;(with_reducible refine (HCB.out _ ?_).mono ?_);exact A2.self (by repeat (first | (with_reducible assumption) | (with_reducible refine A2.dr ?_)));rintro e w3 ⟨rfl,hb3⟩;have hst3:A2 w w3 h1 p h2 q:=A2.step (by repeat (first | (with_reducible assumption) | (with_reducible refine A2.dr ?_))) hb3;clear hb3)
 refine hK.out _ _ (by (first | (with_reducible assumption) | (with_reducible (refine a2_t ?_);repeat (first | (with_reducible assumption) | (with_reducible refine A2.dr ?_))))) (fun hHeld=>?_)
 clear hK K
 refine wpAnyH_take (i:=13) (v:=?av34) rfl (by kernel_rfl) (by kernel_rfl) (by kernel_rfl) (fun _ _ _ h=>h) (Or.inl ⟨by go_simp,?ay34⟩) (by assumption) ?as34
 case ay34=>(intro w hSw;(try dsimp only at hSw);go_simp;try with_reducible rfl)
 change wpAnyH _ _ _ _ _ _ _ (Act.put _ (some 19) _) _
 simp only [Act.put,List.setIfInBounds_toArray,List.set_cons_zero,List.set_cons_succ]
 refine wpAnyH_take (i:=14) (v:=?av35) rfl (by kernel_rfl) (by kernel_rfl) (by kernel_rfl) (fun _ _ _ h=>h) (Or.inl ⟨by rfl,?ay35⟩) (by assumption) ?as35
 case ay35=>(intro w hSw;(try dsimp only at hSw);go_simp;try with_reducible rfl)
 change wpAnyH _ _ _ _ _ _ _ (Act.put _ (some 20) _) _
 simp only [Act.put,List.setIfInBounds_toArray,List.set_cons_zero,List.set_cons_succ]
 refine wpAnyH_take (i:=15) (v:=?av36) rfl (by kernel_rfl) (by kernel_rfl) (by kernel_rfl) (fun _ _ _ h=>h) (Or.inl ⟨by rfl,?ay36⟩) (by assumption) ?as36
 case ay36=>(intro w hSw;(try dsimp only at hSw);go_simp;try with_reducible rfl)
 change wpAnyH _ _ _ _ _ _ _ (Act.put _ (some 21) _) _
 simp only [Act.put,List.setIfInBounds_toArray,List.set_cons_zero,List.set_cons_succ]
 refine wpAnyH_take (i:=16) (v:=undef) rfl (by kernel_rfl) (by kernel_rfl) (by kernel_rfl) (fun _ _ _ h=>h) (Or.inr ⟨by (go_simp <;> (intro h;cases h)),rfl⟩) (by assumption) ?_
 change wpAnyH _ _ _ _ _ _ _ (Act.put _ (some 22) _) _
 simp only [Act.put,List.setIfInBounds_toArray,List.set_cons_zero,List.set_cons_succ]
 refine wpAnyH_take (i:=17) (v:=undef) rfl (by kernel_rfl) (by kernel_rfl) (by kernel_rfl) (fun _ _ _ h=>h) (Or.inr ⟨by (go_simp <;> (intro h;cases h)),rfl⟩) (by assumption) ?_
 change wpAnyH _ _ _ _ _ _ _ (Act.put _ (some 23) _) _
 simp only [Act.put,List.setIfInBounds_toArray,List.set_cons_zero,List.set_cons_succ]
 refine wpAnyH_take (i:=18) (v:=undef) rfl (by kernel_rfl) (by kernel_rfl) (by kernel_rfl) (fun _ _ _ h=>h) (Or.inr ⟨by (go_simp <;> (intro h;cases h)),rfl⟩) (by assumption) ?_
 change wpAnyH _ _ _ _ _ _ _ (Act.put _ (some 24) _) _
 simp only [Act.put,List.setIfInBounds_toArray,List.set_cons_zero,List.set_cons_succ]
 refine wpAnyH_take (i:=19) (v:=undef) rfl (by kernel_rfl) (by kernel_rfl) (by kernel_rfl) (fun _ _ _ h=>h) (Or.inr ⟨by (go_simp <;> (intro h;cases h)),rfl⟩) (by assumption) ?_
 change wpAnyH _ _ _ _ _ _ _ (Act.put _ (some 25) _) _
 simp only [Act.put,List.setIfInBounds_toArray,List.set_cons_zero,List.set_cons_succ]
 refine wpAnyH_take (i:=20) (v:=undef) rfl (by kernel_rfl) (by kernel_rfl) (by kernel_rfl) (fun _ _ _ h=>h) (Or.inr ⟨by (go_simp <;> (intro h;cases h)),rfl⟩) (by assumption) ?_
 change wpAnyH _ _ _ _ _ _ _ (Act.put _ (some 26) _) _
 simp only [Act.put,List.setIfInBounds_toArray,List.set_cons_zero,List.set_cons_succ]
 refine wpAnyH_take (i:=21) (v:=undef) rfl (by kernel_rfl) (by kernel_rfl) (by kernel_rfl) (fun _ _ _ h=>h) (Or.inr ⟨by (go_simp <;> (intro h;cases h)),rfl⟩) (by assumption) ?_
 change wpAnyH _ _ _ _ _ _ _ (Act.put _ (some 27) _) _
 simp only [Act.put,List.setIfInBounds_toArray,List.set_cons_zero,List.set_cons_succ]
 refine wpAnyH_take (i:=22) (v:=undef) rfl (by kernel_rfl) (by kernel_rfl) (by kernel_rfl) (fun _ _ _ h=>h) (Or.inr ⟨by (go_simp <;> (intro h;cases h)),rfl⟩) (by assumption) ?_
 change wpAnyH _ _ _ _ _ _ _ (Act.put _ (some 28) _) _
 simp only [Act.put,List.setIfInBounds_toArray,List.set_cons_zero,List.set_cons_succ]
 refine wpAnyH_take (i:=23) (v:=?av44) rfl (by kernel_rfl) (by kernel_rfl) (by kernel_rfl) (fun _ _ _ h=>h) (Or.inl ⟨by rfl,?ay44⟩) (by assumption) ?as44
 case ay44=>(intro w hSw;(try dsimp only at hSw);go_simp;try with_reducible rfl)
 change wpAnyH _ _ _ _ _ _ _ (Act.put _ (some 29) _) _
 simp only [Act.put,List.setIfInBounds_toArray,List.set_cons_zero,List.set_cons_succ]
 refine wpAnyH_done (by kernel_rfl) ?_ _
 refine NoPanic.normal ?_
 go_wp2
 go_ret
 exact ⟨rfl,hst3.bel⟩
theorem gsame_els {Ha Hb:Nat->Prop}{a b:PA}{h1 h2:Sl}{p q:V8} (w:World) (ga:AV Ha w a h1 p) (gb:AV Hb w b h2 q) (hs1:a.shape.length<=1048576) (hs2:b.shape.length<=1048576) (hse:a.shape=b.shape) (hfe:a.fill=b.fill) (hle:a.len=b.len) (hl:a.len<=1000000) (al:Nat->Bool)
  (hAL:∀ i,i < a.len->∀ W,Below w.heap.size w W->Calls Tryz.prog 240 #[p.v,.int .i64 (i:Int),q.v,.int .i64 (i:Int)] W fun e w'=>e= .returned (.bool (al i))/\Below W.heap.size W w') :
  Calls Tryz.prog 260 #[arrV h1 p,arrV h2 q] w (SmR a.len al w):=by
 have HSS:Hid (∀ W,A2 w W h1 p h2 q->Calls Tryz.prog 270 #[sv h1,sv h2] W fun e w'=>e= .returned (.bool (decide (a.shape=b.shape)))/\Below W.heap.size W w'):=fun W hW=>shSame_any ga.shape gb.shape hs1 hs2 W hW.bel
 have HCA:=Lib.hid (fun W (hW:A2 w W h1 p h2 q)=>av_class ga W hW.bel)
 have HCB:=Lib.hid (fun W (hW:A2 w W h1 p h2 q)=>av_class gb W hW.bel)
 have HLA:=Lib.hid (fun W (hW:A2 w W h1 p h2 q)=>av_len ga W hW.bel)
 have HLB:=Lib.hid (fun W (hW:A2 w W h1 p h2 q)=>av_len gb W hW.bel)
 rw [decide_eq_true hse] at HSS
 rw [<- hfe] at HCB
 rw [<- hle] at HLB
 have zz:((a.fill:Int) != (a.fill:Int))=false:=by simp
 have nn:((a.len:Int) != (a.len:Int))=false:=by simp
 have HAL:=Lib.hid hAL
 generalize a.len=n at *
 generalize b.len=m at *
 generalize a.fill=z at *
 generalize b.fill=z9 at *
 have HS0:=Lib.hid (A2.new w h1 h2 p q)
 clear ga gb hs1 hs2 hse hAL
 go_enter Tryz.func260,Tryz.ntmps260
 go_wp2_with fail
 obtain ⟨wz,hwz⟩:∃ wz,wz=(w.alloc (arrO h1 p)).alloc (arrO h2 q):=⟨_,rfl⟩
 rw [<- hwz] at HS0
 have HWZ:=Lib.hid hwz
 clear hwz
 rw [<- HWZ.out]
 go_cut [29] from 6 (fun x wx=>x= .bool false/\A2 w wx h1 p h2 q)
 case first =>
  have hs0:=HS0.out.dr
  have hs00:=HS0.out
  go_region_held3 (fun W=>((W.cell? ⟨w.heap.size,0,none⟩=some (.slice h1.1 h1.2.1 h1.2.2)/\W.cell? ⟨w.heap.size,1,none⟩=some (.int .i64 p.k)/\W.cell? ⟨w.heap.size,2,none⟩=some (.slice p.b.1 p.b.2.1 p.b.2.2)/\W.cell? ⟨w.heap.size,3,none⟩=some (.int .i64 p.bn)/\W.cell? ⟨w.heap.size,4,none⟩=some (.slice p.s.1 p.s.2.1 p.s.2.2)/\W.cell? ⟨w.heap.size,5,none⟩=some (.slice p.i.1 p.i.2.1 p.i.2.2)/\W.cell? ⟨w.heap.size,6,none⟩=some (.slice p.f.1 p.f.2.1 p.f.2.2)/\W.cell? ⟨w.heap.size,7,none⟩=some (.slice p.c.1 p.c.2.1 p.c.2.2)/\W.cell? ⟨w.heap.size,8,none⟩=some (.slice p.x.1 p.x.2.1 p.x.2.2))/\(W.cell? ⟨w.heap.size+1,0,none⟩=some (.slice h2.1 h2.2.1 h2.2.2)/\W.cell? ⟨w.heap.size+1,1,none⟩=some (.int .i64 q.k)/\W.cell? ⟨w.heap.size+1,2,none⟩=some (.slice q.b.1 q.b.2.1 q.b.2.2)/\W.cell? ⟨w.heap.size+1,3,none⟩=some (.int .i64 q.bn)/\W.cell? ⟨w.heap.size+1,4,none⟩=some (.slice q.s.1 q.s.2.1 q.s.2.2)/\W.cell? ⟨w.heap.size+1,5,none⟩=some (.slice q.i.1 q.i.2.1 q.i.2.2)/\W.cell? ⟨w.heap.size+1,6,none⟩=some (.slice q.f.1 q.f.2.1 q.f.2.2)/\W.cell? ⟨w.heap.size+1,7,none⟩=some (.slice q.c.1 q.c.2.1 q.c.2.2)/\W.cell? ⟨w.heap.size+1,8,none⟩=some (.slice q.x.1 q.x.2.1 q.x.2.2)))/\A2 w W h1 p h2 q)
   (first | (with_reducible assumption) | (with_reducible (refine a2_t ?_);repeat (first | (with_reducible assumption) | (with_reducible refine A2.dr ?_))))
   (first
    | (go_at_call 270;(with_reducible refine (HSS.out _ ?_).mono ?_);exact A2.self (by repeat (first | (with_reducible assumption) | (with_reducible refine A2.dr ?_)));rintro e w1 ⟨rfl,hb1⟩;have hst1:A2 w w1 h1 p h2 q:=A2.step (by repeat (first | (with_reducible assumption) | (with_reducible refine A2.dr ?_))) hb1;clear hb1)
    | (go_at_call 135;(with_reducible refine (HCA.out _ ?_).mono ?_);exact A2.self (by repeat (first | (with_reducible assumption) | (with_reducible refine A2.dr ?_)));rintro e w2 ⟨rfl,hb2⟩;have hst2:A2 w w2 h1 p h2 q:=A2.step (by repeat (first | (with_reducible assumption) | (with_reducible refine A2.dr ?_))) hb2;clear hb2)
    | (go_at_call 135;(with_reducible refine (HCB.out _ ?_).mono ?_);exact A2.self (by repeat (first | (with_reducible assumption) | (with_reducible refine A2.dr ?_)));rintro e w3 ⟨rfl,hb3⟩;have hst3:A2 w w3 h1 p h2 q:=A2.step (by repeat (first | (with_reducible assumption) | (with_reducible refine A2.dr ?_))) hb3;clear hb3)
    | (go_at_call 48;(with_reducible refine (HLA.out _ ?_).mono ?_);exact A2.self (by repeat (first | (with_reducible assumption) | (with_reducible refine A2.dr ?_)));rintro e w4 ⟨rfl,hb4⟩;have hst4:A2 w w4 h1 p h2 q:=A2.step (by repeat (first | (with_reducible assumption) | (with_reducible refine A2.dr ?_))) hb4;clear hb4)
    | (go_at_call 48;(with_reducible refine (HLB.out _ ?_).mono ?_);exact A2.self (by repeat (first | (with_reducible assumption) | (with_reducible refine A2.dr ?_)));rintro e w5 ⟨rfl,hb5⟩;have hst5:A2 w w5 h1 p h2 q:=A2.step (by repeat (first | (with_reducible assumption) | (with_reducible refine A2.dr ?_))) hb5;clear hb5))
  all_goals
   go_wp2
   go_meet
   exact ⟨rfl,hst5⟩
 obtain ⟨rfl,hst⟩:=hcut
 have HST:=Lib.hid hst
 clear hst HS0 HWZ
 obtain ⟨c0,c1,c2,c3,c4,c5,c6,c7,c8⟩:=HST.out.one.c
 go_wp2_with fail
 refine (HLA.out _ HST.out).mono ?_
 rintro e w3 ⟨rfl,hb⟩
 have HS3:=Lib.hid (HST.out.step hb)
 clear hb c0 c1 c2 c3 c4 c5 c6 c7 c8 HST HCA HCB HLA HLB HSS
 go_wp2
 go_loopw [33] (fun iv wr=>∃ i:Nat,i<=n/\iv= .int .i64 (i:Int)/\(∀ j,j < i->al j=true)/\A2 w wr h1 p h2 q) (fun iv _=>n - (intOf iv).toNat)
 case atStart=>exact ⟨0,Nat.zero_le _,rfl,fun j hj=>absurd hj (Nat.not_lt_zero _),HS3.out⟩
 case round =>
  obtain ⟨i,hi,rfl,hal,hti⟩:=hrel
  have HTI:=Lib.hid hti
  have HJ:=Lib.hid hal
  clear hti hal
  by_cases hlt:i < n
  ·have hlt2:(i:Int) < (n:Int):=by omega
   obtain ⟨c0,c1,c2,c3,c4,c5,c6,c7,c8⟩:=HTI.out.one.c
   obtain ⟨g0,g1,g2,g3,g4,g5,g6,g7,g8⟩:=HTI.out.two.c
   go_wp2_with fail
   refine (HAL.out i hlt _ HTI.out.bel).mono ?_
   rintro e w4 ⟨rfl,hb⟩
   have HT4:=Lib.hid (HTI.out.step hb)
   clear hb c0 c1 c2 c3 c4 c5 c6 c7 c8 g0 g1 g2 g3 g4 g5 g6 g7 g8
   cases hali:al i with
   | true =>
    have HA:=Lib.hid hali
    clear hali
    go_wp2
    go_roundw
    case rel =>
     refine ⟨i+1,by omega,by go_num,fun j hj=>?_,HT4.out⟩
     by_cases e:j=i
     ·subst e;exact HA.out
     ·exact HJ.out j (by omega)
    case measure=>simp [intOf];omega
   | false =>
    have HA:=Lib.hid hali
    clear hali
    go_wp2
    go_ret
    exact smR_no hlt HA.out HT4.out.bel
  ·have hge:¬ (i:Int) < (n:Int):=by omega
   go_wp2
   go_ret
   exact smR_yes (fun j hj=>HJ.out j (by omega)) HTI.out.bel
theorem gsame_over {Ha Hb:Nat->Prop}{a b:PA}{h1 h2:Sl}{p q:V8} (w:World) (ga:AV Ha w a h1 p) (gb:AV Hb w b h2 q) (hs1:a.shape.length<=1048576) (hs2:b.shape.length<=1048576) (hnm:a.shape=b.shape->a.len=b.len) (hl:a.len<=1000000)
  (hAL:a.fill=b.fill->∀ i,i < a.len->i < b.len->∀ W,Below w.heap.size w W->Calls Tryz.prog 240 #[p.v,.int .i64 (i:Int),q.v,.int .i64 (i:Int)] W fun e w'=>e= .returned (.bool (eqI (elA a i) (elA b i)))/\Below W.heap.size W w') :
  Calls Tryz.prog 260 #[arrV h1 p,arrV h2 q] w fun e w'=>e= .returned (.bool (eqR (rawP a) (rawP b)))/\Below w.heap.size w w':=by
 by_cases h3:a.shape=b.shape
 ·by_cases h4:a.fill=b.fill
  ·have h5:=hnm h3
   refine (gsame_els w ga gb hs1 hs2 h3 h4 h5 hl (fun i=>eqI (elA a i) (elA b i)) (fun i hi W hb=>hAL h4 i hi (by omega) W hb)).mono ?_
   rintro e w' ⟨r,rfl,hr,hb⟩
   refine ⟨?_,hb⟩
   have:r=eqR (rawP a) (rawP b):=by
    rw [Bool.eq_iff_iff,hr,eqR_iff,rawP_iff]
    exact ⟨fun h=>⟨h3,h4,h5,fun i hi=>eqI_iff.1 (h i hi)⟩,fun h i hi=>eqI_iff.2 (h.2.2.2 i hi)⟩
   rw [this]
  ·rw [eqR_no.2 (fun e=>h4 ((rawP_iff a b).1 e).2.1)]
   exact gsame_fil w ga gb hs1 hs2 h3 h4
 ·rw [eqR_no.2 (fun e=>h3 ((rawP_iff a b).1 e).1)]
  exact gsame_shp w ga gb hs1 hs2 h3
theorem okSh_len {s:List Nat}{n m:Nat} (h1:OkSh s n) (h2:OkSh s m):n=m:=by rw [<- h1.2.2,<- h2.2.2]
theorem gsame_any:∀ (d:Nat) (Ha Hb:Nat->Prop) (a b:PA) (h1 h2:Sl) (p q:V8) (w:World),GoodA d a->SmA 1000000 a->GoodA d b->SmA 1000000 b->AV Ha w a h1 p->AV Hb w b h2 q ->
  Calls Tryz.prog 260 #[arrV h1 p,arrV h2 q] w fun e w'=>e= .returned (.bool (eqR (rawP a) (rawP b)))/\Below w.heap.size w w'
 | 0,_,_,_,_,_,_,_,_,_,hg,_,_,_,_,_=>absurd hg.sh.1 (Nat.lt_irrefl _)
 | d+1,Ha,Hb,a,b,h1,h2,p,q,w,hg,hs,hg2,hs2,ga,gb=>by
  have s1:a.shape.length<=8:=hg.sh.2.1
  have s2:b.shape.length<=8:=hg2.sh.2.1
  refine gsame_over w ga gb (by omega) (by omega) (fun e=>okSh_len hg.sh.2 (by rw [e];exact hg2.sh.2)) hs.len fun hf i hi hk W hb=>?_
  cases a with
  | nums s l =>
   cases b with
   | nums s' l'=>exact galike_num ga gb i i hi hk hg.nums hg2.nums W hb
   | chars s' l'=>exact absurd hf (show ¬ (0:Nat)=1 by decide)
   | boxes s' l'=>exact absurd hf (show ¬ (0:Nat)=2 by decide)
  | chars s l =>
   cases b with
   | nums s' l'=>exact absurd hf (show ¬ (1:Nat)=0 by decide)
   | chars s' l'=>exact galike_chr ga gb i i hi hk W hb
   | boxes s' l'=>exact absurd hf (show ¬ (1:Nat)=2 by decide)
  | boxes s l =>
   cases b with
   | nums s' l'=>exact absurd hf (show ¬ (2:Nat)=0 by decide)
   | chars s' l'=>exact absurd hf (show ¬ (2:Nat)=1 by decide)
   | boxes s' l' =>
    have hi2:i < l.length:=hi
    have hk2:i < l'.length:=hk
    have e1:l.getD i default=l[i]:=by simp [List.getD,hi2]
    have e2:l'.getD i default=l'[i]:=by simp [List.getD,hk2]
    refine galike_box ga gb i i hi2 hk2 (fun W u1 u2 v1 v2 g1 g2=>?_) W hb
    rw [e1] at g1 ⊢
    rw [e2] at g2 ⊢
    exact gsame_any d Ha Hb l[i] l'[i] u1 u2 v1 v2 W (by simpa using hg.boxes i hi2) (hs.boxes i hi2) (by simpa using hg2.boxes i hk2) (hs2.boxes i hk2) g1 g2
theorem galike_any {Ha Hb:Nat->Prop}{a b:PA}{h1 h2:Sl}{p q:V8}{w0:World} (d:Nat) (hg:GoodA (d+1) a) (hs:SmA 1000000 a) (hg2:GoodA (d+1) b) (hs2:SmA 1000000 b) (ga:AV Ha w0 a h1 p) (gb:AV Hb w0 b h2 q) (hf:a.fill=b.fill) (i k:Nat) (hi:i < a.len) (hk:k < b.len) (w:World) (hb:Below w0.heap.size w0 w) :
  Calls Tryz.prog 240 #[p.v,.int .i64 (i:Int),q.v,.int .i64 (k:Int)] w fun e w'=>e= .returned (.bool (eqI (elA a i) (elA b k)))/\Below w.heap.size w w':=by
 cases a with
 | nums s l =>
  cases b with
  | nums s' l'=>exact galike_num ga gb i k hi hk hg.nums hg2.nums w hb
  | chars s' l'=>exact absurd hf (show ¬ (0:Nat)=1 by decide)
  | boxes s' l'=>exact absurd hf (show ¬ (0:Nat)=2 by decide)
 | chars s l =>
  cases b with
  | nums s' l'=>exact absurd hf (show ¬ (1:Nat)=0 by decide)
  | chars s' l'=>exact galike_chr ga gb i k hi hk w hb
  | boxes s' l'=>exact absurd hf (show ¬ (1:Nat)=2 by decide)
 | boxes s l =>
  cases b with
  | nums s' l'=>exact absurd hf (show ¬ (2:Nat)=0 by decide)
  | chars s' l'=>exact absurd hf (show ¬ (2:Nat)=1 by decide)
  | boxes s' l' =>
   have hi2:i < l.length:=hi
   have hk2:k < l'.length:=hk
   have e1:l.getD i default=l[i]:=by simp [List.getD,hi2]
   have e2:l'.getD k default=l'[k]:=by simp [List.getD,hk2]
   refine galike_box ga gb i k hi2 hk2 (fun W u1 u2 v1 v2 g1 g2=>?_) w hb
   rw [e1] at g1 ⊢
   rw [e2] at g2 ⊢
   exact gsame_any d Ha Hb l[i] l'[k] u1 u2 v1 v2 W (by simpa using hg.boxes i hi2) (hs.boxes i hi2) (by simpa using hg2.boxes k hk2) (hs2.boxes k hk2) g1 g2
end Go.Proofs.YtbakjaliponbbaaGreatDoor
