/- relate.Apply at any two arrays' lists: truths, or a trouble. Printed by gen_rea.py. What a relation's truths put together come to, in one go and one by one: .. Conditions: as each theorem says. -/
import Derived.Test.YtdelgpelkfndeaaGreatDoorMgA
import Derived.Test.YtdelgpelkfndeaaGreatDoorMg21
import Derived.Test.YtdelgpelkfndeaaGreatDoorMg10
import Derived.Test.YtdelgpelkfndeaaGreatDoorMg18
import Derived.Test.YtdelgpelkfndeaaGreatDoorMg13
import Derived.Test.YtdelgpelkfndeaaGreatDoorMg17
import Derived.Test.YtdelgpelkfndeaaGreatDoorMg16
import Derived.Laws.RangeAny
import Derived.Laws.IdiomStrings
import Derived.Lib.RuneCount
import Derived.Test.YtdelgpelkfndeaaGreatDoorMg01
import Derived.BigQuiet
import Derived.Deep.DeepCutAuto
import Derived.Deep.CutBlock
import Derived.Test.YtdelgpelkfndeaaGreatDoorMg15
import Derived.Deep.QuietTactic
import Derived.StillTailTactics
import Derived.Test.YtdelgpelkfndeaaGreatDoorMg11
import Derived.Test.YtdelgpelkfndeaaGreatDoorMg09
import Derived.Deep.RegionHeld3
import Derived.Deep.AppendLies
import Derived.Deep.RegionLaw
import Derived.Test.YtdelgpelkfndeaaGreatDoorMg14
import Derived.Test.YtdelgpelkfndeaaGreatDoorMg12
import Derived.Test.YtdelgpelkfndeaaGreatDoorMg02
import Derived.Test.YtdelgpelkfndeaaGreatDoorMg19
import Derived.Test.YtdelgpelkfndeaaGreatDoorMg06
import Derived.Test.YtdelgpelkfndeaaGreatDoorMg04
set_option maxRecDepth 100000
set_option maxHeartbeats 4000000
namespace Go.Proofs.YtdelgpelkfndeaaGreatDoor
open Go Go.RowKit Go.Proofs Fl
theorem Qlh (f:Int) (hf:11<=f) (hf2:f<=16) (p q:V8) (m n:Nat) (z1 z2:Int) (w:World) (hL:lenP m n=none) (hP:ClsV w p z1 m) (hQ:ClsV w q z2 n) :
  Calls Tryz.prog 27 #[.int .i64 f,p.v,q.v] w (Qh3 w 23):=by
 have HLP:=hD (fun W (hs:St2 w W p q)=>hP.len W hs.bel)
 have HLQ:=hD (fun W (hs:St2 w W p q)=>hQ.len W hs.bel)
 have HLL:=hD (fun W=>QcX m n W)
 have HS0:=hD (St2.new w p q)
 obtain ⟨L,ok,hL1,hL2⟩:∃ L ok,L=(lenP m n).getD 0/\ok=(lenP m n).isSome:=⟨_,_,rfl,rfl⟩
 rw [<- hL1,<- hL2] at HLL
 obtain rfl:ok=false:=by rw [hL2,hL];rfl
 clear hL1 hL2 hL hP hQ
 go_enter Tryz.func27,Tryz.ntmps27
 go_wp2_with fail
 obtain ⟨w0,hw0⟩:∃ w0,w0=((w.alloc p.o).alloc q.o).alloc (.cells zcells 39):=⟨_,rfl⟩
 rw [<- hw0] at HS0 ⊢
 clear hw0
 go_cut [8,9] from 22 (fun x y wx=>Qfn w p q L false x y wx)
 case first =>
  have hs0:=HS0.out.dr
  have hs00:=HS0.out
  go_region_held3 (fun W=>St2C w W p q/\St2 w W p q)
   (first | with_reducible assumption | (with_reducible (refine QfQ ?_);repeat (first | with_reducible assumption | with_reducible refine St2.dr ?_)))
   (first
    | (go_at_call 60;(with_reducible refine (HLL.out _).mono ?_);rintro e w5 ⟨rfl,rfl⟩)
    | (go_at_call 23;(with_reducible refine (HLP.out _ ?_).mono ?_);exact St2.self (by repeat (first | with_reducible assumption | with_reducible refine St2.dr ?_));rintro e w1 ⟨rfl,hb1⟩;obtain ⟨hc1,hf1⟩:=bcell2 hb1;have hz1:=hb1.size;have hst1:St2 w w1 p q:=St2.step (by repeat (first | with_reducible assumption | with_reducible refine St2.dr ?_)) hb1;clear hb1)
    | (go_at_call 23;(with_reducible refine (HLQ.out _ ?_).mono ?_);exact St2.self (by repeat (first | with_reducible assumption | with_reducible refine St2.dr ?_));rintro e w2 ⟨rfl,hb2⟩;obtain ⟨hc2,hf2⟩:=bcell2 hb2;have hz2:=hb2.size;have hst2:St2 w w2 p q:=St2.step (by repeat (first | with_reducible assumption | with_reducible refine St2.dr ?_)) hb2;clear hb2))
  all_goals
   go_wp2
   go_meet
   first
    | with_reducible exact QaZ hst2
    | with_reducible exact QaZ hst1
 obtain ⟨rfl,rfl,hst⟩:=hcut
 have HST:=hD hst
 clear hst HS0 HLP HLQ HLL
 obtain ⟨⟨h0,h1,h2,h3,h4,h5,h6,h7⟩,hz⟩:=Qag HST.out.res
 go_wp2
 refine bodyPost_ret (v := .tuple #[vecV 0 vnil 0 vnil vnil vnil vnil vnil,.int .i64 23]) ?_ rfl ⟨rfl,Qac HST.out.bel (Nat.le_add_right _ 2) _ _ _ _ _ _ _ _⟩
 exact Qas (fn:=Tryz.f27) (p:=6) (u:=7) rfl _ _ (w.heap.size+2) (by rfl) (Qad HST.out.res _ _ _ _ _ _ _ _)
theorem Qje (f:Int) (hf:11<=f) (hf2:f<=16) (p q:V8) (m n N:Nat) (z1 z2:Int) (w:World) (hz:z1=2\/(z1≠2/\z2=2)) (hL:lenP m n=some N) (hP:ClsV w p z1 m) (hQ:ClsV w q z2 n) :
  Calls Tryz.prog 27 #[.int .i64 f,p.v,q.v] w (Qh3 w 24):=by
 obtain ⟨h1,h2,h3⟩:=Qja p q m n N z1 z2 w hL hP hQ
 have HLP:=hD h1
 have HLQ:=hD h2
 have HLL:=hD h3
 have HCP:=hD (fun W (hs:St2 w W p q)=>hP.cls W hs.bel)
 have HCQ:=hD (fun W (hs:St2 w W p q)=>hQ.cls W hs.bel)
 have HS0:=hD (St2.new w p q)
 have HZ:=hD hz
 clear h1 h2 h3 hL hP hQ hz
 go_enter Tryz.func27,Tryz.ntmps27
 go_wp2_with fail
 obtain ⟨w0,hw0⟩:∃ w0,w0=((w.alloc p.o).alloc q.o).alloc (.cells zcells 39):=⟨_,rfl⟩
 rw [<- hw0] at HS0 ⊢
 clear hw0
 go_cut [8,9] from 22 (fun x y wx=>Qfn w p q N true x y wx)
 case first =>
  have hs0:=HS0.out.dr
  have hs00:=HS0.out
  go_region_held3 (fun W=>St2C w W p q/\St2 w W p q)
   (first | with_reducible assumption | (with_reducible (refine QfQ ?_);repeat (first | with_reducible assumption | with_reducible refine St2.dr ?_)))
   (first
    | (go_at_call 60;(with_reducible refine (HLL.out _).mono ?_);rintro e w5 ⟨rfl,rfl⟩)
    | (go_at_call 23;(with_reducible refine (HLP.out _ ?_).mono ?_);exact St2.self (by repeat (first | with_reducible assumption | with_reducible refine St2.dr ?_));rintro e w1 ⟨rfl,hb1⟩;obtain ⟨hc1,hf1⟩:=bcell2 hb1;have hz1:=hb1.size;have hst1:St2 w w1 p q:=St2.step (by repeat (first | with_reducible assumption | with_reducible refine St2.dr ?_)) hb1;clear hb1)
    | (go_at_call 23;(with_reducible refine (HLQ.out _ ?_).mono ?_);exact St2.self (by repeat (first | with_reducible assumption | with_reducible refine St2.dr ?_));rintro e w2 ⟨rfl,hb2⟩;obtain ⟨hc2,hf2⟩:=bcell2 hb2;have hz2:=hb2.size;have hst2:St2 w w2 p q:=St2.step (by repeat (first | with_reducible assumption | with_reducible refine St2.dr ?_)) hb2;clear hb2))
  all_goals
   go_wp2
   go_meet
   first
    | with_reducible exact QaZ hst2
    | with_reducible exact QaZ hst1
 obtain ⟨rfl,rfl,hst⟩:=hcut
 have HST:=hD hst
 clear hst HS0 HLP HLQ HLL
 obtain ⟨h0,h1,h2,h3,h4,h5,h6,h7⟩:=HST.out.one
 rcases HZ.out with rfl | ⟨hz,rfl⟩
 ·clear HZ
  go_wp2_with fail
  refine (HCP.out _ HST.out).mono ?_
  rintro e w3 ⟨rfl,hb3⟩
  have HS3:=hD (HST.out.step hb3)
  clear hb3 h0 h1 h2 h3 h4 h5 h6 h7 HST
  obtain ⟨⟨h0,h1,h2,h3,h4,h5,h6,h7⟩,hz⟩:=Qag HS3.out.res
  go_wp2
  refine bodyPost_ret (v := .tuple #[vecV 0 vnil 0 vnil vnil vnil vnil vnil,.int .i64 24]) ?_ rfl ⟨rfl,Qac HS3.out.bel (Nat.le_add_right _ 2) _ _ _ _ _ _ _ _⟩
  exact Qas (fn:=Tryz.f27) (p:=6) (u:=7) rfl _ _ (w.heap.size+2) (by rfl) (Qad HS3.out.res _ _ _ _ _ _ _ _)
 ·have z3:(z1==2)=false:=by simpa using hz
  clear HZ
  go_wp2_with fail
  refine (HCP.out _ HST.out).mono ?_
  rintro e w3 ⟨rfl,hb3⟩
  have HS3:=hD (HST.out.step hb3)
  clear hb3 h0 h1 h2 h3 h4 h5 h6 h7 HST
  obtain ⟨h0,h1,h2,h3,h4,h5,h6,h7⟩:=HS3.out.two
  go_wp2_with fail
  refine (HCQ.out _ HS3.out).mono ?_
  rintro e w4 ⟨rfl,hb4⟩
  have HS4:=hD (HS3.out.step hb4)
  clear hb4 h0 h1 h2 h3 h4 h5 h6 h7 HS3
  obtain ⟨⟨h0,h1,h2,h3,h4,h5,h6,h7⟩,hz⟩:=Qag HS4.out.res
  go_wp2
  refine bodyPost_ret (v := .tuple #[vecV 0 vnil 0 vnil vnil vnil vnil vnil,.int .i64 24]) ?_ rfl ⟨rfl,Qac HS4.out.bel (Nat.le_add_right _ 2) _ _ _ _ _ _ _ _⟩
  exact Qas (fn:=Tryz.f27) (p:=6) (u:=7) rfl _ _ (w.heap.size+2) (by rfl) (Qad HS4.out.res _ _ _ _ _ _ _ _)
def relR (f:Int) (a b:PA) (c:Nat):Bool :=
 match a,b with
 | .nums _ l,.nums _ m=>relB f (l.getD (ixP l.length c) 0) (m.getD (ixP m.length c) 0)
 | _,_=>Qew a b c==decide (f=13)
def QfB (f:Int) (a b:PA) (N:Nat):Prop:=lenP a.len b.len=some N/\a.fill≠2/\b.fill≠2/\((a.fill=0/\b.fill=0)\/f=13\/f=16)
def RelO (H:Nat->Prop) (w:World) (f:Int) (a b:PA) (e:Ending) (w':World):Prop :=
 (∃ N,QfB f a b N/\Qde H w (fun u W=>NumV u 1 N (fun c=>Qai (relR f a b c)) W) e w')\/((∀ N,¬ QfB f a b N)/\∃ E:Int,E≠0/\Qh3 w E e w')
theorem Qli {H H1 H2:Nat->Prop} (f:Int) (hf:11<=f) (hf2:f<=16){a b:PA}{g1 g2:Sl}{p q:V8} (w:World) (hH:∀ b,H b->b < w.heap.size) (ha:AV H1 w a g1 p) (hb:AV H2 w b g2 q) (hm:a.len<=1000000) (hn:b.len<=1000000) :
  Calls Tryz.prog 27 #[.int .i64 f,p.v,q.v] w (RelO H w f a b):=by
 have hcP:=Qng ha
 have hcQ:=Qng hb
 cases hL:lenP a.len b.len with
 | none =>
  refine (Qlh f hf hf2 p q _ _ _ _ w hL hcP hcQ).mono fun e w' h => .inr ⟨fun N h1=>?_,23,by decide,h⟩
  have h2:=h1.1
  rw [hL] at h2
  cases h2
 | some N =>
  by_cases hx:a.fill=2\/b.fill=2
  ·refine (Qje f hf hf2 p q _ _ N _ _ w ?_ hL hcP hcQ).mono fun e w' h => .inr ⟨fun N h1=>?_,24,by decide,h⟩
   ·rcases hx with hx | hx
    ·exact .inl (by omega)
    ·by_cases h2:a.fill=2
     ·exact .inl (by omega)
     ·exact .inr ⟨by omega,by omega⟩
   ·rcases hx with hx | hx
    ·exact h1.2.1 hx
    ·exact h1.2.2.1 hx
  ·have fa:a.fill≠2:=fun h=>hx (.inl h)
   have fb:b.fill≠2:=fun h=>hx (.inr h)
   have hbad:¬ (a.fill=0/\b.fill=0)->f≠13->f≠16->∀ N,¬ QfB f a b N:=fun h0 h1 h2 N h=>by
    rcases h.2.2.2 with h | h | h
    ·exact h0 h
    ·exact h1 h
    ·exact h2 h
   have hmix:∀ (S:Nat->Bool),¬ (a.fill=0/\b.fill=0)->(∀ c,relR f a b c=(S c==decide (f=13))) ->
     (∀ (W:World) (H':Nat->Prop) (T:Value->World->Prop) (E:Int),(∀ (W':World) (H'':Nat->Prop),Below W.heap.size W W'->(∀ b,H'' b->b < W'.heap.size)->Calls Tryz.prog 61 #[.int .i64 f,.int .i64 (N:Int),p.v,q.v] W' (TwoL H'' W' T E))->Below w.heap.size w W->(∀ b,H' b->b < W.heap.size)->Calls Tryz.prog 27 #[.int .i64 f,p.v,q.v] W (TwoL H' W T E)) ->
     (f=13\/f=16->∀ (W:World) (H':Nat->Prop),Below w.heap.size w W->(∀ b,H' b->b < W.heap.size)->Calls Tryz.prog 61 #[.int .i64 f,.int .i64 (N:Int),p.v,q.v] W (Qde H' W (fun u W'=>NumV u 1 N (fun c=>Qai (S c==decide (f=13))) W'))) ->
     Calls Tryz.prog 27 #[.int .i64 f,p.v,q.v] w (RelO H w f a b):=fun S h0 hS hap hch=>by
    by_cases h13:f=13\/f=16
    ·refine (hap w H (fun u W'=>NumV u 1 N (fun c=>Qai (S c==decide (f=13))) W') 0 (fun W' H'' hb' hH''=>(hch h13 W' H'' hb' hH'').mono fun e w' h => .inl ⟨rfl,h⟩) (Below.refl _ _) hH).mono fun e w' h=>?_
     rcases h with ⟨_,h⟩ | ⟨h,_⟩
     ·refine .inl ⟨N,⟨hL,fa,fb,.inr h13⟩,QbZ (fun u W h=>NumV.congr h fun j _=>by rw [hS]) h⟩
     ·exact absurd rfl h
    ·have h1:f≠13:=fun h=>h13 (.inl h)
     have h2:f≠16:=fun h=>h13 (.inr h)
     refine (hap w H (fun _ _=>True) 24 (fun W' H'' hb' hH''=>(Qlc f h1 h2 p q N W').mono fun e w' h => .inr ⟨by decide,h⟩) (Below.refl _ _) hH).mono fun e w' h=>?_
     rcases h with ⟨h,_⟩ | ⟨_,h⟩
     ·exact absurd h (by decide)
     ·exact .inr ⟨hbad h0 h1 h2,24,by decide,h⟩
   cases a with
   | boxes s l=>exact absurd rfl fa
   | nums s l =>
    cases b with
    | boxes s l=>exact absurd rfl fb
    | nums s' l' =>
     have hok:∀ e w',Qde H w (fun u W=>NumV u 1 N (fun c=>Qai (relB f (l.getD (ixP l.length c) 0) (l'.getD (ixP l'.length c) 0))) W) e w'->RelO H w f (.nums s l) (.nums s' l') e w':=fun e w' h => .inl ⟨N,⟨hL,fa,fb,.inl ⟨rfl,rfl⟩⟩,h⟩
     have hfin:∀ e w',Qft H w (fun c=>relB f (l.getD (ixP l.length c) 0) (l'.getD (ixP l'.length c) 0)) (lenP l.length l'.length) e w'->RelO H w f (.nums s l) (.nums s' l') e w':=fun e w' h=>by
      rcases h with ⟨h,_⟩ | ⟨N2,h2,h⟩
      ·rw [show lenP l.length l'.length=some N from hL] at h;cases h
      ·rw [show lenP l.length l'.length=some N from hL] at h2
       injection h2 with h2
       subst h2
       exact hok e w' h
     by_cases hN:N=0
     ·obtain ⟨o1,o2⟩:=Qnr hL
      exact (Qjd H f hf hf2 p q l.length l'.length N hN (fun j=>l.getD j 0) (fun j=>l'.getD j 0) (fun c=>relB f (l.getD (ixP l.length c) 0) (l'.getD (ixP l'.length c) 0)) w hH hm hn hL (fun W hb'=>QnH ha.nums hN o1 W hb') (fun W hb'=>QnH hb.nums hN o2 W hb') (fun W hb'=>Qqw ha.nums W hb') fun W hb'=>Qqw hb.nums W hb').mono hfin
     ·obtain ⟨i1,i2⟩:=Qf2 hL (show 0 < N by omega)
      rcases ha.nums with hP | ⟨rfl,_⟩
      ·rcases hb.nums with hQ | ⟨rfl,_⟩
       ·exact (Qk8 H f hf hf2 p q l.length l'.length (fun j=>l.getD j 0) (fun j=>l'.getD j 0) w hH hm hn (fun W hb'=>((hP.num.sub fun _ _ e=>e.elim:Keeps (fun _=>False) w _).step hb').now) (fun W hb'=>((hQ.num.sub fun _ _ e=>e.elim:Keeps (fun _=>False) w _).step hb').now)).mono hfin
       ·exact absurd i2 (Nat.not_lt_zero _)
      ·exact absurd i1 (Nat.not_lt_zero _)
    | chars s' l' =>
     exact hmix (fun _=>false) (by rintro ⟨_,h⟩;cases h) (fun c=>rfl) (fun W H' T E hC hb' hH'=>QdR H' f hf hf2 p q _ _ N 0 1 (by decide) (by decide) (by decide) T E W hH' hL (hcP.up hb') (hcQ.up hb') hC) (fun h13 W H' hb' hH'=>by
      rcases h13 with rfl | rfl
      ·exact (QcM H' p q _ _ N 0 1 (by decide) W hH' hL hm hn (hcP.up hb') (hcQ.up hb')).mono fun e w' h=>QbZ (fun u W h=>NumV.congr h fun j _=>by simp) h
      ·exact (QcN H' p q _ _ N 0 1 (by decide) W hH' hL hm hn (hcP.up hb') (hcQ.up hb')).mono fun e w' h=>QbZ (fun u W h=>NumV.congr h fun j _=>by simp) h)
   | chars s l =>
    cases b with
    | boxes s l=>exact absurd rfl fb
    | nums s' l' =>
     exact hmix (fun _=>false) (by rintro ⟨h,_⟩;cases h) (fun c=>rfl) (fun W H' T E hC hb' hH'=>QdR H' f hf hf2 p q _ _ N 1 0 (by decide) (by decide) (by decide) T E W hH' hL (hcP.up hb') (hcQ.up hb') hC) (fun h13 W H' hb' hH'=>by
      rcases h13 with rfl | rfl
      ·exact (QcM H' p q _ _ N 1 0 (by decide) W hH' hL hm hn (hcP.up hb') (hcQ.up hb')).mono fun e w' h=>QbZ (fun u W h=>NumV.congr h fun j _=>by simp) h
      ·exact (QcN H' p q _ _ N 1 0 (by decide) W hH' hL hm hn (hcP.up hb') (hcQ.up hb')).mono fun e w' h=>QbZ (fun u W h=>NumV.congr h fun j _=>by simp) h)
    | chars s' l' =>
     have hC1:∀ W,Below w.heap.size w W->∀ j,j < l.length->Calls Tryz.prog 93 #[p.v,.int .i64 (j:Nat)] W fun e w'=>e= .returned (.int .i32 (l.getD j 0))/\Below W.heap.size W w':=fun W hb' j hj=>by
      have e:l.getD j 0=l[j]:=by simp [List.getD,hj]
      rw [e]
      exact Qcm ha j hj W hb'
     have hC2:∀ W,Below w.heap.size w W->∀ j,j < l'.length->Calls Tryz.prog 93 #[q.v,.int .i64 (j:Nat)] W fun e w'=>e= .returned (.int .i32 (l'.getD j 0))/\Below W.heap.size W w':=fun W hb' j hj=>by
      have e:l'.getD j 0=l'[j]:=by simp [List.getD,hj]
      rw [e]
      exact Qcm hb j hj W hb'
     exact hmix (Qew (.chars s l) (.chars s' l')) (by rintro ⟨h,_⟩;cases h) (fun c=>rfl) (fun W H' T E hC hb' hH'=>Qh8 H' f hf hf2 p q _ _ N T E W hH' hL (hcP.up hb') (hcQ.up hb') hC) (fun h13 W H' hb' hH'=>by
      rcases h13 with rfl | rfl
      ·exact (QfS H' p q l.length l'.length N (fun j=>l.getD j 0) (fun j=>l'.getD j 0) W hH' hL hm hn (hcP.up hb') (hcQ.up hb') (fun W' hw'=>hC1 W' (Qaa hb' hw')) fun W' hw'=>hC2 W' (Qaa hb' hw')).mono fun e w' h=>QbZ (fun u W h=>NumV.congr h fun j _=>by simp [Qew]) h
      ·exact (QfT H' p q l.length l'.length N (fun j=>l.getD j 0) (fun j=>l'.getD j 0) W hH' hL hm hn (hcP.up hb') (hcQ.up hb') (fun W' hw'=>hC1 W' (Qaa hb' hw')) fun W' hw'=>hC2 W' (Qaa hb' hw')).mono fun e w' h=>QbZ (fun u W h=>NumV.congr h fun j _=>by simp [Qew]) h)
noncomputable def memB (a b:PA) (c:Nat):Bool:=@decide (∃ j,j < b.len/\elA b j=elA a c) (Classical.propDecidable _)
theorem memB_iff {a b:PA}{c:Nat}:memB a b c=true↔∃ j,j < b.len/\elA b j=elA a c:=@decide_eq_true_iff _ (Classical.propDecidable _)
def truA (s:List Nat) (N:Nat) (L:Nat->Bool):PA := .nums s ((List.range N).map fun c=>Qai (L c))
noncomputable def memA (a b:PA):PA:=truA a.shape a.len (memB a b)
noncomputable def redT (g:Int) (a b:PA):Option (Nat×(Nat->Bool)) :=
 if g=0 then (if a.shape.length=0 then none else some (a.len,memB a b))
 else match lenP a.len b.len with
  | none=>none
  | some N=>if a.fill≠2/\b.fill≠2/\((a.fill=0/\b.fill=0)\/g=13\/g=16) then some (N,relR g a b) else none
def QcP (a b:PA) (most:Nat):Prop:=1 < a.shape.length\/1 < b.shape.length\/a.shape.length+b.shape.length=0\/most < a.len\/most < b.len
instance (a b:PA) (most:Nat):Decidable (QcP a b most):=by unfold QcP;infer_instance
def redP (f:Int) (most:Nat) (T:Option (Nat×(Nat->Bool))):Option PA :=
 T.bind fun t=>if t.1=0\/most < t.1 then none else (rowB f t.2 t.1).map oneA
noncomputable def redE (f g:Int) (a b:PA) (most:Nat):Option PA:=if QcP a b most then none else redP f most (redT g a b)
def tolE (most:Nat) (r:Int×PA):Option PA:=if r.1≠0\/most < r.2.len then none else some r.2
noncomputable def QfC (f g:Int) (a b:PA) (most:Nat):Option PA :=
 (tolE most (if g=0 then (0,memA a b) else twA g a b)).bind fun x=>tolE most (QbG f x false)
theorem QnO {d:Nat} (hd:0 < d){s:List Nat}{N:Nat}{L:Nat->Bool} (h:OkSh s N):GoodA d (truA s N L):=by
 unfold truA
 rw [GoodA]
 refine ⟨hd,by simpa using h,fun x hx=>?_⟩
 obtain ⟨c,_,rfl⟩:=List.mem_map.1 hx
 exact Qcs _
theorem Qlj {M:Nat}{s:List Nat}{N:Nat}{L:Nat->Bool} (h:N<=M):SmA M (truA s N L):=by
 unfold truA
 rw [SmA]
 simpa using h
theorem QnP {g:Int} (h1:11<=g) (h2:g<=16) (x y:Nat):oneP pwP g x y=(Qai (relB g x y),0):=by
 unfold oneP
 rw [if_neg (by omega),if_neg (by omega),if_neg (by omega),if_neg (by omega),if_neg (by omega),if_neg (by omega),if_neg (by omega),if_neg (by omega),if_pos ⟨h1,h2⟩]
theorem Qkk {d:Nat}{a:PA} (h:GoodA d a) (hs:a.shape.length=0):a.len=1:=Qkh h hs
theorem QcQ {d:Nat}{a:PA} (h:GoodA d a) (hs:a.shape.length=1):a.shape=[a.len]:=by
 obtain ⟨n,hn⟩:∃ n,a.shape=[n]:=by
  cases h1:a.shape with
  | nil=>rw [h1] at hs;cases hs
  | cons x l =>
   rw [h1] at hs
   cases l with
   | nil=>exact ⟨x,rfl⟩
   | cons y l=>simp at hs
 have h2:=h.sh.2.2.2
 rw [hn] at h2 ⊢
 have:n=a.len:=by rw [<- h2];simp [prodN]
 rw [this]
theorem Qlk {d e N:Nat}{a b:PA} (ha:GoodA d a) (hb:GoodA e b) (h1:a.shape.length<=1) (h2:b.shape.length<=1) (h0:a.shape.length+b.shape.length≠0) (hL:lenP a.len b.len=some N):Qaq a b=(0,[N])/\lenE a b=N:=by
 have hA:a.len≠1->a.shape=[a.len]:=fun h=>QcQ ha (by
  by_cases h3:a.shape.length=0
  ·exact absurd (Qkk ha h3) h
  ·omega)
 have hB:b.len≠1->b.shape=[b.len]:=fun h=>QcQ hb (by
  by_cases h3:b.shape.length=0
  ·exact absurd (Qkk hb h3) h
  ·omega)
 unfold lenP at hL
 unfold Qaq lenE
 by_cases ea:a.len=1
 ·by_cases eb:b.len=1
  ·rw [ea,eb,if_pos rfl] at hL
   injection hL with hL
   subst hL
   by_cases hsl:b.shape.length<=a.shape.length
   ·rw [if_pos ⟨ea,eb,hsl⟩,if_pos ea,QcQ ha (by omega),ea,eb]
    exact ⟨rfl,rfl⟩
   ·rw [if_neg (by intro h;exact hsl h.2.2),if_pos ea,if_pos ea,QcQ hb (by omega),eb]
    exact ⟨rfl,rfl⟩
  ·rw [if_neg (by rw [ea];exact fun h=>eb h.symm),if_pos ea] at hL
   injection hL with hL
   rw [if_neg (by intro h;exact eb h.2.1),if_pos ea,if_pos ea,hB eb,<- hL]
   exact ⟨rfl,rfl⟩
 ·by_cases eb:b.len=1
  ·rw [if_neg (by rw [eb];exact ea),if_neg ea,if_pos eb] at hL
   injection hL with hL
   rw [if_neg (by intro h;exact ea h.1),if_neg ea,if_pos eb,if_neg ea,hA ea,<- hL]
   exact ⟨rfl,rfl⟩
  ·by_cases e:a.len=b.len
   ·rw [if_pos e] at hL
    injection hL with hL
    rw [if_neg (by intro h;exact ea h.1),if_neg ea,if_neg eb,hA ea,hB eb,if_neg (by simp),if_neg (by rw [e];simp),if_neg ea,<- hL]
    exact ⟨rfl,rfl⟩
   ·rw [if_neg e,if_neg ea,if_neg eb] at hL
    cases hL
theorem Qsb {d e N:Nat}{g:Int}{a b:PA} (ha:GoodA d a) (hb:GoodA e b) (h1:a.shape.length<=1) (h2:b.shape.length<=1) (h0:a.shape.length+b.shape.length≠0) (g1:11<=g) (g2:g<=16) (hr:QfB g a b N):twA g a b=(0,truA [N] N (relR g a b)):=by
 obtain ⟨hL,fa,fb,hc⟩:=hr
 obtain ⟨hfr,hle⟩:=Qlk ha hb h1 h2 h0 hL
 have hk:Qaz g=true:=by unfold Qaz;rw [decide_eq_true_eq];omega
 unfold twA
 rw [twoE,if_neg (by rw [hk];decide),hfr,if_neg (by simp),if_neg (by rintro (h | h);exact fa h;exact fb h)]
 have hfl:Qdh g a b=(0,(List.range N).map fun c=>Qai (relR g a b c)):=by
  cases a with
  | boxes s l=>exact absurd rfl fa
  | nums s l =>
   cases b with
   | boxes s l=>exact absurd rfl fb
   | nums s' l' =>
    rw [QbR,hle]
    rcases QbB N (fun c=>oneP pwP g (l.getD (ixP l.length c) 0) (l'.getD (ixP l'.length c) 0)) with ⟨⟨c,hc,h⟩,e⟩ | ⟨h,e⟩
    ·rw [QnP g1 g2] at h
     exact absurd rfl h
    ·rw [e]
     refine congrArg (Prod.mk 0) (List.map_congr_left fun c _=>?_)
     rw [QnP g1 g2]
     rfl
   | chars s' l' =>
    have h13:g=13\/g=16:=by
     rcases hc with ⟨_,h⟩ | h
     ·cases h
     ·exact h
    show (if g=13\/g=16 then ((0:Int),(List.range (lenE (.nums s l) (.chars s' l'))).map fun c=>Qai (Qew (.nums s l) (.chars s' l') c==decide (g=13))) else (24,[]))=_
    rw [if_pos h13,hle]
    rfl
  | chars s l =>
   have h13:g=13\/g=16:=by
    rcases hc with ⟨h,_⟩ | h
    ·cases h
    ·exact h
   cases b with
   | boxes s l=>exact absurd rfl fb
   | nums s' l' =>
    show (if g=13\/g=16 then ((0:Int),(List.range (lenE (.chars s l) (.nums s' l'))).map fun c=>Qai (Qew (.chars s l) (.nums s' l') c==decide (g=13))) else (24,[]))=_
    rw [if_pos h13,hle]
    rfl
   | chars s' l' =>
    show (if g=13\/g=16 then ((0:Int),(List.range (lenE (.chars s l) (.chars s' l'))).map fun c=>Qai (Qew (.chars s l) (.chars s' l') c==decide (g=13))) else (24,[]))=_
    rw [if_pos h13,hle]
    rfl
 rw [hfl,if_neg (by simp)]
 rfl
theorem Qp4 {f:Int} (hf:f=1\/f=21\/f=22\/f=5\/f=6){N:Nat} (hn:1<=N) (hN:N<=1048576) (L:Nat->Bool){z:Int} (hz:rowB f L N=some z):QbG f (truA [N] N L) false=(0,oneA z):=by
 have hk:Qaz f=true:=by unfold Qaz;rw [decide_eq_true_eq];omega
 have hl:((List.range N).map fun c=>Qai (L c)).length=N:=by simp
 have h1:=(QjJ pwP f L N z hz (fun i=>((List.range N).map fun c=>Qai (L c)).getD i 0) (fun i hi=>by
  rw [<- QaT]
  simp [List.getD,hi]) hn hN).1
 have h2:=Qg1 hk ((List.range N).map fun c=>Qai (L c)) (by omega) (fi z) (by rw [hl];exact h1)
 rw [hl] at h2
 exact h2
theorem Qsc {d e:Nat}{f g:Int}{a b:PA}{most:Nat} (hf:f=1\/f=21\/f=22\/f=5\/f=6) (hg:g=0\/(11<=g/\g<=16)) (ha:GoodA d a) (hb:GoodA e b) (hm:most<=1048576){x:PA} (h:redE f g a b most=some x):QfC f g a b most=some x/\∃ z,x=oneA z/\Good z:=by
 unfold redE at h
 by_cases hbad:QcP a b most
 ·rw [if_pos hbad] at h;cases h
 rw [if_neg hbad] at h
 unfold QcP at hbad
 obtain ⟨⟨N,L⟩,hT,h⟩:=Option.bind_eq_some_iff.1 (show (redT g a b).bind _=some x from h)
 dsimp only at h
 by_cases h0:N=0\/most < N
 ·rw [if_pos h0] at h;cases h
 rw [if_neg h0] at h
 obtain ⟨z,hz,rfl⟩:=Option.map_eq_some_iff.1 h
 have hN1:1<=N:=by omega
 have hN2:N<=most:=by omega
 have hgood:Good z:=(QjJ pwP f L N z hz (fun i=>fi (bI (L i))) (fun i _=>rfl) hN1 (by omega)).2
 have hx:(if g=0 then ((0:Int),memA a b) else twA g a b)=(0,truA [N] N L):=by
  unfold redT at hT
  by_cases hg0:g=0
  ·rw [if_pos hg0] at hT ⊢
   by_cases hs:a.shape.length=0
   ·rw [if_pos hs] at hT;cases hT
   ·rw [if_neg hs] at hT
    injection hT with hT
    injection hT with h1 h2
    subst h1;subst h2
    unfold memA
    rw [QcQ ha (by omega)]
  ·rw [if_neg hg0] at hT ⊢
   have hg1:11<=g/\g<=16:=by omega
   cases hL:lenP a.len b.len with
   | none=>rw [hL] at hT;cases hT
   | some N' =>
    rw [hL] at hT
    dsimp only at hT
    by_cases hc:a.fill≠2/\b.fill≠2/\((a.fill=0/\b.fill=0)\/g=13\/g=16)
    ·rw [if_pos hc] at hT
     injection hT with hT
     injection hT with h1 h2
     subst h1;subst h2
     exact Qsb ha hb (by omega) (by omega) (by omega) hg1.1 hg1.2 ⟨hL,hc⟩
    ·rw [if_neg hc] at hT;cases hT
 refine ⟨?_,z,rfl,hgood⟩
 unfold QfC
 rw [hx]
 have hlen:(truA [N] N L).len=N:=by simp [truA,PA.len]
 have e1:tolE most (0,truA [N] N L)=some (truA [N] N L):=by
  unfold tolE
  rw [if_neg (by rintro (h | h);exact h rfl;dsimp only at h;rw [hlen] at h;omega)]
 rw [e1]
 show tolE most (QbG f (truA [N] N L) false)=_
 rw [Qp4 hf hN1 (by omega) L hz]
 unfold tolE
 rw [if_neg (by rintro (h | h);exact h rfl;have h':most < 1:=h;omega)]
theorem QnQ {Ha Hb:Nat->Prop}{a b:PA}{h1 h2:Sl}{p q:V8}{w0:World} (ga:AV Ha w0 a h1 p) (gb:AV Hb w0 b h2 q) (hf:a.fill≠b.fill) (i k:Nat) (w:World) (hb0:Below w0.heap.size w0 w) :
  Calls Tryz.prog 171 #[p.v,.int .i64 (i:Int),q.v,.int .i64 (k:Int)] w fun e w'=>e= .returned (.bool false)/\Below w.heap.size w w':=by
 have HCA:Hid (∀ W,V2B w W p q->Calls Tryz.prog 44 #[p.v] W fun e w'=>e= .returned (.int .i64 (a.fill:Nat))/\Below W.heap.size W w'):=fun W hs=>QaC ga W (Qaa hb0 hs.bel)
 have HCB:Hid (∀ W,V2B w W p q->Calls Tryz.prog 44 #[q.v] W fun e w'=>e= .returned (.int .i64 (b.fill:Nat))/\Below W.heap.size W w'):=fun W hs=>QaC gb W (Qaa hb0 hs.bel)
 have hne:((a.fill:Int) != (b.fill:Int))=true:=by
  rw [bne_iff_ne]
  omega
 generalize (a.fill:Int)=za at *
 generalize (b.fill:Int)=zb at *
 clear hf
 have HS0:=hD (V2B.new w p q)
 clear ga gb hb0
 go_enter Tryz.func171,Tryz.ntmps171
 go_wp2_with fail
 obtain ⟨wz,hwz⟩:∃ wz,wz=(w.alloc p.o).alloc q.o:=⟨_,rfl⟩
 rw [<- hwz] at HS0
 have HWZ:=hD hwz
 clear hwz
 rw [<- HWZ.out]
 go_cut [13] from 9 (fun x wx=>x= .bool true/\V2B w wx p q)
 case first =>
  have hs0:=HS0.out.dr
  have hs00:=HS0.out
  go_region_held3 (fun W=>V2BC w W p q/\V2B w W p q)
   (first | with_reducible assumption | (with_reducible (refine Qi6 ?_);repeat (first | with_reducible assumption | with_reducible refine V2B.dr ?_)))
   (first
    | (go_at_call 44;(with_reducible refine (HCA.out _ ?_).mono ?_);exact V2B.self (by repeat (first | with_reducible assumption | with_reducible refine V2B.dr ?_));rintro e w1 ⟨rfl,hb1⟩;have hst1:V2B w w1 p q:=V2B.step (by repeat (first | with_reducible assumption | with_reducible refine V2B.dr ?_)) hb1;clear hb1)
    | (go_at_call 44;(with_reducible refine (HCB.out _ ?_).mono ?_);exact V2B.self (by repeat (first | with_reducible assumption | with_reducible refine V2B.dr ?_));rintro e w2 ⟨rfl,hb2⟩;have hst2:V2B w w2 p q:=V2B.step (by repeat (first | with_reducible assumption | with_reducible refine V2B.dr ?_)) hb2;clear hb2))
  all_goals
   go_wp2
   go_meet
   exact ⟨rfl,hst2⟩
 obtain ⟨rfl,hst⟩:=hcut
 have HST:=hD hst
 clear hst HS0 HWZ
 go_wp2
 go_ret
 exact ⟨rfl,HST.out.bel⟩
theorem QtA {a b:PA} (hf:a.fill≠b.fill) (i k:Nat):eqI (elA a i) (elA b k)=false:=by
 refine eqI_no.2 fun h=>hf ?_
 cases a <;> cases b <;> rw [elA,elA] at h <;> injection h with h _ _ _ <;> first | rfl | (exact absurd h (by decide))
theorem Qll {Ha Hb:Nat->Prop}{a b:PA}{h1 h2:Sl}{p q:V8}{w0:World} (d:Nat) (hg:GoodA (d+1) a) (hs:SmA 1000000 a) (hg2:GoodA (d+1) b) (hs2:SmA 1000000 b) (ga:AV Ha w0 a h1 p) (gb:AV Hb w0 b h2 q) (i k:Nat) (hi:i < a.len) (hk:k < b.len) (w:World) (hb:Below w0.heap.size w0 w) :
  Calls Tryz.prog 171 #[p.v,.int .i64 (i:Int),q.v,.int .i64 (k:Int)] w fun e w'=>e= .returned (.bool (eqI (elA a i) (elA b k)))/\Below w.heap.size w w':=by
 by_cases hf:a.fill=b.fill
 ·exact Qge d hg hs hg2 hs2 ga gb hf i k hi hk w hb
 ·rw [QtA hf]
  exact QnQ ga gb hf i k w hb
structure TbI (a:PA) (p:V8) (B B1 T g S i:Nat) (w W:World):Prop where
 tab:∃ L,TabI S i (elA a) (fun x=>(keyI x).toNat) L/\TabM B p T g S L W
 box:V1B w W p
 sz:B1<=W.heap.size
def PtR (a:PA) (p:V8) (B B1 T g S i:Nat) (w:World) (e:Ending) (W':World):Prop:=∃ z:Int,e= .returned (.int .i64 z)/\TbI a p B B1 T g S (i+1) w W'
theorem Qsd {Ha:Nat->Prop}{a:PA}{h:Sl}{p:V8}{B B1 T g S m i:Nat}{w W:World} (d:Nat) (hgd:GoodA (d+1) a) (hs:SmA 1000000 a) (ga:AV Ha w a h p) (hS:S=2 ^ m) (h8:8<=S) (hS2:S<=4194304) (hn:2*a.len<=S) (hi:i < a.len) (hB:w.heap.size < B) (hB1:B<=B1) (hf:TbI a p B B1 T g S i w W) :
  Calls Tryz.prog 111 #[.pointer (some ⟨T,0,none⟩),.int .i64 (i:Int)] W (PtR a p B B1 T g S i w):=by
 obtain ⟨L,htab,htm⟩:=hf.tab
 have hbW:=hf.box.bel
 refine (QrT hS hS2 W (Nat.le_trans hB1 hf.sz) htm (keyI (elA a i)) (QmI _) i i (fun j=>eqI (elA a j) (elA a i)) (fun x hx=>?_) (htab.dist (by omega) _) (fun W' hb'=>Qm5 d hgd hs ga i hi W' (Qaa hbW hb')) (fun j hj W' hb'=>Qge d hgd hs hgd hs ga ga rfl j i (by omega) hi W' (Qaa hbW hb'))).mono ?_
 ·rcases htab.ok x hx with e | ⟨j,e1,e2,_⟩
  ·exact .inl e
  ·exact .inr ⟨j,e1,e2⟩
 ·rintro e W' ⟨pl,hfp,hc,hl,hb⟩
  have hfo:=Qnc hfp
  have hbox:=hf.box.keepB hb hB
  have hsz:B1<=W'.heap.size:=Nat.le_trans hf.sz hb.size
  rcases hc with ⟨hX,rfl,ht⟩ | ⟨j,hX,rfl,ht⟩
  ·exact ⟨i,rfl,⟨_,(htab.put hfo hX).1,ht⟩,hbox,hsz⟩
  ·obtain ⟨d1,hd1,hpl,hbd,hla⟩:=hfo
   have hpS:pl < S:=by rw [hpl];exact Nat.mod_lt _ (by omega)
   rcases hla with h2 | ⟨j2,h2,h3⟩
   ·omega
   rw [hX] at h2
   have e2:j=j2:=by omega
   subst e2
   rcases htab.ok pl hpS with h4 | ⟨j3,h5,h4,_⟩
   ·omega
   rw [hX] at h4
   have e3:j=j3:=by omega
   subst e3
   have hnf:¬ fstI (elA a) i:=fun hff=>hff j h5 h3
   exact ⟨j,rfl,⟨L,htab.keep hnf,ht⟩,hbox,hsz⟩
def TbR (a:PA) (p:V8) (w:World) (e:Ending) (w':World):Prop:=∃ B T g S m L,e= .returned (.pointer (some ⟨T,0,none⟩))/\Hid (S=2 ^ m)/\8<=S/\S<=4194304/\2*a.len<=S/\w.heap.size < B/\TabI S a.len (elA a) (fun x=>(keyI x).toNat) L/\TabM B p T g S L w'/\Below w.heap.size w w'
theorem QtB {a:PA}{p:V8}{w w':World}{B T g S m n:Nat}{L:List Int} (hn:Hid (a.len=n)) (k1:Hid (S=2 ^ m)) (k2:8<=S) (k3:S<=4194304) (k4:2*n<=S) (k5:w.heap.size < B) (e1:TabI S n (elA a) (fun x=>(keyI x).toNat) L) (e2:TabM B p T g S L w') (hb:Below w.heap.size w w'):TbR a p w (.returned (.pointer (some ⟨T,0,none⟩))) w':=by
 have h:a.len=n:=hn
 subst h
 exact ⟨B,T,g,S,m,L,rfl,k1,k2,k3,k4,k5,e1,e2,hb⟩
theorem Qlm {Ha:Nat->Prop}{a:PA}{h:Sl}{p:V8} (d:Nat) (hgd:GoodA (d+1) a) (hs:SmA 1000000 a) (hn:a.len<=1000000) (w:World) (ga:AV Ha w a h p):Calls Tryz.prog 58 #[p.v] w (TbR a p w):=by
 have HL:=hD (fun W (hb:Below w.heap.size w W)=>Qbj ga W hb)
 have HNW:=hD (fun W=>QrS p a.len hn W)
 have HPF:=hD (fun B B1 T g S m i W (x1:S=2 ^ m) x2 x3 x4 x5 x6 x7 x8=>Qsd (Ha:=Ha) (h:=h) (p:=p) (B:=B) (B1:=B1) (T:=T) (g:=g) (S:=S) (m:=m) (i:=i) (w:=w) (W:=W) d hgd hs ga x1 x2 x3 x4 x5 x6 x7 x8)
 have HS0:=hD (V1B.new w p)
 obtain ⟨n,hnn⟩:∃ n,a.len=n:=⟨_,rfl⟩
 have HNN:=hD hnn
 rw [hnn] at HL HNW HPF hn
 clear ga hs hgd hnn
 unfold NewR at HNW
 unfold PtR at HPF
 go_enter Tryz.func58,Tryz.ntmps58
 go_wp2_with fail
 go_cut [3] from 3 (fun x wx=>∃ B T g S m:Nat,x= .pointer (some ⟨T,0,none⟩)/\S=2 ^ m/\8<=S/\S<=4194304/\2*n<=S/\w.heap.size < B/\B<=wx.heap.size/\TabM B p T g S (List.replicate S (-1)) wx/\V1B w wx p)
 case first =>
  have hs0:V1B w (w.alloc p.o).drew p:=HS0.out.dr
  have hs00:=HS0.out
  go_region_held3 (fun W=>V1BC w W p/\V1B w W p)
   (first | with_reducible assumption | (with_reducible (refine Quf ?_);repeat (first | with_reducible assumption | with_reducible refine V1B.dr ?_)))
   (first
    | (go_at_call 23;(with_reducible refine (HL.out _ ?_).mono ?_);exact V1B.bel (by repeat (first | with_reducible assumption | with_reducible refine V1B.dr ?_));rintro e w1 ⟨rfl,hb1⟩;have hst1:V1B w w1 p:=V1B.step (by repeat (first | with_reducible assumption | with_reducible refine V1B.dr ?_)) hb1;clear hb1)
    | (go_at_call 110;(with_reducible refine (HNW.out _).mono ?_);rintro e w2 ⟨T,g,S,m,rfl,k1,k2,k3,k4,ht,hb2⟩;have hst2:V1B w w2 p:=V1B.step (by repeat (first | with_reducible assumption | with_reducible refine V1B.dr ?_)) hb2))
  all_goals
   go_wp2
   go_meet
   exact ⟨w1.heap.size,T,g,S,m,rfl,k1,k2,k3,k4,Qav hst1.one.1,hb2.size,ht,hst2⟩
 obtain ⟨B,T,g,S,m,rfl,k1,k2,k3,k4,k5,k6,ht,hst⟩:=hcut
 have HST:=hD hst
 have HTM:=hD ht
 have HKS:Hid (S=2 ^ m):=k1
 obtain ⟨B1,hB1⟩:∃ B1,B1=wc.heap.size:=⟨_,rfl⟩
 have HB1:Hid (B<=B1):=by unfold Hid;omega
 have HSZ:Hid (B1<=wc.heap.size):=by unfold Hid;omega
 clear hst ht k1 HS0 HNW hB1
 obtain ⟨c0,c1,c2,c3,c4,c5,c6,c7⟩:=HST.out.one
 go_wp2_with fail
 refine (HL.out _ HST.out.bel).mono ?_
 rintro e w4 ⟨rfl,hb⟩
 have HF4:Hid (TbI a p B B1 T g S 0 w w4):=⟨⟨_,TabI.new S _ _,HTM.out.step hb⟩,HST.out.step hb,Nat.le_trans HSZ.out hb.size⟩
 clear hb c0 c1 c2 c3 c4 c5 c6 c7 HST HTM HL HSZ
 go_wp2
 go_loopw [11] (fun iv wr=>∃ i:Nat,i<=n/\iv= .int .i64 (i:Int)/\TbI a p B B1 T g S i w wr) (fun iv _=>n - (intOf iv).toNat)
 case atStart=>exact ⟨0,Nat.zero_le _,rfl,HF4.out⟩
 case round =>
  obtain ⟨i,hi,rfl,hfs⟩:=hrel
  have HFI:=hD hfs
  clear hfs HF4
  by_cases hlt:i < n
  ·have hlt2:(i:Int) < (n:Int):=by omega
   have HX:=hD (HPF.out B B1 T g S m i wr HKS.out k2 k3 k4 hlt k5 HB1.out HFI.out)
   go_wp2_with fail
   refine HX.out.mono ?_
   rintro e w5 ⟨z,rfl,htb⟩
   have HTB:=hD htb
   clear HX htb
   go_wp2
   go_roundw
   case rel=>exact ⟨i+1,by omega,by go_num,HTB.out⟩
   case measure=>simp [intOf];omega
  ·have hge:¬ (i:Int) < (n:Int):=by omega
   obtain rfl:i=n:=by omega
   go_wp2
   go_ret
   obtain ⟨L,e1,e2⟩:=HFI.out.tab
   exact QtB HNN HKS k2 k3 k4 k5 e1 e2 HFI.out.box.bel
theorem QnR {S n:Nat}{el:Nat->RI}{hm:RI->Nat}{L:List Int}{x:RI}{pl:Nat} (h:TabI S n el hm L) (ho:QpE S L el x (hm x) pl) (hp:pl < S):(L.getD pl 0=-1/\¬ ∃ j,j < n/\el j=x)\/∃ j:Nat,L.getD pl 0=(j:Int)/\j < n/\el j=x:=by
 rcases h.ok pl hp with e | ⟨j,hj,e,hf⟩
 ·refine .inl ⟨e,?_⟩
  rintro ⟨j,hj,hx⟩
  obtain ⟨j',hj',e1,hf⟩:=Qqr el j
  have h1:=h.found ho (show j' < n by omega) hf (e1.trans hx)
  omega
 ·refine .inr ⟨j,e,hj,?_⟩
  obtain ⟨d1,hd1,hpl,hbd,hla⟩:=ho
  rcases hla with h2 | ⟨j2,h2,h3⟩
  ·omega
  ·rw [e] at h2
   have:j=j2:=by omega
   subst this
   exact h3
def GeR (P:Prop) (w:World) (e:Ending) (w':World):Prop:=∃ z:Int,e= .returned (.int .i64 z)/\(0<=z↔P)/\Below w.heap.size w w'
theorem QtC {P:Prop}{w w':World}{z:Int} (h:0<=z↔P) (hb:Below w.heap.size w w'):GeR P w (.returned (.int .i64 z)) w':=⟨z,rfl,h,hb⟩
theorem Qse {Ha Hb:Nat->Prop}{a b:PA}{h1 h2:Sl}{p q:V8}{B T g S m:Nat}{L:List Int} (d:Nat) (hg1:GoodA (d+1) a) (hs1:SmA 1000000 a) (hg2:GoodA (d+1) b) (hs2:SmA 1000000 b) (w:World) (ga:AV Ha w a h1 p) (gb:AV Hb w b h2 q) (hS:S=2 ^ m) (h8:8<=S) (hS2:S<=4194304) (hn:2*a.len<=S) (htab:TabI S a.len (elA a) (fun x=>(keyI x).toNat) L) (k:Nat) (hk:k < b.len) (W:World) (hb:Below w.heap.size w W) (htm:TabM B p T g S L W) :
  Calls Tryz.prog 59 #[.pointer (some ⟨T,0,none⟩),q.v,.int .i64 (k:Int)] W (GeR (∃ j,j < a.len/\elA a j=elA b k) W):=by
 have HS0:Hid (FM B p q T g S L W (W.alloc q.o)):=⟨V1B.new W q,htm.step (bel1 W _)⟩
 have HFI:=hD (fun W' (s:FM B p q T g S L W W')=>Qkb (p:=p) (q:=q) hS hS2 W' s.tab (keyI (elA b k)) (QmI _) k a.len (fun j=>eqI (elA a j) (elA b k)) (fun x hx=>by
  rcases htab.ok x hx with e | ⟨j,e1,e2,_⟩
  ·exact .inl e
  ·exact .inr ⟨j,e1,e2⟩) (htab.dist (by omega) _) (fun W'' hb'=>Qm5 d hg2 hs2 gb k hk W'' (Qaa (Qaa hb s.one.bel) hb')) (fun j hj W'' hb'=>Qll d hg1 hs1 hg2 hs2 ga gb j k hj hk W'' (Qaa (Qaa hb s.one.bel) hb')))
 have HPL:Hid (∀ pl,FndP S L (keyI (elA b k)).toNat (fun j=>eqI (elA a j) (elA b k)) pl->pl < S/\(0<=L.getD pl 0↔∃ j,j < a.len/\elA a j=elA b k)):=fun pl hf=>by
  have hp:pl < S:=by obtain ⟨d1,hd1,rfl,_⟩:=hf;exact Nat.mod_lt _ (by omega)
  refine ⟨hp,?_⟩
  rcases QnR htab (Qnc hf) hp with ⟨e,hno⟩ | ⟨j,e,hj,hx⟩
  ·exact ⟨fun h=>by omega,fun h=>absurd h hno⟩
  ·exact ⟨fun _=>⟨j,hj,hx⟩,fun _=>by omega⟩
 unfold QpH at HFI
 generalize (∃ j,j < a.len/\elA a j=elA b k)=PP at *
 clear ga gb htab htm hg1 hg2 hs1 hs2 hb hS
 go_enter Tryz.func59,Tryz.ntmps59
 go_wp2_with fail
 obtain ⟨wz,hwz⟩:∃ wz,wz=W.alloc q.o:=⟨_,rfl⟩
 rw [<- hwz] at HS0
 have HWZ:=hD hwz
 clear hwz
 rw [<- HWZ.out]
 obtain ⟨c0,c1,c2,c3,c4,c5,c6,c7⟩:=HS0.out.one.one
 have csl:=HS0.out.tab.slot
 go_region_with (first | (go_at_call 112;(first | refine (HFI.out _ HS0.out.dr).mono ?_ | refine (HFI.out _ HS0.out).mono ?_);rintro e w1 ⟨pl,rfl,hf,hb1⟩;have hst1:FM B p q T g S L W w1:=(by first | exact FM.step HS0.out.dr hb1 | exact FM.step HS0.out hb1);obtain ⟨hpl,hiff⟩:=HPL.out pl hf;have hpl2:(pl:Int) < (S:Int):=(by omega);have cat:=hst1.tab.at_ hpl;have csl1:=hst1.tab.slot;clear hb1 hf))
 all_goals
  go_wp2
  go_ret
  exact QtC hiff hst1.one.bel
structure HsI (p q:V8) (B T g S G n c:Nat) (L:List Int) (ff:Nat->Value) (w W:World):Prop where
 fill:Fill W (w.heap.size+2) G 4 ff (.bool false) n c
 tab:TabM B p T g S L W
 two:V2B w W p q
 ne:G≠T/\G≠g
theorem HsI.step {p q:V8}{B T g S G n c:Nat}{L:List Int}{ff:Nat->Value}{w W W':World} (s:HsI p q B T g S G n c L ff w W) (hb:Below W.heap.size W W'):HsI p q B T g S G n c L ff w W':=⟨s.fill.below hb,s.tab.step hb,s.two.step hb,s.ne⟩
theorem HsI.put {p q:V8}{B T g S G n c:Nat}{L:List Int}{ff:Nat->Value}{w W:World} (s:HsI p q B T g S G n c L ff w W) (hc:c < n){u:Value} (hu:ff c=u):HsI p q B T g S G n (c+1) L ff w (W.setCell ⟨G,c,none⟩ u):=by
 subst hu
 have hlo:=s.fill.low.1
 have e:∀ b,b≠G->∀ j,(W.setCell ⟨G,c,none⟩ (ff c)).cell? ⟨b,j,none⟩=W.cell? ⟨b,j,none⟩:=fun b hb j=>World.cell?_of_block (w:=W) (Below.heap_setCell _ _ _ _ hb)
 have e1:=e w.heap.size (by omega)
 have e2:=e (w.heap.size+1) (by omega)
 obtain ⟨v0,v1,v2,v3,v4,v5,v6,v7⟩:=s.two.one
 obtain ⟨u0,u1,u2,u3,u4,u5,u6,u7⟩:=s.two.two
 exact ⟨s.fill.put hc,s.tab.keep (Below.heap_setCell _ _ _ _ (fun h=>s.ne.1 h.symm)) (Below.heap_setCell _ _ _ _ (fun h=>s.ne.2 h.symm)),⟨⟨by rw [e1];exact v0,by rw [e1];exact v1,by rw [e1];exact v2,by rw [e1];exact v3,by rw [e1];exact v4,by rw [e1];exact v5,by rw [e1];exact v6,by rw [e1];exact v7⟩,⟨by rw [e2];exact u0,by rw [e2];exact u1,by rw [e2];exact u2,by rw [e2];exact u3,by rw [e2];exact u4,by rw [e2];exact u5,by rw [e2];exact u6,by rw [e2];exact u7⟩,s.two.bel.setCell (by show _<=G;omega) _⟩,s.ne⟩
def HasR (R:Nat->Bool) (n:Nat) (w:World) (e:Ending) (w':World):Prop:=∃ G,e= .returned (.slice (some ⟨G,0,none⟩) n n)/\w.heap.size<=G/\(∀ i,i < n->w'.cell? ⟨G,0+i,none⟩=some (.bool (R i)))/\Below w.heap.size w w'
theorem Qsf {Ha Hb:Nat->Prop}{a b:PA}{h1 h2:Sl}{p q:V8} (d:Nat) (hg1:GoodA (d+1) a) (hs1:SmA 1000000 a) (hg2:GoodA (d+1) b) (hs2:SmA 1000000 b) (w:World) (ga:AV Ha w a h1 p) (gb:AV Hb w b h2 q) (R:Nat->Bool) (hR:∀ k,k < b.len->(R k=true↔∃ j,j < a.len/\elA a j=elA b k)) :
  Calls Tryz.prog 26 #[p.v,q.v] w (HasR R b.len w):=by
 have HLQ:=hD (fun W (s:V2B w W p q)=>Qbj gb W s.bel)
 have HTB:=hD (fun W (s:V2B w W p q)=>Qlm d hg1 hs1 hs1.len W (ga.step s.bel))
 have HGT:=hD (fun (B T g S m:Nat) (L:List Int) (x1:S=2 ^ m) (x2:8<=S) (x3:S<=4194304) (x4:2*a.len<=S) (x5:TabI S a.len (elA a) (fun x=>(keyI x).toNat) L) (k:Nat) (hk:k < b.len) (W:World) (s:V2B w W p q) (x6:TabM B p T g S L W)=>Qse d hg1 hs1 hg2 hs2 w ga gb x1 x2 x3 x4 x5 k hk W s.bel x6)
 have HRR:=hD hR
 have hnb:b.len<=1000000:=hs2.len
 unfold TbR at HTB
 unfold GeR at HGT
 obtain ⟨n,hn⟩:∃ n,n=b.len:=⟨_,rfl⟩
 rw [<- hn] at HLQ HGT HRR hnb ⊢
 have hmk:=run_make_row' (P:=Tryz.prog) 72 4 (.bool false) 1 Tryz.underlying72 QbW rfl .i64 .i64 n (by omega) (by omega)
 obtain ⟨ff,hff⟩:∃ ff:Nat->Value,ff=fun c => .bool (R c):=⟨_,rfl⟩
 have HFF:Hid (∀ c,ff c= .bool (R c)):=fun c=>by rw [hff]
 have HS0:=hD (V2B.new w p q)
 clear ga gb hg1 hg2 hs1 hs2 hR hff hn
 go_enter Tryz.func26,Tryz.ntmps26
 obtain ⟨wz,hwz⟩:∃ wz,wz=(w.alloc p.o).alloc q.o:=⟨_,rfl⟩
 rw [<- hwz] at HS0
 have HWZ:=hD hwz
 clear hwz
 obtain ⟨c0,c1,c2,c3,c4,c5,c6,c7⟩:=HS0.out.two
 rw [HWZ.out] at c0 c1 c2 c3 c4 c5 c6 c7
 go_wp2_with fail
 rw [<- HWZ.out]
 refine (HLQ.out _ HS0.out).mono ?_
 rintro e w1 ⟨rfl,hb⟩
 have HS1:=hD (HS0.out.step hb)
 clear hb c0 c1 c2 c3 c4 c5 c6 c7 HS0 HWZ HLQ
 obtain ⟨G,hG⟩:∃ G,G=w1.heap.size:=⟨_,rfl⟩
 have hsz1:w.heap.size+2<=w1.heap.size:=Qav HS1.out.two.1
 have HF0:=hD (Fill.made w1 (w.heap.size+2) hsz1 4 ff (.bool false) n (by unfold maxLen;omega))
 obtain ⟨w2,hw2⟩:∃ w2,w2=w1.alloc (.cells (madeCells #[.bool false] n) 4):=⟨_,rfl⟩
 have HS2:Hid (V2B w w2 p q):=by unfold Hid;rw [hw2];exact HS1.out.step (bel1 w1 _)
 have HSZ2:Hid (w1.heap.size < w2.heap.size):=by unfold Hid;rw [hw2];simp
 rw [<- hw2,<- hG] at HF0
 have HW2:=hD hw2
 clear hw2 HS1
 obtain ⟨c0,c1,c2,c3,c4,c5,c6,c7⟩:=HS2.out.one
 rw [HW2.out] at c0 c1 c2 c3 c4 c5 c6 c7
 go_wp2_with fail
 rw [<- HW2.out]
 refine (HTB.out _ HS2.out).mono ?_
 rintro e w3 ⟨B,T,g,S,m,L,rfl,k1,k2,k3,k4,k5,htab,htm,hb⟩
 have HTA:=hD htab
 have HI3:Hid (HsI p q B T g S G n 0 L ff w w3):=⟨HF0.out.below hb,htm,HS2.out.step hb,by have:=htm.low;have:=HSZ2.out;omega,by have:=htm.lt.2.1;have:=HSZ2.out;omega⟩
 have HG:=hD (HGT.out B T g S m L k1.out k2 k3 k4 htab)
 clear hb htm htab HTB HGT c0 c1 c2 c3 c4 c5 c6 c7 HS2 HF0 HW2 HSZ2 k1 k2 k3 k4 k5 HTA
 rw [<- hG]
 have HGG:=hD hG
 clear hG
 go_wp2
 go_loopw [15] (fun j wr=>∃ c:Nat,c<=n/\j= .int .i64 c/\HsI p q B T g S G n c L ff w wr) (fun j _=>n - (intOf j).toNat)
 case atStart=>exact ⟨0,Nat.zero_le _,rfl,HI3.out⟩
 case round =>
  obtain ⟨c,hc,rfl,har⟩:=hrel
  have HAR:=hD har
  clear har HI3
  by_cases hlt:c < n
  ·have hlt2:(c:Int) < (n:Int):=by omega
   obtain ⟨c0,c1,c2,c3,c4,c5,c6,c7⟩:=HAR.out.two.two
   go_wp2_with fail
   refine (HG.out c hlt wr HAR.out.two HAR.out.tab).mono ?_
   rintro e w5 ⟨z,rfl,hz,hb⟩
   have HA5:=hD (HAR.out.step hb)
   have hcell:=HA5.out.fill.cell hlt
   have hfz:=HA5.out.fill.frozen c
   have hbz:R c=decide (0<=z):=by
    have h1:=HRR.out c hlt
    by_cases h0:0<=z
    ·rw [h1.2 (hz.1 h0)];exact (decide_eq_true h0).symm
    ·have h2:R c=false:=by
      cases hr:R c with
      | false=>rfl
      | true=>exact absurd (hz.2 (h1.1 hr)) h0
     rw [h2];exact (decide_eq_false h0).symm
   have HP:=hD (HA5.out.put hlt ((HFF.out c).trans (by rw [hbz])))
   have hsb:=fun md=>Qgh (w:=w5) hcell hfz (decide (0<=z)) md
   clear hb hz hbz c0 c1 c2 c3 c4 c5 c6 c7
   have hgc:(c:Int) < (n:Int):=hlt2
   go_wp2
   go_roundw
   case rel=>exact ⟨c+1,by omega,by go_num,HP.out⟩
   case measure=>simp [intOf];omega
  ·have hge:¬ (c:Int) < (n:Int):=by omega
   obtain rfl:c=n:=by omega
   go_wp2
   go_ret
   exact ⟨G,rfl,by have:=HGG.out;omega,fun i hi=>by rw [Nat.zero_add,HAR.out.fill.done i hi (Nat.le_refl _),HFF.out],HAR.out.two.bel⟩
end Go.Proofs.YtdelgpelkfndeaaGreatDoor
namespace Go.Proofs.YtdelgpelkfndeaaGreatDoor
open Go
def rl (s:ByteArray):Nat->Nat->List Int
 | 0,_=>[]
 | f+1,i=>if i < s.size then ((Utf8.decode s i).1:Int)::rl s f (i+(Utf8.decode s i).2) else []
def Qg2 (s:ByteArray):List Int:=rl s s.size 0
theorem Qid (s:ByteArray){f i:Nat} (h:s.size<=i):rl s f i=[]:=by
 cases f with
 | zero=>rfl
 | succ f=>rw [rl,if_neg (by omega)]
theorem QnS (s:ByteArray):∀ f g i,s.size - i<=f->s.size - i<=g->rl s f i=rl s g i
 | 0,g,i,h,_=>by rw [Qid s (by omega),Qid s (by omega)]
 | f+1,0,i,_,h=>by rw [Qid s (by omega),Qid s (by omega)]
 | f+1,g+1,i,h1,h2=>by
  rw [rl,rl]
  split
  ·rename_i hi
   have hw:=Lib.decode_width_pos s i hi
   rw [QnS s f g _ (by omega) (by omega)]
  ·rfl
theorem Qsg (s:ByteArray){i:Nat} (h:i < s.size):rl s (s.size - i) i=((Utf8.decode s i).1:Int)::rl s (s.size - (i+(Utf8.decode s i).2)) (i+(Utf8.decode s i).2):=by
 have hw:=Lib.decode_width_pos s i h
 obtain ⟨f,hf⟩:∃ f,s.size - i=f+1:=⟨s.size - i - 1,by omega⟩
 rw [hf,rl,if_pos h,QnS s f (s.size - (i+(Utf8.decode s i).2)) _ (by omega) (by omega)]
end Go.Proofs.YtdelgpelkfndeaaGreatDoor
namespace Go.Proofs.YtdelgpelkfndeaaGreatDoor
open Go Go.RowKit Go.Proofs
theorem Qsh {l:List Int}{i:Nat} (h:i < l.length):l.getD i 0=l[i]:=by simp [List.getD,h]
def QfD:List Int->Int->Int->Int
 | [],_,_=>0
 | x::xs,n,c=>if x=c/\c≠0 then n+1 else QfD xs (n+1) c
def Qgo:List Int->Nat->Int->Int
 | [],_,_=>0
 | x::xs,i,c=>if x=c then (if i < 8 then (i:Int)+1 else if i < 14 then (i:Int)+3 else (i:Int)+7) else Qgo xs (i+1) c
def QnT:ByteArray:=⟨#[43,45,195,151,195,183,226,140,136,226,140,138,124,42,0,0,60,226,137,164,61,226,137,165,62,226,137,160,0,0,0,0,226,136,167,226,136,168,226,141,178,226,141,177]⟩
def Qp5:List Int:=[43,45,215,247,8968,8970,124,42,0,0,60,8804,61,8805,62,8800,0,0,0,0,8743,8744,9074,9073]
def codeRL:List Int:=[43,45,215,247,8968,8970,124,42,60,8804,61,8805,62,8800,8743,8744,9074,9073]
def Qan (c:Int):Int:=QfD Qp5 0 c
theorem Qg3:Qg2 QnT=Qp5:=by decide+kernel
theorem QnU (c:Int):Qgo codeRL 0 c=Qan c:=by
 by_cases h:c∈codeRL
 ·unfold codeRL at h
  simp only [List.mem_cons,List.not_mem_nil,or_false] at h
  rcases h with rfl | rfl | rfl | rfl | rfl | rfl | rfl | rfl | rfl | rfl | rfl | rfl | rfl | rfl | rfl | rfl | rfl | rfl <;> rfl
 ·unfold codeRL at h
  simp only [List.mem_cons,List.not_mem_nil,or_false,not_or] at h
  obtain ⟨h0,h1,h2,h3,h4,h5,h6,h7,h8,h9,h10,h11,h12,h13,h14,h15,h16,h17⟩:=h
  have hz:∀ n:Int,¬ (n=c/\c≠0)↔(n≠c\/c=0):=fun n=>by omega
  unfold Qan codeRL Qp5
  simp only [Qgo,QfD]
  rw [if_neg (fun e=>h0 e.symm)]
  rw [if_neg (fun e=>h1 e.symm)]
  rw [if_neg (fun e=>h2 e.symm)]
  rw [if_neg (fun e=>h3 e.symm)]
  rw [if_neg (fun e=>h4 e.symm)]
  rw [if_neg (fun e=>h5 e.symm)]
  rw [if_neg (fun e=>h6 e.symm)]
  rw [if_neg (fun e=>h7 e.symm)]
  rw [if_neg (fun e=>h8 e.symm)]
  rw [if_neg (fun e=>h9 e.symm)]
  rw [if_neg (fun e=>h10 e.symm)]
  rw [if_neg (fun e=>h11 e.symm)]
  rw [if_neg (fun e=>h12 e.symm)]
  rw [if_neg (fun e=>h13 e.symm)]
  rw [if_neg (fun e=>h14 e.symm)]
  rw [if_neg (fun e=>h15 e.symm)]
  rw [if_neg (fun e=>h16 e.symm)]
  rw [if_neg (fun e=>h17 e.symm)]
  simp only [Ne,eq_comm (b:=c),h0,h1,h2,h3,h4,h5,h6,h7,h8,h9,h10,h11,h12,h13,h14,h15,h16,h17,false_and,if_false]
  by_cases h0:c=0
  ·subst h0;simp
  ·simp [h0]
theorem Qjf (c:Int):c∈codeRL\/Qan c=0:=by
 by_cases h:c∈codeRL
 ·exact .inl h
 ·refine .inr ?_
  rw [<- QnU]
  have k:∀ (l:List Int) (i:Nat),c ∉ l->Qgo l i c=0:=by
   intro l
   induction l with
   | nil=>intro i _;rfl
   | cons x xs ih =>
    intro i hn
    rw [Qgo,if_neg (fun e=>hn (by rw [e];exact List.mem_cons_self)),ih _ (fun h=>hn (List.mem_cons_of_mem _ h))]
  exact k _ _ h
theorem QfE (c:Int) (w:World):Calls Tryz.prog 22 #[.int .i32 c] w fun e w'=>e= .returned (.int .i64 (Qan c))/\Below w.heap.size w w':=by
 obtain ⟨R,hR⟩:∃ R,R=Qan c:=⟨_,rfl⟩
 obtain ⟨s,hs⟩:∃ s,s=QnT:=⟨_,rfl⟩
 have hrl:Qg2 s=Qp5:=by rw [hs];exact Qg3
 have HR0:Hid (R=QfD (rl s (s.size - 0) 0) 0 c):=by
  unfold Hid;rw [hR];show _=QfD (Qg2 s) 0 c;rw [hrl];rfl
 have HL0:Hid ((0:Int)+(rl s (s.size - 0) 0).length<=100):=by
  unfold Hid;show (0:Int)+((Qg2 s).length:Nat)<=100;rw [hrl];decide
 have HS:=hD hs
 rw [<- hR]
 clear hR hrl hs
 go_enter Tryz.func22,Tryz.ntmps22
 go_upto_region 1 with fail
 go_cut [3] from 4 (fun v wx=>v= .string s/\wx=w)
 case first =>
  go_wp2
  go_meet
  exact ⟨by rw [HS.out];rfl,rfl⟩
 case rest =>
  obtain ⟨rfl,rfl⟩:=hcut
  clear HS
  go_wp2
  go_loopw [4] (fun nv wr=>∃ (pos:Nat) (n:Int),wr=wc.iter s pos/\nv= .int .i64 n/\0<=n/\Hid (n+(rl s (s.size - pos) pos).length<=100)/\Hid (R=QfD (rl s (s.size - pos) pos) n c)) (fun _ wr=>s.size - wr.iterPos wc.heap.size)
  case atStart=>exact ⟨0,0,rfl,rfl,by omega,HL0.out,HR0.out⟩
  case round =>
   obtain ⟨pos,n,rfl,rfl,hn,hl,hrel⟩:=hrel
   by_cases h:pos < s.size
   ·have hnx:=fun ty=>run_next_any (P:=Tryz.prog) wc s pos ty h
    have HST:=hD (Qsg s h)
    have hwd:=Lib.decode_width_pos s pos h
    generalize Utf8.decode s pos=d at *
    obtain ⟨x,k⟩:=d
    simp only at hnx hwd HST
    have HL2:Hid (n+1+(rl s (s.size - (pos+k)) (pos+k)).length<=100):=by
     unfold Hid;have:=hl.out;rw [HST.out] at this;simp at this;omega
    have hn3:n+1<=100:=by have:=HL2.out;omega
    by_cases hc:(x:Int)=c
    ·by_cases hz:c=0
     ·have HT:Hid (R=QfD (rl s (s.size - (pos+k)) (pos+k)) (n+1) c):=by unfold Hid;rw [hrel.out,HST.out,QfD,if_neg (fun e=>e.2 hz)]
      have q1:((x:Int)==c)=true:=by simpa using hc
      have q2:(c != 0)=false:=by simpa using hz
      clear HST hrel hl hc hz
      go_wp2
      go_roundw
      case rel=>exact ⟨pos+k,n+1,rfl,by go_num,by omega,HL2.out,HT.out⟩
      case measure=>simp;omega
     ·have HT:Hid (R=n+1):=by unfold Hid;rw [hrel.out,HST.out,QfD,if_pos ⟨hc,hz⟩]
      have q1:((x:Int)==c)=true:=by simpa using hc
      have q2:(c != 0)=true:=by simpa using hz
      clear HST hrel hl hc hz
      go_wp2
      go_ret
      exact ⟨by rw [HT.out];go_num,(Below.refl _ wc).alloc (Nat.le_refl _) _⟩
    ·have HT:Hid (R=QfD (rl s (s.size - (pos+k)) (pos+k)) (n+1) c):=by unfold Hid;rw [hrel.out,HST.out,QfD,if_neg (fun e=>hc e.1)]
     have q1:((x:Int)==c)=false:=by simpa using hc
     clear HST hrel hl hc
     go_wp2
     go_roundw
     case rel=>exact ⟨pos+k,n+1,rfl,by go_num,by omega,HL2.out,HT.out⟩
     case measure=>simp;omega
   ·have hnx:=fun ty=>run_next_end (P:=Tryz.prog) wc s pos ty h
    have HT:Hid (R=0):=by unfold Hid;rw [hrel.out,Qid s (by omega)];rfl
    go_wp2
    go_ret
    exact ⟨by rw [HT.out];rfl,(Below.refl _ wc).alloc (Nat.le_refl _) _⟩
theorem Qgp (c:Int) (w:World):Calls Tryz.prog 39 #[.int .i32 c] w fun e w'=>e= .returned (.int .i64 (Qan c))/\Below w.heap.size w w':=by
 obtain ⟨R,hR⟩:∃ R,R=Qan c:=⟨_,rfl⟩
 obtain ⟨W,hW⟩:∃ W,W=w.alloc (.cells (codeRL.map (Value.int .i32)).toArray 21):=⟨_,rfl⟩
 have HC:Hid (∀ k,k < 18->W.cell? ⟨w.heap.size,k,none⟩=some (.int .i32 (codeRL.getD k 0))):=fun k hk=>by
  rw [hW,World.cell?_alloc_at _ _ _ _ rfl]
  have hl:k < codeRL.length:=hk
  simp [hl]
 have HBA:Hid (Below w.heap.size w W):=by rw [hW];exact (Below.refl _ w).alloc (Nat.le_refl _) _
 have hall:∀ k,k < 18->Qgo codeRL 0 (codeRL.getD k 0)=(if k < 8 then (k:Int)+1 else if k < 14 then (k:Int)+3 else (k:Int)+7):=by decide
 have HY:Hid (∀ k,k < 18->codeRL.getD k 0=c->R=if k < 8 then (k:Int)+1 else if k < 14 then (k:Int)+3 else (k:Int)+7):=fun k hk h2=>by
  rw [hR,<- QnU,<- h2]
  exact hall k hk
 have HX:Hid ((∀ j,j < 18->¬ codeRL.getD j 0=c)->R=0):=fun h=>by
  rcases Qjf c with h1 | h1
  ·obtain ⟨k,hk,e⟩:=List.getElem_of_mem h1
   exact absurd (by rw [Qsh hk];exact e) (h k hk)
  ·rw [hR,h1]
 rw [<- hR]
 have HW:Hid (w.alloc (.cells #[.int .i32 43,.int .i32 45,.int .i32 215,.int .i32 247,.int .i32 8968,.int .i32 8970,.int .i32 124,.int .i32 42,.int .i32 60,.int .i32 8804,.int .i32 61,.int .i32 8805,.int .i32 62,.int .i32 8800,.int .i32 8743,.int .i32 8744,.int .i32 9074,.int .i32 9073] 21)=W):=by unfold Hid;rw [hW];rfl
 clear hR hW hall
 go_enter Tryz.func39,Tryz.ntmps39
 go_upto_region 2 with fail
 rw [HW.out]
 clear HW
 go_wp2
 go_loop [4] (fun i=>∃ k:Nat,k<=18/\i= .int .i64 (k:Int)/\Hid (∀ j,j < k->¬ codeRL.getD j 0=c)) (fun i=>18 - (intOf i).toNat)
 case atStart=>exact ⟨0,Nat.zero_le _,rfl,fun j h=>absurd h (by omega)⟩
 case round =>
  obtain ⟨k,hk,rfl,hall⟩:=hrel
  by_cases hlt:k < 18
  ·have hce2:=HC.out k hlt
   have HYK:=hD (HY.out k hlt)
   have hlt2:(k:Int) < 18:=by omega
   obtain ⟨x,hx⟩:∃ x,x=codeRL.getD k 0:=⟨_,rfl⟩
   rw [<- hx] at hce2 HYK
   have HXX:=hD hx
   clear hx
   by_cases hp:x=c
   ·have HT:=hD (HYK.out hp)
    subst hp
    clear hall
    by_cases h8:(k:Int) < 8
    ·have HT2:Hid (R=(k:Int)+1):=by unfold Hid;rw [HT.out,if_pos (by omega)]
     go_wp2
     go_ret
     exact ⟨by rw [HT2.out];go_num,HBA.out⟩
    ·by_cases h14:(k:Int) < 14
     ·have HT2:Hid (R=(k:Int)+3):=by unfold Hid;rw [HT.out,if_neg (by omega),if_pos (by omega)]
      go_wp2
      go_ret
      exact ⟨by rw [HT2.out];go_num,HBA.out⟩
     ·have HT2:Hid (R=(k:Int)+7):=by unfold Hid;rw [HT.out,if_neg (by omega),if_neg (by omega)]
      go_wp2
      go_ret
      exact ⟨by rw [HT2.out];go_num,HBA.out⟩
   ·have HA:Hid (∀ j,j < k+1->¬ codeRL.getD j 0=c):=by
     intro j hj
     rcases Nat.lt_or_ge j k with h | h
     ·exact hall.out j h
     ·obtain rfl:j=k:=by omega
      rw [<- HXX.out];exact hp
    have hp2:(x != c)=true:=by simpa using hp
    clear hp hall
    go_wp2
    go_round
    case rel=>exact ⟨k+1,by omega,by go_num,HA⟩
    case measure=>simp [intOf];omega
  ·have HT:Hid (R=0):=HX.out fun j hj=>hall.out j (by omega)
   have hge:¬ (k:Int) < 18:=by omega
   clear hall
   go_wp2
   go_ret
   exact ⟨by rw [HT.out];rfl,HBA.out⟩
inductive RTree where
 | mk (kind:Int) (nums:List Nat) (text:List Int) (name:ByteArray) (char:Int) (kids:List RTree)
def BoxT (w W:World) (vs:List Value):Prop:=(∀ i,W.cell? ⟨w.heap.size,i,none⟩=vs[i]?)/\Below w.heap.size w W/\w.heap.size < W.heap.size
theorem QtD (w:World) (vs:List Value) (T:TypeId):BoxT w (w.alloc (.cells vs.toArray T)) vs :=
 ⟨fun i=>by rw [World.cell?_alloc_at _ _ _ _ rfl];simp,(Below.refl _ w).alloc (Nat.le_refl _) _,by simp⟩
theorem BoxT.step {w W W':World}{vs:List Value} (h:BoxT w W vs) (hb:Below W.heap.size W W'):BoxT w W' vs :=
 ⟨fun i=>by rw [hb.cell (p:=⟨w.heap.size,i,none⟩) h.2.2];exact h.1 i,h.2.1.trans (hb.mono (by have:=h.2.2;omega)),by have:=hb.size;have:=h.2.2;omega⟩
end Go.Proofs.YtdelgpelkfndeaaGreatDoor
namespace Go.Proofs.YtdelgpelkfndeaaGreatDoor
open Go Go.RowKit Go.Proofs Fl
instance:Inhabited RTree:=⟨.mk 0 [] [] ⟨#[]⟩ 0 []⟩
def gz (g:Nat) (W:World):Value:=(W.cell? ⟨g,6,none⟩).getD (.int .i64 0)
def QtE (t:RP) (w:World) (e:Ending) (w':World):Prop:=∃ b:Bool,e= .returned (.bool b)/\(b=true->OkP 40 t/\cntP t<=1500)/\Below w.heap.size w w'
structure LdQ (w0:World) (G:Nat) (h:Sl) (p:V8) (h1 x1:Sl) (f:Int) (W:World):Prop where
 one:At9 W G 0 h p
 two:At3 W (G+1) 0 h1 x1 f
 bel:Below w0.heap.size w0 W
theorem LdQ.new (w:World) (h:Sl) (p:V8) (h1 x1:Sl) (f:Int):LdQ ((w.alloc (arrO h p)).alloc (plO h1 x1 f)) w.heap.size h p h1 x1 f ((w.alloc (arrO h p)).alloc (plO h1 x1 f)):=by
 have g:=Qbd (w.alloc (arrO h p)) h1 x1 f
 have e:(w.alloc (arrO h p)).heap.size=w.heap.size+1:=by simp
 rw [e] at g
 exact ⟨(QaV w h p).below (bel1 _ _),g,Below.refl _ _⟩
theorem LdQ.step {w0 W W':World}{G:Nat}{h:Sl}{p:V8}{h1 x1:Sl}{f:Int} (g:LdQ w0 G h p h1 x1 f W) (hb:Below W.heap.size W W'):LdQ w0 G h p h1 x1 f W' :=
 ⟨g.one.below hb,g.two.of fun j=>hb.cell (p:=⟨G+1,j,none⟩) g.two.lt,Qaa g.bel hb⟩
theorem LdQ.dr {w0 W:World}{G:Nat}{h:Sl}{p:V8}{h1 x1:Sl}{f:Int} (g:LdQ w0 G h p h1 x1 f W):LdQ w0 G h p h1 x1 f W.drew:=g.step (Below.refl _ W).drew
theorem LdQ.self {w0 W:World}{G:Nat}{h:Sl}{p:V8}{h1 x1:Sl}{f:Int} (g:LdQ w0 G h p h1 x1 f W):LdQ w0 G h p h1 x1 f W:=g
theorem Quh {w0 W:World}{G:Nat}{h:Sl}{p:V8}{h1 x1:Sl}{f:Int} (g:LdQ w0 G h p h1 x1 f W):(W.cell? ⟨G,0,none⟩=some (.slice h.1 h.2.1 h.2.2)/\W.cell? ⟨G,1,none⟩=some (.int .i64 p.k)/\W.cell? ⟨G,2,none⟩=some (.slice p.b.1 p.b.2.1 p.b.2.2)/\W.cell? ⟨G,3,none⟩=some (.int .i64 p.bn) /\
  W.cell? ⟨G,4,none⟩=some (.slice p.s.1 p.s.2.1 p.s.2.2)/\W.cell? ⟨G,5,none⟩=some (.slice p.i.1 p.i.2.1 p.i.2.2)/\W.cell? ⟨G,6,none⟩=some (.slice p.f.1 p.f.2.1 p.f.2.2)/\W.cell? ⟨G,7,none⟩=some (.slice p.c.1 p.c.2.1 p.c.2.2)/\W.cell? ⟨G,8,none⟩=some (.slice p.x.1 p.x.2.1 p.x.2.2)) /\
  (W.cell? ⟨G+1,0,none⟩=some (.slice h1.1 h1.2.1 h1.2.2)/\W.cell? ⟨G+1,1,none⟩=some (.slice x1.1 x1.2.1 x1.2.2)/\W.cell? ⟨G+1,2,none⟩=some (.int .i64 f))/\LdQ w0 G h p h1 x1 f W:=⟨g.one.c,Qax g.two,g⟩
theorem Qgq (t:RP) (h x:Sl) (f:Int) (w:World) (hfit:FitP t) (hM:cntP t<=1048576) (hr:PV (fun _=>False) w t h x f) :
  Calls Tryz.prog 5 #[plV h x f] w (QtE t w):=by
 have HB0:=hD (bel1 w (plO h x f))
 have HX0:=hD (Qbd w h x f)
 have HCN:=hD (QeJ 3000 (cntP t) t h x f (w.alloc (plO h x f)) (Nat.le_refl _) hM (hr.step HB0.out))
 have HCK:=hD (fun W (hb:Below w.heap.size w W)=>Qmy t h x f W hfit hM (hr.step hb))
 clear hfit hM hr
 go_enter Tryz.func5,Tryz.ntmps5
 go_wp2_with fail
 refine HCN.out.mono ?_
 rintro e w1 ⟨⟨n,rfl,hn⟩,hb⟩
 have HN:=hD hn
 have HB1:=hD (Qaa HB0.out hb)
 have HX1:=hD (HX0.out.of fun j=>hb.cell (p:=⟨w.heap.size,j,none⟩) HX0.out.lt)
 clear hb hn
 obtain ⟨c0,c1,c2⟩:=Qax HX1.out
 by_cases h1:(n:Int)<=1500
 ·have h1':decide ((n:Int)<=1500)=true:=decide_eq_true h1
  by_cases h2:(h.2.1:Int)<=8
  ·have h2':decide ((h.2.1:Int)<=8)=true:=decide_eq_true h2
   have h2n:h.2.1<=8:=by omega
   have HN1:Hid (cntP t<=1500):=by
    have:=HN.out.2.2 (by omega)
    unfold Hid;omega
   clear h1
   go_wp2_with fail
   refine (HCK.out _ HB1.out).mono ?_
   rintro e w2 ⟨⟨z,rfl,hz⟩,hb⟩
   have HB2:=hD (Qaa HB1.out hb)
   have HZ:=hD hz
   clear hb hz c0 c1 c2
   go_wp2
   go_ret
   exact ⟨_,rfl,fun e=>⟨HZ.out (by simpa using e),HN1.out⟩,HB2.out⟩
  ·have h2':decide ((h.2.1:Int)<=8)=false:=decide_eq_false h2
   have h2n:¬ h.2.1<=8:=by omega
   clear h1
   go_wp2
   go_ret
   exact ⟨false,rfl,(fun e=>by cases e),HB1.out⟩
 ·have h1':decide ((n:Int)<=1500)=false:=decide_eq_false h1
  go_wp2
  go_ret
  exact ⟨false,rfl,(fun e=>by cases e),HB1.out⟩
theorem Qgr {H H':Nat->Prop}{a:PA}{h:Sl}{p:V8}{h1 x1:Sl}{f:Int}{w:World} (hH:∀ b,H b->b < w.heap.size) (hg:GoodA 40 a) (hs:SmA 1000000 a) (hav:AV H w a h p) (hpv:PV H' w (rawP a) h1 x1 f) :
  Calls Tryz.prog 20 #[arrV h p,.int .i64 0,plV h1 x1 f,.int .i64 0] w fun e w'=>e= .returned (.bool true)/\Below w.heap.size w w':=by
 obtain ⟨w0,hw0⟩:∃ w0,w0=(w.alloc (arrO h p)).alloc (plO h1 x1 f):=⟨_,rfl⟩
 have HW0:=hD hw0
 have HS0:Hid (LdQ w0 w.heap.size h p h1 x1 f w0):=by rw [hw0];exact LdQ.new w h p h1 x1 f
 have HB0:Hid (Below w.heap.size w w0):=by unfold Hid;rw [hw0];exact bel2 _ _ _
 have HGD:=hD (fun W (hW:LdQ w0 w.heap.size h p h1 x1 f W)=>QmW (AV.step hav (Qaa HB0.out hW.bel)) (fun b e=>by have:=hH b e;have:=hW.bel.size;have:=HB0.out.size;omega) hg hs)
 have HPL:=hD (fun W (hW:LdQ w0 w.heap.size h p h1 x1 f W)=>Qgg 40 H a h p W (fun b e=>by have:=hH b e;have:=hW.bel.size;have:=HB0.out.size;omega) hg hs (AV.step hav (Qaa HB0.out hW.bel)))
 unfold PlR at HPL
 have hsame:QkS (rawP a):=QmH 40 hg hs
 have HSM:=hD (fun W (hW:LdQ w0 w.heap.size h p h1 x1 f W) (h2 x2:Sl) (f2:Int) (hp2:PV H W (rawP a) h2 x2 f2)=>hsame H H' h2 x2 h1 x1 f2 f W hp2 (hpv.step (Qaa HB0.out hW.bel)))
 clear hH hg hs hav hpv hsame hw0
 generalize rawP a=t at HPL HSM
 generalize (a.fill:Int)=fl at HPL
 go_enter Tryz.func20,Tryz.ntmps20
 go_wp2_with fail
 rw [<- HW0.out]
 have hs0:=HS0.out.dr
 have hs00:=HS0.out
 go_region_held3 (fun W=>(W.cell? ⟨w.heap.size,0,none⟩=some (.slice h.1 h.2.1 h.2.2)/\W.cell? ⟨w.heap.size,1,none⟩=some (.int .i64 p.k)/\W.cell? ⟨w.heap.size,2,none⟩=some (.slice p.b.1 p.b.2.1 p.b.2.2)/\W.cell? ⟨w.heap.size,3,none⟩=some (.int .i64 p.bn)/\W.cell? ⟨w.heap.size,4,none⟩=some (.slice p.s.1 p.s.2.1 p.s.2.2)/\W.cell? ⟨w.heap.size,5,none⟩=some (.slice p.i.1 p.i.2.1 p.i.2.2)/\W.cell? ⟨w.heap.size,6,none⟩=some (.slice p.f.1 p.f.2.1 p.f.2.2)/\W.cell? ⟨w.heap.size,7,none⟩=some (.slice p.c.1 p.c.2.1 p.c.2.2)/\W.cell? ⟨w.heap.size,8,none⟩=some (.slice p.x.1 p.x.2.1 p.x.2.2))/\(W.cell? ⟨w.heap.size+1,0,none⟩=some (.slice h1.1 h1.2.1 h1.2.2)/\W.cell? ⟨w.heap.size+1,1,none⟩=some (.slice x1.1 x1.2.1 x1.2.2)/\W.cell? ⟨w.heap.size+1,2,none⟩=some (.int .i64 f))/\LdQ w0 w.heap.size h p h1 x1 f W)
  (first | with_reducible assumption | (with_reducible (refine Quh ?_);repeat (first | with_reducible assumption | with_reducible refine LdQ.dr ?_)))
  (first
   | (go_at_call 54;(with_reducible refine (HGD.out _ ?_).mono ?_);exact LdQ.self (by repeat (first | with_reducible assumption | with_reducible refine LdQ.dr ?_));rintro e w1 ⟨rfl,hb1⟩;have hst1:LdQ w0 w.heap.size h p h1 x1 f w1:=LdQ.step (by repeat (first | with_reducible assumption | with_reducible refine LdQ.dr ?_)) hb1;clear hb1)
   | (go_at_call 56;(with_reducible refine (HPL.out _ ?_).mono ?_);exact LdQ.self (by repeat (first | with_reducible assumption | with_reducible refine LdQ.dr ?_));rintro e w2 ⟨h2,x2,rfl,hpv2,hb2⟩;have hst2:LdQ w0 w.heap.size h p h1 x1 f w2:=LdQ.step (by repeat (first | with_reducible assumption | with_reducible refine LdQ.dr ?_)) hb2;have HSC:=hD (HSM.out w2 hst2 h2 x2 fl hpv2);clear hb2 hpv2)
   | (go_at_call 55;(with_reducible refine HSC.out.mono ?_);rintro e w3 ⟨rfl,hb3⟩;have hst3:LdQ w0 w.heap.size h p h1 x1 f w3:=LdQ.step hst2 hb3;clear hb3))
 all_goals
  go_wp2
  go_ret
  exact ⟨rfl,Qaa HB0.out hst3.bel⟩
theorem Qui:fi 5=4617315517961601024:=by decide+kernel
theorem Quj:fi 6=4618441417868443648:=by decide+kernel
theorem Quk:fi 7=4619567317775286272:=by decide+kernel
abbrev l567:List Nat:=[4617315517961601024,4618441417868443648,4619567317775286272]
abbrev a567:PA := .nums [3] l567
abbrev a7:PA := .nums [] [4619567317775286272]
theorem Qqx:TF 4619567317775286272:=Quk▸QgZ (by decide)
theorem all567:∀ z∈l567,TF z:=by
 intro z hz
 simp at hz
 rcases hz with rfl | rfl | rfl
 ·exact Qui▸QgZ (by decide)
 ·exact Quj▸QgZ (by decide)
 ·exact Qqx
theorem good7:GoodA 40 a7:=Qne sh0 (all1 Qqx)
theorem part567:Qak a567 2=a7:=by rw [Qak,QdN (show 2 < l567.length by decide)];rfl
theorem QtF:OkSh [3] 3:=⟨by decide,by decide,rfl⟩
theorem Qsi {W:World}{B:Nat}{e:TypeId}{x y z:Nat} (h:W.heap[B]?=some (.cells #[.float .f64 x,.float .f64 y,.float .f64 z] e)):Reads1 W (.slice (some ⟨B,0,none⟩) 3 3) ([x,y,z].map (Value.float .f64)):=by
 refine .inr ⟨B,0,3,3,rfl,rfl,fun j hj=>?_⟩
 have hj2:j < 3:=by simpa using hj
 rw [cell_of_row _ B (0+j) _ e (0,0) h]
 match j,hj2 with
 | 0,_=>rfl
 | 1,_=>rfl
 | 2,_=>rfl
structure Ch1 (w W:World) (h:Sl) (p:V8):Prop where
 ph:BoxT w W [.int .i64 1,.int .i32 8835,.int .i32 9021]
 arr:At9 W (w.heap.size+1) 0 h p
 res:W.heap[w.heap.size+2]?=some QbN
theorem Ch1.bel {w W:World}{h:Sl}{p:V8} (g:Ch1 w W h p):Below w.heap.size w W:=g.ph.2.1
theorem Ch1.step {w W W':World}{h:Sl}{p:V8} (g:Ch1 w W h p) (hb:Below W.heap.size W W'):Ch1 w W' h p:=⟨g.ph.step hb,g.arr.below hb,by rw [hb.block _ (lt_blk g.res)];exact g.res⟩
theorem Ch1.new (w:World) (h:Sl) (p:V8):Ch1 w (((w.alloc (.cells #[.int .i64 1,.int .i32 8835,.int .i32 9021] 45)).alloc (arrO h p)).alloc QbN) h p:=by
 have h1:=heap_alloc_new ((w.alloc (.cells #[.int .i64 1,.int .i32 8835,.int .i32 9021] 45)).alloc (arrO h p)) QbN
 rw [show ((w.alloc (.cells #[.int .i64 1,.int .i32 8835,.int .i32 9021] 45)).alloc (arrO h p)).heap.size=w.heap.size+2 by simp] at h1
 have h2:=QaV (w.alloc (.cells #[.int .i64 1,.int .i32 8835,.int .i32 9021] 45)) h p
 rw [show (w.alloc (.cells #[.int .i64 1,.int .i32 8835,.int .i32 9021] 45)).heap.size=w.heap.size+1 by simp] at h2
 exact ⟨((QtD w [.int .i64 1,.int .i32 8835,.int .i32 9021] 45).step (bel1 _ _)).step (bel1 _ _),h2.below (bel1 _ _),h1⟩
def AtRm (H:Nat->Prop) (w:World) (a:PA) (e:Ending) (w':World):Prop:=∃ h p,e= .returned (.tuple #[arrV h p,.bool true])/\AV H w' a h p/\Below w.heap.size w w'
theorem QnV {Ha:Nat->Prop}{h:Sl}{p:V8} (w:World) (g:AV Ha w a567 h p) (hHa:∀ b,Ha b->b < w.heap.size) :
  Calls Tryz.prog 53 #[.agg #[.int .i64 1,.int .i32 8835,.int .i32 9021],arrV h p,.int .i64 1,.int .i64 9] w (AtRm Ha w a7):=by
 have HS0:=hD (Ch1.new w h p)
 have HL:Hid (∀ W,Below w.heap.size w W->Calls Tryz.prog 23 #[p.v] W fun e w'=>e= .returned (.int .i64 3)/\Below W.heap.size W w'):=fun W hb=>Qbj g W hb
 have g2:AV (fun b=>Ha b\/b=w.heap.size+2) w a567 h p:=AV.sub (fun b hb e=>by rcases e with e | e;exact e;omega) g
 have HP:=hD (fun W (hb:Below w.heap.size w W) (hz:w.heap.size+2 < W.heap.size)=>Qnm W (AV.step g2 hb) (fun b e=>by rcases e with e | e;have:=hHa b e;have:=hb.size;omega;omega) 2 (by decide) (by decide))
 rw [part567] at HP
 have hv:(h.2.1:Int)=1:=by have e:h.2.1=1:=g.shape.len;omega
 clear g g2 hHa
 unfold AtRm
 unfold AaR at HP
 go_enter Tryz.func53,Tryz.ntmps53
 obtain ⟨h0,h1,h2,h3,h4,h5,h6,h7,h8⟩:=HS0.out.arr.c
 obtain ⟨c0,c1,c2⟩:_/\_/\_:=⟨HS0.out.ph.1 0,HS0.out.ph.1 1,HS0.out.ph.1 2⟩
 go_wp2_with fail
 refine (HL.out _ HS0.out.bel).mono ?_
 rintro e w2 ⟨rfl,hb⟩
 have HS2:=hD (HS0.out.step hb)
 clear hb h0 h1 h2 h3 h4 h5 h6 h7 h8 c0 c1 c2 HS0
 obtain ⟨h0,h1,h2,h3,h4,h5,h6,h7,h8⟩:=HS2.out.arr.c
 obtain ⟨c0,c1,c2⟩:_/\_/\_:=⟨HS2.out.ph.1 0,HS2.out.ph.1 1,HS2.out.ph.1 2⟩
 go_wp2_with fail
 refine (HP.out _ HS2.out.bel (lt_blk HS2.out.res)).mono ?_
 rintro e w3 ⟨h',p',rfl,hav,hb⟩
 have HS3:=hD (HS2.out.step hb)
 have HAV:Hid (AV Ha (set9 w3 (w.heap.size+2) (sv h') (.int .i64 p'.k) (sv p'.b) (.int .i64 p'.bn) (sv p'.s) (sv p'.i) (sv p'.f) (sv p'.c) (sv p'.x)) a7 h' p'):=AV.sub (fun b _ e => .inl e) (AV.lat (Lat.set9 (G:=w.heap.size+2) (.inr rfl) _ _ _ _ _ _ _ _ _) hav)
 clear hav hb h0 h1 h2 h3 h4 h5 h6 h7 h8 c0 c1 c2 HS2
 obtain ⟨⟨y0,y1,y2,y3,y4,y5,y6,y7,y8⟩,yz⟩:=Qam HS3.out.res
 go_wp2
 refine bodyPost_ret (v := .tuple #[arrV h' p',.bool true]) ?_ rfl ⟨h',p',rfl,HAV.out,Qal HS3.out.bel (by omega) _ _ _ _ _ _ _ _ _⟩
 exact QaQ (fn:=Tryz.f53) (p:=8) (u:=9) rfl _ _ (w.heap.size+2) (by rfl) (Qat HS3.out.res _ _ _ _ _ _ _ _ _)
theorem Qjg {Ha:Nat->Prop}{h:Sl}{p:V8} (w:World) (g:AV Ha w a567 h p) (hHa:∀ b,Ha b->b < w.heap.size) :
  Calls Tryz.prog 18 #[.agg #[.int .i64 1,.int .i32 8835,.int .i32 9021],arrV h p,.int .i64 1,.int .i64 9] w (AtRm Ha w a7):=by
 have HS0:=hD (Ch1.new w h p)
 have g2:AV (fun b=>Ha b\/b=w.heap.size+2) w a567 h p:=AV.sub (fun b hb e=>by rcases e with e | e;exact e;omega) g
 have HCH:=hD (fun W (hb:Below w.heap.size w W) (hz:w.heap.size+2 < W.heap.size)=>QnV W (AV.step g2 hb) (fun b e=>by rcases e with e | e;have:=hHa b e;have:=hb.size;omega;omega))
 clear g g2 hHa
 unfold AtRm at HCH ⊢
 go_enter Tryz.func18,Tryz.ntmps18
 obtain ⟨h0,h1,h2,h3,h4,h5,h6,h7,h8⟩:=HS0.out.arr.c
 obtain ⟨c0,c1,c2⟩:_/\_/\_:=⟨HS0.out.ph.1 0,HS0.out.ph.1 1,HS0.out.ph.1 2⟩
 go_wp2_with fail
 refine (HCH.out _ HS0.out.bel (lt_blk HS0.out.res)).mono ?_
 rintro e w2 ⟨h2,p2,rfl,hav,hb⟩
 have HS2:=hD ((HS0.out.step hb).step (bel1 w2 (arrO h2 p2)))
 have HAV:=hD (AV.step hav (bel1 w2 (arrO h2 p2)))
 have HBX:=hD (QaV w2 h2 p2)
 have HLT:Hid (w.heap.size+2 < w2.heap.size):=lt_blk (HS0.out.step hb).res
 have HL:Hid (∀ W,Below w2.heap.size w2 W->Calls Tryz.prog 23 #[p2.v] W fun e w'=>e= .returned (.int .i64 1)/\Below W.heap.size W w'):=fun W hb=>Qbj hav W hb
 clear hav hb h0 h1 h3 h4 h5 h6 h7 h8 c0 c1 c2 HS0 HCH
 obtain ⟨q0,q1,q2,q3,q4,q5,q6,q7,q8⟩:=HBX.out.c
 go_wp2_with fail
 refine (HL.out _ (bel1 w2 _)).mono ?_
 rintro e w3 ⟨rfl,hb⟩
 have HS3:=hD (HS2.out.step hb)
 have HBX3:=hD (HBX.out.below hb)
 have HAV3:=hD (AV.step HAV.out hb)
 clear hb q0 q1 q2 q3 q4 q5 q6 q7 q8 HBX HS2 HAV
 obtain ⟨q0,q1,q2,q3,q4,q5,q6,q7,q8⟩:=HBX3.out.c
 obtain ⟨⟨y0,y1,y2,y3,y4,y5,y6,y7,y8⟩,yz⟩:=Qam HS3.out.res
 have HAV:Hid (AV Ha (set9 w3 (w.heap.size+2) (sv h2) (.int .i64 p2.k) (sv p2.b) (.int .i64 p2.bn) (sv p2.s) (sv p2.i) (sv p2.f) (sv p2.c) (sv p2.x)) a7 h2 p2):=AV.sub (fun b _ e => .inl e) (AV.lat (Lat.set9 (G:=w.heap.size+2) (.inr rfl) _ _ _ _ _ _ _ _ _) HAV3.out)
 go_wp2
 refine bodyPost_ret (v := .tuple #[arrV h2 p2,.bool true]) ?_ rfl ⟨h2,p2,rfl,HAV.out,Qal HS3.out.bel (by omega) _ _ _ _ _ _ _ _ _⟩
 exact QaQ (fn:=Tryz.f18) (p:=8) (u:=9) rfl _ _ (w.heap.size+2) (by rfl) (Qat HS3.out.res _ _ _ _ _ _ _ _ _)
theorem QfF (w:World):Calls Tryz.prog 7 #[] w fun e w'=>e= .returned (.bool true)/\Below w.heap.size w w':=by
 have HN1:=hD (Qm1 _ _ noH (w.alloc (.cells #[.float .f64 4617315517961601024,.float .f64 4618441417868443648,.float .f64 4619567317775286272] 60)) (Qfr _) (Qsi (heap_alloc_new w (.cells #[.float .f64 4617315517961601024,.float .f64 4618441417868443648,.float .f64 4619567317775286272] 60))) (by simp))
 have HB0:=hD (bel1 w (.cells #[.float .f64 4617315517961601024,.float .f64 4618441417868443648,.float .f64 4619567317775286272] 60))
 unfold PlR at HN1
 go_enter Tryz.func7,Tryz.ntmps7
 go_wp2_with fail
 refine HN1.out.mono ?_
 rintro e w1 ⟨h1,x1,rfl,hp1,hb⟩
 have HB1:=hD (Qaa HB0.out hb)
 have HP1:=hD hp1
 clear hb hp1 HN1 HB0
 go_wp2_with fail
 refine (Qk6 QtF all567 (by decide) h1 x1 0 _ HP1.out).mono ?_
 rintro e w2 ⟨h2,p2,rfl,ha2,hb⟩
 have HB2:=hD (Qaa HB1.out hb)
 have HDC:=hD (Qjg w2 ha2 (Qfr w2))
 unfold AtRm at HDC
 clear hb ha2 HB1 HP1
 go_wp2_with fail
 refine HDC.out.mono ?_
 rintro e w3 ⟨h3,p3,rfl,hav3,hb⟩
 have HB3:=hD (Qaa (Qaa HB2.out hb) (bel1 w3 (arrO h3 p3)))
 have HA3:=hD (AV.step hav3 (bel1 w3 (arrO h3 p3)))
 have HV3:=hD (QaV w3 h3 p3)
 obtain ⟨V,hV⟩:∃ V,V=w3.heap.size:=⟨_,rfl⟩
 obtain ⟨wa,hwa⟩:∃ wa,wa=w3.alloc (arrO h3 p3):=⟨_,rfl⟩
 have HWA:=hD hwa
 have HVV:=hD hV
 rw [<- hwa] at HB3 HV3 HA3
 rw [<- hV] at HV3
 clear hV hwa hb hav3 HDC HB2
 go_upto_region 2 with fail
 rw [<- HWA.out,<- HVV.out]
 have HS0:=hD (LdA.new HV3.out)
 have HNU:=hD (fun W=>QpD 4619567317775286272 noH W (Qfr W))
 have HSH:=hD (fun W (hW:LdA wa V h3 p3 W) (h4 x4:Sl) (hp:PV noH W (rawP a7) h4 x4 0)=>Qgr (Qfr W) good7 (sm_1 _ _) (AV.step HA3.out hW.bel) hp)
 have HCO:Hid (∀ W,Calls Tryz.prog 22 #[.int .i32 43] W fun e w'=>e= .returned (.int .i64 1)/\Below W.heap.size W w'):=fun W=>QfE 43 W
 unfold PlR at HNU
 clear HA3 HV3
 have hs0:=HS0.out.dr
 have hs00:=HS0.out
 go_region_held3 (fun W=>(W.cell? ⟨V,0,none⟩=some (.slice h3.1 h3.2.1 h3.2.2)/\W.cell? ⟨V,1,none⟩=some (.int .i64 p3.k)/\W.cell? ⟨V,2,none⟩=some (.slice p3.b.1 p3.b.2.1 p3.b.2.2)/\W.cell? ⟨V,3,none⟩=some (.int .i64 p3.bn)/\W.cell? ⟨V,4,none⟩=some (.slice p3.s.1 p3.s.2.1 p3.s.2.2)/\W.cell? ⟨V,5,none⟩=some (.slice p3.i.1 p3.i.2.1 p3.i.2.2)/\W.cell? ⟨V,6,none⟩=some (.slice p3.f.1 p3.f.2.1 p3.f.2.2)/\W.cell? ⟨V,7,none⟩=some (.slice p3.c.1 p3.c.2.1 p3.c.2.2)/\W.cell? ⟨V,8,none⟩=some (.slice p3.x.1 p3.x.2.1 p3.x.2.2))/\LdA wa V h3 p3 W)
  (first | with_reducible assumption | (with_reducible (refine QpC ?_);repeat (first | with_reducible assumption | with_reducible refine LdA.dr ?_)))
  (first
   | (go_at_call 21;(with_reducible refine (HNU.out _).mono ?_);rintro e w4 ⟨h4,x4,rfl,hp4,hb4⟩;have hst4:LdA wa V h3 p3 w4:=LdA.step (by repeat (first | with_reducible assumption | with_reducible refine LdA.dr ?_)) hb4;have HSC:=hD (HSH.out w4 hst4 h4 x4 hp4);clear hb4 hp4)
   | (go_at_call 20;(with_reducible refine HSC.out.mono ?_);rintro e w5 ⟨rfl,hb5⟩;have hst5:LdA wa V h3 p3 w5:=LdA.step hst4 hb5;clear hb5)
   | (go_at_call 22;(with_reducible refine (HCO.out _).mono ?_);rintro e w6 ⟨rfl,hb6⟩;have hst6:LdA wa V h3 p3 w6:=LdA.step (by repeat (first | with_reducible assumption | with_reducible refine LdA.dr ?_)) hb6;clear hb6))
 all_goals
  go_wp2
  go_ret
  exact ⟨rfl,Qaa HB3.out hst6.bel⟩
def OaR (H:Nat->Prop) (w:World) (r:Option PA) (e:Ending) (w':World):Prop :=
 match r with
 | some a=>∃ h p,e= .returned (.tuple #[arrV h p,.bool true])/\AV H w' a h p/\Below w.heap.size w w'
 | none=>e= .returned (.tuple #[arrV nilS zeroP,.bool false])/\Below w.heap.size w w'
theorem Qie {H:Nat->Prop}{w w':World} (hb:Below w.heap.size w w'):OaR H w none (.returned (.tuple #[arrV nilS zeroP,.bool false])) w':=⟨rfl,hb⟩
theorem QfG {H:Nat->Prop}{w w':World}{a:PA}{h:Sl}{p:V8} (g:AV H w' a h p) (hb:Below w.heap.size w w'):OaR H w (some a) (.returned (.tuple #[arrV h p,.bool true])) w':=⟨h,p,rfl,g,hb⟩
end Go.Proofs.YtdelgpelkfndeaaGreatDoor
