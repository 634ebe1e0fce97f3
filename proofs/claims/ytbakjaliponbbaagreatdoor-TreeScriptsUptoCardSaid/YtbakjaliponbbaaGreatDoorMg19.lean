/- The writer at indexes, and where a part of a name gets something. Printed by .. Conditions: as each theorem says. -/
import Derived.Test.YtbakjaliponbbaaGreatDoorMg18
import Derived.Test.YtbakjaliponbbaaGreatDoorMg13
set_option maxRecDepth 100000
set_option maxHeartbeats 1600000
namespace Go.Proofs.YtbakjaliponbbaaGreatDoor
open Go Go.RowKit Go.Proofs Fl
theorem node_8 (w0:World) (nums:List Nat) (text:List Int) (name:ByteArray) (c:Int) (t0:RTree) (s0:List Int) (H0:Hid (NodeP 38 w0 t0 s0)) (ts:List RTree) (tx:RTree->List Int) (hp:0 < ts.length) (hts:ts.length<=1048576) (HT:∀ i (hi:i < ts.length),NodeP 38 w0 ts[i] (tx ts[i])) :
  NodeP 38 w0 (.mk 8 nums text name c (t0::ts)) (joinP (wrapT (bareB (kindR t0)) s0) (brkT tx ts)):=by
 intro v0 v1 v2 v3 v4 v5 v6 w g v l ht hb hw hl
 obtain ⟨at1,A1,n1,c1,A2,n2,c2,A,m,cc,rfl,rfl,rfl,rfl,rfl,rfl,rfl,hm,hcp,hk⟩:=ht.form
 obtain ⟨b,o,u0,u1,u2,u3,u4,u5,u6,rfl,hr0,hc0⟩:=hk.kid0
 have hkt:=hk.tail
 obtain ⟨ua,B1,m1,d1,B2,m2,d2,B3,m3,d3,rfl,rfl,rfl,rfl,rfl,rfl,rfl,-,-⟩:=hr0.vals
 have hba:=bare_any w0 t0
 obtain ⟨pb,hpb⟩:∃ pb,pb=bareB (kindR t0):=⟨_,rfl⟩
 rw [<- hpb] at hl hba ⊢
 generalize kindR t0=uk at *
 generalize nameR t0=un at *
 generalize charR t0=uc at *
 have hm1:m=ts.length+1:=by simpa using hm
 have hp0:1 < m:=by omega
 have hp1:0 < m:=by omega
 have hpi:(0:Int) < (m:Int):=by omega
 have hpj:(1:Int)<=(m:Int):=by omega
 have hpk:(m:Int)<=(cc:Int):=by omega
 have hcne:¬ cc=1:=by omega
 have HD0:=Lib.hid (d9_start hb hw [.int .i64 8,.int .i64 at1,.slice A1 n1 c1,.slice A2 n2 c2,.string name,.int .i32 c,.slice (some ⟨b,o,none⟩) m cc] 31)
 have j0:=joinP_len2 l (wrapT pb s0)
 have e0:=(joinP_len2 (wrapT pb s0) (brkT tx ts)).1
 have HL0:l.length+2*(wrapT pb s0).length<=1099511627000:=by omega
 have HL1:(joinP l (wrapT pb s0)).length+2*(brkT tx ts).length<=1099511627000:=by omega
 have HK0:=Lib.hid hc0
 have HPD:Hid (∀ W,D9 w0 g v l w w.heap.size [.int .i64 8,.int .i64 at1,.slice A1 n1 c1,.slice A2 n2 c2,.string name,.int .i32 c,.slice (some ⟨b,o,none⟩) m cc] W->Calls Tryz.prog 77 #[.agg #[.int .i64 uk,.int .i64 ua,.slice B1 m1 d1,.slice B2 m2 d2,.string un,.int .i32 uc,.slice B3 m3 d3]] W fun e w'=>e= .returned (.bool pb)/\Below W.heap.size W w'):=fun W h=>hba _ _ _ _ _ _ _ W hr0 h.bel
 have HIN:Hid (∀ W,D9 w0 g v l w w.heap.size [.int .i64 8,.int .i64 at1,.slice A1 n1 c1,.slice A2 n2 c2,.string name,.int .i32 c,.slice (some ⟨b,o,none⟩) m cc] W->Calls Tryz.prog 76 #[.pointer (some ⟨g,0,none⟩),.agg #[.int .i64 uk,.int .i64 ua,.slice B1 m1 d1,.slice B2 m2 d2,.string un,.int .i32 uc,.slice B3 m3 d3],.bool pb] W fun e w'=>e= .returned (.tuple #[])/\D9 w0 g v (joinP l (wrapT pb s0)) w w.heap.size [.int .i64 8,.int .i64 at1,.slice A1 n1 c1,.slice A2 n2 c2,.string name,.int .i32 c,.slice (some ⟨b,o,none⟩) m cc] w'):=fun W h=>d9_inside pb H0 hr0 h HL0
 have HBK:Hid (∀ W,D9 w0 g v (joinP l (wrapT pb s0)) w w.heap.size [.int .i64 8,.int .i64 at1,.slice A1 n1 c1,.slice A2 n2 c2,.string name,.int .i32 c,.slice (some ⟨b,o,none⟩) m cc] W->Calls Tryz.prog 78 #[.pointer (some ⟨g,0,none⟩),.slice (some ⟨b,o+7,none⟩) (m - 1) (cc - 1)] W fun e w'=>e= .returned (.tuple #[])/\D9 w0 g v (joinP (joinP l (wrapT pb s0)) (brkT tx ts)) w w.heap.size [.int .i64 8,.int .i64 at1,.slice A1 n1 c1,.slice A2 n2 c2,.string name,.int .i32 c,.slice (some ⟨b,o,none⟩) m cc] w'):=fun W h=>d9_bracket (by omega) (by omega) hkt HT h HL1
 have HSA:Hid (∀ cu W1,D9 w0 g v cu w w.heap.size [.int .i64 8,.int .i64 at1,.slice A1 n1 c1,.slice A2 n2 c2,.string name,.int .i32 c,.slice (some ⟨b,o,none⟩) m cc] W1->W1.cell? ⟨w.heap.size,6,none⟩=some (.slice (some ⟨b,o,none⟩) m cc)/\W1.cell? ⟨b,o,none⟩=some (.int .i64 uk)/\W1.cell? ⟨b,o+1,none⟩=some (.int .i64 ua)/\W1.cell? ⟨b,o+2,none⟩=some (.slice B1 m1 d1)/\W1.cell? ⟨b,o+3,none⟩=some (.slice B2 m2 d2)/\W1.cell? ⟨b,o+4,none⟩=some (.string un)/\W1.cell? ⟨b,o+5,none⟩=some (.int .i32 uc)/\W1.cell? ⟨b,o+6,none⟩=some (.slice B3 m3 d3)):=fun cu W1 h=>⟨h.c7.2.2.2.2.2.2,(kidC_of HK0.out h.bel).1,(kidC_of HK0.out h.bel).2.1,(kidC_of HK0.out h.bel).2.2.1,(kidC_of HK0.out h.bel).2.2.2.1,(kidC_of HK0.out h.bel).2.2.2.2.1,(kidC_of HK0.out h.bel).2.2.2.2.2.1,(kidC_of HK0.out h.bel).2.2.2.2.2.2⟩
 clear ht hb hw hl hk hm hm1 hr0 hc0 hkt hba HK0 HL0 HL1 j0 e0 hp H0 HT hts
 by_cases h1:uk=1
 ·subst h1
  obtain rfl:pb=false:=by rw [hpb];rfl
  clear hpb
  go_enter Tryz.func38,Tryz.ntmps38
  go_wp2_with fail
  generalize w.alloc (.cells #[.int .i64 8,.int .i64 at1,.slice A1 n1 c1,.slice A2 n2 c2,.string name,.int .i32 c,.slice (some ⟨b,o,none⟩) m cc] 31)=w00 at *
  have hd0:=HD0.out.bstep (Below.refl _ _).drew
  have hs1:=HSA.out _ _ hd0
  clear HD0
  refine wp_region_noPanic ?_
  refine wp_region_held_drew (S:=fun W1=>W1.cell? ⟨w.heap.size,6,none⟩=some (.slice (some ⟨b,o,none⟩) m cc)/\W1.cell? ⟨b,o,none⟩=some (.int .i64 1)/\W1.cell? ⟨b,o+1,none⟩=some (.int .i64 ua)/\W1.cell? ⟨b,o+2,none⟩=some (.slice B1 m1 d1)/\W1.cell? ⟨b,o+3,none⟩=some (.slice B2 m2 d2)/\W1.cell? ⟨b,o+4,none⟩=some (.string un)/\W1.cell? ⟨b,o+5,none⟩=some (.int .i32 uc)/\W1.cell? ⟨b,o+6,none⟩=some (.slice B3 m3 d3)) (by kernel_rfl) (by exact hs1) (fun hHeld=>?_)
  refine wpAnyH_take (i:=0) (v:=?av1) rfl (by kernel_rfl) (by kernel_rfl) (by kernel_rfl) (fun _ _ _ h=>h) (Or.inl ⟨by rfl,?ay1⟩) (by assumption) ?as1
  case ay1=>(intro w hSw;(try dsimp only at hSw);go_simp;try with_reducible rfl)
  refine wpAnyH_take (i:=1) (v:=?av2) rfl (by kernel_rfl) (by kernel_rfl) (by kernel_rfl) (fun _ _ _ h=>h) (Or.inl ⟨by rfl,?ay2⟩) (by assumption) ?as2
  case ay2=>(intro w hSw;(try dsimp only at hSw);go_simp;try with_reducible rfl)
  refine wpAnyH_take (i:=2) (v:=?av3) rfl (by kernel_rfl) (by kernel_rfl) (by kernel_rfl) (fun _ _ _ h=>h) (Or.inl ⟨by rfl,?ay3⟩) (by assumption) ?as3
  case ay3=>(intro w hSw;(try dsimp only at hSw);go_simp;try with_reducible rfl)
  refine wpAnyH_take (i:=3) (v:=?av4) rfl (by kernel_rfl) (by kernel_rfl) (by kernel_rfl) (fun _ _ _ h=>h) (Or.inl ⟨by rfl,?ay4⟩) (by assumption) ?as4
  case ay4=>(intro w hSw;(try dsimp only at hSw);go_simp;try with_reducible rfl)
  refine wpAnyH_take (i:=4) (v:=?av5) rfl (by kernel_rfl) (by kernel_rfl) (by kernel_rfl) (fun _ _ _ h=>h) (Or.inl ⟨by rfl,?ay5⟩) (by assumption) ?as5
  case ay5=>(intro w hSw;(try dsimp only at hSw);go_simp;try with_reducible rfl)
  refine wpAnyH_take (i:=5) (v:=?av6) rfl (by kernel_rfl) (by kernel_rfl) (by kernel_rfl) (fun _ _ _ h=>h) (Or.inl ⟨by rfl,?ay6⟩) (by assumption) ?as6
  case ay6=>(intro w hSw;(try dsimp only at hSw);go_simp;try with_reducible rfl)
  refine wpAnyH_take (i:=6) (v:=?av7) rfl (by kernel_rfl) (by kernel_rfl) (by kernel_rfl) (fun _ _ _ h=>h) (Or.inl ⟨by rfl,?ay7⟩) (by assumption) ?as7
  case ay7=>(intro w hSw;(try dsimp only at hSw);go_simp;try with_reducible rfl)
  refine wpAnyH_take (i:=7) (v:=?av8) rfl (by kernel_rfl) (by kernel_rfl) (by kernel_rfl) (fun _ _ _ h=>h) (Or.inl ⟨by rfl,?ay8⟩) (by assumption) ?as8
  case ay8=>(intro w hSw;(try dsimp only at hSw);go_simp;try with_reducible rfl)
  refine wpAnyH_take (i:=8) (v:=?av9) rfl (by kernel_rfl) (by kernel_rfl) (by kernel_rfl) (fun _ _ _ h=>h) (Or.inl ⟨by rfl,?ay9⟩) (by assumption) ?as9
  case ay9=>(intro w hSw;(try dsimp only at hSw);go_simp;try with_reducible rfl)
  refine wpAnyH_take (i:=9) (v:=?av10) rfl (by kernel_rfl) (by kernel_rfl) (by kernel_rfl) (fun _ _ _ h=>h) (Or.inl ⟨by rfl,?ay10⟩) (by assumption) ?as10
  case ay10=>(intro w hSw;(try dsimp only at hSw);go_simp;try with_reducible rfl)
  refine wpAnyH_take (i:=10) (v:=?av11) rfl (by kernel_rfl) (by kernel_rfl) (by kernel_rfl) (fun _ _ _ h=>h) (Or.inl ⟨by rfl,?ay11⟩) (by assumption) ?as11
  case ay11=>(intro w hSw;(try dsimp only at hSw);go_simp;try with_reducible rfl)
  refine wpAnyH_take (i:=11) (v:=?av12) rfl (by kernel_rfl) (by kernel_rfl) (by kernel_rfl) (fun _ _ _ h=>h) (Or.inl ⟨by rfl,?ay12⟩) (by assumption) ?as12
  case ay12=>(intro w hSw;(try dsimp only at hSw);go_simp;try with_reducible rfl)
  refine wpAnyH_take (i:=12) (v:=undef) rfl (by kernel_rfl) (by kernel_rfl) (by kernel_rfl) (fun _ _ _ h=>h) (Or.inr ⟨by (go_simp <;> (intro h;cases h)),rfl⟩) (by assumption) ?_
  refine wpAnyH_take (i:=13) (v:=undef) rfl (by kernel_rfl) (by kernel_rfl) (by kernel_rfl) (fun _ _ _ h=>h) (Or.inr ⟨by (go_simp <;> (intro h;cases h)),rfl⟩) (by assumption) ?_
  refine wpAnyH_take (i:=14) (v:=undef) rfl (by kernel_rfl) (by kernel_rfl) (by kernel_rfl) (fun _ _ _ h=>h) (Or.inr ⟨by (go_simp <;> (intro h;cases h)),rfl⟩) (by assumption) ?_
  refine wpAnyH_take (i:=15) (v:=undef) rfl (by kernel_rfl) (by kernel_rfl) (by kernel_rfl) (fun _ _ _ h=>h) (Or.inr ⟨by (go_simp <;> (intro h;cases h)),rfl⟩) (by assumption) ?_
  refine wpAnyH_take (i:=16) (v:=undef) rfl (by kernel_rfl) (by kernel_rfl) (by kernel_rfl) (fun _ _ _ h=>h) (Or.inr ⟨by (go_simp <;> (intro h;cases h)),rfl⟩) (by assumption) ?_
  refine wpAnyH_take (i:=17) (v:=?av18) rfl (by kernel_rfl) (by kernel_rfl) (by kernel_rfl) (fun _ _ _ h=>h) (Or.inl ⟨by rfl,?ay18⟩) (by assumption) ?as18
  case ay18=>(intro w hSw;(try dsimp only at hSw);go_simp;try with_reducible rfl)
  refine wpAnyH_ready (rs:=[18]) (by kernel_rfl) (by simp) ?_
  refine AllReadyH.cons rfl (fun K hK=>?_) AllReadyH.nil
  go_simp
  (go_at_call 76;(with_reducible refine (HIN.out _ hd0).mono ?_);rintro e w53 ⟨rfl,hd⟩;have hs3:=HSA.out _ _ hd;dsimp only)
  refine hK.out _ _ (by first | assumption | exact hs1) (fun hHeld=>?_)
  clear hK K
  refine wpAnyH_done (by kernel_rfl) ?_ _
  refine NoPanic.normal ?_
  have HD1:=Lib.hid hd
  clear hd hs1 hs3 hd0
  obtain ⟨x0,x1,x2,x3,x4,x5,x6⟩:=HD1.out.c7
  go_wp2_with fail
  (with_reducible refine (HBK.out _ HD1.out).mono ?_)
  rintro e w54 ⟨rfl,hd⟩
  have HF:Hid (Stepped w0 w g v (joinP l (joinP (wrapT false s0) (brkT tx ts))) w54):=by
   have h:=hd.stepped
   rw [joinP_assoc] at h
   exact h
  clear hd x0 x1 x2 x3 x4 x5 x6
  go_wp2
  go_end0
  exact ⟨rfl,HF.out⟩
 ·have h1b:(uk==1)=false:=by simpa using h1
  have h1c:(uk != 1)=true:=by simpa using h1
  clear hpb
  cases pb
  ·go_enter Tryz.func38,Tryz.ntmps38
   go_wp2_with fail
   generalize w.alloc (.cells #[.int .i64 8,.int .i64 at1,.slice A1 n1 c1,.slice A2 n2 c2,.string name,.int .i32 c,.slice (some ⟨b,o,none⟩) m cc] 31)=w00 at *
   have hd0:=HD0.out.bstep (Below.refl _ _).drew
   have hs1:=HSA.out _ _ hd0
   clear HD0
   go_region_held3 (fun W1=>W1.cell? ⟨w.heap.size,6,none⟩=some (.slice (some ⟨b,o,none⟩) m cc)/\W1.cell? ⟨b,o,none⟩=some (.int .i64 uk)/\W1.cell? ⟨b,o+1,none⟩=some (.int .i64 ua)/\W1.cell? ⟨b,o+2,none⟩=some (.slice B1 m1 d1)/\W1.cell? ⟨b,o+3,none⟩=some (.slice B2 m2 d2)/\W1.cell? ⟨b,o+4,none⟩=some (.string un)/\W1.cell? ⟨b,o+5,none⟩=some (.int .i32 uc)/\W1.cell? ⟨b,o+6,none⟩=some (.slice B3 m3 d3))
    (first | assumption | exact hs1)
    (first
     | (go_at_call 77;(with_reducible refine (HPD.out _ hd0).mono ?_);rintro e w52 ⟨rfl,hb2⟩;have h92:=hd0.bstep hb2;have hs2:=HSA.out _ _ h92;dsimp only)
     | (go_at_call 76;(with_reducible refine (HIN.out _ h92).mono ?_);rintro e w53 ⟨rfl,hd⟩;have hs3:=HSA.out _ _ hd;dsimp only))
   all_goals
    have HD1:=Lib.hid hd
    clear hd hs1 hs3 hd0 hs2 h92
    obtain ⟨x0,x1,x2,x3,x4,x5,x6⟩:=HD1.out.c7
    go_wp2_with fail
    (with_reducible refine (HBK.out _ HD1.out).mono ?_)
    rintro e w54 ⟨rfl,hd⟩
    have HF:Hid (Stepped w0 w g v (joinP l (joinP (wrapT false s0) (brkT tx ts))) w54):=by
     have h:=hd.stepped
     rw [joinP_assoc] at h
     exact h
    clear hd x0 x1 x2 x3 x4 x5 x6
    go_wp2
    go_end0
    exact ⟨rfl,HF.out⟩
  ·go_enter Tryz.func38,Tryz.ntmps38
   go_wp2_with fail
   generalize w.alloc (.cells #[.int .i64 8,.int .i64 at1,.slice A1 n1 c1,.slice A2 n2 c2,.string name,.int .i32 c,.slice (some ⟨b,o,none⟩) m cc] 31)=w00 at *
   have hd0:=HD0.out.bstep (Below.refl _ _).drew
   have hs1:=HSA.out _ _ hd0
   clear HD0
   go_region_held3 (fun W1=>W1.cell? ⟨w.heap.size,6,none⟩=some (.slice (some ⟨b,o,none⟩) m cc)/\W1.cell? ⟨b,o,none⟩=some (.int .i64 uk)/\W1.cell? ⟨b,o+1,none⟩=some (.int .i64 ua)/\W1.cell? ⟨b,o+2,none⟩=some (.slice B1 m1 d1)/\W1.cell? ⟨b,o+3,none⟩=some (.slice B2 m2 d2)/\W1.cell? ⟨b,o+4,none⟩=some (.string un)/\W1.cell? ⟨b,o+5,none⟩=some (.int .i32 uc)/\W1.cell? ⟨b,o+6,none⟩=some (.slice B3 m3 d3))
    (first | assumption | exact hs1)
    (first
     | (go_at_call 77;(with_reducible refine (HPD.out _ hd0).mono ?_);rintro e w52 ⟨rfl,hb2⟩;have h92:=hd0.bstep hb2;have hs2:=HSA.out _ _ h92;dsimp only)
     | (go_at_call 76;(with_reducible refine (HIN.out _ h92).mono ?_);rintro e w53 ⟨rfl,hd⟩;have hs3:=HSA.out _ _ hd;dsimp only))
   all_goals
    have HD1:=Lib.hid hd
    clear hd hs1 hs3 hd0 hs2 h92
    obtain ⟨x0,x1,x2,x3,x4,x5,x6⟩:=HD1.out.c7
    go_wp2_with fail
    (with_reducible refine (HBK.out _ HD1.out).mono ?_)
    rintro e w54 ⟨rfl,hd⟩
    have HF:Hid (Stepped w0 w g v (joinP l (joinP (wrapT true s0) (brkT tx ts))) w54):=by
     have h:=hd.stepped
     rw [joinP_assoc] at h
     exact h
    clear hd x0 x1 x2 x3 x4 x5 x6
    go_wp2
    go_end0
    exact ⟨rfl,HF.out⟩
theorem more_12 (w0:World) (nums:List Nat) (text:List Int) (name:ByteArray) (c:Int) (t0:RTree) (s0:List Int) (hz:name.size<=70368744177664) (hne:runesOf name≠[]) (H0:Hid (NodeP 38 w0 t0 s0)) (ts:List RTree) (tx:RTree->List Int) (hp:0 < ts.length) (hts:ts.length<=1048576) (HT:∀ i (hi:i < ts.length),NodeP 38 w0 ts[i] (tx ts[i])) :
  NodeP 80 w0 (.mk 12 nums text name c (ts++[t0])) (joinP (runesOf name) (joinP (brkT tx ts) (joinP [8592] s0))):=by
 intro v0 v1 v2 v3 v4 v5 v6 w g v l ht hb hw hl
 obtain ⟨at1,A1,n1,c1,A2,n2,c2,A,m,cc,rfl,rfl,rfl,rfl,rfl,rfl,rfl,hm,hcp,hk⟩:=ht.form
 obtain ⟨j,rfl⟩:∃ j,m=j+1:=⟨ts.length,by simpa using hm⟩
 have hj:j=ts.length:=by simpa using hm
 have hj0:0 < j:=by omega
 have hj2:j<=1048576:=by omega
 have hjc:j<=cc:=by omega
 have hjj:(j:Int) < (j:Int)+1:=by omega
 obtain ⟨b,o,u0,u1,u2,u3,u4,u5,u6,rfl,hr0,hc0⟩:=hk.kid j (by simp;omega)
 have hkf:=hk.front
 have hg0:(ts++[t0])[j]'(by simp;omega)=t0:=by rw [List.getElem_append_right (by omega)];simp [hj]
 rw [hg0] at hr0
 have HR0:=Lib.hid hr0;have HK0:=Lib.hid hc0
 have hd0:=d9_start hb hw [.int .i64 12,.int .i64 at1,.slice A1 n1 c1,.slice A2 n2 c2,.string name,.int .i32 c,.slice (some ⟨b,o,none⟩) (j+1) cc] 31
 obtain ⟨W0,hW0⟩:∃ W0,W0=w.alloc (.cells #[.int .i64 12,.int .i64 at1,.slice A1 n1 c1,.slice A2 n2 c2,.string name,.int .i32 c,.slice (some ⟨b,o,none⟩) (j+1) cc] 31):=⟨_,rfl⟩
 have HW0:=Lib.hid hW0
 have HD0:Hid (D9 w0 g v l w w.heap.size [.int .i64 12,.int .i64 at1,.slice A1 n1 c1,.slice A2 n2 c2,.string name,.int .i32 c,.slice (some ⟨b,o,none⟩) (j+1) cc] W0):=by unfold Hid;rw [hW0];exact hd0
 obtain ⟨cv,w1,hcv,hrv,hbv,_⟩:=conv_str name W0 hz
 have HRV:=Lib.hid hrv
 have HBV:=Lib.hid hbv
 have HNE:=Lib.hid hne
 generalize runesOf name=nm at *
 have j0:=joinP_len2 l nm
 have j1:=joinP_len2 (joinP l nm) (brkT tx ts)
 have j2:=joinP_len2 (joinP (joinP l nm) (brkT tx ts)) [8592]
 have e0:=(joinP_len2 [8592] s0).1
 have e1:=(joinP_len2 (brkT tx ts) (joinP [8592] s0)).1
 have e2:=(joinP_len2 nm (joinP (brkT tx ts) (joinP [8592] s0))).1
 simp only [List.length_singleton] at j2 e0
 have HL0:Hid (l.length+nm.length<=1099511627000):=by unfold Hid;omega
 have HL1:(joinP l nm).length+2*(brkT tx ts).length<=1099511627000:=by omega
 have HL2:Hid ((joinP (joinP l nm) (brkT tx ts)).length+1<=1099511627000):=by unfold Hid;omega
 have HL3:Hid ((joinP (joinP (joinP l nm) (brkT tx ts)) [8592]).length+2*s0.length<=1099511627000):=by unfold Hid;omega
 have HBK:Hid (∀ W,D9 w0 g v (joinP l nm) w w.heap.size [.int .i64 12,.int .i64 at1,.slice A1 n1 c1,.slice A2 n2 c2,.string name,.int .i32 c,.slice (some ⟨b,o,none⟩) (j+1) cc] W->Calls Tryz.prog 78 #[.pointer (some ⟨g,0,none⟩),.slice (some ⟨b,o,none⟩) j cc] W fun e w'=>e= .returned (.tuple #[])/\D9 w0 g v (joinP (joinP l nm) (brkT tx ts)) w w.heap.size [.int .i64 12,.int .i64 at1,.slice A1 n1 c1,.slice A2 n2 c2,.string name,.int .i32 c,.slice (some ⟨b,o,none⟩) (j+1) cc] w'):=fun W h=>d9_bracket hj (by omega) hkf HT h HL1
 clear ht hb hw hl hd0 hW0 hrv hbv hne hz hm hk hr0 hc0 j0 j1 j2 e0 e1 e2 hkf hg0 HL1 HT hts hj hp
 obtain ⟨x0,x1,x2,x3,x4,x5,x6⟩:=HD0.out.c7
 go_enter Tryz.func80,Tryz.ntmps80
 go_upto_region 1 with fail
 rw [<- HW0.out]
 go_wp2_with fail
 (with_reducible refine (d9_putv HD0.out HBV.out (Nat.le_refl _) HRV.out HNE.out HL0.out).mono ?_)
 rintro e w2 ⟨rfl,hd⟩
 have HD1:=Lib.hid hd
 clear hd x0 x1 x2 x3 x4 x5 x6
 obtain ⟨x0,x1,x2,x3,x4,x5,x6⟩:=HD1.out.c7
 go_wp2_with fail
 (with_reducible refine (HBK.out _ HD1.out).mono ?_)
 rintro e w3 ⟨rfl,hd⟩
 have HD2:=Lib.hid hd
 clear hd x0 x1 x2 x3 x4 x5 x6
 go_wp2_with fail
 (with_reducible refine (d9_put 8592 w3.heap.size rfl HD2.out HL2.out).mono ?_)
 rintro e w4 ⟨rfl,hd⟩
 have HD3:=Lib.hid hd
 clear hd
 obtain ⟨x0,x1,x2,x3,x4,x5,x6⟩:=HD3.out.c7
 obtain ⟨y0,y1,y2,y3,y4,y5,y6⟩:=kidC_of HK0.out HD3.out.bel
 go_wp2_with fail
 (with_reducible refine (d9_node H0.out HR0.out HD3.out HL3.out).mono ?_)
 rintro e w5 ⟨rfl,hd⟩
 have HF:Hid (Stepped w0 w g v (joinP l (joinP nm (joinP (brkT tx ts) (joinP [8592] s0)))) w5):=by
  have h:=hd.stepped
  simp only [joinP_assoc] at h
  exact h
 clear hd x0 x1 x2 x3 x4 x5 x6 y0 y1 y2 y3 y4 y5 y6
 go_wp2
 go_end0
 exact ⟨rfl,HF.out⟩
end Go.Proofs.YtbakjaliponbbaaGreatDoor
