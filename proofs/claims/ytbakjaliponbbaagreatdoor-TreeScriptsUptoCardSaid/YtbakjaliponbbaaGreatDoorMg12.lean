/- The writer at names, at outer products. Printed by .. Conditions: as each theorem says. -/
import Derived.Test.YtbakjaliponbbaaGreatDoorMg11
import Derived.Test.YtbakjaliponbbaaGreatDoorMg01
set_option maxRecDepth 100000
set_option maxHeartbeats 1600000
namespace Go.Proofs.YtbakjaliponbbaaGreatDoor
open Go Go.RowKit Go.Proofs Fl
theorem d9_putv {w0 wa Wp W:World}{g:Nat}{v:Value}{l:List Int}{b1:Nat}{vs:List Value}{G n cc:Nat}{s:List Int} (h:D9 w0 g v l wa b1 vs Wp) (hb:Below Wp.heap.size Wp W) (hG:Wp.heap.size<=G) (hr:Runes W (.slice (some ⟨G,0,none⟩) n cc) s) (hs:s≠[]) (hl:l.length+s.length<=1099511627000) :
  Calls Tryz.prog 37 #[.pointer (some ⟨g,0,none⟩),.slice (some ⟨G,0,none⟩) n cc] W fun e w'=>e= .returned (.tuple #[])/\D9 w0 g v (joinP l s) wa b1 vs w':=by
 obtain ⟨v1,h1,h2,h3,h4⟩:=h
 obtain ⟨k1,k2⟩:=h2.below hb
 rcases hr with ⟨a,c,_,hnil⟩ | ⟨b',o',n',c',he,hn,hc⟩
 ·exact absurd hnil hs
 ·simp only [Value.slice.injEq,Option.some.injEq,Addr.mk.injEq,and_true] at he
  obtain ⟨⟨rfl,rfl⟩,rfl,rfl⟩:=he
  have hp:0 < s.length:=List.length_pos_iff.2 hs
  have hgl:g < G:=by have:=h2.lt;omega
  have hog:v1.ownBlock≠some G:=fun e=>by have:=(World.ownsRow.lt h2.own _ e).2;omega
  refine (put_walk _ g v1 _ 0 _ _ l s W hs k1 ⟨by show G≠g;omega,hog,cell_lt (hc 0 hp),hc⟩ hn hl).mono ?_
  rintro e w' ⟨he,v',hw',hg'⟩
  exact ⟨he,D9.add (h3.trans k2) (h4.grew k2) (Stepped.mk' (h1.trans (hb.mono h1.size)) k1 ⟨hw',hg'⟩)⟩
theorem d9_put2 {w0 wa W:World}{g:Nat}{v:Value}{l:List Int}{b1:Nat}{vs:List Value} (G:Nat) (hG:W.heap.size=G) (h:D9 w0 g v l wa b1 vs W) (hl:l.length+2<=1099511627000) :
  Calls Tryz.prog 37 #[.pointer (some ⟨g,0,none⟩),.slice (some ⟨G,0,none⟩) 2 2] (W.alloc (.cells #[.int .i32 8728,.int .i32 46] 21)) fun e w'=>e= .returned (.tuple #[])/\D9 w0 g v (joinP l [8728,46]) wa b1 vs w':=by
 subst hG
 exact d9_putv h (bel1 W _) (Nat.le_refl _) (runes_lit W [8728,46]) (by simp) hl
theorem more_18 (w0:World) (nums:List Nat) (text:List Int) (name:ByteArray) (c:Int) (t0:RTree) (s0:List Int) (H0:Hid (NodeP 38 w0 t0 s0)) (pb:Bool) (HPB:Hid (TellsT 126 w0 t0 pb)) :
  NodeP 80 w0 (.mk 18 nums text name c [t0]) (joinP [8728,46] (wrapT pb s0)):=by
 cases pb with
 | false =>
  intro v0 v1 v2 v3 v4 v5 v6 w g v l ht hb hw hl
  obtain ⟨at1,A1,n1,c1,A2,n2,c2,A,m,cc,rfl,rfl,rfl,rfl,rfl,rfl,rfl,hm,-,hk⟩:=ht.form
  obtain ⟨b,o,u0,u1,u2,u3,u4,u5,u6,rfl,hr0,hc0⟩:=hk.kid0
  obtain rfl:m=1:=by simpa using hm
  have HD0:=Lib.hid (d9_start hb hw [.int .i64 18,.int .i64 at1,.slice A1 n1 c1,.slice A2 n2 c2,.string name,.int .i32 c,.slice (some ⟨b,o,none⟩) 1 cc] 31)
  have j0:=joinP_len2 l [8728,46]
  have e0:=(joinP_len2 [8728,46] (wrapT false s0)).1
  simp only [List.length_cons,List.length_nil] at j0 e0
  have HL0:Hid (l.length+2<=1099511627000):=by unfold Hid;omega
  have HL1:Hid ((joinP l [8728,46]).length+2*(wrapT false s0).length<=1099511627000):=by unfold Hid;omega
  have HR0:=Lib.hid hr0;have HK0:=Lib.hid hc0
  have HPD:Hid (∀ W,D9 w0 g v (joinP l [8728,46]) w w.heap.size [.int .i64 18,.int .i64 at1,.slice A1 n1 c1,.slice A2 n2 c2,.string name,.int .i32 c,.slice (some ⟨b,o,none⟩) 1 cc] W->Calls Tryz.prog 126 #[.agg #[u0,u1,u2,u3,u4,u5,u6]] W fun e w'=>e= .returned (.bool false)/\Below W.heap.size W w'):=fun W h=>HPB.out _ _ _ _ _ _ _ W HR0.out h.bel
  have HIN:Hid (∀ W,D9 w0 g v (joinP l [8728,46]) w w.heap.size [.int .i64 18,.int .i64 at1,.slice A1 n1 c1,.slice A2 n2 c2,.string name,.int .i32 c,.slice (some ⟨b,o,none⟩) 1 cc] W->Calls Tryz.prog 76 #[.pointer (some ⟨g,0,none⟩),.agg #[u0,u1,u2,u3,u4,u5,u6],.bool false] W fun e w'=>e= .returned (.tuple #[])/\D9 w0 g v (joinP (joinP l [8728,46]) (wrapT false s0)) w w.heap.size [.int .i64 18,.int .i64 at1,.slice A1 n1 c1,.slice A2 n2 c2,.string name,.int .i32 c,.slice (some ⟨b,o,none⟩) 1 cc] w'):=fun W h=>d9_inside false H0 HR0.out h HL1.out
  have HSA:Hid (∀ cu W,D9 w0 g v cu w w.heap.size [.int .i64 18,.int .i64 at1,.slice A1 n1 c1,.slice A2 n2 c2,.string name,.int .i32 c,.slice (some ⟨b,o,none⟩) 1 cc] W->W.cell? ⟨w.heap.size,6,none⟩=some (.slice (some ⟨b,o,none⟩) 1 cc)/\W.cell? ⟨b,o,none⟩=some u0/\W.cell? ⟨b,o+1,none⟩=some u1/\W.cell? ⟨b,o+2,none⟩=some u2/\W.cell? ⟨b,o+3,none⟩=some u3/\W.cell? ⟨b,o+4,none⟩=some u4/\W.cell? ⟨b,o+5,none⟩=some u5/\W.cell? ⟨b,o+6,none⟩=some u6):=fun cu W h =>
   ⟨h.c7.2.2.2.2.2.2,(kidC_of HK0.out h.bel).1,(kidC_of HK0.out h.bel).2.1,(kidC_of HK0.out h.bel).2.2.1,(kidC_of HK0.out h.bel).2.2.2.1,(kidC_of HK0.out h.bel).2.2.2.2.1,(kidC_of HK0.out h.bel).2.2.2.2.2.1,(kidC_of HK0.out h.bel).2.2.2.2.2.2⟩
  clear ht hb hw hl hk hm hr0 hc0 j0 e0
  go_enter Tryz.func80,Tryz.ntmps80
  go_wp2_with fail
  (with_reducible refine (d9_put2 (w.heap.size+1) (by simp) HD0.out HL0.out).mono ?_)
  rintro e w1 ⟨rfl,hd⟩
  have HD1:=Lib.hid hd
  clear hd
  obtain ⟨x0,x1,x2,x3,x4,x5,x6⟩:=HD1.out.c7
  go_wp2_with fail
  have hd0:=HD1.out.bstep (Below.refl _ _).drew
  have hs1:=HSA.out _ _ hd0
  clear x0 x1 x2 x3 x4 x5 x6
  go_region_held3 (fun W=>W.cell? ⟨w.heap.size,6,none⟩=some (.slice (some ⟨b,o,none⟩) 1 cc)/\W.cell? ⟨b,o,none⟩=some u0/\W.cell? ⟨b,o+1,none⟩=some u1/\W.cell? ⟨b,o+2,none⟩=some u2/\W.cell? ⟨b,o+3,none⟩=some u3/\W.cell? ⟨b,o+4,none⟩=some u4/\W.cell? ⟨b,o+5,none⟩=some u5/\W.cell? ⟨b,o+6,none⟩=some u6)
   (first | assumption | exact hs1)
   (first
    | (go_at_call 126;refine (HPD.out _ (by assumption)).mono ?_;rintro e w52 ⟨rfl,hb2⟩;have h92:=(‹D9 _ _ _ _ _ _ _ _›).bstep hb2;have hs2:=HSA.out _ _ h92)
    | (go_at_call 76;refine (HIN.out _ (by assumption)).mono ?_;rintro e w2 ⟨rfl,hd⟩;have hs3:=HSA.out _ _ hd))
  have HD2:=Lib.hid hd
  clear hd hs1 hs2 hs3 h92 hd0
  have HF:Hid (Stepped w0 w g v (joinP l (joinP [8728,46] (wrapT false s0))) w2):=by
   have h:=HD2.out.stepped
   simp only [joinP_assoc] at h
   exact h
  go_wp2
  go_end0
  exact ⟨rfl,HF.out⟩
 | true =>
  intro v0 v1 v2 v3 v4 v5 v6 w g v l ht hb hw hl
  obtain ⟨at1,A1,n1,c1,A2,n2,c2,A,m,cc,rfl,rfl,rfl,rfl,rfl,rfl,rfl,hm,-,hk⟩:=ht.form
  obtain ⟨b,o,u0,u1,u2,u3,u4,u5,u6,rfl,hr0,hc0⟩:=hk.kid0
  obtain rfl:m=1:=by simpa using hm
  have HD0:=Lib.hid (d9_start hb hw [.int .i64 18,.int .i64 at1,.slice A1 n1 c1,.slice A2 n2 c2,.string name,.int .i32 c,.slice (some ⟨b,o,none⟩) 1 cc] 31)
  have j0:=joinP_len2 l [8728,46]
  have e0:=(joinP_len2 [8728,46] (wrapT true s0)).1
  simp only [List.length_cons,List.length_nil] at j0 e0
  have HL0:Hid (l.length+2<=1099511627000):=by unfold Hid;omega
  have HL1:Hid ((joinP l [8728,46]).length+2*(wrapT true s0).length<=1099511627000):=by unfold Hid;omega
  have HR0:=Lib.hid hr0;have HK0:=Lib.hid hc0
  have HPD:Hid (∀ W,D9 w0 g v (joinP l [8728,46]) w w.heap.size [.int .i64 18,.int .i64 at1,.slice A1 n1 c1,.slice A2 n2 c2,.string name,.int .i32 c,.slice (some ⟨b,o,none⟩) 1 cc] W->Calls Tryz.prog 126 #[.agg #[u0,u1,u2,u3,u4,u5,u6]] W fun e w'=>e= .returned (.bool true)/\Below W.heap.size W w'):=fun W h=>HPB.out _ _ _ _ _ _ _ W HR0.out h.bel
  have HIN:Hid (∀ W,D9 w0 g v (joinP l [8728,46]) w w.heap.size [.int .i64 18,.int .i64 at1,.slice A1 n1 c1,.slice A2 n2 c2,.string name,.int .i32 c,.slice (some ⟨b,o,none⟩) 1 cc] W->Calls Tryz.prog 76 #[.pointer (some ⟨g,0,none⟩),.agg #[u0,u1,u2,u3,u4,u5,u6],.bool true] W fun e w'=>e= .returned (.tuple #[])/\D9 w0 g v (joinP (joinP l [8728,46]) (wrapT true s0)) w w.heap.size [.int .i64 18,.int .i64 at1,.slice A1 n1 c1,.slice A2 n2 c2,.string name,.int .i32 c,.slice (some ⟨b,o,none⟩) 1 cc] w'):=fun W h=>d9_inside true H0 HR0.out h HL1.out
  have HSA:Hid (∀ cu W,D9 w0 g v cu w w.heap.size [.int .i64 18,.int .i64 at1,.slice A1 n1 c1,.slice A2 n2 c2,.string name,.int .i32 c,.slice (some ⟨b,o,none⟩) 1 cc] W->W.cell? ⟨w.heap.size,6,none⟩=some (.slice (some ⟨b,o,none⟩) 1 cc)/\W.cell? ⟨b,o,none⟩=some u0/\W.cell? ⟨b,o+1,none⟩=some u1/\W.cell? ⟨b,o+2,none⟩=some u2/\W.cell? ⟨b,o+3,none⟩=some u3/\W.cell? ⟨b,o+4,none⟩=some u4/\W.cell? ⟨b,o+5,none⟩=some u5/\W.cell? ⟨b,o+6,none⟩=some u6):=fun cu W h =>
   ⟨h.c7.2.2.2.2.2.2,(kidC_of HK0.out h.bel).1,(kidC_of HK0.out h.bel).2.1,(kidC_of HK0.out h.bel).2.2.1,(kidC_of HK0.out h.bel).2.2.2.1,(kidC_of HK0.out h.bel).2.2.2.2.1,(kidC_of HK0.out h.bel).2.2.2.2.2.1,(kidC_of HK0.out h.bel).2.2.2.2.2.2⟩
  clear ht hb hw hl hk hm hr0 hc0 j0 e0
  go_enter Tryz.func80,Tryz.ntmps80
  go_wp2_with fail
  (with_reducible refine (d9_put2 (w.heap.size+1) (by simp) HD0.out HL0.out).mono ?_)
  rintro e w1 ⟨rfl,hd⟩
  have HD1:=Lib.hid hd
  clear hd
  obtain ⟨x0,x1,x2,x3,x4,x5,x6⟩:=HD1.out.c7
  go_wp2_with fail
  have hd0:=HD1.out.bstep (Below.refl _ _).drew
  have hs1:=HSA.out _ _ hd0
  clear x0 x1 x2 x3 x4 x5 x6
  go_region_held3 (fun W=>W.cell? ⟨w.heap.size,6,none⟩=some (.slice (some ⟨b,o,none⟩) 1 cc)/\W.cell? ⟨b,o,none⟩=some u0/\W.cell? ⟨b,o+1,none⟩=some u1/\W.cell? ⟨b,o+2,none⟩=some u2/\W.cell? ⟨b,o+3,none⟩=some u3/\W.cell? ⟨b,o+4,none⟩=some u4/\W.cell? ⟨b,o+5,none⟩=some u5/\W.cell? ⟨b,o+6,none⟩=some u6)
   (first | assumption | exact hs1)
   (first
    | (go_at_call 126;refine (HPD.out _ (by assumption)).mono ?_;rintro e w52 ⟨rfl,hb2⟩;have h92:=(‹D9 _ _ _ _ _ _ _ _›).bstep hb2;have hs2:=HSA.out _ _ h92)
    | (go_at_call 76;refine (HIN.out _ (by assumption)).mono ?_;rintro e w2 ⟨rfl,hd⟩;have hs3:=HSA.out _ _ hd))
  have HD2:=Lib.hid hd
  clear hd hs1 hs2 hs3 h92 hd0
  have HF:Hid (Stepped w0 w g v (joinP l (joinP [8728,46] (wrapT true s0))) w2):=by
   have h:=HD2.out.stepped
   simp only [joinP_assoc] at h
   exact h
  go_wp2
  go_end0
  exact ⟨rfl,HF.out⟩
theorem node_name (w0:World) (k:Int) (hk':k=3\/k=14) (nums:List Nat) (text:List Int) (name:ByteArray) (c:Int) (kids:List RTree) (hz:name.size<=70368744177664) (hne:runesOf name≠[])  :
  NodeP 38 w0 (.mk k nums text name c kids) (runesOf name):=by
 intro v0 v1 v2 v3 v4 v5 v6 w g v l ht hb hw hl
 obtain ⟨at1,A1,n1,c1,A2,n2,c2,A,m,cc,rfl,rfl,rfl,rfl,rfl,rfl,rfl,hm,-,hk⟩:=ht.form
 have hd0:=d9_start hb hw [.int .i64 k,.int .i64 at1,.slice A1 n1 c1,.slice A2 n2 c2,.string name,.int .i32 c,.slice A m cc] 31
 obtain ⟨W0,hW0⟩:∃ W0,W0=w.alloc (.cells #[.int .i64 k,.int .i64 at1,.slice A1 n1 c1,.slice A2 n2 c2,.string name,.int .i32 c,.slice A m cc] 31):=⟨_,rfl⟩
 have HW0:=Lib.hid hW0
 have HD0:Hid (D9 w0 g v l w w.heap.size [.int .i64 k,.int .i64 at1,.slice A1 n1 c1,.slice A2 n2 c2,.string name,.int .i32 c,.slice A m cc] W0):=by unfold Hid;rw [hW0];exact hd0
 obtain ⟨cv,w1,hcv,hrv,hbv,_⟩:=conv_str name W0 hz
 have HRV:=Lib.hid hrv
 have HBV:=Lib.hid hbv
 have HNE:=Lib.hid hne
 have HL0:Hid (l.length+(runesOf name).length<=1099511627000):=by unfold Hid;omega
 clear ht hb hw hl hd0 hW0 hrv hbv hne hz hm hk
 generalize runesOf name=nm at *
 obtain ⟨x0,x1,x2,x3,x4,x5,x6⟩:=HD0.out.c7
 rcases hk' with rfl | rfl
 all_goals
  go_enter Tryz.func38,Tryz.ntmps38
  go_upto_region 1 with fail
  rw [<- HW0.out]
  go_wp2_with fail
  (with_reducible refine (d9_putv HD0.out HBV.out (Nat.le_refl _) HRV.out HNE.out HL0.out).mono ?_)
  rintro e w2 ⟨rfl,hd⟩
  have HD1:=Lib.hid hd
  clear hd x0 x1 x2 x3 x4 x5 x6
  have HF:Hid (Stepped w0 w g v (joinP l nm) w2):=by
   have h:=HD1.out.stepped
   skip
   exact h
  go_wp2
  go_end0
  exact ⟨rfl,HF.out⟩
theorem more_let (w0:World) (k:Int) (hk':k=11\/k=20) (nums:List Nat) (text:List Int) (name:ByteArray) (c:Int) (t0:RTree) (s0:List Int) (hz:name.size<=70368744177664) (hne:runesOf name≠[]) (H0:Hid (NodeP 38 w0 t0 s0)) :
  NodeP 80 w0 (.mk k nums text name c [t0]) (joinP (runesOf name) (joinP [8592] s0)):=by
 intro v0 v1 v2 v3 v4 v5 v6 w g v l ht hb hw hl
 obtain ⟨at1,A1,n1,c1,A2,n2,c2,A,m,cc,rfl,rfl,rfl,rfl,rfl,rfl,rfl,hm,-,hk⟩:=ht.form
 obtain ⟨b,o,u0,u1,u2,u3,u4,u5,u6,rfl,hr0,hc0⟩:=hk.kid0
 obtain rfl:m=1:=by simpa using hm
 have HR0:=Lib.hid hr0;have HK0:=Lib.hid hc0
 have hd0:=d9_start hb hw [.int .i64 k,.int .i64 at1,.slice A1 n1 c1,.slice A2 n2 c2,.string name,.int .i32 c,.slice (some ⟨b,o,none⟩) 1 cc] 31
 obtain ⟨W0,hW0⟩:∃ W0,W0=w.alloc (.cells #[.int .i64 k,.int .i64 at1,.slice A1 n1 c1,.slice A2 n2 c2,.string name,.int .i32 c,.slice (some ⟨b,o,none⟩) 1 cc] 31):=⟨_,rfl⟩
 have HW0:=Lib.hid hW0
 have HD0:Hid (D9 w0 g v l w w.heap.size [.int .i64 k,.int .i64 at1,.slice A1 n1 c1,.slice A2 n2 c2,.string name,.int .i32 c,.slice (some ⟨b,o,none⟩) 1 cc] W0):=by unfold Hid;rw [hW0];exact hd0
 obtain ⟨cv,w1,hcv,hrv,hbv,_⟩:=conv_str name W0 hz
 have HRV:=Lib.hid hrv
 have HBV:=Lib.hid hbv
 have HNE:=Lib.hid hne
 have j0:=joinP_len2 l (runesOf name)
 have j1:=joinP_len2 (joinP l (runesOf name)) [8592]
 have e0:=(joinP_len2 [8592] s0).1
 have e1:=(joinP_len2 (runesOf name) (joinP [8592] s0)).1
 simp only [List.length_singleton] at j0 j1 e0 e1
 have HL0:Hid (l.length+(runesOf name).length<=1099511627000):=by unfold Hid;omega
 have HL1:Hid ((joinP l (runesOf name)).length+1<=1099511627000):=by unfold Hid;omega
 have HL2:Hid ((joinP (joinP l (runesOf name)) [8592]).length+2*s0.length<=1099511627000):=by unfold Hid;omega
 clear ht hb hw hl hd0 hW0 hrv hbv hne hz hm hk hr0 hc0 j0 j1 e0 e1
 generalize runesOf name=nm at *
 obtain ⟨x0,x1,x2,x3,x4,x5,x6⟩:=HD0.out.c7
 rcases hk' with rfl | rfl
 all_goals
  go_enter Tryz.func80,Tryz.ntmps80
  go_upto_region 1 with fail
  rw [<- HW0.out]
  go_wp2_with fail
  (with_reducible refine (d9_putv HD0.out HBV.out (Nat.le_refl _) HRV.out HNE.out HL0.out).mono ?_)
  rintro e w2 ⟨rfl,hd⟩
  have HD1:=Lib.hid hd
  clear hd x0 x1 x2 x3 x4 x5 x6
  obtain ⟨x0,x1,x2,x3,x4,x5,x6⟩:=HD1.out.c7
  go_wp2_with fail
  (with_reducible refine (d9_put 8592 w2.heap.size rfl HD1.out HL1.out).mono ?_)
  rintro e w3 ⟨rfl,hd⟩
  have HD2:=Lib.hid hd
  clear hd x0 x1 x2 x3 x4 x5 x6
  obtain ⟨x0,x1,x2,x3,x4,x5,x6⟩:=HD2.out.c7
  obtain ⟨y0,y1,y2,y3,y4,y5,y6⟩:=kidC_of HK0.out HD2.out.bel
  go_wp2_with fail
  (with_reducible refine (d9_node H0.out HR0.out HD2.out HL2.out).mono ?_)
  rintro e w4 ⟨rfl,hd⟩
  have HD3:=Lib.hid hd
  clear hd x0 x1 x2 x3 x4 x5 x6 y0 y1 y2 y3 y4 y5 y6
  have HF:Hid (Stepped w0 w g v (joinP l (joinP nm (joinP [8592] s0))) w4):=by
   have h:=HD3.out.stepped
   simp only [joinP_assoc] at h
   exact h
  go_wp2
  go_end0
  exact ⟨rfl,HF.out⟩
end Go.Proofs.YtbakjaliponbbaaGreatDoor
