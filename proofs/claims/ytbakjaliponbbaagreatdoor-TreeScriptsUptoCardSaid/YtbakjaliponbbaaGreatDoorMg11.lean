/- The writer's node and more at the kinds whose parts are written one by one. Printed by .. Conditions: as each theorem says. -/
import Derived.Test.YtbakjaliponbbaaGreatDoorMg10
set_option maxRecDepth 100000
set_option maxHeartbeats 1600000
namespace Go.Proofs.YtbakjaliponbbaaGreatDoor
open Go Go.RowKit Go.Proofs Fl
theorem node_4 (w0:World) (nums:List Nat) (text:List Int) (name:ByteArray) (c:Int) (kids:List RTree)  :
  NodeP 38 w0 (.mk 4 nums text name c kids) [9082]:=by
 intro v0 v1 v2 v3 v4 v5 v6 w g v l ht hb hw hl
 obtain ⟨at1,A1,n1,c1,A2,n2,c2,A,m,cc,rfl,rfl,rfl,rfl,rfl,rfl,rfl,-,-,-⟩:=ht.form
 have HD0:=Lib.hid (d9_start hb hw [.int .i64 4,.int .i64 at1,.slice A1 n1 c1,.slice A2 n2 c2,.string name,.int .i32 c,.slice A m cc] 31)
 have HL0:Hid (l.length+1<=1099511627000):=by unfold Hid;simp at hl;omega
 clear ht hb hw hl
 go_enter Tryz.func38,Tryz.ntmps38
 go_wp2_with fail
 (with_reducible refine (d9_put 9082 (w.heap.size+1) (by simp) HD0.out HL0.out).mono ?_)
 rintro e w1 ⟨rfl,hd⟩
 have HD1:=Lib.hid hd
 clear hd
 have HF:Hid (Stepped w0 w g v (joinP l [9082]) w1):=by
  have h:=HD1.out.stepped
  skip
  exact h
 go_wp2
 go_end0
 exact ⟨rfl,HF.out⟩
theorem node_6 (w0:World) (nums:List Nat) (text:List Int) (name:ByteArray) (c:Int) (kids:List RTree)  :
  NodeP 38 w0 (.mk 6 nums text name c kids) [9068]:=by
 intro v0 v1 v2 v3 v4 v5 v6 w g v l ht hb hw hl
 obtain ⟨at1,A1,n1,c1,A2,n2,c2,A,m,cc,rfl,rfl,rfl,rfl,rfl,rfl,rfl,-,-,-⟩:=ht.form
 have HD0:=Lib.hid (d9_start hb hw [.int .i64 6,.int .i64 at1,.slice A1 n1 c1,.slice A2 n2 c2,.string name,.int .i32 c,.slice A m cc] 31)
 have HL0:Hid (l.length+1<=1099511627000):=by unfold Hid;simp at hl;omega
 clear ht hb hw hl
 go_enter Tryz.func38,Tryz.ntmps38
 go_wp2_with fail
 (with_reducible refine (d9_put 9068 (w.heap.size+1) (by simp) HD0.out HL0.out).mono ?_)
 rintro e w1 ⟨rfl,hd⟩
 have HD1:=Lib.hid hd
 clear hd
 have HF:Hid (Stepped w0 w g v (joinP l [9068]) w1):=by
  have h:=HD1.out.stepped
  skip
  exact h
 go_wp2
 go_end0
 exact ⟨rfl,HF.out⟩
theorem more_19 (w0:World) (nums:List Nat) (text:List Int) (name:ByteArray) (c:Int) (t0 t1:RTree) (s0 s1:List Int) (H0:Hid (NodeP 38 w0 t0 s0)) (H1:Hid (NodeP 38 w0 t1 s1)) :
  NodeP 80 w0 (.mk 19 nums text name c [t0,t1]) (joinP s0 (joinP [58] s1)):=by
 intro v0 v1 v2 v3 v4 v5 v6 w g v l ht hb hw hl
 obtain ⟨at1,A1,n1,c1,A2,n2,c2,A,m,cc,rfl,rfl,rfl,rfl,rfl,rfl,rfl,hm,-,hk⟩:=ht.form
 obtain ⟨b,o,u0,u1,u2,u3,u4,u5,u6,rfl,hr0,hc0⟩:=hk.kid0
 obtain ⟨p0,p1,p2,p3,p4,p5,p6,hr1,hc1⟩:=hk.kid1
 obtain rfl:m=2:=by simpa using hm
 have HD0:=Lib.hid (d9_start hb hw [.int .i64 19,.int .i64 at1,.slice A1 n1 c1,.slice A2 n2 c2,.string name,.int .i32 c,.slice (some ⟨b,o,none⟩) 2 cc] 31)
 have j0:=joinP_len2 l s0
 have j1:=joinP_len2 (joinP l s0) [58]
 have e0:=(joinP_len2 [58] s1).1
 have e1:=(joinP_len2 s0 (joinP [58] s1)).1
 simp only [List.length_singleton] at j0 j1 e0 e1
 have HL0:Hid (l.length+2*s0.length<=1099511627000):=by unfold Hid;omega
 have HL1:Hid ((joinP l s0).length+1<=1099511627000):=by unfold Hid;omega
 have HL2:Hid ((joinP (joinP l s0) [58]).length+2*s1.length<=1099511627000):=by unfold Hid;omega
 have HR0:=Lib.hid hr0;have HK0:=Lib.hid hc0
 have HR1:=Lib.hid hr1;have HK1:=Lib.hid hc1
 clear ht hb hw hl hk hm hr0 hc0 hr1 hc1 j0 j1 e0 e1
 go_enter Tryz.func80,Tryz.ntmps80
 obtain ⟨y0,y1,y2,y3,y4,y5,y6⟩:=kidC_of HK0.out HD0.out.bel
 go_wp2_with fail
 (with_reducible refine (d9_node H0.out HR0.out HD0.out HL0.out).mono ?_)
 rintro e w1 ⟨rfl,hd⟩
 have HD1:=Lib.hid hd
 clear hd y0 y1 y2 y3 y4 y5 y6
 obtain ⟨x0,x1,x2,x3,x4,x5,x6⟩:=HD1.out.c7
 go_wp2_with fail
 (with_reducible refine (d9_put 58 w1.heap.size rfl HD1.out HL1.out).mono ?_)
 rintro e w2 ⟨rfl,hd⟩
 have HD2:=Lib.hid hd
 clear hd x0 x1 x2 x3 x4 x5 x6
 obtain ⟨x0,x1,x2,x3,x4,x5,x6⟩:=HD2.out.c7
 obtain ⟨y0,y1,y2,y3,y4,y5,y6⟩:=kidC_of HK1.out HD2.out.bel
 go_wp2_with fail
 (with_reducible refine (d9_node H1.out HR1.out HD2.out HL2.out).mono ?_)
 rintro e w3 ⟨rfl,hd⟩
 have HD3:=Lib.hid hd
 clear hd x0 x1 x2 x3 x4 x5 x6 y0 y1 y2 y3 y4 y5 y6
 have HF:Hid (Stepped w0 w g v (joinP l (joinP s0 (joinP [58] s1))) w3):=by
  have h:=HD3.out.stepped
  simp only [joinP_assoc] at h
  exact h
 go_wp2
 go_end0
 exact ⟨rfl,HF.out⟩
theorem more_10 (w0:World) (nums:List Nat) (text:List Int) (name:ByteArray) (c:Int) (t0 t1 t2:RTree) (s0 s1 s2:List Int) (H0:Hid (NodeP 38 w0 t0 s0)) (H1:Hid (NodeP 38 w0 t1 s1)) (H2:Hid (NodeP 38 w0 t2 s2)) (pb:Bool) (HPB:Hid (TellsT 124 w0 t2 pb)) :
  NodeP 80 w0 (.mk 10 nums text name c [t0,t1,t2]) (joinP (wrapT pb s2) (joinP s0 s1)):=by
 cases pb with
 | false =>
  intro v0 v1 v2 v3 v4 v5 v6 w g v l ht hb hw hl
  obtain ⟨at1,A1,n1,c1,A2,n2,c2,A,m,cc,rfl,rfl,rfl,rfl,rfl,rfl,rfl,hm,-,hk⟩:=ht.form
  obtain ⟨b,o,u0,u1,u2,u3,u4,u5,u6,rfl,hr0,hc0⟩:=hk.kid0
  obtain ⟨p0,p1,p2,p3,p4,p5,p6,hr1,hc1⟩:=hk.kid1
  obtain ⟨q0,q1,q2,q3,q4,q5,q6,hr2,hc2⟩:=hk.kid2
  obtain rfl:m=3:=by simpa using hm
  have HD0:=Lib.hid (d9_start hb hw [.int .i64 10,.int .i64 at1,.slice A1 n1 c1,.slice A2 n2 c2,.string name,.int .i32 c,.slice (some ⟨b,o,none⟩) 3 cc] 31)
  have j0:=joinP_len2 l (wrapT false s2)
  have j1:=joinP_len2 (joinP l (wrapT false s2)) s0
  have e0:=(joinP_len2 s0 s1).1
  have e1:=(joinP_len2 (wrapT false s2) (joinP s0 s1)).1
  have HL0:Hid (l.length+2*(wrapT false s2).length<=1099511627000):=by unfold Hid;omega
  have HL1:Hid ((joinP l (wrapT false s2)).length+2*s0.length<=1099511627000):=by unfold Hid;omega
  have HL2:Hid ((joinP (joinP l (wrapT false s2)) s0).length+2*s1.length<=1099511627000):=by unfold Hid;omega
  have HR0:=Lib.hid hr0;have HK0:=Lib.hid hc0
  have HR1:=Lib.hid hr1;have HK1:=Lib.hid hc1
  have HR2:=Lib.hid hr2;have HK2:=Lib.hid hc2
  have HPD:Hid (∀ W,D9 w0 g v l w w.heap.size [.int .i64 10,.int .i64 at1,.slice A1 n1 c1,.slice A2 n2 c2,.string name,.int .i32 c,.slice (some ⟨b,o,none⟩) 3 cc] W->Calls Tryz.prog 124 #[.agg #[q0,q1,q2,q3,q4,q5,q6]] W fun e w'=>e= .returned (.bool false)/\Below W.heap.size W w'):=fun W h=>HPB.out _ _ _ _ _ _ _ W HR2.out h.bel
  have HIN:Hid (∀ W,D9 w0 g v l w w.heap.size [.int .i64 10,.int .i64 at1,.slice A1 n1 c1,.slice A2 n2 c2,.string name,.int .i32 c,.slice (some ⟨b,o,none⟩) 3 cc] W->Calls Tryz.prog 76 #[.pointer (some ⟨g,0,none⟩),.agg #[q0,q1,q2,q3,q4,q5,q6],.bool false] W fun e w'=>e= .returned (.tuple #[])/\D9 w0 g v (joinP l (wrapT false s2)) w w.heap.size [.int .i64 10,.int .i64 at1,.slice A1 n1 c1,.slice A2 n2 c2,.string name,.int .i32 c,.slice (some ⟨b,o,none⟩) 3 cc] w'):=fun W h=>d9_inside false H2 HR2.out h HL0.out
  have HSA:Hid (∀ cu W,D9 w0 g v cu w w.heap.size [.int .i64 10,.int .i64 at1,.slice A1 n1 c1,.slice A2 n2 c2,.string name,.int .i32 c,.slice (some ⟨b,o,none⟩) 3 cc] W->W.cell? ⟨w.heap.size,6,none⟩=some (.slice (some ⟨b,o,none⟩) 3 cc)/\W.cell? ⟨b,o+14,none⟩=some q0/\W.cell? ⟨b,o+14+1,none⟩=some q1/\W.cell? ⟨b,o+14+2,none⟩=some q2/\W.cell? ⟨b,o+14+3,none⟩=some q3/\W.cell? ⟨b,o+14+4,none⟩=some q4/\W.cell? ⟨b,o+14+5,none⟩=some q5/\W.cell? ⟨b,o+14+6,none⟩=some q6):=fun cu W h =>
   ⟨h.c7.2.2.2.2.2.2,(kidC_of HK2.out h.bel).1,(kidC_of HK2.out h.bel).2.1,(kidC_of HK2.out h.bel).2.2.1,(kidC_of HK2.out h.bel).2.2.2.1,(kidC_of HK2.out h.bel).2.2.2.2.1,(kidC_of HK2.out h.bel).2.2.2.2.2.1,(kidC_of HK2.out h.bel).2.2.2.2.2.2⟩
  clear ht hb hw hl hk hm hr0 hc0 hr1 hc1 hr2 hc2 j0 j1 e0 e1
  go_enter Tryz.func80,Tryz.ntmps80
  go_wp2_with fail
  generalize w.alloc (.cells #[.int .i64 10,.int .i64 at1,.slice A1 n1 c1,.slice A2 n2 c2,.string name,.int .i32 c,.slice (some ⟨b,o,none⟩) 3 cc] 31)=w00 at *
  have hd0:=HD0.out.bstep (Below.refl _ _).drew
  have hs1:=HSA.out _ _ hd0
  skip
  go_region_held3 (fun W=>W.cell? ⟨w.heap.size,6,none⟩=some (.slice (some ⟨b,o,none⟩) 3 cc)/\W.cell? ⟨b,o+14,none⟩=some q0/\W.cell? ⟨b,o+14+1,none⟩=some q1/\W.cell? ⟨b,o+14+2,none⟩=some q2/\W.cell? ⟨b,o+14+3,none⟩=some q3/\W.cell? ⟨b,o+14+4,none⟩=some q4/\W.cell? ⟨b,o+14+5,none⟩=some q5/\W.cell? ⟨b,o+14+6,none⟩=some q6)
   (first | assumption | exact hs1)
   (first
    | (go_at_call 124;refine (HPD.out _ (by assumption)).mono ?_;rintro e w52 ⟨rfl,hb2⟩;have h92:=(‹D9 _ _ _ _ _ _ _ _›).bstep hb2;have hs2:=HSA.out _ _ h92)
    | (go_at_call 76;refine (HIN.out _ (by assumption)).mono ?_;rintro e w1 ⟨rfl,hd⟩;have hs3:=HSA.out _ _ hd))
  have HD1:=Lib.hid hd
  clear hd hs1 hs2 hs3 h92 hd0
  obtain ⟨x0,x1,x2,x3,x4,x5,x6⟩:=HD1.out.c7
  obtain ⟨y0,y1,y2,y3,y4,y5,y6⟩:=kidC_of HK0.out HD1.out.bel
  go_wp2_with fail
  (with_reducible refine (d9_node H0.out HR0.out HD1.out HL1.out).mono ?_)
  rintro e w2 ⟨rfl,hd⟩
  have HD2:=Lib.hid hd
  clear hd x0 x1 x2 x3 x4 x5 x6 y0 y1 y2 y3 y4 y5 y6
  obtain ⟨x0,x1,x2,x3,x4,x5,x6⟩:=HD2.out.c7
  obtain ⟨y0,y1,y2,y3,y4,y5,y6⟩:=kidC_of HK1.out HD2.out.bel
  go_wp2_with fail
  (with_reducible refine (d9_node H1.out HR1.out HD2.out HL2.out).mono ?_)
  rintro e w3 ⟨rfl,hd⟩
  have HD3:=Lib.hid hd
  clear hd x0 x1 x2 x3 x4 x5 x6 y0 y1 y2 y3 y4 y5 y6
  have HF:Hid (Stepped w0 w g v (joinP l (joinP (wrapT false s2) (joinP s0 s1))) w3):=by
   have h:=HD3.out.stepped
   simp only [joinP_assoc] at h
   exact h
  go_wp2
  go_end0
  exact ⟨rfl,HF.out⟩
 | true =>
  intro v0 v1 v2 v3 v4 v5 v6 w g v l ht hb hw hl
  obtain ⟨at1,A1,n1,c1,A2,n2,c2,A,m,cc,rfl,rfl,rfl,rfl,rfl,rfl,rfl,hm,-,hk⟩:=ht.form
  obtain ⟨b,o,u0,u1,u2,u3,u4,u5,u6,rfl,hr0,hc0⟩:=hk.kid0
  obtain ⟨p0,p1,p2,p3,p4,p5,p6,hr1,hc1⟩:=hk.kid1
  obtain ⟨q0,q1,q2,q3,q4,q5,q6,hr2,hc2⟩:=hk.kid2
  obtain rfl:m=3:=by simpa using hm
  have HD0:=Lib.hid (d9_start hb hw [.int .i64 10,.int .i64 at1,.slice A1 n1 c1,.slice A2 n2 c2,.string name,.int .i32 c,.slice (some ⟨b,o,none⟩) 3 cc] 31)
  have j0:=joinP_len2 l (wrapT true s2)
  have j1:=joinP_len2 (joinP l (wrapT true s2)) s0
  have e0:=(joinP_len2 s0 s1).1
  have e1:=(joinP_len2 (wrapT true s2) (joinP s0 s1)).1
  have HL0:Hid (l.length+2*(wrapT true s2).length<=1099511627000):=by unfold Hid;omega
  have HL1:Hid ((joinP l (wrapT true s2)).length+2*s0.length<=1099511627000):=by unfold Hid;omega
  have HL2:Hid ((joinP (joinP l (wrapT true s2)) s0).length+2*s1.length<=1099511627000):=by unfold Hid;omega
  have HR0:=Lib.hid hr0;have HK0:=Lib.hid hc0
  have HR1:=Lib.hid hr1;have HK1:=Lib.hid hc1
  have HR2:=Lib.hid hr2;have HK2:=Lib.hid hc2
  have HPD:Hid (∀ W,D9 w0 g v l w w.heap.size [.int .i64 10,.int .i64 at1,.slice A1 n1 c1,.slice A2 n2 c2,.string name,.int .i32 c,.slice (some ⟨b,o,none⟩) 3 cc] W->Calls Tryz.prog 124 #[.agg #[q0,q1,q2,q3,q4,q5,q6]] W fun e w'=>e= .returned (.bool true)/\Below W.heap.size W w'):=fun W h=>HPB.out _ _ _ _ _ _ _ W HR2.out h.bel
  have HIN:Hid (∀ W,D9 w0 g v l w w.heap.size [.int .i64 10,.int .i64 at1,.slice A1 n1 c1,.slice A2 n2 c2,.string name,.int .i32 c,.slice (some ⟨b,o,none⟩) 3 cc] W->Calls Tryz.prog 76 #[.pointer (some ⟨g,0,none⟩),.agg #[q0,q1,q2,q3,q4,q5,q6],.bool true] W fun e w'=>e= .returned (.tuple #[])/\D9 w0 g v (joinP l (wrapT true s2)) w w.heap.size [.int .i64 10,.int .i64 at1,.slice A1 n1 c1,.slice A2 n2 c2,.string name,.int .i32 c,.slice (some ⟨b,o,none⟩) 3 cc] w'):=fun W h=>d9_inside true H2 HR2.out h HL0.out
  have HSA:Hid (∀ cu W,D9 w0 g v cu w w.heap.size [.int .i64 10,.int .i64 at1,.slice A1 n1 c1,.slice A2 n2 c2,.string name,.int .i32 c,.slice (some ⟨b,o,none⟩) 3 cc] W->W.cell? ⟨w.heap.size,6,none⟩=some (.slice (some ⟨b,o,none⟩) 3 cc)/\W.cell? ⟨b,o+14,none⟩=some q0/\W.cell? ⟨b,o+14+1,none⟩=some q1/\W.cell? ⟨b,o+14+2,none⟩=some q2/\W.cell? ⟨b,o+14+3,none⟩=some q3/\W.cell? ⟨b,o+14+4,none⟩=some q4/\W.cell? ⟨b,o+14+5,none⟩=some q5/\W.cell? ⟨b,o+14+6,none⟩=some q6):=fun cu W h =>
   ⟨h.c7.2.2.2.2.2.2,(kidC_of HK2.out h.bel).1,(kidC_of HK2.out h.bel).2.1,(kidC_of HK2.out h.bel).2.2.1,(kidC_of HK2.out h.bel).2.2.2.1,(kidC_of HK2.out h.bel).2.2.2.2.1,(kidC_of HK2.out h.bel).2.2.2.2.2.1,(kidC_of HK2.out h.bel).2.2.2.2.2.2⟩
  clear ht hb hw hl hk hm hr0 hc0 hr1 hc1 hr2 hc2 j0 j1 e0 e1
  go_enter Tryz.func80,Tryz.ntmps80
  go_wp2_with fail
  generalize w.alloc (.cells #[.int .i64 10,.int .i64 at1,.slice A1 n1 c1,.slice A2 n2 c2,.string name,.int .i32 c,.slice (some ⟨b,o,none⟩) 3 cc] 31)=w00 at *
  have hd0:=HD0.out.bstep (Below.refl _ _).drew
  have hs1:=HSA.out _ _ hd0
  skip
  go_region_held3 (fun W=>W.cell? ⟨w.heap.size,6,none⟩=some (.slice (some ⟨b,o,none⟩) 3 cc)/\W.cell? ⟨b,o+14,none⟩=some q0/\W.cell? ⟨b,o+14+1,none⟩=some q1/\W.cell? ⟨b,o+14+2,none⟩=some q2/\W.cell? ⟨b,o+14+3,none⟩=some q3/\W.cell? ⟨b,o+14+4,none⟩=some q4/\W.cell? ⟨b,o+14+5,none⟩=some q5/\W.cell? ⟨b,o+14+6,none⟩=some q6)
   (first | assumption | exact hs1)
   (first
    | (go_at_call 124;refine (HPD.out _ (by assumption)).mono ?_;rintro e w52 ⟨rfl,hb2⟩;have h92:=(‹D9 _ _ _ _ _ _ _ _›).bstep hb2;have hs2:=HSA.out _ _ h92)
    | (go_at_call 76;refine (HIN.out _ (by assumption)).mono ?_;rintro e w1 ⟨rfl,hd⟩;have hs3:=HSA.out _ _ hd))
  have HD1:=Lib.hid hd
  clear hd hs1 hs2 hs3 h92 hd0
  obtain ⟨x0,x1,x2,x3,x4,x5,x6⟩:=HD1.out.c7
  obtain ⟨y0,y1,y2,y3,y4,y5,y6⟩:=kidC_of HK0.out HD1.out.bel
  go_wp2_with fail
  (with_reducible refine (d9_node H0.out HR0.out HD1.out HL1.out).mono ?_)
  rintro e w2 ⟨rfl,hd⟩
  have HD2:=Lib.hid hd
  clear hd x0 x1 x2 x3 x4 x5 x6 y0 y1 y2 y3 y4 y5 y6
  obtain ⟨x0,x1,x2,x3,x4,x5,x6⟩:=HD2.out.c7
  obtain ⟨y0,y1,y2,y3,y4,y5,y6⟩:=kidC_of HK1.out HD2.out.bel
  go_wp2_with fail
  (with_reducible refine (d9_node H1.out HR1.out HD2.out HL2.out).mono ?_)
  rintro e w3 ⟨rfl,hd⟩
  have HD3:=Lib.hid hd
  clear hd x0 x1 x2 x3 x4 x5 x6 y0 y1 y2 y3 y4 y5 y6
  have HF:Hid (Stepped w0 w g v (joinP l (joinP (wrapT true s2) (joinP s0 s1))) w3):=by
   have h:=HD3.out.stepped
   simp only [joinP_assoc] at h
   exact h
  go_wp2
  go_end0
  exact ⟨rfl,HF.out⟩
theorem more_9b (w0:World) (nums:List Nat) (text:List Int) (name:ByteArray) (c:Int) (t0 t1:RTree) (s0 s1:List Int) (H0:Hid (NodeP 38 w0 t0 s0)) (H1:Hid (NodeP 38 w0 t1 s1)) (pb:Bool) (HPB:Hid (TellsT 125 w0 t0 pb)) :
  NodeP 80 w0 (.mk 9 nums text name c [t0,t1]) (joinP (wrapT (!pb) s0) s1):=by
 cases pb with
 | false =>
  rw [show (!false)=true from rfl]
  intro v0 v1 v2 v3 v4 v5 v6 w g v l ht hb hw hl
  obtain ⟨at1,A1,n1,c1,A2,n2,c2,A,m,cc,rfl,rfl,rfl,rfl,rfl,rfl,rfl,hm,-,hk⟩:=ht.form
  obtain ⟨b,o,u0,u1,u2,u3,u4,u5,u6,rfl,hr0,hc0⟩:=hk.kid0
  obtain ⟨p0,p1,p2,p3,p4,p5,p6,hr1,hc1⟩:=hk.kid1
  obtain rfl:m=2:=by simpa using hm
  have HD0:=Lib.hid (d9_start hb hw [.int .i64 9,.int .i64 at1,.slice A1 n1 c1,.slice A2 n2 c2,.string name,.int .i32 c,.slice (some ⟨b,o,none⟩) 2 cc] 31)
  have j0:=joinP_len2 l (wrapT true s0)
  have e0:=(joinP_len2 (wrapT true s0) s1).1
  have HL0:Hid (l.length+2*(wrapT true s0).length<=1099511627000):=by unfold Hid;omega
  have HL1:Hid ((joinP l (wrapT true s0)).length+2*s1.length<=1099511627000):=by unfold Hid;omega
  have HR0:=Lib.hid hr0;have HK0:=Lib.hid hc0
  have HR1:=Lib.hid hr1;have HK1:=Lib.hid hc1
  have HPD:Hid (∀ W,D9 w0 g v l w w.heap.size [.int .i64 9,.int .i64 at1,.slice A1 n1 c1,.slice A2 n2 c2,.string name,.int .i32 c,.slice (some ⟨b,o,none⟩) 2 cc] W->Calls Tryz.prog 125 #[.agg #[u0,u1,u2,u3,u4,u5,u6]] W fun e w'=>e= .returned (.bool false)/\Below W.heap.size W w'):=fun W h=>HPB.out _ _ _ _ _ _ _ W HR0.out h.bel
  have HIN:Hid (∀ W,D9 w0 g v l w w.heap.size [.int .i64 9,.int .i64 at1,.slice A1 n1 c1,.slice A2 n2 c2,.string name,.int .i32 c,.slice (some ⟨b,o,none⟩) 2 cc] W->Calls Tryz.prog 76 #[.pointer (some ⟨g,0,none⟩),.agg #[u0,u1,u2,u3,u4,u5,u6],.bool true] W fun e w'=>e= .returned (.tuple #[])/\D9 w0 g v (joinP l (wrapT true s0)) w w.heap.size [.int .i64 9,.int .i64 at1,.slice A1 n1 c1,.slice A2 n2 c2,.string name,.int .i32 c,.slice (some ⟨b,o,none⟩) 2 cc] w'):=fun W h=>d9_inside true H0 HR0.out h HL0.out
  have HSA:Hid (∀ cu W,D9 w0 g v cu w w.heap.size [.int .i64 9,.int .i64 at1,.slice A1 n1 c1,.slice A2 n2 c2,.string name,.int .i32 c,.slice (some ⟨b,o,none⟩) 2 cc] W->W.cell? ⟨w.heap.size,6,none⟩=some (.slice (some ⟨b,o,none⟩) 2 cc)/\W.cell? ⟨b,o,none⟩=some u0/\W.cell? ⟨b,o+1,none⟩=some u1/\W.cell? ⟨b,o+2,none⟩=some u2/\W.cell? ⟨b,o+3,none⟩=some u3/\W.cell? ⟨b,o+4,none⟩=some u4/\W.cell? ⟨b,o+5,none⟩=some u5/\W.cell? ⟨b,o+6,none⟩=some u6):=fun cu W h =>
   ⟨h.c7.2.2.2.2.2.2,(kidC_of HK0.out h.bel).1,(kidC_of HK0.out h.bel).2.1,(kidC_of HK0.out h.bel).2.2.1,(kidC_of HK0.out h.bel).2.2.2.1,(kidC_of HK0.out h.bel).2.2.2.2.1,(kidC_of HK0.out h.bel).2.2.2.2.2.1,(kidC_of HK0.out h.bel).2.2.2.2.2.2⟩
  clear ht hb hw hl hk hm hr0 hc0 hr1 hc1 j0 e0
  go_enter Tryz.func80,Tryz.ntmps80
  go_wp2_with fail
  generalize w.alloc (.cells #[.int .i64 9,.int .i64 at1,.slice A1 n1 c1,.slice A2 n2 c2,.string name,.int .i32 c,.slice (some ⟨b,o,none⟩) 2 cc] 31)=w00 at *
  have hd0:=HD0.out.bstep (Below.refl _ _).drew
  have hs1:=HSA.out _ _ hd0
  skip
  go_region_held3 (fun W=>W.cell? ⟨w.heap.size,6,none⟩=some (.slice (some ⟨b,o,none⟩) 2 cc)/\W.cell? ⟨b,o,none⟩=some u0/\W.cell? ⟨b,o+1,none⟩=some u1/\W.cell? ⟨b,o+2,none⟩=some u2/\W.cell? ⟨b,o+3,none⟩=some u3/\W.cell? ⟨b,o+4,none⟩=some u4/\W.cell? ⟨b,o+5,none⟩=some u5/\W.cell? ⟨b,o+6,none⟩=some u6)
   (first | assumption | exact hs1)
   (first
    | (go_at_call 125;refine (HPD.out _ (by assumption)).mono ?_;rintro e w52 ⟨rfl,hb2⟩;have h92:=(‹D9 _ _ _ _ _ _ _ _›).bstep hb2;have hs2:=HSA.out _ _ h92)
    | (go_at_call 76;refine (HIN.out _ (by assumption)).mono ?_;rintro e w1 ⟨rfl,hd⟩;have hs3:=HSA.out _ _ hd))
  have HD1:=Lib.hid hd
  clear hd hs1 hs2 hs3 h92 hd0
  obtain ⟨x0,x1,x2,x3,x4,x5,x6⟩:=HD1.out.c7
  obtain ⟨y0,y1,y2,y3,y4,y5,y6⟩:=kidC_of HK1.out HD1.out.bel
  go_wp2_with fail
  (with_reducible refine (d9_node H1.out HR1.out HD1.out HL1.out).mono ?_)
  rintro e w2 ⟨rfl,hd⟩
  have HD2:=Lib.hid hd
  clear hd x0 x1 x2 x3 x4 x5 x6 y0 y1 y2 y3 y4 y5 y6
  have HF:Hid (Stepped w0 w g v (joinP l (joinP (wrapT true s0) s1)) w2):=by
   have h:=HD2.out.stepped
   simp only [joinP_assoc] at h
   exact h
  go_wp2
  go_end0
  exact ⟨rfl,HF.out⟩
 | true =>
  rw [show (!true)=false from rfl]
  intro v0 v1 v2 v3 v4 v5 v6 w g v l ht hb hw hl
  obtain ⟨at1,A1,n1,c1,A2,n2,c2,A,m,cc,rfl,rfl,rfl,rfl,rfl,rfl,rfl,hm,-,hk⟩:=ht.form
  obtain ⟨b,o,u0,u1,u2,u3,u4,u5,u6,rfl,hr0,hc0⟩:=hk.kid0
  obtain ⟨p0,p1,p2,p3,p4,p5,p6,hr1,hc1⟩:=hk.kid1
  obtain rfl:m=2:=by simpa using hm
  have HD0:=Lib.hid (d9_start hb hw [.int .i64 9,.int .i64 at1,.slice A1 n1 c1,.slice A2 n2 c2,.string name,.int .i32 c,.slice (some ⟨b,o,none⟩) 2 cc] 31)
  have j0:=joinP_len2 l (wrapT false s0)
  have e0:=(joinP_len2 (wrapT false s0) s1).1
  have HL0:Hid (l.length+2*(wrapT false s0).length<=1099511627000):=by unfold Hid;omega
  have HL1:Hid ((joinP l (wrapT false s0)).length+2*s1.length<=1099511627000):=by unfold Hid;omega
  have HR0:=Lib.hid hr0;have HK0:=Lib.hid hc0
  have HR1:=Lib.hid hr1;have HK1:=Lib.hid hc1
  have HPD:Hid (∀ W,D9 w0 g v l w w.heap.size [.int .i64 9,.int .i64 at1,.slice A1 n1 c1,.slice A2 n2 c2,.string name,.int .i32 c,.slice (some ⟨b,o,none⟩) 2 cc] W->Calls Tryz.prog 125 #[.agg #[u0,u1,u2,u3,u4,u5,u6]] W fun e w'=>e= .returned (.bool true)/\Below W.heap.size W w'):=fun W h=>HPB.out _ _ _ _ _ _ _ W HR0.out h.bel
  have HIN:Hid (∀ W,D9 w0 g v l w w.heap.size [.int .i64 9,.int .i64 at1,.slice A1 n1 c1,.slice A2 n2 c2,.string name,.int .i32 c,.slice (some ⟨b,o,none⟩) 2 cc] W->Calls Tryz.prog 76 #[.pointer (some ⟨g,0,none⟩),.agg #[u0,u1,u2,u3,u4,u5,u6],.bool false] W fun e w'=>e= .returned (.tuple #[])/\D9 w0 g v (joinP l (wrapT false s0)) w w.heap.size [.int .i64 9,.int .i64 at1,.slice A1 n1 c1,.slice A2 n2 c2,.string name,.int .i32 c,.slice (some ⟨b,o,none⟩) 2 cc] w'):=fun W h=>d9_inside false H0 HR0.out h HL0.out
  have HSA:Hid (∀ cu W,D9 w0 g v cu w w.heap.size [.int .i64 9,.int .i64 at1,.slice A1 n1 c1,.slice A2 n2 c2,.string name,.int .i32 c,.slice (some ⟨b,o,none⟩) 2 cc] W->W.cell? ⟨w.heap.size,6,none⟩=some (.slice (some ⟨b,o,none⟩) 2 cc)/\W.cell? ⟨b,o,none⟩=some u0/\W.cell? ⟨b,o+1,none⟩=some u1/\W.cell? ⟨b,o+2,none⟩=some u2/\W.cell? ⟨b,o+3,none⟩=some u3/\W.cell? ⟨b,o+4,none⟩=some u4/\W.cell? ⟨b,o+5,none⟩=some u5/\W.cell? ⟨b,o+6,none⟩=some u6):=fun cu W h =>
   ⟨h.c7.2.2.2.2.2.2,(kidC_of HK0.out h.bel).1,(kidC_of HK0.out h.bel).2.1,(kidC_of HK0.out h.bel).2.2.1,(kidC_of HK0.out h.bel).2.2.2.1,(kidC_of HK0.out h.bel).2.2.2.2.1,(kidC_of HK0.out h.bel).2.2.2.2.2.1,(kidC_of HK0.out h.bel).2.2.2.2.2.2⟩
  clear ht hb hw hl hk hm hr0 hc0 hr1 hc1 j0 e0
  go_enter Tryz.func80,Tryz.ntmps80
  go_wp2_with fail
  generalize w.alloc (.cells #[.int .i64 9,.int .i64 at1,.slice A1 n1 c1,.slice A2 n2 c2,.string name,.int .i32 c,.slice (some ⟨b,o,none⟩) 2 cc] 31)=w00 at *
  have hd0:=HD0.out.bstep (Below.refl _ _).drew
  have hs1:=HSA.out _ _ hd0
  skip
  go_region_held3 (fun W=>W.cell? ⟨w.heap.size,6,none⟩=some (.slice (some ⟨b,o,none⟩) 2 cc)/\W.cell? ⟨b,o,none⟩=some u0/\W.cell? ⟨b,o+1,none⟩=some u1/\W.cell? ⟨b,o+2,none⟩=some u2/\W.cell? ⟨b,o+3,none⟩=some u3/\W.cell? ⟨b,o+4,none⟩=some u4/\W.cell? ⟨b,o+5,none⟩=some u5/\W.cell? ⟨b,o+6,none⟩=some u6)
   (first | assumption | exact hs1)
   (first
    | (go_at_call 125;refine (HPD.out _ (by assumption)).mono ?_;rintro e w52 ⟨rfl,hb2⟩;have h92:=(‹D9 _ _ _ _ _ _ _ _›).bstep hb2;have hs2:=HSA.out _ _ h92)
    | (go_at_call 76;refine (HIN.out _ (by assumption)).mono ?_;rintro e w1 ⟨rfl,hd⟩;have hs3:=HSA.out _ _ hd))
  have HD1:=Lib.hid hd
  clear hd hs1 hs2 hs3 h92 hd0
  obtain ⟨x0,x1,x2,x3,x4,x5,x6⟩:=HD1.out.c7
  obtain ⟨y0,y1,y2,y3,y4,y5,y6⟩:=kidC_of HK1.out HD1.out.bel
  go_wp2_with fail
  (with_reducible refine (d9_node H1.out HR1.out HD1.out HL1.out).mono ?_)
  rintro e w2 ⟨rfl,hd⟩
  have HD2:=Lib.hid hd
  clear hd x0 x1 x2 x3 x4 x5 x6 y0 y1 y2 y3 y4 y5 y6
  have HF:Hid (Stepped w0 w g v (joinP l (joinP (wrapT false s0) s1)) w2):=by
   have h:=HD2.out.stepped
   simp only [joinP_assoc] at h
   exact h
  go_wp2
  go_end0
  exact ⟨rfl,HF.out⟩
theorem more_17 (w0:World) (nums:List Nat) (text:List Int) (name:ByteArray) (c:Int) (t0 t1:RTree) (s0 s1:List Int) (H0:Hid (NodeP 38 w0 t0 s0)) (H1:Hid (NodeP 38 w0 t1 s1)) (pb:Bool) (HPB:Hid (TellsT 126 w0 t1 pb)) :
  NodeP 80 w0 (.mk 17 nums text name c [t0,t1]) (joinP s0 (joinP [46] (wrapT pb s1))):=by
 cases pb with
 | false =>
  intro v0 v1 v2 v3 v4 v5 v6 w g v l ht hb hw hl
  obtain ⟨at1,A1,n1,c1,A2,n2,c2,A,m,cc,rfl,rfl,rfl,rfl,rfl,rfl,rfl,hm,-,hk⟩:=ht.form
  obtain ⟨b,o,u0,u1,u2,u3,u4,u5,u6,rfl,hr0,hc0⟩:=hk.kid0
  obtain ⟨p0,p1,p2,p3,p4,p5,p6,hr1,hc1⟩:=hk.kid1
  obtain rfl:m=2:=by simpa using hm
  have HD0:=Lib.hid (d9_start hb hw [.int .i64 17,.int .i64 at1,.slice A1 n1 c1,.slice A2 n2 c2,.string name,.int .i32 c,.slice (some ⟨b,o,none⟩) 2 cc] 31)
  have j0:=joinP_len2 l s0
  have j1:=joinP_len2 (joinP l s0) [46]
  have e0:=(joinP_len2 [46] (wrapT false s1)).1
  have e1:=(joinP_len2 s0 (joinP [46] (wrapT false s1))).1
  simp only [List.length_singleton] at j0 j1 e0 e1
  have HL0:Hid (l.length+2*s0.length<=1099511627000):=by unfold Hid;omega
  have HL1:Hid ((joinP l s0).length+1<=1099511627000):=by unfold Hid;omega
  have HL2:Hid ((joinP (joinP l s0) [46]).length+2*(wrapT false s1).length<=1099511627000):=by unfold Hid;omega
  have HR0:=Lib.hid hr0;have HK0:=Lib.hid hc0
  have HR1:=Lib.hid hr1;have HK1:=Lib.hid hc1
  have HPD:Hid (∀ W,D9 w0 g v (joinP (joinP l s0) [46]) w w.heap.size [.int .i64 17,.int .i64 at1,.slice A1 n1 c1,.slice A2 n2 c2,.string name,.int .i32 c,.slice (some ⟨b,o,none⟩) 2 cc] W->Calls Tryz.prog 126 #[.agg #[p0,p1,p2,p3,p4,p5,p6]] W fun e w'=>e= .returned (.bool false)/\Below W.heap.size W w'):=fun W h=>HPB.out _ _ _ _ _ _ _ W HR1.out h.bel
  have HIN:Hid (∀ W,D9 w0 g v (joinP (joinP l s0) [46]) w w.heap.size [.int .i64 17,.int .i64 at1,.slice A1 n1 c1,.slice A2 n2 c2,.string name,.int .i32 c,.slice (some ⟨b,o,none⟩) 2 cc] W->Calls Tryz.prog 76 #[.pointer (some ⟨g,0,none⟩),.agg #[p0,p1,p2,p3,p4,p5,p6],.bool false] W fun e w'=>e= .returned (.tuple #[])/\D9 w0 g v (joinP (joinP (joinP l s0) [46]) (wrapT false s1)) w w.heap.size [.int .i64 17,.int .i64 at1,.slice A1 n1 c1,.slice A2 n2 c2,.string name,.int .i32 c,.slice (some ⟨b,o,none⟩) 2 cc] w'):=fun W h=>d9_inside false H1 HR1.out h HL2.out
  have HSA:Hid (∀ cu W,D9 w0 g v cu w w.heap.size [.int .i64 17,.int .i64 at1,.slice A1 n1 c1,.slice A2 n2 c2,.string name,.int .i32 c,.slice (some ⟨b,o,none⟩) 2 cc] W->W.cell? ⟨w.heap.size,6,none⟩=some (.slice (some ⟨b,o,none⟩) 2 cc)/\W.cell? ⟨b,o+7,none⟩=some p0/\W.cell? ⟨b,o+7+1,none⟩=some p1/\W.cell? ⟨b,o+7+2,none⟩=some p2/\W.cell? ⟨b,o+7+3,none⟩=some p3/\W.cell? ⟨b,o+7+4,none⟩=some p4/\W.cell? ⟨b,o+7+5,none⟩=some p5/\W.cell? ⟨b,o+7+6,none⟩=some p6):=fun cu W h =>
   ⟨h.c7.2.2.2.2.2.2,(kidC_of HK1.out h.bel).1,(kidC_of HK1.out h.bel).2.1,(kidC_of HK1.out h.bel).2.2.1,(kidC_of HK1.out h.bel).2.2.2.1,(kidC_of HK1.out h.bel).2.2.2.2.1,(kidC_of HK1.out h.bel).2.2.2.2.2.1,(kidC_of HK1.out h.bel).2.2.2.2.2.2⟩
  clear ht hb hw hl hk hm hr0 hc0 hr1 hc1 j0 j1 e0 e1
  go_enter Tryz.func80,Tryz.ntmps80
  obtain ⟨y0,y1,y2,y3,y4,y5,y6⟩:=kidC_of HK0.out HD0.out.bel
  go_wp2_with fail
  (with_reducible refine (d9_node H0.out HR0.out HD0.out HL0.out).mono ?_)
  rintro e w1 ⟨rfl,hd⟩
  have HD1:=Lib.hid hd
  clear hd y0 y1 y2 y3 y4 y5 y6
  obtain ⟨x0,x1,x2,x3,x4,x5,x6⟩:=HD1.out.c7
  go_wp2_with fail
  (with_reducible refine (d9_put 46 w1.heap.size rfl HD1.out HL1.out).mono ?_)
  rintro e w2 ⟨rfl,hd⟩
  have HD2:=Lib.hid hd
  clear hd x0 x1 x2 x3 x4 x5 x6
  obtain ⟨x0,x1,x2,x3,x4,x5,x6⟩:=HD2.out.c7
  go_wp2_with fail
  have hd0:=HD2.out.bstep (Below.refl _ _).drew
  have hs1:=HSA.out _ _ hd0
  clear x0 x1 x2 x3 x4 x5 x6
  go_region_held3 (fun W=>W.cell? ⟨w.heap.size,6,none⟩=some (.slice (some ⟨b,o,none⟩) 2 cc)/\W.cell? ⟨b,o+7,none⟩=some p0/\W.cell? ⟨b,o+7+1,none⟩=some p1/\W.cell? ⟨b,o+7+2,none⟩=some p2/\W.cell? ⟨b,o+7+3,none⟩=some p3/\W.cell? ⟨b,o+7+4,none⟩=some p4/\W.cell? ⟨b,o+7+5,none⟩=some p5/\W.cell? ⟨b,o+7+6,none⟩=some p6)
   (first | assumption | exact hs1)
   (first
    | (go_at_call 126;refine (HPD.out _ (by assumption)).mono ?_;rintro e w52 ⟨rfl,hb2⟩;have h92:=(‹D9 _ _ _ _ _ _ _ _›).bstep hb2;have hs2:=HSA.out _ _ h92)
    | (go_at_call 76;refine (HIN.out _ (by assumption)).mono ?_;rintro e w3 ⟨rfl,hd⟩;have hs3:=HSA.out _ _ hd))
  have HD3:=Lib.hid hd
  clear hd hs1 hs2 hs3 h92 hd0
  have HF:Hid (Stepped w0 w g v (joinP l (joinP s0 (joinP [46] (wrapT false s1)))) w3):=by
   have h:=HD3.out.stepped
   simp only [joinP_assoc] at h
   exact h
  go_wp2
  go_end0
  exact ⟨rfl,HF.out⟩
 | true =>
  intro v0 v1 v2 v3 v4 v5 v6 w g v l ht hb hw hl
  obtain ⟨at1,A1,n1,c1,A2,n2,c2,A,m,cc,rfl,rfl,rfl,rfl,rfl,rfl,rfl,hm,-,hk⟩:=ht.form
  obtain ⟨b,o,u0,u1,u2,u3,u4,u5,u6,rfl,hr0,hc0⟩:=hk.kid0
  obtain ⟨p0,p1,p2,p3,p4,p5,p6,hr1,hc1⟩:=hk.kid1
  obtain rfl:m=2:=by simpa using hm
  have HD0:=Lib.hid (d9_start hb hw [.int .i64 17,.int .i64 at1,.slice A1 n1 c1,.slice A2 n2 c2,.string name,.int .i32 c,.slice (some ⟨b,o,none⟩) 2 cc] 31)
  have j0:=joinP_len2 l s0
  have j1:=joinP_len2 (joinP l s0) [46]
  have e0:=(joinP_len2 [46] (wrapT true s1)).1
  have e1:=(joinP_len2 s0 (joinP [46] (wrapT true s1))).1
  simp only [List.length_singleton] at j0 j1 e0 e1
  have HL0:Hid (l.length+2*s0.length<=1099511627000):=by unfold Hid;omega
  have HL1:Hid ((joinP l s0).length+1<=1099511627000):=by unfold Hid;omega
  have HL2:Hid ((joinP (joinP l s0) [46]).length+2*(wrapT true s1).length<=1099511627000):=by unfold Hid;omega
  have HR0:=Lib.hid hr0;have HK0:=Lib.hid hc0
  have HR1:=Lib.hid hr1;have HK1:=Lib.hid hc1
  have HPD:Hid (∀ W,D9 w0 g v (joinP (joinP l s0) [46]) w w.heap.size [.int .i64 17,.int .i64 at1,.slice A1 n1 c1,.slice A2 n2 c2,.string name,.int .i32 c,.slice (some ⟨b,o,none⟩) 2 cc] W->Calls Tryz.prog 126 #[.agg #[p0,p1,p2,p3,p4,p5,p6]] W fun e w'=>e= .returned (.bool true)/\Below W.heap.size W w'):=fun W h=>HPB.out _ _ _ _ _ _ _ W HR1.out h.bel
  have HIN:Hid (∀ W,D9 w0 g v (joinP (joinP l s0) [46]) w w.heap.size [.int .i64 17,.int .i64 at1,.slice A1 n1 c1,.slice A2 n2 c2,.string name,.int .i32 c,.slice (some ⟨b,o,none⟩) 2 cc] W->Calls Tryz.prog 76 #[.pointer (some ⟨g,0,none⟩),.agg #[p0,p1,p2,p3,p4,p5,p6],.bool true] W fun e w'=>e= .returned (.tuple #[])/\D9 w0 g v (joinP (joinP (joinP l s0) [46]) (wrapT true s1)) w w.heap.size [.int .i64 17,.int .i64 at1,.slice A1 n1 c1,.slice A2 n2 c2,.string name,.int .i32 c,.slice (some ⟨b,o,none⟩) 2 cc] w'):=fun W h=>d9_inside true H1 HR1.out h HL2.out
  have HSA:Hid (∀ cu W,D9 w0 g v cu w w.heap.size [.int .i64 17,.int .i64 at1,.slice A1 n1 c1,.slice A2 n2 c2,.string name,.int .i32 c,.slice (some ⟨b,o,none⟩) 2 cc] W->W.cell? ⟨w.heap.size,6,none⟩=some (.slice (some ⟨b,o,none⟩) 2 cc)/\W.cell? ⟨b,o+7,none⟩=some p0/\W.cell? ⟨b,o+7+1,none⟩=some p1/\W.cell? ⟨b,o+7+2,none⟩=some p2/\W.cell? ⟨b,o+7+3,none⟩=some p3/\W.cell? ⟨b,o+7+4,none⟩=some p4/\W.cell? ⟨b,o+7+5,none⟩=some p5/\W.cell? ⟨b,o+7+6,none⟩=some p6):=fun cu W h =>
   ⟨h.c7.2.2.2.2.2.2,(kidC_of HK1.out h.bel).1,(kidC_of HK1.out h.bel).2.1,(kidC_of HK1.out h.bel).2.2.1,(kidC_of HK1.out h.bel).2.2.2.1,(kidC_of HK1.out h.bel).2.2.2.2.1,(kidC_of HK1.out h.bel).2.2.2.2.2.1,(kidC_of HK1.out h.bel).2.2.2.2.2.2⟩
  clear ht hb hw hl hk hm hr0 hc0 hr1 hc1 j0 j1 e0 e1
  go_enter Tryz.func80,Tryz.ntmps80
  obtain ⟨y0,y1,y2,y3,y4,y5,y6⟩:=kidC_of HK0.out HD0.out.bel
  go_wp2_with fail
  (with_reducible refine (d9_node H0.out HR0.out HD0.out HL0.out).mono ?_)
  rintro e w1 ⟨rfl,hd⟩
  have HD1:=Lib.hid hd
  clear hd y0 y1 y2 y3 y4 y5 y6
  obtain ⟨x0,x1,x2,x3,x4,x5,x6⟩:=HD1.out.c7
  go_wp2_with fail
  (with_reducible refine (d9_put 46 w1.heap.size rfl HD1.out HL1.out).mono ?_)
  rintro e w2 ⟨rfl,hd⟩
  have HD2:=Lib.hid hd
  clear hd x0 x1 x2 x3 x4 x5 x6
  obtain ⟨x0,x1,x2,x3,x4,x5,x6⟩:=HD2.out.c7
  go_wp2_with fail
  have hd0:=HD2.out.bstep (Below.refl _ _).drew
  have hs1:=HSA.out _ _ hd0
  clear x0 x1 x2 x3 x4 x5 x6
  go_region_held3 (fun W=>W.cell? ⟨w.heap.size,6,none⟩=some (.slice (some ⟨b,o,none⟩) 2 cc)/\W.cell? ⟨b,o+7,none⟩=some p0/\W.cell? ⟨b,o+7+1,none⟩=some p1/\W.cell? ⟨b,o+7+2,none⟩=some p2/\W.cell? ⟨b,o+7+3,none⟩=some p3/\W.cell? ⟨b,o+7+4,none⟩=some p4/\W.cell? ⟨b,o+7+5,none⟩=some p5/\W.cell? ⟨b,o+7+6,none⟩=some p6)
   (first | assumption | exact hs1)
   (first
    | (go_at_call 126;refine (HPD.out _ (by assumption)).mono ?_;rintro e w52 ⟨rfl,hb2⟩;have h92:=(‹D9 _ _ _ _ _ _ _ _›).bstep hb2;have hs2:=HSA.out _ _ h92)
    | (go_at_call 76;refine (HIN.out _ (by assumption)).mono ?_;rintro e w3 ⟨rfl,hd⟩;have hs3:=HSA.out _ _ hd))
  have HD3:=Lib.hid hd
  clear hd hs1 hs2 hs3 h92 hd0
  have HF:Hid (Stepped w0 w g v (joinP l (joinP s0 (joinP [46] (wrapT true s1)))) w3):=by
   have h:=HD3.out.stepped
   simp only [joinP_assoc] at h
   exact h
  go_wp2
  go_end0
  exact ⟨rfl,HF.out⟩
end Go.Proofs.YtbakjaliponbbaaGreatDoor
