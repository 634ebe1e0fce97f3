/- The walks of the writer's node over some kinds of nodes, of inside, slashed. The walks of the writer's more over operators and .. Conditions: as each theorem says. -/
import Derived.Test.YtbakjaliponbbaaGreatDoorMg05
import Derived.Deep.RegionHeld3
set_option maxRecDepth 100000
set_option maxHeartbeats 1600000
namespace Go.Proofs.YtbakjaliponbbaaGreatDoor
open Go Go.RowKit Go.Proofs Fl
def NodeAt (W:World) (g:Nat) (v:Value) (b:Nat) (vs:List Value):Prop:=b≠g/\v.ownBlock≠some b/\b < W.heap.size/\∀ i,W.cell? ⟨b,i,none⟩=vs[i]?
theorem NodeAt.grew {w w':World}{g:Nat}{v v':Value}{b:Nat}{vs:List Value} (h:NodeAt w g v b vs) (k:Grew g v w w' v'):NodeAt w' g v' b vs:=by
 have hz:=k.b0.size
 refine ⟨h.1,fun e=>?_,by have:=h.2.2.1;omega,fun i=>?_⟩
 ·rcases k.row b e with h1 | h1
  ·exact h.2.1 h1
  ·have:=h.2.2.1;omega
 ·rw [World.cell?_of_block (k.keep b h.2.2.1 h.1 h.2.1)];exact h.2.2.2 i
theorem nodeAt_new {w:World}{B g:Nat}{v:Value}{l:List Int} (hw:WSt w B g v l) (vs:List Value) (T:TypeId):NodeAt (w.alloc (.cells vs.toArray T)) g v w.heap.size vs :=
 ⟨by have:=hw.lt;omega,fun e=>by have:=(World.ownsRow.lt hw.own _ e).2;omega,by simp,fun i=>by rw [World.cell?_alloc_at _ _ _ _ rfl];simp⟩
theorem NodeAt.c7 {W:World}{g:Nat}{v:Value}{b:Nat}{v0 v1 v2 v3 v4 v5 v6:Value} (h:NodeAt W g v b [v0,v1,v2,v3,v4,v5,v6]):W.cell? ⟨b,0,none⟩=some v0/\W.cell? ⟨b,1,none⟩=some v1/\W.cell? ⟨b,2,none⟩=some v2 /\
  W.cell? ⟨b,3,none⟩=some v3/\W.cell? ⟨b,4,none⟩=some v4/\W.cell? ⟨b,5,none⟩=some v5/\W.cell? ⟨b,6,none⟩=some v6:=⟨h.2.2.2 0,h.2.2.2 1,h.2.2.2 2,h.2.2.2 3,h.2.2.2 4,h.2.2.2 5,h.2.2.2 6⟩
def Stepped (w0 W:World) (g:Nat) (v:Value) (l:List Int) (w':World):Prop:=∃ v',WSt w' w0.heap.size g v' l/\Grew g v W w' v'/\Below w0.heap.size w0 w'
theorem Stepped.mk' {w0 W w':World}{g:Nat}{v v':Value}{l l':List Int} (hb:Below w0.heap.size w0 W) (hw:WSt W w0.heap.size g v l) (h:WSt w' w0.heap.size g v' l'/\Grew g v W w' v'):Stepped w0 W g v l' w' :=
 ⟨v',h.1,h.2,hb.trans (hw.belowB h.2)⟩
theorem put_new1 {w0 W:World}{g:Nat}{v:Value}{l:List Int} (c:Int) (G:Nat) (hG:W.heap.size=G) (hb:Below w0.heap.size w0 W) (hw:WSt W w0.heap.size g v l) (hl:l.length+1<=1099511627000) :
  Calls Tryz.prog 37 #[.pointer (some ⟨g,0,none⟩),.slice (some ⟨G,0,none⟩) 1 1] (W.alloc (.cells #[.int .i32 c] 21)) fun e w'=>e= .returned (.tuple #[])/\Stepped w0 W g v (joinP l [c]) w':=by
 subst hG
 obtain ⟨ha,hg⟩:=hw.below ((Below.refl _ W).alloc (Nat.le_refl _) (.cells #[.int .i32 c] 21))
 refine (put_walk _ g v W.heap.size 0 1 1 l [c] _ (by simp) ha ?_ rfl (by simpa using hl)).mono ?_
 ·exact ⟨by have:=hw.lt;omega,fun e=>by have:=(World.ownsRow.lt hw.own _ e).2;omega,by simp,one_cells W c⟩
 ·rintro e w' ⟨he,v',hw',hg'⟩
  exact ⟨he,Stepped.mk' hb hw ⟨hw',hg.trans hg'⟩⟩
def NodeP (f:FuncId) (w0:World) (t:RTree) (s:List Int):Prop:=∀ v0 v1 v2 v3 v4 v5 v6 w g v l,TN w0 t [v0,v1,v2,v3,v4,v5,v6]->Below w0.heap.size w0 w->WSt w w0.heap.size g v l->l.length+2*s.length<=1099511627000 ->
 Calls Tryz.prog f #[.pointer (some ⟨g,0,none⟩),.agg #[v0,v1,v2,v3,v4,v5,v6]] w fun e w'=>e= .returned (.tuple #[])/\Stepped w0 w g v (joinP l s) w'
theorem TN.form {w:World}{k:Int}{nums:List Nat}{text:List Int}{name:ByteArray}{c:Int}{kids:List RTree}{v0 v1 v2 v3 v4 v5 v6:Value} (h:TN w (.mk k nums text name c kids) [v0,v1,v2,v3,v4,v5,v6]) :
  ∃ at1 A1 n1 c1 A2 n2 c2 A m cc,v0= .int .i64 k/\v1= .int .i64 at1/\v2= .slice A1 n1 c1/\v3= .slice A2 n2 c2/\v4= .string name/\v5= .int .i32 c/\v6= .slice A m cc/\m=kids.length/\m<=cc/\KidsAt w A kids:=by
 have hc:=h
 obtain ⟨at1,nv,tv,A,cc,m,hvs,hrn,hrt,hm,hkid⟩:=h.open_
 simp only [List.cons.injEq,and_true] at hvs
 obtain ⟨rfl,rfl,rfl,rfl,rfl,rfl,rfl⟩:=hvs
 obtain ⟨A1,c1,n1,rfl,_,_⟩:=hrn.opn
 obtain ⟨A2,c2,n2,rfl,_,_⟩:=hrt.opn
 exact ⟨at1,A1,n1,c1,A2,n2,c2,A,m,cc,rfl,rfl,rfl,rfl,rfl,rfl,rfl,hm,hc.cap,hkid⟩
theorem node_13 (w0:World) (nums:List Nat) (text:List Int) (name:ByteArray) (c:Int) (kids:List RTree):NodeP 38 w0 (.mk 13 nums text name c kids) [c]:=by
 intro v0 v1 v2 v3 v4 v5 v6 w g v l ht hb hw hl
 obtain ⟨at1,A1,n1,c1,A2,n2,c2,A,m,cc,rfl,rfl,rfl,rfl,rfl,rfl,rfl,-,-,-⟩:=ht.form
 have hb1:=(Below.refl _ w).alloc (Nat.le_refl _) (.cells #[.int .i64 13,.int .i64 at1,.slice A1 n1 c1,.slice A2 n2 c2,.string name,.int .i32 c,.slice A m cc] 31)
 obtain ⟨ha,hg⟩:=hw.below hb1
 have HP:=Lib.hid (put_new1 c (w.heap.size+1) (by simp) (hb.trans (hb1.mono hb.size)) ha (by simp at hl;omega))
 have HG:=Lib.hid hg
 clear ht hb hw hl hb1 ha hg
 go_enter Tryz.func38,Tryz.ntmps38
 go_wp2_with fail
 (with_reducible refine HP.out.mono ?_)
 rintro e w1 ⟨rfl,v',hw',hg',hb'⟩
 have HF:Hid (Stepped w0 w g v (joinP l [c]) w1):=⟨v',hw',HG.out.trans hg',hb'⟩
 clear hw' hg' hb'
 go_wp2
 go_end0
 exact ⟨rfl,HF.out⟩
theorem node_5 (w0:World) (nums:List Nat) (text:List Int) (name:ByteArray) (c:Int) (kids:List RTree):NodeP 38 w0 (.mk 5 nums text name c kids) [9077]:=by
 intro v0 v1 v2 v3 v4 v5 v6 w g v l ht hb hw hl
 obtain ⟨at1,A1,n1,c1,A2,n2,c2,A,m,cc,rfl,rfl,rfl,rfl,rfl,rfl,rfl,-,-,-⟩:=ht.form
 have hb1:=(Below.refl _ w).alloc (Nat.le_refl _) (.cells #[.int .i64 5,.int .i64 at1,.slice A1 n1 c1,.slice A2 n2 c2,.string name,.int .i32 c,.slice A m cc] 31)
 obtain ⟨ha,hg⟩:=hw.below hb1
 have HP:=Lib.hid (put_new1 9077 (w.heap.size+1) (by simp) (hb.trans (hb1.mono hb.size)) ha (by simp at hl;omega))
 have HG:=Lib.hid hg
 clear ht hb hw hl hb1 ha hg
 go_enter Tryz.func38,Tryz.ntmps38
 go_wp2_with fail
 (with_reducible refine HP.out.mono ?_)
 rintro e w1 ⟨rfl,v',hw',hg',hb'⟩
 have HF:Hid (Stepped w0 w g v (joinP l [9077]) w1):=⟨v',hw',HG.out.trans hg',hb'⟩
 clear hw' hg' hb'
 go_wp2
 go_end0
 exact ⟨rfl,HF.out⟩
theorem node_more (w0:World) (k:Int) (hk:k=9\/k=16) (nums:List Nat) (text:List Int) (name:ByteArray) (c:Int) (kids:List RTree) (s:List Int) (HM:Hid (NodeP 80 w0 (.mk k nums text name c kids) s)) :
  NodeP 38 w0 (.mk k nums text name c kids) s:=by
 intro v0 v1 v2 v3 v4 v5 v6 w g v l ht hb hw hl
 have ht':=ht
 obtain ⟨at1,A1,n1,c1,A2,n2,c2,A,m,cc,rfl,rfl,rfl,rfl,rfl,rfl,rfl,-,-,-⟩:=ht.form
 have hb1:=(Below.refl _ w).alloc (Nat.le_refl _) (.cells #[.int .i64 k,.int .i64 at1,.slice A1 n1 c1,.slice A2 n2 c2,.string name,.int .i32 c,.slice A m cc] 31)
 obtain ⟨ha,hg⟩:=hw.below hb1
 have HP:=Lib.hid (HM.out _ _ _ _ _ _ _ _ g v l ht' (hb.trans (hb1.mono hb.size)) ha hl)
 have HG:=Lib.hid hg
 clear ht ht' hb hw hl hb1 ha hg HM
 rcases hk with rfl | rfl
 all_goals
  go_enter Tryz.func38,Tryz.ntmps38
  go_wp2_with fail
  (with_reducible refine HP.out.mono ?_)
  rintro e w1 ⟨rfl,v',hw',hg',hb'⟩
  have HF:Hid (Stepped w0 w g v (joinP l s) w1):=⟨v',hw',HG.out.trans hg',hb'⟩
  clear hw' hg' hb'
  go_wp2
  go_end0
  exact ⟨rfl,HF.out⟩
theorem kidC_of {w0 w:World}{b o:Nat}{v0 v1 v2 v3 v4 v5 v6:Value} (h:KidC w0 b o v0 v1 v2 v3 v4 v5 v6) (hb:Below w0.heap.size w0 w):w.cell? ⟨b,o,none⟩=some v0/\w.cell? ⟨b,o+1,none⟩=some v1/\w.cell? ⟨b,o+2,none⟩=some v2/\w.cell? ⟨b,o+3,none⟩=some v3/\w.cell? ⟨b,o+4,none⟩=some v4/\w.cell? ⟨b,o+5,none⟩=some v5/\w.cell? ⟨b,o+6,none⟩=some v6:=h w hb
theorem joinP_assoc (a b c:List Int):joinP (joinP a b) c=joinP a (joinP b c):=by
 by_cases ha:a=[]
 ·subst ha;rw [joinP_nil,joinP_nil]
 by_cases hb:b=[]
 ·subst hb;rw [joinP_nil];congr 1;unfold joinP;simp
 by_cases hc:c=[]
 ·subst hc;unfold joinP;simp
 obtain ⟨b',z,hz⟩:∃ b' z,b=b'++[z]:=⟨b.dropLast,b.getLast hb,(List.dropLast_concat_getLast _).symm⟩
 obtain ⟨y,b'',hy⟩:∃ y b'',b=y::b'':=by cases b with | nil=>exact absurd rfl hb | cons y r=>exact ⟨y,r,rfl⟩
 have h1:∀ x:List Int,(x++b).getLastD 0=z:=fun x=>by rw [hz,<- List.append_assoc];simp
 have h2:∀ x:List Int,(b++x).headD 0=y:=fun x=>by rw [hy];rfl
 have h3:b.getLastD 0=z:=by rw [hz];simp
 have h4:b.headD 0=y:=by rw [hy];rfl
 have h5:(a++[32]++b).getLastD 0=z:=h1 _
 have h6:(b++[32]++c).headD 0=y:=by rw [List.append_assoc];exact h2 _
 unfold joinP
 simp only [ne_eq,ha,hb,hc,not_false_eq_true,true_and,h3,h4]
 cases h7:blankB (a.getLastD 0) y <;> cases h8:blankB z (c.headD 0) <;> simp_all
theorem joinP_len (a b:List Int):a.length+b.length<=(joinP a b).length/\(joinP a b).length<=a.length+b.length+1:=by
 unfold joinP;split <;> simp <;> omega
theorem more_16 (w0:World) (nums:List Nat) (text:List Int) (name:ByteArray) (c:Int) (t0:RTree) (s0:List Int) (H0:Hid (NodeP 38 w0 t0 s0)) :
  NodeP 80 w0 (.mk 16 nums text name c [t0]) (joinP s0 [c]):=by
 intro v0 v1 v2 v3 v4 v5 v6 w g v l ht hb hw hl
 obtain ⟨at1,A1,n1,c1,A2,n2,c2,A,m,cc,rfl,rfl,rfl,rfl,rfl,rfl,rfl,hm,-,hk⟩:=ht.form
 obtain ⟨b,o,u0,u1,u2,u3,u4,u5,u6,rfl,hr0,hc0⟩:=hk.kid0
 obtain rfl:m=1:=by simpa using hm
 have hb1:=(Below.refl _ w).alloc (Nat.le_refl _) (.cells #[.int .i64 16,.int .i64 at1,.slice A1 n1 c1,.slice A2 n2 c2,.string name,.int .i32 c,.slice (some ⟨b,o,none⟩) 1 cc] 31)
 obtain ⟨ha,hg⟩:=hw.below hb1
 have hjl:=joinP_len s0 [c]
 have hj2:=joinP_len l s0
 have hbW:=hb.trans (hb1.mono hb.size)
 simp only [List.length_singleton] at hjl
 have HC0:=Lib.hid (H0.out _ _ _ _ _ _ _ _ g v l hr0 hbW ha (by omega))
 have HG:=Lib.hid hg
 have HNA:=Lib.hid (nodeAt_new hw [.int .i64 16,.int .i64 at1,.slice A1 n1 c1,.slice A2 n2 c2,.string name,.int .i32 c,.slice (some ⟨b,o,none⟩) 1 cc] 31)
 have HLL:Hid ((joinP l s0).length+1<=1099511627000):=by unfold Hid;omega
 obtain ⟨y0,y1,y2,y3,y4,y5,y6⟩:=kidC_of hc0 hbW
 clear ht hb hw hl hb1 ha hg H0 hk hr0 hc0 hm hjl hj2 hbW
 go_enter Tryz.func80,Tryz.ntmps80
 go_wp2_with fail
 (with_reducible refine HC0.out.mono ?_)
 rintro e w1 ⟨rfl,v',hw',hg',hb'⟩
 have HW1:=Lib.hid hw'
 have HG1:=Lib.hid (HG.out.trans hg')
 have HN1:=Lib.hid (HNA.out.grew hg')
 have HP:=Lib.hid (put_new1 c w1.heap.size rfl hb' hw' HLL.out)
 obtain ⟨x0,x1,x2,x3,x4,x5,x6⟩:=HN1.out.c7
 clear hw' hg' hb' y0 y1 y2 y3 y4 y5 y6
 go_wp2_with fail
 (with_reducible refine HP.out.mono ?_)
 rintro e w2 ⟨rfl,v2,hw2,hg2,hb2⟩
 have HF:Hid (Stepped w0 w g v (joinP l (joinP s0 [c])) w2):=⟨v2,by rw [<- joinP_assoc];exact hw2,HG1.out.trans hg2,hb2⟩
 clear hw2 hg2 hb2 x0 x1 x2 x3 x4 x5 x6
 go_wp2
 go_end0
 exact ⟨rfl,HF.out⟩
def TellsT (f:FuncId) (w0:World) (t:RTree) (b:Bool):Prop:=∀ v0 v1 v2 v3 v4 v5 v6 w,TN w0 t [v0,v1,v2,v3,v4,v5,v6]->Below w0.heap.size w0 w->Calls Tryz.prog f #[.agg #[v0,v1,v2,v3,v4,v5,v6]] w fun e w'=>e= .returned (.bool b)/\Below w.heap.size w w'
theorem slashed_13 (w0:World) (nums:List Nat) (text:List Int) (name:ByteArray) (c:Int) (kids:List RTree):TellsT 125 w0 (.mk 13 nums text name c kids) (slashB c):=by
 intro v0 v1 v2 v3 v4 v5 v6 w ht _
 obtain ⟨at1,A1,n1,c1,A2,n2,c2,A,m,cc,rfl,rfl,rfl,rfl,rfl,rfl,rfl,-,-,-⟩:=ht.form
 have HS:=Lib.hid (slash_walk c)
 have HB:Hid (Below w.heap.size w (w.alloc (.cells #[.int .i64 13,.int .i64 at1,.slice A1 n1 c1,.slice A2 n2 c2,.string name,.int .i32 c,.slice A m cc] 31))):=(Below.refl _ w).alloc (Nat.le_refl _) _
 generalize slashB c=R at *
 clear ht
 go_enter Tryz.func125,Tryz.ntmps125
 go_wp2_with fail
 (with_reducible refine (HS.out _).mono ?_)
 rintro e w1 ⟨rfl,rfl⟩
 go_wp2
 go_ret
 exact ⟨rfl,HB.out⟩
theorem slashed_16 (w0:World) (k:Int) (hk16:k=16\/k=17) (nums:List Nat) (text:List Int) (name:ByteArray) (c:Int) (t0:RTree) (ts:List RTree) (R:Bool) (H0:Hid (TellsT 125 w0 t0 R)):TellsT 125 w0 (.mk k nums text name c (t0::ts)) R:=by
 intro v0 v1 v2 v3 v4 v5 v6 w ht hb
 obtain ⟨at1,A1,n1,c1,A2,n2,c2,A,m,cc,rfl,rfl,rfl,rfl,rfl,rfl,rfl,hm,-,hk⟩:=ht.form
 obtain ⟨b,o,u0,u1,u2,u3,u4,u5,u6,rfl,hr0,hc0⟩:=hk.kid0
 have hm1:0 < m:=by rw [hm];simp
 have hb1:=(Below.refl _ w).alloc (Nat.le_refl _) (.cells #[.int .i64 k,.int .i64 at1,.slice A1 n1 c1,.slice A2 n2 c2,.string name,.int .i32 c,.slice (some ⟨b,o,none⟩) m cc] 31)
 have HB:=Lib.hid hb1
 have hbW:=hb.trans (hb1.mono hb.size)
 have HC:=Lib.hid (H0.out _ _ _ _ _ _ _ _ hr0 hbW)
 obtain ⟨y0,y1,y2,y3,y4,y5,y6⟩:=kidC_of hc0 hbW
 clear ht hb hbW hk hr0 hc0 hm hb1 H0
 rcases hk16 with rfl | rfl
 all_goals
  go_enter Tryz.func125,Tryz.ntmps125
  go_wp2_with fail
  (with_reducible refine HC.out.mono ?_)
  rintro e w1 ⟨rfl,hb⟩
  have HB2:=Lib.hid (HB.out.trans (hb.mono HB.out.size))
  clear hb y0 y1 y2 y3 y4 y5 y6
  go_wp2
  go_ret
  exact ⟨rfl,HB2.out⟩
theorem inside_plain (w0:World) (t:RTree) (s:List Int) (H:Hid (NodeP 38 w0 t s)):∀ v0 v1 v2 v3 v4 v5 v6 w g v l,TN w0 t [v0,v1,v2,v3,v4,v5,v6]->Below w0.heap.size w0 w->WSt w w0.heap.size g v l->l.length+2*s.length<=1099511627000 ->
  Calls Tryz.prog 76 #[.pointer (some ⟨g,0,none⟩),.agg #[v0,v1,v2,v3,v4,v5,v6],.bool true] w fun e w'=>e= .returned (.tuple #[])/\Stepped w0 w g v (joinP l s) w':=by
 intro v0 v1 v2 v3 v4 v5 v6 w g v l ht hb hw hl
 have hb1:=(Below.refl _ w).alloc (Nat.le_refl _) (.cells #[v0,v1,v2,v3,v4,v5,v6] 31)
 obtain ⟨ha,hg⟩:=hw.below hb1
 have HC:=Lib.hid (H.out _ _ _ _ _ _ _ _ g v l ht (hb.trans (hb1.mono hb.size)) ha hl)
 have HG:=Lib.hid hg
 clear ht hb hw hl hb1 ha hg H
 go_enter Tryz.func76,Tryz.ntmps76
 go_wp2_with fail
 (with_reducible refine HC.out.mono ?_)
 rintro e w1 ⟨rfl,v',hw',hg',hb'⟩
 have HF:Hid (Stepped w0 w g v (joinP l s) w1):=⟨v',hw',HG.out.trans hg',hb'⟩
 clear hw' hg' hb'
 go_wp2
 exact bodyPost_ret (results_none rfl _ _ _) rfl ⟨rfl,HF.out⟩
def H9 (w0:World) (g:Nat) (v:Value) (l:List Int) (wa:World) (b1:Nat) (vs:List Value) (W:World):Prop:=Below w0.heap.size w0 W/\WSt W w0.heap.size g v l/\Grew g v wa W v/\NodeAt W g v b1 vs
def D9 (w0:World) (g:Nat) (v:Value) (l:List Int) (wa:World) (b1:Nat) (vs:List Value) (W:World):Prop:=∃ v',Below w0.heap.size w0 W/\WSt W w0.heap.size g v' l/\Grew g v wa W v'/\NodeAt W g v' b1 vs
theorem H9.done {w0 wa W W':World}{g:Nat}{v:Value}{l l':List Int}{b1:Nat}{vs:List Value} (h:H9 w0 g v l wa b1 vs W) (k:Stepped w0 W g v l' W'):D9 w0 g v l' wa b1 vs W':=by
 obtain ⟨v',h1,h2,h3⟩:=k
 exact ⟨v',h3,h1,h.2.2.1.trans h2,h.2.2.2.grew h2⟩
theorem H9.step {w0 wa W W':World}{g:Nat}{v:Value}{l:List Int}{b1:Nat}{vs:List Value} (h:H9 w0 g v l wa b1 vs W) (hb:Below W.heap.size W W'):H9 w0 g v l wa b1 vs W':=by
 obtain ⟨h1,h2⟩:=h.2.1.below hb
 exact ⟨h.1.trans (hb.mono h.1.size),h1,h.2.2.1.trans h2,h.2.2.2.grew h2⟩
theorem more_9 (w0:World) (nums:List Nat) (text:List Int) (name:ByteArray) (c:Int) (t0 t1:RTree) (s0 s1:List Int) (H0:Hid (NodeP 38 w0 t0 s0)) (H1:Hid (NodeP 38 w0 t1 s1)) (HS:Hid (TellsT 125 w0 t0 false)) (hs0:s0≠[]) (hs1:s1≠[]) :
  NodeP 80 w0 (.mk 9 nums text name c [t0,t1]) (joinP s0 s1):=by
 intro v0 v1 v2 v3 v4 v5 v6 w g v l ht hb hw hl
 obtain ⟨at1,A1,n1,c1,A2,n2,c2,A,m,cc,rfl,rfl,rfl,rfl,rfl,rfl,rfl,hm,-,hk⟩:=ht.form
 obtain ⟨b,o,u0,u1,u2,u3,u4,u5,u6,rfl,hr0,hc0⟩:=hk.kid0
 obtain ⟨p0,p1,p2,p3,p4,p5,p6,hr1,hc1⟩:=hk.kid1
 obtain rfl:m=2:=by simpa using hm
 have hb1:=(Below.refl _ w).alloc (Nat.le_refl _) (.cells #[.int .i64 9,.int .i64 at1,.slice A1 n1 c1,.slice A2 n2 c2,.string name,.int .i32 c,.slice (some ⟨b,o,none⟩) 2 cc] 31)
 obtain ⟨ha,hg⟩:=hw.below hb1
 have hjl:=joinP_len s0 s1
 have hj2:=joinP_len l s0
 have hs1l:0 < s1.length:=List.length_pos_iff.2 hs1
 have hs0l:0 < s0.length:=List.length_pos_iff.2 hs0
 have hbW:=hb.trans (hb1.mono hb.size)
 have HI:=Lib.hid (inside_plain w0 t0 s0 H0 u0 u1 u2 u3 u4 u5 u6)
 have HNA:=nodeAt_new hw [.int .i64 9,.int .i64 at1,.slice A1 n1 c1,.slice A2 n2 c2,.string name,.int .i32 c,.slice (some ⟨b,o,none⟩) 2 cc] 31
 have h9:H9 w0 g v l w w.heap.size [.int .i64 9,.int .i64 at1,.slice A1 n1 c1,.slice A2 n2 c2,.string name,.int .i32 c,.slice (some ⟨b,o,none⟩) 2 cc] (w.alloc (.cells #[.int .i64 9,.int .i64 at1,.slice A1 n1 c1,.slice A2 n2 c2,.string name,.int .i32 c,.slice (some ⟨b,o,none⟩) 2 cc] 31)):=⟨hbW,ha,hg,HNA⟩
 have hL0:l.length+2*s0.length<=1099511627000:=by omega
 have HLL:Hid ((joinP l s0).length+2*s1.length<=1099511627000):=by unfold Hid;omega
 have HR0:=Lib.hid hr0;have HR1:=Lib.hid hr1;have HK0:=Lib.hid hc0;have HK1:=Lib.hid hc1
 have HI2:Hid (∀ W,H9 w0 g v l w w.heap.size [.int .i64 9,.int .i64 at1,.slice A1 n1 c1,.slice A2 n2 c2,.string name,.int .i32 c,.slice (some ⟨b,o,none⟩) 2 cc] W->Calls Tryz.prog 76 #[.pointer (some ⟨g,0,none⟩),.agg #[u0,u1,u2,u3,u4,u5,u6],.bool true] W fun e w'=>e= .returned (.tuple #[])/\Stepped w0 W g v (joinP l s0) w'):=fun W h=>HI.out W g v l hr0 h.1 h.2.1 hL0
 have HSS:Hid (∀ W,H9 w0 g v l w w.heap.size [.int .i64 9,.int .i64 at1,.slice A1 n1 c1,.slice A2 n2 c2,.string name,.int .i32 c,.slice (some ⟨b,o,none⟩) 2 cc] W->Calls Tryz.prog 125 #[.agg #[u0,u1,u2,u3,u4,u5,u6]] W fun e w'=>e= .returned (.bool false)/\Below W.heap.size W w'):=fun W h=>HS.out _ _ _ _ _ _ _ W hr0 h.1
 have H9H:=Lib.hid h9
 clear ht hb hw hl hb1 ha hg H0 hk hr0 hc0 hr1 hc1 hm hjl hj2 hbW HNA h9 HI HS hs1 hs1l hs0 hs0l hL0
 go_enter Tryz.func80,Tryz.ntmps80
 go_wp2_with fail
 generalize w.alloc (.cells #[.int .i64 9,.int .i64 at1,.slice A1 n1 c1,.slice A2 n2 c2,.string name,.int .i32 c,.slice (some ⟨b,o,none⟩) 2 cc] 31)=W at *
 have hs:∀ W,H9 w0 g v l w w.heap.size [.int .i64 9,.int .i64 at1,.slice A1 n1 c1,.slice A2 n2 c2,.string name,.int .i32 c,.slice (some ⟨b,o,none⟩) 2 cc] W->W.cell? ⟨w.heap.size,6,none⟩=some (.slice (some ⟨b,o,none⟩) 2 cc)/\W.cell? ⟨b,o,none⟩=some u0/\W.cell? ⟨b,o+1,none⟩=some u1/\W.cell? ⟨b,o+2,none⟩=some u2/\W.cell? ⟨b,o+3,none⟩=some u3/\W.cell? ⟨b,o+4,none⟩=some u4/\W.cell? ⟨b,o+5,none⟩=some u5/\W.cell? ⟨b,o+6,none⟩=some u6:=fun W h =>
  ⟨h.2.2.2.c7.2.2.2.2.2.2,(kidC_of HK0.out h.1).1,(kidC_of HK0.out h.1).2.1,(kidC_of HK0.out h.1).2.2.1,(kidC_of HK0.out h.1).2.2.2.1,(kidC_of HK0.out h.1).2.2.2.2.1,(kidC_of HK0.out h.1).2.2.2.2.2.1,(kidC_of HK0.out h.1).2.2.2.2.2.2⟩
 have hs':∀ W,D9 w0 g v (joinP l s0) w w.heap.size [.int .i64 9,.int .i64 at1,.slice A1 n1 c1,.slice A2 n2 c2,.string name,.int .i32 c,.slice (some ⟨b,o,none⟩) 2 cc] W->W.cell? ⟨w.heap.size,6,none⟩=some (.slice (some ⟨b,o,none⟩) 2 cc)/\W.cell? ⟨b,o,none⟩=some u0/\W.cell? ⟨b,o+1,none⟩=some u1/\W.cell? ⟨b,o+2,none⟩=some u2/\W.cell? ⟨b,o+3,none⟩=some u3/\W.cell? ⟨b,o+4,none⟩=some u4/\W.cell? ⟨b,o+5,none⟩=some u5/\W.cell? ⟨b,o+6,none⟩=some u6:=fun W ⟨_,h⟩ =>
  ⟨h.2.2.2.c7.2.2.2.2.2.2,(kidC_of HK0.out h.1).1,(kidC_of HK0.out h.1).2.1,(kidC_of HK0.out h.1).2.2.1,(kidC_of HK0.out h.1).2.2.2.1,(kidC_of HK0.out h.1).2.2.2.2.1,(kidC_of HK0.out h.1).2.2.2.2.2.1,(kidC_of HK0.out h.1).2.2.2.2.2.2⟩
 have HSA:=Lib.hid hs
 have HSD:=Lib.hid hs'
 have h9d:=H9H.out.step (Below.refl _ W).drew
 have hs1:=hs _ h9d
 clear hs hs'
 go_region_held3 (fun W=>W.cell? ⟨w.heap.size,6,none⟩=some (.slice (some ⟨b,o,none⟩) 2 cc)/\W.cell? ⟨b,o,none⟩=some u0/\W.cell? ⟨b,o+1,none⟩=some u1/\W.cell? ⟨b,o+2,none⟩=some u2/\W.cell? ⟨b,o+3,none⟩=some u3/\W.cell? ⟨b,o+4,none⟩=some u4/\W.cell? ⟨b,o+5,none⟩=some u5/\W.cell? ⟨b,o+6,none⟩=some u6) (first | assumption | exact hs1) (first | (go_at_call 125;refine (HSS.out _ (by assumption)).mono ?_;rintro e w2 ⟨rfl,hb2⟩;have h92:=(‹H9 _ _ _ _ _ _ _ _›).step hb2;have hs2:=HSA.out _ h92) | (go_at_call 76;refine (HI2.out _ (by assumption)).mono ?_;rintro e w3 ⟨rfl,hst⟩;have h93:=H9.done h92 hst;have hs3:=HSD.out _ h93))
 all_goals
  obtain ⟨v1,hb1,hw1,hg1,hn1⟩:=h93
  have HW1:=Lib.hid hw1
  have HG1:=Lib.hid hg1
  have HN1:=Lib.hid hn1
  have HC1:=Lib.hid (H1.out _ _ _ _ _ _ _ _ g v1 _ HR1.out hb1 hw1 HLL.out)
  obtain ⟨x0,x1,x2,x3,x4,x5,x6⟩:=hn1.c7
  obtain ⟨y0,y1,y2,y3,y4,y5,y6⟩:=kidC_of HK1.out hb1
  clear hb1 hw1 hg1 hn1 hst hs3 hs1 h9d hs2 h92
  go_wp2_with fail
  (with_reducible refine HC1.out.mono ?_)
  rintro e w4 ⟨rfl,v2,hw2,hg2,hb2⟩
  have HF:Hid (Stepped w0 w g v (joinP l (joinP s0 s1)) w4):=⟨v2,by rw [<- joinP_assoc];exact hw2,HG1.out.trans hg2,hb2⟩
  clear hw2 hg2 hb2 x0 x1 x2 x3 x4 x5 x6 y0 y1 y2 y3 y4 y5 y6
  go_wp2
  go_end0
  exact ⟨rfl,HF.out⟩
end Go.Proofs.YtbakjaliponbbaaGreatDoor
