/- What fine tells; an array and a plain array in blocks of a call's own. fine and shows of the laws of layer 25. The walks of the reference's Num and Nums, and .. Conditions: as each theorem says. -/
import Derived.Test.YtakgmnafbjdccaaGreatDoorMg32
import Derived.Test.YtakgmnafbjdccaaGreatDoorMg24
import Derived.Deep.AppendLies
import Derived.Deep.RegionLaw
import Derived.Test.YtakgmnafbjdccaaGreatDoorMg28
import Derived.Test.YtakgmnafbjdccaaGreatDoorMg16
import Derived.Test.YtakgmnafbjdccaaGreatDoorMg31
import Derived.Test.YtakgmnafbjdccaaGreatDoorMg14
import Derived.Test.YtakgmnafbjdccaaGreatDoorMg15
import Derived.Test.YtakgmnafbjdccaaGreatDoorMg26
import Derived.Test.YtakgmnafbjdccaaGreatDoorMg21
set_option maxRecDepth 100000
set_option maxHeartbeats 1000000
namespace Go.Proofs.YtakgmnafbjdccaaGreatDoor
open Go Go.RowKit Go.Proofs Fl
def FineR (t:RP) (w:World) (e:Ending) (w':World):Prop:=∃ b:Bool,e= .returned (.bool b)/\(b=true->OkP 40 t/\cntP t<=1500)/\Below w.heap.size w w'
structure LdQ (w0:World) (G:Nat) (h:Sl) (p:V8) (h1 x1:Sl) (f:Int) (W:World):Prop where
 one:At9 W G 0 h p
 two:At3 W (G+1) 0 h1 x1 f
 bel:Below w0.heap.size w0 W
theorem LdQ.new (w:World) (h:Sl) (p:V8) (h1 x1:Sl) (f:Int):LdQ ((w.alloc (arrO h p)).alloc (plO h1 x1 f)) w.heap.size h p h1 x1 f ((w.alloc (arrO h p)).alloc (plO h1 x1 f)):=by
 have g:=at3_box (w.alloc (arrO h p)) h1 x1 f
 have e:(w.alloc (arrO h p)).heap.size=w.heap.size+1:=by simp
 rw [e] at g
 exact ⟨(at9_new w h p).below (bel1 _ _),g,Below.refl _ _⟩
theorem LdQ.step {w0 W W':World}{G:Nat}{h:Sl}{p:V8}{h1 x1:Sl}{f:Int} (g:LdQ w0 G h p h1 x1 f W) (hb:Below W.heap.size W W'):LdQ w0 G h p h1 x1 f W' :=
 ⟨g.one.below hb,g.two.of fun j=>hb.cell (p:=⟨G+1,j,none⟩) g.two.lt,bel_both g.bel hb⟩
theorem LdQ.dr {w0 W:World}{G:Nat}{h:Sl}{p:V8}{h1 x1:Sl}{f:Int} (g:LdQ w0 G h p h1 x1 f W):LdQ w0 G h p h1 x1 f W.drew:=g.step (Below.refl _ W).drew
theorem LdQ.self {w0 W:World}{G:Nat}{h:Sl}{p:V8}{h1 x1:Sl}{f:Int} (g:LdQ w0 G h p h1 x1 f W):LdQ w0 G h p h1 x1 f W:=g
theorem ldq_s {w0 W:World}{G:Nat}{h:Sl}{p:V8}{h1 x1:Sl}{f:Int} (g:LdQ w0 G h p h1 x1 f W):(W.cell? ⟨G,0,none⟩=some (.slice h.1 h.2.1 h.2.2)/\W.cell? ⟨G,1,none⟩=some (.int .i64 p.k)/\W.cell? ⟨G,2,none⟩=some (.slice p.b.1 p.b.2.1 p.b.2.2)/\W.cell? ⟨G,3,none⟩=some (.int .i64 p.bn) /\
  W.cell? ⟨G,4,none⟩=some (.slice p.s.1 p.s.2.1 p.s.2.2)/\W.cell? ⟨G,5,none⟩=some (.slice p.i.1 p.i.2.1 p.i.2.2)/\W.cell? ⟨G,6,none⟩=some (.slice p.f.1 p.f.2.1 p.f.2.2)/\W.cell? ⟨G,7,none⟩=some (.slice p.c.1 p.c.2.1 p.c.2.2)/\W.cell? ⟨G,8,none⟩=some (.slice p.x.1 p.x.2.1 p.x.2.2)) /\
  (W.cell? ⟨G+1,0,none⟩=some (.slice h1.1 h1.2.1 h1.2.2)/\W.cell? ⟨G+1,1,none⟩=some (.slice x1.1 x1.2.1 x1.2.2)/\W.cell? ⟨G+1,2,none⟩=some (.int .i64 f))/\LdQ w0 G h p h1 x1 f W:=⟨g.one.c,at3_c g.two,g⟩
theorem fine25_any (t:RP) (h x:Sl) (f:Int) (w:World) (hfit:FitP t) (hM:cntP t<=1048576) (hr:PV (fun _=>False) w t h x f) :
  Calls Tryz.prog 18 #[plV h x f] w (FineR t w):=by
 have HB0:=Lib.hid (bel1 w (plO h x f))
 have HX0:=Lib.hid (at3_box w h x f)
 have HCN:=Lib.hid (cnt_walk 3000 (cntP t) t h x f (w.alloc (plO h x f)) (Nat.le_refl _) hM (hr.step HB0.out))
 have HCK:=Lib.hid (fun W (hb:Below w.heap.size w W)=>check_any t h x f W hfit hM (hr.step hb))
 clear hfit hM hr
 go_enter Tryz.func18,Tryz.ntmps18
 go_wp2_with fail
 refine HCN.out.mono ?_
 rintro e w1 ⟨⟨n,rfl,hn⟩,hb⟩
 have HN:=Lib.hid hn
 have HB1:=Lib.hid (bel_both HB0.out hb)
 have HX1:=Lib.hid (HX0.out.of fun j=>hb.cell (p:=⟨w.heap.size,j,none⟩) HX0.out.lt)
 clear hb hn
 obtain ⟨c0,c1,c2⟩:=at3_c HX1.out
 by_cases h1:(n:Int)<=1500
 ·have h1':decide ((n:Int)<=1500)=true:=decide_eq_true h1
  by_cases h2:(h.2.1:Int)<=8
  ·have h2':decide ((h.2.1:Int)<=8)=true:=decide_eq_true h2
   have h2n:h.2.1<=8:=by omega
   have HN1:Hid (cntP t<=1500):=by
    have:=HN.out.2.2 (by omega)
    unfold Hid;omega
   clear h1
   go_wp2_with fail
   refine (HCK.out _ HB1.out).mono ?_
   rintro e w2 ⟨⟨z,rfl,hz⟩,hb⟩
   have HB2:=Lib.hid (bel_both HB1.out hb)
   have HZ:=Lib.hid hz
   clear hb hz c0 c1 c2
   go_wp2
   go_ret
   exact ⟨_,rfl,fun e=>⟨HZ.out (by simpa using e),HN1.out⟩,HB2.out⟩
  ·have h2':decide ((h.2.1:Int)<=8)=false:=decide_eq_false h2
   have h2n:¬ h.2.1<=8:=by omega
   clear h1
   go_wp2
   go_ret
   exact ⟨false,rfl,(fun e=>by cases e),HB1.out⟩
 ·have h1':decide ((n:Int)<=1500)=false:=decide_eq_false h1
  go_wp2
  go_ret
  exact ⟨false,rfl,(fun e=>by cases e),HB1.out⟩
theorem shows25_ok {H H':Nat->Prop}{a:PA}{h:Sl}{p:V8}{h1 x1:Sl}{f:Int}{w:World} (hH:∀ b,H b->b < w.heap.size) (hg:GoodA 40 a) (hs:SmA 1000000 a) (hav:AV H w a h p) (hpv:PV H' w (rawP a) h1 x1 f) :
  Calls Tryz.prog 21 #[arrV h p,.int .i64 0,plV h1 x1 f,.int .i64 0] w fun e w'=>e= .returned (.bool true)/\Below w.heap.size w w':=by
 obtain ⟨w0,hw0⟩:∃ w0,w0=(w.alloc (arrO h p)).alloc (plO h1 x1 f):=⟨_,rfl⟩
 have HW0:=Lib.hid hw0
 have HS0:Hid (LdQ w0 w.heap.size h p h1 x1 f w0):=by rw [hw0];exact LdQ.new w h p h1 x1 f
 have HB0:Hid (Below w.heap.size w w0):=by unfold Hid;rw [hw0];exact bel2 _ _ _
 have HGD:=Lib.hid (fun W (hW:LdQ w0 w.heap.size h p h1 x1 f W)=>vgood_any (AV.step hav (bel_both HB0.out hW.bel)) (fun b e=>by have:=hH b e;have:=hW.bel.size;have:=HB0.out.size;omega) hg hs)
 have HPL:=Lib.hid (fun W (hW:LdQ w0 w.heap.size h p h1 x1 f W)=>vplain_any 40 H a h p W (fun b e=>by have:=hH b e;have:=hW.bel.size;have:=HB0.out.size;omega) hg hs (AV.step hav (bel_both HB0.out hW.bel)))
 unfold PlR at HPL
 have hsame:SameC (rawP a):=rsame_raw 40 hg hs
 have HSM:=Lib.hid (fun W (hW:LdQ w0 w.heap.size h p h1 x1 f W) (h2 x2:Sl) (f2:Int) (hp2:PV H W (rawP a) h2 x2 f2)=>hsame H H' h2 x2 h1 x1 f2 f W hp2 (hpv.step (bel_both HB0.out hW.bel)))
 clear hH hg hs hav hpv hsame hw0
 generalize rawP a=t at HPL HSM
 generalize (a.fill:Int)=fl at HPL
 go_enter Tryz.func21,Tryz.ntmps21
 go_wp2_with fail
 rw [<- HW0.out]
 have hs0:=HS0.out.dr
 have hs00:=HS0.out
 go_region_held3 (fun W=>(W.cell? ⟨w.heap.size,0,none⟩=some (.slice h.1 h.2.1 h.2.2)/\W.cell? ⟨w.heap.size,1,none⟩=some (.int .i64 p.k)/\W.cell? ⟨w.heap.size,2,none⟩=some (.slice p.b.1 p.b.2.1 p.b.2.2)/\W.cell? ⟨w.heap.size,3,none⟩=some (.int .i64 p.bn)/\W.cell? ⟨w.heap.size,4,none⟩=some (.slice p.s.1 p.s.2.1 p.s.2.2)/\W.cell? ⟨w.heap.size,5,none⟩=some (.slice p.i.1 p.i.2.1 p.i.2.2)/\W.cell? ⟨w.heap.size,6,none⟩=some (.slice p.f.1 p.f.2.1 p.f.2.2)/\W.cell? ⟨w.heap.size,7,none⟩=some (.slice p.c.1 p.c.2.1 p.c.2.2)/\W.cell? ⟨w.heap.size,8,none⟩=some (.slice p.x.1 p.x.2.1 p.x.2.2))/\(W.cell? ⟨w.heap.size+1,0,none⟩=some (.slice h1.1 h1.2.1 h1.2.2)/\W.cell? ⟨w.heap.size+1,1,none⟩=some (.slice x1.1 x1.2.1 x1.2.2)/\W.cell? ⟨w.heap.size+1,2,none⟩=some (.int .i64 f))/\LdQ w0 w.heap.size h p h1 x1 f W)
  (first | (with_reducible assumption) | (with_reducible (refine ldq_s ?_);repeat (first | (with_reducible assumption) | (with_reducible refine LdQ.dr ?_))))
  (first
   | (go_at_call 61;(with_reducible refine (HGD.out _ ?_).mono ?_);exact LdQ.self (by repeat (first | (with_reducible assumption) | (with_reducible refine LdQ.dr ?_)));rintro e w1 ⟨rfl,hb1⟩;have hst1:LdQ w0 w.heap.size h p h1 x1 f w1:=LdQ.step (by repeat (first | (with_reducible assumption) | (with_reducible refine LdQ.dr ?_))) hb1;clear hb1)
   | (go_at_call 63;(with_reducible refine (HPL.out _ ?_).mono ?_);exact LdQ.self (by repeat (first | (with_reducible assumption) | (with_reducible refine LdQ.dr ?_)));rintro e w2 ⟨h2,x2,rfl,hpv2,hb2⟩;have hst2:LdQ w0 w.heap.size h p h1 x1 f w2:=LdQ.step (by repeat (first | (with_reducible assumption) | (with_reducible refine LdQ.dr ?_))) hb2;have HSC:=Lib.hid (HSM.out w2 hst2 h2 x2 fl hpv2);clear hb2 hpv2)
   | (go_at_call 62;(with_reducible refine HSC.out.mono ?_);rintro e w3 ⟨rfl,hb3⟩;have hst3:LdQ w0 w.heap.size h p h1 x1 f w3:=LdQ.step hst2 hb3;clear hb3))
 all_goals
  go_wp2
  go_ret
  exact ⟨rfl,bel_both HB0.out hst3.bel⟩
theorem rnum_any (b:Nat) (H:Nat->Prop) (w:World) (hH:∀ b,H b->b < w.heap.size) :
  Calls Tryz.prog 49 #[.float .f64 b] w (PlR H w (rawP (.nums [] [b])) 0):=by
 have HH:=Lib.hid hH
 clear hH
 have HB:=Lib.hid (bel2 w (plO nilS (some ⟨w.heap.size+1,0,none⟩,1,1) 0) (itO 0 b 0 nilS))
 have HR:Hid (((w.alloc (plO nilS (some ⟨w.heap.size+1,0,none⟩,1,1) 0)).alloc (itO 0 b 0 nilS)).heap[w.heap.size]?=some (plO nilS (some ⟨w.heap.size+1,0,none⟩,1,1) 0)):=block_up (bel1 _ _)
 have HI:Hid (At4 ((w.alloc (plO nilS (some ⟨w.heap.size+1,0,none⟩,1,1) 0)).alloc (itO 0 b 0 nilS)) (w.heap.size+1) 0 0 b 0 nilS):=by
  have g:=at4_box (w.alloc (plO nilS (some ⟨w.heap.size+1,0,none⟩,1,1) 0)) 0 b 0 nilS
  have e:(w.alloc (plO nilS (some ⟨w.heap.size+1,0,none⟩,1,1) 0)).heap.size=w.heap.size+1:=by simp
  rw [e] at g
  exact g
 go_enter Tryz.func49,Tryz.ntmps49
 go_wp2
 refine bodyPost_ret (v:=plV nilS (some ⟨w.heap.size+1,0,none⟩,1,1) 0) ?_ rfl ⟨nilS,(some ⟨w.heap.size+1,0,none⟩,1,1),rfl,?_,HB.out⟩
 ·exact ret_plain (fn:=Tryz.f49) (p:=2) rfl _ _ w.heap.size (by rfl) HR.out
 ·rw [rawP]
  refine pv_of (fun W hz hb => .inl ⟨none,0,rfl,rfl⟩) rfl fun i hi=>?_
  have hi0:i=0:=by simpa using hi
  subst hi0
  exact ⟨w.heap.size+1,0,0,b,0,nilS,rfl,fun e=>by have:=HH.out _ e;omega,iv_none _ _ _ _ _ _ _,HI.out⟩
theorem step_pushI {ops:Array Oper}{o:Oper}{a:Act}{K:Act->World->Prop}{Q:Exit->Act->World->Prop}{E:Prop}{w:World} (hgd:o.guard=none) (s x:Operand)
  (ho:o.op= .call { callee := .builtin .append,args:=#[s,x],argTypes:=#[23,23]})
  (H:Nat->Prop) (B:Nat) (v:Value) (l:List RI) (hs:a.eval s=v) (hown:IOwn H w B v l) (q:I4) (A:RI) (hA:IV (fun b=>H b\/v.ownBlock=some b) w A q.k q.n q.c q.x)
  (G:Nat) (hG:w.heap[G]?=some (itO q.k q.n q.c q.x)) (hx:a.eval x= .slice (some ⟨G,0,none⟩) 1 1) (hl:l.length<=1048576) (hB:B<=w.heap.size)
  (k:∀ A' n' c' w',IOwn H w' B (.slice A' n' c') (l++[A])->(∀ w0,Below B w0 w->Below B w0 w')->K (a.put o.dst (.slice A' n' c')) w') :
  if Region.wanted o (yielded ops a.tmps)=true then Oper.wp Tryz.prog o a w K Q else E:=by
 obtain ⟨i0,hi0,hz0,hz1,hz2⟩:=info_parts item_info
 obtain ⟨qq,hrow,hel⟩:=hown
 refine step_append_lies w hgd s x 23 ho B 55 i0 _ 4 48 Tryz.underlying23 hi0 hz0 hz1 hz2 rfl (by omega) v l.length _ hs hrow ⟨G,0,none⟩ 1 1 (itL q) hx rfl ?_ ?_ (by omega) (by unfold maxLen;omega) (by omega) hB _ rfl ?_
 ·intro j u hj
  rw [add_zero_off,Nat.zero_add,cell_of_row _ G j _ _ (0,0) hG]
  simpa using hj
 ·intro u hu
  simp only [List.mem_cons,List.not_mem_nil,or_false] at hu
  rcases hu with rfl | rfl | rfl | rfl <;> rfl
 intro g cap w' hown' hg hat _
 have hsz:w.heap.size<=w'.heap.size:=hg.size
 refine k _ _ _ w' ⟨fun i=>if i < l.length then qq i else q,?_,fun i hi=>?_⟩ (fun w0 hb=>hb.grown hg hB fun k hk=>(World.ownsRow.lt hrow k hk).1)
 ·rw [show (l++[A]).length=l.length+1 by simp,flatI_succ]
  have e:flatI l.length (fun i=>if i < l.length then qq i else q)=flatI l.length qq:=flatI_congr _ fun i hi=>by rw [if_pos hi]
  rw [e,if_neg (Nat.lt_irrefl _)]
  exact hown'
 ·have hlat:Lat (fun b=>v.ownBlock=some b) w w':=⟨hsz,fun b hb hn=>hg.block b hb (fun e=>hn e.symm)⟩
  have up:∀ {A:RI} {q:I4},IV (fun b=>H b\/v.ownBlock=some b) w A q.k q.n q.c q.x->IV (fun b=>H b\/(Value.slice (some ⟨g,0,none⟩) (l.length+1) cap).ownBlock=some b) w' A q.k q.n q.c q.x:=by
   intro A q hA
   have h1:IV (fun b=>(H b\/v.ownBlock=some b)\/b=g) w A q.k q.n q.c q.x:=IV.sub (fun b hb e=>by
    rcases e with e | e
    ·exact e
    ·subst e
     rcases hat with e2 | e2
     ·exact .inr e2
     ·omega) hA
   have h2:IV (fun b=>(H b\/v.ownBlock=some b)\/b=g) w' A q.k q.n q.c q.x:=IV.lat ⟨hlat.size,fun b hb hn=>hlat.block b hb fun e=>hn (.inl (.inr e))⟩ h1
   exact IV.sub (fun b _ e=>by
    rcases e with e | e
    ·exact .inl (.inl e)
    ·have e3:g=b:=by
      have:(Value.slice (some ⟨g,0,none⟩) (l.length+1) cap).ownBlock=some g:=rfl
      rw [this] at e
      injection e
     exact .inr e3.symm) h2
  by_cases hi2:i < l.length
  ·dsimp only
   rw [if_pos hi2,List.getElem_append_left hi2]
   exact up (hel i hi2)
  ·have e:i=l.length:=by rw [List.length_append] at hi;simp at hi;omega
   subst e
   dsimp only
   rw [if_neg hi2]
   simp only [List.getElem_append_right (Nat.le_refl _),Nat.sub_self,List.getElem_cons_zero]
   exact up hA
abbrev shO (n:Int):Obj := .cells #[.int .i64 n] 3
structure NmI (H:Nat->Prop) (w:World) (n:Nat) (l:List RI) (v:Value) (W:World):Prop where
 own:IOwn (fun b=>H b\/b=w.heap.size\/b=w.heap.size+2) W (w.heap.size+3) v l
 out:W.heap[w.heap.size+2]?=some (.cells #[sv (some ⟨w.heap.size+1,0,none⟩,1,1),v,.int .i64 0] 25)
 res:W.heap[w.heap.size]?=some (.cells zeroPl 25)
 shp:W.heap[w.heap.size+1]?=some (shO (n:Int))
 bel:Below w.heap.size w W
theorem NmI.step {H:Nat->Prop}{w W W':World}{n:Nat}{l:List RI}{v:Value} (g:NmI H w n l v W) (hb:Below W.heap.size W W'):NmI H w n l v W' :=
 ⟨g.own.below hb,by rw [hb.block _ (lt_blk g.out)];exact g.out,by rw [hb.block _ (lt_blk g.res)];exact g.res,by rw [hb.block _ (lt_blk g.shp)];exact g.shp,bel_both g.bel hb⟩
theorem NmI.push {H:Nat->Prop}{w W w':World}{n:Nat}{l:List RI}{v v':Value}{A:RI} (g:NmI H w n l v W) (hH:∀ b,H b->b < w.heap.size) (hown:IOwn (fun b=>H b\/b=w.heap.size\/b=w.heap.size+2) w' (w.heap.size+3) v' (l++[A])) (hb:Below (w.heap.size+3) W w') :
  NmI H w n (l++[A]) v' (w'.setCell ⟨w.heap.size+2,1,none⟩ v'):=by
 have e2:w'.heap[w.heap.size+2]?=some (.cells #[sv (some ⟨w.heap.size+1,0,none⟩,1,1),v,.int .i64 0] 25):=by rw [hb.block _ (by omega)];exact g.out
 refine ⟨hown.lat (Lat.set (a:=⟨w.heap.size+2,1,none⟩) (.inr (.inr rfl)) v') (fun b e h2=>by
  have:=(hown.own_lt e).1
  rcases h2 with h2 | h2
  ·have:=hH b h2;omega
  ·omega),?_,?_,?_,(g.bel.trans (hb.mono (by omega))).setCell (by show _<=w.heap.size+2;omega) _⟩
 ·have h1:=heap_setCell_same _ (w.heap.size+2) 1 _ _ v' e2
  rw [show (#[sv (some ⟨w.heap.size+1,0,none⟩,1,1),v,.int .i64 0]:Array Value).setIfInBounds 1 v'=#[sv (some ⟨w.heap.size+1,0,none⟩,1,1),v',.int .i64 0] by simp] at h1
  exact h1
 ·rw [Below.heap_setCell _ _ _ _ (by show w.heap.size≠w.heap.size+2;omega),hb.block _ (by omega)]
  exact g.res
 ·rw [Below.heap_setCell _ _ _ _ (by show w.heap.size+1≠w.heap.size+2;omega),hb.block _ (by omega)]
  exact g.shp
theorem rnums_any (v:Value) (l:List Nat) (H:Nat->Prop) (w:World) (hH:∀ b,H b->b < w.heap.size) (hv:Reads1 w v (l.map (Value.float .f64))) (hl:l.length<=1048576) :
  Calls Tryz.prog 48 #[v] w (PlR H w (rawP (.nums [l.length] l)) 0):=by
 obtain ⟨A,n,c,rfl,hn,hcell⟩:=map_open hv
 obtain ⟨L,hL⟩:∃ L,L=(l.map fun x=>RI.mk 0 x 0 []):=⟨_,rfl⟩
 have hraw:rawP (.nums [l.length] l)= .mk [(n:Int)] L 0:=by rw [rawP,hL,hn];rfl
 rw [hraw]
 have hLl:L.length=n:=by rw [hL,hn];simp
 have HLI:Hid (∀ i (hi:i < L.length) (h2:i < l.length),L[i]=RI.mk 0 l[i] 0 []):=by
  intro i hi h2
  subst hL
  simp
 have HLL:=Lib.hid hLl
 have HC:=Lib.hid hcell
 have HN:=Lib.hid hn
 have HH:=Lib.hid hH
 have hnb:n<=1048576:=by omega
 obtain ⟨w0,hw0⟩:∃ w0,w0=((w.alloc (.cells zeroPl 25)).alloc (shO (n:Int))).alloc (plO (some ⟨w.heap.size+1,0,none⟩,1,1) nilS 0):=⟨_,rfl⟩
 have HW0:=Lib.hid hw0
 have s1:(w.alloc (.cells zeroPl 25)).heap.size=w.heap.size+1:=by simp
 have s2:((w.alloc (.cells zeroPl 25)).alloc (shO (n:Int))).heap.size=w.heap.size+2:=by simp
 have HI0:Hid (NmI H w n (L.take 0) (.slice none 0 0) w0):=by
  have h2:=heap_alloc_new ((w.alloc (.cells zeroPl 25)).alloc (shO (n:Int))) (plO (some ⟨w.heap.size+1,0,none⟩,1,1) nilS 0)
  have h1:=blk_alloc (heap_alloc_new (w.alloc (.cells zeroPl 25)) (shO (n:Int))) (plO (some ⟨w.heap.size+1,0,none⟩,1,1) nilS 0)
  have h0:=blk_alloc (blk_alloc (heap_alloc_new w (.cells zeroPl 25)) (shO (n:Int))) (plO (some ⟨w.heap.size+1,0,none⟩,1,1) nilS 0)
  rw [s2,<- hw0] at h2
  rw [s1,<- hw0] at h1
  rw [<- hw0] at h0
  exact ⟨IOwn.nil _ _ _,h2,h0,h1,by rw [hw0];exact bel3 w _ _ _⟩
 clear hL hraw hLl hn hcell hv hl hH hw0 s1 s2
 go_enter Tryz.func48,Tryz.ntmps48
 go_wp2
 rw [<- HW0.out]
 go_loopw [4] (fun iv wr=>∃ (i:Nat) (v:Value),i<=n/\iv= .int .i64 (i:Int)/\NmI H w n (L.take i) v wr) (fun iv _=>n - (intOf iv).toNat)
 case atStart=>exact ⟨0,_,Nat.zero_le _,rfl,HI0.out⟩
 case round =>
  obtain ⟨i,v,hi,rfl,hti⟩:=hrel
  have HTI:=Lib.hid hti
  clear hti
  obtain ⟨vA,vn,vc,hvn⟩:∃ A n c,v= .slice A n c:=by obtain ⟨a,c,e⟩:=HTI.out.own.len;exact ⟨a,_,c,e⟩
  subst hvn
  obtain ⟨⟨e0,e1,e2⟩,ez⟩:=block3 (show wr.heap[w.heap.size+1+1]?=_ from HTI.out.out)
  have g1:=fun o=>cell_box1 e1 o
  by_cases him:i < n
  ·have him2:(i:Int) < (n:Int):=by omega
   have hik:i < l.length:=by have:=HN.out;omega
   have hiL:i < L.length:=by have:=HLL.out;omega
   obtain ⟨b,o,rfl,hce⟩:=HC.out i hik
   have HTK:Hid (L.take (i+1)=L.take i++[L[i]]):=List.take_succ_eq_append_getElem hiL
   have HLX:=Lib.hid (HLI.out i hiL hik)
   have hcl:=cell_up HTI.out.bel hce
   have hlb:(L.take i).length<=1048576:=by rw [List.length_take];omega
   have HLB:=Lib.hid hlb
   clear hlb hce
   generalize l[i]=y at HLX hcl
   generalize L[i]=li at HTK HLX
   have hsz:w.heap.size+3<=wr.heap.size:=by have:=lt_blk HTI.out.out;omega
   have HBX:=Lib.hid ((bel1 wr (itO 0 y 0 nilS)).drew)
   have HTW:=Lib.hid (HTI.out.step HBX.out)
   have HBK:Hid ((wr.alloc (itO 0 y 0 nilS)).drew.heap[wr.heap.size]?=some (itO 0 y 0 nilS)):=heap_alloc_new wr (itO 0 y 0 nilS)
   have HAV:Hid (IV (fun b=>(H b\/b=w.heap.size\/b=w.heap.size+2)\/(Value.slice vA vn vc).ownBlock=some b) (wr.alloc (itO 0 y 0 nilS)).drew li 0 y 0 nilS):=by unfold Hid;rw [HLX.out];exact iv_none _ _ _ _ _ _ _
   have HSZ:Hid (w.heap.size+3<=(wr.alloc (itO 0 y 0 nilS)).drew.heap.size):=by unfold Hid;have:=HBX.out.size;omega
   go_wp2
   go_region_law (refine step_pushI rfl (.tmp 16) (.tmp 22) rfl (fun b=>H b\/b=w.heap.size\/b=w.heap.size+2) (w.heap.size+3) (.slice vA vn vc) (L.take i) (by rfl) HTW.out.own ⟨0,y,0,nilS⟩ li HAV.out wr.heap.size HBK.out (by rfl) HLB.out HSZ.out ?_;intro vA' vn' vc' w' hown' hbw;have HBW:=Lib.hid (hbw _ (Below.refl _ _));have HP:=Lib.hid (HTW.out.push HH.out hown' HBW.out);(obtain ⟨⟨q0,q1,q2⟩,qz⟩:=block3 (show w'.heap[w.heap.size+1+1]?=_ from (HBW.out.block _ (by omega)).trans HTW.out.out));clear hown' hbw)
   all_goals
    go_wp2
    go_roundw
    case rel=>exact ⟨i+1,_,by omega,by go_num,by rw [HTK.out];exact HP.out⟩
    case measure=>simp [intOf];omega
  ·have hge:¬ (i:Int) < (n:Int):=by omega
   obtain rfl:i=n:=by omega
   have HTL:Hid (L.take i=L):=by unfold Hid;rw [<- HLL.out];exact List.take_length
   obtain ⟨⟨z0,z1,z2⟩,zz⟩:=block3 HTI.out.res
   have HRB:=Lib.hid (set3_block HTI.out.res (sv (some ⟨w.heap.size+1,0,none⟩,1,1)) (.slice vA vn vc) (.int .i64 0))
   have HBB:=Lib.hid (below_set3 HTI.out.bel (G:=w.heap.size) (Nat.le_refl _) (sv (some ⟨w.heap.size+1,0,none⟩,1,1)) (.slice vA vn vc) (.int .i64 0))
   have hsr:RdH (fun b=>H b\/b=w.heap.size\/b=w.heap.size+2) wr (sv (some ⟨w.heap.size+1,0,none⟩,1,1)) ([(i:Int)].map (Value.int .i64)):=by
    intro W hz hb
    refine .inr ⟨w.heap.size+1,0,1,1,rfl,rfl,fun j hj=>?_⟩
    have hj0:j=0:=by simpa using hj
    subst hj0
    have hblk:W.heap[w.heap.size+1]?=some (shO (i:Int)):=by
     rw [hb _ (lt_blk HTI.out.shp) (by rintro (e | e | e);(have:=HH.out _ e;omega);omega;omega)]
     exact HTI.out.shp
    rw [cell_of_row _ (w.heap.size+1) (0+0) _ _ (0,0) hblk]
    rfl
   obtain ⟨x',hx',hpv⟩:=HTI.out.own.pv (fun b e=>by
    rcases e with e | e
    ·have:=HH.out b e;omega
    ·omega) hsr 0
   obtain ⟨xA,xn,xc⟩:=x'
   have h9:Value.slice vA vn vc= .slice xA xn xc:=hx'
   injection h9 with h10 h11 h12
   subst h10;subst h11;subst h12
   rw [HTL.out] at hpv
   have HPV:=Lib.hid (PV.sub (H':=H) (fun _ _ e => .inl e) (PV.lat (Lat.set3 (G:=w.heap.size) (.inr (.inl rfl)) (sv (some ⟨w.heap.size+1,0,none⟩,1,1)) (.slice vA vn vc) (.int .i64 0)) hpv))
   clear hpv hx' hsr
   go_wp2
   refine bodyPost_ret (v:=plV (some ⟨w.heap.size+1,0,none⟩,1,1) (vA,vn,vc) 0) ?_ rfl ⟨(some ⟨w.heap.size+1,0,none⟩,1,1),(vA,vn,vc),rfl,HPV.out,HBB.out⟩
   exact ret_plain (fn:=Tryz.f48) (p:=2) rfl _ _ w.heap.size (by rfl) HRB.out
abbrev noH:Nat->Prop:=fun _=>False
theorem noH_lt (w:World):∀ b,noH b->b < w.heap.size:=fun _ e=>e.elim
theorem okF_tf1 {b:Nat} (h:TF b):okF b=true:=by unfold okF;rw [doneP_tf h];rfl
theorem tidF_tf1 {b:Nat} (h:TF b):tidF b=b:=by unfold tidF;rw [doneP_tf h]
theorem ok_raw0 {s l:List Nat} (hs:OkSh s l.length) (hl:∀ x∈l,TF x):OkP 40 (rawP (.nums s l)):=by
 rw [rawP,OkP]
 refine ⟨by decide,.inl rfl,⟨s,rfl,by rw [List.length_map];exact hs⟩,okIs_of _ fun i hi=>?_⟩
 rw [List.getElem_map,OkI]
 have h:=hl _ (List.getElem_mem (by simpa using hi))
 exact ⟨rfl,fun _=>⟨okF_tf1 h,h.lt⟩,fun e=>absurd e (by decide)⟩
theorem cl_raw0 {s l:List Nat} (hl:∀ x∈l,TF x):clP (rawP (.nums s l))= .nums s l:=by
 rw [rawP,clP,toNat_of,if_pos rfl,List.map_map]
 congr 1
 refine (List.map_congr_left (g:=id) fun x hx=>?_).trans (List.map_id l)
 exact tidF_tf1 (hl x hx)
theorem cntIs_raw0 (l:List Nat):cntIs (l.map fun x=>RI.mk 0 x 0 [])=0:=by
 induction l with
 | nil=>rw [List.map_nil,cntIs]
 | cons x l ih=>rw [List.map_cons,cntIs,ih,cntI,cntPs]
theorem cnt_raw0 (s l:List Nat):cntP (rawP (.nums s l))=l.length+s.length+1:=by
 rw [rawP,cntP,cntIs_raw0]
 simp
theorem good_nums {s l:List Nat} (hs:OkSh s l.length) (hl:∀ x∈l,TF x):GoodA 40 (.nums s l):=by rw [GoodA];exact ⟨by decide,hs,hl⟩
theorem f1_eq:fi 1=4607182418800017408:=by decide+kernel
theorem f2_eq:fi 2=4611686018427387904:=by decide+kernel
theorem tf_small {n:Int} (h:n.natAbs<=1000):TF (fi n):=tf_fi ⟨by omega,by omega⟩
theorem tf1:TF 4607182418800017408:=f1_eq▸tf_small (by decide)
theorem tf2:TF 4611686018427387904:=f2_eq▸tf_small (by decide)
theorem add_small {a b:Int} (ha:a.natAbs<=1000) (hb:b.natAbs<=1000) (hc:(a+b).natAbs<=1000):oneP pwP 1 (fi a) (fi b)=(fi (a+b),0):=by
 show doneP (opB .add (fi a) (fi b))=_
 have e:opB .add (fi a) (fi b)=fi (a+b):=by
  show (Ieee.double.add (fi a) (fi b)).getD 0=_
  rw [add_fi a b (by omega) (by omega) (by omega)]
  rfl
 rw [e,doneP_tf (tf_small hc)]
theorem sh0:OkSh [] 1:=⟨by decide,by decide,rfl⟩
theorem all1 {x:Nat} (hx:TF x):∀ z∈[x],TF z:=by
 intro z hz
 simp at hz
 rw [hz]
 exact hx
theorem sm_1 (x:Nat) (s:List Nat):SmA 1000000 (.nums s [x]):=by rw [SmA];simp
theorem f3_eq:fi 3=4613937818241073152:=by decide+kernel
theorem f6_eq:fi 6=4618441417868443648:=by decide+kernel
theorem tf3:TF 4613937818241073152:=f3_eq▸tf_small (by decide)
theorem tf6:TF 4618441417868443648:=f6_eq▸tf_small (by decide)
abbrev l123:List Nat:=[4607182418800017408,4611686018427387904,4613937818241073152]
abbrev a123:PA := .nums [3] l123
abbrev a6:PA := .nums [] [4618441417868443648]
theorem sh3:OkSh [3] 3:=⟨by decide,by decide,rfl⟩
theorem all3:∀ z∈l123,TF z:=by
 intro z hz
 simp at hz
 rcases hz with rfl | rfl | rfl
 ·exact tf1
 ·exact tf2
 ·exact tf3
theorem good6:GoodA 40 a6:=good_nums sh0 (all1 tf6)
theorem sum_123:rowsR (oneP pwP 1) (fun j=>l123.getD j 0) 3 1 0=some 4618441417868443648:=by
 have h1:oneP pwP 1 4611686018427387904 4613937818241073152=(fi 5,0):=by
  have h:=add_small (a:=2) (b:=3) (by decide) (by decide) (by decide)
  rwa [f2_eq,f3_eq] at h
 have h2:oneP pwP 1 4607182418800017408 (fi 5)=(4618441417868443648,0):=by
  have h:=add_small (a:=1) (b:=5) (by decide) (by decide) (by decide)
  rwa [f1_eq,show (1:Int)+5=6 by decide,f6_eq] at h
 show stepsR (oneP pwP 1) (lineF (fun j=>l123.getD j 0) 3 1 (0 / 1) (0 % 1)) 3 2=_
 have s1:stepsR (oneP pwP 1) (lineF (fun j=>l123.getD j 0) 3 1 (0 / 1) (0 % 1)) 3 1=some (fi 5):=by
  show (if (oneP pwP 1 4611686018427387904 4613937818241073152).2=0 then some (oneP pwP 1 4611686018427387904 4613937818241073152).1 else none)=_
  rw [h1]
  exact if_pos rfl
 unfold stepsR
 rw [s1]
 show (if (oneP pwP 1 4607182418800017408 (fi 5)).2=0 then some (oneP pwP 1 4607182418800017408 (fi 5)).1 else none)=_
 rw [h2]
 exact if_pos rfl
abbrev g6:Nat->Nat:=fun j=>[4618441417868443648].getD j 0
abbrev Six (u:Value) (W:World):Prop:=NumV u (leastF g6 1:Nat) 1 g6 W
theorem fold_123 {w:World}{h:Sl}{p:V8} (tz:TzTab w) (g:AV noH w a123 h p):∀ W,Below w.heap.size w W->w.heap.size+2<=W.heap.size ->
  Calls Tryz.prog 96 #[.int .i64 1,p.v,.int .i64 1,.int .i64 3,.int .i64 1] W fun e w'=>∃ u:V8,e= .returned (.tuple #[u.v,.int .i64 0])/\Keeps (fun b=>b=w.heap.size+1) w' (Six u.v)/\Below W.heap.size W w':=by
 intro W hb hz
 rcases g.nums with h1 | ⟨h1,_⟩
 ·obtain ⟨k,b,bn,s,i,f,c,x⟩:=p
  have hN:=h1.num
  refine (fold_two powIs (fun b=>b=w.heap.size+1) 1 (by decide) k b bn s i f c x 3 1 3 1 (fun j=>l123.getD j 0) W (fun b e=>by subst e;omega) rfl (by decide) (by decide) (by decide) (by decide) (by decide) (by decide) (fun _=>by decide)
   (fun W' h=>numX_of ((hN.step hb).step h).now) (tz.below hb)).mono ?_
  have e6:∀ j,j < 1->outF (oneP pwP 1) (fun j=>l123.getD j 0) 3 1 j=g6 j:=by
   intro j hj
   obtain rfl:j=0:=by omega
   exact outF_some sum_123
  have e:leastF (outF (oneP pwP 1) (fun j=>l123.getD j 0) 3 1) 1=leastF g6 1:=leastF_congr e6
  rintro e' w' (⟨_,k2,b2,bn2,s2,i2,f2,c2,x2,rfl,hk,hb2⟩ | ⟨⟨cc,hcc,h0⟩,_⟩)
  ·refine ⟨⟨k2,b2,bn2,s2,i2,f2,c2,x2⟩,rfl,hk.imp fun W h=>?_,hb2⟩
   have h2:NumV (vecW k2 b2 bn2 s2 i2 f2 c2 x2) (leastF (outF (oneP pwP 1) (fun j=>l123.getD j 0) 3 1) 1:Nat) 1 (outF (oneP pwP 1) (fun j=>l123.getD j 0) 3 1) W:=h
   rw [e] at h2
   exact h2.congr fun j hj=>(e6 j hj).symm
  ·obtain rfl:cc=0:=by omega
   rw [sum_123] at h0
   cases h0
 ·cases h1
theorem av_six {H:Nat->Prop}{W:World}{A:Option Addr}{c:Nat}{p:V8} (hk:Keeps H W (Six p.v)):AV H W a6 (A,0,c) p:=by
 have e:=hk.now.kindEq
 rw [AV]
 refine ⟨fun _ _ _ => .inl ⟨A,c,rfl,rfl⟩,.inl ⟨?_,e⟩⟩
 have h2:Keeps H W (NumV p.v (leastF g6 1:Nat) 1 g6):=hk
 rw [<- e] at h2
 exact h2
theorem sh_one {H:Nat->Prop}{w:World}{h:Sl}{n:Nat} (g:ShV H w h [n]):∃ b o,h=(some ⟨b,o,none⟩,1,h.2.2)/\w.cell? ⟨b,o,none⟩=some (.int .i64 n):=by
 obtain ⟨A,m,c⟩:=h
 rcases g.now with ⟨a,c',h1,h2⟩ | ⟨b,o,n',c',h1,h2,h3⟩
 ·cases h2
 ·unfold sv at h1
  injection h1 with e1 e2 e3
  dsimp only at e1 e2 e3
  subst e1;subst e2;subst e3
  refine ⟨b,o,by rw [h2];rfl,?_⟩
  have:=h3 0 (Nat.lt_succ_self _)
  simpa using this
theorem fnum_123 {w:World}{h:Sl}{p:V8} (tz:TzTab w) (g:AV noH w a123 h p) (hc:h.2.1<=h.2.2) :
  Calls Tryz.prog 36 #[.int .i64 1,arrV h p,.bool false] w fun e w'=>∃ (A:Option Addr) (c':Nat) (u:V8),e= .returned (.tuple #[arrV (A,0,c') u,.int .i64 0])/\AV noH w' a6 (A,0,c') u/\Below w.heap.size w w':=by
 have hsh:ShV noH w h [3]:=by rw [AV] at g;exact g.1
 obtain ⟨b,o,e,hcell⟩:=sh_one hsh
 have hf:=fold_123 tz g
 have hcls:=fun W hb=>av_class g W hb
 generalize h.2.2=c at e
 subst e
 have hc:1<=c:=hc
 refine (fnum_three Six b o c p w hc hcell hcls hf).mono ?_
 rintro e w' ⟨A,c',u,rfl,hk,hb⟩
 exact ⟨A,c',u,rfl,av_six hk,hb⟩
structure PQ3 where
 h:Sl
 x:Sl
 f:Int
instance:Inhabited PQ3:=⟨⟨nilS,nilS,0⟩⟩
abbrev plQL (q:PQ3):List Value:=[sv q.h,sv q.x,.int .i64 q.f]
def flatPQ (n:Nat) (qq:Nat->PQ3):List Value:=(List.range n).flatMap fun i=>plQL (qq i)
theorem flatPQ_succ (n:Nat) (qq:Nat->PQ3):flatPQ (n+1) qq=flatPQ n qq++plQL (qq n):=by
 unfold flatPQ
 rw [List.range_succ,List.flatMap_append]
 simp
theorem flatPQ_len (n:Nat) (qq:Nat->PQ3):(flatPQ n qq).length=n*3:=by
 induction n with
 | zero=>rfl
 | succ n ih=>rw [flatPQ_succ,List.length_append,ih];simp;omega
theorem flatPQ_get (n:Nat) (qq:Nat->PQ3) (i j:Nat) (hi:i < n) (hj:j < 3):(flatPQ n qq)[i*3+j]?=(plQL (qq i))[j]?:=by
 induction n with
 | zero=>omega
 | succ n ih =>
  rw [flatPQ_succ]
  by_cases h:i < n
  ·rw [List.getElem?_append_left (by rw [flatPQ_len];omega)]
   exact ih h
  ·obtain rfl:i=n:=by omega
   rw [List.getElem?_append_right (by rw [flatPQ_len];omega),flatPQ_len]
   congr 1
   omega
theorem flatPQ_congr (n:Nat){qq qq':Nat->PQ3} (h:∀ i,i < n->qq i=qq' i):flatPQ n qq=flatPQ n qq':=by
 unfold flatPQ
 induction n with
 | zero=>rfl
 | succ n ih =>
  rw [List.range_succ,List.flatMap_append,List.flatMap_append,ih fun i hi=>h i (by omega)]
  simp [h n (by omega)]
theorem flat_at3 {w:World}{b o n:Nat}{qq:Nat->PQ3} (h:∀ j u,(flatPQ n qq)[j]?=some u->w.cell? ⟨b,o+j,none⟩=some u) (i:Nat) (hi:i < n):At3 w b (o+i*3) (qq i).h (qq i).x (qq i).f:=by
 have k:∀ j u,j < 3->(plQL (qq i))[j]?=some u->w.cell? ⟨b,o+i*3+j,none⟩=some u:=fun j u hj hu=>by
  rw [Nat.add_assoc]
  exact h _ _ (by rw [flatPQ_get n qq i j hi hj];exact hu)
 exact ⟨k 0 _ (by decide) rfl,k 1 _ (by decide) rfl,k 2 _ (by decide) rfl⟩
def POwn (H:Nat->Prop) (w:World) (B:Nat) (v:Value) (l:List RP):Prop :=
 ∃ qq:Nat->PQ3,w.ownsRow B 25 3 v l.length (flatPQ l.length qq)/\∀ i (hi:i < l.length),PV (fun b=>H b\/v.ownBlock=some b) w l[i] (qq i).h (qq i).x (qq i).f
theorem POwn.nil (H:Nat->Prop) (w:World) (B:Nat):POwn H w B (.slice none 0 0) []:=⟨fun _=>default,World.ownsRow_nil w B _ _,fun i hi=>by simp at hi⟩
theorem POwn.len {H:Nat->Prop}{w:World}{B:Nat}{v:Value}{l:List RP} (h:POwn H w B v l):∃ a c,v= .slice a l.length c:=by
 obtain ⟨qq,hown,ha⟩:=h
 rcases hown.2 with ⟨rfl,h0⟩ | ⟨g,cap,cur,rfl,_⟩
 ·exact ⟨none,0,by rw [h0]⟩
 ·exact ⟨_,_,rfl⟩
theorem POwn.own_lt {H:Nat->Prop}{w:World}{B:Nat}{v:Value}{l:List RP} (h:POwn H w B v l){b:Nat} (e:v.ownBlock=some b):B<=b/\b < w.heap.size:=by
 obtain ⟨qq,hown,ha⟩:=h
 exact World.ownsRow.lt hown b e
theorem POwn.lat {H:Nat->Prop}{w w':World}{B:Nat}{v:Value}{l:List RP} (h:POwn H w B v l) (k:Lat (fun b=>H b) w w') (hn:∀ b,v.ownBlock=some b->¬ H b):POwn H w' B v l:=by
 have h':=fun b e=>h.own_lt (b:=b) e
 obtain ⟨qq,hown,ha⟩:=h
 refine ⟨qq,⟨hown.1,?_⟩,fun i hi=>PV.lat ⟨k.size,fun b hb hn=>k.block b hb fun e=>hn (.inl e)⟩ (ha i hi)⟩
 rcases hown.2 with h2 | ⟨g,cap,cur,hv,hbg,hg,r⟩
 ·exact .inl h2
 ·refine .inr ⟨g,cap,cur,hv,hbg,?_,r⟩
  have e:v.ownBlock=some g:=by rw [hv];rfl
  rw [k.block g (h' g e).2 (hn g e)];exact hg
theorem POwn.below {H:Nat->Prop}{w w':World}{B:Nat}{v:Value}{l:List RP} (h:POwn H w B v l) (hb:Below w.heap.size w w'):POwn H w' B v l:=by
 have h':=fun b e=>h.own_lt (b:=b) e
 obtain ⟨qq,hown,ha⟩:=h
 refine ⟨qq,⟨hown.1,?_⟩,fun i hi=>(ha i hi).step hb⟩
 rcases hown.2 with h2 | ⟨g,cap,cur,hv,hbg,hg,r⟩
 ·exact .inl h2
 ·refine .inr ⟨g,cap,cur,hv,hbg,?_,r⟩
  have e:v.ownBlock=some g:=by rw [hv];rfl
  rw [hb.block g (h' g e).2];exact hg
def PSl (H:Nat->Prop) (w:World) (x:Sl) (l:List RP):Prop:=x.2.1=l.length/\((l=[]/\True)\/∃ b o,x.1=some ⟨b,o,none⟩/\¬ H b/\PVs H w b o l)
theorem PSl.lat {H:Nat->Prop}{w w':World}{x:Sl}{l:List RP} (k:Lat H w w') (g:PSl H w x l):PSl H w' x l:=by
 refine ⟨g.1,?_⟩
 rcases g.2 with g4 | ⟨b,o,g5,hn,g6⟩
 ·exact .inl g4
 ·exact .inr ⟨b,o,g5,hn,PVs.lat k hn g6⟩
theorem PSl.step {H:Nat->Prop}{w w':World}{x:Sl}{l:List RP} (g:PSl H w x l) (hb:Below w.heap.size w w'):PSl H w' x l:=g.lat (Lat.below hb)
theorem PSl.at_ {H:Nat->Prop}{w:World}{x:Sl}{l:List RP} (g:PSl H w x l):∀ i (hi:i < l.length),∃ b o h y f,x.1=some ⟨b,o,none⟩/\¬ H b/\PV H w l[i] h y f/\∀ w1,Lat H w w1->At3 w1 b (o+i*3) h y f:=by
 intro i hi
 rcases g.2 with ⟨rfl,_⟩ | ⟨b,o,g5,hb,g6⟩
 ·simp at hi
 ·obtain ⟨h,y,f,g7,g8⟩:=PVs.at_ hi g6
  exact ⟨b,o,h,y,f,g5,hb,g8,fun w1 k=>g7.lat hb k⟩
theorem POwn.psl {H:Nat->Prop}{w:World}{B:Nat}{v:Value}{l:List RP} (h:POwn H w B v l) (hH:∀ b,H b->b < B):∃ x:Sl,v=sv x/\PSl H w x l:=by
 obtain ⟨qq,hown,ha⟩:=h
 have hcell:=fun {g:Nat} (hg:v.ownBlock=some g)=>World.ownsRow.cells hown hg
 rcases hown.2 with ⟨rfl,h0⟩ | ⟨g,cap,cur,rfl,hbg,_⟩
 ·have:l=[]:=List.eq_nil_of_length_eq_zero h0
  subst this
  exact ⟨(none,0,0),rfl,rfl,.inl ⟨rfl,trivial⟩⟩
 ·refine ⟨(some ⟨g,0,none⟩,l.length,cap),rfl,rfl,.inr ⟨g,0,rfl,fun e=>by have:=hH g e;omega,pvs_of _ _ fun i hi=>⟨(qq i).h,(qq i).x,(qq i).f,?_,PV.sub (fun _ _ e => .inl e) (ha i hi)⟩⟩⟩
  refine flat_at3 (fun j u hu=>?_) i hi
  have:=hcell (g:=g) rfl j u hu
  rw [add_zero_off] at this
  exact this
theorem plainq_info:(Tryz.prog.info? 25).map (fun i=>(i.zero,i.size,i.bytes))=some (some (.agg #[.slice none 0 0,.slice none 0 0,.int .i64 0]),3,56):=by kernel_rfl
theorem wpList_pushP {ops:Array Oper}{rest:List Oper}{o:Oper}{a:Act}{Q:Exit->Act->World->Prop}{w:World} (hgd:o.guard=none) (s x:Operand)
  (ho:o.op= .call { callee := .builtin .append,args:=#[s,x],argTypes:=#[53,53]})
  (H:Nat->Prop) (B:Nat) (v:Value) (l:List RP) (hs:a.eval s=v) (hown:POwn H w B v l) (q:PQ3) (A:RP) (hA:PV (fun b=>H b\/v.ownBlock=some b) w A q.h q.x q.f)
  (hx:a.eval x= .slice (some ⟨w.heap.size,0,none⟩) 1 1) (hl:l.length<=1048576) (hB:B<=w.heap.size)
  (k:∀ v' w',POwn H w' B v' (l++[A])->(∀ w0,Below B w0 w->Below B w0 w')->Lat (fun b=>v.ownBlock=some b) w w'->(v'.ownBlock=v.ownBlock\/∃ g,v'.ownBlock=some g/\w.heap.size<=g)->wpList Tryz.prog ops Q rest (a.put o.dst v') w') :
  wpList Tryz.prog ops Q (o::rest) a (w.alloc (.cells #[sv q.h,sv q.x,.int .i64 q.f] 25)):=by
 obtain ⟨i0,hi0,hz0,hz1,hz2⟩:=info_parts plainq_info
 obtain ⟨qq,hrow,hel⟩:=hown
 refine wpList_append_own_at _ hgd s x 53 ho B 25 i0 _ 3 56 Tryz.underlying53 hi0 hz0 hz1 hz2 rfl (by omega) v l.length _ hs
  (World.ownsRow.alloc hrow _) ⟨w.heap.size,0,none⟩ 1 1 (plQL q) hx rfl ?_ ?_ (by unfold maxLen;omega) (by omega) (by simp;omega) ?_
 ·intro j u hj
  rw [add_zero_off,Nat.zero_add,cell_of_row _ w.heap.size j _ _ (0,0) (heap_alloc_new w _)]
  simpa using hj
 ·intro u hu
  simp only [List.mem_cons,List.not_mem_nil,or_false] at hu
  rcases hu with rfl | rfl | rfl <;> rfl
 intro v' w' hown' hg _ hat
 have hsz:w.heap.size+1<=w'.heap.size:=by have:=hg.size;simpa using this
 have hat2:v'.ownBlock=v.ownBlock\/∃ g,v'.ownBlock=some g/\w.heap.size<=g:=by
  rcases hat with e | e
  ·exact .inl e
  ·exact .inr ⟨_,e,by simp⟩
 have hlat:Lat (fun b=>v.ownBlock=some b) w w':=⟨by omega,fun b hb hn=>by rw [hg.block b (by simp;omega) (fun e=>hn e.symm),(bel1 w _).block b hb]⟩
 refine k v' w' ⟨fun i=>if i < l.length then qq i else q,?_,fun i hi=>?_⟩ (fun w0 hb=>((hb.alloc hB _).grown hg (by simp;omega) fun k hk=>(World.ownsRow.lt hrow k hk).1)) hlat hat2
 ·rw [show (l++[A]).length=l.length+1 by simp,flatPQ_succ]
  have e:flatPQ l.length (fun i=>if i < l.length then qq i else q)=flatPQ l.length qq:=flatPQ_congr _ fun i hi=>by rw [if_pos hi]
  rw [e,if_neg (Nat.lt_irrefl _)]
  exact hown'
 ·have up:∀ {A:RP} {q:PQ3},PV (fun b=>H b\/v.ownBlock=some b) w A q.h q.x q.f->PV (fun b=>H b\/v'.ownBlock=some b) w' A q.h q.x q.f:=by
   intro A q hA
   have h1:PV (fun b=>(H b\/v.ownBlock=some b)\/v'.ownBlock=some b) w A q.h q.x q.f:=PV.sub (fun b hb e=>by
    rcases e with e | e
    ·exact e
    ·rcases hat2 with e2 | ⟨g,e2,hg2⟩
     ·rw [e2] at e;exact .inr e
     ·rw [e2] at e
      injection e with e
      omega) hA
   have h2:PV (fun b=>(H b\/v.ownBlock=some b)\/v'.ownBlock=some b) w' A q.h q.x q.f:=PV.lat ⟨hlat.size,fun b hb hn=>hlat.block b hb fun e=>hn (.inl (.inr e))⟩ h1
   exact PV.sub (fun b _ e=>by
    rcases e with e | e
    ·exact .inl (.inl e)
    ·exact .inr e) h2
  by_cases hi2:i < l.length
  ·dsimp only
   rw [if_pos hi2,List.getElem_append_left hi2]
   exact up (hel i hi2)
  ·have e:i=l.length:=by rw [List.length_append] at hi;simp at hi;omega
   subst e
   dsimp only
   rw [if_neg hi2]
   simp only [List.getElem_append_right (Nat.le_refl _),Nat.sub_self,List.getElem_cons_zero]
   exact up hA
end Go.Proofs.YtakgmnafbjdccaaGreatDoor
