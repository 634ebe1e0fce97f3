/- What fine tells; an array and a plain array in blocks of a call's own. fine and shows of the laws of layer 34. The walks of the reference's Num and Nums, and .. Conditions: as each theorem says. -/
import Derived.Test.YtbakjaliponbbaaGreatDoorMg32
import Derived.Test.YtbakjaliponbbaaGreatDoorMg28
import Derived.Deep.AppendLies
import Derived.Deep.RegionLaw
set_option maxRecDepth 100000
set_option maxHeartbeats 1000000
namespace Go.Proofs.YtbakjaliponbbaaGreatDoor
open Go Go.RowKit Go.Proofs Fl
structure LdQ (w0:World) (G:Nat) (h:Sl) (p:V8) (h1 x1:Sl) (f:Int) (W:World):Prop where
 one:At9 W G 0 h p
 two:At3 W (G+1) 0 h1 x1 f
 bel:Below w0.heap.size w0 W
theorem LdQ.new (w:World) (h:Sl) (p:V8) (h1 x1:Sl) (f:Int):LdQ ((w.alloc (arrO h p)).alloc (plO h1 x1 f)) w.heap.size h p h1 x1 f ((w.alloc (arrO h p)).alloc (plO h1 x1 f)):=by
 have g:=at3_box (w.alloc (arrO h p)) h1 x1 f
 have e:(w.alloc (arrO h p)).heap.size=w.heap.size+1:=by simp
 rw [e] at g
 exact ⟨(at9_new w h p).below (bel1 _ _),g,Below.refl _ _⟩
theorem LdQ.step {w0 W W':World}{G:Nat}{h:Sl}{p:V8}{h1 x1:Sl}{f:Int} (g:LdQ w0 G h p h1 x1 f W) (hb:Below W.heap.size W W'):LdQ w0 G h p h1 x1 f W' :=
 ⟨g.one.below hb,g.two.of fun j=>hb.cell (p:=⟨G+1,j,none⟩) g.two.lt,bel_both g.bel hb⟩
theorem LdQ.dr {w0 W:World}{G:Nat}{h:Sl}{p:V8}{h1 x1:Sl}{f:Int} (g:LdQ w0 G h p h1 x1 f W):LdQ w0 G h p h1 x1 f W.drew:=g.step (Below.refl _ W).drew
theorem LdQ.self {w0 W:World}{G:Nat}{h:Sl}{p:V8}{h1 x1:Sl}{f:Int} (g:LdQ w0 G h p h1 x1 f W):LdQ w0 G h p h1 x1 f W:=g
theorem ldq_s {w0 W:World}{G:Nat}{h:Sl}{p:V8}{h1 x1:Sl}{f:Int} (g:LdQ w0 G h p h1 x1 f W):(W.cell? ⟨G,0,none⟩=some (.slice h.1 h.2.1 h.2.2)/\W.cell? ⟨G,1,none⟩=some (.int .i64 p.k)/\W.cell? ⟨G,2,none⟩=some (.slice p.b.1 p.b.2.1 p.b.2.2)/\W.cell? ⟨G,3,none⟩=some (.int .i64 p.bn) /\
  W.cell? ⟨G,4,none⟩=some (.slice p.s.1 p.s.2.1 p.s.2.2)/\W.cell? ⟨G,5,none⟩=some (.slice p.i.1 p.i.2.1 p.i.2.2)/\W.cell? ⟨G,6,none⟩=some (.slice p.f.1 p.f.2.1 p.f.2.2)/\W.cell? ⟨G,7,none⟩=some (.slice p.c.1 p.c.2.1 p.c.2.2)/\W.cell? ⟨G,8,none⟩=some (.slice p.x.1 p.x.2.1 p.x.2.2)) /\
  (W.cell? ⟨G+1,0,none⟩=some (.slice h1.1 h1.2.1 h1.2.2)/\W.cell? ⟨G+1,1,none⟩=some (.slice x1.1 x1.2.1 x1.2.2)/\W.cell? ⟨G+1,2,none⟩=some (.int .i64 f))/\LdQ w0 G h p h1 x1 f W:=⟨g.one.c,at3_c g.two,g⟩
theorem shows34_ok {H H':Nat->Prop}{a:PA}{h:Sl}{p:V8}{h1 x1:Sl}{f:Int}{w:World} (hH:∀ b,H b->b < w.heap.size) (hg:GoodA 40 a) (hs:SmA 1000000 a) (hav:AV H w a h p) (hpv:PV H' w (rawP a) h1 x1 f) :
  Calls Tryz.prog 45 #[arrV h p,.int .i64 0,plV h1 x1 f,.int .i64 0] w fun e w'=>e= .returned (.bool true)/\Below w.heap.size w w':=by
 obtain ⟨w0,hw0⟩:∃ w0,w0=(w.alloc (arrO h p)).alloc (plO h1 x1 f):=⟨_,rfl⟩
 have HW0:=Lib.hid hw0
 have HS0:Hid (LdQ w0 w.heap.size h p h1 x1 f w0):=by rw [hw0];exact LdQ.new w h p h1 x1 f
 have HB0:Hid (Below w.heap.size w w0):=by unfold Hid;rw [hw0];exact bel2 _ _ _
 have HGD:=Lib.hid (fun W (hW:LdQ w0 w.heap.size h p h1 x1 f W)=>vgood_any (AV.step hav (bel_both HB0.out hW.bel)) (fun b e=>by have:=hH b e;have:=hW.bel.size;have:=HB0.out.size;omega) hg hs)
 have HPL:=Lib.hid (fun W (hW:LdQ w0 w.heap.size h p h1 x1 f W)=>vplain_any 40 H a h p W (fun b e=>by have:=hH b e;have:=hW.bel.size;have:=HB0.out.size;omega) hg hs (AV.step hav (bel_both HB0.out hW.bel)))
 unfold PlR at HPL
 have hsame:SameC (rawP a):=rsame_raw 40 hg hs
 have HSM:=Lib.hid (fun W (hW:LdQ w0 w.heap.size h p h1 x1 f W) (h2 x2:Sl) (f2:Int) (hp2:PV H W (rawP a) h2 x2 f2)=>hsame H H' h2 x2 h1 x1 f2 f W hp2 (hpv.step (bel_both HB0.out hW.bel)))
 clear hH hg hs hav hpv hsame hw0
 generalize rawP a=t at HPL HSM
 generalize (a.fill:Int)=fl at HPL
 go_enter Tryz.func45,Tryz.ntmps45
 go_wp2_with fail
 rw [<- HW0.out]
 have hs0:=HS0.out.dr
 have hs00:=HS0.out
 go_region_held3 (fun W=>(W.cell? ⟨w.heap.size,0,none⟩=some (.slice h.1 h.2.1 h.2.2)/\W.cell? ⟨w.heap.size,1,none⟩=some (.int .i64 p.k)/\W.cell? ⟨w.heap.size,2,none⟩=some (.slice p.b.1 p.b.2.1 p.b.2.2)/\W.cell? ⟨w.heap.size,3,none⟩=some (.int .i64 p.bn)/\W.cell? ⟨w.heap.size,4,none⟩=some (.slice p.s.1 p.s.2.1 p.s.2.2)/\W.cell? ⟨w.heap.size,5,none⟩=some (.slice p.i.1 p.i.2.1 p.i.2.2)/\W.cell? ⟨w.heap.size,6,none⟩=some (.slice p.f.1 p.f.2.1 p.f.2.2)/\W.cell? ⟨w.heap.size,7,none⟩=some (.slice p.c.1 p.c.2.1 p.c.2.2)/\W.cell? ⟨w.heap.size,8,none⟩=some (.slice p.x.1 p.x.2.1 p.x.2.2))/\(W.cell? ⟨w.heap.size+1,0,none⟩=some (.slice h1.1 h1.2.1 h1.2.2)/\W.cell? ⟨w.heap.size+1,1,none⟩=some (.slice x1.1 x1.2.1 x1.2.2)/\W.cell? ⟨w.heap.size+1,2,none⟩=some (.int .i64 f))/\LdQ w0 w.heap.size h p h1 x1 f W)
  (first | (with_reducible assumption) | (with_reducible (refine ldq_s ?_);repeat (first | (with_reducible assumption) | (with_reducible refine LdQ.dr ?_))))
  (first
   | (go_at_call 91;(with_reducible refine (HGD.out _ ?_).mono ?_);exact LdQ.self (by repeat (first | (with_reducible assumption) | (with_reducible refine LdQ.dr ?_)));rintro e w1 ⟨rfl,hb1⟩;have hst1:LdQ w0 w.heap.size h p h1 x1 f w1:=LdQ.step (by repeat (first | (with_reducible assumption) | (with_reducible refine LdQ.dr ?_))) hb1;clear hb1)
   | (go_at_call 93;(with_reducible refine (HPL.out _ ?_).mono ?_);exact LdQ.self (by repeat (first | (with_reducible assumption) | (with_reducible refine LdQ.dr ?_)));rintro e w2 ⟨h2,x2,rfl,hpv2,hb2⟩;have hst2:LdQ w0 w.heap.size h p h1 x1 f w2:=LdQ.step (by repeat (first | (with_reducible assumption) | (with_reducible refine LdQ.dr ?_))) hb2;have HSC:=Lib.hid (HSM.out w2 hst2 h2 x2 fl hpv2);clear hb2 hpv2)
   | (go_at_call 92;(with_reducible refine HSC.out.mono ?_);rintro e w3 ⟨rfl,hb3⟩;have hst3:LdQ w0 w.heap.size h p h1 x1 f w3:=LdQ.step hst2 hb3;clear hb3))
 all_goals
  go_wp2
  go_ret
  exact ⟨rfl,bel_both HB0.out hst3.bel⟩
theorem rnum_any (b:Nat) (H:Nat->Prop) (w:World) (hH:∀ b,H b->b < w.heap.size) :
  Calls Tryz.prog 46 #[.float .f64 b] w (PlR H w (rawP (.nums [] [b])) 0):=by
 have HH:=Lib.hid hH
 clear hH
 have HB:=Lib.hid (bel2 w (plO nilS (some ⟨w.heap.size+1,0,none⟩,1,1) 0) (itO 0 b 0 nilS))
 have HR:Hid (((w.alloc (plO nilS (some ⟨w.heap.size+1,0,none⟩,1,1) 0)).alloc (itO 0 b 0 nilS)).heap[w.heap.size]?=some (plO nilS (some ⟨w.heap.size+1,0,none⟩,1,1) 0)):=block_up (bel1 _ _)
 have HI:Hid (At4 ((w.alloc (plO nilS (some ⟨w.heap.size+1,0,none⟩,1,1) 0)).alloc (itO 0 b 0 nilS)) (w.heap.size+1) 0 0 b 0 nilS):=by
  have g:=at4_box (w.alloc (plO nilS (some ⟨w.heap.size+1,0,none⟩,1,1) 0)) 0 b 0 nilS
  have e:(w.alloc (plO nilS (some ⟨w.heap.size+1,0,none⟩,1,1) 0)).heap.size=w.heap.size+1:=by simp
  rw [e] at g
  exact g
 go_enter Tryz.func46,Tryz.ntmps46
 go_wp2
 refine bodyPost_ret (v:=plV nilS (some ⟨w.heap.size+1,0,none⟩,1,1) 0) ?_ rfl ⟨nilS,(some ⟨w.heap.size+1,0,none⟩,1,1),rfl,?_,HB.out⟩
 ·exact ret_plain (fn:=Tryz.f46) (p:=2) rfl _ _ w.heap.size (by rfl) HR.out
 ·rw [rawP]
  refine pv_of (fun W hz hb => .inl ⟨none,0,rfl,rfl⟩) rfl fun i hi=>?_
  have hi0:i=0:=by simpa using hi
  subst hi0
  exact ⟨w.heap.size+1,0,0,b,0,nilS,rfl,fun e=>by have:=HH.out _ e;omega,iv_none _ _ _ _ _ _ _,HI.out⟩
theorem step_pushI {ops:Array Oper}{o:Oper}{a:Act}{K:Act->World->Prop}{Q:Exit->Act->World->Prop}{E:Prop}{w:World} (hgd:o.guard=none) (s x:Operand)
  (ho:o.op= .call { callee := .builtin .append,args:=#[s,x],argTypes:=#[42,42]})
  (H:Nat->Prop) (B:Nat) (v:Value) (l:List RI) (hs:a.eval s=v) (hown:IOwn H w B v l) (q:I4) (A:RI) (hA:IV (fun b=>H b\/v.ownBlock=some b) w A q.k q.n q.c q.x)
  (G:Nat) (hG:w.heap[G]?=some (itO q.k q.n q.c q.x)) (hx:a.eval x= .slice (some ⟨G,0,none⟩) 1 1) (hl:l.length<=1048576) (hB:B<=w.heap.size)
  (k:∀ A' n' c' w',IOwn H w' B (.slice A' n' c') (l++[A])->(∀ w0,Below B w0 w->Below B w0 w')->K (a.put o.dst (.slice A' n' c')) w') :
  if Region.wanted o (yielded ops a.tmps)=true then Oper.wp Tryz.prog o a w K Q else E:=by
 obtain ⟨i0,hi0,hz0,hz1,hz2⟩:=info_parts item_info
 obtain ⟨qq,hrow,hel⟩:=hown
 refine step_append_lies w hgd s x 42 ho B 106 i0 _ 4 48 Tryz.underlying42 hi0 hz0 hz1 hz2 rfl (by omega) v l.length _ hs hrow ⟨G,0,none⟩ 1 1 (itL q) hx rfl ?_ ?_ (by omega) (by unfold maxLen;omega) (by omega) hB _ rfl ?_
 ·intro j u hj
  rw [add_zero_off,Nat.zero_add,cell_of_row _ G j _ _ (0,0) hG]
  simpa using hj
 ·intro u hu
  simp only [List.mem_cons,List.not_mem_nil,or_false] at hu
  rcases hu with rfl | rfl | rfl | rfl <;> rfl
 intro g cap w' hown' hg hat _
 have hsz:w.heap.size<=w'.heap.size:=hg.size
 refine k _ _ _ w' ⟨fun i=>if i < l.length then qq i else q,?_,fun i hi=>?_⟩ (fun w0 hb=>hb.grown hg hB fun k hk=>(World.ownsRow.lt hrow k hk).1)
 ·rw [show (l++[A]).length=l.length+1 by simp,flatI_succ]
  have e:flatI l.length (fun i=>if i < l.length then qq i else q)=flatI l.length qq:=flatI_congr _ fun i hi=>by rw [if_pos hi]
  rw [e,if_neg (Nat.lt_irrefl _)]
  exact hown'
 ·have hlat:Lat (fun b=>v.ownBlock=some b) w w':=⟨hsz,fun b hb hn=>hg.block b hb (fun e=>hn e.symm)⟩
  have up:∀ {A:RI} {q:I4},IV (fun b=>H b\/v.ownBlock=some b) w A q.k q.n q.c q.x->IV (fun b=>H b\/(Value.slice (some ⟨g,0,none⟩) (l.length+1) cap).ownBlock=some b) w' A q.k q.n q.c q.x:=by
   intro A q hA
   have h1:IV (fun b=>(H b\/v.ownBlock=some b)\/b=g) w A q.k q.n q.c q.x:=IV.sub (fun b hb e=>by
    rcases e with e | e
    ·exact e
    ·subst e
     rcases hat with e2 | e2
     ·exact .inr e2
     ·omega) hA
   have h2:IV (fun b=>(H b\/v.ownBlock=some b)\/b=g) w' A q.k q.n q.c q.x:=IV.lat ⟨hlat.size,fun b hb hn=>hlat.block b hb fun e=>hn (.inl (.inr e))⟩ h1
   exact IV.sub (fun b _ e=>by
    rcases e with e | e
    ·exact .inl (.inl e)
    ·have e3:g=b:=by
      have:(Value.slice (some ⟨g,0,none⟩) (l.length+1) cap).ownBlock=some g:=rfl
      rw [this] at e
      injection e
     exact .inr e3.symm) h2
  by_cases hi2:i < l.length
  ·dsimp only
   rw [if_pos hi2,List.getElem_append_left hi2]
   exact up (hel i hi2)
  ·have e:i=l.length:=by rw [List.length_append] at hi;simp at hi;omega
   subst e
   dsimp only
   rw [if_neg hi2]
   simp only [List.getElem_append_right (Nat.le_refl _),Nat.sub_self,List.getElem_cons_zero]
   exact up hA
abbrev shO (n:Int):Obj := .cells #[.int .i64 n] 3
structure NmI (H:Nat->Prop) (w:World) (n:Nat) (l:List RI) (v:Value) (W:World):Prop where
 own:IOwn (fun b=>H b\/b=w.heap.size\/b=w.heap.size+2) W (w.heap.size+3) v l
 out:W.heap[w.heap.size+2]?=some (.cells #[sv (some ⟨w.heap.size+1,0,none⟩,1,1),v,.int .i64 0] 44)
 res:W.heap[w.heap.size]?=some (.cells zeroPl 44)
 shp:W.heap[w.heap.size+1]?=some (shO (n:Int))
 bel:Below w.heap.size w W
theorem NmI.step {H:Nat->Prop}{w W W':World}{n:Nat}{l:List RI}{v:Value} (g:NmI H w n l v W) (hb:Below W.heap.size W W'):NmI H w n l v W' :=
 ⟨g.own.below hb,by rw [hb.block _ (lt_blk g.out)];exact g.out,by rw [hb.block _ (lt_blk g.res)];exact g.res,by rw [hb.block _ (lt_blk g.shp)];exact g.shp,bel_both g.bel hb⟩
theorem NmI.push {H:Nat->Prop}{w W w':World}{n:Nat}{l:List RI}{v v':Value}{A:RI} (g:NmI H w n l v W) (hH:∀ b,H b->b < w.heap.size) (hown:IOwn (fun b=>H b\/b=w.heap.size\/b=w.heap.size+2) w' (w.heap.size+3) v' (l++[A])) (hb:Below (w.heap.size+3) W w') :
  NmI H w n (l++[A]) v' (w'.setCell ⟨w.heap.size+2,1,none⟩ v'):=by
 have e2:w'.heap[w.heap.size+2]?=some (.cells #[sv (some ⟨w.heap.size+1,0,none⟩,1,1),v,.int .i64 0] 44):=by rw [hb.block _ (by omega)];exact g.out
 refine ⟨hown.lat (Lat.set (a:=⟨w.heap.size+2,1,none⟩) (.inr (.inr rfl)) v') (fun b e h2=>by
  have:=(hown.own_lt e).1
  rcases h2 with h2 | h2
  ·have:=hH b h2;omega
  ·omega),?_,?_,?_,(g.bel.trans (hb.mono (by omega))).setCell (by show _<=w.heap.size+2;omega) _⟩
 ·have h1:=heap_setCell_same _ (w.heap.size+2) 1 _ _ v' e2
  rw [show (#[sv (some ⟨w.heap.size+1,0,none⟩,1,1),v,.int .i64 0]:Array Value).setIfInBounds 1 v'=#[sv (some ⟨w.heap.size+1,0,none⟩,1,1),v',.int .i64 0] by simp] at h1
  exact h1
 ·rw [Below.heap_setCell _ _ _ _ (by show w.heap.size≠w.heap.size+2;omega),hb.block _ (by omega)]
  exact g.res
 ·rw [Below.heap_setCell _ _ _ _ (by show w.heap.size+1≠w.heap.size+2;omega),hb.block _ (by omega)]
  exact g.shp
theorem rnums_any (v:Value) (l:List Nat) (H:Nat->Prop) (w:World) (hH:∀ b,H b->b < w.heap.size) (hv:Reads1 w v (l.map (Value.float .f64))) (hl:l.length<=1048576) :
  Calls Tryz.prog 44 #[v] w (PlR H w (rawP (.nums [l.length] l)) 0):=by
 obtain ⟨A,n,c,rfl,hn,hcell⟩:=map_open hv
 obtain ⟨L,hL⟩:∃ L,L=(l.map fun x=>RI.mk 0 x 0 []):=⟨_,rfl⟩
 have hraw:rawP (.nums [l.length] l)= .mk [(n:Int)] L 0:=by rw [rawP,hL,hn];rfl
 rw [hraw]
 have hLl:L.length=n:=by rw [hL,hn];simp
 have HLI:Hid (∀ i (hi:i < L.length) (h2:i < l.length),L[i]=RI.mk 0 l[i] 0 []):=by
  intro i hi h2
  subst hL
  simp
 have HLL:=Lib.hid hLl
 have HC:=Lib.hid hcell
 have HN:=Lib.hid hn
 have HH:=Lib.hid hH
 have hnb:n<=1048576:=by omega
 obtain ⟨w0,hw0⟩:∃ w0,w0=((w.alloc (.cells zeroPl 44)).alloc (shO (n:Int))).alloc (plO (some ⟨w.heap.size+1,0,none⟩,1,1) nilS 0):=⟨_,rfl⟩
 have HW0:=Lib.hid hw0
 have s1:(w.alloc (.cells zeroPl 44)).heap.size=w.heap.size+1:=by simp
 have s2:((w.alloc (.cells zeroPl 44)).alloc (shO (n:Int))).heap.size=w.heap.size+2:=by simp
 have HI0:Hid (NmI H w n (L.take 0) (.slice none 0 0) w0):=by
  have h2:=heap_alloc_new ((w.alloc (.cells zeroPl 44)).alloc (shO (n:Int))) (plO (some ⟨w.heap.size+1,0,none⟩,1,1) nilS 0)
  have h1:=blk_alloc (heap_alloc_new (w.alloc (.cells zeroPl 44)) (shO (n:Int))) (plO (some ⟨w.heap.size+1,0,none⟩,1,1) nilS 0)
  have h0:=blk_alloc (blk_alloc (heap_alloc_new w (.cells zeroPl 44)) (shO (n:Int))) (plO (some ⟨w.heap.size+1,0,none⟩,1,1) nilS 0)
  rw [s2,<- hw0] at h2
  rw [s1,<- hw0] at h1
  rw [<- hw0] at h0
  exact ⟨IOwn.nil _ _ _,h2,h0,h1,by rw [hw0];exact bel3 w _ _ _⟩
 clear hL hraw hLl hn hcell hv hl hH hw0 s1 s2
 go_enter Tryz.func44,Tryz.ntmps44
 go_wp2
 rw [<- HW0.out]
 go_loopw [4] (fun iv wr=>∃ (i:Nat) (v:Value),i<=n/\iv= .int .i64 (i:Int)/\NmI H w n (L.take i) v wr) (fun iv _=>n - (intOf iv).toNat)
 case atStart=>exact ⟨0,_,Nat.zero_le _,rfl,HI0.out⟩
 case round =>
  obtain ⟨i,v,hi,rfl,hti⟩:=hrel
  have HTI:=Lib.hid hti
  clear hti
  obtain ⟨vA,vn,vc,hvn⟩:∃ A n c,v= .slice A n c:=by obtain ⟨a,c,e⟩:=HTI.out.own.len;exact ⟨a,_,c,e⟩
  subst hvn
  obtain ⟨⟨e0,e1,e2⟩,ez⟩:=block3 (show wr.heap[w.heap.size+1+1]?=_ from HTI.out.out)
  have g1:=fun o=>cell_box1 e1 o
  by_cases him:i < n
  ·have him2:(i:Int) < (n:Int):=by omega
   have hik:i < l.length:=by have:=HN.out;omega
   have hiL:i < L.length:=by have:=HLL.out;omega
   obtain ⟨b,o,rfl,hce⟩:=HC.out i hik
   have HTK:Hid (L.take (i+1)=L.take i++[L[i]]):=List.take_succ_eq_append_getElem hiL
   have HLX:=Lib.hid (HLI.out i hiL hik)
   have hcl:=cell_up HTI.out.bel hce
   have hlb:(L.take i).length<=1048576:=by rw [List.length_take];omega
   have HLB:=Lib.hid hlb
   clear hlb hce
   generalize l[i]=y at HLX hcl
   generalize L[i]=li at HTK HLX
   have hsz:w.heap.size+3<=wr.heap.size:=by have:=lt_blk HTI.out.out;omega
   have HBX:=Lib.hid ((bel1 wr (itO 0 y 0 nilS)).drew)
   have HTW:=Lib.hid (HTI.out.step HBX.out)
   have HBK:Hid ((wr.alloc (itO 0 y 0 nilS)).drew.heap[wr.heap.size]?=some (itO 0 y 0 nilS)):=heap_alloc_new wr (itO 0 y 0 nilS)
   have HAV:Hid (IV (fun b=>(H b\/b=w.heap.size\/b=w.heap.size+2)\/(Value.slice vA vn vc).ownBlock=some b) (wr.alloc (itO 0 y 0 nilS)).drew li 0 y 0 nilS):=by unfold Hid;rw [HLX.out];exact iv_none _ _ _ _ _ _ _
   have HSZ:Hid (w.heap.size+3<=(wr.alloc (itO 0 y 0 nilS)).drew.heap.size):=by unfold Hid;have:=HBX.out.size;omega
   go_wp2
   go_region_law (refine step_pushI rfl (.tmp 16) (.tmp 22) rfl (fun b=>H b\/b=w.heap.size\/b=w.heap.size+2) (w.heap.size+3) (.slice vA vn vc) (L.take i) (by rfl) HTW.out.own ⟨0,y,0,nilS⟩ li HAV.out wr.heap.size HBK.out (by rfl) HLB.out HSZ.out ?_;intro vA' vn' vc' w' hown' hbw;have HBW:=Lib.hid (hbw _ (Below.refl _ _));have HP:=Lib.hid (HTW.out.push HH.out hown' HBW.out);(obtain ⟨⟨q0,q1,q2⟩,qz⟩:=block3 (show w'.heap[w.heap.size+1+1]?=_ from (HBW.out.block _ (by omega)).trans HTW.out.out));clear hown' hbw)
   all_goals
    go_wp2
    go_roundw
    case rel=>exact ⟨i+1,_,by omega,by go_num,by rw [HTK.out];exact HP.out⟩
    case measure=>simp [intOf];omega
  ·have hge:¬ (i:Int) < (n:Int):=by omega
   obtain rfl:i=n:=by omega
   have HTL:Hid (L.take i=L):=by unfold Hid;rw [<- HLL.out];exact List.take_length
   obtain ⟨⟨z0,z1,z2⟩,zz⟩:=block3 HTI.out.res
   have HRB:=Lib.hid (set3_block HTI.out.res (sv (some ⟨w.heap.size+1,0,none⟩,1,1)) (.slice vA vn vc) (.int .i64 0))
   have HBB:=Lib.hid (below_set3 HTI.out.bel (G:=w.heap.size) (Nat.le_refl _) (sv (some ⟨w.heap.size+1,0,none⟩,1,1)) (.slice vA vn vc) (.int .i64 0))
   have hsr:RdH (fun b=>H b\/b=w.heap.size\/b=w.heap.size+2) wr (sv (some ⟨w.heap.size+1,0,none⟩,1,1)) ([(i:Int)].map (Value.int .i64)):=by
    intro W hz hb
    refine .inr ⟨w.heap.size+1,0,1,1,rfl,rfl,fun j hj=>?_⟩
    have hj0:j=0:=by simpa using hj
    subst hj0
    have hblk:W.heap[w.heap.size+1]?=some (shO (i:Int)):=by
     rw [hb _ (lt_blk HTI.out.shp) (by rintro (e | e | e);(have:=HH.out _ e;omega);omega;omega)]
     exact HTI.out.shp
    rw [cell_of_row _ (w.heap.size+1) (0+0) _ _ (0,0) hblk]
    rfl
   obtain ⟨x',hx',hpv⟩:=HTI.out.own.pv (fun b e=>by
    rcases e with e | e
    ·have:=HH.out b e;omega
    ·omega) hsr 0
   obtain ⟨xA,xn,xc⟩:=x'
   have h9:Value.slice vA vn vc= .slice xA xn xc:=hx'
   injection h9 with h10 h11 h12
   subst h10;subst h11;subst h12
   rw [HTL.out] at hpv
   have HPV:=Lib.hid (PV.sub (H':=H) (fun _ _ e => .inl e) (PV.lat (Lat.set3 (G:=w.heap.size) (.inr (.inl rfl)) (sv (some ⟨w.heap.size+1,0,none⟩,1,1)) (.slice vA vn vc) (.int .i64 0)) hpv))
   clear hpv hx' hsr
   go_wp2
   refine bodyPost_ret (v:=plV (some ⟨w.heap.size+1,0,none⟩,1,1) (vA,vn,vc) 0) ?_ rfl ⟨(some ⟨w.heap.size+1,0,none⟩,1,1),(vA,vn,vc),rfl,HPV.out,HBB.out⟩
   exact ret_plain (fn:=Tryz.f44) (p:=2) rfl _ _ w.heap.size (by rfl) HRB.out
end Go.Proofs.YtbakjaliponbbaaGreatDoor
