/- The walks of the reference's Num and Nums, and of value.Box. Walks of package math's functions on 64-bit floats: Abs, IsInf, IsNaN, Inf, Copysign, normalize, .. Conditions: as each theorem says. -/
import Derived.Test.YtdelgpelkfndeaaGreatDoorMgA
import Derived.Test.YtdelgpelkfndeaaGreatDoorMg14
import Derived.Deep.AppendLies
import Derived.Deep.RegionLaw
import Derived.Test.YtdelgpelkfndeaaGreatDoorMg00
import Derived.Test.YtdelgpelkfndeaaGreatDoorMg06
import Derived.Test.YtdelgpelkfndeaaGreatDoorMg13
import Derived.Test.YtdelgpelkfndeaaGreatDoorMg01
set_option maxRecDepth 100000
set_option maxHeartbeats 2000000
namespace Go.Proofs.YtdelgpelkfndeaaGreatDoor
open Go Go.RowKit Go.Proofs Fl
theorem QpD (b:Nat) (H:Nat->Prop) (w:World) (hH:∀ b,H b->b < w.heap.size) :
  Calls Tryz.prog 21 #[.float .f64 b] w (PlR H w (rawP (.nums [] [b])) 0):=by
 have HH:=hD hH
 clear hH
 have HB:=hD (bel2 w (plO nilS (some ⟨w.heap.size+1,0,none⟩,1,1) 0) (itO 0 b 0 nilS))
 have HR:Hid (((w.alloc (plO nilS (some ⟨w.heap.size+1,0,none⟩,1,1) 0)).alloc (itO 0 b 0 nilS)).heap[w.heap.size]?=some (plO nilS (some ⟨w.heap.size+1,0,none⟩,1,1) 0)):=Qar (bel1 _ _)
 have HI:Hid (At4 ((w.alloc (plO nilS (some ⟨w.heap.size+1,0,none⟩,1,1) 0)).alloc (itO 0 b 0 nilS)) (w.heap.size+1) 0 0 b 0 nilS):=by
  have g:=QbC (w.alloc (plO nilS (some ⟨w.heap.size+1,0,none⟩,1,1) 0)) 0 b 0 nilS
  have e:(w.alloc (plO nilS (some ⟨w.heap.size+1,0,none⟩,1,1) 0)).heap.size=w.heap.size+1:=by simp
  rw [e] at g
  exact g
 go_enter Tryz.func21,Tryz.ntmps21
 go_wp2
 refine bodyPost_ret (v:=plV nilS (some ⟨w.heap.size+1,0,none⟩,1,1) 0) ?_ rfl ⟨nilS,(some ⟨w.heap.size+1,0,none⟩,1,1),rfl,?_,HB.out⟩
 ·exact QaI (fn:=Tryz.f21) (p:=2) rfl _ _ w.heap.size (by rfl) HR.out
 ·rw [rawP]
  refine QkN (fun W hz hb => .inl ⟨none,0,rfl,rfl⟩) rfl fun i hi=>?_
  have hi0:i=0:=by simpa using hi
  subst hi0
  exact ⟨w.heap.size+1,0,0,b,0,nilS,rfl,fun e=>by have:=HH.out _ e;omega,Qbr _ _ _ _ _ _ _,HI.out⟩
theorem Qeg {ops:Array Oper}{o:Oper}{a:Act}{K:Act->World->Prop}{Q:Exit->Act->World->Prop}{E:Prop}{w:World} (hgd:o.guard=none) (s x:Operand)
  (ho:o.op= .call { callee := .builtin .append,args:=#[s,x],argTypes:=#[23,23]})
  (H:Nat->Prop) (B:Nat) (v:Value) (l:List RI) (hs:a.eval s=v) (hown:IOwn H w B v l) (q:I4) (A:RI) (hA:IV (fun b=>H b\/v.ownBlock=some b) w A q.k q.n q.c q.x)
  (G:Nat) (hG:w.heap[G]?=some (itO q.k q.n q.c q.x)) (hx:a.eval x= .slice (some ⟨G,0,none⟩) 1 1) (hl:l.length<=1048576) (hB:B<=w.heap.size)
  (k:∀ A' n' c' w',IOwn H w' B (.slice A' n' c') (l++[A])->(∀ w0,Below B w0 w->Below B w0 w')->K (a.put o.dst (.slice A' n' c')) w') :
  if Region.wanted o (yielded ops a.tmps)=true then Oper.wp Tryz.prog o a w K Q else E:=by
 obtain ⟨i0,hi0,hz0,hz1,hz2⟩:=info_parts QhK
 obtain ⟨qq,hrow,hel⟩:=hown
 refine step_append_lies w hgd s x 23 ho B 63 i0 _ 4 48 Tryz.underlying23 hi0 hz0 hz1 hz2 rfl (by omega) v l.length _ hs hrow ⟨G,0,none⟩ 1 1 (itL q) hx rfl ?_ ?_ (by omega) (by unfold maxLen;omega) (by omega) hB _ rfl ?_
 ·intro j u hj
  rw [Qba,Nat.zero_add,cell_of_row _ G j _ _ (0,0) hG]
  simpa using hj
 ·intro u hu
  simp only [List.mem_cons,List.not_mem_nil,or_false] at hu
  rcases hu with rfl | rfl | rfl | rfl <;> rfl
 intro g cap w' hown' hg hat _
 have hsz:w.heap.size<=w'.heap.size:=hg.size
 refine k _ _ _ w' ⟨fun i=>if i < l.length then qq i else q,?_,fun i hi=>?_⟩ (fun w0 hb=>hb.grown hg hB fun k hk=>(World.ownsRow.lt hrow k hk).1)
 ·rw [show (l++[A]).length=l.length+1 by simp,Qc2]
  have e:QdG l.length (fun i=>if i < l.length then qq i else q)=QdG l.length qq:=Qfi _ fun i hi=>by rw [if_pos hi]
  rw [e,if_neg (Nat.lt_irrefl _)]
  exact hown'
 ·have hlat:Lat (fun b=>v.ownBlock=some b) w w':=⟨hsz,fun b hb hn=>hg.block b hb (fun e=>hn e.symm)⟩
  have up:∀ {A:RI} {q:I4},IV (fun b=>H b\/v.ownBlock=some b) w A q.k q.n q.c q.x->IV (fun b=>H b\/(Value.slice (some ⟨g,0,none⟩) (l.length+1) cap).ownBlock=some b) w' A q.k q.n q.c q.x:=by
   intro A q hA
   have h1:IV (fun b=>(H b\/v.ownBlock=some b)\/b=g) w A q.k q.n q.c q.x:=IV.sub (fun b hb e=>by
    rcases e with e | e
    ·exact e
    ·subst e
     rcases hat with e2 | e2
     ·exact .inr e2
     ·omega) hA
   have h2:IV (fun b=>(H b\/v.ownBlock=some b)\/b=g) w' A q.k q.n q.c q.x:=IV.lat ⟨hlat.size,fun b hb hn=>hlat.block b hb fun e=>hn (.inl (.inr e))⟩ h1
   exact IV.sub (fun b _ e=>by
    rcases e with e | e
    ·exact .inl (.inl e)
    ·have e3:g=b:=by
      have:(Value.slice (some ⟨g,0,none⟩) (l.length+1) cap).ownBlock=some g:=rfl
      rw [this] at e
      injection e
     exact .inr e3.symm) h2
  by_cases hi2:i < l.length
  ·dsimp only
   rw [if_pos hi2,List.getElem_append_left hi2]
   exact up (hel i hi2)
  ·have e:i=l.length:=by rw [List.length_append] at hi;simp at hi;omega
   subst e
   dsimp only
   rw [if_neg hi2]
   simp only [List.getElem_append_right (Nat.le_refl _),Nat.sub_self,List.getElem_cons_zero]
   exact up hA
abbrev shO (n:Int):Obj := .cells #[.int .i64 n] 3
structure NmI (H:Nat->Prop) (w:World) (n:Nat) (l:List RI) (v:Value) (W:World):Prop where
 own:IOwn (fun b=>H b\/b=w.heap.size\/b=w.heap.size+2) W (w.heap.size+3) v l
 out:W.heap[w.heap.size+2]?=some (.cells #[sv (some ⟨w.heap.size+1,0,none⟩,1,1),v,.int .i64 0] 25)
 res:W.heap[w.heap.size]?=some (.cells Qa4 25)
 shp:W.heap[w.heap.size+1]?=some (shO (n:Int))
 bel:Below w.heap.size w W
theorem NmI.step {H:Nat->Prop}{w W W':World}{n:Nat}{l:List RI}{v:Value} (g:NmI H w n l v W) (hb:Below W.heap.size W W'):NmI H w n l v W' :=
 ⟨g.own.below hb,by rw [hb.block _ (lt_blk g.out)];exact g.out,by rw [hb.block _ (lt_blk g.res)];exact g.res,by rw [hb.block _ (lt_blk g.shp)];exact g.shp,Qaa g.bel hb⟩
theorem NmI.push {H:Nat->Prop}{w W w':World}{n:Nat}{l:List RI}{v v':Value}{A:RI} (g:NmI H w n l v W) (hH:∀ b,H b->b < w.heap.size) (hown:IOwn (fun b=>H b\/b=w.heap.size\/b=w.heap.size+2) w' (w.heap.size+3) v' (l++[A])) (hb:Below (w.heap.size+3) W w') :
  NmI H w n (l++[A]) v' (w'.setCell ⟨w.heap.size+2,1,none⟩ v'):=by
 have e2:w'.heap[w.heap.size+2]?=some (.cells #[sv (some ⟨w.heap.size+1,0,none⟩,1,1),v,.int .i64 0] 25):=by rw [hb.block _ (by omega)];exact g.out
 refine ⟨hown.lat (Lat.set (a:=⟨w.heap.size+2,1,none⟩) (.inr (.inr rfl)) v') (fun b e h2=>by
  have:=(hown.own_lt e).1
  rcases h2 with h2 | h2
  ·have:=hH b h2;omega
  ·omega),?_,?_,?_,(g.bel.trans (hb.mono (by omega))).setCell (by show _<=w.heap.size+2;omega) _⟩
 ·have h1:=heap_setCell_same _ (w.heap.size+2) 1 _ _ v' e2
  rw [show (#[sv (some ⟨w.heap.size+1,0,none⟩,1,1),v,.int .i64 0]:Array Value).setIfInBounds 1 v'=#[sv (some ⟨w.heap.size+1,0,none⟩,1,1),v',.int .i64 0] by simp] at h1
  exact h1
 ·rw [Below.heap_setCell _ _ _ _ (by show w.heap.size≠w.heap.size+2;omega),hb.block _ (by omega)]
  exact g.res
 ·rw [Below.heap_setCell _ _ _ _ (by show w.heap.size+1≠w.heap.size+2;omega),hb.block _ (by omega)]
  exact g.shp
theorem Qm1 (v:Value) (l:List Nat) (H:Nat->Prop) (w:World) (hH:∀ b,H b->b < w.heap.size) (hv:Reads1 w v (l.map (Value.float .f64))) (hl:l.length<=1048576) :
  Calls Tryz.prog 19 #[v] w (PlR H w (rawP (.nums [l.length] l)) 0):=by
 obtain ⟨A,n,c,rfl,hn,hcell⟩:=Qbc hv
 obtain ⟨L,hL⟩:∃ L,L=(l.map fun x=>RI.mk 0 x 0 []):=⟨_,rfl⟩
 have hraw:rawP (.nums [l.length] l)= .mk [(n:Int)] L 0:=by rw [rawP,hL,hn];rfl
 rw [hraw]
 have hLl:L.length=n:=by rw [hL,hn];simp
 have HLI:Hid (∀ i (hi:i < L.length) (h2:i < l.length),L[i]=RI.mk 0 l[i] 0 []):=by
  intro i hi h2
  subst hL
  simp
 have HLL:=hD hLl
 have HC:=hD hcell
 have HN:=hD hn
 have HH:=hD hH
 have hnb:n<=1048576:=by omega
 obtain ⟨w0,hw0⟩:∃ w0,w0=((w.alloc (.cells Qa4 25)).alloc (shO (n:Int))).alloc (plO (some ⟨w.heap.size+1,0,none⟩,1,1) nilS 0):=⟨_,rfl⟩
 have HW0:=hD hw0
 have s1:(w.alloc (.cells Qa4 25)).heap.size=w.heap.size+1:=by simp
 have s2:((w.alloc (.cells Qa4 25)).alloc (shO (n:Int))).heap.size=w.heap.size+2:=by simp
 have HI0:Hid (NmI H w n (L.take 0) (.slice none 0 0) w0):=by
  have h2:=heap_alloc_new ((w.alloc (.cells Qa4 25)).alloc (shO (n:Int))) (plO (some ⟨w.heap.size+1,0,none⟩,1,1) nilS 0)
  have h1:=QaJ (heap_alloc_new (w.alloc (.cells Qa4 25)) (shO (n:Int))) (plO (some ⟨w.heap.size+1,0,none⟩,1,1) nilS 0)
  have h0:=QaJ (QaJ (heap_alloc_new w (.cells Qa4 25)) (shO (n:Int))) (plO (some ⟨w.heap.size+1,0,none⟩,1,1) nilS 0)
  rw [s2,<- hw0] at h2
  rw [s1,<- hw0] at h1
  rw [<- hw0] at h0
  exact ⟨IOwn.nil _ _ _,h2,h0,h1,by rw [hw0];exact bel3 w _ _ _⟩
 clear hL hraw hLl hn hcell hv hl hH hw0 s1 s2
 go_enter Tryz.func19,Tryz.ntmps19
 go_wp2
 rw [<- HW0.out]
 go_loopw [4] (fun iv wr=>∃ (i:Nat) (v:Value),i<=n/\iv= .int .i64 (i:Int)/\NmI H w n (L.take i) v wr) (fun iv _=>n - (intOf iv).toNat)
 case atStart=>exact ⟨0,_,Nat.zero_le _,rfl,HI0.out⟩
 case round =>
  obtain ⟨i,v,hi,rfl,hti⟩:=hrel
  have HTI:=hD hti
  clear hti
  obtain ⟨vA,vn,vc,hvn⟩:∃ A n c,v= .slice A n c:=by obtain ⟨a,c,e⟩:=HTI.out.own.len;exact ⟨a,_,c,e⟩
  subst hvn
  obtain ⟨⟨e0,e1,e2⟩,ez⟩:=block3 (show wr.heap[w.heap.size+1+1]?=_ from HTI.out.out)
  have g1:=fun o=>Qab e1 o
  by_cases him:i < n
  ·have him2:(i:Int) < (n:Int):=by omega
   have hik:i < l.length:=by have:=HN.out;omega
   have hiL:i < L.length:=by have:=HLL.out;omega
   obtain ⟨b,o,rfl,hce⟩:=HC.out i hik
   have HTK:Hid (L.take (i+1)=L.take i++[L[i]]):=List.take_succ_eq_append_getElem hiL
   have HLX:=hD (HLI.out i hiL hik)
   have hcl:=QaB HTI.out.bel hce
   have hlb:(L.take i).length<=1048576:=by rw [List.length_take];omega
   have HLB:=hD hlb
   clear hlb hce
   generalize l[i]=y at HLX hcl
   generalize L[i]=li at HTK HLX
   have hsz:w.heap.size+3<=wr.heap.size:=by have:=lt_blk HTI.out.out;omega
   have HBX:=hD ((bel1 wr (itO 0 y 0 nilS)).drew)
   have HTW:=hD (HTI.out.step HBX.out)
   have HBK:Hid ((wr.alloc (itO 0 y 0 nilS)).drew.heap[wr.heap.size]?=some (itO 0 y 0 nilS)):=heap_alloc_new wr (itO 0 y 0 nilS)
   have HAV:Hid (IV (fun b=>(H b\/b=w.heap.size\/b=w.heap.size+2)\/(Value.slice vA vn vc).ownBlock=some b) (wr.alloc (itO 0 y 0 nilS)).drew li 0 y 0 nilS):=by unfold Hid;rw [HLX.out];exact Qbr _ _ _ _ _ _ _
   have HSZ:Hid (w.heap.size+3<=(wr.alloc (itO 0 y 0 nilS)).drew.heap.size):=by unfold Hid;have:=HBX.out.size;omega
   go_wp2
   go_region_law (refine Qeg rfl (.tmp 16) (.tmp 22) rfl (fun b=>H b\/b=w.heap.size\/b=w.heap.size+2) (w.heap.size+3) (.slice vA vn vc) (L.take i) (by rfl) HTW.out.own ⟨0,y,0,nilS⟩ li HAV.out wr.heap.size HBK.out (by rfl) HLB.out HSZ.out ?_;intro vA' vn' vc' w' hown' hbw;have HBW:=hD (hbw _ (Below.refl _ _));have HP:=hD (HTW.out.push HH.out hown' HBW.out);(obtain ⟨⟨q0,q1,q2⟩,qz⟩:=block3 (show w'.heap[w.heap.size+1+1]?=_ from (HBW.out.block _ (by omega)).trans HTW.out.out));clear hown' hbw)
   all_goals
    go_wp2
    go_roundw
    case rel=>exact ⟨i+1,_,by omega,by go_num,by rw [HTK.out];exact HP.out⟩
    case measure=>simp [intOf];omega
  ·have hge:¬ (i:Int) < (n:Int):=by omega
   obtain rfl:i=n:=by omega
   have HTL:Hid (L.take i=L):=by unfold Hid;rw [<- HLL.out];exact List.take_length
   obtain ⟨⟨z0,z1,z2⟩,zz⟩:=block3 HTI.out.res
   have HRB:=hD (Qae HTI.out.res (sv (some ⟨w.heap.size+1,0,none⟩,1,1)) (.slice vA vn vc) (.int .i64 0))
   have HBB:=hD (Qaf HTI.out.bel (G:=w.heap.size) (Nat.le_refl _) (sv (some ⟨w.heap.size+1,0,none⟩,1,1)) (.slice vA vn vc) (.int .i64 0))
   have hsr:RdH (fun b=>H b\/b=w.heap.size\/b=w.heap.size+2) wr (sv (some ⟨w.heap.size+1,0,none⟩,1,1)) ([(i:Int)].map (Value.int .i64)):=by
    intro W hz hb
    refine .inr ⟨w.heap.size+1,0,1,1,rfl,rfl,fun j hj=>?_⟩
    have hj0:j=0:=by simpa using hj
    subst hj0
    have hblk:W.heap[w.heap.size+1]?=some (shO (i:Int)):=by
     rw [hb _ (lt_blk HTI.out.shp) (by rintro (e | e | e);(have:=HH.out _ e;omega);omega;omega)]
     exact HTI.out.shp
    rw [cell_of_row _ (w.heap.size+1) (0+0) _ _ (0,0) hblk]
    rfl
   obtain ⟨x',hx',hpv⟩:=HTI.out.own.pv (fun b e=>by
    rcases e with e | e
    ·have:=HH.out b e;omega
    ·omega) hsr 0
   obtain ⟨xA,xn,xc⟩:=x'
   have h9:Value.slice vA vn vc= .slice xA xn xc:=hx'
   injection h9 with h10 h11 h12
   subst h10;subst h11;subst h12
   rw [HTL.out] at hpv
   have HPV:=hD (PV.sub (H':=H) (fun _ _ e => .inl e) (PV.lat (Lat.set3 (G:=w.heap.size) (.inr (.inl rfl)) (sv (some ⟨w.heap.size+1,0,none⟩,1,1)) (.slice vA vn vc) (.int .i64 0)) hpv))
   clear hpv hx' hsr
   go_wp2
   refine bodyPost_ret (v:=plV (some ⟨w.heap.size+1,0,none⟩,1,1) (vA,vn,vc) 0) ?_ rfl ⟨(some ⟨w.heap.size+1,0,none⟩,1,1),(vA,vn,vc),rfl,HPV.out,HBB.out⟩
   exact QaI (fn:=Tryz.f19) (p:=2) rfl _ _ w.heap.size (by rfl) HRB.out
theorem Qi7 (b:Nat) (w:World):(callFunc 229 #[.float .f64 b]).run Tryz.prog w= .ok (.value (.int .u64 b)) w:=by
 rw [run_callFunc_extern (fn:=Tryz.f229) (e:=Extern.MathFloatBits.float64bits) Tryz.func229 (by kernel_rfl) (by kernel_rfl) (by kernel_rfl) (by kernel_rfl)]
 rfl
structure V1B (w W:World) (p:V8):Prop where
 one:BoxP W w.heap.size p
 bel:Below w.heap.size w W
abbrev V1BC (w W:World) (p:V8):Prop:=(W.cell? ⟨w.heap.size,0,none⟩=some (.int .i64 p.k)/\W.cell? ⟨w.heap.size,1,none⟩=some (.slice p.b.1 p.b.2.1 p.b.2.2)/\W.cell? ⟨w.heap.size,2,none⟩=some (.int .i64 p.bn)/\W.cell? ⟨w.heap.size,3,none⟩=some (.slice p.s.1 p.s.2.1 p.s.2.2)/\W.cell? ⟨w.heap.size,4,none⟩=some (.slice p.i.1 p.i.2.1 p.i.2.2)/\W.cell? ⟨w.heap.size,5,none⟩=some (.slice p.f.1 p.f.2.1 p.f.2.2)/\W.cell? ⟨w.heap.size,6,none⟩=some (.slice p.c.1 p.c.2.1 p.c.2.2)/\W.cell? ⟨w.heap.size,7,none⟩=some (.slice p.x.1 p.x.2.1 p.x.2.2))
theorem V1B.step {w W W':World}{p:V8} (h:V1B w W p) (hb:Below W.heap.size W W'):V1B w W' p:=⟨h.one.below hb,Qaa h.bel hb⟩
theorem V1B.new (w:World) (p:V8):V1B w (w.alloc p.o) p:=⟨Qb3 w p,bel1 w _⟩
structure A1B (w W:World) (h:Sl) (p:V8):Prop where
 one:At9 W w.heap.size 0 h p
 bel:Below w.heap.size w W
theorem A1B.step {w W W':World}{h:Sl}{p:V8} (g:A1B w W h p) (hb:Below W.heap.size W W'):A1B w W' h p:=⟨g.one.below hb,Qaa g.bel hb⟩
theorem A1B.new (w:World) (h:Sl) (p:V8):A1B w (w.alloc (arrO h p)) h p:=⟨QaV w h p,bel1 w _⟩
def KeyR (z:Int) (w:World) (e:Ending) (w':World):Prop:=e= .returned (.int .u64 z)/\Below w.heap.size w w'
theorem Qm2 {Ha:Nat->Prop}{w0:World}{s:List Nat}{l:List Nat}{h:Sl}{p:V8} (ga:AV Ha w0 (.nums s l) h p) (i:Nat) (hi:i < l.length) (w:World) (hb0:Below w0.heap.size w0 w) :
  Calls Tryz.prog 170 #[p.v,.int .i64 (i:Int)] w (KeyR (keyI (elA (.nums s l) i)) w):=by
 have HC:Hid (∀ W,Below w.heap.size w W->Calls Tryz.prog 44 #[p.v] W fun e w'=>e= .returned (.int .i64 0)/\Below W.heap.size W w'):=fun W hb=>QaC ga W (Qaa hb0 hb)
 have HN:=hD (fun W (hb:Below w.heap.size w W)=>Qj7 ga W (Qaa hb0 hb) i hi)
 have hk:keyI (elA (.nums s l) i)=mixZ 2 (l.getD i 0:Nat):=by rw [elA,keyI,if_neg (by decide),if_neg (by decide)]
 rw [hk]
 generalize l.getD i 0=y at HN ⊢
 have cf:=Qi7
 clear hk
 have HS0:=hD (V1B.new w p)
 clear ga hb0 hi
 unfold KeyR
 go_enter Tryz.func170,Tryz.ntmps170
 obtain ⟨c0,c1,c2,c3,c4,c5,c6,c7⟩:=HS0.out.one
 go_wp2_with fail
 refine (HC.out _ HS0.out.bel).mono ?_
 rintro e w2 ⟨rfl,hb⟩
 have HS2:=hD (HS0.out.step hb)
 clear hb c0 c1 c2 c3 c4 c5 c6 c7 HS0
 obtain ⟨c0,c1,c2,c3,c4,c5,c6,c7⟩:=HS2.out.one
 go_wp2_with fail
 refine (HN.out _ HS2.out.bel).mono ?_
 rintro e w3 ⟨rfl,hb⟩
 have HS3:=hD (HS2.out.step hb)
 clear hb c0 c1 c2 c3 c4 c5 c6 c7 HS2
 go_wp2_with fail
 refine (Qfl _ _ _).mono ?_
 rintro e w4 ⟨rfl,rfl⟩
 go_wp2
 go_ret
 exact ⟨rfl,HS3.out.bel⟩
theorem Qm3 {Ha:Nat->Prop}{w0:World}{s:List Nat}{l:List Int}{h:Sl}{p:V8} (ga:AV Ha w0 (.chars s l) h p) (i:Nat) (hi:i < l.length) (w:World) (hb0:Below w0.heap.size w0 w) :
  Calls Tryz.prog 170 #[p.v,.int .i64 (i:Int)] w (KeyR (keyI (elA (.chars s l) i)) w):=by
 have HC:Hid (∀ W,Below w.heap.size w W->Calls Tryz.prog 44 #[p.v] W fun e w'=>e= .returned (.int .i64 1)/\Below W.heap.size W w'):=fun W hb=>QaC ga W (Qaa hb0 hb)
 have HN:=hD (fun W (hb:Below w.heap.size w W)=>Qcm ga i hi W (Qaa hb0 hb))
 have e1:l.getD i 0=l[i]:=by simp [List.getD,hi]
 have hk:keyI (elA (.chars s l) i)=mixZ 1 (l[i] % 4294967296):=by rw [elA,keyI,if_pos rfl,e1]
 rw [hk]
 generalize l[i]=y at HN ⊢
 clear hk e1
 have HS0:=hD (V1B.new w p)
 clear ga hb0 hi
 unfold KeyR
 go_enter Tryz.func170,Tryz.ntmps170
 obtain ⟨c0,c1,c2,c3,c4,c5,c6,c7⟩:=HS0.out.one
 go_wp2_with fail
 refine (HC.out _ HS0.out.bel).mono ?_
 rintro e w2 ⟨rfl,hb⟩
 have HS2:=hD (HS0.out.step hb)
 clear hb c0 c1 c2 c3 c4 c5 c6 c7 HS0
 obtain ⟨c0,c1,c2,c3,c4,c5,c6,c7⟩:=HS2.out.one
 go_wp2_with fail
 refine (HN.out _ HS2.out.bel).mono ?_
 rintro e w3 ⟨rfl,hb⟩
 have HS3:=hD (HS2.out.step hb)
 clear hb c0 c1 c2 c3 c4 c5 c6 c7 HS2
 go_wp2_with fail
 refine (Qfl _ _ _).mono ?_
 rintro e w4 ⟨rfl,rfl⟩
 go_wp2
 go_ret
 exact ⟨rfl,HS3.out.bel⟩
theorem Qm4 {Ha:Nat->Prop}{w0:World}{s:List Nat}{l:List PA}{h:Sl}{p:V8} (ga:AV Ha w0 (.boxes s l) h p) (i:Nat) (hi:i < l.length) (hIH:∀ (W:World) (u:Sl) (v:V8),AV Ha W (l.getD i default) u v->Calls Tryz.prog 228 #[arrV u v] W (KeyR (keyP (rawP (l.getD i default))) W)) (w:World) (hb0:Below w0.heap.size w0 w) :
  Calls Tryz.prog 170 #[p.v,.int .i64 (i:Int)] w (KeyR (keyI (elA (.boxes s l) i)) w):=by
 have HC:Hid (∀ W,Below w.heap.size w W->Calls Tryz.prog 44 #[p.v] W fun e w'=>e= .returned (.int .i64 2)/\Below W.heap.size W w'):=fun W hb=>QaC ga W (Qaa hb0 hb)
 have HN:=hD (fun W (hb:Below w.heap.size w W)=>QdL (AV.step ga (Qaa hb0 hb)) i hi W (Below.refl _ _))
 have HII:=hD hIH
 have e1:l.getD i default=l[i]:=by simp [List.getD,hi]
 have hk:keyI (elA (.boxes s l) i)=keyP (rawP l[i]):=by rw [elA,keyI,if_neg (by decide),if_pos rfl,keyB,e1]
 rw [hk]
 rw [e1] at HII
 unfold BoxR at HN
 generalize l[i]=y at HN HII ⊢
 clear hk e1 hIH
 have HS0:=hD (V1B.new w p)
 clear ga hb0 hi
 unfold KeyR
 go_enter Tryz.func170,Tryz.ntmps170
 obtain ⟨c0,c1,c2,c3,c4,c5,c6,c7⟩:=HS0.out.one
 go_wp2_with fail
 refine (HC.out _ HS0.out.bel).mono ?_
 rintro e w2 ⟨rfl,hb⟩
 have HS2:=hD (HS0.out.step hb)
 clear hb c0 c1 c2 c3 c4 c5 c6 c7 HS0
 obtain ⟨c0,c1,c2,c3,c4,c5,c6,c7⟩:=HS2.out.one
 go_wp2_with fail
 refine (HN.out _ HS2.out.bel).mono ?_
 rintro e w3 ⟨u,v,rfl,hav,hb⟩
 have HS3:=hD (HS2.out.step hb)
 have HAV:=hD (AV.step hav hb)
 clear hb hav c0 c1 c2 c3 c4 c5 c6 c7 HS2
 go_wp2_with fail
 unfold KeyR at HII
 refine (HII.out _ _ _ HAV.out).mono ?_
 rintro e w4 ⟨rfl,hb⟩
 have HS4:=hD (HS3.out.step hb)
 clear hb
 go_wp2
 go_ret
 exact ⟨rfl,HS4.out.bel⟩
theorem Qeh {Ha:Nat->Prop}{a:PA}{h:Sl}{p:V8} (w:World) (ga:AV Ha w a h p) (hs:a.shape.length<=1048576) (hl:a.len<=1000000)
  (hKE:∀ i,i < a.len->∀ W,Below w.heap.size w W->Calls Tryz.prog 170 #[p.v,.int .i64 (i:Int)] W (KeyR (keyI (elA a i)) W)) :
  Calls Tryz.prog 228 #[arrV h p] w (KeyR (keyP (rawP a)) w):=by
 have HC:=hD (fun W (hb:Below w.heap.size w W)=>QaC ga W hb)
 have HL:=hD (fun W (hb:Below w.heap.size w W)=>Qbj ga W hb)
 have r1:Reads1 w (sv h) ((a.shape.map Int.ofNat).map (Value.int .i64)):=by
  rw [List.map_map]
  exact ga.shape.now
 have hK:keyP (rawP a)=QcA ((a.shape.map Int.ofNat).foldl (fun h d=>mixZ h (IntKind.u64.wrap d)) (mixZ 3 (IntKind.u64.wrap (a.fill:Int)))) (rawP a).its:=by
  rw [Qcl (rawP a),keyP,QbO,QdJ]
  rfl
 have hln:=Qbt a
 have hit:∀ i,i < a.len->(rawP a).its.getD i default=elA a i:=fun i hi=>Qb8 hi
 rw [hK]
 have hs2:(a.shape.map Int.ofNat).length<=1048576:=by rw [List.length_map];exact hs
 have HKE:=hD hKE
 generalize a.shape.map Int.ofNat=sh at *
 generalize (rawP a).its=its at *
 generalize a.len=n at *
 generalize a.fill=z at *
 obtain ⟨hA,hn,hc⟩:=h
 obtain ⟨A,m,c,hv,hm,hcell⟩:=Qcz r1
 obtain ⟨rfl,hmm,rfl⟩:hA=A/\hn=m/\hc=c:=by injection hv with e1 e2 e3;exact ⟨e1,by omega,by omega⟩
 subst hmm
 obtain ⟨k0,hk0⟩:∃ k0,k0=mixZ 3 (IntKind.u64.wrap (z:Int)):=⟨_,rfl⟩
 rw [<- hk0]
 have HK0:=hD hk0.symm
 clear hk0
 have HCE:=hD hcell
 have HM:=hD hm
 have HIT:=hD hit
 have hnb:hn<=1048576:=by omega
 have HS0:=hD (A1B.new w (hA,hn,hc) p)
 have HLN:=hD hln
 clear ga hs hK r1 hv hcell hit hKE hm hln hs2
 unfold KeyR at HKE ⊢
 go_enter Tryz.func228,Tryz.ntmps228
 obtain ⟨c0,c1,c2,c3,c4,c5,c6,c7,c8⟩:=HS0.out.one.c
 dsimp only at c0
 go_wp2_with fail
 refine (HC.out _ HS0.out.bel).mono ?_
 rintro e w2 ⟨rfl,hb⟩
 have HS2:=hD (HS0.out.step hb)
 clear hb c0 c1 c2 c3 c4 c5 c6 c7 c8 HS0 HC
 obtain ⟨c0,c1,c2,c3,c4,c5,c6,c7,c8⟩:=HS2.out.one.c
 dsimp only at c0
 go_wp2_with fail
 refine (Qfl _ _ _).mono ?_
 rintro e w3 ⟨rfl,rfl⟩
 rw [HK0.out]
 go_wp2
 go_loopw [3,15] (fun hv iv wr=>∃ i:Nat,i<=hn/\iv= .int .i64 (i:Int)/\hv= .int .u64 ((sh.take i).foldl (fun h d=>mixZ h (IntKind.u64.wrap d)) k0)/\A1B w wr (hA,hn,hc) p) (fun _ iv _=>hn - (intOf iv).toNat)
 case atStart=>exact ⟨0,Nat.zero_le _,rfl,rfl,HS2.out⟩
 case round =>
  obtain ⟨i,hi,rfl,rfl,hti⟩:=hrel
  have HTI:=hD hti
  clear hti
  by_cases hlt:i < hn
  ·have hlt2:(i:Int) < (hn:Int):=by omega
   have his:i < sh.length:=by have:=HM.out;omega
   obtain ⟨b,o,rfl,hce⟩:=HCE.out i his
   have ce:=QaB HTI.out.bel hce
   have hft:=QkV his (fun h d=>mixZ h (IntKind.u64.wrap d)) k0
   generalize sh[i]=d at ce hft
   generalize hkz:(sh.take (i+1)).foldl (fun h d=>mixZ h (IntKind.u64.wrap d)) k0=kz at hft
   generalize (sh.take i).foldl (fun h d=>mixZ h (IntKind.u64.wrap d)) k0=ky at hft ⊢
   have HFT:=hD (hkz.trans hft)
   clear hce hft hkz c0 c1 c2 c3 c4 c5 c6 c7 c8 his HCE
   go_wp2_with fail
   refine (Qfl _ _ _).mono ?_
   rintro e w4 ⟨rfl,rfl⟩
   go_wp2
   go_roundw
   case rel=>exact ⟨i+1,by omega,by go_num,by rw [HFT.out],HTI.out⟩
   case measure=>simp [intOf];omega
  ·have hge:¬ (i:Int) < (hn:Int):=by omega
   have hie:i=sh.length:=by have:=HM.out;omega
   have htk:sh.take i=sh:=by rw [hie,List.take_length]
   rw [htk]
   obtain ⟨k1,hk1⟩:∃ k1,k1=sh.foldl (fun h d=>mixZ h (IntKind.u64.wrap d)) k0:=⟨_,rfl⟩
   rw [<- hk1]
   have HK1:=hD hk1
   clear c0 c1 c2 c3 c4 c5 c6 c7 c8 HCE htk hie hk1
   obtain ⟨c0,c1,c2,c3,c4,c5,c6,c7,c8⟩:=HTI.out.one.c
   go_wp2_with fail
   refine (HL.out _ HTI.out.bel).mono ?_
   rintro e w5 ⟨rfl,hb⟩
   have HS5:=hD (HTI.out.step hb)
   clear hb c0 c1 c2 c3 c4 c5 c6 c7 c8 HTI HL hge hlt hi
   go_wp2
   go_loopw [3,27] (fun hv iv wr=>∃ i:Nat,i<=n/\iv= .int .i64 (i:Int)/\hv= .int .u64 (QcA k1 (its.take i))/\A1B w wr (hA,hn,hc) p) (fun _ iv _=>n - (intOf iv).toNat)
   case atStart=>exact ⟨0,Nat.zero_le _,rfl,by rw [List.take_zero,QcA],HS5.out⟩
   case round =>
    obtain ⟨j,hj,rfl,rfl,htj⟩:=hrel
    have HTJ:=hD htj
    clear htj
    by_cases hlt:j < n
    ·have hlt2:(j:Int) < (n:Int):=by omega
     have hft:=QkU (show j < its.length by have:=HLN.out;omega) k1
     rw [HIT.out j hlt] at hft
     generalize hkz:QcA k1 (its.take (j+1))=kz at hft
     generalize QcA k1 (its.take j)=ky at hft ⊢
     have HFT:=hD (hkz.trans hft)
     clear hft hkz
     obtain ⟨c0,c1,c2,c3,c4,c5,c6,c7,c8⟩:=HTJ.out.one.c
     go_wp2_with fail
     refine (HKE.out j hlt _ HTJ.out.bel).mono ?_
     rintro e w6 ⟨rfl,hb⟩
     have HT6:=hD (HTJ.out.step hb)
     clear hb c0 c1 c2 c3 c4 c5 c6 c7 c8 HTJ
     go_wp2_with fail
     refine (Qfl _ _ _).mono ?_
     rintro e w7 ⟨rfl,rfl⟩
     go_wp2
     go_roundw
     case rel=>exact ⟨j+1,by omega,by go_num,by rw [HFT.out],HT6.out⟩
     case measure=>simp [intOf];omega
    ·have hge:¬ (j:Int) < (n:Int):=by omega
     have hie:j=its.length:=by have:=HLN.out;omega
     have htk:its.take j=its:=by rw [hie,List.take_length]
     rw [htk]
     go_wp2
     go_ret
     exact ⟨by rw [<- HK1.out];rfl,HTJ.out.bel⟩
theorem QhV:∀ (d:Nat) (Ha:Nat->Prop) (a:PA) (h:Sl) (p:V8) (w:World),GoodA d a->SmA 1000000 a->AV Ha w a h p->Calls Tryz.prog 228 #[arrV h p] w (KeyR (keyP (rawP a)) w)
 | 0,_,_,_,_,_,hg,_,_=>absurd hg.sh.1 (Nat.lt_irrefl _)
 | d+1,Ha,.nums s l,h,p,w,hg,hs,ga=>Qeh w ga (by have:s.length<=8:=hg.sh.2.1;show s.length<=_;omega) hs.len fun i hi W hb=>Qm2 ga i hi W hb
 | d+1,Ha,.chars s l,h,p,w,hg,hs,ga=>Qeh w ga (by have:s.length<=8:=hg.sh.2.1;show s.length<=_;omega) hs.len fun i hi W hb=>Qm3 ga i hi W hb
 | d+1,Ha,.boxes s l,h,p,w,hg,hs,ga=>Qeh w ga (by have:s.length<=8:=hg.sh.2.1;show s.length<=_;omega) hs.len fun i hi W hb=>by
  have hi2:i < l.length:=hi
  have e:l.getD i default=l[i]:=by simp [List.getD,hi2]
  refine Qm4 ga i hi2 (fun W u v g1=>?_) W hb
  rw [e] at g1 ⊢
  exact QhV d Ha l[i] u v W (by simpa using hg.boxes i hi2) (hs.boxes i hi2) g1
theorem Qm5 {Ha:Nat->Prop}{a:PA}{h:Sl}{p:V8}{w0:World} (d:Nat) (hg:GoodA (d+1) a) (hs:SmA 1000000 a) (ga:AV Ha w0 a h p) (i:Nat) (hi:i < a.len) (w:World) (hb:Below w0.heap.size w0 w) :
  Calls Tryz.prog 170 #[p.v,.int .i64 (i:Int)] w (KeyR (keyI (elA a i)) w):=by
 cases a with
 | nums s l=>exact Qm2 ga i hi w hb
 | chars s l=>exact Qm3 ga i hi w hb
 | boxes s l =>
  have hi2:i < l.length:=hi
  have e:l.getD i default=l[i]:=by simp [List.getD,hi2]
  refine Qm4 ga i hi2 (fun W u v g1=>?_) w hb
  rw [e] at g1 ⊢
  exact QhV d Ha l[i] u v W (by simpa using hg.boxes i hi2) (hs.boxes i hi2) g1
end Go.Proofs.YtdelgpelkfndeaaGreatDoor
namespace Go.Proofs.YtdelgpelkfndeaaGreatDoor
open Go Go.RowKit Go.Proofs
def fstI {α:Type} (el:Nat->α) (i:Nat):Prop:=∀ k,k < i->el k≠el i
def QpE {α:Type} (S:Nat) (L:List Int) (el:Nat->α) (x:α) (k p:Nat):Prop :=
 ∃ d,d < S/\p=(k+d) % S/\(∀ d',d' < d->∃ j:Nat,L.getD ((k+d') % S) 0=(j:Int)/\el j≠x)/\(L.getD p 0=-1\/∃ j:Nat,L.getD p 0=(j:Int)/\el j=x)
structure TabI {α:Type} (S c:Nat) (el:Nat->α) (hm:α->Nat) (L:List Int):Prop where
 len:L.length=S
 ok:∀ p,p < S->L.getD p 0=-1\/∃ j:Nat,j < c/\L.getD p 0=(j:Int)/\fstI el j
 at_:∀ j,j < c->fstI el j->∃ d,d < S/\L.getD ((hm (el j)+d) % S) 0=(j:Int)/\∀ d',d' < d->0<=L.getD ((hm (el j)+d') % S) 0
 occ:(L.filter fun x=>decide (0<=x)).length<=c
theorem QpF (l:List Int) (p:Nat) (x:Int):((l.set p x).filter fun x=>decide (0<=x)).length<=(l.filter fun x=>decide (0<=x)).length+1:=by
 induction l generalizing p with
 | nil=>simp
 | cons a ar ih =>
  cases p with
  | zero =>
   rw [List.set_cons_zero,List.filter_cons,List.filter_cons]
   split <;> split <;> simp <;> omega
  | succ p =>
   rw [List.set_cons_succ,List.filter_cons,List.filter_cons]
   have:=ih p
   split <;> simp <;> omega
theorem Qj9:∀ (l:List Int),(∀ p,p < l.length->0<=l.getD p 0)->(l.filter fun x=>decide (0<=x)).length=l.length
 | [],_=>by simp
 | a::ar,h=>by
  have h0:0<=a:=by have:=h 0 (by simp);simpa using this
  rw [List.filter_cons_of_pos (by simpa using h0),List.length_cons,List.length_cons,Qj9 ar fun p hp=>by have:=h (p+1) (by simpa using hp);simpa using this]
theorem TabI.free {α:Type}{S c:Nat}{el:Nat->α}{hm:α->Nat}{L:List Int} (h:TabI S c el hm L) (hc:c < S):∃ p,p < S/\L.getD p 0=-1:=by
 apply Classical.byContradiction
 intro hn
 have:=Qj9 L fun p hp=>by
  rw [h.len] at hp
  rcases h.ok p hp with e | ⟨j,_,e,_⟩
  ·exact absurd ⟨p,hp,e⟩ hn
  ·omega
 have:=h.occ
 have:=h.len
 omega
theorem TabI.dist {α:Type}{S c:Nat}{el:Nat->α}{hm:α->Nat}{L:List Int} (h:TabI S c el hm L) (hc:c < S) (k:Nat):∃ d,d < S/\L.getD ((k+d) % S) 0=-1:=by
 obtain ⟨p,hp,e⟩:=h.free hc
 have h1:k % S < S:=Nat.mod_lt _ (by omega)
 have h2:=Nat.div_add_mod k S
 by_cases h0:k % S<=p
 ·refine ⟨p - k % S,by omega,?_⟩
  rw [show k+(p - k % S)=S*(k / S)+p by omega,Nat.mul_add_mod,Nat.mod_eq_of_lt hp]
  exact e
 ·refine ⟨p+S - k % S,by omega,?_⟩
  rw [show k+(p+S - k % S)=S*(k / S)+(p+S) by omega,Nat.mul_add_mod,Nat.add_mod_right,Nat.mod_eq_of_lt hp]
  exact e
theorem Qqr {α:Type} (el:Nat->α):∀ (i:Nat),∃ j,j<=i/\el j=el i/\fstI el j:=by
 intro i
 induction i using Nat.strongRecOn with
 | ind i ih =>
  by_cases h:∃ k,k < i/\el k=el i
  ·obtain ⟨k,hk,e⟩:=h
   obtain ⟨j,hj,e2,hf⟩:=ih k hk
   exact ⟨j,by omega,e2.trans e,hf⟩
  ·exact ⟨i,Nat.le_refl _,rfl,fun k hk e=>h ⟨k,hk,e⟩⟩
theorem QpG {α:Type}{el:Nat->α}{i j:Nat} (hi:fstI el i) (hj:fstI el j) (e:el i=el j):i=j:=by
 rcases Nat.lt_trichotomy i j with h | h | h
 ·exact absurd e (hj i h)
 ·exact h
 ·exact absurd e.symm (hi j h)
theorem TabI.found {α:Type}{S c:Nat}{el:Nat->α}{hm:α->Nat}{L:List Int} (h:TabI S c el hm L){x:α}{p:Nat} (ho:QpE S L el x (hm x) p){j:Nat} (hj:j < c) (hf:fstI el j) (e:el j=x):L.getD p 0=(j:Int):=by
 obtain ⟨d,hd,rfl,hb,hl⟩:=ho
 obtain ⟨e2,he,hat,hbe⟩:=h.at_ j hj hf
 rw [e] at hat hbe
 have hle:d<=e2:=by
  apply Classical.byContradiction
  intro hn
  obtain ⟨j2,h1,h2⟩:=hb e2 (by omega)
  rw [hat] at h1
  have:j=j2:=by omega
  subst this
  exact h2 e
 by_cases h3:d=e2
 ·subst h3;exact hat
 have h4:=hbe d (by omega)
 rcases hl with h5 | ⟨j2,h5,h6⟩
 ·omega
 ·have hS:(hm x+d) % S < S:=Nat.mod_lt _ (by omega)
  rcases h.ok _ hS with h7 | ⟨j3,_,h7,h8⟩
  ·omega
  ·rw [h5] at h7
   have:j2=j3:=by omega
   subst this
   rw [h5,QpG hf h8 (e.trans h6.symm)]
theorem TabI.put {α:Type}{S c:Nat}{el:Nat->α}{hm:α->Nat}{L:List Int} (h:TabI S c el hm L){p:Nat} (ho:QpE S L el (el c) (hm (el c)) p) (hp:L.getD p 0=-1):TabI S (c+1) el hm (L.set p (c:Int))/\fstI el c:=by
 have hf:fstI el c:=fun k hk e=>by
  obtain ⟨j,hj,e2,hf⟩:=Qqr el k
  have:=h.found ho (show j < c by omega) hf (e2.trans e)
  omega
 obtain ⟨d,hd,rfl,hb,hl⟩:=ho
 have hS:(hm (el c)+d) % S < S:=Nat.mod_lt _ (by omega)
 have hg:∀ q,q < S->(L.set ((hm (el c)+d) % S) (c:Int)).getD q 0=if q=(hm (el c)+d) % S then (c:Int) else L.getD q 0:=fun q hq=>by
  rw [List.getD_eq_getElem?_getD,List.getElem?_set,List.getD_eq_getElem?_getD]
  by_cases h1:(hm (el c)+d) % S=q
  ·rw [if_pos h1,if_pos h1.symm,if_pos (by rw [h.len];exact hS)];rfl
  ·rw [if_neg h1,if_neg (fun e=>h1 e.symm)]
 refine ⟨⟨by rw [List.length_set,h.len],fun q hq=>?_,fun j hj hfj=>?_,Nat.le_trans (QpF _ _ _) (by have:=h.occ;omega)⟩,hf⟩
 ·rw [hg q hq]
  by_cases h1:q=(hm (el c)+d) % S
  ·rw [if_pos h1];exact .inr ⟨c,by omega,rfl,hf⟩
  ·rw [if_neg h1]
   rcases h.ok q hq with h2 | ⟨j,h2,h3,h4⟩
   ·exact .inl h2
   ·exact .inr ⟨j,by omega,h3,h4⟩
 ·by_cases hjc:j=c
  ·subst hjc
   refine ⟨d,hd,by rw [hg _ hS,if_pos rfl],fun d' hd'=>?_⟩
   rw [hg _ (Nat.mod_lt _ (by omega))]
   split
   ·omega
   ·obtain ⟨j2,h1,_⟩:=hb d' hd'
    rw [h1];omega
  ·obtain ⟨e2,he,hat,hbe⟩:=h.at_ j (by omega) hfj
   refine ⟨e2,he,?_,fun d' hd'=>?_⟩
   ·rw [hg _ (Nat.mod_lt _ (by omega)),if_neg,hat]
    intro e
    rw [e,hp] at hat
    omega
   ·rw [hg _ (Nat.mod_lt _ (by omega))]
    split
    ·omega
    ·exact hbe d' hd'
theorem TabI.keep {α:Type}{S c:Nat}{el:Nat->α}{hm:α->Nat}{L:List Int} (h:TabI S c el hm L) (hn:¬ fstI el c):TabI S (c+1) el hm L:=by
 refine ⟨h.len,fun q hq=>?_,fun j hj hfj=>?_,by have:=h.occ;omega⟩
 ·rcases h.ok q hq with h2 | ⟨j,h2,h3,h4⟩
  ·exact .inl h2
  ·exact .inr ⟨j,by omega,h3,h4⟩
 ·have:j≠c:=fun e=>hn (e▸hfj)
  exact h.at_ j (by omega) hfj
theorem TabI.new {α:Type} (S:Nat) (el:Nat->α) (hm:α->Nat):TabI S 0 el hm (List.replicate S (-1)):=by
 refine ⟨by simp,fun p hp => .inl ?_,fun j hj=>absurd hj (Nat.not_lt_zero _),?_⟩
 ·rw [List.getD_eq_getElem?_getD,List.getElem?_replicate,if_pos hp];rfl
 ·rw [List.filter_eq_nil_iff.2 (by simp)];simp
end Go.Proofs.YtdelgpelkfndeaaGreatDoor
