/- The walks of the reference's Num and Nums, and of value.Box. Plain arrays of tidy numbers; what one and two, and ten, come to: plain law. What fine tells; an .. Conditions: as each theorem says. -/
import Derived.Test.YtiahegjdkejjpaaGreatDoorMg36
import Derived.Deep.AppendLies
import Derived.Deep.RegionLaw
import Derived.Test.YtiahegjdkejjpaaGreatDoorMg37
import Derived.Test.YtiahegjdkejjpaaGreatDoorMg29
import Derived.Test.YtiahegjdkejjpaaGreatDoorMg35
set_option maxRecDepth 100000
set_option maxHeartbeats 1000000
namespace Go.Proofs.YtiahegjdkejjpaaGreatDoor
open Go Go.RowKit Go.Proofs Fl
theorem rnum_any (b:Nat) (H:Nat->Prop) (w:World) (hH:∀ b,H b->b < w.heap.size) :
  Calls Tryz.prog 56 #[.float .f64 b] w (PlR H w (rawP (.nums [] [b])) 0):=by
 have HH:=Lib.hid hH
 clear hH
 have HB:=Lib.hid (bel2 w (plO nilS (some ⟨w.heap.size+1,0,none⟩,1,1) 0) (itO 0 b 0 nilS))
 have HR:Hid (((w.alloc (plO nilS (some ⟨w.heap.size+1,0,none⟩,1,1) 0)).alloc (itO 0 b 0 nilS)).heap[w.heap.size]?=some (plO nilS (some ⟨w.heap.size+1,0,none⟩,1,1) 0)):=block_up (bel1 _ _)
 have HI:Hid (At4 ((w.alloc (plO nilS (some ⟨w.heap.size+1,0,none⟩,1,1) 0)).alloc (itO 0 b 0 nilS)) (w.heap.size+1) 0 0 b 0 nilS):=by
  have g:=at4_box (w.alloc (plO nilS (some ⟨w.heap.size+1,0,none⟩,1,1) 0)) 0 b 0 nilS
  have e:(w.alloc (plO nilS (some ⟨w.heap.size+1,0,none⟩,1,1) 0)).heap.size=w.heap.size+1:=by simp
  rw [e] at g
  exact g
 go_enter Tryz.func56,Tryz.ntmps56
 go_wp2
 refine bodyPost_ret (v:=plV nilS (some ⟨w.heap.size+1,0,none⟩,1,1) 0) ?_ rfl ⟨nilS,(some ⟨w.heap.size+1,0,none⟩,1,1),rfl,?_,HB.out⟩
 ·exact ret_plain (fn:=Tryz.f56) (p:=2) rfl _ _ w.heap.size (by rfl) HR.out
 ·rw [rawP]
  refine pv_of (fun W hz hb => .inl ⟨none,0,rfl,rfl⟩) rfl fun i hi=>?_
  have hi0:i=0:=by simpa using hi
  subst hi0
  exact ⟨w.heap.size+1,0,0,b,0,nilS,rfl,fun e=>by have:=HH.out _ e;omega,iv_none _ _ _ _ _ _ _,HI.out⟩
theorem step_pushI {ops:Array Oper}{o:Oper}{a:Act}{K:Act->World->Prop}{Q:Exit->Act->World->Prop}{E:Prop}{w:World} (hgd:o.guard=none) (s x:Operand)
  (ho:o.op= .call { callee := .builtin .append,args:=#[s,x],argTypes:=#[23,23]})
  (H:Nat->Prop) (B:Nat) (v:Value) (l:List RI) (hs:a.eval s=v) (hown:IOwn H w B v l) (q:I4) (A:RI) (hA:IV (fun b=>H b\/v.ownBlock=some b) w A q.k q.n q.c q.x)
  (G:Nat) (hG:w.heap[G]?=some (itO q.k q.n q.c q.x)) (hx:a.eval x= .slice (some ⟨G,0,none⟩) 1 1) (hl:l.length<=1048576) (hB:B<=w.heap.size)
  (k:∀ A' n' c' w',IOwn H w' B (.slice A' n' c') (l++[A])->(∀ w0,Below B w0 w->Below B w0 w')->K (a.put o.dst (.slice A' n' c')) w') :
  if Region.wanted o (yielded ops a.tmps)=true then Oper.wp Tryz.prog o a w K Q else E:=by
 obtain ⟨i0,hi0,hz0,hz1,hz2⟩:=info_parts item_info
 obtain ⟨qq,hrow,hel⟩:=hown
 refine step_append_lies w hgd s x 23 ho B 59 i0 _ 4 48 Tryz.underlying23 hi0 hz0 hz1 hz2 rfl (by omega) v l.length _ hs hrow ⟨G,0,none⟩ 1 1 (itL q) hx rfl ?_ ?_ (by omega) (by unfold maxLen;omega) (by omega) hB _ rfl ?_
 ·intro j u hj
  rw [add_zero_off,Nat.zero_add,cell_of_row _ G j _ _ (0,0) hG]
  simpa using hj
 ·intro u hu
  simp only [List.mem_cons,List.not_mem_nil,or_false] at hu
  rcases hu with rfl | rfl | rfl | rfl <;> rfl
 intro g cap w' hown' hg hat _
 have hsz:w.heap.size<=w'.heap.size:=hg.size
 refine k _ _ _ w' ⟨fun i=>if i < l.length then qq i else q,?_,fun i hi=>?_⟩ (fun w0 hb=>hb.grown hg hB fun k hk=>(World.ownsRow.lt hrow k hk).1)
 ·rw [show (l++[A]).length=l.length+1 by simp,flatI_succ]
  have e:flatI l.length (fun i=>if i < l.length then qq i else q)=flatI l.length qq:=flatI_congr _ fun i hi=>by rw [if_pos hi]
  rw [e,if_neg (Nat.lt_irrefl _)]
  exact hown'
 ·have hlat:Lat (fun b=>v.ownBlock=some b) w w':=⟨hsz,fun b hb hn=>hg.block b hb (fun e=>hn e.symm)⟩
  have up:∀ {A:RI} {q:I4},IV (fun b=>H b\/v.ownBlock=some b) w A q.k q.n q.c q.x->IV (fun b=>H b\/(Value.slice (some ⟨g,0,none⟩) (l.length+1) cap).ownBlock=some b) w' A q.k q.n q.c q.x:=by
   intro A q hA
   have h1:IV (fun b=>(H b\/v.ownBlock=some b)\/b=g) w A q.k q.n q.c q.x:=IV.sub (fun b hb e=>by
    rcases e with e | e
    ·exact e
    ·subst e
     rcases hat with e2 | e2
     ·exact .inr e2
     ·omega) hA
   have h2:IV (fun b=>(H b\/v.ownBlock=some b)\/b=g) w' A q.k q.n q.c q.x:=IV.lat ⟨hlat.size,fun b hb hn=>hlat.block b hb fun e=>hn (.inl (.inr e))⟩ h1
   exact IV.sub (fun b _ e=>by
    rcases e with e | e
    ·exact .inl (.inl e)
    ·have e3:g=b:=by
      have:(Value.slice (some ⟨g,0,none⟩) (l.length+1) cap).ownBlock=some g:=rfl
      rw [this] at e
      injection e
     exact .inr e3.symm) h2
  by_cases hi2:i < l.length
  ·dsimp only
   rw [if_pos hi2,List.getElem_append_left hi2]
   exact up (hel i hi2)
  ·have e:i=l.length:=by rw [List.length_append] at hi;simp at hi;omega
   subst e
   dsimp only
   rw [if_neg hi2]
   simp only [List.getElem_append_right (Nat.le_refl _),Nat.sub_self,List.getElem_cons_zero]
   exact up hA
abbrev shO (n:Int):Obj := .cells #[.int .i64 n] 3
structure NmI (H:Nat->Prop) (w:World) (n:Nat) (l:List RI) (v:Value) (W:World):Prop where
 own:IOwn (fun b=>H b\/b=w.heap.size\/b=w.heap.size+2) W (w.heap.size+3) v l
 out:W.heap[w.heap.size+2]?=some (.cells #[sv (some ⟨w.heap.size+1,0,none⟩,1,1),v,.int .i64 0] 25)
 res:W.heap[w.heap.size]?=some (.cells zeroPl 25)
 shp:W.heap[w.heap.size+1]?=some (shO (n:Int))
 bel:Below w.heap.size w W
theorem NmI.step {H:Nat->Prop}{w W W':World}{n:Nat}{l:List RI}{v:Value} (g:NmI H w n l v W) (hb:Below W.heap.size W W'):NmI H w n l v W' :=
 ⟨g.own.below hb,by rw [hb.block _ (lt_blk g.out)];exact g.out,by rw [hb.block _ (lt_blk g.res)];exact g.res,by rw [hb.block _ (lt_blk g.shp)];exact g.shp,bel_both g.bel hb⟩
theorem NmI.push {H:Nat->Prop}{w W w':World}{n:Nat}{l:List RI}{v v':Value}{A:RI} (g:NmI H w n l v W) (hH:∀ b,H b->b < w.heap.size) (hown:IOwn (fun b=>H b\/b=w.heap.size\/b=w.heap.size+2) w' (w.heap.size+3) v' (l++[A])) (hb:Below (w.heap.size+3) W w') :
  NmI H w n (l++[A]) v' (w'.setCell ⟨w.heap.size+2,1,none⟩ v'):=by
 have e2:w'.heap[w.heap.size+2]?=some (.cells #[sv (some ⟨w.heap.size+1,0,none⟩,1,1),v,.int .i64 0] 25):=by rw [hb.block _ (by omega)];exact g.out
 refine ⟨hown.lat (Lat.set (a:=⟨w.heap.size+2,1,none⟩) (.inr (.inr rfl)) v') (fun b e h2=>by
  have:=(hown.own_lt e).1
  rcases h2 with h2 | h2
  ·have:=hH b h2;omega
  ·omega),?_,?_,?_,(g.bel.trans (hb.mono (by omega))).setCell (by show _<=w.heap.size+2;omega) _⟩
 ·have h1:=heap_setCell_same _ (w.heap.size+2) 1 _ _ v' e2
  rw [show (#[sv (some ⟨w.heap.size+1,0,none⟩,1,1),v,.int .i64 0]:Array Value).setIfInBounds 1 v'=#[sv (some ⟨w.heap.size+1,0,none⟩,1,1),v',.int .i64 0] by simp] at h1
  exact h1
 ·rw [Below.heap_setCell _ _ _ _ (by show w.heap.size≠w.heap.size+2;omega),hb.block _ (by omega)]
  exact g.res
 ·rw [Below.heap_setCell _ _ _ _ (by show w.heap.size+1≠w.heap.size+2;omega),hb.block _ (by omega)]
  exact g.shp
theorem rnums_any (v:Value) (l:List Nat) (H:Nat->Prop) (w:World) (hH:∀ b,H b->b < w.heap.size) (hv:Reads1 w v (l.map (Value.float .f64))) (hl:l.length<=1048576) :
  Calls Tryz.prog 54 #[v] w (PlR H w (rawP (.nums [l.length] l)) 0):=by
 obtain ⟨A,n,c,rfl,hn,hcell⟩:=map_open hv
 obtain ⟨L,hL⟩:∃ L,L=(l.map fun x=>RI.mk 0 x 0 []):=⟨_,rfl⟩
 have hraw:rawP (.nums [l.length] l)= .mk [(n:Int)] L 0:=by rw [rawP,hL,hn];rfl
 rw [hraw]
 have hLl:L.length=n:=by rw [hL,hn];simp
 have HLI:Hid (∀ i (hi:i < L.length) (h2:i < l.length),L[i]=RI.mk 0 l[i] 0 []):=by
  intro i hi h2
  subst hL
  simp
 have HLL:=Lib.hid hLl
 have HC:=Lib.hid hcell
 have HN:=Lib.hid hn
 have HH:=Lib.hid hH
 have hnb:n<=1048576:=by omega
 obtain ⟨w0,hw0⟩:∃ w0,w0=((w.alloc (.cells zeroPl 25)).alloc (shO (n:Int))).alloc (plO (some ⟨w.heap.size+1,0,none⟩,1,1) nilS 0):=⟨_,rfl⟩
 have HW0:=Lib.hid hw0
 have s1:(w.alloc (.cells zeroPl 25)).heap.size=w.heap.size+1:=by simp
 have s2:((w.alloc (.cells zeroPl 25)).alloc (shO (n:Int))).heap.size=w.heap.size+2:=by simp
 have HI0:Hid (NmI H w n (L.take 0) (.slice none 0 0) w0):=by
  have h2:=heap_alloc_new ((w.alloc (.cells zeroPl 25)).alloc (shO (n:Int))) (plO (some ⟨w.heap.size+1,0,none⟩,1,1) nilS 0)
  have h1:=blk_alloc (heap_alloc_new (w.alloc (.cells zeroPl 25)) (shO (n:Int))) (plO (some ⟨w.heap.size+1,0,none⟩,1,1) nilS 0)
  have h0:=blk_alloc (blk_alloc (heap_alloc_new w (.cells zeroPl 25)) (shO (n:Int))) (plO (some ⟨w.heap.size+1,0,none⟩,1,1) nilS 0)
  rw [s2,<- hw0] at h2
  rw [s1,<- hw0] at h1
  rw [<- hw0] at h0
  exact ⟨IOwn.nil _ _ _,h2,h0,h1,by rw [hw0];exact bel3 w _ _ _⟩
 clear hL hraw hLl hn hcell hv hl hH hw0 s1 s2
 go_enter Tryz.func54,Tryz.ntmps54
 go_wp2
 rw [<- HW0.out]
 go_loopw [4] (fun iv wr=>∃ (i:Nat) (v:Value),i<=n/\iv= .int .i64 (i:Int)/\NmI H w n (L.take i) v wr) (fun iv _=>n - (intOf iv).toNat)
 case atStart=>exact ⟨0,_,Nat.zero_le _,rfl,HI0.out⟩
 case round =>
  obtain ⟨i,v,hi,rfl,hti⟩:=hrel
  have HTI:=Lib.hid hti
  clear hti
  obtain ⟨vA,vn,vc,hvn⟩:∃ A n c,v= .slice A n c:=by obtain ⟨a,c,e⟩:=HTI.out.own.len;exact ⟨a,_,c,e⟩
  subst hvn
  obtain ⟨⟨e0,e1,e2⟩,ez⟩:=block3 (show wr.heap[w.heap.size+1+1]?=_ from HTI.out.out)
  have g1:=fun o=>cell_box1 e1 o
  by_cases him:i < n
  ·have him2:(i:Int) < (n:Int):=by omega
   have hik:i < l.length:=by have:=HN.out;omega
   have hiL:i < L.length:=by have:=HLL.out;omega
   obtain ⟨b,o,rfl,hce⟩:=HC.out i hik
   have HTK:Hid (L.take (i+1)=L.take i++[L[i]]):=List.take_succ_eq_append_getElem hiL
   have HLX:=Lib.hid (HLI.out i hiL hik)
   have hcl:=cell_up HTI.out.bel hce
   have hlb:(L.take i).length<=1048576:=by rw [List.length_take];omega
   have HLB:=Lib.hid hlb
   clear hlb hce
   generalize l[i]=y at HLX hcl
   generalize L[i]=li at HTK HLX
   have hsz:w.heap.size+3<=wr.heap.size:=by have:=lt_blk HTI.out.out;omega
   have HBX:=Lib.hid ((bel1 wr (itO 0 y 0 nilS)).drew)
   have HTW:=Lib.hid (HTI.out.step HBX.out)
   have HBK:Hid ((wr.alloc (itO 0 y 0 nilS)).drew.heap[wr.heap.size]?=some (itO 0 y 0 nilS)):=heap_alloc_new wr (itO 0 y 0 nilS)
   have HAV:Hid (IV (fun b=>(H b\/b=w.heap.size\/b=w.heap.size+2)\/(Value.slice vA vn vc).ownBlock=some b) (wr.alloc (itO 0 y 0 nilS)).drew li 0 y 0 nilS):=by unfold Hid;rw [HLX.out];exact iv_none _ _ _ _ _ _ _
   have HSZ:Hid (w.heap.size+3<=(wr.alloc (itO 0 y 0 nilS)).drew.heap.size):=by unfold Hid;have:=HBX.out.size;omega
   go_wp2
   go_region_law (refine step_pushI rfl (.tmp 16) (.tmp 22) rfl (fun b=>H b\/b=w.heap.size\/b=w.heap.size+2) (w.heap.size+3) (.slice vA vn vc) (L.take i) (by rfl) HTW.out.own ⟨0,y,0,nilS⟩ li HAV.out wr.heap.size HBK.out (by rfl) HLB.out HSZ.out ?_;intro vA' vn' vc' w' hown' hbw;have HBW:=Lib.hid (hbw _ (Below.refl _ _));have HP:=Lib.hid (HTW.out.push HH.out hown' HBW.out);(obtain ⟨⟨q0,q1,q2⟩,qz⟩:=block3 (show w'.heap[w.heap.size+1+1]?=_ from (HBW.out.block _ (by omega)).trans HTW.out.out));clear hown' hbw)
   all_goals
    go_wp2
    go_roundw
    case rel=>exact ⟨i+1,_,by omega,by go_num,by rw [HTK.out];exact HP.out⟩
    case measure=>simp [intOf];omega
  ·have hge:¬ (i:Int) < (n:Int):=by omega
   obtain rfl:i=n:=by omega
   have HTL:Hid (L.take i=L):=by unfold Hid;rw [<- HLL.out];exact List.take_length
   obtain ⟨⟨z0,z1,z2⟩,zz⟩:=block3 HTI.out.res
   have HRB:=Lib.hid (set3_block HTI.out.res (sv (some ⟨w.heap.size+1,0,none⟩,1,1)) (.slice vA vn vc) (.int .i64 0))
   have HBB:=Lib.hid (below_set3 HTI.out.bel (G:=w.heap.size) (Nat.le_refl _) (sv (some ⟨w.heap.size+1,0,none⟩,1,1)) (.slice vA vn vc) (.int .i64 0))
   have hsr:RdH (fun b=>H b\/b=w.heap.size\/b=w.heap.size+2) wr (sv (some ⟨w.heap.size+1,0,none⟩,1,1)) ([(i:Int)].map (Value.int .i64)):=by
    intro W hz hb
    refine .inr ⟨w.heap.size+1,0,1,1,rfl,rfl,fun j hj=>?_⟩
    have hj0:j=0:=by simpa using hj
    subst hj0
    have hblk:W.heap[w.heap.size+1]?=some (shO (i:Int)):=by
     rw [hb _ (lt_blk HTI.out.shp) (by rintro (e | e | e);(have:=HH.out _ e;omega);omega;omega)]
     exact HTI.out.shp
    rw [cell_of_row _ (w.heap.size+1) (0+0) _ _ (0,0) hblk]
    rfl
   obtain ⟨x',hx',hpv⟩:=HTI.out.own.pv (fun b e=>by
    rcases e with e | e
    ·have:=HH.out b e;omega
    ·omega) hsr 0
   obtain ⟨xA,xn,xc⟩:=x'
   have h9:Value.slice vA vn vc= .slice xA xn xc:=hx'
   injection h9 with h10 h11 h12
   subst h10;subst h11;subst h12
   rw [HTL.out] at hpv
   have HPV:=Lib.hid (PV.sub (H':=H) (fun _ _ e => .inl e) (PV.lat (Lat.set3 (G:=w.heap.size) (.inr (.inl rfl)) (sv (some ⟨w.heap.size+1,0,none⟩,1,1)) (.slice vA vn vc) (.int .i64 0)) hpv))
   clear hpv hx' hsr
   go_wp2
   refine bodyPost_ret (v:=plV (some ⟨w.heap.size+1,0,none⟩,1,1) (vA,vn,vc) 0) ?_ rfl ⟨(some ⟨w.heap.size+1,0,none⟩,1,1),(vA,vn,vc),rfl,HPV.out,HBB.out⟩
   exact ret_plain (fn:=Tryz.f54) (p:=2) rfl _ _ w.heap.size (by rfl) HRB.out
theorem vbx_any {H:Nat->Prop}{w:World}{a:PA}{h:Sl}{p:V8} (hav:AV H w a h p) (hH:∀ b,H b->b < w.heap.size) :
  Calls Tryz.prog 57 #[arrV h p] w (AaR H w (.boxes [] [a])):=by
 obtain ⟨w0,hw0⟩:∃ w0,w0=((w.alloc (arrO h p)).alloc zeroO).alloc (arrO h p):=⟨_,rfl⟩
 have HW0:=Lib.hid hw0
 have hb0:Below w.heap.size w w0:=by rw [hw0];exact bel3 w _ _ _
 have s1:(w.alloc (arrO h p)).heap.size=w.heap.size+1:=by simp
 have s2:((w.alloc (arrO h p)).alloc zeroO).heap.size=w.heap.size+2:=by simp
 have h2:At9 w0 (w.heap.size+2) 0 h p:=by
  have g:=at9_new ((w.alloc (arrO h p)).alloc zeroO) h p
  rw [s2,<- hw0] at g
  exact g
 have h1:w0.heap[w.heap.size+1]?=some zeroO:=by
  have g:=blk_alloc (heap_alloc_new (w.alloc (arrO h p)) zeroO) (arrO h p)
  rw [s1,<- hw0] at g
  exact g
 have hsl:ASl (fun b=>H b\/b=w.heap.size+1) w0 (some ⟨w.heap.size+2,0,none⟩,1,1) [a]:=by
  refine ⟨rfl,.inr ⟨w.heap.size+2,0,rfl,?_,avs_of _ _ fun i hi=>?_⟩⟩
  ·rintro (e | e)
   ·have:=hH _ e;omega
   ·omega
  ·have hi0:i=0:=by simpa using hi
   subst hi0
   exact ⟨h,p,h2,(AV.sub (fun b hb e=>by
    rcases e with e | e
    ·exact e
    ·omega) hav).step hb0⟩
 have HC:=Lib.hid (boxes_any hsl (by simp) (fun b e=>by
  have:=lt_blk h1
  rcases e with e | e
  ·have:=hH b e;omega
  ·omega))
 unfold BxR at HC
 have HB0:=Lib.hid hb0
 have HR:=Lib.hid h1
 have HH:=Lib.hid hH
 clear hav hsl h1 h2 s1 s2 hb0 hw0 hH
 go_enter Tryz.func57,Tryz.ntmps57
 go_wp2_with fail
 rw [<- HW0.out]
 refine HC.out.mono ?_
 rintro e w1 ⟨y,rfl,hy,hb⟩
 have HB1:=Lib.hid (bel_both HB0.out hb)
 have hr1:w1.heap[w.heap.size+1]?=some zeroO:=by rw [hb.block _ (lt_blk HR.out)];exact HR.out
 have HR1:=Lib.hid hr1
 obtain ⟨⟨z0,z1,z2,z3,z4,z5,z6,z7,z8⟩,zz⟩:=zero_block hr1
 have HAV:Hid (AV H (set9 w1 (w.heap.size+1) (sv nilS) (.int .i64 6) (sv nilS) (.int .i64 0) (sv nilS) (sv nilS) (sv nilS) (sv nilS) (sv y)) (.boxes [] [a]) nilS (boxesP y)) :=
  AV.sub (fun b _ e => .inl e) (AV.lat (Lat.set9 (G:=w.heap.size+1) (.inr rfl) _ _ _ _ _ _ _ _ _) (ASl.av hy (shV_nil _ _)))
 clear hb hy hr1
 go_wp2
 refine bodyPost_ret (v:=arrV nilS (boxesP y)) ?_ rfl ⟨nilS,boxesP y,rfl,HAV.out,below_set9 HB1.out (Nat.le_succ _) _ _ _ _ _ _ _ _ _⟩
 exact ret_arr (fn:=Tryz.f57) (p:=2) rfl _ _ (w.heap.size+1) (by rfl) (set9_block HR1.out _ _ _ _ _ _ _ _ _)
abbrev noH:Nat->Prop:=fun _=>False
theorem noH_lt (w:World):∀ b,noH b->b < w.heap.size:=fun _ e=>e.elim
theorem okF_tf1 {b:Nat} (h:TF b):okF b=true:=by unfold okF;rw [doneP_tf h];rfl
theorem tidF_tf1 {b:Nat} (h:TF b):tidF b=b:=by unfold tidF;rw [doneP_tf h]
theorem ok_raw0 {s l:List Nat} (hs:OkSh s l.length) (hl:∀ x∈l,TF x):OkP 40 (rawP (.nums s l)):=by
 rw [rawP,OkP]
 refine ⟨by decide,.inl rfl,⟨s,rfl,by rw [List.length_map];exact hs⟩,okIs_of _ fun i hi=>?_⟩
 rw [List.getElem_map,OkI]
 have h:=hl _ (List.getElem_mem (by simpa using hi))
 exact ⟨rfl,fun _=>⟨okF_tf1 h,h.lt⟩,fun e=>absurd e (by decide)⟩
theorem cl_raw0 {s l:List Nat} (hl:∀ x∈l,TF x):clP (rawP (.nums s l))= .nums s l:=by
 rw [rawP,clP,toNat_of,if_pos rfl,List.map_map]
 congr 1
 refine (List.map_congr_left (g:=id) fun x hx=>?_).trans (List.map_id l)
 exact tidF_tf1 (hl x hx)
theorem cntIs_raw0 (l:List Nat):cntIs (l.map fun x=>RI.mk 0 x 0 [])=0:=by
 induction l with
 | nil=>rw [List.map_nil,cntIs]
 | cons x l ih=>rw [List.map_cons,cntIs,ih,cntI,cntPs]
theorem cnt_raw0 (s l:List Nat):cntP (rawP (.nums s l))=l.length+s.length+1:=by
 rw [rawP,cntP,cntIs_raw0]
 simp
theorem good_nums {s l:List Nat} (hs:OkSh s l.length) (hl:∀ x∈l,TF x):GoodA 40 (.nums s l):=by rw [GoodA];exact ⟨by decide,hs,hl⟩
theorem lawOf_nums {s l:List Nat} (hs:OkSh s l.length) (hl:∀ x∈l,TF x) (hc:l.length<=1000) (h x:Sl) (f:Int) (w:World) (hr:PV noH w (rawP (.nums s l)) h x f) :
  Calls Tryz.prog 14 #[plV h x f] w (AaR noH w (.nums s l)):=by
 have h1:=lawOf_any noH _ h x f w (noH_lt w) (ok_raw0 hs hl) (by rw [cnt_raw0];have:=hs.1;omega) hr
 rwa [cl_raw0 hl] at h1
theorem f1_eq:fi 1=4607182418800017408:=by decide+kernel
theorem f2_eq:fi 2=4611686018427387904:=by decide+kernel
theorem f10_eq:fi 10=4621819117588971520:=by decide+kernel
theorem f11_eq:fi 11=4622382067542392832:=by decide+kernel
theorem f12_eq:fi 12=4622945017495814144:=by decide+kernel
theorem tf_small {n:Int} (h:n.natAbs<=1000):TF (fi n):=tf_fi ⟨by omega,by omega⟩
theorem tf1:TF 4607182418800017408:=f1_eq▸tf_small (by decide)
theorem tf2:TF 4611686018427387904:=f2_eq▸tf_small (by decide)
theorem tf10:TF 4621819117588971520:=f10_eq▸tf_small (by decide)
theorem tf11:TF 4622382067542392832:=f11_eq▸tf_small (by decide)
theorem tf12:TF 4622945017495814144:=f12_eq▸tf_small (by decide)
theorem add_small {a b:Int} (ha:a.natAbs<=1000) (hb:b.natAbs<=1000) (hc:(a+b).natAbs<=1000):oneP pwP 1 (fi a) (fi b)=(fi (a+b),0):=by
 show doneP (opB .add (fi a) (fi b))=_
 have e:opB .add (fi a) (fi b)=fi (a+b):=by
  show (Ieee.double.add (fi a) (fi b)).getD 0=_
  rw [add_fi a b (by omega) (by omega) (by omega)]
  rfl
 rw [e,doneP_tf (tf_small hc)]
theorem add_1_10:oneP pwP 1 4607182418800017408 4621819117588971520=(4622382067542392832,0):=by
 have h:=add_small (a:=1) (b:=10) (by decide) (by decide) (by decide)
 rwa [f1_eq,f10_eq,show (1:Int)+10=11 by decide,f11_eq] at h
theorem add_2_10:oneP pwP 1 4611686018427387904 4621819117588971520=(4622945017495814144,0):=by
 have h:=add_small (a:=2) (b:=10) (by decide) (by decide) (by decide)
 rwa [f2_eq,f10_eq,show (2:Int)+10=12 by decide,f12_eq] at h
abbrev a12:PA := .nums [2] [4607182418800017408,4611686018427387904]
abbrev a10:PA := .nums [] [4621819117588971520]
abbrev a1112:PA := .nums [2] [4622382067542392832,4622945017495814144]
theorem sh2:OkSh [2] 2:=⟨by decide,by decide,rfl⟩
theorem sh0:OkSh [] 1:=⟨by decide,by decide,rfl⟩
theorem all2 {x y:Nat} (hx:TF x) (hy:TF y):∀ z∈[x,y],TF z:=by
 intro z hz
 simp at hz
 rcases hz with rfl | rfl
 ·exact hx
 ·exact hy
theorem all1 {x:Nat} (hx:TF x):∀ z∈[x],TF z:=by
 intro z hz
 simp at hz
 rw [hz]
 exact hx
theorem good12:GoodA 40 a12:=good_nums sh2 (all2 tf1 tf2)
theorem good10:GoodA 40 a10:=good_nums sh0 (all1 tf10)
theorem good1112:GoodA 40 a1112:=good_nums sh2 (all2 tf11 tf12)
theorem numsE_two {G:Nat->Nat×Int}{x y:Nat} (h0:G 0=(x,0)) (h1:G 1=(y,0)):numsE 2 G=(0,[x,y]):=by
 rcases numsE_cases 2 G with ⟨⟨c,hc,hb⟩,_⟩ | ⟨_,h⟩
 ·have:c=0\/c=1:=by omega
  rcases this with rfl | rfl
  ·rw [h0] at hb;exact absurd rfl hb
  ·rw [h1] at hb;exact absurd rfl hb
 ·rw [h]
  show ((0:Int),[(G 0).1,(G 1).1])=_
  rw [h0,h1]
theorem two12 (N:Nat):twoE (N+1) 1 a12 a10=(0,a1112):=by
 rw [twoE_flat (by decide) rfl (by decide)]
 have e:flatE 1 a12 a10=(0,[4622382067542392832,4622945017495814144]):=by
  rw [flatE_nums]
  exact numsE_two add_1_10 add_2_10
 unfold flatR
 rw [e]
 rfl
theorem good_box {a:PA} (h:GoodA 30 a):GoodA 40 (.boxes [] [a]):=by
 rw [GoodA]
 exact ⟨by decide,sh0,goodAs_of _ fun i hi=>by
  obtain rfl:i=0:=by simpa using hi
  exact GoodA.up (by decide) _ h⟩
theorem good12':GoodA 30 a12:=by rw [GoodA];exact ⟨by decide,sh2,all2 tf1 tf2⟩
theorem good1112':GoodA 30 a1112:=by rw [GoodA];exact ⟨by decide,sh2,all2 tf11 tf12⟩
theorem two_b12 (N:Nat):twoE (N+2) 1 (.boxes [] [a12]) a10=(0,.boxes [] [a1112]):=by
 rw [twoE_box (by decide) rfl (.inl rfl)]
 have h:=bxE_ok (n:=1) (R:=fun i=>twoE (N+1) 1 (partA (.boxes [] [a12]) i) (partA a10 i)) [] (fun j hj=>by
  obtain rfl:j=0:=by omega
  show (twoE (N+1) 1 a12 a10).1=0
  rw [two12])
 refine Eq.trans h ?_
 show ((0:Int),PA.boxes [] [(twoE (N+1) 1 a12 a10).2])=_
 rw [two12]
theorem sm_2 (x y:Nat) (s:List Nat):SmA 1000000 (.nums s [x,y]):=by rw [SmA];simp
theorem sm_1 (x:Nat) (s:List Nat):SmA 1000000 (.nums s [x]):=by rw [SmA];simp
theorem sm_b {a:PA} (h:SmA 1000000 a) (s:List Nat):SmA 1000000 (.boxes s [a]):=by
 rw [SmA]
 exact ⟨by simp,smAs_of _ fun i hi=>by
  obtain rfl:i=0:=by simpa using hi
  exact h⟩
theorem reads_two {W:World}{B:Nat}{e:TypeId}{x y:Nat} (h:W.heap[B]?=some (.cells #[.float .f64 x,.float .f64 y] e)):Reads1 W (.slice (some ⟨B,0,none⟩) 2 2) ([x,y].map (Value.float .f64)):=by
 refine .inr ⟨B,0,2,2,rfl,rfl,fun j hj=>?_⟩
 have hj2:j < 2:=by simpa using hj
 rw [cell_of_row _ B (0+j) _ e (0,0) h]
 match j,hj2 with
 | 0,_=>rfl
 | 1,_=>rfl
def FineR (t:RP) (w:World) (e:Ending) (w':World):Prop:=∃ b:Bool,e= .returned (.bool b)/\(b=true->OkP 40 t/\cntP t<=1500)/\Below w.heap.size w w'
structure LdQ (w0:World) (G:Nat) (h:Sl) (p:V8) (h1 x1:Sl) (f:Int) (W:World):Prop where
 one:At9 W G 0 h p
 two:At3 W (G+1) 0 h1 x1 f
 bel:Below w0.heap.size w0 W
theorem LdQ.new (w:World) (h:Sl) (p:V8) (h1 x1:Sl) (f:Int):LdQ ((w.alloc (arrO h p)).alloc (plO h1 x1 f)) w.heap.size h p h1 x1 f ((w.alloc (arrO h p)).alloc (plO h1 x1 f)):=by
 have g:=at3_box (w.alloc (arrO h p)) h1 x1 f
 have e:(w.alloc (arrO h p)).heap.size=w.heap.size+1:=by simp
 rw [e] at g
 exact ⟨(at9_new w h p).below (bel1 _ _),g,Below.refl _ _⟩
theorem LdQ.step {w0 W W':World}{G:Nat}{h:Sl}{p:V8}{h1 x1:Sl}{f:Int} (g:LdQ w0 G h p h1 x1 f W) (hb:Below W.heap.size W W'):LdQ w0 G h p h1 x1 f W' :=
 ⟨g.one.below hb,g.two.of fun j=>hb.cell (p:=⟨G+1,j,none⟩) g.two.lt,bel_both g.bel hb⟩
theorem LdQ.dr {w0 W:World}{G:Nat}{h:Sl}{p:V8}{h1 x1:Sl}{f:Int} (g:LdQ w0 G h p h1 x1 f W):LdQ w0 G h p h1 x1 f W.drew:=g.step (Below.refl _ W).drew
theorem LdQ.self {w0 W:World}{G:Nat}{h:Sl}{p:V8}{h1 x1:Sl}{f:Int} (g:LdQ w0 G h p h1 x1 f W):LdQ w0 G h p h1 x1 f W:=g
theorem ldq_s {w0 W:World}{G:Nat}{h:Sl}{p:V8}{h1 x1:Sl}{f:Int} (g:LdQ w0 G h p h1 x1 f W):(W.cell? ⟨G,0,none⟩=some (.slice h.1 h.2.1 h.2.2)/\W.cell? ⟨G,1,none⟩=some (.int .i64 p.k)/\W.cell? ⟨G,2,none⟩=some (.slice p.b.1 p.b.2.1 p.b.2.2)/\W.cell? ⟨G,3,none⟩=some (.int .i64 p.bn) /\
  W.cell? ⟨G,4,none⟩=some (.slice p.s.1 p.s.2.1 p.s.2.2)/\W.cell? ⟨G,5,none⟩=some (.slice p.i.1 p.i.2.1 p.i.2.2)/\W.cell? ⟨G,6,none⟩=some (.slice p.f.1 p.f.2.1 p.f.2.2)/\W.cell? ⟨G,7,none⟩=some (.slice p.c.1 p.c.2.1 p.c.2.2)/\W.cell? ⟨G,8,none⟩=some (.slice p.x.1 p.x.2.1 p.x.2.2)) /\
  (W.cell? ⟨G+1,0,none⟩=some (.slice h1.1 h1.2.1 h1.2.2)/\W.cell? ⟨G+1,1,none⟩=some (.slice x1.1 x1.2.1 x1.2.2)/\W.cell? ⟨G+1,2,none⟩=some (.int .i64 f))/\LdQ w0 G h p h1 x1 f W:=⟨g.one.c,at3_c g.two,g⟩
theorem fine24_any (t:RP) (h x:Sl) (f:Int) (w:World) (hfit:FitP t) (hM:cntP t<=1048576) (hr:PV (fun _=>False) w t h x f) :
  Calls Tryz.prog 11 #[plV h x f] w (FineR t w):=by
 have HB0:=Lib.hid (bel1 w (plO h x f))
 have HX0:=Lib.hid (at3_box w h x f)
 have HCN:=Lib.hid (cnt_walk 3000 (cntP t) t h x f (w.alloc (plO h x f)) (Nat.le_refl _) hM (hr.step HB0.out))
 have HCK:=Lib.hid (fun W (hb:Below w.heap.size w W)=>check_any t h x f W hfit hM (hr.step hb))
 clear hfit hM hr
 go_enter Tryz.func11,Tryz.ntmps11
 go_wp2_with fail
 refine HCN.out.mono ?_
 rintro e w1 ⟨⟨n,rfl,hn⟩,hb⟩
 have HN:=Lib.hid hn
 have HB1:=Lib.hid (bel_both HB0.out hb)
 have HX1:=Lib.hid (HX0.out.of fun j=>hb.cell (p:=⟨w.heap.size,j,none⟩) HX0.out.lt)
 clear hb hn
 obtain ⟨c0,c1,c2⟩:=at3_c HX1.out
 by_cases h1:(n:Int)<=1500
 ·have h1':decide ((n:Int)<=1500)=true:=decide_eq_true h1
  by_cases h2:(h.2.1:Int)<=8
  ·have h2':decide ((h.2.1:Int)<=8)=true:=decide_eq_true h2
   have h2n:h.2.1<=8:=by omega
   have HN1:Hid (cntP t<=1500):=by
    have:=HN.out.2.2 (by omega)
    unfold Hid;omega
   clear h1
   go_wp2_with fail
   refine (HCK.out _ HB1.out).mono ?_
   rintro e w2 ⟨⟨z,rfl,hz⟩,hb⟩
   have HB2:=Lib.hid (bel_both HB1.out hb)
   have HZ:=Lib.hid hz
   clear hb hz c0 c1 c2
   go_wp2
   go_ret
   exact ⟨_,rfl,fun e=>⟨HZ.out (by simpa using e),HN1.out⟩,HB2.out⟩
  ·have h2':decide ((h.2.1:Int)<=8)=false:=decide_eq_false h2
   have h2n:¬ h.2.1<=8:=by omega
   clear h1
   go_wp2
   go_ret
   exact ⟨false,rfl,(fun e=>by cases e),HB1.out⟩
 ·have h1':decide ((n:Int)<=1500)=false:=decide_eq_false h1
  go_wp2
  go_ret
  exact ⟨false,rfl,(fun e=>by cases e),HB1.out⟩
theorem shows24_err (E:Int) (h1 x1:Sl) (f:Int) (hE:E≠0) (w:World) :
  Calls Tryz.prog 17 #[arrV nilS zeroP,.int .i64 E,plV h1 x1 f,.int .i64 E] w fun e w'=>e= .returned (.bool true)/\Below w.heap.size w w':=by
 have e1:(E != E)=false:=by simp
 have e2:(E != 0)=true:=by simpa using hE
 have HB:=Lib.hid (bel2 w zeroO (plO h1 x1 f))
 clear hE
 go_enter Tryz.func17,Tryz.ntmps17
 go_wp2_with fail
 refine (vkind_any 0 vnil 0 vnil vnil vnil vnil vnil _).mono ?_
 rintro e w1 ⟨rfl,hb⟩
 have HB1:=Lib.hid (bel_both HB.out hb)
 clear hb
 go_wp2
 go_ret
 exact ⟨rfl,HB1.out⟩
theorem shows24_ok {H H':Nat->Prop}{a:PA}{h:Sl}{p:V8}{h1 x1:Sl}{f:Int}{w:World} (hH:∀ b,H b->b < w.heap.size) (hg:GoodA 40 a) (hs:SmA 1000000 a) (hav:AV H w a h p) (hpv:PV H' w (rawP a) h1 x1 f) :
  Calls Tryz.prog 17 #[arrV h p,.int .i64 0,plV h1 x1 f,.int .i64 0] w fun e w'=>e= .returned (.bool true)/\Below w.heap.size w w':=by
 obtain ⟨w0,hw0⟩:∃ w0,w0=(w.alloc (arrO h p)).alloc (plO h1 x1 f):=⟨_,rfl⟩
 have HW0:=Lib.hid hw0
 have HS0:Hid (LdQ w0 w.heap.size h p h1 x1 f w0):=by rw [hw0];exact LdQ.new w h p h1 x1 f
 have HB0:Hid (Below w.heap.size w w0):=by unfold Hid;rw [hw0];exact bel2 _ _ _
 have HGD:=Lib.hid (fun W (hW:LdQ w0 w.heap.size h p h1 x1 f W)=>vgood_any (AV.step hav (bel_both HB0.out hW.bel)) (fun b e=>by have:=hH b e;have:=hW.bel.size;have:=HB0.out.size;omega) hg hs)
 have HPL:=Lib.hid (fun W (hW:LdQ w0 w.heap.size h p h1 x1 f W)=>vplain_any 40 H a h p W (fun b e=>by have:=hH b e;have:=hW.bel.size;have:=HB0.out.size;omega) hg hs (AV.step hav (bel_both HB0.out hW.bel)))
 unfold PlR at HPL
 have hsame:SameC (rawP a):=rsame_raw 40 hg hs
 have HSM:=Lib.hid (fun W (hW:LdQ w0 w.heap.size h p h1 x1 f W) (h2 x2:Sl) (f2:Int) (hp2:PV H W (rawP a) h2 x2 f2)=>hsame H H' h2 x2 h1 x1 f2 f W hp2 (hpv.step (bel_both HB0.out hW.bel)))
 clear hH hg hs hav hpv hsame hw0
 generalize rawP a=t at HPL HSM
 generalize (a.fill:Int)=fl at HPL
 go_enter Tryz.func17,Tryz.ntmps17
 go_wp2_with fail
 rw [<- HW0.out]
 have hs0:=HS0.out.dr
 have hs00:=HS0.out
 go_region_held3 (fun W=>(W.cell? ⟨w.heap.size,0,none⟩=some (.slice h.1 h.2.1 h.2.2)/\W.cell? ⟨w.heap.size,1,none⟩=some (.int .i64 p.k)/\W.cell? ⟨w.heap.size,2,none⟩=some (.slice p.b.1 p.b.2.1 p.b.2.2)/\W.cell? ⟨w.heap.size,3,none⟩=some (.int .i64 p.bn)/\W.cell? ⟨w.heap.size,4,none⟩=some (.slice p.s.1 p.s.2.1 p.s.2.2)/\W.cell? ⟨w.heap.size,5,none⟩=some (.slice p.i.1 p.i.2.1 p.i.2.2)/\W.cell? ⟨w.heap.size,6,none⟩=some (.slice p.f.1 p.f.2.1 p.f.2.2)/\W.cell? ⟨w.heap.size,7,none⟩=some (.slice p.c.1 p.c.2.1 p.c.2.2)/\W.cell? ⟨w.heap.size,8,none⟩=some (.slice p.x.1 p.x.2.1 p.x.2.2))/\(W.cell? ⟨w.heap.size+1,0,none⟩=some (.slice h1.1 h1.2.1 h1.2.2)/\W.cell? ⟨w.heap.size+1,1,none⟩=some (.slice x1.1 x1.2.1 x1.2.2)/\W.cell? ⟨w.heap.size+1,2,none⟩=some (.int .i64 f))/\LdQ w0 w.heap.size h p h1 x1 f W)
  (first | (with_reducible assumption) | (with_reducible (refine ldq_s ?_);repeat (first | (with_reducible assumption) | (with_reducible refine LdQ.dr ?_))))
  (first
   | (go_at_call 67;(with_reducible refine (HGD.out _ ?_).mono ?_);exact LdQ.self (by repeat (first | (with_reducible assumption) | (with_reducible refine LdQ.dr ?_)));rintro e w1 ⟨rfl,hb1⟩;have hst1:LdQ w0 w.heap.size h p h1 x1 f w1:=LdQ.step (by repeat (first | (with_reducible assumption) | (with_reducible refine LdQ.dr ?_))) hb1;clear hb1)
   | (go_at_call 69;(with_reducible refine (HPL.out _ ?_).mono ?_);exact LdQ.self (by repeat (first | (with_reducible assumption) | (with_reducible refine LdQ.dr ?_)));rintro e w2 ⟨h2,x2,rfl,hpv2,hb2⟩;have hst2:LdQ w0 w.heap.size h p h1 x1 f w2:=LdQ.step (by repeat (first | (with_reducible assumption) | (with_reducible refine LdQ.dr ?_))) hb2;have HSC:=Lib.hid (HSM.out w2 hst2 h2 x2 fl hpv2);clear hb2 hpv2)
   | (go_at_call 68;(with_reducible refine HSC.out.mono ?_);rintro e w3 ⟨rfl,hb3⟩;have hst3:LdQ w0 w.heap.size h p h1 x1 f w3:=LdQ.step hst2 hb3;clear hb3))
 all_goals
  go_wp2
  go_ret
  exact ⟨rfl,bel_both HB0.out hst3.bel⟩
theorem At3.belowP {w w':World}{b o:Nat}{h x:Sl}{f:Int} (g:At3 w b o h x f) (hb:Below w.heap.size w w'):At3 w' b o h x f:=At3.lat (H:=fun _=>False) g (fun e=>e) (Lat.below hb)
structure P2 (w W:World) (h1 x1:Sl) (f1:Int) (h2 x2:Sl) (f2:Int):Prop where
 one:At3 W w.heap.size 0 h1 x1 f1
 two:At3 W (w.heap.size+1) 0 h2 x2 f2
 bel:Below w.heap.size w W
theorem P2.step {w W W':World}{h1 x1 h2 x2:Sl}{f1 f2:Int} (h:P2 w W h1 x1 f1 h2 x2 f2) (hb:Below W.heap.size W W'):P2 w W' h1 x1 f1 h2 x2 f2:=⟨At3.belowP h.one hb,At3.belowP h.two hb,bel_both h.bel hb⟩
theorem P2.new (w:World) (h1 x1:Sl) (f1:Int) (h2 x2:Sl) (f2:Int):P2 w ((w.alloc (plO h1 x1 f1)).alloc (plO h2 x2 f2)) h1 x1 f1 h2 x2 f2:=by
 have h:=at3_box (w.alloc (plO h1 x1 f1)) h2 x2 f2
 have e:(w.alloc (plO h1 x1 f1)).heap.size=w.heap.size+1:=by simp
 rw [e] at h
 exact ⟨At3.belowP (at3_box w h1 x1 f1) (bel1 _ _),h,bel2 w _ _⟩
theorem P2.more {w W W':World}{h1 x1 h2 x2:Sl}{f1 f2:Int} (g:P2 w W h1 x1 f1 h2 x2 f2) (hb:Below (w.heap.size+2) W W'):P2 w W' h1 x1 f1 h2 x2 f2 :=
 ⟨g.one.of fun j=>hb.cell (p:=⟨w.heap.size,j,none⟩) (by show w.heap.size < _;omega),g.two.of fun j=>hb.cell (p:=⟨w.heap.size+1,j,none⟩) (by show w.heap.size+1 < _;omega),g.bel.trans (hb.mono (by omega))⟩
theorem P2.dr {w W:World}{h1 x1 h2 x2:Sl}{f1 f2:Int} (g:P2 w W h1 x1 f1 h2 x2 f2):P2 w W.drew h1 x1 f1 h2 x2 f2:=g.step (Below.refl _ W).drew
theorem P2.self {w W:World}{h1 x1 h2 x2:Sl}{f1 f2:Int} (g:P2 w W h1 x1 f1 h2 x2 f2):P2 w W h1 x1 f1 h2 x2 f2:=g
theorem P2.sz {w W:World}{h1 x1 h2 x2:Sl}{f1 f2:Int} (g:P2 w W h1 x1 f1 h2 x2 f2):w.heap.size+2<=W.heap.size:=At3.lt g.two
end Go.Proofs.YtiahegjdkejjpaaGreatDoor
