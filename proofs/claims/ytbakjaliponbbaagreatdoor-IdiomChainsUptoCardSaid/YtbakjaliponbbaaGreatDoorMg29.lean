/- The indexes of all elements (plain), rows of rows of ints, and the walk of rebusref06.All. The walk of rebusref06.All. Printed by gen_rrb.py. The walks of .. Conditions: as each theorem says. -/
import Derived.Test.YtbakjaliponbbaaGreatDoorMg28
import Derived.BigQuiet
set_option maxRecDepth 100000
set_option maxHeartbeats 2000000
namespace Go.Proofs.YtbakjaliponbbaaGreatDoor
open Go Go.RowKit Go.Proofs Fl
def nextF (d:Nat) (r:List Nat):List (List Nat):=(List.range d).map fun j=>r++[j]
def stepA (most:Nat) (l:List (List Nat)) (d:Nat):List (List Nat):=(l.flatMap (nextF d)).take most
def allL (s:List Nat) (most:Nat):List (List Nat):=s.foldl (stepA most) [[]]
theorem nextF_len (d:Nat) (r:List Nat):(nextF d r).length=d:=by simp [nextF]
def InSh (s r:List Nat):Prop:=r.length=s.length/\∀ k (h:k < r.length) (h2:k < s.length),r[k] < s[k]
theorem inSh_snoc {s r:List Nat}{d j:Nat} (h:InSh s r) (hj:j < d):InSh (s++[d]) (r++[j]):=by
 refine ⟨by simp [h.1],fun k h1 h2=>?_⟩
 by_cases hk:k < r.length
 ·have hk2:k < s.length:=by rw [<- h.1];exact hk
  rw [List.getElem_append_left hk,List.getElem_append_left hk2]
  exact h.2 k hk hk2
 ·have e:k=r.length:=by simp at h1;omega
  subst e
  have e2:r.length=s.length:=h.1
  rw [List.getElem_append_right (Nat.le_refl _),List.getElem_append_right (by omega)]
  simpa [e2] using hj
theorem stepA_in {most:Nat}{s:List Nat}{d:Nat}{l:List (List Nat)} (h:∀ r∈l,InSh s r):∀ r∈stepA most l d,InSh (s++[d]) r:=by
 intro r hr
 have hr2:=List.mem_of_mem_take hr
 obtain ⟨q,hq,hr3⟩:=List.mem_flatMap.1 hr2
 obtain ⟨j,hj,rfl⟩:=List.mem_map.1 hr3
 exact inSh_snoc (h q hq) (List.mem_range.1 hj)
theorem allL_in (most:Nat):∀ (s s0:List Nat) (l:List (List Nat)),(∀ r∈l,InSh s0 r)->∀ r∈s.foldl (stepA most) l,InSh (s0++s) r
 | [],s0,l,h=>by rw [List.append_nil];exact h
 | d::s,s0,l,h=>by
  have h2:=allL_in most s (s0++[d]) (stepA most l d) (stepA_in h)
  rw [List.append_assoc] at h2
  exact h2
theorem allL_inSh {s:List Nat}{most:Nat}:∀ r∈allL s most,InSh s r:=by
 have h:=allL_in most s [] [[]] (fun r hr=>by
  rw [List.mem_singleton] at hr
  subst hr
  exact ⟨rfl,fun k h _=>absurd h (Nat.not_lt_zero _)⟩)
 rwa [List.nil_append] at h
theorem allL_one (n:Nat):allL [n] n=(List.range n).map fun j=>[j]:=by
 show ((([[]]:List (List Nat)).flatMap (nextF n)).take n)=_
 rw [List.flatMap_cons,List.flatMap_nil,List.append_nil]
 have e:nextF n []=(List.range n).map fun j=>[j]:=rfl
 rw [e]
 exact List.take_of_length_le (by simp)
theorem stepA_le (most:Nat) (l:List (List Nat)) (d:Nat):(stepA most l d).length<=most:=by
 unfold stepA
 rw [List.length_take]
 omega
abbrev natV (n:Nat):Value := .int .i64 (n:Int)
def OwnI (w:World) (B:Nat) (v:Value) (L:List (List Nat)):Prop :=
 ∃ rows:List Sl,Own1 w B 41 v (rows.map sv)/\rows.length=L.length /\
  ∀ i (h:i < rows.length) (h2:i < L.length),(∃ a,rows[i].1=some a)/\Keeps (fun b=>b < B\/v.ownBlock=some b) w (fun W=>Reads1 W (sv rows[i]) (L[i].map natV))
theorem OwnI.nil (w:World) (B:Nat):OwnI w B (.slice none 0 0) []:=⟨[],Own1.nil _ _ _,rfl,fun _ h=>absurd h (Nat.not_lt_zero _)⟩
theorem OwnI.below {w w':World}{B:Nat}{v:Value}{L:List (List Nat)} (g:OwnI w B v L) (hb:Below w.heap.size w w'):OwnI w' B v L:=by
 obtain ⟨rows,h1,h2,h3⟩:=g
 exact ⟨rows,h1.below hb,h2,fun i h h'=>⟨(h3 i h h').1,(h3 i h h').2.step hb⟩⟩
theorem OwnI.len {w:World}{B:Nat}{v:Value}{L:List (List Nat)} (g:OwnI w B v L):∃ A c,v= .slice A L.length c:=by
 obtain ⟨rows,h1,h2,h3⟩:=g
 obtain ⟨A,c,e⟩:=h1.reads.len
 rw [List.length_map,h2] at e
 exact ⟨A,c,e⟩
def RowsI (B:Nat) (w:World) (x:Sl) (L:List (List Nat)):Prop :=
 x.2.1=L.length/\∀ i (hi:i < L.length),∃ b o a n c,x.1=some ⟨b,o,none⟩/\∀ W,Lat (fun b=>b < B) w W->W.cell? ⟨b,o+i,none⟩=some (.slice (some a) n c)/\Reads1 W (.slice (some a) n c) (L[i].map natV)
theorem RowsI.lat {B:Nat}{w w':World}{x:Sl}{L:List (List Nat)} (g:RowsI B w x L) (hb:Lat (fun b=>b < B) w w'):RowsI B w' x L :=
 ⟨g.1,fun i hi=>by
  obtain ⟨b,o,a,n,c,e,h⟩:=g.2 i hi
  exact ⟨b,o,a,n,c,e,fun W hW=>h W (hb.trans hW)⟩⟩
theorem RowsI.step {B:Nat}{w w':World}{x:Sl}{L:List (List Nat)} (g:RowsI B w x L) (hb:Below w.heap.size w w'):RowsI B w' x L:=g.lat (Lat.below hb)
theorem RowsI.lower {B B':Nat}{w:World}{x:Sl}{L:List (List Nat)} (g:RowsI B w x L) (hB:B'<=B):RowsI B' w x L :=
 ⟨g.1,fun i hi=>by
  obtain ⟨b,o,a,n,c,e,h⟩:=g.2 i hi
  exact ⟨b,o,a,n,c,e,fun W hW=>h W ⟨hW.size,fun k hk hn=>hW.block k hk (fun e=>hn (Nat.lt_of_lt_of_le e hB))⟩⟩⟩
theorem OwnI.rows {w:World}{B:Nat}{A:Option Addr}{n c:Nat}{L:List (List Nat)} (g:OwnI w B (.slice A n c) L):RowsI B w (A,n,c) L:=by
 obtain ⟨rows,h1,h2,h3⟩:=g
 have hlt:=World.ownsRow.lt h1
 obtain ⟨A9,n9,c9,e9,hn9,hcell⟩:=map_open h1.reads
 injection e9 with e1 e2 e3
 subst e1;subst e2;subst e3
 refine ⟨by show n=_;omega,fun i hi=>?_⟩
 have hir:i < rows.length:=by omega
 obtain ⟨b,o,hA,hce⟩:=hcell i hir
 obtain ⟨⟨a,ha⟩,hk⟩:=h3 i hir hi
 refine ⟨b,o,a,rows[i].2.1,rows[i].2.2,hA,fun W hW=>?_⟩
 have e:sv rows[i]= .slice (some a) rows[i].2.1 rows[i].2.2:=by show Value.slice rows[i].1 _ _=_;rw [ha]
 have hbb:=hlt b (by rw [hA];rfl)
 rw [<- e]
 refine ⟨?_,hk W hW.size fun k hk9 hn=>hW.block k hk9 (fun e9=>hn (.inl e9))⟩
 rw [World.cell?_of_block (w:=w) (hW.block b hbb.2 (by omega))]
 exact hce
theorem info_sli:(Tryz.prog.info? 41).map (fun i=>(i.zero,i.size,i.bytes))=some (some (.slice none 0 0),1,24):=by kernel_rfl
theorem wpList_pushM {ops:Array Oper}{rest:List Oper}{o:Oper}{a:Act}{Q:Exit->Act->World->Prop}{w:World} (hgd:o.guard=none) (s x:Operand)
  (ho:o.op= .call { callee := .builtin .append,args:=#[s,x],argTypes:=#[41,41]})
  (B:Nat) (v:Value) (xs:List Value) (hs:a.eval s=v) (hown:Own1 w B 3 v xs) (ad:Addr) (m c:Nat) (ys:List Value) (hx:a.eval x= .slice (some ad) m c)
  (hr:Reads1 w (.slice (some ad) m c) ys) (h1:∀ u∈ys,u.oneCell'=true) (hl:xs.length+m<=4194304) (hB:B<=w.heap.size)
  (h:∀ v' w',Own1 w' B 3 v' (xs++ys)->(∀ w0,Below B w0 w->Below B w0 w')->wpList Tryz.prog ops Q rest (a.put o.dst v') w'):wpList Tryz.prog ops Q (o::rest) a w:=by
 obtain ⟨i0,hi0,hz0,hz1,hz2⟩:=info_parts info_intC
 have hm:ys.length=m:=by
  obtain ⟨A9,c9,e9⟩:=hr.len
  injection e9 with _ e9 _
  exact e9.symm
 refine wpList_append_own_at _ hgd s x 41 ho B 3 i0 (.int .i64 0) 1 8 Tryz.underlying41 hi0 hz0 hz1 hz2 rfl (by omega) v xs.length _ hs
  hown ad m c ys hx (by rw [hm,Nat.mul_one]) ?_ h1 (by unfold maxLen;omega) (by omega) hB ?_
 ·intro j u hj
  obtain ⟨hlt,rfl⟩:=List.getElem?_eq_some_iff.1 hj
  rcases hr with ⟨a9,c9,e,h0⟩ | ⟨b,f,n,c9,e,hn,hc⟩
  ·subst h0;exact absurd hlt (Nat.not_lt_zero _)
  ·injection e with e1 e2 e3
   injection e1 with e1
   subst e1
   rw [<- hc j hlt]
   unfold Addr.add;split
   ·rename_i h0;subst h0;rfl
   ·rfl
 intro v' w' hown' hg _ _
 have hlow:=World.ownsRow.lt hown
 refine h v' w' ?_ ?_
 ·unfold Own1
  rw [List.length_append,hm]
  exact hown'
 ·intro w0 hb
  exact hb.grown hg hB fun k hk=>(hlow k hk).1
theorem wpList_pushR {ops:Array Oper}{rest:List Oper}{o:Oper}{a:Act}{Q:Exit->Act->World->Prop}{w:World} (hgd:o.guard=none) (s x:Operand)
  (ho:o.op= .call { callee := .builtin .append,args:=#[s,x],argTypes:=#[247,247]})
  (B:Nat) (v:Value) (L:List (List Nat)) (hs:a.eval s=v) (hown:OwnI w B v L) (ad:Addr) (n c:Nat) (r:List Nat) (hk:Keeps (fun b=>b < B\/v.ownBlock=some b) w (fun W=>Reads1 W (.slice (some ad) n c) (r.map natV)))
  (G:Nat) (hG:G=w.heap.size) (hx:a.eval x= .slice (some ⟨G,0,none⟩) 1 1) (hl:L.length<=4194303) (hB:B<=w.heap.size)
  (h:∀ v' w',OwnI w' B v' (L++[r])->(∀ w0,Below B w0 w->Below B w0 w')->wpList Tryz.prog ops Q rest (a.put o.dst v') w'):wpList Tryz.prog ops Q (o::rest) a (w.alloc (.cells #[.slice (some ad) n c] 41)):=by
 subst hG
 obtain ⟨rows,h1,h2,h3⟩:=hown
 obtain ⟨i0,hi0,hz0,hz1,hz2⟩:=info_parts info_sli
 refine wpList_append_own_at _ hgd s x 247 ho B 41 i0 _ 1 24 Tryz.underlying247 hi0 hz0 hz1 hz2 rfl (by omega) v (rows.map sv).length _ hs
  (World.ownsRow.alloc h1 _) ⟨w.heap.size,0,none⟩ 1 1 [.slice (some ad) n c] hx rfl (cell_one_new w _ _) (by simp [Value.oneCell']) (by unfold maxLen;rw [List.length_map];omega) (by rw [List.length_map];omega) (by simp;omega) ?_
 intro v' w' hown' hg _ hat
 have hsz:w.heap.size+1<=w'.heap.size:=by have:=hg.size;simpa using this
 have hlow:=World.ownsRow.lt h1
 have keep:∀ b,b < w.heap.size->v.ownBlock≠some b->w'.heap[b]?=w.heap[b]?:=fun b hlt hb=>by
  rw [hg.block b (by simp;omega) (fun e=>hb e.symm)]
  exact (bel1 w _).block b hlt
 have up:∀ {R:World->Prop},Keeps (fun b=>b < B\/v.ownBlock=some b) w R->Keeps (fun b=>b < B\/v'.ownBlock=some b) w' R:=fun {R} hR W hz hb=>by
  refine hR W (by omega) fun b hlt hne=>?_
  rw [hb b (by omega) ?_,keep b hlt (fun e=>hne (.inr e))]
  rintro (e0 | e0)
  ·exact hne (.inl e0)
  rcases hat with e | e
  ·rw [e] at e0;exact hne (.inr e0)
  ·rw [e] at e0
   injection e0 with e2
   simp at e2
   omega
 refine h v' w' ⟨rows++[(some ad,n,c)],?_,by simp [h2],fun i hi hi2=>?_⟩ (fun w0 hb=>(hb.alloc hB _).grown hg (by simp;omega) fun k hk=>(hlow k hk).1)
 ·unfold Own1
  rw [List.map_append,List.length_append]
  exact hown'
 ·by_cases hir:i < rows.length
  ·have hiL:i < L.length:=by omega
   rw [List.getElem_append_left hir,List.getElem_append_left hiL]
   exact ⟨(h3 i hir hiL).1,up (h3 i hir hiL).2⟩
  ·have e:i=rows.length:=by simp at hi;omega
   subst e
   rw [List.getElem_append_right (Nat.le_refl _),List.getElem_append_right (by omega)]
   simp only [h2,Nat.sub_self,List.getElem_cons_zero]
   exact ⟨⟨ad,rfl⟩,up hk⟩
def allP (s:List Nat) (most i:Nat):List (List Nat):=(s.take i).foldl (stepA most) [[]]
theorem allP_succ {s:List Nat}{most i:Nat} (h:i < s.length):allP s most (i+1)=stepA most (allP s most i) s[i]:=by
 unfold allP
 rw [List.take_succ_eq_append_getElem h,List.foldl_append]
 rfl
theorem allP_in {s:List Nat}{most i:Nat}:∀ r∈allP s most i,r.length<=i:=fun r hr=>by
 have h:=(allL_inSh (s:=s.take i) (most:=most) r hr).1
 rw [List.length_take] at h
 omega
theorem allP_le {s:List Nat}{most i:Nat}:(allP s most i).length<=most+1:=by
 unfold allP
 rcases List.eq_nil_or_concat (s.take i) with h | ⟨t,d,h⟩
 ·rw [h];show 1<=_;omega
 ·rw [h,List.concat_eq_append,List.foldl_append]
  have h2:=stepA_le most (t.foldl (stepA most) [[]]) d
  show (stepA most _ d).length<=_
  omega
def midL (most d:Nat) (l:List (List Nat)) (k:Nat):List (List Nat):=((l.take k).flatMap (nextF d)).take most
theorem midL_zero (most d:Nat) (l:List (List Nat)):midL most d l 0=[]:=by simp [midL]
theorem midL_all {most d:Nat}{l:List (List Nat)}{k:Nat} (h:k=l.length\/most<=(midL most d l k).length):midL most d l k=stepA most l d:=by
 rcases h with h | h
 ·subst h;unfold midL stepA;rw [List.take_length]
 ·unfold midL stepA at *
  rw [List.length_take] at h
  have e:l.flatMap (nextF d)=(l.take k).flatMap (nextF d)++(l.drop k).flatMap (nextF d):=by rw [<- List.flatMap_append,List.take_append_drop]
  rw [e,List.take_append_of_le_length (by omega)]
theorem midL_flat {most d:Nat}{l:List (List Nat)}{k:Nat} (h:(midL most d l k).length < most):midL most d l k=(l.take k).flatMap (nextF d):=by
 unfold midL at *
 rw [List.length_take] at h
 exact List.take_of_length_le (by omega)
theorem midL_next {most d:Nat}{l:List (List Nat)}{k j:Nat} (hk:k < l.length) (h:(midL most d l k).length < most) (hj:j<=d) (hl:(midL most d l k++(nextF d l[k]).take j).length<=most)
  (he:j=d\/most<=(midL most d l k++(nextF d l[k]).take j).length):midL most d l k++(nextF d l[k]).take j=midL most d l (k+1):=by
 have hx:=midL_flat h
 generalize midL most d l k=X at *
 unfold midL
 rw [List.take_succ_eq_append_getElem hk,List.flatMap_append,<- hx,List.flatMap_cons,List.flatMap_nil,List.append_nil]
 have e:X++nextF d l[k]=(X++(nextF d l[k]).take j)++(nextF d l[k]).drop j:=by rw [List.append_assoc,List.take_append_drop]
 rw [e]
 rcases he with he | he
 ·subst he
  have e2:(nextF j l[k]).drop j=[]:=List.drop_of_length_le (by rw [nextF_len];exact Nat.le_refl _)
  rw [e2,List.append_nil,List.take_of_length_le hl]
 ·rw [List.take_append_of_le_length (by omega),List.take_of_length_le hl]
theorem nextF_snoc {d j:Nat}{r:List Nat} (hj:j < d):(nextF d r).take j++[r++[j]]=(nextF d r).take (j+1):=by
 have h:j < (nextF d r).length:=by rw [nextF_len];exact hj
 rw [List.take_succ_eq_append_getElem h]
 simp [nextF]
theorem nat_one {r:List Nat}:∀ u∈r.map natV,u.oneCell'=true:=fun u hu=>by
 obtain ⟨z,_,rfl⟩:=List.mem_map.1 hu
 rfl
theorem own_some {e:TypeId}{w:World}{B:Nat}{v:Value}{xs:List Value}{r:List Nat} (h:Own1 w B e v xs) (hl:xs.length=r.length+1):∃ g c,v= .slice (some ⟨g,0,none⟩) (r.length+1) c:=by
 rcases h.2 with ⟨_,h0⟩ | ⟨g,cap,cur,hv,_⟩
 ·omega
 ·rw [hl] at hv
  exact ⟨g,cap,hv⟩
theorem own_keep {w2:World}{B:Nat}{v v2:Value}{r:List Nat}{j:Nat} (h:Own1 w2 B 3 v2 (r.map natV++[.int .i64 (j:Int)])) (hB:∀ b,v.ownBlock=some b->b < B){lo:Nat} (hlo:lo<=B):Keeps (fun b=>b < lo\/v.ownBlock=some b) w2 (fun W=>Reads1 W v2 ((r++[j]).map natV)):=by
 rw [List.map_append]
 exact Own1.keepsH h (fun b e=>by
  rcases e with e | e
  ·exact Nat.lt_of_lt_of_le e hlo
  ·exact hB b e)
theorem rall_any (h:Sl) (s:List Nat) (most:Nat) (W:World) (hs:Reads1 W (sv h) (s.map natV)) (hs8:s.length<=8) (hm:most<=1000000) :
  Calls Tryz.prog 242 #[sv h,.int .i64 (most:Int)] W (fun e w'=>∃ A n c,e= .returned (.slice A n c)/\RowsI W.heap.size w' (A,n,c) (allL s most)/\Below W.heap.size W w'):=by
 obtain ⟨A0,n0,c0,he0,hn0,hcell⟩:=map_open hs
 obtain ⟨hA,hn,hc⟩:=h
 injection he0 with e1 e2 e3
 subst e1;subst e2;subst e3
 dsimp only at hn0 hcell
 have HN:=Lib.hid hn0
 have HCE:=Lib.hid hcell
 have hn8:hn<=8:=by omega
 have HP0:Hid (allP s most 0=[[]]):=rfl
 have HPN:Hid (allP s most hn=allL s most):=by unfold Hid allP allL;rw [hn0,List.take_length]
 have HPS:Hid (∀ i (h:i < s.length),allP s most (i+1)=stepA most (allP s most i) s[i]):=fun i h=>allP_succ h
 have HPI:Hid (∀ i,∀ r∈allP s most i,r.length<=i):=fun i=>allP_in
 have HPL:Hid (∀ i,(allP s most i).length<=most+1):=fun i=>allP_le
 obtain ⟨W1,hW1⟩:∃ W1,W1=(W.alloc (.cells #[] 3)).alloc (.cells #[.slice (some ⟨W.heap.size,0,none⟩) 0 0] 41):=⟨_,rfl⟩
 have HW1:=Lib.hid hW1
 have HR0:Hid (RowsI W.heap.size W1 (some ⟨W.heap.size+1,0,none⟩,1,1) (allP s most 0)):=by
  refine ⟨rfl,fun i hi=>?_⟩
  have hi0:i=0:=by
   have h1:i < 1:=hi
   omega
  subst hi0
  refine ⟨W.heap.size+1,0,⟨W.heap.size,0,none⟩,0,0,rfl,fun W' hW'=>⟨?_,.inl ⟨_,_,rfl,rfl⟩⟩⟩
  have h1:=heap_alloc_new (W.alloc (.cells #[] 3)) (.cells #[.slice (some ⟨W.heap.size,0,none⟩) 0 0] 41)
  rw [show (W.alloc (.cells #[] 3)).heap.size=W.heap.size+1 by simp,<- hW1] at h1
  have h2:W'.heap[W.heap.size+1]?=some (.cells #[.slice (some ⟨W.heap.size,0,none⟩) 0 0] 41):=by rw [hW'.block _ (lt_blk h1) (by show ¬ W.heap.size+1 < W.heap.size;omega)];exact h1
  rw [cell_of_row _ (W.heap.size+1) (0+0) _ _ (0,0) h2]
  rfl
 have HB0:Hid (Below W.heap.size W W1):=by unfold Hid;rw [hW1];exact bel2 W _ _
 clear hs hn0 hcell hW1 hs8
 dsimp only [sv]
 go_enter Tryz.func242,Tryz.ntmps242
 go_wp2
 rw [<- HW1.out]
 go_loopw [5,6] (fun lv iv wr=>∃ (i:Nat) (A:Option Addr) (n c:Nat),i<=hn/\iv= .int .i64 (i:Int)/\lv= .slice A n c/\RowsI W.heap.size wr (A,n,c) (allP s most i)/\Below W.heap.size W wr) (fun _ iv _=>hn - (intOf iv).toNat)
 case atStart=>exact ⟨0,_,_,_,Nat.zero_le _,rfl,rfl,HR0.out,HB0.out⟩
 case round =>
  obtain ⟨i,lA,ln,lc,hi,rfl,rfl,hrw,hbl⟩:=hrel
  have HRW:=Lib.hid hrw
  have HBL:=Lib.hid hbl
  clear hrw hbl HR0 HB0
  by_cases hlt:i < hn
  ·have hlt2:(i:Int) < (hn:Int):=by omega
   have his:i < s.length:=by have:=HN.out;omega
   obtain ⟨b0,o0,hA0,hce⟩:=HCE.out i his
   subst hA0
   obtain ⟨lp,hlp⟩:∃ lp,lp=allP s most i:=⟨_,rfl⟩
   obtain ⟨d,hd⟩:∃ d,d=s[i]:=⟨_,rfl⟩
   have HNX:Hid (allP s most (i+1)=stepA most lp d):=by unfold Hid;rw [HPS.out i his,hlp,hd]
   have HRI:Hid (∀ r∈lp,r.length<=8):=fun r hr=>by rw [hlp] at hr;have:=HPI.out i r hr;omega
   have hll:lp.length<=most+1:=by rw [hlp];exact HPL.out i
   have hln:ln=lp.length:=by rw [hlp];exact HRW.out.1
   rw [<- hlp] at HRW
   have hcd:W.cell? ⟨b0,o0+i,none⟩=some (.int .i64 (d:Int)):=by rw [hd];exact hce
   have HCD:=Lib.hid hcd
   have hlb:ln<=1000001:=by omega
   have HLN:=Lib.hid hln
   have HM0:Hid (OwnI wr wr.heap.size (.slice none 0 0) (midL most d lp 0)):=by unfold Hid;rw [midL_zero];exact OwnI.nil _ _
   clear hce hd hlp hcd hln hll
   generalize wr=wo at *
   go_wp2
   go_loopw [7,8] (fun nv kv wr=>∃ (k:Nat) (A:Option Addr) (c:Nat),k<=ln/\kv= .int .i64 (k:Int)/\nv= .slice A (midL most d lp k).length c/\OwnI wr wo.heap.size (.slice A (midL most d lp k).length c) (midL most d lp k)/\Below wo.heap.size wo wr) (fun _ kv _=>ln - (intOf kv).toNat)
   case atStart=>exact ⟨0,none,0,Nat.zero_le _,rfl,by rw [midL_zero];rfl,by rw [midL_zero] at HM0 ⊢;exact HM0.out,Below.refl _ _⟩
   case round =>
    obtain ⟨k,nA,nc,hk,rfl,rfl,hoi,hbm⟩:=hrel
    have HOI:=Lib.hid hoi
    have HBM:=Lib.hid hbm
    clear hoi hbm HM0
    have hmle:(midL most d lp k).length<=most:=by unfold midL;rw [List.length_take];omega
    by_cases hkn:k < ln
    ·have hkn2:(k:Int) < (ln:Int):=by omega
     by_cases hfull:(midL most d lp k).length < most
     ·have hfi:(((midL most d lp k).length:Nat):Int) < (most:Int):=by omega
      have hkl:k < lp.length:=by have:=HLN.out;omega
      obtain ⟨b2,o2,a2,rn,rc,hlA,hrows⟩:=HRW.out.2 k hkl
      have HRR:=Lib.hid hrows
      have hla:lA=some ⟨b2,o2,none⟩:=hlA
      subst hla
      obtain ⟨r,hr⟩:∃ r,r=lp[k]:=⟨_,rfl⟩
      have HRL:Hid (r.length<=8):=by unfold Hid;rw [hr];exact HRI.out _ (List.getElem_mem _)
      obtain ⟨X,hX⟩:∃ X,X=midL most d lp k:=⟨_,rfl⟩
      have HNE:Hid (∀ j,j<=d->(X++(nextF d r).take j).length<=most->(j=d\/most<=(X++(nextF d r).take j).length)->X++(nextF d r).take j=midL most d lp (k+1)):=fun j hj h1 h2=>by
       subst hX;subst hr
       exact midL_next hkl hfull hj h1 h2
      rw [<- hX] at HOI hfi hfull hmle ⊢
      rw [<- hr] at HRR
      have HI0:Hid (OwnI wr wo.heap.size (.slice nA (X++(nextF d r).take 0).length nc) (X++(nextF d r).take 0)):=by
       unfold Hid
       rw [List.take_zero,List.append_nil]
       exact HOI.out
      have hx0:X.length=(X++(nextF d r).take 0).length:=by rw [List.take_zero,List.append_nil]
      have HX0:=Lib.hid hx0
      have HXL:Hid (∀ j,j<=d->(X++(nextF d r).take j).length=X.length+j):=fun j hj=>by rw [List.length_append,List.length_take,nextF_len];omega
      have HXS:Hid (∀ j,j < d->X++(nextF d r).take j++[r++[j]]=X++(nextF d r).take (j+1)):=fun j hj=>by rw [List.append_assoc,nextF_snoc hj]
      obtain ⟨Y,hY⟩:∃ Y:Nat->List (List Nat),Y=fun j=>X++(nextF d r).take j:=⟨_,rfl⟩
      have HY:Hid (∀ j,X++(nextF d r).take j=Y j):=fun j=>by rw [hY]
      simp only [HY.out] at HNE HI0 hx0 HX0 HXL HXS
      clear hr hX hY hlA hrows HOI hx0
      generalize hXL:X.length=xl at *
      clear hXL
      have HXX:Hid (∀ j,j<=d->(Y j).length=xl+j):=HXL.out
      generalize wr=wm at *
      go_wp2
      go_loopw [7,9] (fun nv jv wr=>∃ (j:Nat) (A:Option Addr) (c:Nat),j<=d/\xl+j<=most/\jv= .int .i64 (j:Int)/\nv= .slice A (xl+j) c/\OwnI wr wo.heap.size (.slice A (xl+j) c) (Y j)/\Below wo.heap.size wo wr) (fun _ jv _=>d - (intOf jv).toNat)
      case atStart=>exact ⟨0,_,_,Nat.zero_le _,by omega,rfl,rfl,by have h:=HI0.out;rw [<- HX0.out] at h;exact h,HBM.out⟩
      case round =>
       obtain ⟨j,yA,yc,hj,hjm,rfl,rfl,hoj,hbj⟩:=hrel
       have HOJ:=Lib.hid hoj
       have HBJ:=Lib.hid hbj
       clear hoj hbj HI0
       have cd:=cell_up (bel_both HBL.out HBJ.out) HCD.out
       have hsz:wo.heap.size<=wr.heap.size:=HBJ.out.size
       by_cases hjd:j < d
       ·have hjd2:(j:Int) < (d:Int):=by omega
        by_cases hym:xl+j < most
        ·have hym2:((xl:Int)+(j:Int)) < (most:Int):=by omega
         have hym3:(((xl+j:Nat)):Int) < (most:Int):=by omega
         have HE0:Hid (Own1 (wr.alloc (.cells #[] 3)) wr.heap.size 3 (.slice (some ⟨wr.heap.size,0,none⟩) 0 0) []):=World.ownsRow_lit (base:=wr.heap.size) (e:=3) (size:=1) wr #[] 0 (Nat.le_refl _) (by decide) rfl
         have HBA:=Lib.hid (bel1 wr (.cells #[] 3))
         have HRA:=Lib.hid (HRR.out _ (Lat.below (bel_both HBJ.out HBA.out)))
         obtain ⟨rcell,-⟩:=HRR.out _ (Lat.below (bel_both HBJ.out HBA.out))
         have HRM:Hid (rn=r.length):=by
          obtain ⟨A9,c9,e9⟩:=HRA.out.2.len
          rw [List.length_map] at e9
          injection e9 with _ e9 _
         have HOB:Hid (∀ b,(Value.slice yA (xl+j) yc).ownBlock=some b->b < wr.heap.size):=fun b e=>by
          obtain ⟨rows,q1,q2,q3⟩:=HOJ.out
          exact (World.ownsRow.lt q1 b e).2
         have HXJ:=Lib.hid (HXS.out j hjd)
         have HXN:=Lib.hid (HXX.out (j+1) hjd)
         have HXO:=Lib.hid (HXX.out j hj)
         have HL1:Hid (((r.map natV).length+1)*8<=140737488355328):=by unfold Hid;rw [List.length_map];have:=HRL.out;omega
         have HL2:Hid ((r.map natV).length+1<=140737488355328):=by unfold Hid;rw [List.length_map];have:=HRL.out;omega
         have HL3:Hid (([]:List Value).length+rn<=4194304):=by unfold Hid;rw [HRM.out];have:=HRL.out;simp;omega
         have HL4:Hid ((Y j).length<=4194303):=by unfold Hid;rw [HXO.out];omega
         have hw0:wr.heap.size<=(wr.alloc (.cells #[] 3)).heap.size:=by simp
         go_wp2_with (first
          | (at_builtin;refine wpList_pushM rfl (.tmp 45) (.tmp 49) rfl wr.heap.size (.slice (some ⟨wr.heap.size,0,none⟩) 0 0) [] rfl HE0.out a2 rn rc (r.map natV) rfl HRA.out.2 nat_one HL3.out hw0 ?_;intro v1 w1 ho1 hb1;have HO1:=Lib.hid ho1;rw [List.nil_append] at HO1;have HB1:=Lib.hid (hb1 wr HBA.out);have hs1:wr.heap.size<=w1.heap.size:=HB1.out.size;clear ho1 hb1)
          | (at_builtin;refine wpList_push1' rfl (.tmp 50) (.tmp 52) 41 3 rfl Tryz.underlying41 (.int .i64 0) 8 info_intC rfl wr.heap.size v1 (r.map natV) rfl HO1.out (.int .i64 (j:Int)) rfl w1.heap.size rfl rfl HL1.out HL2.out hs1 ?_;intro v2 w2 ho2 hb2;have HB2:=Lib.hid (hb2 wr HB1.out);(obtain ⟨g2,c2,hv2⟩:∃ g c,v2= .slice (some ⟨g,0,none⟩) (r.length+1) c:=own_some ho2 (by simp));subst hv2;have HK2:=Lib.hid (own_keep (r:=r) (j:=j) ho2 HOB.out hsz);have HOW:=Lib.hid (HOJ.out.below HB2.out);have hs2:wo.heap.size<=w2.heap.size:=Nat.le_trans hsz HB2.out.size;clear ho2 hb2)
          | (at_builtin;refine wpList_pushR rfl (.tmp 44) (.tmp 54) rfl wo.heap.size (.slice yA (xl+j) yc) (Y j) rfl HOW.out ⟨g2,0,none⟩ (r.length+1) c2 (r++[j]) HK2.out w2.heap.size rfl rfl HL4.out hs2 ?_;intro v3 w3 ho3 hb3;(obtain ⟨A3,c3,hv3⟩:=ho3.len);rw [HXJ.out,HXN.out] at hv3;subst hv3;rw [HXJ.out] at ho3;have HO3:=Lib.hid ho3;have HB3:=Lib.hid (hb3 wo (bel_both HBJ.out HB2.out));clear ho3 hb3))
         go_roundw
         case rel=>exact ⟨j+1,_,_,hjd,by omega,by go_num,rfl,HO3.out,HB3.out⟩
         case measure=>simp [intOf];omega
        ·have hym2:¬ ((xl:Int)+(j:Int)) < (most:Int):=by omega
         have hym3:¬ (((xl+j:Nat)):Int) < (most:Int):=by omega
         have HNY:=Lib.hid (HNE.out j hj (by rw [HXX.out j hj];omega) (.inr (by rw [HXX.out j hj];omega)))
         have HLY:=Lib.hid (HXX.out j hj)
         rw [HNY.out] at HLY
         have hoj2:=HOJ.out
         rw [HNY.out,<- HLY.out] at hoj2
         have HOK:=Lib.hid hoj2
         clear hoj2
         go_wp2
         go_roundw
         case rel=>exact ⟨k+1,_,_,by omega,by go_num,by rw [HLY.out],HOK.out,HBJ.out⟩
         case measure=>simp [intOf];omega
       ·have hjd2:¬ (j:Int) < (d:Int):=by omega
        have HNY:=Lib.hid (HNE.out j hj (by rw [HXX.out j hj];omega) (.inl (by omega)))
        have HLY:=Lib.hid (HXX.out j hj)
        rw [HNY.out] at HLY
        have hoj2:=HOJ.out
        rw [HNY.out,<- HLY.out] at hoj2
        have HOK:=Lib.hid hoj2
        clear hoj2
        go_wp2
        go_roundw
        case rel=>exact ⟨k+1,_,_,by omega,by go_num,by rw [HLY.out],HOK.out,HBJ.out⟩
        case measure=>simp [intOf];omega
     ·have hfi:¬ (((midL most d lp k).length:Nat):Int) < (most:Int):=by omega
      have HAL:Hid (midL most d lp k=allP s most (i+1)):=by unfold Hid;rw [HNX.out];exact midL_all (.inr (by omega))
      have HRO:Hid (RowsI W.heap.size wr (nA,(midL most d lp k).length,nc) (allP s most (i+1))):=by unfold Hid;rw [<- HAL.out];exact HOI.out.rows.lower HBL.out.size
      clear HOI
      go_wp2
      go_roundw
      case rel=>exact ⟨i+1,_,_,_,by omega,by go_num,rfl,HRO.out,bel_both HBL.out HBM.out⟩
      case measure=>simp [intOf];omega
    ·have hkn2:¬ (k:Int) < (ln:Int):=by omega
     have HAL:Hid (midL most d lp k=allP s most (i+1)):=by unfold Hid;rw [HNX.out];exact midL_all (.inl (by have:=HLN.out;omega))
     have HRO:Hid (RowsI W.heap.size wr (nA,(midL most d lp k).length,nc) (allP s most (i+1))):=by unfold Hid;rw [<- HAL.out];exact HOI.out.rows.lower HBL.out.size
     clear HOI
     go_wp2
     go_roundw
     case rel=>exact ⟨i+1,_,_,_,by omega,by go_num,rfl,HRO.out,bel_both HBL.out HBM.out⟩
     case measure=>simp [intOf];omega
  ·have hge:¬ (i:Int) < (hn:Int):=by omega
   obtain rfl:i=hn:=by omega
   have HFI:=HRW
   rw [HPN.out] at HFI
   go_wp2
   go_ret
   exact ⟨_,_,_,rfl,HFI.out,HBL.out⟩
def plcN:List Nat->List Nat->Nat
 | _::s,x::r=>plcN s r+prodN s*x
 | _,_=>0
theorem plcN_lt:∀ (s r:List Nat),InSh s r->plcN s r < prodN s
 | [],[],_=>by show 0 < 1;decide
 | [],_::_,h=>by have:=h.1;simp at this
 | _::_,[],h=>by have:=h.1;simp at this
 | d::s,x::r,h=>by
  have h1:InSh s r:=⟨by have:=h.1;simpa using this,fun k hk hk2=>by have:=h.2 (k+1) (by simpa using hk) (by simpa using hk2);simpa using this⟩
  have h2:x < d:=by have:=h.2 0 (by simp) (by simp);simpa using this
  have h3:=plcN_lt s r h1
  show plcN s r+prodN s*x < d*prodN s
  have h4:prodN s*(x+1)<=prodN s*d:=Nat.mul_le_mul_left _ h2
  rw [Nat.mul_succ,Nat.mul_comm (prodN s) d] at h4
  omega
theorem inSh_drop {s r:List Nat} (h:InSh s r) (i:Nat):InSh (s.drop i) (r.drop i):=by
 refine ⟨by rw [List.length_drop,List.length_drop,h.1],fun k hk hk2=>?_⟩
 rw [List.getElem_drop,List.getElem_drop]
 exact h.2 _ _ _
theorem prod1_drop (s:List Nat):∀ i,prod1 (s.drop i)<=prod1 s:=by
 induction s with
 | nil=>intro i;simp
 | cons d s ih =>
  intro i
  cases i with
  | zero=>exact Nat.le_refl _
  | succ i =>
   have h1:=ih i
   have h2:prod1 s<=max 1 d*prod1 s:=Nat.le_mul_of_pos_left _ (by omega)
   show prod1 (s.drop i)<=max 1 d*prod1 s
   omega
theorem drop_at {s:List Nat}{i:Nat} (h:i < s.length):s.drop i=s[i]::s.drop (i+1):=List.drop_eq_getElem_cons h
theorem rgood06_any (v:Value) (s:List Nat) (n:Nat) (w:World) (hv:Reads1 w v (s.map natV)) (hok:OkSh s n) :
  Calls Tryz.prog 261 #[v] w fun e w'=>e= .returned (.bool true)/\w=w':=by
 have HP:=Lib.hid (rprod_nat v s 1048576 w hv (by have:=hok.1;omega))
 rw [prodE_ok hok (by have:=hok.le;omega)] at HP
 dsimp only at HP
 clear hv hok
 go_enter Tryz.func261,Tryz.ntmps261
 go_wp2_with fail
 refine HP.out.mono ?_
 rintro e w2 ⟨rfl,rfl⟩
 go_wp2
 go_ret
 exact ⟨rfl,rfl⟩
theorem rplace_any (sh ih:Sl) (s r:List Nat) (n:Nat) (w:World) (hs:Reads1 w (sv sh) (s.map natV)) (hr:Reads1 w (sv ih) (r.map natV)) (hok:OkSh s n) (hin:InSh s r) :
  Calls Tryz.prog 244 #[sv sh,sv ih] w fun e w'=>e= .returned (.int .i64 (plcN s r:Nat))/\Below w.heap.size w w':=by
 have HG:=Lib.hid (rgood06_any (sv sh) s n w hs hok)
 obtain ⟨A1,n1,c1,he1,hn1,hc1⟩:=map_open hs
 obtain ⟨A2,n2,c2,he2,hn2,hc2⟩:=map_open hr
 obtain ⟨hA,hn,hc⟩:=sh
 obtain ⟨iA,im,ic⟩:=ih
 injection he1 with e1 e2 e3
 injection he2 with e4 e5 e6
 subst e1;subst e2;subst e3;subst e4;subst e5;subst e6
 dsimp only at hn1 hn2 hc1 hc2
 obtain rfl:im=hn:=by rw [hn1,hn2];exact hin.1
 have HN:=Lib.hid hn1
 have HN2:=Lib.hid hn2
 have HC1:=Lib.hid hc1
 have HC2:=Lib.hid hc2
 have h8:im<=8:=by have:=hok.1;omega
 have hlen:((im:Int) != (im:Int))=false:=by simp
 have HPD:Hid (∀ i,prodN (s.drop i)<=1048576):=fun i=>by have h1:=prodN_le (s.drop i);have h2:=prod1_drop s i;have h3:=hok.2.1;omega
 have HPC:Hid (∀ i,plcN (s.drop i) (r.drop i) < prodN (s.drop i)):=fun i=>plcN_lt _ _ (inSh_drop hin i)
 have HIN:Hid (∀ k (h:k < r.length) (h2:k < s.length),r[k] < s[k]):=hin.2
 have HD0:Hid (plcN (s.drop 0) (r.drop 0)=plcN s r):=rfl
 have HPE:Hid (plcN (s.drop im) (r.drop im)=0/\prodN (s.drop im)=1):=by
  unfold Hid
  rw [hn1,List.drop_length]
  exact ⟨rfl,rfl⟩
 have HPS:Hid (∀ i (h:i < s.length) (h2:i < r.length),plcN (s.drop i) (r.drop i)=plcN (s.drop (i+1)) (r.drop (i+1))+prodN (s.drop (i+1))*r[i]/\prodN (s.drop i)=prodN (s.drop (i+1))*s[i]):=fun i h h2=>by
  rw [drop_at h,drop_at h2]
  exact ⟨rfl,Nat.mul_comm _ _⟩
 clear hs hr hok hin hn1 hn2 hc1 hc2
 dsimp only [sv] at HG ⊢
 go_enter Tryz.func244,Tryz.ntmps244
 go_wp2_with fail
 refine HG.out.mono ?_
 rintro e w2 ⟨rfl,rfl⟩
 clear HG
 go_wp2
 go_loopw [5,6,7] (fun nv pv iv wr=>∃ i:Nat,i<=im/\nv= .int .i64 (plcN (s.drop i) (r.drop i):Nat)/\pv= .int .i64 (prodN (s.drop i):Nat)/\iv= .int .i64 ((i:Int) - 1)/\Below w.heap.size w wr) (fun _ _ iv _=>(intOf iv+1).toNat)
 case atStart=>exact ⟨im,Nat.le_refl _,by rw [HPE.out.1];rfl,by rw [HPE.out.2];rfl,rfl,Below.refl _ _⟩
 case round =>
  obtain ⟨i,hi,rfl,rfl,rfl,hbl⟩:=hrel
  have HBL:=Lib.hid hbl
  clear hbl
  by_cases h0:0 < i
  ·obtain ⟨k,rfl⟩:∃ k,i=k+1:=⟨i - 1,by omega⟩
   have hki:((k+1:Nat):Int) - 1=(k:Int):=by omega
   have hks:k < s.length:=by have:=HN.out;omega
   have hkr:k < r.length:=by have:=HN2.out;omega
   obtain ⟨b1,o1,rfl,hce1⟩:=HC1.out k hks
   obtain ⟨b2,o2,rfl,hce2⟩:=HC2.out k hkr
   have ce1:wr.cell? ⟨b1,o1+k,none⟩=some (.int .i64 (s[k]:Nat)):=cell_up HBL.out hce1
   have ce2:wr.cell? ⟨b2,o2+k,none⟩=some (.int .i64 (r[k]:Nat)):=cell_up HBL.out hce2
   have hxd:=HIN.out k hkr hks
   obtain ⟨hp1,hp2⟩:=HPS.out k hks hkr
   have hq1:=HPC.out k
   have hq2:=HPD.out k
   have hq3:=HPC.out (k+1)
   have hq4:=HPD.out (k+1)
   clear hce1 hce2
   generalize s[k]=d at *
   generalize r[k]=x at *
   generalize hP:plcN (s.drop (k+1)) (r.drop (k+1))=P at *
   generalize hQ:prodN (s.drop (k+1))=Q at *
   generalize hP2:plcN (s.drop k) (r.drop k)=P2 at *
   generalize hQ2:prodN (s.drop k)=Q2 at *
   have HP2:=Lib.hid hP2
   have HQ2:=Lib.hid hQ2
   obtain ⟨y,hy⟩:∃ y,y=Q*x:=⟨_,rfl⟩
   rw [<- hy] at hp1
   have hm1:(Q:Int)*(x:Int)=(y:Int):=by rw [hy,Int.natCast_mul]
   have hm2:(Q:Int)*(d:Int)=(Q2:Int):=by rw [hp2,Int.natCast_mul]
   have hm3:(P:Int)+(y:Int)=(P2:Int):=by omega
   have wy:IntKind.i64.wrap (y:Int)=(y:Int):=IntWalk.i64_in _ (by omega)
   have wq:IntKind.i64.wrap (Q2:Int)=(Q2:Int):=IntWalk.i64_in _ (by omega)
   have wp:IntKind.i64.wrap (P2:Int)=(P2:Int):=IntWalk.i64_in _ (by omega)
   have hx0:¬ (x:Int) < 0:=by omega
   have hx1:¬ (x:Int)>=(d:Int):=by omega
   have hx2:¬ (d:Int)<=(x:Int):=by omega
   have hx3:¬ d<=x:=by omega
   have hk0:(k:Int)>=0:=by omega
   have hk1:(k:Int) < (im:Int):=by omega
   have hk2:k < im:=by omega
   clear hP hQ hP2 hQ2 hy hp1 hp2
   rw [hki]
   clear hki
   go_wp2
   go_quiet (fail)
   go_wp2
   go_roundw
   case rel=>exact ⟨k,by omega,by rw [HP2.out],by rw [HQ2.out],by go_num,below_drewN HBL.out _⟩
   case measure=>simp [intOf]
  ·obtain rfl:i=0:=by omega
   have hg:¬ ((0:Nat):Int) - 1>=0:=by omega
   rw [HD0.out]
   go_wp2
   go_ret
   exact ⟨rfl,HBL.out⟩
theorem raxis_any (h x:Sl) (f:Int) (hh:0 < h.2.1) (hb8:h.2.1<=8) (w:World):Calls Tryz.prog 211 #[plV h x f,.bool false] w fun e w'=>e= .returned (.int .i64 ((h.2.1:Int) - 1))/\Below w.heap.size w w':=by
 have HS:=Lib.hid (PB.new w h x f)
 go_enter Tryz.func211,Tryz.ntmps211
 obtain ⟨p0,p1,p2⟩:=at3_c HS.out.one
 go_wp2
 go_ret
 exact ⟨rfl,HS.out.bel⟩
end Go.Proofs.YtbakjaliponbbaaGreatDoor
