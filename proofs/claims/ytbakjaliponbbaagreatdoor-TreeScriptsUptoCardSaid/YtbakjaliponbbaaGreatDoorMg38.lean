/- Trees that came in: what their reading says of memory. Lists of trees that came in: what their reading says of memory, and how much there is in them. Printed .. Conditions: as each theorem says. -/
import Derived.Test.YtbakjaliponbbaaGreatDoorRows
import Derived.Test.YtbakjaliponbbaaGreatDoorMg03
import Derived.StillTailTactics
import Derived.Test.YtbakjaliponbbaaGreatDoorMg04
import Derived.ProofKit
import Derived.Deep.Slices
import Derived.Deep.Fields
import Derived.ChangeSame
import Derived.Test.YtbakjaliponbbaaGreatDoorMg20
set_option maxRecDepth 100000
namespace Go.Proofs.YtbakjaliponbbaaGreatDoor
open Go Go.RowKit Go.Proofs Go.ChangeShapes Go.WideShapes Go.Deep
theorem one_le {H:Type} (d:DataW H):1<=Rows.uptoBulk d:=by
 cases d with
 | lit l=>cases l <;> simp [Rows.uptoBulk]
 | nil=>simp [Rows.uptoBulk]
 | ptr d=>simp [Rows.uptoBulk]
 | slice elems spare=>simp [Rows.uptoBulk]
 | agg parts=>simp [Rows.uptoBulk]
 | iface t d=>simp [Rows.uptoBulk]
 | map entries=>simp [Rows.uptoBulk]
 | held h=>simp [Rows.uptoBulk]
theorem bulk_len {H:Type} (l:List (DataW H)):l.length<=Rows.uptoBulkAll l:=by
 induction l with
 | nil=>simp [Rows.uptoBulkAll]
 | cons x r ih=>have:=one_le x;simp only [Rows.uptoBulkAll,List.length_cons];omega
theorem part_le {H:Type}{d:DataW H}{l:List (DataW H)} (h:d∈l):Rows.uptoBulk d<=Rows.uptoBulkAll l:=by
 induction l with
 | nil=>cases h
 | cons x r ih =>
  simp only [Rows.uptoBulkAll]
  cases List.mem_cons.1 h with
  | inl e=>subst e;omega
  | inr e=>have:=ih e;omega
theorem trodF {H:Type}{enc:TypeId×Value->H}{W:World}{sp:Nat->Bool}{held:Bool}{base n:Nat}{v:Value}{d:DataW H×List MemPlace}
  (h:DataW.trod enc Tryz.prog W base sp held n 96 [v]=some d):∃ b,v= .float .f64 b/\b < 18446744073709551616:=by
 cases n with
 | zero=>simp [DataW.trod] at h
 | succ n =>
  cases v <;> simp [DataW.trod,Tryz.underlying96] at h
  rename_i k b
  obtain ⟨h1,_⟩:=h
  obtain ⟨rfl,h2⟩:=h1
  exact ⟨b,rfl,by simpa [Lit.wf] using h2⟩
theorem slice_reads {H:Type}{enc:TypeId×Value->H}{W:World}{sp:Nat->Bool}{held:Bool}{base fuel:Nat}{t e:TypeId}{v:Value}{x:DataW H×List MemPlace}{α:Type} (g:α->Value) (z:α) (Q:α->Prop) (ht:Tryz.prog.underlying t=some (.slice e)) (hc:Tryz.prog.cellsOf e=1)
  (hg:∀ {n:Nat} {v:Value} {y:DataW H×List MemPlace},DataW.trod enc Tryz.prog W base sp held n e [v]=some y->∃ b,v=g b/\Q b)
  (h:DataW.trod enc Tryz.prog W base sp held fuel t [v]=some x):∃ l:List α,Reads1 W v (l.map g)/\l.length<=Rows.uptoBulk x.1/\∀ b∈l,Q b:=by
 rcases open_slice1 ht hc h with ⟨hcs,rfl⟩ | ⟨a,n,c',m,k,V,D,Pl,hcs,_,hl,hm,hmm,rfl,hcell⟩
 ·obtain rfl:v= .slice none 0 0:=by simpa using hcs
  exact ⟨[],.inl ⟨none,0,rfl,rfl⟩,by simp,fun b h=>by cases h⟩
 ·obtain rfl:v= .slice (some a) n c':=by simpa using hcs
  have hnm:n<=m:=by rw [hmm];split <;> omega
  by_cases h0:n=0
  ·subst h0;exact ⟨[],.inl ⟨_,_,rfl,rfl⟩,by simp,fun b h=>by cases h⟩
  have hfl:∀ i,∃ b,i < m->V i=g b/\Q b:=fun i=>by
   by_cases hi:i < m
   ·obtain ⟨b,hb⟩:=hg (hcell i hi).2;exact ⟨b,fun _=>hb⟩
   ·exact ⟨z,fun h=>absurd h hi⟩
  obtain ⟨b,hb⟩:=Classical.axiomOfChoice hfl
  obtain ⟨bl,off,spot⟩:=a
  have hspot:spot=none:=by simpa [Addr.add] using World.cell?_spot (hcell 0 (by omega)).1
  subst hspot
  refine ⟨(List.range n).map b,.inr ⟨bl,off,n,c',rfl,by simp,fun i hi=>?_⟩,?_,fun y hy=>?_⟩
  ·have hi':i < n:=by simpa using hi
   have:=(hcell i (by omega)).1
   have e:(⟨bl,off,none⟩:Addr).add i=⟨bl,off+i,none⟩:=by
    unfold Addr.add;split
    ·rename_i h0;subst h0;rfl
    ·rfl
   rw [e] at this
   rw [this,(hb i (by omega)).1]
   simp
  ·have:=bulk_len ((List.range n).map D)
   simp only [Rows.uptoBulk]
   simp at this ⊢
   omega
  ·obtain ⟨i,hi,rfl⟩:=List.mem_map.1 hy
   have:=List.mem_range.1 hi
   exact (hb i (by omega)).2
theorem rks_of {w:World}{b:Nat}:∀ (ts:List RTree) (o:Nat),(∀ i (h:i < ts.length),∃ v0 v1 v2 v3 v4 v5,w.cell? ⟨b,o+i*6,none⟩=some v0/\w.cell? ⟨b,o+i*6+1,none⟩=some v1/\w.cell? ⟨b,o+i*6+2,none⟩=some v2/\w.cell? ⟨b,o+i*6+3,none⟩=some v3/\w.cell? ⟨b,o+i*6+4,none⟩=some v4/\w.cell? ⟨b,o+i*6+5,none⟩=some v5/\RN w ts[i] [v0,v1,v2,v3,v4,v5])->RKs w b o ts
 | [],_,_=>by rw [RKs];trivial
 | t::ts,o,h=>by
  rw [RKs]
  refine ⟨?_,rks_of ts (o+6) fun i hi=>?_⟩
  ·have:=h 0 (by simp);simpa using this
  ·have:=h (i+1) (by simpa using hi)
   have e:o+(i+1)*6=o+6+i*6:=by omega
   rw [e] at this
   simpa using this
theorem fitRs_of:∀ (ts:List RTree),(∀ i (h:i < ts.length),FitG ts[i])->FitGs ts
 | [],_=>by rw [FitGs];trivial
 | t::ts,h=>by
  rw [FitGs]
  exact ⟨by have:=h 0 (by simp);simpa using this,fitRs_of ts fun i hi=>by have:=h (i+1) (by simpa using hi);simpa using this⟩
theorem c_int:Tryz.prog.cellsOf 3=1:=by kernel_rfl
theorem c_nums:Tryz.prog.cellsOf 26=1:=by kernel_rfl
theorem c_text:Tryz.prog.cellsOf 27=1:=by kernel_rfl
theorem c_str:Tryz.prog.cellsOf 9=1:=by kernel_rfl
theorem c_i32:Tryz.prog.cellsOf 21=1:=by kernel_rfl
theorem c_kids:Tryz.prog.cellsOf 22=1:=by kernel_rfl
theorem c_f64:Tryz.prog.cellsOf 96=1:=by kernel_rfl
theorem c_node:Tryz.prog.cellsOf 29=6:=by kernel_rfl
theorem measRs_bulk {H:Type}:∀ (ts:List RTree) (ds:List (DataW H)),ts.length=ds.length->(∀ i (h:i < ts.length) (h2:i < ds.length),measR ts[i]<=Rows.uptoBulk ds[i])->measRs ts<=Rows.uptoBulkAll ds
 | [],_,_,_=>by simp [measRs]
 | _::_,[],h,_=>by simp at h
 | t::ts,d::ds,hl,h=>by
  have h0:=h 0 (by simp) (by simp)
  have:=measRs_bulk ts ds (by simpa using hl) (fun i h1 h2=>by have:=h (i+1) (by simpa using h1) (by simpa using h2);simpa using this)
  simp only [measRs,Rows.uptoBulkAll]
  simp at h0
  omega
theorem node_openM {H:Type}{enc:TypeId×Value->H}{W:World}{sp:Nat->Bool}{held:Bool}{base:Nat}:∀ (N fuel:Nat) (cs:List Value) (x:DataW H×List MemPlace),fuel<=N->DataW.trod enc Tryz.prog W base sp held fuel 29 cs=some x ->
  ∃ t,RN W t cs/\measR t<=Rows.uptoBulk x.1/\(Rows.uptoBulk x.1<=1048576->FitG t)
 | N,fuel,cs,x,hN,h=>by
  obtain ⟨xs,n,hfuel,rfl,hcl,hxl,hf⟩:=DataW.trod_struct Tryz.underlying29 h
  rw [c_node] at hcl
  match cs,hcl,xs,hxl with
  | [v0,v1,v2,v3,v4,v5],_,[y0,y1,y2,y3,y4,y5],_ =>
   have h0:=hf 0 _ rfl
   have h1:=hf 1 _ rfl
   have h2:=hf 2 _ rfl
   have h3:=hf 3 _ rfl
   have h4:=hf 4 _ rfl
   have h5:=hf 5 _ rfl
   simp only [List.getElem_toArray,List.getElem_cons_zero,List.getElem_cons_succ] at h0 h1 h2 h3 h4 h5
   rw [c_int] at h0
   rw [c_nums] at h1
   rw [c_text] at h2
   rw [c_str] at h3
   rw [c_i32] at h4
   rw [c_kids] at h5
   simp at h0 h1 h2 h3 h4 h5
   obtain ⟨k,e0,rfl,w0⟩:=DataW.trod_int Tryz.underlying3 h0
   obtain ⟨c,e4,rfl,w4⟩:=DataW.trod_int Tryz.underlying21 h4
   obtain ⟨s,e3,rfl,w3⟩:=DataW.trod_string Tryz.underlying9 h3
   obtain rfl:v0= .int .i64 k:=by simpa using e0
   obtain rfl:v4= .int .i32 c:=by simpa using e4
   obtain rfl:v3= .string s:=by simpa using e3
   obtain ⟨nums,rn,bn,qn⟩:=slice_reads (Value.float .f64) 0 (fun b=>b < 18446744073709551616) Tryz.underlying26 c_f64 (fun h=>trodF h) h1
   obtain ⟨text,rt,bt,-⟩:=slice_reads (Value.int .i32) 0 (fun _=>True) Tryz.underlying27 c_i32 (fun h=>by obtain ⟨b,hb,_⟩:=DataW.trod_int Tryz.underlying21 h;exact ⟨b,by simpa using hb,trivial⟩) h2
   rcases DataW.trod_slice Tryz.underlying22 h5 with ⟨hcs,rfl⟩ | ⟨a,len,cap,elems,rest,n',hn',hcs,rfl,_,hle,_,hel,hcell,_,_⟩
   ·obtain rfl:v5= .slice none 0 0:=by simpa using hcs
    refine ⟨.mk k nums text s c [],?_,?_,?_⟩
    ·rw [RN];exact ⟨_,_,_,rfl,rn,rt,.inl ⟨rfl,none,0,rfl⟩⟩
    ·simp only [measR,measRs,Rows.uptoBulk,List.map_cons,List.map_nil,Rows.uptoBulkAll,ByteArray.size] at *;simp at *;omega
    ·intro hb
     simp only [Rows.uptoBulk,List.map_cons,Rows.uptoBulkAll] at hb
     rw [FitG];exact ⟨by omega,qn,by omega,by simp at hb;omega,by simp,by rw [FitGs];trivial⟩
   ·obtain rfl:v5= .slice (some a) len cap:=by simpa using hcs
    have hk:∀ i,∃ t,i < len->∃ v0 v1 v2 v3 v4 v5 d,elems[i]?=some d/\(∀ j,j < 6->W.cell? (a.add (i*6+j))=[v0,v1,v2,v3,v4,v5][j]?)/\RN W t [v0,v1,v2,v3,v4,v5]/\measR t<=Rows.uptoBulk d.1/\(Rows.uptoBulk d.1<=1048576->FitG t):=by
     intro i
     by_cases hi:i < len
     ·have:=hcell i hi
      have he:elems[i]?=some (elems[i]'(by omega)):=List.getElem?_eq_getElem (by omega)
      rw [he,c_node,Option.bind_eq_some_iff] at this
      obtain ⟨cs',hc1,hc2⟩:=this
      obtain ⟨t,q1,q2,q3⟩:=node_openM (N - 1) n' cs' _ (by omega) hc2
      obtain ⟨_,hcl',hat⟩:=World.cells?_some hc1
      match cs',hcl' with
      | [z0,z1,z2,z3,z4,z5],_ =>
       exact ⟨t,fun _=>⟨z0,z1,z2,z3,z4,z5,_,he,fun j hj=>by rw [<- Go.Deep.add_add];exact hat j hj,q1,q2,q3⟩⟩
     ·exact ⟨.mk 0 [] [] ⟨#[]⟩ 0 [],fun h=>absurd h hi⟩
    obtain ⟨T,hT⟩:=Classical.axiomOfChoice hk
    have hts:((List.range len).map T).length=len:=by simp
    have hsum:measRs ((List.range len).map T)<=Rows.uptoBulkAll (elems.map (·.1)):=measRs_bulk _ _ (by simp [hel]) fun i h1 h2=>by
     have hi:i < len:=by simpa using h1
     obtain ⟨_,_,_,_,_,_,d,he,_,_,hs,_⟩:=hT i hi
     have he':elems[i]'(by omega)=d:=by rw [List.getElem?_eq_getElem (by omega)] at he;exact Option.some.inj he
     simp [he'];exact hs
    refine ⟨.mk k nums text s c ((List.range len).map T),?_,?_,?_⟩
    ·rw [RN]
     refine ⟨_,_,_,rfl,rn,rt,?_⟩
     by_cases h0:len=0
     ·subst h0;exact .inl ⟨rfl,_,_,rfl⟩
     ·obtain ⟨_,_,_,_,_,_,_,_,hc0,_⟩:=hT 0 (by omega)
      obtain ⟨bl,off,spot⟩:=a
      have hspot:spot=none:=by have:=hc0 0 (by omega);simpa [Addr.add] using World.cell?_spot this
      subst hspot
      have hadd:∀ m,(⟨bl,off,none⟩:Addr).add m=⟨bl,off+m,none⟩:=fun m=>by
       unfold Addr.add;split
       ·rename_i h0;subst h0;rfl
       ·rfl
      refine .inr ⟨by intro e;have:=congrArg List.length e;simp at this;omega,bl,off,cap,by rw [hts],by rw [hts];exact hle,rks_of _ _ fun i hi=>?_⟩
      have hi':i < len:=by simpa using hi
      obtain ⟨v0,v1,v2,v3,v4,v5,d,_,hc,hr,_,_⟩:=hT i hi'
      refine ⟨v0,v1,v2,v3,v4,v5,?_,?_,?_,?_,?_,?_,by simpa using hr⟩
      ·have:=hc 0 (by omega);rw [hadd] at this;simpa using this
      ·have:=hc 1 (by omega);rw [hadd] at this;simpa [Nat.add_assoc] using this
      ·have:=hc 2 (by omega);rw [hadd] at this;simpa [Nat.add_assoc] using this
      ·have:=hc 3 (by omega);rw [hadd] at this;simpa [Nat.add_assoc] using this
      ·have:=hc 4 (by omega);rw [hadd] at this;simpa [Nat.add_assoc] using this
      ·have:=hc 5 (by omega);rw [hadd] at this;simpa [Nat.add_assoc] using this
    ·simp only [measR,Rows.uptoBulk,List.map_cons,List.map_nil,Rows.uptoBulkAll,List.length_map] at *;simp at *;omega
    ·intro hb
     simp only [Rows.uptoBulk,List.map_cons,Rows.uptoBulkAll] at hb
     rw [FitG]
     refine ⟨by omega,qn,by omega,by simp at hb;omega,by rw [hts];have:=bulk_len (elems.map (·.1));simp at this;omega,fitRs_of _ fun i hi=>?_⟩
     have hi':i < len:=by simpa using hi
     obtain ⟨_,_,_,_,_,_,d,he,_,_,_,hft⟩:=hT i hi'
     have hm:d.1∈elems.map (·.1):=List.mem_map.2 ⟨d,List.mem_of_getElem? he,rfl⟩
     have:=part_le hm
     simpa using hft (by omega)
 termination_by N=>N
 decreasing_by omega
theorem nodes_openM {H:Type}{enc:TypeId×Value->H}{W:World}{sp:Nat->Bool}{held:Bool}{base:Nat}{fuel:Nat}{A:Option Addr}{m cc:Nat}{x:DataW H×List MemPlace} (h5:DataW.trod enc Tryz.prog W base sp held fuel 22 [.slice A m cc]=some x) :
  ∃ ts:List RTree,m=ts.length/\KidR W A ts/\measRs ts<=Rows.uptoBulk x.1/\(Rows.uptoBulk x.1<=1048576->∀ i (hi:i < ts.length),FitG ts[i]):=by
 rcases DataW.trod_slice Tryz.underlying22 h5 with ⟨hcs,rfl⟩ | ⟨a,len,cap,elems,rest,n',hn',hcs,rfl,_,hle,_,hel,hcell,_,_⟩
 ·have e:A=none/\m=0/\cc=0:=by simpa using hcs
  obtain ⟨rfl,rfl,rfl⟩:=e
  exact ⟨[],rfl,fun i hi=>absurd hi (by simp),by simp [measRs],fun _ i hi=>absurd hi (by simp)⟩
 ·have e:A=some a/\m=len/\cc=cap:=by simpa using hcs
  obtain ⟨rfl,rfl,rfl⟩:=e
  have hk:∀ i,∃ t,i < m->∃ v0 v1 v2 v3 v4 v5 d,elems[i]?=some d/\(∀ j,j < 6->W.cell? (a.add (i*6+j))=[v0,v1,v2,v3,v4,v5][j]?)/\RN W t [v0,v1,v2,v3,v4,v5]/\measR t<=Rows.uptoBulk d.1/\(Rows.uptoBulk d.1<=1048576->FitG t):=by
   intro i
   by_cases hi:i < m
   ·have:=hcell i hi
    have he:elems[i]?=some (elems[i]'(by omega)):=List.getElem?_eq_getElem (by omega)
    rw [he,c_node,Option.bind_eq_some_iff] at this
    obtain ⟨cs',hc1,hc2⟩:=this
    obtain ⟨t,q1,q2,q3⟩:=node_openM n' n' cs' _ (Nat.le_refl _) hc2
    obtain ⟨_,hcl',hat⟩:=World.cells?_some hc1
    match cs',hcl' with
    | [z0,z1,z2,z3,z4,z5],_ =>
     exact ⟨t,fun _=>⟨z0,z1,z2,z3,z4,z5,_,he,fun j hj=>by rw [<- Go.Deep.add_add];exact hat j hj,q1,q2,q3⟩⟩
   ·exact ⟨.mk 0 [] [] ⟨#[]⟩ 0 [],fun h=>absurd h hi⟩
  obtain ⟨T,hT⟩:=Classical.axiomOfChoice hk
  have hsum:measRs ((List.range m).map T)<=Rows.uptoBulkAll (elems.map (·.1)):=measRs_bulk _ _ (by simp [hel]) fun i h1 h2=>by
   have hi:i < m:=by simpa using h1
   obtain ⟨_,_,_,_,_,_,d,he,_,_,hs,_⟩:=hT i hi
   have he':elems[i]'(by omega)=d:=by rw [List.getElem?_eq_getElem (by omega)] at he;exact Option.some.inj he
   simp [he'];exact hs
  refine ⟨(List.range m).map T,by simp,fun i hi=>?_,?_,fun hb i hi=>?_⟩
  ·have hi':i < m:=by simpa using hi
   obtain ⟨v0,v1,v2,v3,v4,v5,d,_,hc,hr,_,_⟩:=hT i hi'
   obtain ⟨_,_,_,_,_,_,_,_,hc00,_⟩:=hT 0 (by omega)
   obtain ⟨bl,off,spot⟩:=a
   have hspot:spot=none:=by have:=hc00 0 (by omega);simpa [Addr.add] using World.cell?_spot this
   subst hspot
   have hadd:∀ m,(⟨bl,off,none⟩:Addr).add m=⟨bl,off+m,none⟩:=fun m=>by
    unfold Addr.add;split
    ·rename_i h0;subst h0;rfl
    ·rfl
   have c0:=hc 0 (by omega);rw [hadd] at c0
   have c1:=hc 1 (by omega);rw [hadd] at c1
   have c2:=hc 2 (by omega);rw [hadd] at c2
   have c3:=hc 3 (by omega);rw [hadd] at c3
   have c4:=hc 4 (by omega);rw [hadd] at c4
   have c5:=hc 5 (by omega);rw [hadd] at c5
   refine ⟨bl,off,v0,v1,v2,v3,v4,v5,rfl,by simpa using hr,fun w1 hb=>?_⟩
   have k:∀ {p:Addr} {v:Value},W.cell? p=some v->w1.cell? p=some v:=fun {p v} h=>by rw [hb.cell (cell_lt h)];exact h
   exact ⟨k (by simpa using c0),k (by simpa [Nat.add_assoc] using c1),k (by simpa [Nat.add_assoc] using c2),k (by simpa [Nat.add_assoc] using c3),k (by simpa [Nat.add_assoc] using c4),k (by simpa [Nat.add_assoc] using c5)⟩
  ·simp only [Rows.uptoBulk];omega
  ·simp only [Rows.uptoBulk] at hb
   have hi':i < m:=by simpa using hi
   obtain ⟨_,_,_,_,_,_,d,he,_,_,_,hft⟩:=hT i hi'
   have hm:d.1∈elems.map (·.1):=List.mem_map.2 ⟨d,List.mem_of_getElem? he,rfl⟩
   have:=part_le hm
   simpa using hft (by omega)
end Go.Proofs.YtbakjaliponbbaaGreatDoor
