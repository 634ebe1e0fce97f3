/- rebusref25.Gather of plain arrays: what each.Gather tells of the arrays. Plain arrays that came in: what their reading says of .. Conditions: as each theorem says. -/
import Derived.Test.YtakgmnafbjdccaaGreatDoorMg36
import Derived.Test.YtakgmnafbjdccaaGreatDoorMg35
import Derived.Test.YtakgmnafbjdccaaGreatDoorMg34
import Derived.Test.YtakgmnafbjdccaaGreatDoorRows
import Derived.Test.YtakgmnafbjdccaaGreatDoorMg18
import Derived.ProofKit
import Derived.Deep.Slices
import Derived.Deep.Fields
import Derived.ChangeSame
set_option maxRecDepth 100000
set_option maxHeartbeats 1000000
namespace Go.Proofs.YtakgmnafbjdccaaGreatDoor
open Go Go.RowKit Go.Proofs Fl
theorem gmx_gok (d cl:Nat->Nat):∀ m,gmx d (fun j=>(cl j:Int)) m = !gok d cl m
 | 0=>rfl
 | m+1=>by
  have ih:=gmx_gok d cl m
  have e2:(((cl m:Nat):Int)==2)=(cl m==2):=same_nat (cl m) 2
  unfold gmx gok
  rw [ih,e2]
  show (_||_||_||!(((cl m:Nat):Int)==((cl 0:Nat):Int)))=_
  rw [same_nat]
  have e3:decide (0 < d m) = !(d m==0):=by
   by_cases h:d m=0
   ·simp [h]
   ·have:0 < d m:=by omega
    simp [h,this]
  rw [e3]
  show _ = !(gok d cl m&&(d m==0)&&!(cl m==2)&&(cl m==cl 0))
  cases gok d cl m <;> cases (d m==0) <;> cases (cl m==2) <;> cases (cl m==cl 0) <;> rfl
theorem rawBs_map:∀ l:List PA,rawBs l=l.map fun a=>RI.mk 2 0 0 [rawP a]
 | []=>by rw [rawBs];rfl
 | a::ar=>by rw [rawBs,rawBs_map ar];rfl
def itm0:PA->RI
 | .nums _ l => .mk 0 (l.getD 0 0) 0 []
 | .chars _ l => .mk 1 0 (l.getD 0 0) []
 | .boxes _ _=>default
theorem itm_num {a:PA} (h:a.fill=0):itm0 a= .mk 0 (num0 a) 0 []:=by
 cases a with
 | nums s l=>rfl
 | chars s l=>exact absurd h (by intro h;cases h)
 | boxes s l=>exact absurd h (by intro h;cases h)
theorem itm_chr {a:PA} (h:a.fill=1):itm0 a= .mk 1 0 (chr0 a) []:=by
 cases a with
 | nums s l=>exact absurd h (by intro h;cases h)
 | chars s l=>rfl
 | boxes s l=>exact absurd h (by intro h;cases h)
theorem raw_itm {a:PA} (h2:a.fill≠2) (h1:a.len=1):∃ s f,rawP a= .mk s [itm0 a] f:=by
 cases a with
 | nums s l =>
  have h1:l.length=1:=h1
  match l,h1 with
  | [x],_=>exact ⟨_,_,by rw [rawP];rfl⟩
 | chars s l =>
  have h1:l.length=1:=h1
  match l,h1 with
  | [x],_=>exact ⟨_,_,by rw [rawP];rfl⟩
 | boxes s l=>exact absurd rfl h2
theorem rgather_any (H:Nat->Prop) (sh:List Nat) (l:List PA) (h x:Sl) (w:World) (hH:∀ b,H b->b < w.heap.size) (hl:l.length<=1000000) (hx:PSl H w x (l.map rawP)) (hs:RdH H w (sv h) ((sh.map Int.ofNat).map (Value.int .i64)))
  (hone:∀ a∈l,a.shape.length=0->a.fill≠2->a.len=1) (hdl:∀ a∈l,a.shape.length<=1048576) :
  Calls Tryz.prog 24 #[sv h,sv x] w fun e w'=>∃ f,PlR H w (rawP (gatA sh l)) f e w':=by
 obtain ⟨A,m,c⟩:=x
 obtain rfl:m=l.length:=by have:=hx.1;rw [List.length_map] at this;exact this
 have hrow:∀ j,∃ (h y:Sl),j < l.length->∃ b o,A=some ⟨b,o,none⟩/\PV H w (rawP (l.getD j default)) h y ((l.getD j default).fill:Nat)/\∀ w1,Lat H w w1->At3 w1 b (o+j*3) h y ((l.getD j default).fill:Nat):=fun j=>by
  by_cases hj:j < l.length
  ·obtain ⟨b,o,h,y,f,e,_,hpv,hat⟩:=hx.at_ j (by rw [List.length_map];exact hj)
   rw [List.getElem_map,<- getD_at hj] at hpv
   have hf:f=((l.getD j default).fill:Nat):=by
    obtain ⟨items,e2,_⟩:=rawP_mk (l.getD j default)
    rw [e2] at hpv
    exact hpv.open_.2.1
   subst hf
   exact ⟨h,y,fun _=>⟨b,o,e,hpv,hat⟩⟩
  ·exact ⟨nilS,nilS,fun h=>absurd h hj⟩
 obtain ⟨hh,hrow⟩:=Classical.axiomOfChoice hrow
 obtain ⟨yy,hrow⟩:=Classical.axiomOfChoice hrow
 obtain ⟨b,o,hA⟩:∃ b o,0 < l.length->A=some ⟨b,o,none⟩:=by
  by_cases h0:0 < l.length
  ·obtain ⟨b,o,e,_⟩:=hrow 0 h0
   exact ⟨b,o,fun _=>e⟩
  ·exact ⟨0,0,fun h=>absurd h h0⟩
 have hpv:∀ j,j < l.length->PV H w (rawP (l.getD j default)) (hh j) (yy j) ((l.getD j default).fill:Nat):=fun j hj=>by
  obtain ⟨_,_,_,h,_⟩:=hrow j hj
  exact h
 have hat:∀ j,j < l.length->∀ W,Below w.heap.size w W->At3 W b (o+j*3) (hh j) (yy j) ((l.getD j default).fill:Nat):=fun j hj W hb=>by
  obtain ⟨b',o',e,_,h⟩:=hrow j hj
  rw [hA (by omega)] at e
  injection e with e
  injection e with e1 e2 _
  subst e1;subst e2
  exact h W (Lat.below hb)
 have hmem:∀ j,j < l.length->l.getD j default∈l:=fun j hj=>by rw [getD_at hj];exact List.getElem_mem hj
 have hlen:∀ j,j < l.length->(l.getD j default).shape.length=0->(l.getD j default).fill≠2->(l.getD j default).len=1:=fun j hj=>hone _ (hmem j hj)
 have hgm:gmx (fun j=>(l.getD j default).shape.length) (fun j=>((l.getD j default).fill:Nat)) l.length = !gokA l:=gmx_gok _ _ _
 have hw:=rgather_walk H (sh.map Int.ofNat) h A b o l.length c hh yy (fun j=>((l.getD j default).fill:Nat)) (fun j=>(l.getD j default).shape.length) (fun j=>rawP (l.getD j default)) (fun j=>itm0 (l.getD j default)) w hH hl hA hat
  (fun j hj=>by
   obtain ⟨items,e2,_⟩:=rawP_mk (l.getD j default)
   have h1:=hpv j hj
   rw [e2] at h1
   obtain ⟨a,c,e⟩:=RdH.len h1.open_.1
   unfold sv at e
   injection e with _ e _
   simpa using e)
  (fun j=>by
   by_cases hj:j < l.length
   ·exact hdl _ (hmem j hj)
   ·simp [List.getD,hj];decide) hpv
  (fun hno j hj=>by
   rw [hgm] at hno
   have ht:gokA l=true:=by simpa using hno
   obtain ⟨g2,g3,g4⟩:=gok_at (d:=fun j=>(l.getD j default).shape.length) (cl:=fun j=>(l.getD j default).fill) (m:=l.length) ht j hj
   obtain ⟨s1,f1,e1⟩:=raw_itm g3 (hlen j hj g2 g3)
   have h1:=hpv j hj
   rw [e1] at h1
   obtain ⟨_,_,h3,h4⟩:=h1.open_
   obtain ⟨b2,o2,k,n,c,y,e2,_,hiv,h5⟩:=h4 0 (Nat.lt_succ_self 0)
   refine ⟨b2,o2,0,(yy j).2.2,k,n,c,y,?_,hiv,fun W hb=>?_⟩
   ·generalize yy j=q at e2 h3 ⊢
    obtain ⟨ya,yn,yc⟩:=q
    have e2:ya=some ⟨b2,o2,none⟩:=e2
    have h3:yn=1:=h3
    subst e2
    subst h3
    rfl
   ·have:=h5 W (Lat.below hb)
    simpa using this) hs
 have e:rawP (gatA sh l)= .mk (sh.map Int.ofNat) ((List.range l.length).map fun j=>if gmx (fun j=>(l.getD j default).shape.length) (fun j=>((l.getD j default).fill:Int)) l.length=true then RI.mk 2 0 0 [rawP (l.getD j default)] else itm0 (l.getD j default))
   (if gmx (fun j=>(l.getD j default).shape.length) (fun j=>((l.getD j default).fill:Int)) l.length=true then 2 else if l.length=0 then 0 else ((l.getD 0 default).fill:Int)):=by
  rw [hgm]
  have hcase:gokA l=false\/gokA l=true:=by cases gokA l <;> simp
  rcases hcase with ht | ht
  ·unfold gatA
   rw [ht]
   simp only [Bool.not_false,↓reduceIte,Bool.false_eq_true]
   rw [rawP,rawBs_map,<- range_list l]
  ·have hg:=fun j hj=>gok_at (d:=fun j=>(l.getD j default).shape.length) (cl:=fun j=>(l.getD j default).fill) (m:=l.length) ht j hj
   unfold gatA
   rw [ht]
   simp only [Bool.not_true,↓reduceIte,Bool.false_eq_true]
   by_cases f0:(l.getD 0 default).fill=0
   ·rw [if_pos f0,rawP,f0]
    have e1:(List.range l.length).map (fun j=>itm0 (l.getD j default))=(l.map num0).map fun x=>RI.mk 0 x 0 []:=by
     rw [List.map_map,<- range_list l]
     exact List.map_congr_left fun j hj=>itm_num ((hg j (List.mem_range.1 hj)).2.2.trans f0)
    rw [e1]
    split <;> rfl
   ·have h0:¬ l.length=0:=fun h=>by
     have e0:l=[]:=List.eq_nil_of_length_eq_zero h
     subst e0
     exact f0 rfl
    have f1:(l.getD 0 default).fill=1:=by
     have h1:=fill_le (l.getD 0 default)
     have h2:=(hg 0 (by omega)).2.1
     omega
    rw [if_neg f0,rawP,if_neg h0,f1]
    have e1:(List.range l.length).map (fun j=>itm0 (l.getD j default))=(l.map chr0).map fun x=>RI.mk 1 0 x []:=by
     rw [List.map_map,<- range_list l]
     exact List.map_congr_left fun j hj=>itm_chr ((hg j (List.mem_range.1 hj)).2.2.trans f1)
    rw [e1]
    rfl
 rw [e]
 exact hw.mono fun _ _ hp=>⟨_,hp⟩
end Go.Proofs.YtakgmnafbjdccaaGreatDoor
namespace Go.Proofs.YtakgmnafbjdccaaGreatDoor
open Go Go.RowKit Go.Proofs Go.ChangeShapes Go.WideShapes Go.Deep
theorem one_le {H:Type} (d:DataW H):1<=Rows.uptoBulk d:=by
 cases d with
 | lit l=>cases l <;> simp [Rows.uptoBulk]
 | nil=>simp [Rows.uptoBulk]
 | ptr d=>simp [Rows.uptoBulk]
 | slice elems spare=>simp [Rows.uptoBulk]
 | agg parts=>simp [Rows.uptoBulk]
 | iface t d=>simp [Rows.uptoBulk]
 | map entries=>simp [Rows.uptoBulk]
 | held h=>simp [Rows.uptoBulk]
theorem bulk_len {H:Type} (l:List (DataW H)):l.length<=Rows.uptoBulkAll l:=by
 induction l with
 | nil=>simp [Rows.uptoBulkAll]
 | cons x r ih=>have:=one_le x;simp only [Rows.uptoBulkAll,List.length_cons];omega
theorem trodF {H:Type}{enc:TypeId×Value->H}{W:World}{sp:Nat->Bool}{held:Bool}{base n:Nat}{v:Value}{d:DataW H×List MemPlace}
  (h:DataW.trod enc Tryz.prog W base sp held n 51 [v]=some d):∃ b,v= .float .f64 b/\b < 18446744073709551616:=by
 cases n with
 | zero=>simp [DataW.trod] at h
 | succ n =>
  cases v <;> simp [DataW.trod,Tryz.underlying51] at h
  rename_i k b
  obtain ⟨h1,_⟩:=h
  obtain ⟨rfl,h2⟩:=h1
  exact ⟨b,rfl,by simpa [Lit.wf] using h2⟩
theorem slice_reads {H:Type}{enc:TypeId×Value->H}{W:World}{sp:Nat->Bool}{held:Bool}{base fuel:Nat}{t e:TypeId}{v:Value}{x:DataW H×List MemPlace}{α:Type} (g:α->Value) (z:α) (ht:Tryz.prog.underlying t=some (.slice e)) (hc:Tryz.prog.cellsOf e=1)
  (hg:∀ {n:Nat} {v:Value} {y:DataW H×List MemPlace},DataW.trod enc Tryz.prog W base sp held n e [v]=some y->∃ b,v=g b)
  (h:DataW.trod enc Tryz.prog W base sp held fuel t [v]=some x):∃ (l:List α) (s:Sl),v=sv s/\RdH (fun _=>False) W (sv s) (l.map g)/\l.length+1<=Rows.uptoBulk x.1:=by
 rcases open_slice1 ht hc h with ⟨hcs,rfl⟩ | ⟨a,n,c',m,k,V,D,Pl,hcs,_,hl,hm,hmm,rfl,hcell⟩
 ·obtain rfl:v= .slice none 0 0:=by simpa using hcs
  exact ⟨[],(none,0,0),rfl,fun _ _ _ => .inl ⟨none,0,rfl,rfl⟩,by simp [Rows.uptoBulk]⟩
 ·obtain rfl:v= .slice (some a) n c':=by simpa using hcs
  have hnm:n<=m:=by rw [hmm];split <;> omega
  by_cases h0:n=0
  ·subst h0;exact ⟨[],(some a,0,c'),rfl,fun _ _ _ => .inl ⟨_,_,rfl,rfl⟩,by simp only [List.length_nil];exact one_le _⟩
  have hfl:∀ i,∃ b,i < m->V i=g b:=fun i=>by
   by_cases hi:i < m
   ·obtain ⟨b,hb⟩:=hg (hcell i hi).2;exact ⟨b,fun _=>hb⟩
   ·exact ⟨z,fun h=>absurd h hi⟩
  obtain ⟨b,hb⟩:=Classical.axiomOfChoice hfl
  obtain ⟨bl,off,spot⟩:=a
  have hspot:spot=none:=by simpa [Addr.add] using World.cell?_spot (hcell 0 (by omega)).1
  subst hspot
  refine ⟨(List.range n).map b,(some ⟨bl,off,none⟩,n,c'),rfl,fun W' _ hb' => .inr ⟨bl,off,n,c',rfl,by simp,fun i hi=>?_⟩,?_⟩
  ·have hi':i < n:=by simpa using hi
   have:=(hcell i (by omega)).1
   have e:(⟨bl,off,none⟩:Addr).add i=⟨bl,off+i,none⟩:=by
    unfold Addr.add;split
    ·rename_i h0;subst h0;rfl
    ·rfl
   rw [e] at this
   rw [World.cell?_of_block (w:=W) (hb' bl (cell_lt this) (fun h=>h)),this,hb i (by omega)]
   simp
  ·have:=bulk_len ((List.range n).map D)
   simp only [Rows.uptoBulk]
   simp at this ⊢
   omega
theorem sum_bulk {H α:Type} (c:α->Nat):∀ (ts:List α) (ds:List (DataW H)),ts.length=ds.length->(∀ i (h:i < ts.length) (h2:i < ds.length),c ts[i]+1<=Rows.uptoBulk ds[i])->(ts.map c).sum+ts.length<=Rows.uptoBulkAll ds
 | [],_,_,_=>by simp
 | _::_,[],h,_=>by simp at h
 | t::ts,d::ds,hl,h=>by
  have h0:=h 0 (by simp) (by simp)
  have:=sum_bulk c ts ds (by simpa using hl) (fun i h1 h2=>by have:=h (i+1) (by simpa using h1) (by simpa using h2);simpa using this)
  simp only [List.map_cons,List.sum_cons,List.length_cons,Rows.uptoBulkAll]
  simp at h0
  omega
theorem cntIs_sum:∀ ts:List RI,cntIs ts=(ts.map cntI).sum
 | []=>by rw [cntIs];rfl
 | t::ts=>by rw [cntIs,cntIs_sum ts];simp
theorem cntPs_sum:∀ ts:List RP,cntPs ts=(ts.map cntP).sum
 | []=>by rw [cntPs];rfl
 | t::ts=>by rw [cntPs,cntPs_sum ts];simp
theorem fitIs_of:∀ (ts:List RI),(∀ i (h:i < ts.length),FitI ts[i])->FitIs ts
 | [],_=>by rw [FitIs];trivial
 | t::ts,h=>by
  rw [FitIs]
  exact ⟨by have:=h 0 (by simp);simpa using this,fitIs_of ts fun i hi=>by have:=h (i+1) (by simpa using hi);simpa using this⟩
theorem fitPs_of:∀ (ts:List RP),(∀ i (h:i < ts.length),FitP ts[i])->FitPs ts
 | [],_=>by rw [FitPs];trivial
 | t::ts,h=>by
  rw [FitPs]
  exact ⟨by have:=h 0 (by simp);simpa using this,fitPs_of ts fun i hi=>by have:=h (i+1) (by simpa using hi);simpa using this⟩
theorem c_int:Tryz.prog.cellsOf 3=1:=by kernel_rfl
theorem c_ints:Tryz.prog.cellsOf 22=1:=by kernel_rfl
theorem c_f64:Tryz.prog.cellsOf 51=1:=by kernel_rfl
theorem c_i32:Tryz.prog.cellsOf 21=1:=by kernel_rfl
theorem c_items:Tryz.prog.cellsOf 23=1:=by kernel_rfl
theorem c_plains:Tryz.prog.cellsOf 53=1:=by kernel_rfl
theorem c_plain:Tryz.prog.cellsOf 25=3:=by kernel_rfl
theorem c_item:Tryz.prog.cellsOf 55=4:=by kernel_rfl
theorem add_off (b o j:Nat):(⟨b,o,none⟩:Addr).add j=⟨b,o+j,none⟩:=by
 unfold Addr.add;split
 ·rename_i h0;subst h0;rfl
 ·rfl
mutual
theorem plain_open {H:Type}{enc:TypeId×Value->H}{W:World}{sp:Nat->Bool}{held:Bool}{base:Nat}:∀ (N fuel:Nat) (cs:List Value) (x:DataW H×List MemPlace),fuel<=N->DataW.trod enc Tryz.prog W base sp held fuel 25 cs=some x ->
  ∃ t h y f,cs=[sv h,sv y,.int .i64 f]/\PV (fun _=>False) W t h y f/\FitP t/\cntP t<=Rows.uptoBulk x.1
 | N,fuel,cs,x,hN,h=>by
  obtain ⟨xs,n,hfuel,rfl,hcl,hxl,hf⟩:=DataW.trod_struct Tryz.underlying25 h
  rw [c_plain] at hcl
  match cs,hcl,xs,hxl with
  | [v0,v1,v2],_,[y0,y1,y2],_ =>
   have h0:=hf 0 _ rfl
   have h1:=hf 1 _ rfl
   have h2:=hf 2 _ rfl
   simp only [List.getElem_toArray,List.getElem_cons_zero,List.getElem_cons_succ] at h0 h1 h2
   rw [c_ints] at h0
   rw [c_items] at h1
   rw [c_int] at h2
   simp at h0 h1 h2
   obtain ⟨k,e2,rfl,w2⟩:=DataW.trod_int Tryz.underlying3 h2
   obtain rfl:v2= .int .i64 k:=by simpa using e2
   obtain ⟨s,hs,rfl,rs,bs⟩:=slice_reads (Value.int .i64) 0 Tryz.underlying22 c_int (fun h=>by obtain ⟨b,hb,_⟩:=DataW.trod_int Tryz.underlying3 h;exact ⟨b,by simpa using hb⟩) h0
   rcases DataW.trod_slice Tryz.underlying23 h1 with ⟨hcs,rfl⟩ | ⟨a,len,cap,elems,rest,n',hn',hcs,rfl,_,hle,_,hel,hcell,_,_⟩
   ·obtain rfl:v1= .slice none 0 0:=by simpa using hcs
    refine ⟨.mk s [] k,hs,nilS,k,rfl,?_,?_,?_⟩
    ·rw [PV];exact ⟨rs,rfl,rfl,.inl ⟨rfl,trivial⟩⟩
    ·rw [FitP,FitIs];trivial
    ·simp only [cntP,cntIs,Rows.uptoBulk,List.map_cons,Rows.uptoBulkAll,List.length_nil];omega
   ·obtain rfl:v1= .slice (some a) len cap:=by simpa using hcs
    have hk:∀ i,∃ t,i < len->∃ k n c y d,elems[i]?=some d/\(∀ j,j < 4->W.cell? (a.add (i*4+j))=[Value.int .i64 k,.float .f64 n,.int .i32 c,sv y][j]?)/\IV (fun _=>False) W t k n c y/\FitI t/\cntI t+1<=Rows.uptoBulk d.1:=by
     intro i
     by_cases hi:i < len
     ·have:=hcell i hi
      have he:elems[i]?=some (elems[i]'(by omega)):=List.getElem?_eq_getElem (by omega)
      rw [he,c_item,Option.bind_eq_some_iff] at this
      obtain ⟨cs',hc1,hc2⟩:=this
      obtain ⟨t,k,n,c,y,rfl,q1,q2,q3⟩:=item_open (N - 1) n' cs' _ (by omega) hc2
      obtain ⟨_,_,hat⟩:=World.cells?_some hc1
      exact ⟨t,fun _=>⟨k,n,c,y,_,he,fun j hj=>by rw [<- Go.Deep.add_add];exact hat j hj,q1,q2,q3⟩⟩
     ·exact ⟨default,fun h=>absurd h hi⟩
    obtain ⟨T,hT⟩:=Classical.axiomOfChoice hk
    have hts:((List.range len).map T).length=len:=by simp
    have hsum:=sum_bulk cntI ((List.range len).map T) (elems.map (·.1)) (by simp [hel]) fun i h1 h2=>by
     have hi:i < len:=by simpa using h1
     obtain ⟨_,_,_,_,d,he,_,_,_,hs⟩:=hT i hi
     have he':elems[i]'(by omega)=d:=by rw [List.getElem?_eq_getElem (by omega)] at he;exact Option.some.inj he
     simp [he'];exact hs
    refine ⟨.mk s ((List.range len).map T) k,hs,(some a,len,cap),k,rfl,?_,?_,?_⟩
    ·by_cases h0:len=0
     ·subst h0
      rw [PV];exact ⟨rs,rfl,rfl,.inl ⟨rfl,trivial⟩⟩
     ·obtain ⟨_,_,_,_,_,_,hc0,_⟩:=hT 0 (by omega)
      obtain ⟨bl,off,spot⟩:=a
      have hspot:spot=none:=by have:=hc0 0 (by omega);simpa [Addr.add] using World.cell?_spot this
      subst hspot
      refine pv_of rs (by simp) fun i hi=>?_
      have hi':i < len:=by simpa using hi
      obtain ⟨k,n,c,y,d,_,hc,hr,_,_⟩:=hT i hi'
      refine ⟨bl,off,k,n,c,y,rfl,fun h=>h,by simpa using hr,?_,?_,?_,?_⟩
      ·have:=hc 0 (by omega);rw [add_off] at this;simpa using this
      ·have:=hc 1 (by omega);rw [add_off] at this;simpa [Nat.add_assoc] using this
      ·have:=hc 2 (by omega);rw [add_off] at this;simpa [Nat.add_assoc] using this
      ·have:=hc 3 (by omega);rw [add_off] at this;simpa [Nat.add_assoc] using this
    ·rw [FitP]
     refine fitIs_of _ fun i hi=>?_
     have hi':i < len:=by simpa using hi
     obtain ⟨_,_,_,_,_,_,_,_,hft,_⟩:=hT i hi'
     simpa using hft
    ·rw [hts,<- cntIs_sum] at hsum
     simp only [cntP,Rows.uptoBulk,List.map_cons,List.map_nil,Rows.uptoBulkAll,hts]
     omega
 termination_by N=>N
 decreasing_by omega
theorem item_open {H:Type}{enc:TypeId×Value->H}{W:World}{sp:Nat->Bool}{held:Bool}{base:Nat}:∀ (N fuel:Nat) (cs:List Value) (x:DataW H×List MemPlace),fuel<=N->DataW.trod enc Tryz.prog W base sp held fuel 55 cs=some x ->
  ∃ t k n c y,cs=[.int .i64 k,.float .f64 n,.int .i32 c,sv y]/\IV (fun _=>False) W t k n c y/\FitI t/\cntI t+1<=Rows.uptoBulk x.1
 | N,fuel,cs,x,hN,h=>by
  obtain ⟨xs,n,hfuel,rfl,hcl,hxl,hf⟩:=DataW.trod_struct Tryz.underlying55 h
  rw [c_item] at hcl
  match cs,hcl,xs,hxl with
  | [v0,v1,v2,v3],_,[y0,y1,y2,y3],_ =>
   have h0:=hf 0 _ rfl
   have h1:=hf 1 _ rfl
   have h2:=hf 2 _ rfl
   have h3:=hf 3 _ rfl
   simp only [List.getElem_toArray,List.getElem_cons_zero,List.getElem_cons_succ] at h0 h1 h2 h3
   rw [c_int] at h0
   rw [c_f64] at h1
   rw [c_i32] at h2
   rw [c_plains] at h3
   simp at h0 h1 h2 h3
   obtain ⟨k,e0,rfl,w0⟩:=DataW.trod_int Tryz.underlying3 h0
   obtain rfl:v0= .int .i64 k:=by simpa using e0
   obtain ⟨m,rfl,hm⟩:=trodF h1
   obtain ⟨c,e2,rfl,w2⟩:=DataW.trod_int Tryz.underlying21 h2
   obtain rfl:v2= .int .i32 c:=by simpa using e2
   rcases DataW.trod_slice Tryz.underlying53 h3 with ⟨hcs,rfl⟩ | ⟨a,len,cap,elems,rest,n',hn',hcs,rfl,_,hle,_,hel,hcell,_,_⟩
   ·obtain rfl:v3= .slice none 0 0:=by simpa using hcs
    refine ⟨.mk k m c [],k,m,c,nilS,rfl,iv_none _ W _ _ _ _ _,?_,?_⟩
    ·rw [FitI,FitPs];exact ⟨hm,trivial⟩
    ·simp only [cntI,cntPs,Rows.uptoBulk,List.map_cons,Rows.uptoBulkAll];omega
   ·obtain rfl:v3= .slice (some a) len cap:=by simpa using hcs
    have hk:∀ i,∃ t,i < len->∃ h y f d,elems[i]?=some d/\(∀ j,j < 3->W.cell? (a.add (i*3+j))=[sv h,sv y,Value.int .i64 f][j]?)/\PV (fun _=>False) W t h y f/\FitP t/\cntP t<=Rows.uptoBulk d.1:=by
     intro i
     by_cases hi:i < len
     ·have:=hcell i hi
      have he:elems[i]?=some (elems[i]'(by omega)):=List.getElem?_eq_getElem (by omega)
      rw [he,c_plain,Option.bind_eq_some_iff] at this
      obtain ⟨cs',hc1,hc2⟩:=this
      obtain ⟨t,h,y,f,rfl,q1,q2,q3⟩:=plain_open (N - 1) n' cs' _ (by omega) hc2
      obtain ⟨_,_,hat⟩:=World.cells?_some hc1
      exact ⟨t,fun _=>⟨h,y,f,_,he,fun j hj=>by rw [<- Go.Deep.add_add];exact hat j hj,q1,q2,q3⟩⟩
     ·exact ⟨default,fun h=>absurd h hi⟩
    obtain ⟨T,hT⟩:=Classical.axiomOfChoice hk
    have hts:((List.range len).map T).length=len:=by simp
    have hsum:=sum_bulk (fun t=>cntP t - 1) ((List.range len).map T) (elems.map (·.1)) (by simp [hel]) fun i h1 h2=>by
     have hi:i < len:=by simpa using h1
     obtain ⟨_,_,_,d,he,_,_,_,hs⟩:=hT i hi
     have he':elems[i]'(by omega)=d:=by rw [List.getElem?_eq_getElem (by omega)] at he;exact Option.some.inj he
     have:=cntP_pos (T i)
     simp [he'];omega
    have hsum2:cntPs ((List.range len).map T)<=Rows.uptoBulkAll (elems.map (·.1)):=by
     rw [cntPs_sum]
     refine Nat.le_trans ?_ hsum
     generalize (List.range len).map T=ts
     induction ts with
     | nil=>simp
     | cons t ts ih=>simp only [List.map_cons,List.sum_cons,List.length_cons];omega
    refine ⟨.mk k m c ((List.range len).map T),k,m,c,(some a,len,cap),rfl,?_,?_,?_⟩
    ·by_cases h0:len=0
     ·subst h0;exact iv_none _ W _ _ _ _ _
     ·obtain ⟨_,_,_,_,_,hc0,_⟩:=hT 0 (by omega)
      obtain ⟨bl,off,spot⟩:=a
      have hspot:spot=none:=by have:=hc0 0 (by omega);simpa [Addr.add] using World.cell?_spot this
      subst hspot
      rw [IV]
      refine ⟨rfl,rfl,rfl,by simp,.inr ⟨bl,off,rfl,fun h=>h,pvs_of _ _ fun i hi=>?_⟩⟩
      have hi':i < len:=by simpa using hi
      obtain ⟨h,y,f,d,_,hc,hr,_,_⟩:=hT i hi'
      refine ⟨h,y,f,⟨?_,?_,?_⟩,by simpa using hr⟩
      ·have:=hc 0 (by omega);rw [add_off] at this;simpa using this
      ·have:=hc 1 (by omega);rw [add_off] at this;simpa [Nat.add_assoc] using this
      ·have:=hc 2 (by omega);rw [add_off] at this;simpa [Nat.add_assoc] using this
    ·rw [FitI]
     refine ⟨hm,fitPs_of _ fun i hi=>?_⟩
     have hi':i < len:=by simpa using hi
     obtain ⟨_,_,_,_,_,_,_,hft,_⟩:=hT i hi'
     simpa using hft
    ·simp only [cntI,Rows.uptoBulk,List.map_cons,List.map_nil,Rows.uptoBulkAll]
     omega
 termination_by N=>N
 decreasing_by omega
end
end Go.Proofs.YtakgmnafbjdccaaGreatDoor
