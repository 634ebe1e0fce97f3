/- The walk of hash.mix. An array's elements as items of its plain array, and their keys; plain. The walk of squeeze.Numbers at numbers tidy or not. A row of .. Conditions: as each theorem says. -/
import Derived.Test.YtdelgpelkfndeaaGreatDoorMgA
import Derived.Test.YtdelgpelkfndeaaGreatDoorMg03
import Derived.Test.YtdelgpelkfndeaaGreatDoorMg07
import Derived.Test.YtdelgpelkfndeaaGreatDoorMg05
import Derived.Test.YtdelgpelkfndeaaGreatDoorMg08
import Derived.Test.YtdelgpelkfndeaaGreatDoorMg09
set_option maxRecDepth 100000
set_option maxHeartbeats 4000000
namespace Go.Proofs.YtdelgpelkfndeaaGreatDoor
open Go Go.RowKit Go.Proofs Fl
def mixZ (h x:Int):Int:=bits .xor .u64 (IntKind.u64.wrap (bits .xor .u64 h x*11400714819323198485)) (IntKind.u64.wrap (bits .xor .u64 h x*11400714819323198485) / 536870912)
theorem Qfk (h x:Int):0<=mixZ h x/\mixZ h x < 18446744073709551616:=by
 unfold mixZ
 show 0<=IntKind.u64.wrap _/\IntKind.u64.wrap _ < _
 rw [IntKind.wrap_u64]
 omega
theorem Qfl (h x:Int) (w:World) :
  Calls Tryz.prog 227 #[.int .u64 h,.int .u64 x] w fun e w'=>e= .returned (.int .u64 (mixZ h x))/\w'=w:=by
 go_enter Tryz.func227,Tryz.ntmps227
 go_wp2
 go_ret
 exact ⟨rfl,rfl⟩
def elA:PA->Nat->RI
 | .nums _ l,i => .mk 0 (l.getD i 0) 0 []
 | .chars _ l,i => .mk 1 0 (l.getD i 0) []
 | .boxes _ l,i => .mk 2 0 0 [rawP (l.getD i default)]
def RP.shp:RP->List Int
 | .mk s _ _=>s
def RP.its:RP->List RI
 | .mk _ l _=>l
def RP.fil:RP->Int
 | .mk _ _ f=>f
theorem QbO (a:PA):(rawP a).shp=a.shape.map Int.ofNat:=by cases a <;> simp [rawP,RP.shp,PA.shape]
theorem QdJ (a:PA):(rawP a).fil=(a.fill:Int):=by cases a <;> simp [rawP,RP.fil,PA.fill]
theorem Qbt (a:PA):(rawP a).its.length=a.len:=by
 cases a with
 | nums s l=>simp [rawP,RP.its,PA.len]
 | chars s l=>simp [rawP,RP.its,PA.len]
 | boxes s l=>rw [rawP,RP.its,Qbe];rfl
theorem Qb8 {a:PA}{i:Nat} (hi:i < a.len):(rawP a).its.getD i default=elA a i:=by
 cases a with
 | nums s l =>
  have h:i < l.length:=hi
  simp [rawP,RP.its,elA,List.getD,h]
 | chars s l =>
  have h:i < l.length:=hi
  simp [rawP,RP.its,elA,List.getD,h]
 | boxes s l =>
  have h:i < l.length:=hi
  have h2:i < (Qbs l).length:=by rw [Qbe];exact h
  rw [rawP,RP.its,elA,List.getD_eq_getElem?_getD,List.getElem?_eq_getElem h2,Option.getD_some,QcY h h2]
  simp [List.getD,h]
theorem Qcl (t:RP):t= .mk t.shp t.its t.fil:=by cases t;rfl
theorem Qtj {a b:PA} (hl:a.len=b.len) (h:∀ i,i < a.len->elA a i=elA b i):(rawP a).its=(rawP b).its:=by
 apply List.ext_getElem
 ·rw [Qbt,Qbt,hl]
 ·intro i h1 h2
  have h3:i < a.len:=by rw [<- Qbt];exact h1
  have h4:i < b.len:=by omega
  have e1:=Qb8 h3
  have e2:=Qb8 h4
  rw [List.getD_eq_getElem?_getD,List.getElem?_eq_getElem h1,Option.getD_some] at e1
  rw [List.getD_eq_getElem?_getD,List.getElem?_eq_getElem h2,Option.getD_some] at e2
  rw [e1,e2,h i h3]
theorem QdK:∀ {s t:List Nat},s.map Int.ofNat=t.map Int.ofNat->s=t
 | [],[],_=>rfl
 | [],_::_,h=>by simp at h
 | _::_,[],h=>by simp at h
 | a::s,b::t,h=>by
  simp only [List.map_cons,List.cons.injEq] at h
  rw [QdK h.2,Int.ofNat.inj h.1]
theorem QgU (a b:PA):rawP a=rawP b↔a.shape=b.shape/\a.fill=b.fill/\a.len=b.len/\∀ i,i < a.len->elA a i=elA b i:=by
 constructor
 ·intro h
  have h1:a.len=b.len:=by rw [<- Qbt,<- Qbt,h]
  refine ⟨QdK (by rw [<- QbO,<- QbO,h]),?_,h1,fun i hi=>by rw [<- Qb8 hi,<- Qb8 (by omega),h]⟩
  have:=QdJ a
  rw [h,QdJ] at this
  omega
 ·rintro ⟨h1,h2,h3,h4⟩
  rw [Qcl (rawP a),Qcl (rawP b),QbO,QbO,QdJ,QdJ,h1,h2,Qtj h3 h4]
noncomputable def eqI (x y:RI):Bool:=@decide (x=y) (Classical.propDecidable _)
noncomputable def eqR (x y:RP):Bool:=@decide (x=y) (Classical.propDecidable _)
theorem eqI_iff {x y:RI}:eqI x y=true↔x=y:=@decide_eq_true_iff _ (Classical.propDecidable _)
theorem eqR_iff {x y:RP}:eqR x y=true↔x=y:=@decide_eq_true_iff _ (Classical.propDecidable _)
theorem eqI_no {x y:RI}:eqI x y=false↔x≠y:=@decide_eq_false_iff_not _ (Classical.propDecidable _)
theorem eqR_no {x y:RP}:eqR x y=false↔x≠y:=@decide_eq_false_iff_not _ (Classical.propDecidable _)
mutual
def keyP:RP->Int
 | .mk s items fill=>QcA (s.foldl (fun h d=>mixZ h (IntKind.u64.wrap d)) (mixZ 3 (IntKind.u64.wrap fill))) items
def QcA:Int->List RI->Int
 | h,[]=>h
 | h,t::ts=>QcA (mixZ h (keyI t)) ts
def keyI:RI->Int
 | .mk kind num char box=>if kind=1 then mixZ 1 (char % 4294967296) else if kind=2 then keyB box else mixZ 2 num
def keyB:List RP->Int
 | []=>0
 | t::_=>keyP t
end
theorem Qf8:∀ (l:List RI) (h:Int) (t:RI),QcA h (l++[t])=mixZ (QcA h l) (keyI t)
 | [],h,t=>by rw [List.nil_append,QcA,QcA,QcA]
 | a::ar,h,t=>by rw [List.cons_append,QcA,Qf8 ar,QcA]
theorem QkU {l:List RI}{i:Nat} (hi:i < l.length) (h:Int):QcA h (l.take (i+1))=mixZ (QcA h (l.take i)) (keyI (l.getD i default)):=by
 rw [List.take_add_one,List.getElem?_eq_getElem hi,Option.toList_some,Qf8,List.getD_eq_getElem?_getD,List.getElem?_eq_getElem hi,Option.getD_some]
def InK (z:Int):Prop:=0<=z/\z < 18446744073709551616
theorem Qj4:∀ (l:List RI) (h:Int),InK h->InK (QcA h l)
 | [],h,g=>by rw [QcA];exact g
 | t::ts,h,_=>by rw [QcA];exact Qj4 ts _ (Qfk _ _)
theorem Qj5:∀ (l:List Int) (h:Int),InK h->InK (l.foldl (fun h d=>mixZ h (IntKind.u64.wrap d)) h)
 | [],_,g=>g
 | _::ts,_,_=>Qj5 ts _ (Qfk _ _)
theorem QrE:∀ t:RP,InK (keyP t)
 | .mk s items fill=>by rw [keyP];exact Qj4 _ _ (Qj5 _ _ (Qfk _ _))
theorem QmI:∀ t:RI,InK (keyI t)
 | .mk kind num char box=>by
  rw [keyI]
  split
  ·exact Qfk _ _
  ·split
   ·cases box with
    | nil=>rw [keyB];exact ⟨by decide,by decide⟩
    | cons t ts=>rw [keyB];exact QrE t
   ·exact Qfk _ _
theorem QkV {l:List Int}{i:Nat} (hi:i < l.length) (f:Int->Int->Int) (h:Int):(l.take (i+1)).foldl f h=f ((l.take i).foldl f h) l[i]:=by
 rw [List.take_add_one,List.getElem?_eq_getElem hi,Option.toList_some,List.foldl_append]
 rfl
theorem Qdi (H:Nat->Prop) (v:Value) (n:Nat) (F0:Nat->Nat) (w:World) (hH:∀ b,H b->b < w.heap.size) (hr:Reads1 w v ((List.range n).map fun j => .float .f64 (F0 j))) (hn:n<=1000000) (hF:∀ j,j < n->F0 j < 18446744073709551616) (hok:∀ j,j < n->okF (F0 j)=true) :
  Calls Tryz.prog 67 #[v] w (QkD H w (fun u W=>NumV u (leastF (fun j=>tidF (F0 j)) n:Nat) n (fun j=>tidF (F0 j)) W)):=by
 obtain ⟨F,hFF⟩:∃ F,F=fun j=>tidF (F0 j):=⟨_,rfl⟩
 have ht:∀ j,j < n->TF (F j):=fun j hj=>by rw [hFF];exact Qqn (hok j hj) (hF j hj)
 have HF:Hid (Calls Tryz.prog 116 #[v] (w.alloc (.cells zcells 39)) fun e w'=>∃ a m c,e= .returned (.tuple #[vecV 4 vnil 0 vnil vnil (.slice a m c) vnil vnil,.bool true])/\Own1 w' (w.alloc (.cells zcells 39)).heap.size 60 (.slice a m c) ((List.range n).map fun j => .float .f64 (F j))/\Below (w.alloc (.cells zcells 39)).heap.size (w.alloc (.cells zcells 39)) w'):=by
  refine (QkL (hr.below (bel1 w (.cells zcells 39))) hn hF).mono ?_
  rintro e w' (⟨_,a,m,c,rfl,ho,hb⟩ | ⟨⟨j,hj,hbad⟩,_⟩)
  ·rw [hFF];exact ⟨a,m,c,rfl,ho,hb⟩
  ·rw [hok j hj] at hbad;cases hbad
 rw [<- hFF]
 have HT:=hD ht
 have HH:=hD hH
 obtain ⟨v1,v2,v3,rfl⟩:∃ a m c,v= .slice a m c:=by obtain ⟨a,c,e⟩:=hr.len;exact ⟨a,_,c,e⟩
 clear hr ht hH hFF hF hok
 go_enter Tryz.func67,Tryz.ntmps67
 go_wp2_with fail
 refine HF.out.mono ?_
 rintro e w1 ⟨a,m,c,rfl,ho,hb1⟩
 have HK1:=hD (Qar hb1)
 have HB1:=hD (Qaa (bel1 w _) hb1)
 have HO:=hD (ho.lower (show w.heap.size+1<=_ by simp))
 clear hb1 ho
 have HB2:=hD (Qaa HB1.out (bel1 w1 (.cells #[.int .i64 4,vnil,.int .i64 0,vnil,vnil,.slice a m c,vnil,vnil] 39)))
 have HK2:=hD ((Below.heap_alloc w1 (.cells #[.int .i64 4,vnil,.int .i64 0,vnil,vnil,.slice a m c,vnil,vnil] 39) _ (lt_of_block HK1.out)).trans HK1.out)
 have HKV:Hid (Keeps (fun j=>H j\/j=w.heap.size) (w1.alloc (.cells #[.int .i64 4,vnil,.int .i64 0,vnil,vnil,.slice a m c,vnil,vnil] 39)) (NumV (vecW 4 (none,0,0) 0 (none,0,0) (none,0,0) (a,m,c) (none,0,0) (none,0,0)) 4 n F)) :=
  ((HO.out.keepsH (fun j e=>by rcases e with e | e;have:=HH.out j e;omega;omega)).imp fun W' h2=>Qe3 ⟨⟨_,rfl,h2⟩,HT.out⟩).step (bel1 w1 _)
 have HS:=hD (Qcv (fun j=>H j\/j=w.heap.size) 4 (none,0,0) 0 (none,0,0) (none,0,0) (a,m,c) (none,0,0) (none,0,0) n F _ (fun j e=>by
  have h1:=HB2.out.size
  have h2:=lt_of_block HK2.out
  rcases e with e | e
  ·have:=HH.out j e;omega
  ·omega) hn HKV.out)
 go_wp2_with fail
 refine HS.out.mono ?_
 rintro e w3 ⟨k4,b4,bn4,s4,i4,f4,c4,x4,rfl,hk4,hb4⟩
 have HB4:=hD (Qaa HB2.out hb4)
 have HK4:=hD (show w3.heap[w.heap.size]?=some (.cells zcells 39) by rw [hb4.block _ (lt_of_block HK2.out)];exact HK2.out)
 have HKE:=hD hk4
 clear hb4 hk4
 obtain ⟨⟨h0,h1,h2,h3,h4,h5,h6,h7⟩,hz⟩:=Qag HK4.out
 go_wp2
 refine bodyPost_ret (v := .tuple #[vecW k4 b4 bn4 s4 i4 f4 c4 x4,.bool true]) ?_ rfl ⟨k4,b4,bn4,s4,i4,f4,c4,x4,rfl,(HKE.out.set8 (.inr rfl) _ _ _ _ _ _ _ _).sub (fun _ _ e => .inl e),Qac HB4.out (Nat.le_refl _) _ _ _ _ _ _ _ _⟩
 exact Qas (fn:=Tryz.f67) (p:=2) (u:=3) rfl _ _ w.heap.size (by rfl) (Qad HK4.out _ _ _ _ _ _ _ _)
abbrev Qec:Array Value:=#[.slice none 0 0,.int .i64 0,.slice none 0 0,.int .i64 0,.slice none 0 0,.slice none 0 0,.slice none 0 0,.slice none 0 0,.slice none 0 0]
end Go.Proofs.YtdelgpelkfndeaaGreatDoor
namespace Go.Proofs.YtdelgpelkfndeaaGreatDoor
open Go Go.RowKit Go.Proofs Fl Go.Shelf Go.Lib
def AvR (H:Nat->Prop) (w:World) (a:PA) (e:Ending) (w':World):Prop:=∃ h p,e= .returned (.tuple #[arrV h p,.int .i64 0])/\AV H w' a h p/\Below w.heap.size w w'
theorem Qpm:(Tryz.prog.info? 3).map (fun i=>(i.zero,i.size,i.bytes))=some (some (.int .i64 0),1,8):=by kernel_rfl
def QrF:Go.Shelf.Ren:=⟨fun | 41=>107 | n=>n,fun | 22=>22 | 23=>3 | 4=>4 | n=>n,fun n=>n⟩
theorem Qpn:SlLaysE0.n41 Tryz.prog QrF where
 mixed:=by kernel_rfl
 f41 := ⟨"slices.Clone[[]int,int]", by decide, Tryz.func107.trans (congrArg some (by kernel_rfl))⟩
 t4:=Tryz.underlying4
 a4:=Tryz.isAgg4
 z4:=Tryz.sizeOf4
 v4:=Tryz.zeroValue4
 t22:=Tryz.underlying22
 a22:=Tryz.isAgg22
 z22:=Tryz.sizeOf22
 v22:=Tryz.zeroValue22
theorem QrG {w:World}{v:Value}{xs:List Value} (h:Reads1 w v xs) (hl:xs.length*8<=140737488355328) (h1:∀ u∈xs,u.oneCell'=true) :
  Calls Tryz.prog 107 #[v] w fun e w'=>∃ v',e= .returned v'/\Own1 w' w.heap.size 3 v' xs/\Below w.heap.size w w' :=
 Qcq Qpn (.int .i64 0) 8 Qpm rfl Tryz.sizeOf3 h (by omega) (by omega) h1
theorem QeK {H:Nat->Prop}{w:World}{h:Sl}{s:List Nat} (g:ShV H w h s) (hl:s.length<=1048576) (hH:∀ b,H b->b < w.heap.size) :
  Calls Tryz.prog 107 #[sv h] w fun e w'=>∃ A n c,e= .returned (.slice A n c)/\ShV H w' (A,n,c) s/\Below w.heap.size w w':=by
 refine (QrG g.now (by rw [List.length_map];omega) (by intro u hu;obtain ⟨z,_,rfl⟩:=List.mem_map.1 hu;rfl)).mono ?_
 rintro e w' ⟨v',rfl,ho,hb⟩
 obtain ⟨a,c,rfl⟩:=ho.reads.len
 exact ⟨a,_,c,rfl,ho.keepsH hH,hb⟩
theorem QaW {ops:Array Oper}{rest:List Oper}{o:Oper}{a:Act}{Q:Exit->Act->World->Prop}{w:World} (hgd:o.guard=none) (s x:Operand) (t e:TypeId)
  (ho:o.op= .call { callee := .builtin .append,args:=#[s,x],argTypes:=#[t,t]}) (ht:Tryz.prog.underlying t=some (.slice e)) (z:Value) (bytes:Nat)
  (hinfo:(Tryz.prog.info? e).map (fun i=>(i.zero,i.size,i.bytes))=some (some z,1,bytes)) (hz:z.cells.size=1)
  (B:Nat) (v:Value) (xs:List Value) (hs:a.eval s=v) (hown:Own1 w B e v xs) (c:Value) (hc1:c.oneCell'=true)
  (G:Nat) (hG:G=w.heap.size) (hx:a.eval x= .slice (some ⟨G,0,none⟩) 1 1) (hl:(xs.length+1)*bytes<=140737488355328) (hl2:xs.length+1<=140737488355328) (hB:B<=w.heap.size)
  (h:∀ v' w',Own1 w' B e v' (xs++[c])->(∀ w0,Below B w0 w->Below B w0 w')->wpList Tryz.prog ops Q rest (a.put o.dst v') w'):wpList Tryz.prog ops Q (o::rest) a (w.alloc (.cells #[c] e)):=by
 subst hG
 exact Qhl hgd s x t e ho ht z bytes hinfo hz B v xs hs hown c hc1 hx hl hl2 hB fun v' w' h1 h2 _ _=>h v' w' h1 h2
theorem Lat.set9 {H:Nat->Prop}{w:World}{G:Nat} (hG:H G) (a0 a1 a2 a3 a4 a5 a6 a7 a8:Value):Lat H w (set9 w G a0 a1 a2 a3 a4 a5 a6 a7 a8) :=
 (((((((((Lat.set (a:=⟨G,0,none⟩) hG a0).trans (Lat.set (a:=⟨G,1,none⟩) hG a1)).trans (Lat.set (a:=⟨G,2,none⟩) hG a2)).trans (Lat.set (a:=⟨G,3,none⟩) hG a3)).trans (Lat.set (a:=⟨G,4,none⟩) hG a4)).trans (Lat.set (a:=⟨G,5,none⟩) hG a5)).trans (Lat.set (a:=⟨G,6,none⟩) hG a6)).trans (Lat.set (a:=⟨G,7,none⟩) hG a7)).trans (Lat.set (a:=⟨G,8,none⟩) hG a8))
structure OfI (w:World) (h x:Sl) (f:Int) (W:World):Prop where
 res:W.heap[w.heap.size+1]?=some (.cells Qec 41)
 arg:At3 W w.heap.size 0 h x f
 bel:Below w.heap.size w W
theorem OfI.step {w W W':World}{h x:Sl}{f:Int} (g:OfI w h x f W) (hb:Below W.heap.size W W'):OfI w h x f W' :=
 ⟨by rw [hb.block _ (lt_blk g.res)];exact g.res,g.arg.of fun j=>hb.cell (p:=⟨w.heap.size,j,none⟩) g.arg.lt,Qaa g.bel hb⟩
theorem OfI.more {w W W':World}{h x:Sl}{f:Int} (g:OfI w h x f W) (hb:Below (w.heap.size+2) W W'):OfI w h x f W' :=
 ⟨by rw [hb.block _ (by omega)];exact g.res,g.arg.of fun j=>hb.cell (p:=⟨w.heap.size,j,none⟩) (by show w.heap.size < _;omega),g.bel.trans (hb.mono (by omega))⟩
theorem OfI.sz {w W:World}{h x:Sl}{f:Int} (g:OfI w h x f W):w.heap.size+2<=W.heap.size:=lt_blk g.res
theorem OfI.new (w:World) (h x:Sl) (f:Int):OfI w h x f ((w.alloc (.cells #[sv h,sv x,.int .i64 f] 25)).alloc (.cells Qec 41)):=by
 have h2:=heap_alloc_new (w.alloc (.cells #[sv h,sv x,.int .i64 f] 25)) (.cells Qec 41)
 have s1:(w.alloc (.cells #[sv h,sv x,.int .i64 f] 25)).heap.size=w.heap.size+1:=by simp
 rw [s1] at h2
 have h3:=Qb7 w h x f 25
 exact ⟨h2,h3.of fun j=>(bel1 _ _).cell (p:=⟨w.heap.size,j,none⟩) h3.lt,bel2 w _ _⟩
theorem Qam {W:World}{G:Nat}{e:TypeId} (h:W.heap[G]?=some (.cells Qec e)):At9 W G 0 nilS zeroP/\∀ j,W.frozen? ⟨G,j,none⟩=false:=QjV (h:=nilS) (p:=zeroP) h
theorem QmJ:tidF 0=0:=by decide+kernel
theorem Qpo (items:List RI):(fun j=>tidF ((items.map RI.numOf).getD j 0))=fun j=>(items.map fun t=>tidF t.numOf).getD j 0:=by
 funext j
 by_cases h:j < items.length
 ·simp [List.getD,h]
 ·simp [List.getD,h,QmJ]
theorem QrH {H:Nat->Prop}{W:World}{sn:List Nat}{items:List RI}{hd:Sl}{p:V8}{m:Nat} (hm:m=items.length) (hs:ShV H W hd sn)
  (hk:Keeps H W (NumV p.v (leastF (fun j=>tidF ((items.map RI.numOf).getD j 0)) m:Nat) m (fun j=>tidF ((items.map RI.numOf).getD j 0)))):AV H W (clP (.mk (sn.map Int.ofNat) items 0)) hd p:=by
 have e:=hk.now.kindEq
 rw [clP,Qb4,if_pos rfl,AV]
 subst hm
 rw [Qpo] at hk e
 refine ⟨hs,.inl ⟨?_,?_⟩⟩
 ·rw [List.length_map]
  rw [<- e] at hk
  exact hk
 ·rw [List.length_map]
  exact e
theorem Qpp {H:Nat->Prop}{W:World}{sn:List Nat}{items:List RI}{hd c:Sl} (hs:ShV H W hd sn) (hk:RdH H W (sv c) ((items.map RI.charOf).map (Value.int .i32))):AV H W (clP (.mk (sn.map Int.ofNat) items 1)) hd (Qep c):=by
 rw [clP,Qb4,if_neg (by decide),if_pos rfl,AV]
 exact ⟨hs,c,rfl,hk⟩
end Go.Proofs.YtdelgpelkfndeaaGreatDoor
namespace Go.Proofs.YtdelgpelkfndeaaGreatDoor
open Go Go.RowKit Go.Proofs Fl
theorem of_0 (H:Nat->Prop) (d:Nat) (hd:d<=40) (sn:List Nat) (items:List RI) (h x:Sl) (w:World) (hH:∀ b,H b->b < w.heap.size) (hok:OkIs (d+1) 0 items) (hsn:OkSh sn items.length) (hM:cntP (.mk (sn.map Int.ofNat) items 0)<=1000000) (hr:PV H w (.mk (sn.map Int.ofNat) items 0) h x 0) :
  Calls Tryz.prog 69 #[plV h x 0,.int .i64 ((d+1:Nat):Int)] w (AvR H w (clP (.mk (sn.map Int.ofNat) items 0))):=by
 obtain ⟨hsr,_,hx,hit⟩:=hr.open_
 obtain ⟨A,m,cc⟩:=x
 dsimp only at hx hit
 have hsz:cntP (.mk (sn.map Int.ofNat) items 0)=items.length+(sn.map Int.ofNat).length+1+QaH items:=by rw [cntP]
 rw [hsz,List.length_map] at hM
 have hsh:ShV H w h sn:=by rw [List.map_map] at hsr;exact hsr
 have HK:=hD hit
 have HMI:=hD hx
 have HSH:=hD hsh
 have hmb:m<=1000000:=by omega
 have HOKI:Hid (∀ i (hi:i < items.length),OkI (d+1) 0 items[i]):=fun i hi=>QcK hi hok
 have hpe:QbX sn 1048576=((m:Int),0):=by rw [hx];exact QdE hsn (by omega)
 have HPR:Hid (∀ W,Below w.heap.size w W->Calls Tryz.prog 119 #[sv h,.int .i64 1048576] W fun e w'=>e= .returned (.tuple #[.int .i64 (m:Int),.int .i64 0])/\W=w'):=fun W hb=>by
  have h1:=Qcy (sv h) sn 1048576 W (hsh.step hb).now (by omega)
  rw [hpe] at h1
  exact h1
 have HI0:=hD (OfI.new w h (A,m,cc) 0)
 obtain ⟨z,hz⟩:∃ z:Int,z=((d+1:Nat):Int):=⟨_,rfl⟩
 rw [<- hz]
 have hz0:(z==0)=false:=by simp;omega
 have hne:((m:Int) != (m:Int))=false:=by simp
 have HLN:Hid (sn.length<=1048576):=by unfold Hid;omega
 clear hz hx hsz hM hit hok hsr hr hsn hpe hsh hd
 go_enter Tryz.func69,Tryz.ntmps69
 obtain ⟨c0,c1,c2⟩:=HI0.out.arg
 dsimp only [sv] at c1
 go_wp2_with fail
 refine (HPR.out _ HI0.out.bel).mono ?_
 rintro e w1 ⟨rfl,rfl⟩
 generalize hW:(w.alloc (.cells #[sv h,.slice A m cc,.int .i64 0] 25)).alloc (.cells Qec 41)=W at *
 clear hW HPR
 go_wp2
 clear c0 c1 c2
 go_loopw [8,49] (fun v iv wr=>∃ (i:Nat) (vA:Option Addr) (vn vc:Nat),i<=m/\iv= .int .i64 (i:Int)/\v= .slice vA vn vc/\Own1 wr (w.heap.size+2) 60 (.slice vA vn vc) ((items.take i).map fun t => .float .f64 t.numOf)/\OfI w h (A,m,cc) 0 wr) (fun _ iv _=>m - (intOf iv).toNat)
 case atStart=>exact ⟨0,none,0,0,Nat.zero_le _,rfl,rfl,Own1.nil _ _ _,HI0.out⟩
 case round =>
  obtain ⟨i,vA,vn,vc,hi,rfl,rfl,hown,hofi⟩:=hrel
  have HOWN:=hD hown
  have HOF:=hD hofi
  obtain ⟨c0,c1,c2⟩:=hofi.arg
  dsimp only [sv] at c1
  clear hown hofi
  by_cases him:i < m
  ·have him2:(i:Int) < (m:Int):=by omega
   have hik:i < items.length:=by have:=HMI.out;omega
   obtain ⟨b,o,k',n',c',y,rfl,-,hiv,hat⟩:=HK.out i hik
   have HTK:Hid (items.take (i+1)=items.take i++[items[i]]):=List.take_succ_eq_append_getElem hik
   have HOI:=hD (HOKI.out i hik)
   have hlb:(items.take i).length<=1000000:=by rw [List.length_take];omega
   have HLB:=hD hlb
   clear hlb
   generalize items[i]=it at hiv HTK HOI
   cases it with
   | mk kind num char box =>
   obtain ⟨rfl,rfl,rfl,hy,hbx⟩:=hiv.open_
   obtain ⟨yA,ym,yc⟩:=y
   obtain ⟨d0,d1,d2,d3⟩:=hat wr (Lat.below HOF.out.bel)
   dsimp only [sv] at d3
   have hk0:=HOI.out
   rw [OkI] at hk0
   obtain ⟨rfl,hkn,hkb⟩:=hk0
   have hst:=fun md=>QaK wr 0 0 n' 0 (.slice none 0 0) 63 md
   have g0:=fun o=>Qab c0 o
   have g1:=fun o=>Qab c1 o
   have g2:=fun o=>Qab c2 o
   clear hy hbx hat hiv hkn hkb
   obtain ⟨XB,hXB⟩:∃ XB:Obj,XB= .cells #[.int .i64 0,.float .f64 n',.int .i32 c',.slice yA ym yc] 63:=⟨_,rfl⟩
   have HW1:=hD (HOF.out.step (bel1 wr XB))
   have HO1:=hD (HOWN.out.below (bel1 wr XB))
   have HGG:Hid (wr.heap.size+1=(wr.alloc XB).heap.size):=by unfold Hid;simp
   have HSZ:Hid (w.heap.size+2<=(wr.alloc XB).heap.size):=HW1.out.sz
   have HL1:Hid ((((items.take i).map fun t=>Value.float .f64 t.numOf).length+1)*8<=140737488355328):=by unfold Hid;have:=HLB.out;rw [List.length_map];omega
   have HL2:Hid (((items.take i).map fun t=>Value.float .f64 t.numOf).length+1<=140737488355328):=by unfold Hid;have:=HLB.out;rw [List.length_map];omega
   subst hXB
   go_wp2_with (at_builtin;go_loud (refine QaW rfl (.tmp 63) (.tmp 66) 36 60 rfl Tryz.underlying36 (.float .f64 0) 8 Qds rfl (w.heap.size+2) (.slice vA vn vc) ((items.take i).map fun t=>Value.float .f64 t.numOf) rfl HO1.out (.float .f64 n') rfl (wr.heap.size+1) HGG.out rfl HL1.out HL2.out HSZ.out ?_);intro v' w' hown' hbw;(obtain ⟨vA',vn',vc',hvn'⟩:∃ A n c,v'= .slice A n c:=by (obtain ⟨a,c,e⟩:=hown'.reads.len;exact ⟨a,_,c,e⟩));subst hvn';have HV:=hD hown';have HOF2:=hD (HW1.out.more (hbw _ (Below.refl _ _)));clear hown' hbw)
   go_roundw
   case rel=>exact ⟨i+1,vA',vn',vc',by omega,by go_num,rfl,by rw [HTK.out,List.map_append];exact HV.out,HOF2.out⟩
   case measure=>simp [intOf];omega
  ·have hge:¬ (i:Int) < (m:Int):=by omega
   obtain rfl:i=m:=by omega
   have HTL:Hid (items.take i=items):=by unfold Hid;rw [HMI.out];exact List.take_length
   rw [HTL.out] at HOWN
   have HRD:Hid (Reads1 wr (.slice vA vn vc) ((List.range i).map fun j => .float .f64 ((items.map RI.numOf).getD j 0))):=by
    unfold Hid
    have h1:=HOWN.out.reads
    have h2:=QfM (items.map RI.numOf) 0 (Value.float .f64)
    rw [List.length_map,<- HMI.out,List.map_map] at h2
    rw [h2];exact h1
   have HG:Hid (∀ j,j < i->okF ((items.map RI.numOf).getD j 0)=true/\(items.map RI.numOf).getD j 0 < 18446744073709551616):=fun j hj=>by
    have hji:j < items.length:=by have:=HMI.out;omega
    have h1:=HOKI.out j hji
    have e:(items.map RI.numOf).getD j 0=items[j].numOf:=by simp [List.getD,hji]
    rw [e]
    generalize items[j]=it at h1
    cases it with
    | mk k n c box =>
     rw [OkI] at h1
     exact h1.2.1 h1.1
   have HN:=hD (Qdi (fun b=>H b\/b=w.heap.size+1) (.slice vA vn vc) i (fun j=>(items.map RI.numOf).getD j 0) wr (fun b e=>by
    have h1:=HOF.out.sz
    rcases e with e | e
    ·have:=hH b e;omega
    ·omega) HRD.out (by omega) (fun j hj=>(HG.out j hj).2) (fun j hj=>(HG.out j hj).1))
   unfold QkD at HN
   go_wp2_with fail
   refine HN.out.mono ?_
   rintro e w2 ⟨k4,b4,bn4,s4,i4,f4,c4,x4,rfl,hkv,hb2⟩
   obtain ⟨p,hp⟩:∃ p:V8,p=⟨k4,b4,bn4,s4,i4,f4,c4,x4⟩:=⟨_,rfl⟩
   have hkv2:Keeps (fun b=>H b\/b=w.heap.size+1) w2 (NumV p.v (leastF (fun j=>tidF ((items.map RI.numOf).getD j 0)) i:Nat) i (fun j=>tidF ((items.map RI.numOf).getD j 0))):=by rw [hp];exact hkv
   clear hkv HN HRD HG
   have hkv:=hkv2
   clear hkv2
   have HOF3:=hD ((HOF.out.step hb2).step (bel1 w2 p.o))
   obtain ⟨y0,y1,y2⟩:=(HOF.out.step hb2).arg
   have gy2:=fun o=>Qab y2 o
   have HB3:=hD (Qaa hb2 (bel1 w2 p.o))
   have HKV:=hD (Keeps.lat hkv (Lat.below (bel1 w2 p.o)))
   have HBP:=hD (Qb3 w2 p)
   obtain ⟨W3,hW3⟩:∃ W3,W3=w2.alloc p.o:=⟨_,rfl⟩
   rw [<- hW3] at HOF3 HB3 HKV HBP
   have HH1:Hid (∀ W:World,W3.heap.size<=W.heap.size->∀ b,(H b\/b=w.heap.size+1)->b < W.heap.size):=fun W hW b e=>by
    have h1:=OfI.sz (Hid.out HOF3)
    rcases e with e | e
    ·have:=hH b e;omega
    ·omega
   have HSH1:Hid (∀ W:World,Below W3.heap.size W3 W->ShV (fun b=>H b\/b=w.heap.size+1) W h sn):=fun W hb=>Keeps.lat (Keeps.lat (Keeps.sub HSH.out (fun b hb e=>by
    rcases e with e | e
    ·exact e
    ·omega)) (Lat.below HOF3.out.bel)) (Lat.below hb)
   have HCL:=hD (fun W (hb:Below W3.heap.size W3 W)=>QeK (HSH1.out W hb) HLN.out (HH1.out W hb.size))
   clear hb2 hkv c0 c1 c2
   subst hp
   dsimp only [V8.o] at hW3
   go_wp2
   rw [<- hW3]
   obtain ⟨a0,a1,a2⟩:=HOF3.out.arg
   obtain ⟨⟨z0,z1,z2,z3,z4,z5,z6,z7,z8⟩,zz⟩:=Qam HOF3.out.res
   obtain ⟨p0,p1,p2,p3,p4,p5,p6,p7⟩:=(show Boxed W3 w2.heap.size k4 (.slice b4.1 b4.2.1 b4.2.2) bn4 (.slice s4.1 s4.2.1 s4.2.2) (.slice i4.1 i4.2.1 i4.2.2) (.slice f4.1 f4.2.1 f4.2.2) (.slice c4.1 c4.2.1 c4.2.2) (.slice x4.1 x4.2.1 x4.2.2) from HBP.out)
   have hl1:w2.heap.size < W3.heap.size:=HBP.out.lt
   have hl2:w.heap.size+1 < W3.heap.size:=lt_blk HOF3.out.res
   have hl3:w.heap.size < W3.heap.size:=by omega
   clear hW3 gy2 y0 y1 y2
   go_region_with (go_at_call 107;((with_reducible refine (HCL.out _ ?_).mono ?_);(repeat (first | with_reducible assumption | with_reducible exact Below.refl _ _ | with_reducible refine Below.drew ?_));rintro e wa ⟨cA,cn,ccc,rfl,hsh,hba⟩);have HBa:=hD (Qaa (show Below W3.heap.size W3 W3.drew from (Below.refl _ _).drew) hba);have HOFa:=hD (HOF3.out.step HBa.out);(obtain ⟨⟨y0,y1,y2,y3,y4,y5,y6,y7,y8⟩,yy⟩:=Qam HOFa.out.res);(obtain ⟨q0,q1,q2,q3,q4,q5,q6,q7⟩:=(show Boxed wa w2.heap.size k4 (.slice b4.1 b4.2.1 b4.2.2) bn4 (.slice s4.1 s4.2.1 s4.2.2) (.slice i4.1 i4.2.1 i4.2.2) (.slice f4.1 f4.2.1 f4.2.2) (.slice c4.1 c4.2.1 c4.2.2) (.slice x4.1 x4.2.1 x4.2.2) from HBP.out.below HBa.out));have HSHa:=hD hsh;clear hba hsh)
   all_goals
    go_wp2
    refine bodyPost_ret (v := .tuple #[arrV (cA,cn,ccc) ⟨k4,b4,bn4,s4,i4,f4,c4,x4⟩,.int .i64 0]) ?_ rfl ⟨(cA,cn,ccc),⟨k4,b4,bn4,s4,i4,f4,c4,x4⟩,rfl,QrH HMI.out (Keeps.sub (Keeps.lat HSHa.out (Lat.set9 (G:=w.heap.size+1) (.inr rfl) _ _ _ _ _ _ _ _ _)) (fun _ _ e => .inl e)) (Keeps.sub (Keeps.lat (Keeps.lat HKV.out (Lat.below HBa.out)) (Lat.set9 (G:=w.heap.size+1) (.inr rfl) _ _ _ _ _ _ _ _ _)) (fun _ _ e => .inl e)),Qal HOFa.out.bel (Nat.le_succ _) _ _ _ _ _ _ _ _ _⟩
    exact QaQ (fn:=Tryz.f69) (p:=4) (u:=5) rfl _ _ (w.heap.size+1) (by rfl) (Qat HOFa.out.res _ _ _ _ _ _ _ _ _)
theorem of_1 (H:Nat->Prop) (d:Nat) (hd:d<=40) (sn:List Nat) (items:List RI) (h x:Sl) (w:World) (hH:∀ b,H b->b < w.heap.size) (hok:OkIs (d+1) 1 items) (hsn:OkSh sn items.length) (hM:cntP (.mk (sn.map Int.ofNat) items 1)<=1000000) (hr:PV H w (.mk (sn.map Int.ofNat) items 1) h x 1) :
  Calls Tryz.prog 69 #[plV h x 1,.int .i64 ((d+1:Nat):Int)] w (AvR H w (clP (.mk (sn.map Int.ofNat) items 1))):=by
 obtain ⟨hsr,_,hx,hit⟩:=hr.open_
 obtain ⟨A,m,cc⟩:=x
 dsimp only at hx hit
 have hsz:cntP (.mk (sn.map Int.ofNat) items 1)=items.length+(sn.map Int.ofNat).length+1+QaH items:=by rw [cntP]
 rw [hsz,List.length_map] at hM
 have hsh:ShV H w h sn:=by rw [List.map_map] at hsr;exact hsr
 have HK:=hD hit
 have HMI:=hD hx
 have HSH:=hD hsh
 have hmb:m<=1000000:=by omega
 have HOKI:Hid (∀ i (hi:i < items.length),OkI (d+1) 1 items[i]):=fun i hi=>QcK hi hok
 have hpe:QbX sn 1048576=((m:Int),0):=by rw [hx];exact QdE hsn (by omega)
 have HPR:Hid (∀ W,Below w.heap.size w W->Calls Tryz.prog 119 #[sv h,.int .i64 1048576] W fun e w'=>e= .returned (.tuple #[.int .i64 (m:Int),.int .i64 0])/\W=w'):=fun W hb=>by
  have h1:=Qcy (sv h) sn 1048576 W (hsh.step hb).now (by omega)
  rw [hpe] at h1
  exact h1
 have HI0:=hD (OfI.new w h (A,m,cc) 1)
 obtain ⟨z,hz⟩:∃ z:Int,z=((d+1:Nat):Int):=⟨_,rfl⟩
 rw [<- hz]
 have hz0:(z==0)=false:=by simp;omega
 have hne:((m:Int) != (m:Int))=false:=by simp
 have HLN:Hid (sn.length<=1048576):=by unfold Hid;omega
 clear hz hx hsz hM hit hok hsr hr hsn hpe hsh hd
 go_enter Tryz.func69,Tryz.ntmps69
 obtain ⟨c0,c1,c2⟩:=HI0.out.arg
 dsimp only [sv] at c1
 go_wp2_with fail
 refine (HPR.out _ HI0.out.bel).mono ?_
 rintro e w1 ⟨rfl,rfl⟩
 generalize hW:(w.alloc (.cells #[sv h,.slice A m cc,.int .i64 1] 25)).alloc (.cells Qec 41)=W at *
 clear hW HPR
 go_wp2
 clear c0 c1 c2
 go_loopw [8,9,49] (fun n8 v iv wr=>∃ (i:Nat) (vA:Option Addr) (vn vc:Nat),i<=m/\iv= .int .i64 (i:Int)/\n8= .slice none 0 0/\v= .slice vA vn vc/\Own1 wr (w.heap.size+2) 21 (.slice vA vn vc) ((items.take i).map fun t => .int .i32 t.charOf)/\OfI w h (A,m,cc) 1 wr) (fun _ _ iv _=>m - (intOf iv).toNat)
 case atStart=>exact ⟨0,none,0,0,Nat.zero_le _,rfl,rfl,rfl,Own1.nil _ _ _,HI0.out⟩
 case round =>
  obtain ⟨i,vA,vn,vc,hi,rfl,rfl,rfl,hown,hofi⟩:=hrel
  have HOWN:=hD hown
  have HOF:=hD hofi
  obtain ⟨c0,c1,c2⟩:=hofi.arg
  dsimp only [sv] at c1
  clear hown hofi
  by_cases him:i < m
  ·have him2:(i:Int) < (m:Int):=by omega
   have hik:i < items.length:=by have:=HMI.out;omega
   obtain ⟨b,o,k',n',c',y,rfl,-,hiv,hat⟩:=HK.out i hik
   have HTK:Hid (items.take (i+1)=items.take i++[items[i]]):=List.take_succ_eq_append_getElem hik
   have HOI:=hD (HOKI.out i hik)
   have hlb:(items.take i).length<=1000000:=by rw [List.length_take];omega
   have HLB:=hD hlb
   clear hlb
   generalize items[i]=it at hiv HTK HOI
   cases it with
   | mk kind num char box =>
   obtain ⟨rfl,rfl,rfl,hy,hbx⟩:=hiv.open_
   obtain ⟨yA,ym,yc⟩:=y
   obtain ⟨d0,d1,d2,d3⟩:=hat wr (Lat.below HOF.out.bel)
   dsimp only [sv] at d3
   have hk0:=HOI.out
   rw [OkI] at hk0
   obtain ⟨rfl,hkn,hkb⟩:=hk0
   have hst:=fun md=>QaK wr 1 0 n' 0 (.slice none 0 0) 63 md
   have g0:=fun o=>Qab c0 o
   have g1:=fun o=>Qab c1 o
   have g2:=fun o=>Qab c2 o
   clear hy hbx hat hiv hkn hkb
   obtain ⟨XB,hXB⟩:∃ XB:Obj,XB= .cells #[.int .i64 1,.float .f64 n',.int .i32 c',.slice yA ym yc] 63:=⟨_,rfl⟩
   have HW1:=hD (HOF.out.step (bel1 wr XB))
   have HO1:=hD (HOWN.out.below (bel1 wr XB))
   have HGG:Hid (wr.heap.size+1=(wr.alloc XB).heap.size):=by unfold Hid;simp
   have HSZ:Hid (w.heap.size+2<=(wr.alloc XB).heap.size):=HW1.out.sz
   have HL1:Hid ((((items.take i).map fun t=>Value.int .i32 t.charOf).length+1)*4<=140737488355328):=by unfold Hid;have:=HLB.out;rw [List.length_map];omega
   have HL2:Hid (((items.take i).map fun t=>Value.int .i32 t.charOf).length+1<=140737488355328):=by unfold Hid;have:=HLB.out;rw [List.length_map];omega
   subst hXB
   go_wp2_with (at_builtin;go_loud (refine QaW rfl (.tmp 70) (.tmp 73) 30 21 rfl Tryz.underlying30 (.int .i32 0) 4 Qov rfl (w.heap.size+2) (.slice vA vn vc) ((items.take i).map fun t=>Value.int .i32 t.charOf) rfl HO1.out (.int .i32 c') rfl (wr.heap.size+1) HGG.out rfl HL1.out HL2.out HSZ.out ?_);intro v' w' hown' hbw;(obtain ⟨vA',vn',vc',hvn'⟩:∃ A n c,v'= .slice A n c:=by (obtain ⟨a,c,e⟩:=hown'.reads.len;exact ⟨a,_,c,e⟩));subst hvn';have HV:=hD hown';have HOF2:=hD (HW1.out.more (hbw _ (Below.refl _ _)));clear hown' hbw)
   go_roundw
   case rel=>exact ⟨i+1,vA',vn',vc',by omega,by go_num,rfl,rfl,by rw [HTK.out,List.map_append];exact HV.out,HOF2.out⟩
   case measure=>simp [intOf];omega
  ·have hge:¬ (i:Int) < (m:Int):=by omega
   obtain rfl:i=m:=by omega
   have HTL:Hid (items.take i=items):=by unfold Hid;rw [HMI.out];exact List.take_length
   rw [HTL.out] at HOWN
   have HRD:Hid (Reads1 wr (.slice vA vn vc) ((items.map RI.charOf).map (Value.int .i32))):=by
    unfold Hid
    rw [List.map_map]
    exact HOWN.out.reads
   have HN:=hD (Qdi (fun b=>H b\/b=w.heap.size+1) (.slice none 0 0) 0 (fun _=>0) wr (fun b e=>by
    have h1:=HOF.out.sz
    rcases e with e | e
    ·have:=hH b e;omega
    ·omega) (.inl ⟨none,0,rfl,rfl⟩) (by omega) (fun j hj=>by omega) (fun j hj=>by omega))
   unfold QkD at HN
   go_wp2_with fail
   refine HN.out.mono ?_
   rintro e w2 ⟨k4,b4,bn4,s4,i4,f4,c4,x4,rfl,-,hb2⟩
   obtain ⟨y0,y1,y2⟩:=(HOF.out.step hb2).arg
   have gy2:=fun o=>Qab y2 o
   have HB2:=hD hb2
   have HCH:=hD (fun o:Obj=>Qhn (HRD.out.below (Qaa hb2 (bel1 w2 o))) (show (items.map RI.charOf).length<=1000000 by rw [List.length_map,<- HMI.out];omega))
   clear hb2 c0 c1 c2 HN
   go_wp2_with fail
   refine (HCH.out _).mono ?_
   rintro e w3 ⟨u,rfl,hou,hb3⟩
   obtain ⟨uA,un,uc,huv⟩:∃ A n c,u= .slice A n c:=by obtain ⟨a,c,e⟩:=hou.reads.len;exact ⟨a,_,c,e⟩
   subst huv
   have HK3:=hD (Qar hb3)
   obtain ⟨⟨b0,b1,b2,b3,b4',b5,b6,b7⟩,bz⟩:=Qag HK3.out
   have HB3a:=hD (Qaa HB2.out (Qaa (bel1 w2 _) hb3))
   have hlt3:=lt_blk HK3.out
   have HOU:=hD hou
   have hww2:wr.heap.size<=w2.heap.size:=HB2.out.size
   clear hou hb3 gy2 y0 y1 y2
   obtain ⟨W3,hW3⟩:∃ W3,W3=set8 w3 w2.heap.size (.int .i64 5) vnil (.int .i64 0) vnil vnil vnil (.slice uA un uc) vnil:=⟨_,rfl⟩
   have HBS:Hid (Below wr.heap.size wr W3):=by unfold Hid;rw [hW3];exact Qac HB3a.out hww2 _ _ _ _ _ _ _ _
   have HOF3:=hD (HOF.out.step HBS.out)
   have HBP:Hid (Boxed W3 w2.heap.size 5 vnil 0 vnil vnil vnil (.slice uA un uc) vnil):=by unfold Hid;rw [hW3];exact (Qag (Qad HK3.out _ _ _ _ _ _ _ _)).1
   have hwsz:w.heap.size+2<=wr.heap.size:=HOF.out.sz
   have HKV:Hid (RdH (fun b=>H b\/b=w.heap.size+1) W3 (.slice uA un uc) ((items.map RI.charOf).map (Value.int .i32))):=by
    unfold Hid
    rw [hW3]
    have h1:Keeps (fun b=>(H b\/b=w.heap.size+1)\/b=w2.heap.size) w3 (fun W=>Reads1 W (.slice uA un uc) ((items.map RI.charOf).map (Value.int .i32))):=HOU.out.keepsH fun b e=>by
     have h9:(w2.alloc (.cells #[.int .i64 k4,.slice b4.1 b4.2.1 b4.2.2,.int .i64 bn4,.slice s4.1 s4.2.1 s4.2.2,.slice i4.1 i4.2.1 i4.2.2,.slice f4.1 f4.2.1 f4.2.2,.slice c4.1 c4.2.1 c4.2.2,.slice x4.1 x4.2.1 x4.2.2] 39)).heap.size=w2.heap.size+1:=by simp
     rw [h9]
     rcases e with (e | e) | e
     ·have:=hH b e;omega
     ·omega
     ·omega
    exact (Keeps.set8 h1 (.inr rfl) _ _ _ _ _ _ _ _).sub fun _ _ e => .inl e
   have HH1:Hid (∀ W:World,W3.heap.size<=W.heap.size->∀ b,(H b\/b=w.heap.size+1)->b < W.heap.size):=fun W hW b e=>by
    have h1:=OfI.sz (Hid.out HOF3)
    rcases e with e | e
    ·have:=hH b e;omega
    ·omega
   have HSH1:Hid (∀ W:World,Below W3.heap.size W3 W->ShV (fun b=>H b\/b=w.heap.size+1) W h sn):=fun W hb=>Keeps.lat (Keeps.lat (Keeps.sub HSH.out (fun b hb e=>by
    rcases e with e | e
    ·exact e
    ·omega)) (Lat.below HOF3.out.bel)) (Lat.below hb)
   have HCL:=hD (fun W (hb:Below W3.heap.size W3 W)=>QeK (HSH1.out W hb) HLN.out (HH1.out W hb.size))
   obtain ⟨a0,a1,a2⟩:=HOF3.out.arg
   rw [hW3] at a2
   dsimp only [set8] at hW3 a2
   clear a0 a1
   go_wp2
   rw [<- hW3]
   obtain ⟨a0,a1,a2'⟩:=HOF3.out.arg
   obtain ⟨⟨z0,z1,z2,z3,z4,z5,z6,z7,z8⟩,zz⟩:=Qam HOF3.out.res
   obtain ⟨p0,p1,p2,p3,p4,p5,p6,p7⟩:=HBP.out
   clear hW3 a2 b0 b1 b2 b3 b4' b5 b6 b7 bz HCH HB3a
   go_region_with (go_at_call 107;((with_reducible refine (HCL.out _ ?_).mono ?_);(repeat (first | with_reducible assumption | with_reducible exact Below.refl _ _ | with_reducible refine Below.drew ?_));rintro e wa ⟨cA,cn,ccc,rfl,hsh,hba⟩);have HBa:=hD (Qaa (show Below W3.heap.size W3 W3.drew from (Below.refl _ _).drew) hba);have HOFa:=hD (HOF3.out.step HBa.out);(obtain ⟨⟨y0,y1,y2,y3,y4,y5,y6,y7,y8⟩,yy⟩:=Qam HOFa.out.res);(obtain ⟨q0,q1,q2,q3,q4,q5,q6,q7⟩:=(show Boxed wa w2.heap.size 5 vnil 0 vnil vnil vnil (.slice uA un uc) vnil from HBP.out.below HBa.out));have HSHa:=hD hsh;clear hba hsh)
   all_goals
    go_wp2
    refine bodyPost_ret (v := .tuple #[arrV (cA,cn,ccc) (Qep (uA,un,uc)),.int .i64 0]) ?_ rfl ⟨(cA,cn,ccc),Qep (uA,un,uc),rfl,Qpp (Keeps.sub (Keeps.lat HSHa.out (Lat.set9 (G:=w.heap.size+1) (.inr rfl) _ _ _ _ _ _ _ _ _)) (fun _ _ e => .inl e)) (Keeps.sub (Keeps.lat (Keeps.lat HKV.out (Lat.below HBa.out)) (Lat.set9 (G:=w.heap.size+1) (.inr rfl) _ _ _ _ _ _ _ _ _)) (fun _ _ e => .inl e)),Qal HOFa.out.bel (Nat.le_succ _) _ _ _ _ _ _ _ _ _⟩
    exact QaQ (fn:=Tryz.f69) (p:=4) (u:=5) rfl _ _ (w.heap.size+1) (by rfl) (Qat HOFa.out.res _ _ _ _ _ _ _ _ _)
theorem ASl.sub {H H':Nat->Prop}{w:World}{x:Sl}{l:List PA} (hs:∀ b,b < w.heap.size->H' b->H b) (g:ASl H w x l):ASl H' w x l:=by
 refine ⟨g.1,?_⟩
 rcases g.2 with g4 | ⟨b,o,g5,hn,g6⟩
 ·exact .inl g4
 ·cases l with
  | nil=>exact .inl ⟨rfl,trivial⟩
  | cons a ar =>
   have hl:b < w.heap.size:=by rw [AVs] at g6;obtain ⟨⟨_,_,h9,_⟩,_⟩:=g6;exact h9.lt
   exact .inr ⟨b,o,g5,fun e=>hn (hs b hl e),AVs.sub hs g6⟩
theorem Lat.set8 {H:Nat->Prop}{w:World}{G:Nat} (hG:H G) (a0 a1 a2 a3 a4 a5 a6 a7:Value):Lat H w (set8 w G a0 a1 a2 a3 a4 a5 a6 a7) :=
 (((((((Lat.set (a:=⟨G,0,none⟩) hG a0).trans (Lat.set (a:=⟨G,1,none⟩) hG a1)).trans (Lat.set (a:=⟨G,2,none⟩) hG a2)).trans (Lat.set (a:=⟨G,3,none⟩) hG a3)).trans (Lat.set (a:=⟨G,4,none⟩) hG a4)).trans (Lat.set (a:=⟨G,5,none⟩) hG a5)).trans (Lat.set (a:=⟨G,6,none⟩) hG a6)).trans (Lat.set (a:=⟨G,7,none⟩) hG a7)
def BxR (H:Nat->Prop) (w:World) (l:List PA) (e:Ending) (w':World):Prop:=∃ x:Sl,e= .returned (vecV 6 vnil 0 vnil vnil vnil vnil (sv x))/\ASl H w' x l/\Below w.heap.size w w'
theorem QmK {H:Nat->Prop}{w:World}{x:Sl}{l:List PA} (g:ASl H w x l) (hl:l.length<=1048576) (hH:∀ b,H b->b < w.heap.size):Calls Tryz.prog 121 #[sv x] w (BxR H w l):=by
 have hg2:∀ w2,Below w.heap.size w w2->ASl (fun b=>H b\/b=w.heap.size) w2 x l:=fun w2 hb=>(g.sub fun b hb e=>by
  rcases e with e | e
  ·exact e
  ·omega).step hb
 have HC:=hD (QmA (hg2 _ (bel1 w (.cells #[.int .i64 0,vnil,.int .i64 0,vnil,vnil,vnil,vnil,vnil] 39))) hl (fun b e=>by
  rcases e with e | e
  ·have:=hH b e;simp;omega
  ·simp;omega))
 have HH:=hD hH
 clear g hg2 hl hH
 go_enter Tryz.func121,Tryz.ntmps121
 go_wp2_with fail
 refine HC.out.mono ?_
 rintro e w1 ⟨u,rfl,ho,hb1⟩
 have HB1:=hD ((bel1 w _).trans (hb1.mono (bel1 w _).size))
 obtain ⟨h0,h1,h2,h3,h4,h5,h6,h7⟩:=(QaF w 39 0 vnil 0 vnil vnil vnil vnil vnil).below hb1
 have HK:=hD (Qar hb1)
 have hz:∀ j,w1.frozen? ⟨w.heap.size,j,none⟩=false:=fun j=>by rw [hb1.frozen (by simp)];exact Qch _ _ _ _
 obtain ⟨y,rfl,hy⟩:=ho.asl (fun b e=>by
  rcases e with e | e
  ·have:=HH.out b e;simp;omega
  ·simp;omega)
 obtain ⟨yA,yn,yc⟩:=y
 have HY:=hD hy
 clear hb1 ho hy
 dsimp only [sv]
 go_wp2
 exact bodyPost_ret (Qbp rfl _ _ _ rfl (Qad HK.out _ _ _ _ _ _ _ _)) rfl ⟨(yA,yn,yc),rfl,ASl.sub (fun _ _ e => .inl e) (ASl.lat (Lat.set8 (G:=w.heap.size) (.inr rfl) _ _ _ _ _ _ _ _) HY.out),Qac HB1.out (Nat.le_refl _) _ _ _ _ _ _ _ _⟩
theorem QgV {ops:Array Oper}{rest:List Oper}{o:Oper}{a:Act}{Q:Exit->Act->World->Prop}{w:World} (hgd:o.guard=none) (s x:Operand)
  (ho:o.op= .call { callee := .builtin .append,args:=#[s,x],argTypes:=#[37,37]})
  (H:Nat->Prop) (B:Nat) (v:Value) (l:List PA) (hs:a.eval s=v) (hown:AOwn H w B v l) (h:Sl) (p:V8) (A:PA) (hA:AV (fun b=>H b\/v.ownBlock=some b) w A h p)
  (G:Nat) (hG:G=w.heap.size) (hx:a.eval x= .slice (some ⟨G,0,none⟩) 1 1) (hl:l.length<=1048576) (hB:B<=w.heap.size)
  (k:∀ v' w',AOwn H w' B v' (l++[A])->(∀ w0,Below B w0 w->Below B w0 w')->wpList Tryz.prog ops Q rest (a.put o.dst v') w') :
  wpList Tryz.prog ops Q (o::rest) a (w.alloc (arrO h p)):=by
 subst hG
 exact QhJ hgd s x ho H B v l hs hown h p A hA hx hl hB fun v' w' h1 h2 _ _=>k v' w' h1 h2
theorem Qpq {H:Nat->Prop}{W:World}{sn:List Nat}{items:List RI}{hd x:Sl} (hs:ShV H W hd sn) (hk:ASl H W x (clIs items)):AV H W (clP (.mk (sn.map Int.ofNat) items 2)) hd (QdB x):=by
 rw [clP,Qb4,if_neg (by decide),if_neg (by decide)]
 exact hk.av hs
end Go.Proofs.YtdelgpelkfndeaaGreatDoor
