/- A node of the reference's, taken apart; the reference's only, upper, named. The writer of trees' texts: its memory; the walk of .. Conditions: as each theorem says. -/
import Derived.Test.YtbakjaliponbbaaGreatDoorMg04
import Derived.Test.YtbakjaliponbbaaGreatDoorMg00
import Derived.Deep.QuietTactic
import Derived.BigQuiet
import Derived.OneCell
import Derived.IntWalk
set_option maxRecDepth 100000
set_option maxHeartbeats 3200000
namespace Go.Proofs.YtbakjaliponbbaaGreatDoor
open Go Go.RowKit Go.Proofs Fl
def KidR (w:World) (A:Option Addr) (kids:List RTree):Prop :=
 ∀ i (hi:i < kids.length),∃ b o v0 v1 v2 v3 v4 v5,A=some ⟨b,o,none⟩/\RN w kids[i] [v0,v1,v2,v3,v4,v5]/\∀ w1,Below w.heap.size w w1 ->
    w1.cell? ⟨b,o+i*6,none⟩=some v0/\w1.cell? ⟨b,o+i*6+1,none⟩=some v1/\w1.cell? ⟨b,o+i*6+2,none⟩=some v2/\w1.cell? ⟨b,o+i*6+3,none⟩=some v3/\w1.cell? ⟨b,o+i*6+4,none⟩=some v4/\w1.cell? ⟨b,o+i*6+5,none⟩=some v5
theorem KidR.below {w w':World}{A:Option Addr}{kids:List RTree} (h:KidR w A kids) (hb:Below w.heap.size w w'):KidR w' A kids:=by
 intro i hi
 obtain ⟨b,o,v0,v1,v2,v3,v4,v5,h1,h2,h3⟩:=h i hi
 exact ⟨b,o,v0,v1,v2,v3,v4,v5,h1,RN.below hb _ _ h2,fun w1 hb1=>h3 w1 (hb.trans (hb1.mono hb.size))⟩
theorem KidR.tail {w:World}{b o:Nat}{t:RTree}{ts:List RTree} (h:KidR w (some ⟨b,o,none⟩) (t::ts)):KidR w (some ⟨b,o+6,none⟩) ts:=by
 intro i hi
 obtain ⟨b',o',v0,v1,v2,v3,v4,v5,h1,h2,h3⟩:=h (i+1) (by simpa using hi)
 cases h1
 refine ⟨b,o+6,v0,v1,v2,v3,v4,v5,rfl,by simpa using h2,fun w1 hb=>?_⟩
 have:=h3 w1 hb
 have e:o+(i+1)*6=o+6+i*6:=by omega
 rwa [e] at this
theorem KidR.front {w:World}{A:Option Addr}{ts us:List RTree} (h:KidR w A (ts++us)):KidR w A ts:=by
 intro i hi
 have:=h i (by simp;omega)
 rwa [List.getElem_append_left hi] at this
theorem KidR.head {w:World}{A:Option Addr}{t:RTree}{ts:List RTree} (h:KidR w A (t::ts)):KidR w A [t]:=KidR.front (ts:=[t]) (us:=ts) h
theorem KidR.back {w:World}{b o j:Nat}{t:RTree}{ts:List RTree} (h:KidR w (some ⟨b,o,none⟩) (ts++[t])) (hj:j=ts.length):KidR w (some ⟨b,o+j*6,none⟩) [t]:=by
 subst hj
 intro i hi
 obtain rfl:i=0:=by simpa using hi
 obtain ⟨b',o',v0,v1,v2,v3,v4,v5,h1,h2,h3⟩:=h ts.length (by simp)
 cases h1
 exact ⟨b,o+ts.length*6,v0,v1,v2,v3,v4,v5,rfl,by simpa using h2,fun w1 hb=>by simpa using h3 w1 hb⟩
theorem KidR.some {w:World}{A:Option Addr}{kids:List RTree} (h:KidR w A kids) (h0:0 < kids.length):∃ b o,A=some ⟨b,o,none⟩:=by
 obtain ⟨b,o,_,_,_,_,_,_,e,_⟩:=h 0 h0
 exact ⟨b,o,e⟩
structure NodR (N:Nat) (w:World) (A1:Option Addr) (n1 c1:Nat) (A2:Option Addr) (n2 c2:Nat) (name:ByteArray) (A:Option Addr) (m cc:Nat) (nums:List Nat) (text:List Int) (kids:List RTree):Prop where
 hn:n1=nums.length
 ht:n2=text.length
 hm:m=kids.length
 hrn:Reads1 w (.slice A1 n1 c1) (nums.map (Value.float .f64))
 hrt:Reads1 w (.slice A2 n2 c2) (text.map (Value.int .i32))
 hkid:KidR w A kids
 hcap:m<=cc
 fn:nums.length<=1048576
 fx:∀ x∈nums,x < 18446744073709551616
 ft:text.length<=1048576
 fs:name.size<=70368744177664
 fm:m<=1048576
 ok:∀ i (hi:i < kids.length),sizeR kids[i]<=N/\FitG kids[i]
theorem RN.node {N:Nat}{w:World}{k:Int}{nums:List Nat}{text:List Int}{name:ByteArray}{c:Int}{kids:List RTree}{v0 v1 v2 v3 v4 v5:Value} (h:RN w (.mk k nums text name c kids) [v0,v1,v2,v3,v4,v5]) (hf:FitG (.mk k nums text name c kids)) (hN:sizeR (.mk k nums text name c kids)<=N+1) :
  ∃ A1 n1 c1 A2 n2 c2 A m cc,v0= .int .i64 k/\v1= .slice A1 n1 c1/\v2= .slice A2 n2 c2/\v3= .string name/\v4= .int .i32 c/\v5= .slice A m cc/\NodR N w A1 n1 c1 A2 n2 c2 name A m cc nums text kids:=by
 obtain ⟨nv,tv,A,cc,m,hvs,hrn,hrt,hm,hkid⟩:=h.open_
 simp only [List.cons.injEq,and_true] at hvs
 obtain ⟨rfl,rfl,rfl,rfl,rfl,rfl⟩:=hvs
 obtain ⟨A1,c1,n1,rfl,hn1,_⟩:=hrn.opn
 obtain ⟨A2,c2,n2,rfl,hn2,_⟩:=hrt.opn
 rw [FitG] at hf
 rw [sizeR] at hN
 refine ⟨A1,n1,c1,A2,n2,c2,A,m,cc,rfl,rfl,rfl,rfl,rfl,rfl,⟨by simpa using hn1,by simpa using hn2,hm,hrn,hrt,hkid,h.cap,hf.1,hf.2.1,hf.2.2.1,hf.2.2.2.1,by rw [hm];exact hf.2.2.2.2.1,fun i hi=>⟨?_,FitGs_at hf.2.2.2.2.2 hi⟩⟩⟩
 have:=sizeRs_at hi
 omega
def nmK (k:Int):Bool:=decide (k=3)||decide (k=11)||decide (k=12)||decide (k=14)||decide (k=20)
def chK (k:Int):Bool:=decide (k=13)||decide (k=16)
def onlyB (k:Int) (nums:List Nat) (text:List Int) (name:ByteArray) (c:Int):Bool:=plainB k nums text name c [] (-1) (nmK k) (chK k)
theorem pl_n {k:Int}{nums:List Nat}{text:List Int}{name:ByteArray}{c:Int}{kids:List RTree}{n:Int}{nm ch:Bool} (hn:0<=n):plainB k nums text name c kids n nm ch=(decide ((kids.length:Int)=n)&&plainB k nums text name c [] (-1) nm ch):=by
 unfold plainB
 rw [decide_eq_false (show ¬ n < 0 by omega)]
 simp [Bool.and_assoc]
theorem pl_m {k:Int}{nums:List Nat}{text:List Int}{name:ByteArray}{c:Int}{kids:List RTree}{nm ch:Bool}:plainB k nums text name c kids (-1) nm ch=plainB k nums text name c [] (-1) nm ch:=by
 unfold plainB
 rfl
theorem only_walk (k:Int) (A1:Option Addr) (n1 c1:Nat) (A2:Option Addr) (n2 c2:Nat) (name:ByteArray) (c:Int) (A:Option Addr) (m cc:Nat) (nums:List Nat) (text:List Int) (hn:n1=nums.length) (ht:n2=text.length) (w:World) :
  Calls Tryz.prog 53 #[.agg #[.int .i64 k,.slice A1 n1 c1,.slice A2 n2 c2,.string name,.int .i32 c,.slice A m cc]] w
   fun e w'=>e= .returned (.bool (onlyB k nums text name c))/\Below w.heap.size w w':=by
 obtain ⟨R,hR⟩:∃ R,R=onlyB k nums text name c:=⟨_,rfl⟩
 obtain ⟨q,hq⟩:∃ q,q=nmK k:=⟨_,rfl⟩
 have HQ:Hid (q=((k==3)||(k==11)||(k==12)||(k==14)||(k==20))):=hq
 have HR:Hid (R=((q||decide (name.toList=[]))&&(((k==13)||(k==16))||decide (c=0))&&((k==1)||decide (n1=0))&&((k==2)||decide (n2=0)))):=by
  unfold Hid;rw [hR,hn,ht];unfold onlyB plainB;rw [<- hq];rfl
 rw [<- hR]
 clear hR hn ht hq
 obtain ⟨a3,h3⟩:∃ a:Bool,(k==3)=a:=⟨_,rfl⟩
 obtain ⟨a11,h11⟩:∃ a:Bool,(k==11)=a:=⟨_,rfl⟩
 obtain ⟨a12,h12⟩:∃ a:Bool,(k==12)=a:=⟨_,rfl⟩
 obtain ⟨a14,h14⟩:∃ a:Bool,(k==14)=a:=⟨_,rfl⟩
 obtain ⟨a20,h20⟩:∃ a:Bool,(k==20)=a:=⟨_,rfl⟩
 obtain ⟨a13,h13⟩:∃ a:Bool,(k==13)=a:=⟨_,rfl⟩
 obtain ⟨a16,h16⟩:∃ a:Bool,(k==16)=a:=⟨_,rfl⟩
 obtain ⟨a1,h1⟩:∃ a:Bool,(k==1)=a:=⟨_,rfl⟩
 obtain ⟨a2,h2⟩:∃ a:Bool,(k==2)=a:=⟨_,rfl⟩
 rw [h3,h11,h12,h14,h20] at HQ
 rw [h13,h16,h1,h2] at HR
 go_enter Tryz.func53,Tryz.ntmps53
 go_upto_region 2 with fail
 go_cut [4] from 5 (fun bv wx=>bv= .bool q/\wx=w.alloc (.cells #[.int .i64 k,.slice A1 n1 c1,.slice A2 n2 c2,.string name,.int .i32 c,.slice A m cc] 29))
 case first =>
  clear h13 h16 h1 h2 HR
  cases a3 <;> cases a11 <;> cases a12 <;> cases a14 <;> cases a20
  all_goals
   go_wp2
   go_meet
   exact ⟨by rw [HQ.out];rfl,rfl⟩
 case rest =>
  obtain ⟨rfl,rfl⟩:=hcut
  clear HQ h3 h11 h12 h14 h20
  cases q <;> cases a13 <;> cases a16 <;> cases a1 <;> cases a2
  all_goals
   go_wp2
  all_goals go_ret
  all_goals exact ⟨by rw [HR.out];clear HR;first | rfl | (show Ending.returned (Value.bool _)=_;refine congrArg (fun b=>Ending.returned (Value.bool b)) ?_;first | (simp [*];done) | (rw [Bool.eq_iff_iff];simp [*];done) | (rw [Bool.eq_iff_iff];simp [*];omega)),(Below.refl _ w).alloc (Nat.le_refl _) _⟩
theorem rupper_walk (s:ByteArray) (w:World):Calls Tryz.prog 104 #[.string s] w fun e w'=>e= .returned (.bool (upB s))/\w=w':=by
 by_cases h:0 < s.size
 ·have HU:=Lib.hid (upB_eq h)
  by_cases h1:65<=(s[0]'h).toNat
  ·by_cases h2:(s[0]'h).toNat<=90
   ·have HT:Hid (upB s=true):=by unfold Hid;rw [HU.out,decide_eq_true h1,decide_eq_true h2];rfl
    clear HU
    go_enter Tryz.func104,Tryz.ntmps104
    go_wp2
    go_ret
    exact ⟨by rw [HT.out];show Ending.returned (Value.bool _)=_;refine congrArg (fun b=>Ending.returned (Value.bool b)) ?_;simp;omega,rfl⟩
   ·have HT:Hid (upB s=false):=by unfold Hid;rw [HU.out,decide_eq_false h2];simp
    clear HU
    go_enter Tryz.func104,Tryz.ntmps104
    go_wp2
    go_ret
    exact ⟨by rw [HT.out];show Ending.returned (Value.bool _)=_;refine congrArg (fun b=>Ending.returned (Value.bool b)) ?_;simp;omega,rfl⟩
  ·have HT:Hid (upB s=false):=by unfold Hid;rw [HU.out,decide_eq_false h1];rfl
   clear HU
   go_enter Tryz.func104,Tryz.ntmps104
   go_wp2
   go_ret
   exact ⟨by rw [HT.out];rfl,rfl⟩
 ·have HU:=Lib.hid (upB_nil (s:=s) (by omega))
  go_enter Tryz.func104,Tryz.ntmps104
  go_wp2
  go_ret
  exact ⟨by rw [HU.out];rfl,rfl⟩
theorem named_walk (k:Int) (v1 v2 v5:Value) (name:ByteArray) (c:Int) (fn:Bool) (w:World) (hs:name.size<=70368744177664) :
  Calls Tryz.prog 56 #[.agg #[.int .i64 k,v1,v2,.string name,.int .i32 c,v5],.bool fn] w
   fun e w'=>e= .returned (.bool (goodNB (runesOf name)&&(upB name==fn)))/\Below w.heap.size w w':=by
 obtain ⟨W0,hW0⟩:∃ W0,W0=w.alloc (.cells #[.int .i64 k,v1,v2,.string name,.int .i32 c,v5] 29):=⟨_,rfl⟩
 have HW0:=Lib.hid hW0
 have x3:W0.cell? ⟨w.heap.size,3,none⟩=some (.string name):=by rw [hW0,World.cell?_alloc_at _ _ _ _ rfl];rfl
 have hlt:w.heap.size < W0.heap.size:=by rw [hW0];simp
 have hbw:Below w.heap.size w W0:=by rw [hW0];exact (Below.refl _ w).alloc (Nat.le_refl _) _
 obtain ⟨cc,w1,hcv,hr,hb1,hcc⟩:=conv_str name W0 hs
 have hl:=runesOf_len name
 have HG:=Lib.hid (rGood_walk _ (runesOf name) w1 hr (by omega))
 have HU:=Lib.hid (rupper_walk name w1)
 have HB:=Lib.hid (hbw.trans (hb1.mono (by omega)))
 have hX:w1.cell? ⟨w.heap.size,3,none⟩=some (.string name):=by
  rw [hb1.cell (p:=⟨w.heap.size,3,none⟩) hlt];exact x3
 have HX:=Lib.hid hX
 clear hr hb1 hcc hl hs hX hW0 hbw hlt
 generalize goodNB (runesOf name)=g at HG ⊢
 generalize upB name=u at HU ⊢
 generalize (runesOf name).length=rl at hcv HG
 go_enter Tryz.func56,Tryz.ntmps56
 go_upto_region 1 with fail
 rw [<- HW0.out]
 go_wp2_with fail
 refine HG.out.mono ?_
 rintro e w2 ⟨rfl,rfl⟩
 have hX:=HX.out
 cases g with
 | false =>
  go_wp2
  go_ret
  exact ⟨rfl,HB.out⟩
 | true =>
  go_wp2_with fail
  refine HU.out.mono ?_
  rintro e w3 ⟨rfl,rfl⟩
  go_wp2
  go_ret
  exact ⟨by cases u <;> cases fn <;> rfl,HB.out⟩
structure WSt (w:World) (B g:Nat) (v:Value) (l:List Int):Prop where
 hB:B<=g
 blk:w.heap[g]?=some (.cells #[v] 86 (0,0))
 own:OwnR w B v l
 ne:v.ownBlock≠some g
structure Grew (g:Nat) (v:Value) (w w':World) (v':Value):Prop where
 b0:Below 0 w w'
 row:∀ b,v'.ownBlock=some b->v.ownBlock=some b\/w.heap.size<=b
 keep:∀ b,b < w.heap.size->b≠g->v.ownBlock≠some b->w'.heap[b]?=w.heap[b]?
theorem Grew.trans {g:Nat}{v v1 v2:Value}{w w1 w2:World} (h:Grew g v w w1 v1) (k:Grew g v1 w1 w2 v2):Grew g v w w2 v2:=by
 have hz:=h.b0.size
 refine ⟨h.b0.trans k.b0,fun b hb=>?_,fun b hb hg hv=>?_⟩
 ·rcases k.row b hb with h1 | h1
  ·exact h.row b h1
  ·exact .inr (by omega)
 ·rw [k.keep b (by omega) hg (fun e=>?_),h.keep b hb hg hv]
  rcases h.row b e with h1 | h1
  ·exact hv h1
  ·omega
theorem WSt.lt {w:World}{B g:Nat}{v:Value}{l:List Int} (h:WSt w B g v l):g < w.heap.size:=lt_of_block h.blk
theorem WSt.leB {w:World}{B g:Nat}{v:Value}{l:List Int} (h:WSt w B g v l):B<=w.heap.size:=by have:=h.lt;have:=h.hB;omega
theorem WSt.below {w w':World}{B g:Nat}{v:Value}{l:List Int} (h:WSt w B g v l) (hb:Below w.heap.size w w'):WSt w' B g v l/\Grew g v w w' v :=
 ⟨⟨h.hB,by rw [hb.block g h.lt];exact h.blk,h.own.below hb,h.ne⟩,⟨hb.mono (Nat.zero_le _),fun _ hb => .inl hb,fun b hlt _ _=>hb.block b hlt⟩⟩
theorem WSt.stored {W w':World}{B g:Nat}{v v':Value}{l l':List Int} (h:WSt W B g v l) (own':OwnR w' B v' l') (hg:W.grownBy w' v.ownBlock) (hat:v'.ownBlock=v.ownBlock\/v'.ownBlock=some W.heap.size) :
  WSt (w'.setCell ⟨g,0,none⟩ v') B g v' l'/\Grew g v W (w'.setCell ⟨g,0,none⟩ v') v':=by
 have hb:w'.heap[g]?=some (.cells #[v] 86 (0,0)):=by rw [hg.block g h.lt h.ne.symm];exact h.blk
 have hne:v'.ownBlock≠some g:=by
  rcases hat with e | e
  ·rw [e];exact h.ne
  ·rw [e];have:=h.lt;simp;omega
 refine ⟨⟨h.hB,one_setCell hb,ownsRow_setCell_other own' hne _,hne⟩,⟨?_,?_,?_⟩⟩
 ·exact (((Below.refl 0 W).grown hg (Nat.zero_le _) fun _ _=>Nat.zero_le _)).setCell (Nat.zero_le _) _
 ·intro b hb
  rcases hat with e | e
  ·rw [e] at hb;exact .inl hb
  ·rw [e] at hb;simp at hb;exact .inr (by omega)
 ·intro b hlt hbg hv
  rw [Below.heap_setCell _ _ _ _ (by simpa using hbg),hg.block b hlt hv.symm]
theorem WSt.cell {w:World}{B g:Nat}{v:Value}{l:List Int} (h:WSt w B g v l):w.cell? ⟨g,0,none⟩=some v/\w.frozen? ⟨g,0,none⟩=false:=⟨cell_of_one h.blk,free_of_one h.blk⟩
theorem WSt.cellG {W w':World}{B g:Nat}{v:Value}{l:List Int} (h:WSt W B g v l) (hg:W.grownBy w' v.ownBlock):w'.cell? ⟨g,0,none⟩=some v/\w'.frozen? ⟨g,0,none⟩=false:=by
 have hb:w'.heap[g]?=some (.cells #[v] 86 (0,0)):=by rw [hg.block g h.lt h.ne.symm];exact h.blk
 exact ⟨cell_of_one hb,free_of_one hb⟩
theorem WSt.belowB {w w':World}{B g:Nat}{v v':Value}{l:List Int} (h:WSt w B g v l) (k:Grew g v w w' v'):Below B w w' :=
 ⟨k.b0.os,k.b0.tape,k.b0.output,k.b0.size,fun b hb=>k.keep b (by have:=h.leB;omega) (by have:=h.hB;omega) (fun e=>by have:=(World.ownsRow.lt h.own b e).1;omega)⟩
theorem wpList_appG {ops:Array Oper}{rest:List Oper}{o:Oper}{a:Act}{Q:Exit->Act->World->Prop}{w:World} (hgd:o.guard=none) (s x:Operand)
  (ho:o.op= .call { callee := .builtin .append,args:=#[s,x],argTypes:=#[27,27]})
  (B:Nat) (hBw:B<=w.heap.size) (v:Value) (l:List Int) (hs:a.eval s=v) (hown:OwnR w B v l) (b f n c:Nat) (m:List Int) (hn:n=m.length)
  (hx:a.eval x= .slice (some ⟨b,f,none⟩) n c) (hc:∀ i (h:i < m.length),w.cell? ⟨b,f+i,none⟩=some (.int .i32 m[i])) (hl:l.length+m.length<=1099511627776)
  (h:∀ av nn cv w',OwnR w' B (.slice av nn cv) (l++m)->w.grownBy w' v.ownBlock->((Value.slice av nn cv).ownBlock=v.ownBlock\/(Value.slice av nn cv).ownBlock=some w.heap.size)->wpList Tryz.prog ops Q rest (a.put o.dst (.slice av nn cv)) w'):wpList Tryz.prog ops Q (o::rest) a w:=by
 subst hn
 obtain ⟨i0,hi0,hz0,hz1,hz2⟩:=info_parts info_i32
 refine wpList_append_own_at _ hgd s x 27 ho B 21 i0 (.int .i32 0) 1 4 Tryz.underlying27 hi0 hz0 hz1 hz2 rfl (by omega) v l.length _ hs
  hown ⟨b,f,none⟩ m.length c (m.map (Value.int .i32)) hx (by simp) ?_ ?_ (by unfold maxLen;omega) (by omega) hBw ?_
 ·intro j u hj
  rw [List.getElem?_map] at hj
  obtain ⟨z,hz,rfl⟩:=Option.map_eq_some_iff.1 hj
  obtain ⟨hlt,rfl⟩:=List.getElem?_eq_some_iff.1 hz
  rw [<- hc j hlt]
  unfold Addr.add;split
  ·rename_i h0;subst h0;rfl
  ·rfl
 ·intro u hu
  obtain ⟨z,_,rfl⟩:=List.mem_map.1 hu
  rfl
 intro v' w' hown' hg _ hat
 have ho2:OwnR w' B v' (l++m):=by
  unfold OwnR
  rw [List.length_append,List.map_append]
  exact hown'
 obtain ⟨av,cv,rfl⟩:=ho2.len
 exact h av _ cv w' ho2 hg hat
def wordyB (c:Int):Bool:=digB c||decide (c=175)||letB c
theorem wordy_walk (c:Int) (w:World):Calls Tryz.prog 73 #[.int .i32 c] w fun e w'=>e= .returned (.bool (wordyB c))/\w=w':=by
 have HR:Hid (wordyB c=decide (48<=c/\c<=57\/c=175\/97<=c/\c<=122\/65<=c/\c<=90\/c=95\/c=8710)):=by
  unfold Hid wordyB digB letB;rw [Bool.eq_iff_iff];simp [or_assoc]
 generalize wordyB c=R at *
 go_enter Tryz.func73,Tryz.ntmps73
 go_wp2
 all_goals go_ret
 all_goals exact ⟨by rw [HR.out];clear HR;(show Ending.returned (Value.bool _)=_);refine congrArg (fun b=>Ending.returned (Value.bool b)) ?_;rw [Bool.eq_iff_iff];simp [*];try omega,rfl⟩
def blankB (x y:Int):Bool:=wordyB x&&wordyB y||decide (x=39)&&decide (y=39)
def joinP (l s:List Int):List Int:=if l≠[]/\s≠[]/\blankB (l.getLastD 0) (s.headD 0)=true then l++[32]++s else l++s
def Beside (w:World) (g:Nat) (v:Value) (b f:Nat) (s:List Int):Prop:=b≠g/\v.ownBlock≠some b/\b < w.heap.size/\∀ i (h:i < s.length),w.cell? ⟨b,f+i,none⟩=some (.int .i32 s[i])
theorem Beside.grew {w w':World}{g:Nat}{v v':Value}{b f:Nat}{s:List Int} (h:Beside w g v b f s) (k:Grew g v w w' v'):Beside w' g v' b f s:=by
 have hz:=k.b0.size
 refine ⟨h.1,fun e=>?_,by have:=h.2.2.1;omega,fun i hi=>?_⟩
 ·rcases k.row b e with h1 | h1
  ·exact h.2.1 h1
  ·have:=h.2.2.1;omega
 ·rw [World.cell?_of_block (k.keep b h.2.2.1 h.1 h.2.1)];exact h.2.2.2 i hi
theorem put_first (B g:Nat) (v:Value) (b f n c:Nat) (s:List Int) (w:World) (hw:WSt w B g v []) (hb:Beside w g v b f s) (hn:Hid (n=s.length)) (hl:s.length<=1099511627776) :
  Calls Tryz.prog 37 #[.pointer (some ⟨g,0,none⟩),.slice (some ⟨b,f,none⟩) n c] w fun e w'=>e= .returned (.tuple #[])/\∃ v',WSt w' B g v' s/\Grew g v w w' v':=by
 obtain ⟨A,z,cap,rfl,hz0⟩:∃ A z cap,v= .slice A z cap/\¬ 0 < z:=by
  obtain ⟨A,cap,h⟩:=hw.own.len
  exact ⟨A,_,cap,h,by simp⟩
 have HW:=Lib.hid hw
 have HBS:=Lib.hid hb
 have HL:=Lib.hid hl
 obtain ⟨hc,hf⟩:=hw.cell
 clear hw hb hl
 go_enter Tryz.func37,Tryz.ntmps37
 go_wp2_with (at_builtin;refine wpList_appG rfl _ _ rfl B HW.out.leB (.slice A z cap) [] rfl HW.out.own b f n c s hn.out rfl HBS.out.2.2.2 (by simpa using HL.out) ?_;intro av nn cv w1 hown hg hat;obtain ⟨hc1,hf1⟩:=HW.out.cellG hg;have HS:=Lib.hid (HW.out.stored hown hg hat);clear hown hg hat)
 go_end0
 exact ⟨rfl,_,HS.out.1,HS.out.2⟩
theorem one_cells (w:World) (c:Int):∀ i (h:i < [c].length),(w.alloc (.cells #[.int .i32 c] 21)).cell? ⟨w.heap.size,0+i,none⟩=some (.int .i32 [c][i]):=by
 intro i hi
 have h0:i=0:=by simpa using hi
 subst h0
 exact World.cell?_alloc_at _ _ _ _ rfl
theorem lenA {l s:List Int}{x c:Int} (h:l.length+s.length<=1099511627000):(l++[x]).length+[c].length<=1099511627776:=by simp;omega
theorem lenB {l s:List Int}{x c y:Int} (h:l.length+s.length<=1099511627000):(l++[x]++[c]).length+(y::s).length<=1099511627776:=by simp;omega
theorem wrap_pred {k:Nat} (h:k<=1099511627000):IntKind.i64.wrap (((k+1:Nat):Int) - 1)=(k:Int):=by
 have e:(((k+1:Nat):Int) - 1)=(k:Int):=by omega
 rw [e];exact IntWalk.i64_in _ (by omega)
theorem put_blank (B g:Nat) (v:Value) (b f n c:Nat) (l s:List Int) (x y:Int) (w:World) (hw:WSt w B g v (l++[x])) (hb:Beside w g v b f (y::s)) (hn:Hid (n=(y::s).length)) (hl:l.length+s.length<=1099511627000) (hB:blankB x y=true) :
  Calls Tryz.prog 37 #[.pointer (some ⟨g,0,none⟩),.slice (some ⟨b,f,none⟩) n c] w fun e w'=>e= .returned (.tuple #[])/\∃ v',WSt w' B g v' (l++[x]++[32]++y::s)/\Grew g v w w' v':=by
 have hrow:=hw.own
 obtain ⟨r,cap,rfl,hrc⟩:=hrow.form (by simp)
 have hlast:=hrc _ _ hrow l.length (by simp)
 rw [List.getElem_append_right (Nat.le_refl _)] at hlast
 simp only [Nat.sub_self,List.getElem_singleton] at hlast
 have hhead:=hb.2.2.2 0 (by simp)
 simp only [List.getElem_cons_zero,Nat.add_zero] at hhead
 have hn1:0 < n:=by rw [hn.out];simp
 obtain ⟨k,hk⟩:∃ k,k=l.length:=⟨_,rfl⟩
 simp only [List.length_append,List.length_singleton,<- hk] at hw hb hlast
 have hk2:k<=1099511627000:=by omega
 have HW:=Lib.hid hw
 have HBS:=Lib.hid hb
 have HL:=Lib.hid hl
 have HX:=Lib.hid (wordy_walk x)
 have HYY:=Lib.hid (wordy_walk y)
 obtain ⟨hc,hf⟩:=hw.cell
 have hq1:=wrap_pred hk2
 simp only [List.length_append,List.length_singleton,<- hk]
 have hways:(wordyB x=true/\wordyB y=true)\/(x=39/\y=39):=by
  unfold blankB at hB;simpa using hB
 clear hw hb hl hrow hrc hk hB
 rcases hways with ⟨hx,hy⟩ | ⟨rfl,rfl⟩
 ·rw [hx] at HX
  rw [hy] at HYY
  clear hx hy
  go_enter Tryz.func37,Tryz.ntmps37
  go_wp2_with fail
  go_quiet (fail)
  rename_i nq
  have hb1:Below w.heap.size w (w.drewN nq):=Below.drewN2 (Below.refl _ w) nq
  obtain ⟨hw1,hg1⟩:=HW.out.below hb1
  have HW1:=Lib.hid hw1
  have HG1:=Lib.hid hg1
  have HBS1:=Lib.hid (HBS.out.grew hg1)
  obtain ⟨hc,hf⟩:=hw1.cell
  have hhead:(w.drewN nq).cell? ⟨b,f,none⟩=some (.int .i32 y):=by have:=HBS1.out.2.2.2 0 (by simp);simpa using this
  clear hb1 hw1 hg1 hlast HW HBS hq1
  generalize w.drewN nq=w1 at *
  have HWA':=HW1.out.below ((Below.refl _ w1).alloc (Nat.le_refl _) (.cells #[.int .i32 32] 21))
  have HWA:=Lib.hid HWA'.1
  have HGA:=Lib.hid HWA'.2
  have HBA:=Lib.hid (HBS1.out.grew HWA'.2)
  clear HWA'
  go_wp2_with fail
  refine (HX.out _).mono ?_
  rintro e w' ⟨rfl,rfl⟩
  go_wp2_with fail
  refine (HYY.out _).mono ?_
  rintro e w' ⟨rfl,rfl⟩
  go_wp2_with (first | (at_builtin;refine wpList_appG rfl _ _ rfl B HWA.out.leB (.slice (some ⟨r,0,none⟩) (k+1) cap) (l++[x]) rfl (HW1.out.own.alloc _) w1.heap.size 0 1 1 [32] rfl rfl (one_cells _ 32) (lenA HL.out) ?_;intro av nn cv w2 hown hg hat;obtain ⟨hc2,hf2⟩:=HWA.out.cellG hg;have HS:=Lib.hid (HWA.out.stored hown hg hat);clear hown hg hat;have HSB:=Lib.hid (HBA.out.grew HS.out.2)) | (at_builtin;refine wpList_appG rfl _ _ rfl B HS.out.1.leB (.slice av nn cv) (l++[x]++[32]) rfl HS.out.1.own b f n c (y::s) hn.out rfl HSB.out.2.2.2 (lenB HL.out) ?_;intro av2 nn2 cv2 w3 hown hg hat;obtain ⟨hc3,hf3⟩:=HS.out.1.cellG hg;have HE:=Lib.hid (HS.out.1.stored hown hg hat);clear hown hg hat))
  go_end0
  exact ⟨rfl,_,HE.out.1,HG1.out.trans ((HGA.out.trans HS.out.2).trans HE.out.2)⟩
 ·have hx:wordyB 39=false:=by decide
  rw [hx] at HX
  clear hx HYY
  go_enter Tryz.func37,Tryz.ntmps37
  go_wp2_with fail
  go_quiet (fail)
  rename_i nq
  have hb1:Below w.heap.size w (w.drewN nq):=Below.drewN2 (Below.refl _ w) nq
  obtain ⟨hw1,hg1⟩:=HW.out.below hb1
  have HW1:=Lib.hid hw1
  have HG1:=Lib.hid hg1
  have HBS1:=Lib.hid (HBS.out.grew hg1)
  obtain ⟨hc,hf⟩:=hw1.cell
  have hhead:(w.drewN nq).cell? ⟨b,f,none⟩=some (.int .i32 39):=by have:=HBS1.out.2.2.2 0 (by simp);simpa using this
  clear hb1 hw1 hg1 hlast HW HBS hq1
  generalize w.drewN nq=w1 at *
  have HWA':=HW1.out.below ((Below.refl _ w1).alloc (Nat.le_refl _) (.cells #[.int .i32 32] 21))
  have HWA:=Lib.hid HWA'.1
  have HGA:=Lib.hid HWA'.2
  have HBA:=Lib.hid (HBS1.out.grew HWA'.2)
  clear HWA'
  go_wp2_with fail
  refine (HX.out _).mono ?_
  rintro e w' ⟨rfl,rfl⟩
  go_wp2_with (first | (at_builtin;refine wpList_appG rfl _ _ rfl B HWA.out.leB (.slice (some ⟨r,0,none⟩) (k+1) cap) (l++[39]) rfl (HW1.out.own.alloc _) w1.heap.size 0 1 1 [32] rfl rfl (one_cells _ 32) (lenA HL.out) ?_;intro av nn cv w2 hown hg hat;obtain ⟨hc2,hf2⟩:=HWA.out.cellG hg;have HS:=Lib.hid (HWA.out.stored hown hg hat);clear hown hg hat;have HSB:=Lib.hid (HBA.out.grew HS.out.2)) | (at_builtin;refine wpList_appG rfl _ _ rfl B HS.out.1.leB (.slice av nn cv) (l++[39]++[32]) rfl HS.out.1.own b f n c (39::s) hn.out rfl HSB.out.2.2.2 (lenB HL.out) ?_;intro av2 nn2 cv2 w3 hown hg hat;obtain ⟨hc3,hf3⟩:=HS.out.1.cellG hg;have HE:=Lib.hid (HS.out.1.stored hown hg hat);clear hown hg hat))
  go_end0
  exact ⟨rfl,_,HE.out.1,HG1.out.trans ((HGA.out.trans HS.out.2).trans HE.out.2)⟩
theorem put_plain (B g:Nat) (v:Value) (b f n c:Nat) (l s:List Int) (x y:Int) (w:World) (hw:WSt w B g v (l++[x])) (hb:Beside w g v b f (y::s)) (hn:Hid (n=(y::s).length)) (hl:l.length+s.length<=1099511627000) (hB:blankB x y=false) :
  Calls Tryz.prog 37 #[.pointer (some ⟨g,0,none⟩),.slice (some ⟨b,f,none⟩) n c] w fun e w'=>e= .returned (.tuple #[])/\∃ v',WSt w' B g v' (l++[x]++y::s)/\Grew g v w w' v':=by
 have hrow:=hw.own
 obtain ⟨r,cap,rfl,hrc⟩:=hrow.form (by simp)
 have hlast:=hrc _ _ hrow l.length (by simp)
 rw [List.getElem_append_right (Nat.le_refl _)] at hlast
 simp only [Nat.sub_self,List.getElem_singleton] at hlast
 have hhead:=hb.2.2.2 0 (by simp)
 simp only [List.getElem_cons_zero,Nat.add_zero] at hhead
 have hn1:0 < n:=by rw [hn.out];simp
 obtain ⟨k,hk⟩:∃ k,k=l.length:=⟨_,rfl⟩
 simp only [List.length_append,List.length_singleton,<- hk] at hw hb hlast
 have hk2:k<=1099511627000:=by omega
 have HW:=Lib.hid hw
 have HBS:=Lib.hid hb
 have HL:=Lib.hid hl
 have HX:=Lib.hid (wordy_walk x)
 have HYY:=Lib.hid (wordy_walk y)
 obtain ⟨hc,hf⟩:=hw.cell
 have hq1:=wrap_pred hk2
 simp only [List.length_append,List.length_singleton,<- hk]
 have hways:(wordyB x=true/\wordyB y=false/\(x==39)=false)\/(wordyB x=false/\(x==39)=false)\/(wordyB x=false/\(x==39)=true/\(y==39)=false):=by
  have h39:wordyB 39=false:=by decide
  unfold blankB at hB
  by_cases e:x=39
  ·subst e
   simp only [h39,Bool.false_and,Bool.false_or,decide_true,Bool.true_and,decide_eq_false_iff_not] at hB
   exact .inr (.inr ⟨h39,by simp,by simpa using hB⟩)
  ·cases hx:wordyB x with
   | false=>exact .inr (.inl ⟨rfl,by simpa using e⟩)
   | true=>rw [hx] at hB;exact .inl ⟨rfl,by simpa [e] using hB,by simpa using e⟩
 clear hw hb hl hrow hrc hk hB
 rcases hways with ⟨hx,hy,h1⟩ | ⟨hx,h1⟩ | ⟨hx,h1,h2⟩
 ·rw [hx] at HX
  rw [hy] at HYY
  clear hx hy
  go_enter Tryz.func37,Tryz.ntmps37
  go_wp2_with fail
  go_quiet (fail)
  rename_i nq
  have hb1:Below w.heap.size w (w.drewN nq):=Below.drewN2 (Below.refl _ w) nq
  obtain ⟨hw1,hg1⟩:=HW.out.below hb1
  have HW1:=Lib.hid hw1
  have HG1:=Lib.hid hg1
  have HBS1:=Lib.hid (HBS.out.grew hg1)
  obtain ⟨hc,hf⟩:=hw1.cell
  have hhead:(w.drewN nq).cell? ⟨b,f,none⟩=some (.int .i32 y):=by have:=HBS1.out.2.2.2 0 (by simp);simpa using this
  clear hb1 hw1 hg1 hlast HW HBS hq1
  generalize w.drewN nq=w1 at *
  go_wp2_with fail
  refine (HX.out _).mono ?_
  rintro e w' ⟨rfl,rfl⟩
  go_wp2_with fail
  refine (HYY.out _).mono ?_
  rintro e w' ⟨rfl,rfl⟩
  go_wp2_with (at_builtin;refine wpList_appG rfl _ _ rfl B HW1.out.leB (.slice (some ⟨r,0,none⟩) (k+1) cap) (l++[x]) rfl HW1.out.own b f n c (y::s) hn.out rfl HBS1.out.2.2.2 (by have:=HL.out;first | (simp;omega) | (simp;done) | omega) ?_;intro av2 nn2 cv2 w3 hown hg hat;obtain ⟨hc3,hf3⟩:=HW1.out.cellG hg;have HE:=Lib.hid (HW1.out.stored hown hg hat);clear hown hg hat)
  go_end0
  exact ⟨rfl,_,HE.out.1,HG1.out.trans HE.out.2⟩
 ·rw [hx] at HX
  clear hx HYY
  go_enter Tryz.func37,Tryz.ntmps37
  go_wp2_with fail
  go_quiet (fail)
  rename_i nq
  have hb1:Below w.heap.size w (w.drewN nq):=Below.drewN2 (Below.refl _ w) nq
  obtain ⟨hw1,hg1⟩:=HW.out.below hb1
  have HW1:=Lib.hid hw1
  have HG1:=Lib.hid hg1
  have HBS1:=Lib.hid (HBS.out.grew hg1)
  obtain ⟨hc,hf⟩:=hw1.cell
  have hhead:(w.drewN nq).cell? ⟨b,f,none⟩=some (.int .i32 y):=by have:=HBS1.out.2.2.2 0 (by simp);simpa using this
  clear hb1 hw1 hg1 hlast HW HBS hq1
  generalize w.drewN nq=w1 at *
  go_wp2_with fail
  refine (HX.out _).mono ?_
  rintro e w' ⟨rfl,rfl⟩
  go_wp2_with (at_builtin;refine wpList_appG rfl _ _ rfl B HW1.out.leB (.slice (some ⟨r,0,none⟩) (k+1) cap) (l++[x]) rfl HW1.out.own b f n c (y::s) hn.out rfl HBS1.out.2.2.2 (by have:=HL.out;first | (simp;omega) | (simp;done) | omega) ?_;intro av2 nn2 cv2 w3 hown hg hat;obtain ⟨hc3,hf3⟩:=HW1.out.cellG hg;have HE:=Lib.hid (HW1.out.stored hown hg hat);clear hown hg hat)
  go_end0
  exact ⟨rfl,_,HE.out.1,HG1.out.trans HE.out.2⟩
 ·rw [hx] at HX
  clear hx HYY
  go_enter Tryz.func37,Tryz.ntmps37
  go_wp2_with fail
  go_quiet (fail)
  rename_i nq
  have hb1:Below w.heap.size w (w.drewN nq):=Below.drewN2 (Below.refl _ w) nq
  obtain ⟨hw1,hg1⟩:=HW.out.below hb1
  have HW1:=Lib.hid hw1
  have HG1:=Lib.hid hg1
  have HBS1:=Lib.hid (HBS.out.grew hg1)
  obtain ⟨hc,hf⟩:=hw1.cell
  have hhead:(w.drewN nq).cell? ⟨b,f,none⟩=some (.int .i32 y):=by have:=HBS1.out.2.2.2 0 (by simp);simpa using this
  clear hb1 hw1 hg1 hlast HW HBS hq1
  generalize w.drewN nq=w1 at *
  go_wp2_with fail
  refine (HX.out _).mono ?_
  rintro e w' ⟨rfl,rfl⟩
  go_wp2_with (at_builtin;refine wpList_appG rfl _ _ rfl B HW1.out.leB (.slice (some ⟨r,0,none⟩) (k+1) cap) (l++[x]) rfl HW1.out.own b f n c (y::s) hn.out rfl HBS1.out.2.2.2 (by have:=HL.out;first | (simp;omega) | (simp;done) | omega) ?_;intro av2 nn2 cv2 w3 hown hg hat;obtain ⟨hc3,hf3⟩:=HW1.out.cellG hg;have HE:=Lib.hid (HW1.out.stored hown hg hat);clear hown hg hat)
  go_end0
  exact ⟨rfl,_,HE.out.1,HG1.out.trans HE.out.2⟩
theorem joinP_nil (s:List Int):joinP [] s=s:=by unfold joinP;simp
theorem put_walk (B g:Nat) (v:Value) (b f n c:Nat) (l s:List Int) (w:World) (hs:s≠[]) (hw:WSt w B g v l) (hb:Beside w g v b f s) (hn:n=s.length) (hl:l.length+s.length<=1099511627000) :
  Calls Tryz.prog 37 #[.pointer (some ⟨g,0,none⟩),.slice (some ⟨b,f,none⟩) n c] w fun e w'=>e= .returned (.tuple #[])/\∃ v',WSt w' B g v' (joinP l s)/\Grew g v w w' v':=by
 match s,hs with
 | y::s',_ =>
  by_cases h0:l=[]
  ·subst h0
   rw [joinP_nil]
   exact put_first B g v b f n c (y::s') w hw hb hn (by rw [List.length_nil] at hl;omega)
  ·obtain ⟨r,x,rfl⟩:∃ r x,l=r++[x]:=⟨l.dropLast,l.getLast h0,(List.dropLast_concat_getLast _).symm⟩
   have e:joinP (r++[x]) (y::s')=if blankB x y=true then r++[x]++[32]++y::s' else r++[x]++y::s':=by
    unfold joinP;simp
   rw [e]
   simp only [List.length_append,List.length_cons,List.length_nil] at hl
   cases hB:blankB x y with
   | true=>exact put_blank B g v b f n c r s' x y w hw hb hn (by omega) hB
   | false=>exact put_plain B g v b f n c r s' x y w hw hb hn (by omega) hB
end Go.Proofs.YtbakjaliponbbaaGreatDoor
