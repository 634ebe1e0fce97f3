/- The walk of the reference's GoodName. A node of the reference's, taken apart; the reference's only, upper, named. The reference's prim, folded, same over .. Conditions: as each theorem says. -/
import Derived.Test.YtbakjaliponbbaaGreatDoorMg00
import Derived.Test.YtbakjaliponbbaaGreatDoorMg04
import Derived.Test.YtbakjaliponbbaaGreatDoorMg02
import Derived.Test.YtbakjaliponbbaaGreatDoorMg19
import Derived.Test.YtbakjaliponbbaaGreatDoorMg22
set_option maxRecDepth 100000
set_option maxHeartbeats 3200000
namespace Go.Proofs.YtbakjaliponbbaaGreatDoor
open Go Go.RowKit Go.Proofs
def badB (c:Int) (k:Nat):Bool := !letB c&&(decide (k=0)||!digB c)
theorem good_bad {l:List Int}{k:Nat} (hk:k < l.length) (h:badB (l.getD k 0) k=true):goodNB l=false:=by
 unfold badB at h
 simp only [Bool.and_eq_true,Bool.not_eq_true',Bool.or_eq_true,decide_eq_true_eq] at h
 unfold goodNB
 by_cases h0:k=0
 ·subst h0;rw [h.1];simp
 ·have:l.any oddB=true:=any_at hk (by unfold oddB;rw [h.1,h.2.resolve_left h0];rfl)
  rw [this];simp
theorem good_fine {l:List Int} (h:∀ k,k < l.length->badB (l.getD k 0) k=false):goodNB l=(decide (1<=l.length)&&decide (l.length<=32)):=by
 unfold goodNB
 by_cases hl:1<=l.length
 ·have h1:letB (l.getD 0 0)=true:=by have:=h 0 (by omega);unfold badB at this;simpa using this
  have h2:l.any oddB=false:=any_no fun k hk=>by
   have:=h k hk
   unfold badB at this
   unfold oddB
   by_cases h0:k=0
   ·subst h0;rw [h1];rfl
   ·simpa [h0] using this
  rw [h1,h2];simp
 ·rw [decide_eq_false hl];simp
theorem rGood_walk (v:Value) (l:List Int) (w:World) (hr:Runes w v l) (hl:l.length<=140737488351232) :
  Calls Tryz.prog 103 #[v] w fun e w'=>e= .returned (.bool (goodNB l))/\w=w':=by
 obtain ⟨A,cc,n,rfl,hn,hcell⟩:=hr.opn
 have HC:=Lib.hid hcell
 have HN:=Lib.hid hn
 have hn2:n<=140737488351232:=by omega
 have HY:Hid (∀ k,k < l.length->badB (l.getD k 0) k=true->goodNB l=false):=fun k h h2=>good_bad h h2
 have HX:Hid ((∀ k,k < l.length->badB (l.getD k 0) k=false)->goodNB l=(decide (1<=l.length)&&decide (l.length<=32))):=fun h=>good_fine h
 clear hcell hn hr hl
 go_enter Tryz.func103,Tryz.ntmps103
 go_wp2
 go_loop [3] (fun i=>∃ k:Nat,k<=n/\i= .int .i64 (k:Int)/\Hid (∀ j,j < k->badB (l.getD j 0) j=false)) (fun i=>n - (intOf i).toNat)
 case atStart=>exact ⟨0,Nat.zero_le _,rfl,fun j h=>absurd h (by omega)⟩
 case round =>
  obtain ⟨k,hk,rfl,hall⟩:=hrel
  by_cases hlt:k < n
  ·have hkl:k < l.length:=by have:=HN.out;omega
   obtain ⟨b,o,rfl,hce⟩:=HC.out k hkl
   have hce2:=hce _ (Below.refl _ _)
   clear hce
   obtain ⟨x,hx⟩:∃ x,x=l.getD k 0:=⟨_,rfl⟩
   rw [<- hx] at hce2
   have HXX:=Lib.hid hx
   clear hx
   have HL:=Lib.hid (letter_walk x)
   have HLW:Hid (∀ w,Calls Tryz.prog 161 #[.int .i32 x] w fun e w'=>e= .returned (.bool (letB x))/\w=w'):=rLetter_walk x
   have HDW:Hid (∀ w,Calls Tryz.prog 162 #[.int .i32 x] w fun e w'=>e= .returned (.bool (digB x))/\w=w'):=rDigit_walk x
   cases hb:letB x with
   | true =>
    have HA:Hid (∀ j,j < k+1->badB (l.getD j 0) j=false):=by
     intro j hj
     rcases Nat.lt_or_ge j k with h | h
     ·exact hall.out j h
     ·obtain rfl:j=k:=by omega
      rw [<- HXX.out];unfold badB;rw [hb];rfl
    rw [hb] at HLW
    clear hall hb HL
    go_wp2_with fail
    refine (HLW.out _).mono ?_
    rintro e w' ⟨rfl,rfl⟩
    go_wp2
    go_round
    case rel=>exact ⟨k+1,by omega,by go_num,HA⟩
    case measure=>simp [intOf];omega
   | false =>
    by_cases h0:k=0
    ·have HT:=Lib.hid (HY.out k hkl (by rw [<- HXX.out];unfold badB;rw [hb,decide_eq_true h0];rfl))
     rw [hb] at HLW
     subst h0
     rw [Nat.add_zero] at hce2
     clear hall hb HL
     go_wp2_with fail
     refine (HLW.out _).mono ?_
     rintro e w' ⟨rfl,rfl⟩
     go_wp2
     go_ret
     exact ⟨by rw [HT.out];rfl,rfl⟩
    ·have hk0:((k:Int)==0)=false:=by simp;omega
     cases hd:digB x with
     | true =>
      have HA:Hid (∀ j,j < k+1->badB (l.getD j 0) j=false):=by
       intro j hj
       rcases Nat.lt_or_ge j k with h | h
       ·exact hall.out j h
       ·obtain rfl:j=k:=by omega
        rw [<- HXX.out];unfold badB;rw [hb,hd,decide_eq_false h0];rfl
      rw [hb] at HLW
      rw [hd] at HDW
      clear hall hb HL hd
      go_wp2_with fail
      refine (HLW.out _).mono ?_
      rintro e w' ⟨rfl,rfl⟩
      go_wp2_with fail
      refine (HDW.out _).mono ?_
      rintro e w' ⟨rfl,rfl⟩
      go_wp2
      go_round
      case rel=>exact ⟨k+1,by omega,by go_num,HA⟩
      case measure=>simp [intOf];omega
     | false =>
      have HT:=Lib.hid (HY.out k hkl (by rw [<- HXX.out];unfold badB;rw [hb,hd];simp))
      rw [hb] at HLW
      rw [hd] at HDW
      clear hall hb HL hd
      go_wp2_with fail
      refine (HLW.out _).mono ?_
      rintro e w' ⟨rfl,rfl⟩
      go_wp2_with fail
      refine (HDW.out _).mono ?_
      rintro e w' ⟨rfl,rfl⟩
      go_wp2
      go_ret
      exact ⟨by rw [HT.out];rfl,rfl⟩
  ·have HT:Hid (goodNB l=(decide (1<=n)&&decide (n<=32))):=by
    unfold Hid;rw [HX.out fun j hj=>hall.out j (by have:=HN.out;omega),<- HN.out]
   clear hall
   by_cases h1:1<=n
   ·have HT2:Hid (goodNB l=decide (n<=32)):=by unfold Hid;rw [HT.out,decide_eq_true h1];rfl
    clear HT
    by_cases h2:n<=32
    ·have HT3:Hid (goodNB l=true):=by unfold Hid;rw [HT2.out,decide_eq_true h2]
     clear HT2
     go_wp2
     go_ret
     exact ⟨by rw [HT3.out];show Ending.returned (Value.bool _)=_;refine congrArg (fun b=>Ending.returned (Value.bool b)) ?_;simp;omega,rfl⟩
    ·have HT3:Hid (goodNB l=false):=by unfold Hid;rw [HT2.out,decide_eq_false h2]
     clear HT2
     go_wp2
     go_ret
     exact ⟨by rw [HT3.out];show Ending.returned (Value.bool _)=_;refine congrArg (fun b=>Ending.returned (Value.bool b)) ?_;simp;omega,rfl⟩
   ·have HT3:Hid (goodNB l=false):=by unfold Hid;rw [HT.out,decide_eq_false h1];rfl
    clear HT
    go_wp2
    go_ret
    exact ⟨by rw [HT3.out];rfl,rfl⟩
end Go.Proofs.YtbakjaliponbbaaGreatDoor
namespace Go.Proofs.YtbakjaliponbbaaGreatDoor
open Go Go.RowKit Go.Proofs Fl
def KidR (w:World) (A:Option Addr) (kids:List RTree):Prop :=
 ∀ i (hi:i < kids.length),∃ b o v0 v1 v2 v3 v4 v5,A=some ⟨b,o,none⟩/\RN w kids[i] [v0,v1,v2,v3,v4,v5]/\∀ w1,Below w.heap.size w w1 ->
    w1.cell? ⟨b,o+i*6,none⟩=some v0/\w1.cell? ⟨b,o+i*6+1,none⟩=some v1/\w1.cell? ⟨b,o+i*6+2,none⟩=some v2/\w1.cell? ⟨b,o+i*6+3,none⟩=some v3/\w1.cell? ⟨b,o+i*6+4,none⟩=some v4/\w1.cell? ⟨b,o+i*6+5,none⟩=some v5
theorem KidR.below {w w':World}{A:Option Addr}{kids:List RTree} (h:KidR w A kids) (hb:Below w.heap.size w w'):KidR w' A kids:=by
 intro i hi
 obtain ⟨b,o,v0,v1,v2,v3,v4,v5,h1,h2,h3⟩:=h i hi
 exact ⟨b,o,v0,v1,v2,v3,v4,v5,h1,RN.below hb _ _ h2,fun w1 hb1=>h3 w1 (hb.trans (hb1.mono hb.size))⟩
theorem KidR.tail {w:World}{b o:Nat}{t:RTree}{ts:List RTree} (h:KidR w (some ⟨b,o,none⟩) (t::ts)):KidR w (some ⟨b,o+6,none⟩) ts:=by
 intro i hi
 obtain ⟨b',o',v0,v1,v2,v3,v4,v5,h1,h2,h3⟩:=h (i+1) (by simpa using hi)
 cases h1
 refine ⟨b,o+6,v0,v1,v2,v3,v4,v5,rfl,by simpa using h2,fun w1 hb=>?_⟩
 have:=h3 w1 hb
 have e:o+(i+1)*6=o+6+i*6:=by omega
 rwa [e] at this
theorem KidR.front {w:World}{A:Option Addr}{ts us:List RTree} (h:KidR w A (ts++us)):KidR w A ts:=by
 intro i hi
 have:=h i (by simp;omega)
 rwa [List.getElem_append_left hi] at this
theorem KidR.head {w:World}{A:Option Addr}{t:RTree}{ts:List RTree} (h:KidR w A (t::ts)):KidR w A [t]:=KidR.front (ts:=[t]) (us:=ts) h
theorem KidR.back {w:World}{b o j:Nat}{t:RTree}{ts:List RTree} (h:KidR w (some ⟨b,o,none⟩) (ts++[t])) (hj:j=ts.length):KidR w (some ⟨b,o+j*6,none⟩) [t]:=by
 subst hj
 intro i hi
 obtain rfl:i=0:=by simpa using hi
 obtain ⟨b',o',v0,v1,v2,v3,v4,v5,h1,h2,h3⟩:=h ts.length (by simp)
 cases h1
 exact ⟨b,o+ts.length*6,v0,v1,v2,v3,v4,v5,rfl,by simpa using h2,fun w1 hb=>by simpa using h3 w1 hb⟩
theorem KidR.some {w:World}{A:Option Addr}{kids:List RTree} (h:KidR w A kids) (h0:0 < kids.length):∃ b o,A=some ⟨b,o,none⟩:=by
 obtain ⟨b,o,_,_,_,_,_,_,e,_⟩:=h 0 h0
 exact ⟨b,o,e⟩
structure NodR (N:Nat) (w:World) (A1:Option Addr) (n1 c1:Nat) (A2:Option Addr) (n2 c2:Nat) (name:ByteArray) (A:Option Addr) (m cc:Nat) (nums:List Nat) (text:List Int) (kids:List RTree):Prop where
 hn:n1=nums.length
 ht:n2=text.length
 hm:m=kids.length
 hrn:Reads1 w (.slice A1 n1 c1) (nums.map (Value.float .f64))
 hrt:Reads1 w (.slice A2 n2 c2) (text.map (Value.int .i32))
 hkid:KidR w A kids
 hcap:m<=cc
 fn:nums.length<=1048576
 fx:∀ x∈nums,x < 18446744073709551616
 ft:text.length<=1048576
 fs:name.size<=70368744177664
 fm:m<=1048576
 ok:∀ i (hi:i < kids.length),sizeR kids[i]<=N/\FitG kids[i]
theorem RN.node {N:Nat}{w:World}{k:Int}{nums:List Nat}{text:List Int}{name:ByteArray}{c:Int}{kids:List RTree}{v0 v1 v2 v3 v4 v5:Value} (h:RN w (.mk k nums text name c kids) [v0,v1,v2,v3,v4,v5]) (hf:FitG (.mk k nums text name c kids)) (hN:sizeR (.mk k nums text name c kids)<=N+1) :
  ∃ A1 n1 c1 A2 n2 c2 A m cc,v0= .int .i64 k/\v1= .slice A1 n1 c1/\v2= .slice A2 n2 c2/\v3= .string name/\v4= .int .i32 c/\v5= .slice A m cc/\NodR N w A1 n1 c1 A2 n2 c2 name A m cc nums text kids:=by
 obtain ⟨nv,tv,A,cc,m,hvs,hrn,hrt,hm,hkid⟩:=h.open_
 simp only [List.cons.injEq,and_true] at hvs
 obtain ⟨rfl,rfl,rfl,rfl,rfl,rfl⟩:=hvs
 obtain ⟨A1,c1,n1,rfl,hn1,_⟩:=hrn.opn
 obtain ⟨A2,c2,n2,rfl,hn2,_⟩:=hrt.opn
 rw [FitG] at hf
 rw [sizeR] at hN
 refine ⟨A1,n1,c1,A2,n2,c2,A,m,cc,rfl,rfl,rfl,rfl,rfl,rfl,⟨by simpa using hn1,by simpa using hn2,hm,hrn,hrt,hkid,h.cap,hf.1,hf.2.1,hf.2.2.1,hf.2.2.2.1,by rw [hm];exact hf.2.2.2.2.1,fun i hi=>⟨?_,FitGs_at hf.2.2.2.2.2 hi⟩⟩⟩
 have:=sizeRs_at hi
 omega
def nmK (k:Int):Bool:=decide (k=3)||decide (k=11)||decide (k=12)||decide (k=14)||decide (k=20)
def chK (k:Int):Bool:=decide (k=13)||decide (k=16)
def onlyB (k:Int) (nums:List Nat) (text:List Int) (name:ByteArray) (c:Int):Bool:=plainB k nums text name c [] (-1) (nmK k) (chK k)
theorem pl_n {k:Int}{nums:List Nat}{text:List Int}{name:ByteArray}{c:Int}{kids:List RTree}{n:Int}{nm ch:Bool} (hn:0<=n):plainB k nums text name c kids n nm ch=(decide ((kids.length:Int)=n)&&plainB k nums text name c [] (-1) nm ch):=by
 unfold plainB
 rw [decide_eq_false (show ¬ n < 0 by omega)]
 simp [Bool.and_assoc]
theorem pl_m {k:Int}{nums:List Nat}{text:List Int}{name:ByteArray}{c:Int}{kids:List RTree}{nm ch:Bool}:plainB k nums text name c kids (-1) nm ch=plainB k nums text name c [] (-1) nm ch:=by
 unfold plainB
 rfl
theorem only_walk (k:Int) (A1:Option Addr) (n1 c1:Nat) (A2:Option Addr) (n2 c2:Nat) (name:ByteArray) (c:Int) (A:Option Addr) (m cc:Nat) (nums:List Nat) (text:List Int) (hn:n1=nums.length) (ht:n2=text.length) (w:World) :
  Calls Tryz.prog 53 #[.agg #[.int .i64 k,.slice A1 n1 c1,.slice A2 n2 c2,.string name,.int .i32 c,.slice A m cc]] w
   fun e w'=>e= .returned (.bool (onlyB k nums text name c))/\Below w.heap.size w w':=by
 obtain ⟨R,hR⟩:∃ R,R=onlyB k nums text name c:=⟨_,rfl⟩
 obtain ⟨q,hq⟩:∃ q,q=nmK k:=⟨_,rfl⟩
 have HQ:Hid (q=((k==3)||(k==11)||(k==12)||(k==14)||(k==20))):=hq
 have HR:Hid (R=((q||decide (name.toList=[]))&&(((k==13)||(k==16))||decide (c=0))&&((k==1)||decide (n1=0))&&((k==2)||decide (n2=0)))):=by
  unfold Hid;rw [hR,hn,ht];unfold onlyB plainB;rw [<- hq];rfl
 rw [<- hR]
 clear hR hn ht hq
 obtain ⟨a3,h3⟩:∃ a:Bool,(k==3)=a:=⟨_,rfl⟩
 obtain ⟨a11,h11⟩:∃ a:Bool,(k==11)=a:=⟨_,rfl⟩
 obtain ⟨a12,h12⟩:∃ a:Bool,(k==12)=a:=⟨_,rfl⟩
 obtain ⟨a14,h14⟩:∃ a:Bool,(k==14)=a:=⟨_,rfl⟩
 obtain ⟨a20,h20⟩:∃ a:Bool,(k==20)=a:=⟨_,rfl⟩
 obtain ⟨a13,h13⟩:∃ a:Bool,(k==13)=a:=⟨_,rfl⟩
 obtain ⟨a16,h16⟩:∃ a:Bool,(k==16)=a:=⟨_,rfl⟩
 obtain ⟨a1,h1⟩:∃ a:Bool,(k==1)=a:=⟨_,rfl⟩
 obtain ⟨a2,h2⟩:∃ a:Bool,(k==2)=a:=⟨_,rfl⟩
 rw [h3,h11,h12,h14,h20] at HQ
 rw [h13,h16,h1,h2] at HR
 go_enter Tryz.func53,Tryz.ntmps53
 go_upto_region 2 with fail
 go_cut [4] from 5 (fun bv wx=>bv= .bool q/\wx=w.alloc (.cells #[.int .i64 k,.slice A1 n1 c1,.slice A2 n2 c2,.string name,.int .i32 c,.slice A m cc] 29))
 case first =>
  clear h13 h16 h1 h2 HR
  cases a3 <;> cases a11 <;> cases a12 <;> cases a14 <;> cases a20
  all_goals
   go_wp2
   go_meet
   exact ⟨by rw [HQ.out];rfl,rfl⟩
 case rest =>
  obtain ⟨rfl,rfl⟩:=hcut
  clear HQ h3 h11 h12 h14 h20
  cases q <;> cases a13 <;> cases a16 <;> cases a1 <;> cases a2
  all_goals
   go_wp2
  all_goals go_ret
  all_goals exact ⟨by rw [HR.out];clear HR;first | rfl | (show Ending.returned (Value.bool _)=_;refine congrArg (fun b=>Ending.returned (Value.bool b)) ?_;first | (simp [*];done) | (rw [Bool.eq_iff_iff];simp [*];done) | (rw [Bool.eq_iff_iff];simp [*];omega)),(Below.refl _ w).alloc (Nat.le_refl _) _⟩
theorem rupper_walk (s:ByteArray) (w:World):Calls Tryz.prog 104 #[.string s] w fun e w'=>e= .returned (.bool (upB s))/\w=w':=by
 by_cases h:0 < s.size
 ·have HU:=Lib.hid (upB_eq h)
  by_cases h1:65<=(s[0]'h).toNat
  ·by_cases h2:(s[0]'h).toNat<=90
   ·have HT:Hid (upB s=true):=by unfold Hid;rw [HU.out,decide_eq_true h1,decide_eq_true h2];rfl
    clear HU
    go_enter Tryz.func104,Tryz.ntmps104
    go_wp2
    go_ret
    exact ⟨by rw [HT.out];show Ending.returned (Value.bool _)=_;refine congrArg (fun b=>Ending.returned (Value.bool b)) ?_;simp;omega,rfl⟩
   ·have HT:Hid (upB s=false):=by unfold Hid;rw [HU.out,decide_eq_false h2];simp
    clear HU
    go_enter Tryz.func104,Tryz.ntmps104
    go_wp2
    go_ret
    exact ⟨by rw [HT.out];show Ending.returned (Value.bool _)=_;refine congrArg (fun b=>Ending.returned (Value.bool b)) ?_;simp;omega,rfl⟩
  ·have HT:Hid (upB s=false):=by unfold Hid;rw [HU.out,decide_eq_false h1];rfl
   clear HU
   go_enter Tryz.func104,Tryz.ntmps104
   go_wp2
   go_ret
   exact ⟨by rw [HT.out];rfl,rfl⟩
 ·have HU:=Lib.hid (upB_nil (s:=s) (by omega))
  go_enter Tryz.func104,Tryz.ntmps104
  go_wp2
  go_ret
  exact ⟨by rw [HU.out];rfl,rfl⟩
theorem named_walk (k:Int) (v1 v2 v5:Value) (name:ByteArray) (c:Int) (fn:Bool) (w:World) (hs:name.size<=70368744177664) :
  Calls Tryz.prog 56 #[.agg #[.int .i64 k,v1,v2,.string name,.int .i32 c,v5],.bool fn] w
   fun e w'=>e= .returned (.bool (goodNB (runesOf name)&&(upB name==fn)))/\Below w.heap.size w w':=by
 obtain ⟨W0,hW0⟩:∃ W0,W0=w.alloc (.cells #[.int .i64 k,v1,v2,.string name,.int .i32 c,v5] 29):=⟨_,rfl⟩
 have HW0:=Lib.hid hW0
 have x3:W0.cell? ⟨w.heap.size,3,none⟩=some (.string name):=by rw [hW0,World.cell?_alloc_at _ _ _ _ rfl];rfl
 have hlt:w.heap.size < W0.heap.size:=by rw [hW0];simp
 have hbw:Below w.heap.size w W0:=by rw [hW0];exact (Below.refl _ w).alloc (Nat.le_refl _) _
 obtain ⟨cc,w1,hcv,hr,hb1,hcc⟩:=conv_str name W0 hs
 have hl:=runesOf_len name
 have HG:=Lib.hid (rGood_walk _ (runesOf name) w1 hr (by omega))
 have HU:=Lib.hid (rupper_walk name w1)
 have HB:=Lib.hid (hbw.trans (hb1.mono (by omega)))
 have hX:w1.cell? ⟨w.heap.size,3,none⟩=some (.string name):=by
  rw [hb1.cell (p:=⟨w.heap.size,3,none⟩) hlt];exact x3
 have HX:=Lib.hid hX
 clear hr hb1 hcc hl hs hX hW0 hbw hlt
 generalize goodNB (runesOf name)=g at HG ⊢
 generalize upB name=u at HU ⊢
 generalize (runesOf name).length=rl at hcv HG
 go_enter Tryz.func56,Tryz.ntmps56
 go_upto_region 1 with fail
 rw [<- HW0.out]
 go_wp2_with fail
 refine HG.out.mono ?_
 rintro e w2 ⟨rfl,rfl⟩
 have hX:=HX.out
 cases g with
 | false =>
  go_wp2
  go_ret
  exact ⟨rfl,HB.out⟩
 | true =>
  go_wp2_with fail
  refine HU.out.mono ?_
  rintro e w3 ⟨rfl,rfl⟩
  go_wp2
  go_ret
  exact ⟨by cases u <;> cases fn <;> rfl,HB.out⟩
def KidQ (w:World) (b o:Nat) (v0 v1 v2 v3 v4 v5:Value):Prop:=∀ w1,Below w.heap.size w w1->w1.cell? ⟨b,o,none⟩=some v0/\w1.cell? ⟨b,o+1,none⟩=some v1/\w1.cell? ⟨b,o+2,none⟩=some v2/\w1.cell? ⟨b,o+3,none⟩=some v3/\w1.cell? ⟨b,o+4,none⟩=some v4/\w1.cell? ⟨b,o+5,none⟩=some v5
theorem KidR.kid {w:World}{A:Option Addr}{kids:List RTree} (h:KidR w A kids) (i:Nat) (hi:i < kids.length):∃ b o v0 v1 v2 v3 v4 v5,A=Option.some ⟨b,o,none⟩/\RN w kids[i] [v0,v1,v2,v3,v4,v5]/\KidQ w b (o+i*6) v0 v1 v2 v3 v4 v5:=h i hi
theorem RN.vals {w:World}{t:RTree}{v0 v1 v2 v3 v4 v5:Value} (h:RN w t [v0,v1,v2,v3,v4,v5]) :
  ∃ (A1:Option Addr) (n1 c1:Nat) (A2:Option Addr) (n2 c2:Nat) (A:Option Addr) (m cc:Nat),v0= .int .i64 (kindR t)/\v1= .slice A1 n1 c1/\v2= .slice A2 n2 c2/\v3= .string (nameR t)/\v4= .int .i32 (charR t)/\v5= .slice A m cc/\m=(kidsR t).length /\
   ∀ i,i < (kidsR t).length->∃ b o u0 u1 u2 u3 u4 u5,A=some ⟨b,o,none⟩/\RN w (kidR t i) [u0,u1,u2,u3,u4,u5]/\KidQ w b (o+i*6) u0 u1 u2 u3 u4 u5:=by
 cases t with
 | mk k nums text name c kids =>
  obtain ⟨nv,tv,A,cc,m,hvs,hrn,hrt,hm,hkid⟩:=h.open_
  simp only [List.cons.injEq,and_true] at hvs
  obtain ⟨rfl,rfl,rfl,rfl,rfl,rfl⟩:=hvs
  obtain ⟨A1,c1,n1,rfl,_,_⟩:=hrn.opn
  obtain ⟨A2,c2,n2,rfl,_,_⟩:=hrt.opn
  refine ⟨A1,n1,c1,A2,n2,c2,A,m,cc,rfl,rfl,rfl,rfl,rfl,rfl,hm,fun i hi=>?_⟩
  obtain ⟨b,o,u0,u1,u2,u3,u4,u5,e,ht,hc⟩:=KidR.kid hkid i hi
  exact ⟨b,o,u0,u1,u2,u3,u4,u5,e,by rw [kidR_at (show i < kids.length from hi)];exact ht,hc⟩
theorem rprim_walk {w:World}{t:RTree}{v0 v1 v2 v3 v4 v5:Value} (ht:RN w t [v0,v1,v2,v3,v4,v5]) (W:World) :
  Calls Tryz.prog 66 #[.agg #[v0,v1,v2,v3,v4,v5]] W fun e w'=>e= .returned (.int .i32 (primR t))/\Below W.heap.size W w':=by
 obtain ⟨A1,n1,c1,A2,n2,c2,A,m,cc,rfl,rfl,rfl,rfl,rfl,rfl,-,-⟩:=ht.vals
 have HB:=Lib.hid ((Below.refl _ W).alloc (Nat.le_refl _) (.cells #[.int .i64 (kindR t),.slice A1 n1 c1,.slice A2 n2 c2,.string (nameR t),.int .i32 (charR t),.slice A m cc] 29))
 clear ht
 by_cases h:kindR t=13
 ·have HR:Hid (primR t=charR t):=if_pos h
  have q:(kindR t==13)=true:=by simpa using h
  rw [HR.out]
  clear h HR
  generalize kindR t=k at *
  generalize charR t=c at *
  generalize nameR t=s at *
  go_enter Tryz.func66,Tryz.ntmps66
  go_wp2
  go_ret
  exact ⟨rfl,HB.out⟩
 ·have HR:Hid (primR t=0):=if_neg h
  have q:(kindR t==13)=false:=by simpa using h
  rw [HR.out]
  clear h HR
  generalize kindR t=k at *
  generalize charR t=c at *
  generalize nameR t=s at *
  go_enter Tryz.func66,Tryz.ntmps66
  go_wp2
  go_ret
  exact ⟨rfl,HB.out⟩
theorem rfolded_walk {w:World}{t:RTree}{v0 v1 v2 v3 v4 v5:Value} (ht:RN w t [v0,v1,v2,v3,v4,v5]) (hs:kindR t=16->0 < (kidsR t).length) (W:World) (hb:Below w.heap.size w W) :
  Calls Tryz.prog 68 #[.agg #[v0,v1,v2,v3,v4,v5]] W fun e w'=>e= .returned (.int .i32 (foldR t))/\Below W.heap.size W w':=by
 obtain ⟨A1,n1,c1,A2,n2,c2,A,m,cc,rfl,rfl,rfl,rfl,rfl,rfl,hm,hkid⟩:=ht.vals
 have HB:=Lib.hid ((Below.refl _ W).alloc (Nat.le_refl _) (.cells #[.int .i64 (kindR t),.slice A1 n1 c1,.slice A2 n2 c2,.string (nameR t),.int .i32 (charR t),.slice A m cc] 29))
 have HBW:=Lib.hid hb
 clear ht hb
 by_cases h:kindR t=16
 ·by_cases hc:charR t=47
  ·have HR:Hid (foldR t=primR (kidR t 0)):=if_pos ⟨h,hc⟩
   obtain ⟨b,o,u0,u1,u2,u3,u4,u5,rfl,htk,hkc⟩:=hkid 0 (hs h)
   have hm0:0 < m:=by rw [hm];exact hs h
   have HKC:=Lib.hid hkc
   have HPR:=Lib.hid (fun W=>rprim_walk htk W)
   rw [HR.out]
   rw [h,hc] at HB ⊢
   clear hkc htk hkid hs hm h hc HR
   generalize primR (kidR t 0)=r at *
   generalize nameR t=s at *
   have HK2:Hid (KidQ w b o u0 u1 u2 u3 u4 u5):=by unfold Hid;have:=HKC.out;simpa using this
   obtain ⟨k0,k1,k2,k3,k4,k5⟩:=HK2.out _ (HBW.out.trans (HB.out.mono HBW.out.size))
   clear HKC HK2
   go_enter Tryz.func68,Tryz.ntmps68
   go_wp2_with fail
   refine (HPR.out _).mono ?_
   rintro e w1 ⟨rfl,hb⟩
   have HB1:=Lib.hid (bel_both HB.out hb)
   clear hb
   go_wp2
   go_ret
   exact ⟨rfl,HB1.out⟩
  ·have HR:Hid (foldR t=0):=if_neg (fun e=>hc e.2)
   have q:(charR t==47)=false:=by simpa using hc
   rw [HR.out]
   rw [h] at HB ⊢
   clear h hc HR hs hkid hm
   generalize charR t=c at *
   generalize nameR t=s at *
   go_enter Tryz.func68,Tryz.ntmps68
   go_wp2
   go_ret
   exact ⟨rfl,HB.out⟩
 ·have HR:Hid (foldR t=0):=if_neg (fun e=>h e.1)
  have q:(kindR t==16)=false:=by simpa using h
  rw [HR.out]
  clear h HR hs hkid hm
  generalize kindR t=k at *
  generalize charR t=c at *
  generalize nameR t=s at *
  go_enter Tryz.func68,Tryz.ntmps68
  go_wp2
  go_ret
  exact ⟨rfl,HB.out⟩
theorem rsame_walk {w w2:World}{t t2:RTree}{v0 v1 v2 v3 v4 v5 u0 u1 u2 u3 u4 u5:Value} (ht:RN w t [v0,v1,v2,v3,v4,v5]) (ht2:RN w2 t2 [u0,u1,u2,u3,u4,u5]) (W:World) :
  Calls Tryz.prog 64 #[.agg #[v0,v1,v2,v3,v4,v5],.agg #[u0,u1,u2,u3,u4,u5]] W fun e w'=>e= .returned (.bool (sameV t t2))/\Below W.heap.size W w':=by
 obtain ⟨A1,n1,c1,A2,n2,c2,A,m,cc,rfl,rfl,rfl,rfl,rfl,rfl,-,-⟩:=ht.vals
 obtain ⟨A1',n1',c1',A2',n2',c2',A',m',cc',rfl,rfl,rfl,rfl,rfl,rfl,-,-⟩:=ht2.vals
 obtain ⟨R,hR⟩:∃ R,R=sameV t t2:=⟨_,rfl⟩
 have HR:Hid (R=((kindR t==3)&&(kindR t2==3)&&decide ((nameR t).toList=(nameR t2).toList))):=hR
 rw [<- hR]
 have HB:=Lib.hid (((Below.refl _ W).alloc (Nat.le_refl _) (.cells #[.int .i64 (kindR t),.slice A1 n1 c1,.slice A2 n2 c2,.string (nameR t),.int .i32 (charR t),.slice A m cc] 29)).alloc (by simp) (.cells #[.int .i64 (kindR t2),.slice A1' n1' c1',.slice A2' n2' c2',.string (nameR t2),.int .i32 (charR t2),.slice A' m' cc'] 29))
 clear ht ht2 hR
 generalize kindR t=k at *
 generalize charR t=c at *
 generalize nameR t=s at *
 generalize kindR t2=k' at *
 generalize charR t2=c' at *
 generalize nameR t2=s' at *
 obtain ⟨q1,h1⟩:∃ q:Bool,(k==3)=q:=⟨_,rfl⟩
 obtain ⟨q2,h2⟩:∃ q:Bool,(k'==3)=q:=⟨_,rfl⟩
 rw [h1,h2] at HR
 cases q1 <;> cases q2
 all_goals go_enter Tryz.func64,Tryz.ntmps64
 all_goals go_wp2
 all_goals go_ret
 all_goals exact ⟨by rw [HR.out];clear HR;show Ending.returned (Value.bool _)=_;refine congrArg (fun b=>Ending.returned (Value.bool b)) ?_;first | (simp [*];done) | (rw [Bool.eq_iff_iff];simp [*];done),HB.out⟩
theorem rphr_size:(Tryz.prog.info? 68).map (·.size)=some 3:=by kernel_rfl
theorem ret_rphr {fn:Func}{p u:Tmp} (h:fn.results=#[.cell p 68,.tmp u]) (tmps:Array Value) (w:World) (G:Nat){e:TypeId}{a0 a1 a2:Value}
  (hp:tmps.getD p undef= .pointer (some ⟨G,0,none⟩)) (hg:w.heap[G]?=some (.cells #[a0,a1,a2] e)) :
  (results fn tmps).run Tryz.prog w= .ok (.tuple #[.agg #[a0,a1,a2],tmps.getD u undef]) w:=by
 rw [results_cell_tmp h,hp]
 have:=run_loadVar_row (P:=Tryz.prog) w G e 68 _ (0,0) _ hg Tryz.underlying68 rfl rphr_size
 simp [asAddr,Result.andThen,this]
def GG (t:RTree):Prop:=gd t 0=true\/gd t 1=true\/gd t 2=true\/gd t 3=true
theorem pl_len {k:Int}{nums:List Nat}{text:List Int}{name:ByteArray}{c:Int}{kids:List RTree}{n:Int}{nm ch:Bool} (hn:0<=n) (h:plainB k nums text name c kids n nm ch=true):(kids.length:Int)=n:=by
 rw [pl_n hn] at h
 simp only [Bool.and_eq_true,decide_eq_true_eq] at h
 exact h.1
theorem no_kids {kids:List RTree} (h:(kids.length:Int)=0):∀ t∈kids,GG t:=fun t ht=>absurd ht (by rw [List.eq_nil_of_length_eq_zero (l:=kids) (by omega)];simp)
theorem gdh_mem {a b:Nat}:∀ {ts:List RTree},gdh ts a b=true->∀ t∈ts,gd t a=true\/gd t b=true
 | [],_=>fun t ht=>absurd ht (by simp)
 | t0::ts,h=>fun t ht=>by
  rw [gdh,gds_eq] at h
  simp only [Bool.and_eq_true,List.all_eq_true] at h
  rcases List.mem_cons.mp ht with rfl | ht
  ·exact Or.inl h.1
  ·exact Or.inr (h.2 t ht)
theorem gdl_mem {a b:Nat}:∀ (ts:List RTree),gdl ts a b=true->∀ t∈ts,gd t a=true\/gd t b=true
 | [],_=>fun t ht=>absurd ht (by simp)
 | [t0],h=>fun t ht=>by
  rw [gdl] at h
  rcases List.mem_cons.mp ht with rfl | ht
  ·exact Or.inr h
  ·exact absurd ht (by simp)
 | t0::t1::ts,h=>fun t ht=>by
  rw [gdl] at h
  simp only [Bool.and_eq_true] at h
  rcases List.mem_cons.mp ht with rfl | ht
  ·exact Or.inl h.1
  ·exact gdl_mem (t1::ts) h.2 t ht
theorem shp_no {k:Int}{nums:List Nat}{text:List Int}{name:ByteArray}{c:Int}{kids:List RTree} (h9:k≠9) (h10:k≠10) (h8:k≠8) (h16:k≠16):ShpN (.mk k nums text name c kids):=⟨fun e=>absurd e h9,fun e=>absurd e h10,fun e=>absurd e h8,fun e=>absurd e h16⟩
theorem shp8 {nums:List Nat}{text:List Int}{name:ByteArray}{c:Int}{kids:List RTree} (h:1 < kids.length):ShpN (.mk 8 nums text name c kids):=⟨fun e=>absurd e (by show (8:Int)≠9;decide),fun e=>absurd e (by show (8:Int)≠10;decide),fun _=>h,fun e=>absurd e (by show (8:Int)≠16;decide)⟩
theorem shp9 {nums:List Nat}{text:List Int}{name:ByteArray}{c:Int}{kids:List RTree} (h:kids.length=2):ShpN (.mk 9 nums text name c kids):=⟨fun _=>h,fun e=>absurd e (by show (9:Int)≠10;decide),fun e=>absurd e (by show (9:Int)≠8;decide),fun e=>absurd e (by show (9:Int)≠16;decide)⟩
theorem shp10 {nums:List Nat}{text:List Int}{name:ByteArray}{c:Int}{kids:List RTree} (h:kids.length=3):ShpN (.mk 10 nums text name c kids):=⟨fun e=>absurd e (by show (10:Int)≠9;decide),fun _=>h,fun e=>absurd e (by show (10:Int)≠8;decide),fun e=>absurd e (by show (10:Int)≠16;decide)⟩
theorem shp16 {nums:List Nat}{text:List Int}{name:ByteArray}{c:Int}{kids:List RTree} (h:kids.length=1):ShpN (.mk 16 nums text name c kids):=⟨fun e=>absurd e (by show (16:Int)≠9;decide),fun e=>absurd e (by show (16:Int)≠10;decide),fun e=>absurd e (by show (16:Int)≠8;decide),fun _=>h⟩
theorem gg_0 {k:Int}{nums:List Nat}{text:List Int}{name:ByteArray}{c:Int}{kids:List RTree} (h:gd (.mk k nums text name c kids) 0=true):ShpN (.mk k nums text name c kids)/\∀ t∈kids,GG t:=by
 by_cases hk:k < 1\/12 < k
 ·rw [gd_0_no hk] at h;exact absurd h (by decide)
 have hr:k=1\/k=2\/k=3\/k=4\/k=5\/k=6\/k=7\/k=8\/k=9\/k=10\/k=11\/k=12:=by omega
 clear hk
 rcases hr with rfl | rfl | rfl | rfl | rfl | rfl | rfl | rfl | rfl | rfl | rfl | rfl
 ·rw [gd_0_1] at h
  try simp only [Bool.and_eq_true] at h
  have hl:=pl_len (by decide) h.1.2;exact ⟨shp_no (by decide) (by decide) (by decide) (by decide),no_kids hl⟩
 ·rw [gd_0_2] at h
  try simp only [Bool.and_eq_true] at h
  have hl:=pl_len (by decide) h.1;exact ⟨shp_no (by decide) (by decide) (by decide) (by decide),no_kids hl⟩
 ·rw [gd_0_3] at h
  try simp only [Bool.and_eq_true] at h
  have hl:=pl_len (by decide) h.1.1;exact ⟨shp_no (by decide) (by decide) (by decide) (by decide),no_kids hl⟩
 ·rw [gd_0_4] at h
  try simp only [Bool.and_eq_true] at h
  have hl:=pl_len (by decide) h;exact ⟨shp_no (by decide) (by decide) (by decide) (by decide),no_kids hl⟩
 ·rw [gd_0_5] at h
  try simp only [Bool.and_eq_true] at h
  have hl:=pl_len (by decide) h;exact ⟨shp_no (by decide) (by decide) (by decide) (by decide),no_kids hl⟩
 ·rw [gd_0_6] at h
  try simp only [Bool.and_eq_true] at h
  have hl:=pl_len (by decide) h;exact ⟨shp_no (by decide) (by decide) (by decide) (by decide),no_kids hl⟩
 ·rw [gd_0_7] at h
  try simp only [Bool.and_eq_true] at h
  rw [gds_eq] at h;exact ⟨shp_no (by decide) (by decide) (by decide) (by decide),fun t ht=>Or.inl (List.all_eq_true.mp h.2 t ht)⟩
 ·rw [gd_0_8] at h
  try simp only [Bool.and_eq_true] at h
  exact ⟨shp8 (by simpa using h.1.2),fun t ht=>(gdh_mem h.2 t ht).elim Or.inl (fun e=>Or.inr (Or.inr (Or.inl e)))⟩
 ·rw [gd_0_9] at h
  try simp only [Bool.and_eq_true] at h
  have hl:=pl_len (by decide) h.1;exact ⟨shp9 (by omega),fun t ht=>(gdh_mem h.2 t ht).elim (fun e=>Or.inr (Or.inl e)) Or.inl⟩
 ·rw [gd_0_10] at h
  try simp only [Bool.and_eq_true] at h
  have hl:=pl_len (by decide) h.1;exact ⟨shp10 (by omega),fun t ht=>(gdh_mem h.2 t ht).elim (fun e=>Or.inr (Or.inl e)) Or.inl⟩
 ·rw [gd_0_11] at h
  try simp only [Bool.and_eq_true] at h
  rw [gds_eq] at h;exact ⟨shp_no (by decide) (by decide) (by decide) (by decide),fun t ht=>Or.inl (List.all_eq_true.mp h.2 t ht)⟩
 ·rw [gd_0_12] at h
  try simp only [Bool.and_eq_true] at h
  exact ⟨shp_no (by decide) (by decide) (by decide) (by decide),fun t ht=>(gdl_mem kids h.2 t ht).elim (fun e=>Or.inr (Or.inr (Or.inl e))) Or.inl⟩
theorem gg_1 {k:Int}{nums:List Nat}{text:List Int}{name:ByteArray}{c:Int}{kids:List RTree} (h:gd (.mk k nums text name c kids) 1=true):ShpN (.mk k nums text name c kids)/\∀ t∈kids,GG t:=by
 by_cases hk:k < 13\/18 < k
 ·rw [gd_1_no hk] at h;exact absurd h (by decide)
 have hr:k=13\/k=14\/k=15\/k=16\/k=17\/k=18:=by omega
 clear hk
 rcases hr with rfl | rfl | rfl | rfl | rfl | rfl
 ·rw [gd_1_13] at h
  simp only [Bool.and_eq_true] at h
  have hl:=pl_len (by decide) h.1;exact ⟨shp_no (by decide) (by decide) (by decide) (by decide),no_kids hl⟩
 ·rw [gd_1_14] at h
  simp only [Bool.and_eq_true] at h
  have hl:=pl_len (by decide) h.1.1;exact ⟨shp_no (by decide) (by decide) (by decide) (by decide),no_kids hl⟩
 ·rw [gd_1_15] at h
  simp only [Bool.and_eq_true] at h
  rw [gds_eq] at h;exact ⟨shp_no (by decide) (by decide) (by decide) (by decide),fun t ht=>Or.inr (Or.inr (Or.inr (List.all_eq_true.mp h.2 t ht)))⟩
 ·rw [gd_1_16] at h
  simp only [Bool.and_eq_true] at h
  rw [gds_eq] at h;have hl:=pl_len (by decide) h.1.1;exact ⟨shp16 (by omega),fun t ht=>Or.inr (Or.inl (List.all_eq_true.mp h.2 t ht))⟩
 ·rw [gd_1_17] at h
  simp only [Bool.and_eq_true] at h
  rw [gds_eq] at h;exact ⟨shp_no (by decide) (by decide) (by decide) (by decide),fun t ht=>Or.inr (Or.inl (List.all_eq_true.mp h.2 t ht))⟩
 ·rw [gd_1_18] at h
  simp only [Bool.and_eq_true] at h
  rw [gds_eq] at h;exact ⟨shp_no (by decide) (by decide) (by decide) (by decide),fun t ht=>Or.inr (Or.inl (List.all_eq_true.mp h.2 t ht))⟩
theorem gg_2 {k:Int}{nums:List Nat}{text:List Int}{name:ByteArray}{c:Int}{kids:List RTree} (h:gd (.mk k nums text name c kids) 2=true):ShpN (.mk k nums text name c kids)/\∀ t∈kids,GG t:=by
 by_cases hk:k=21
 ·subst hk
  rw [gd_2_21] at h
  have hl:=pl_len (by decide) h
  exact ⟨shp_no (by decide) (by decide) (by decide) (by decide),no_kids hl⟩
 ·rw [gd_2_no hk] at h
  exact gg_0 h
theorem gg_3 {k:Int}{nums:List Nat}{text:List Int}{name:ByteArray}{c:Int}{kids:List RTree} (h:gd (.mk k nums text name c kids) 3=true):ShpN (.mk k nums text name c kids)/\∀ t∈kids,GG t:=by
 by_cases hk:k=19
 ·subst hk
  rw [gd_3_19,gds_eq] at h
  simp only [Bool.and_eq_true] at h
  exact ⟨shp_no (by decide) (by decide) (by decide) (by decide),fun t ht=>Or.inl (List.all_eq_true.mp h.2 t ht)⟩
 ·by_cases hk2:k=20
  ·subst hk2
   rw [gd_3_20,gd_4,gds_eq] at h
   simp only [Bool.and_eq_true] at h
   exact ⟨shp_no (by decide) (by decide) (by decide) (by decide),fun t ht=>Or.inr (Or.inl (List.all_eq_true.mp h.1.2 t ht))⟩
  ·rw [gd_3_no hk hk2] at h
   exact gg_0 h
theorem gg_of {t:RTree} (h:GG t):ShpN t/\∀ i,i < (kidsR t).length->GG (kidR t i):=by
 cases t with
 | mk k nums text name c kids =>
  have hs:ShpN (.mk k nums text name c kids)/\∀ t∈kids,GG t:=by
   rcases h with h | h | h | h
   ·exact gg_0 h
   ·exact gg_1 h
   ·exact gg_2 h
   ·exact gg_3 h
  exact ⟨hs.1,fun i hi=>by rw [kidR_at (show i < kids.length from hi)];exact hs.2 _ (List.getElem_mem _)⟩
theorem shp_of {t:RTree} (h:gd t 0=true):Shp3 t:=by
 have h0:=gg_of (Or.inl h)
 exact ⟨h0.1,fun i hi=>(gg_of (h0.2 i hi)).1,fun i hi j hj=>(gg_of ((gg_of (h0.2 i hi)).2 j hj)).1⟩
end Go.Proofs.YtbakjaliponbbaaGreatDoor
