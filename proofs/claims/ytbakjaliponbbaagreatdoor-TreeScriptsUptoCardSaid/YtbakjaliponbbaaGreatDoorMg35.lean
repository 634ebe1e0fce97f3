/- The walk of the reference's GoodBind; GoodFun of a sign. Printed by .. Conditions: as each theorem says. -/
import Derived.Test.YtbakjaliponbbaaGreatDoorMg23
import Derived.Deep.RegionHeld3
import Derived.BigQuiet
import Derived.Deep.RegionWith
set_option maxRecDepth 100000
set_option maxHeartbeats 1600000
namespace Go.Proofs.YtbakjaliponbbaaGreatDoor
open Go Go.RowKit Go.Proofs Fl
theorem bel_drewN6 {B:Nat}{a w:World} (h:Below B a w) (k:Nat):Below B a (w.drewN k):=⟨h.os,h.tape,h.output,h.size,h.block⟩
theorem BoxT.dr1 {w W:World}{vs:List Value} (h:BoxT w W vs):BoxT w W.drew vs:=h.step (Below.refl _ W).drew
theorem bx6_s {w W:World}{v0 v1 v2 v3 v4 v5:Value} (h:BoxT w W [v0,v1,v2,v3,v4,v5]):W.cell? ⟨w.heap.size,4,none⟩=some v4/\BoxT w W [v0,v1,v2,v3,v4,v5]:=⟨h.1 4,h⟩
theorem rbind_no {k:Int} (hk:k≠20) (v1 v2 v3 v4 v5:Value) (w:World):Calls Tryz.prog 35 #[.agg #[.int .i64 k,v1,v2,v3,v4,v5]] w fun e w'=>e= .returned (.bool false)/\Below w.heap.size w w':=by
 have q:(k==20)=false:=by simpa using hk
 have HB:=Lib.hid ((Below.refl _ w).alloc (Nat.le_refl _) (.cells #[.int .i64 k,v1,v2,v3,v4,v5] 29))
 clear hk
 go_enter Tryz.func35,Tryz.ntmps35
 go_wp2
 go_ret
 exact ⟨rfl,HB.out⟩
theorem rbind_a {N:Nat}{A1:Option Addr}{n1 c1:Nat}{A2:Option Addr}{n2 c2:Nat}{name:ByteArray}{c:Int}{cc:Nat}{nums:List Nat}{text:List Int}{w:World}{m:Nat}  {A:Option Addr}{kids:List RTree} (h0:(m:Int)≠1)
  (HY:Hid (NodR N w A1 n1 c1 A2 n2 c2 name A m cc nums text kids))
  : Calls Tryz.prog 35 #[.agg #[.int .i64 20,.slice A1 n1 c1,.slice A2 n2 c2,.string name,.int .i32 c,.slice A m cc]] w fun e w'=>e= .returned (.bool (gd (.mk 20 nums text name c kids) 4))/\Below w.heap.size w w':=by
 obtain ⟨R,hR⟩:∃ R,R=gd (.mk 20 nums text name c kids) 4:=⟨_,rfl⟩
 have HR:Hid (R=((onlyB 20 nums text name c)&&(goodNB (runesOf name)&&(upB name==true))&&false)):=by
  unfold Hid;rw [hR];rw [gd_4,pl_n (by decide),decide_eq_false (show ¬ (kids.length:Int)=1 by have:=HY.out.hm;omega),decide_eq_false (show ¬ kids.length=1 by have:=HY.out.hm;omega)];simp
 rw [<- hR]
 clear hR
 obtain ⟨b1,hb1⟩:∃ b:Bool,b=(onlyB 20 nums text name c):=⟨_,rfl⟩
 have C1:Hid (∀ W,Below w.heap.size w W->Calls Tryz.prog 53 #[.agg #[.int .i64 20,.slice A1 n1 c1,.slice A2 n2 c2,.string name,.int .i32 c,.slice A m cc]] W fun e w'=>e= .returned (.bool b1)/\Below W.heap.size W w'):=by
  unfold Hid;rw [hb1];intro W _;exact only_walk 20 A1 n1 c1 A2 n2 c2 name c A m cc nums text HY.out.hn HY.out.ht W
 rw [<- hb1] at HR
 clear hb1
 obtain ⟨b2,hb2⟩:∃ b:Bool,b=(goodNB (runesOf name)&&(upB name==true)):=⟨_,rfl⟩
 have C2:Hid (∀ W,Below w.heap.size w W->Calls Tryz.prog 56 #[.agg #[.int .i64 20,.slice A1 n1 c1,.slice A2 n2 c2,.string name,.int .i32 c,.slice A m cc],.bool true] W fun e w'=>e= .returned (.bool b2)/\Below W.heap.size W w'):=by
  unfold Hid;rw [hb2];intro W _;exact named_walk 20 _ _ _ name c true W HY.out.fs
 rw [<- hb2] at HR
 clear hb2
 have X0:=Lib.hid (boxedT w [.int .i64 20,.slice A1 n1 c1,.slice A2 n2 c2,.string name,.int .i32 c,.slice A m cc] 29)
 have e0:((m:Int)==1)=false:=by simpa using h0
 clear h0
 clear HY
 go_enter Tryz.func35,Tryz.ntmps35
 go_wp2_with fail
 generalize w.alloc (.cells #[.int .i64 20,.slice A1 n1 c1,.slice A2 n2 c2,.string name,.int .i32 c,.slice A m cc] 29)=W at *
 refine (C1.out _ X0.out.2.1).mono ?_
 rintro e w1 ⟨rfl,hb⟩
 have X1:=Lib.hid (X0.out.step hb)
 clear hb
 obtain ⟨x0,x1,x2,x3,x4,x5⟩:=X1.out.c6
 cases b1
 case false =>
  have HT:Hid (R=false):=by unfold Hid;rw [HR.out] <;> simp
  go_wp2
  go_ret
  exact ⟨by rw [HT.out];rfl,X1.out.2.1⟩
 go_wp2_with fail
 refine (C2.out _ X1.out.2.1).mono ?_
 rintro e w2 ⟨rfl,hb⟩
 have X2:=Lib.hid (X1.out.step hb)
 clear hb x0 x1 x2 x3 x4 x5
 obtain ⟨x0,x1,x2,x3,x4,x5⟩:=X2.out.c6
 cases b2
 case false =>
  have HT:Hid (R=false):=by unfold Hid;rw [HR.out] <;> simp
  go_wp2
  go_ret
  exact ⟨by rw [HT.out];rfl,X2.out.2.1⟩
 have HT:Hid (R=false):=by unfold Hid;rw [HR.out] <;> simp
 go_wp2
 go_ret
 exact ⟨by rw [HT.out];rfl,X2.out.2.1⟩
theorem rbind_b {N:Nat}{A1:Option Addr}{n1 c1:Nat}{A2:Option Addr}{n2 c2:Nat}{name:ByteArray}{c:Int}{cc:Nat}{nums:List Nat}{text:List Int}{w:World}  {A:Option Addr}{kids:List RTree}
  (HY:Hid (NodR N w A1 n1 c1 A2 n2 c2 name A 1 cc nums text kids)) (HK:Hid (KTell N))
  : Calls Tryz.prog 35 #[.agg #[.int .i64 20,.slice A1 n1 c1,.slice A2 n2 c2,.string name,.int .i32 c,.slice A 1 cc]] w fun e w'=>e= .returned (.bool (gd (.mk 20 nums text name c kids) 4))/\Below w.heap.size w w':=by
 obtain ⟨R,hR⟩:∃ R,R=gd (.mk 20 nums text name c kids) 4:=⟨_,rfl⟩
 have HR:Hid (R=((onlyB 20 nums text name c)&&(goodNB (runesOf name)&&(upB name==true))&&(kids.all (fun t=>gd t 1)))):=by
  unfold Hid;rw [hR];rw [gd_4,pl_n (by decide),decide_eq_true (show (kids.length:Int)=1 by have:=HY.out.hm;omega),decide_eq_true (show kids.length=1 by have:=HY.out.hm;omega)];rw [gds_eq];unfold onlyB;rw [show nmK 20=true from rfl,show chK 20=false from rfl];cases plainB 20 nums text name c [] (-1) true false <;> cases goodNB (runesOf name) <;> cases upB name <;> cases kids.all (fun t=>gd t 1) <;> rfl
 rw [<- hR]
 clear hR
 obtain ⟨b1,hb1⟩:∃ b:Bool,b=(onlyB 20 nums text name c):=⟨_,rfl⟩
 have C1:Hid (∀ W,Below w.heap.size w W->Calls Tryz.prog 53 #[.agg #[.int .i64 20,.slice A1 n1 c1,.slice A2 n2 c2,.string name,.int .i32 c,.slice A 1 cc]] W fun e w'=>e= .returned (.bool b1)/\Below W.heap.size W w'):=by
  unfold Hid;rw [hb1];intro W _;exact only_walk 20 A1 n1 c1 A2 n2 c2 name c A 1 cc nums text HY.out.hn HY.out.ht W
 rw [<- hb1] at HR
 clear hb1
 obtain ⟨b2,hb2⟩:∃ b:Bool,b=(goodNB (runesOf name)&&(upB name==true)):=⟨_,rfl⟩
 have C2:Hid (∀ W,Below w.heap.size w W->Calls Tryz.prog 56 #[.agg #[.int .i64 20,.slice A1 n1 c1,.slice A2 n2 c2,.string name,.int .i32 c,.slice A 1 cc],.bool true] W fun e w'=>e= .returned (.bool b2)/\Below W.heap.size W w'):=by
  unfold Hid;rw [hb2];intro W _;exact named_walk 20 _ _ _ name c true W HY.out.fs
 rw [<- hb2] at HR
 clear hb2
 obtain ⟨b3,hb3⟩:∃ b:Bool,b=(kids.all (fun t=>gd t 1)):=⟨_,rfl⟩
 have C3:Hid (∀ W,Below w.heap.size w W->Calls Tryz.prog 57 #[.slice A 1 cc,.int .i64 1] W fun e w'=>e= .returned (.bool b3)/\Below W.heap.size W w'):=by
  unfold Hid;rw [hb3];intro W hb;exact HK.out 1 1 kids A 1 cc W rfl (by decide) HY.out.hm (by have:=HY.out.fm;omega) (HY.out.hkid.below hb) (HY.out.ok)
 rw [<- hb3] at HR
 clear hb3
 have X0:=Lib.hid (boxedT w [.int .i64 20,.slice A1 n1 c1,.slice A2 n2 c2,.string name,.int .i32 c,.slice A 1 cc] 29)
 clear HY HK
 go_enter Tryz.func35,Tryz.ntmps35
 go_wp2_with fail
 generalize w.alloc (.cells #[.int .i64 20,.slice A1 n1 c1,.slice A2 n2 c2,.string name,.int .i32 c,.slice A 1 cc] 29)=W at *
 refine (C1.out _ X0.out.2.1).mono ?_
 rintro e w1 ⟨rfl,hb⟩
 have X1:=Lib.hid (X0.out.step hb)
 clear hb
 obtain ⟨x0,x1,x2,x3,x4,x5⟩:=X1.out.c6
 cases b1
 case false =>
  have HT:Hid (R=false):=by unfold Hid;rw [HR.out] <;> simp
  go_wp2
  go_ret
  exact ⟨by rw [HT.out];rfl,X1.out.2.1⟩
 go_wp2_with fail
 refine (C2.out _ X1.out.2.1).mono ?_
 rintro e w2 ⟨rfl,hb⟩
 have X2:=Lib.hid (X1.out.step hb)
 clear hb x0 x1 x2 x3 x4 x5
 obtain ⟨x0,x1,x2,x3,x4,x5⟩:=X2.out.c6
 cases b2
 case false =>
  have HT:Hid (R=false):=by unfold Hid;rw [HR.out] <;> simp
  go_wp2
  go_ret
  exact ⟨by rw [HT.out];rfl,X2.out.2.1⟩
 go_wp2_with fail
 refine (C3.out _ X2.out.2.1).mono ?_
 rintro e w3 ⟨rfl,hb⟩
 have X3:=Lib.hid (X2.out.step hb)
 clear hb x0 x1 x2 x3 x4 x5
 obtain ⟨x0,x1,x2,x3,x4,x5⟩:=X3.out.c6
 cases b3
 case false =>
  have HT:Hid (R=false):=by unfold Hid;rw [HR.out] <;> simp
  go_wp2
  go_ret
  exact ⟨by rw [HT.out];rfl,X3.out.2.1⟩
 have HT:Hid (R=true):=by unfold Hid;rw [HR.out] <;> simp
 go_wp2
 go_ret
 exact ⟨by rw [HT.out];rfl,X3.out.2.1⟩
theorem rfun_13a {N:Nat}{A1:Option Addr}{n1 c1:Nat}{A2:Option Addr}{n2 c2:Nat}{name:ByteArray}{c:Int}{m:Nat}{cc:Nat}{nums:List Nat}{text:List Int}{w:World}{A:Option Addr}{kids:List RTree} (h0:(m:Int)≠0)
  (HY:Hid (NodR N w A1 n1 c1 A2 n2 c2 name A m cc nums text kids))
  : Calls Tryz.prog 105 #[.agg #[.int .i64 13,.slice A1 n1 c1,.slice A2 n2 c2,.string name,.int .i32 c,.slice A m cc]] w fun e w'=>e= .returned (.bool (gd (.mk 13 nums text name c kids) 1))/\Below w.heap.size w w':=by
 obtain ⟨R,hR⟩:∃ R,R=gd (.mk 13 nums text name c kids) 1:=⟨_,rfl⟩
 obtain ⟨b1,hb1⟩:∃ b:Bool,b=onlyB 13 nums text name c:=⟨_,rfl⟩
 have HR:Hid (R=false):=by
  unfold Hid;rw [hR];(try rw [hb1]);rw [gd_1_13,pl_n (by decide),decide_eq_false (show ¬ (kids.length:Int)=0 by have:=HY.out.hm;omega)];simp
 rw [<- hR]
 clear hR
 have C1:Hid (∀ W,Below w.heap.size w W->Calls Tryz.prog 53 #[.agg #[.int .i64 13,.slice A1 n1 c1,.slice A2 n2 c2,.string name,.int .i32 c,.slice A m cc]] W fun e w'=>e= .returned (.bool b1)/\Below W.heap.size W w'):=by
  unfold Hid;rw [hb1];intro W _;exact only_walk 13 A1 n1 c1 A2 n2 c2 name c A m cc nums text HY.out.hn HY.out.ht W
 have X0:=Lib.hid (boxedT w [.int .i64 13,.slice A1 n1 c1,.slice A2 n2 c2,.string name,.int .i32 c,.slice A m cc] 29)
 have e0:((m:Int)==0)=false:=by simpa using h0
 clear h0
 clear HY hb1
 go_enter Tryz.func105,Tryz.ntmps105
 go_wp2_with fail
 generalize w.alloc (.cells #[.int .i64 13,.slice A1 n1 c1,.slice A2 n2 c2,.string name,.int .i32 c,.slice A m cc] 29)=W at *
 refine (C1.out _ X0.out.2.1).mono ?_
 rintro e w1 ⟨rfl,hb⟩
 have X1:=Lib.hid (X0.out.step hb)
 clear hb
 obtain ⟨x0,x1,x2,x3,x4,x5⟩:=X1.out.c6
 cases b1
 case false =>
  have HT:Hid (R=false):=HR.out
  go_wp2
  go_ret
  exact ⟨by rw [HT.out];rfl,X1.out.2.1⟩
 go_wp2_with fail
 go_quiet (fail)
 go_wp2
 go_ret
 exact ⟨by rw [HR.out];rfl,bel_drewN6 X1.out.2.1 _⟩
theorem rfun_13b {N:Nat}{A1:Option Addr}{n1 c1:Nat}{A2:Option Addr}{n2 c2:Nat}{name:ByteArray}{c:Int}{cc:Nat}{nums:List Nat}{text:List Int}{w:World}{A:Option Addr}{kids:List RTree} (hv:verbB c=true)
  (HY:Hid (NodR N w A1 n1 c1 A2 n2 c2 name A 0 cc nums text kids))
  : Calls Tryz.prog 105 #[.agg #[.int .i64 13,.slice A1 n1 c1,.slice A2 n2 c2,.string name,.int .i32 c,.slice A 0 cc]] w fun e w'=>e= .returned (.bool (gd (.mk 13 nums text name c kids) 1))/\Below w.heap.size w w':=by
 obtain ⟨R,hR⟩:∃ R,R=gd (.mk 13 nums text name c kids) 1:=⟨_,rfl⟩
 obtain ⟨b1,hb1⟩:∃ b:Bool,b=onlyB 13 nums text name c:=⟨_,rfl⟩
 have HR:Hid (R=b1):=by
  unfold Hid;rw [hR];(try rw [hb1]);rw [gd_1_13,pl_n (by decide),decide_eq_true (show (kids.length:Int)=0 by have:=HY.out.hm;omega),hv];simp [onlyB,nmK,chK]
 rw [<- hR]
 clear hR
 have C1:Hid (∀ W,Below w.heap.size w W->Calls Tryz.prog 53 #[.agg #[.int .i64 13,.slice A1 n1 c1,.slice A2 n2 c2,.string name,.int .i32 c,.slice A 0 cc]] W fun e w'=>e= .returned (.bool b1)/\Below W.heap.size W w'):=by
  unfold Hid;rw [hb1];intro W _;exact only_walk 13 A1 n1 c1 A2 n2 c2 name c A 0 cc nums text HY.out.hn HY.out.ht W
 have X0:=Lib.hid (boxedT w [.int .i64 13,.slice A1 n1 c1,.slice A2 n2 c2,.string name,.int .i32 c,.slice A 0 cc] 29)
 have HIN:Hid (∀ v W0 W,Runes W0 v verbsL->Below W0.heap.size W0 W->Calls Tryz.prog 55 #[.int .i32 c,v] W fun e w'=>e= .returned (.bool true)/\W=w'):=fun v W0 W h hb=>by
  have h1:=rIn_walk c v verbsL W (h.below hb) (by decide)
  rw [show decide (c∈verbsL)=true from hv] at h1
  exact h1
 clear hv
 clear HY hb1
 go_enter Tryz.func105,Tryz.ntmps105
 go_wp2_with fail
 generalize w.alloc (.cells #[.int .i64 13,.slice A1 n1 c1,.slice A2 n2 c2,.string name,.int .i32 c,.slice A 0 cc] 29)=W at *
 refine (C1.out _ X0.out.2.1).mono ?_
 rintro e w1 ⟨rfl,hb⟩
 have X1:=Lib.hid (X0.out.step hb)
 clear hb
 obtain ⟨x0,x1,x2,x3,x4,x5⟩:=X1.out.c6
 cases b1
 case false =>
  have HT:Hid (R=false):=by unfold Hid;rw [HR.out] <;> rfl
  go_wp2
  go_ret
  exact ⟨by rw [HT.out];rfl,X1.out.2.1⟩
 go_wp2_with fail
 refine wp_region_any (by kernel_rfl) ?_
 change wpAny _ _ _ _ _ _ _ (World.drew _)
 have hst0:=X1.out.dr1
 generalize w1.drew=w16 at hst0 ⊢
 clear x0 x1 x2 x3 x4 x5
 obtain ⟨x0,x1,x2,x3,x4,x5⟩:=hst0.c6
 refine wpAny_take (i:=0) (v:=?av1) rfl (by kernel_rfl) (by kernel_rfl) (by kernel_rfl) (fun _ _ _ h=>h) (Or.inl ⟨by rfl,?ay1⟩) ?as1
 case ay1=>(intro w;go_simp;try with_reducible rfl)
 refine wpAny_take (i:=1) (v:=?av2) rfl (by kernel_rfl) (by kernel_rfl) (by kernel_rfl) (fun _ _ _ h=>h) (Or.inl ⟨by go_simp,?ay2⟩) ?as2
 case ay2=>(intro w;go_simp;try with_reducible rfl)
 refine wpAny_take (i:=2) (v:=?av3) rfl (by kernel_rfl) (by kernel_rfl) (by kernel_rfl) (fun _ _ _ h=>h) (Or.inl ⟨by rfl,?ay3⟩) ?as3
 case ay3=>(intro w;go_simp;try with_reducible rfl)
 refine wpAny_take (i:=3) (v:=?av4) rfl (by kernel_rfl) (by kernel_rfl) (by kernel_rfl) (fun _ _ _ h=>h) (Or.inl ⟨by go_simp,?ay4⟩) ?as4
 case ay4=>(intro w;go_simp;try with_reducible rfl)
 refine wpAny_ready (rs:=[4,5]) (by kernel_rfl) (by simp) ?_
 refine AllReady.cons rfl (fun K hK=>?_) (AllReady.cons rfl (fun K hK=>?_) AllReady.nil)
 ·go_simp
  refine hK _ _ ?_
  clear hK K
  refine wpAny_ready (rs:=[5]) (by kernel_rfl) (by simp) ?_
  refine AllReady.cons rfl (fun K hK=>?_) AllReady.nil
  go_simp
  go_wp2_with (go_at_call 163;refine (verbs_walk _).mono ?_;rintro e w2 ⟨v,rfl,hrv,hb2⟩;(obtain ⟨vA,vn,vc,hvv⟩:∃ A n c,v= .slice A n c:=by (obtain ⟨A,c,n,e,_⟩:=hrv.opn;exact ⟨A,n,c,e⟩));subst hvv;have X2:=Lib.hid (BoxT.step hst0 hb2);have HRV:=Lib.hid hrv;(obtain ⟨y0,y1,y2,y3,y4,y5⟩:=X2.out.c6);clear hb2 hrv)
  refine wpAny_ready (rs:=[6]) (by kernel_rfl) (by simp) ?_
  refine AllReady.cons rfl (fun K hK=>?_) AllReady.nil
  go_simp
  go_wp2_with (go_at_call 55;refine (HIN.out _ _ _ HRV.out (Below.refl _ _)).mono ?_;rintro e w3 ⟨rfl,rfl⟩)
  refine wpAny_take (i:=7) (v:=?av5) rfl (by kernel_rfl) (by kernel_rfl) (by kernel_rfl) (fun _ _ _ h=>h) (Or.inl ⟨by rfl,?ay5⟩) ?as5
  case ay5=>(intro w;go_simp;try with_reducible rfl)
  refine wpAny_take (i:=8) (v:=undef) rfl (by kernel_rfl) (by kernel_rfl) (by kernel_rfl) (fun _ _ _ h=>h) (Or.inr ⟨by (go_simp <;> (intro h;cases h)),rfl⟩) ?_
  refine wpAny_take (i:=9) (v:=undef) rfl (by kernel_rfl) (by kernel_rfl) (by kernel_rfl) (fun _ _ _ h=>h) (Or.inr ⟨by (go_simp <;> (intro h;cases h)),rfl⟩) ?_
  refine wpAny_take (i:=10) (v:=undef) rfl (by kernel_rfl) (by kernel_rfl) (by kernel_rfl) (fun _ _ _ h=>h) (Or.inr ⟨by (go_simp <;> (intro h;cases h)),rfl⟩) ?_
  refine wpAny_take (i:=11) (v:=?av6) rfl (by kernel_rfl) (by kernel_rfl) (by kernel_rfl) (fun _ _ _ h=>h) (Or.inl ⟨by go_simp,?ay6⟩) ?as6
  case ay6=>(intro w;go_simp;try with_reducible rfl)
  refine wpAny_take (i:=12) (v:=?av7) rfl (by kernel_rfl) (by kernel_rfl) (by kernel_rfl) (fun _ _ _ h=>h) (Or.inl ⟨by rfl,?ay7⟩) ?as7
  case ay7=>(intro w;go_simp;try with_reducible rfl)
  refine wpAny_take (i:=13) (v:=?av8) rfl (by kernel_rfl) (by kernel_rfl) (by kernel_rfl) (fun _ _ _ h=>h) (Or.inl ⟨by rfl,?ay8⟩) ?as8
  case ay8=>(intro w;go_simp;try with_reducible rfl)
  refine wpAny_done (by kernel_rfl) ?_ _
  go_wp2
  go_ret
  exact ⟨by rw [HR.out];rfl,X2.out.2.1⟩
 ·go_simp
  go_wp2_with (go_at_call 163;refine (verbs_walk _).mono ?_;rintro e w2 ⟨v,rfl,hrv,hb2⟩;(obtain ⟨vA,vn,vc,hvv⟩:∃ A n c,v= .slice A n c:=by (obtain ⟨A,c,n,e,_⟩:=hrv.opn;exact ⟨A,n,c,e⟩));subst hvv;have X2:=Lib.hid (BoxT.step hst0 hb2);have HRV:=Lib.hid hrv;(obtain ⟨y0,y1,y2,y3,y4,y5⟩:=X2.out.c6);clear hb2 hrv)
  refine wpAny_ready (rs:=[4]) (by kernel_rfl) (by simp) ?_
  refine AllReady.cons rfl (fun K hK=>?_) AllReady.nil
  go_simp
  refine hK _ _ ?_
  clear hK K
  refine wpAny_ready (rs:=[6]) (by kernel_rfl) (by simp) ?_
  refine AllReady.cons rfl (fun K hK=>?_) AllReady.nil
  go_simp
  go_wp2_with (go_at_call 55;refine (HIN.out _ _ _ HRV.out (Below.refl _ _)).mono ?_;rintro e w3 ⟨rfl,rfl⟩)
  refine wpAny_take (i:=7) (v:=?av9) rfl (by kernel_rfl) (by kernel_rfl) (by kernel_rfl) (fun _ _ _ h=>h) (Or.inl ⟨by rfl,?ay9⟩) ?as9
  case ay9=>(intro w;go_simp;try with_reducible rfl)
  refine wpAny_take (i:=8) (v:=undef) rfl (by kernel_rfl) (by kernel_rfl) (by kernel_rfl) (fun _ _ _ h=>h) (Or.inr ⟨by (go_simp <;> (intro h;cases h)),rfl⟩) ?_
  refine wpAny_take (i:=9) (v:=undef) rfl (by kernel_rfl) (by kernel_rfl) (by kernel_rfl) (fun _ _ _ h=>h) (Or.inr ⟨by (go_simp <;> (intro h;cases h)),rfl⟩) ?_
  refine wpAny_take (i:=10) (v:=undef) rfl (by kernel_rfl) (by kernel_rfl) (by kernel_rfl) (fun _ _ _ h=>h) (Or.inr ⟨by (go_simp <;> (intro h;cases h)),rfl⟩) ?_
  refine wpAny_take (i:=11) (v:=?av10) rfl (by kernel_rfl) (by kernel_rfl) (by kernel_rfl) (fun _ _ _ h=>h) (Or.inl ⟨by go_simp,?ay10⟩) ?as10
  case ay10=>(intro w;go_simp;try with_reducible rfl)
  refine wpAny_take (i:=12) (v:=?av11) rfl (by kernel_rfl) (by kernel_rfl) (by kernel_rfl) (fun _ _ _ h=>h) (Or.inl ⟨by rfl,?ay11⟩) ?as11
  case ay11=>(intro w;go_simp;try with_reducible rfl)
  refine wpAny_take (i:=13) (v:=?av12) rfl (by kernel_rfl) (by kernel_rfl) (by kernel_rfl) (fun _ _ _ h=>h) (Or.inl ⟨by rfl,?ay12⟩) ?as12
  case ay12=>(intro w;go_simp;try with_reducible rfl)
  refine wpAny_done (by kernel_rfl) ?_ _
  go_wp2
  go_ret
  exact ⟨by rw [HR.out];rfl,X2.out.2.1⟩
theorem rfun_13c {N:Nat}{A1:Option Addr}{n1 c1:Nat}{A2:Option Addr}{n2 c2:Nat}{name:ByteArray}{c:Int}{cc:Nat}{nums:List Nat}{text:List Int}{w:World}{A:Option Addr}{kids:List RTree} (hv:verbB c=false)
  (HY:Hid (NodR N w A1 n1 c1 A2 n2 c2 name A 0 cc nums text kids))
  : Calls Tryz.prog 105 #[.agg #[.int .i64 13,.slice A1 n1 c1,.slice A2 n2 c2,.string name,.int .i32 c,.slice A 0 cc]] w fun e w'=>e= .returned (.bool (gd (.mk 13 nums text name c kids) 1))/\Below w.heap.size w w':=by
 obtain ⟨R,hR⟩:∃ R,R=gd (.mk 13 nums text name c kids) 1:=⟨_,rfl⟩
 obtain ⟨b1,hb1⟩:∃ b:Bool,b=onlyB 13 nums text name c:=⟨_,rfl⟩
 have HR:Hid (R=(b1&&slashB c)):=by
  unfold Hid;rw [hR];(try rw [hb1]);rw [gd_1_13,pl_n (by decide),decide_eq_true (show (kids.length:Int)=0 by have:=HY.out.hm;omega),hv];simp [onlyB,nmK,chK]
 rw [<- hR]
 clear hR
 have C1:Hid (∀ W,Below w.heap.size w W->Calls Tryz.prog 53 #[.agg #[.int .i64 13,.slice A1 n1 c1,.slice A2 n2 c2,.string name,.int .i32 c,.slice A 0 cc]] W fun e w'=>e= .returned (.bool b1)/\Below W.heap.size W w'):=by
  unfold Hid;rw [hb1];intro W _;exact only_walk 13 A1 n1 c1 A2 n2 c2 name c A 0 cc nums text HY.out.hn HY.out.ht W
 have X0:=Lib.hid (boxedT w [.int .i64 13,.slice A1 n1 c1,.slice A2 n2 c2,.string name,.int .i32 c,.slice A 0 cc] 29)
 have HIN:Hid (∀ v W0 W,Runes W0 v verbsL->Below W0.heap.size W0 W->Calls Tryz.prog 55 #[.int .i32 c,v] W fun e w'=>e= .returned (.bool false)/\W=w'):=fun v W0 W h hb=>by
  have h1:=rIn_walk c v verbsL W (h.below hb) (by decide)
  rw [show decide (c∈verbsL)=false from hv] at h1
  exact h1
 have HSL:=Lib.hid (rslash_walk c)
 clear hv
 generalize slashB c=sb at *
 clear HY hb1
 go_enter Tryz.func105,Tryz.ntmps105
 go_wp2_with fail
 generalize w.alloc (.cells #[.int .i64 13,.slice A1 n1 c1,.slice A2 n2 c2,.string name,.int .i32 c,.slice A 0 cc] 29)=W at *
 refine (C1.out _ X0.out.2.1).mono ?_
 rintro e w1 ⟨rfl,hb⟩
 have X1:=Lib.hid (X0.out.step hb)
 clear hb
 obtain ⟨x0,x1,x2,x3,x4,x5⟩:=X1.out.c6
 cases b1
 case false =>
  have HT:Hid (R=false):=by unfold Hid;rw [HR.out] <;> rfl
  go_wp2
  go_ret
  exact ⟨by rw [HT.out];rfl,X1.out.2.1⟩
 go_wp2_with fail
 have hs0:=X1.out.dr1
 have hs00:=X1.out
 clear x0 x1 x2 x3 x4 x5
 go_region_held3 (fun W=>W.cell? ⟨w.heap.size,4,none⟩=some (.int .i32 c)/\BoxT w W [.int .i64 13,.slice A1 n1 c1,.slice A2 n2 c2,.string name,.int .i32 c,.slice A 0 cc])
  (first | (with_reducible assumption) | (with_reducible (refine bx6_s ?_);repeat (first | (with_reducible assumption) | (with_reducible refine BoxT.dr1 ?_))))
  (first
   | (go_at_call 163;(with_reducible refine (verbs_walk _).mono ?_);rintro e w2 ⟨v,rfl,hrv,hb2⟩;(obtain ⟨vA,vn,vc,hvv⟩:∃ A n c,v= .slice A n c:=by (obtain ⟨A,c,n,e,_⟩:=hrv.opn;exact ⟨A,n,c,e⟩));subst hvv;have hst2:BoxT w w2 [.int .i64 13,.slice A1 n1 c1,.slice A2 n2 c2,.string name,.int .i32 c,.slice A 0 cc]:=BoxT.step (by repeat (first | (with_reducible assumption) | (with_reducible refine BoxT.dr1 ?_))) hb2;have HRV:=Lib.hid hrv;clear hb2 hrv)
   | (go_at_call 55;(with_reducible refine (HIN.out _ _ _ HRV.out ?_).mono ?_);(repeat (first | (with_reducible assumption) | (with_reducible exact Below.refl _ _) | (with_reducible refine Below.drew ?_)));rintro e w3 ⟨rfl,rfl⟩)
   | (go_at_call 128;(with_reducible refine (HSL.out _).mono ?_);rintro e w4 ⟨rfl,rfl⟩))
 all_goals
  go_wp2
  go_ret
  exact ⟨by rw [HR.out];cases sb <;> rfl,hst2.2.1⟩
end Go.Proofs.YtbakjaliponbbaaGreatDoor
