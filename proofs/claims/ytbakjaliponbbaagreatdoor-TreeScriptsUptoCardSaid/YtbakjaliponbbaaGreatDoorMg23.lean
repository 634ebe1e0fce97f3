/- The walks of the reference's GoodValue and GoodFun, kind by kind. Printed by .. Conditions: as each theorem says. -/
import Derived.Test.YtbakjaliponbbaaGreatDoorMg05
import Derived.Test.YtbakjaliponbbaaGreatDoorMg01
set_option maxRecDepth 100000
set_option maxHeartbeats 1600000
namespace Go.Proofs.YtbakjaliponbbaaGreatDoor
open Go Go.RowKit Go.Proofs Fl
theorem BoxT.c6 {w W:World}{v0 v1 v2 v3 v4 v5:Value} (h:BoxT w W [v0,v1,v2,v3,v4,v5]):W.cell? ⟨w.heap.size,0,none⟩=some v0/\W.cell? ⟨w.heap.size,1,none⟩=some v1/\W.cell? ⟨w.heap.size,2,none⟩=some v2 /\
  W.cell? ⟨w.heap.size,3,none⟩=some v3/\W.cell? ⟨w.heap.size,4,none⟩=some v4/\W.cell? ⟨w.heap.size,5,none⟩=some v5:=⟨h.1 0,h.1 1,h.1 2,h.1 3,h.1 4,h.1 5⟩
def KTell (N:Nat):Prop:=∀ (s:Int) (sn:Nat) (l:List RTree) (A:Option Addr) (m cc:Nat) (W:World),s=(sn:Int)->sn<=3->m=l.length->m<=1048576->KidR W A l->(∀ i (hi:i < l.length),sizeR l[i]<=N/\FitG l[i]) ->
 Calls Tryz.prog 57 #[.slice A m cc,.int .i64 s] W fun e w'=>e= .returned (.bool (l.all fun t=>gd t sn))/\Below W.heap.size W w'
theorem rtext_any (l:List Int):(!l.any (fun x=>decide (x=10))) = !decide ((10:Int)∈l):=by
 refine congrArg (! ·) ?_
 rw [Bool.eq_iff_iff,List.any_eq_true,decide_eq_true_iff]
 exact ⟨fun ⟨x,hx,e⟩=>of_decide_eq_true e▸hx,fun h=>⟨10,h,rfl⟩⟩
theorem rslash_walk (c:Int) (w:World):Calls Tryz.prog 128 #[.int .i32 c] w fun e w'=>e= .returned (.bool (slashB c))/\w=w':=by
 obtain ⟨R,hR⟩:∃ R,R=slashB c:=⟨_,rfl⟩
 have HR:Hid (R=decide (c=47\/c=92\/c=9023\/c=9024)):=hR
 rw [<- hR]
 clear hR
 go_enter Tryz.func128,Tryz.ntmps128
 go_wp2
 all_goals go_ret
 all_goals exact ⟨by rw [HR.out];clear HR;show Ending.returned (Value.bool _)=_;refine congrArg (fun b=>Ending.returned (Value.bool b)) ?_;first | (simp [*];done) | (rw [Bool.eq_iff_iff];simp [*];done) | (rw [Bool.eq_iff_iff];simp [*];omega),rfl⟩
theorem gdl_snocR:∀ (ts:List RTree) (t:RTree) (a b:Nat),gdl (ts++[t]) a b=(ts.all (fun t=>gd t a)&&gd t b)
 | [],t,a,b=>by rw [List.nil_append,gdl];simp
 | [t1],t,a,b=>by rw [List.singleton_append,gdl,gdl];simp
 | t1::t2::ts,t,a,b=>by
  rw [List.cons_append,List.cons_append,gdl,<- List.cons_append,gdl_snocR (t2::ts) t a b];simp [Bool.and_assoc]
theorem rval_no {N:Nat}{A1:Option Addr}{n1 c1:Nat}{A2:Option Addr}{n2 c2:Nat}{name:ByteArray}{k:Int}{c:Int}{cc:Nat}{nums:List Nat}{text:List Int}{w:World}{m:Nat}  {A:Option Addr}{kids:List RTree} (hk:k < 1\/12 < k)
  (HY:Hid (NodR N w A1 n1 c1 A2 n2 c2 name A m cc nums text kids))
  : Calls Tryz.prog 24 #[.agg #[.int .i64 k,.slice A1 n1 c1,.slice A2 n2 c2,.string name,.int .i32 c,.slice A m cc]] w fun e w'=>e= .returned (.bool (gd (.mk k nums text name c kids) 0))/\Below w.heap.size w w':=by
 have q1:(k==1)=false:=by simp;omega
 have q2:(k==2)=false:=by simp;omega
 have q3:(k==3)=false:=by simp;omega
 have q4:(k==4)=false:=by simp;omega
 have q5:(k==5)=false:=by simp;omega
 have q6:(k==6)=false:=by simp;omega
 have q7:(k==7)=false:=by simp;omega
 have q8:(k==8)=false:=by simp;omega
 have q9:(k==9)=false:=by simp;omega
 have q10:(k==10)=false:=by simp;omega
 have q11:(k==11)=false:=by simp;omega
 have q12:(k==12)=false:=by simp;omega
 obtain ⟨R,hR⟩:∃ R,R=gd (.mk k nums text name c kids) 0:=⟨_,rfl⟩
 have HR:Hid (R=((onlyB k nums text name c)&&false)):=by
  unfold Hid;rw [hR];rw [gd_0_no hk];simp
 rw [<- hR]
 clear hR
 obtain ⟨b1,hb1⟩:∃ b:Bool,b=(onlyB k nums text name c):=⟨_,rfl⟩
 have C1:Hid (∀ W,Below w.heap.size w W->Calls Tryz.prog 53 #[.agg #[.int .i64 k,.slice A1 n1 c1,.slice A2 n2 c2,.string name,.int .i32 c,.slice A m cc]] W fun e w'=>e= .returned (.bool b1)/\Below W.heap.size W w'):=by
  unfold Hid;rw [hb1];intro W _;exact only_walk k A1 n1 c1 A2 n2 c2 name c A m cc nums text HY.out.hn HY.out.ht W
 rw [<- hb1] at HR
 clear hb1
 have X0:=Lib.hid (boxedT w [.int .i64 k,.slice A1 n1 c1,.slice A2 n2 c2,.string name,.int .i32 c,.slice A m cc] 29)
 clear hk
 clear HY
 go_enter Tryz.func24,Tryz.ntmps24
 go_wp2_with fail
 generalize w.alloc (.cells #[.int .i64 k,.slice A1 n1 c1,.slice A2 n2 c2,.string name,.int .i32 c,.slice A m cc] 29)=W at *
 refine (C1.out _ X0.out.2.1).mono ?_
 rintro e w1 ⟨rfl,hb⟩
 have X1:=Lib.hid (X0.out.step hb)
 clear hb
 obtain ⟨x0,x1,x2,x3,x4,x5⟩:=X1.out.c6
 cases b1
 case false =>
  have HT:Hid (R=false):=by unfold Hid;rw [HR.out] <;> simp
  go_wp2
  go_ret
  exact ⟨by rw [HT.out];rfl,X1.out.2.1⟩
 have HT:Hid (R=false):=by unfold Hid;rw [HR.out] <;> simp
 go_wp2
 go_ret
 exact ⟨by rw [HT.out];rfl,X1.out.2.1⟩
theorem rval_2a {N:Nat}{A1:Option Addr}{n1 c1:Nat}{A2:Option Addr}{n2 c2:Nat}{name:ByteArray}{c:Int}{cc:Nat}{nums:List Nat}{text:List Int}{w:World}{m:Nat}  {A:Option Addr}{kids:List RTree} (h0:(m:Int)≠0)
  (HY:Hid (NodR N w A1 n1 c1 A2 n2 c2 name A m cc nums text kids))
  : Calls Tryz.prog 24 #[.agg #[.int .i64 2,.slice A1 n1 c1,.slice A2 n2 c2,.string name,.int .i32 c,.slice A m cc]] w fun e w'=>e= .returned (.bool (gd (.mk 2 nums text name c kids) 0))/\Below w.heap.size w w':=by
 obtain ⟨R,hR⟩:∃ R,R=gd (.mk 2 nums text name c kids) 0:=⟨_,rfl⟩
 have HR:Hid (R=((onlyB 2 nums text name c)&&false)):=by
  unfold Hid;rw [hR];rw [gd_0_2,pl_n (by decide),decide_eq_false (show ¬ (kids.length:Int)=0 by have:=HY.out.hm;omega)];simp
 rw [<- hR]
 clear hR
 obtain ⟨b1,hb1⟩:∃ b:Bool,b=(onlyB 2 nums text name c):=⟨_,rfl⟩
 have C1:Hid (∀ W,Below w.heap.size w W->Calls Tryz.prog 53 #[.agg #[.int .i64 2,.slice A1 n1 c1,.slice A2 n2 c2,.string name,.int .i32 c,.slice A m cc]] W fun e w'=>e= .returned (.bool b1)/\Below W.heap.size W w'):=by
  unfold Hid;rw [hb1];intro W _;exact only_walk 2 A1 n1 c1 A2 n2 c2 name c A m cc nums text HY.out.hn HY.out.ht W
 rw [<- hb1] at HR
 clear hb1
 have X0:=Lib.hid (boxedT w [.int .i64 2,.slice A1 n1 c1,.slice A2 n2 c2,.string name,.int .i32 c,.slice A m cc] 29)
 have e0:((m:Int)==0)=false:=by simpa using h0
 clear h0
 clear HY
 go_enter Tryz.func24,Tryz.ntmps24
 go_wp2_with fail
 generalize w.alloc (.cells #[.int .i64 2,.slice A1 n1 c1,.slice A2 n2 c2,.string name,.int .i32 c,.slice A m cc] 29)=W at *
 refine (C1.out _ X0.out.2.1).mono ?_
 rintro e w1 ⟨rfl,hb⟩
 have X1:=Lib.hid (X0.out.step hb)
 clear hb
 obtain ⟨x0,x1,x2,x3,x4,x5⟩:=X1.out.c6
 cases b1
 case false =>
  have HT:Hid (R=false):=by unfold Hid;rw [HR.out] <;> simp
  go_wp2
  go_ret
  exact ⟨by rw [HT.out];rfl,X1.out.2.1⟩
 have HT:Hid (R=false):=by unfold Hid;rw [HR.out] <;> simp
 go_wp2
 go_ret
 exact ⟨by rw [HT.out];rfl,X1.out.2.1⟩
theorem rval_2b {N:Nat}{A1:Option Addr}{n1 c1:Nat}{A2:Option Addr}{n2 c2:Nat}{name:ByteArray}{c:Int}{cc:Nat}{nums:List Nat}{text:List Int}{w:World}  {A:Option Addr}{kids:List RTree}
  (HY:Hid (NodR N w A1 n1 c1 A2 n2 c2 name A 0 cc nums text kids))
  : Calls Tryz.prog 24 #[.agg #[.int .i64 2,.slice A1 n1 c1,.slice A2 n2 c2,.string name,.int .i32 c,.slice A 0 cc]] w fun e w'=>e= .returned (.bool (gd (.mk 2 nums text name c kids) 0))/\Below w.heap.size w w':=by
 obtain ⟨R,hR⟩:∃ R,R=gd (.mk 2 nums text name c kids) 0:=⟨_,rfl⟩
 have HR:Hid (R=((onlyB 2 nums text name c)&&!(decide ((10:Int)∈text)))):=by
  unfold Hid;rw [hR];rw [gd_0_2,pl_n (by decide),decide_eq_true (show (kids.length:Int)=0 by have:=HY.out.hm;omega)];simp [onlyB,nmK,chK];rw [rtext_any]
 rw [<- hR]
 clear hR
 obtain ⟨b1,hb1⟩:∃ b:Bool,b=(onlyB 2 nums text name c):=⟨_,rfl⟩
 have C1:Hid (∀ W,Below w.heap.size w W->Calls Tryz.prog 53 #[.agg #[.int .i64 2,.slice A1 n1 c1,.slice A2 n2 c2,.string name,.int .i32 c,.slice A 0 cc]] W fun e w'=>e= .returned (.bool b1)/\Below W.heap.size W w'):=by
  unfold Hid;rw [hb1];intro W _;exact only_walk 2 A1 n1 c1 A2 n2 c2 name c A 0 cc nums text HY.out.hn HY.out.ht W
 rw [<- hb1] at HR
 clear hb1
 obtain ⟨b2,hb2⟩:∃ b:Bool,b=(decide ((10:Int)∈text)):=⟨_,rfl⟩
 have C2:Hid (∀ W,Below w.heap.size w W->Calls Tryz.prog 55 #[.int .i32 10,.slice A2 n2 c2] W fun e w'=>e= .returned (.bool b2)/\W=w'):=by
  unfold Hid;rw [hb2];intro W hb;exact rIn_walk 10 _ text W (runes_of (HY.out.hrt.below hb)) (by have:=HY.out.ft;omega)
 rw [<- hb2] at HR
 clear hb2
 have X0:=Lib.hid (boxedT w [.int .i64 2,.slice A1 n1 c1,.slice A2 n2 c2,.string name,.int .i32 c,.slice A 0 cc] 29)
 clear HY
 go_enter Tryz.func24,Tryz.ntmps24
 go_wp2_with fail
 generalize w.alloc (.cells #[.int .i64 2,.slice A1 n1 c1,.slice A2 n2 c2,.string name,.int .i32 c,.slice A 0 cc] 29)=W at *
 refine (C1.out _ X0.out.2.1).mono ?_
 rintro e w1 ⟨rfl,hb⟩
 have X1:=Lib.hid (X0.out.step hb)
 clear hb
 obtain ⟨x0,x1,x2,x3,x4,x5⟩:=X1.out.c6
 cases b1
 case false =>
  have HT:Hid (R=false):=by unfold Hid;rw [HR.out] <;> simp
  go_wp2
  go_ret
  exact ⟨by rw [HT.out];rfl,X1.out.2.1⟩
 go_wp2_with fail
 refine (C2.out _ X1.out.2.1).mono ?_
 rintro e w2 ⟨rfl,rfl⟩
 cases b2
 case true =>
  have HT:Hid (R=false):=by unfold Hid;rw [HR.out] <;> simp
  go_wp2
  go_ret
  exact ⟨by rw [HT.out];rfl,X1.out.2.1⟩
 have HT:Hid (R=true):=by unfold Hid;rw [HR.out] <;> simp
 go_wp2
 go_ret
 exact ⟨by rw [HT.out];rfl,X1.out.2.1⟩
theorem rval_3a {N:Nat}{A1:Option Addr}{n1 c1:Nat}{A2:Option Addr}{n2 c2:Nat}{name:ByteArray}{c:Int}{cc:Nat}{nums:List Nat}{text:List Int}{w:World}{m:Nat}  {A:Option Addr}{kids:List RTree} (h0:(m:Int)≠0)
  (HY:Hid (NodR N w A1 n1 c1 A2 n2 c2 name A m cc nums text kids))
  : Calls Tryz.prog 24 #[.agg #[.int .i64 3,.slice A1 n1 c1,.slice A2 n2 c2,.string name,.int .i32 c,.slice A m cc]] w fun e w'=>e= .returned (.bool (gd (.mk 3 nums text name c kids) 0))/\Below w.heap.size w w':=by
 obtain ⟨R,hR⟩:∃ R,R=gd (.mk 3 nums text name c kids) 0:=⟨_,rfl⟩
 have HR:Hid (R=((onlyB 3 nums text name c)&&false)):=by
  unfold Hid;rw [hR];rw [gd_0_3,pl_n (by decide),decide_eq_false (show ¬ (kids.length:Int)=0 by have:=HY.out.hm;omega)];simp
 rw [<- hR]
 clear hR
 obtain ⟨b1,hb1⟩:∃ b:Bool,b=(onlyB 3 nums text name c):=⟨_,rfl⟩
 have C1:Hid (∀ W,Below w.heap.size w W->Calls Tryz.prog 53 #[.agg #[.int .i64 3,.slice A1 n1 c1,.slice A2 n2 c2,.string name,.int .i32 c,.slice A m cc]] W fun e w'=>e= .returned (.bool b1)/\Below W.heap.size W w'):=by
  unfold Hid;rw [hb1];intro W _;exact only_walk 3 A1 n1 c1 A2 n2 c2 name c A m cc nums text HY.out.hn HY.out.ht W
 rw [<- hb1] at HR
 clear hb1
 have X0:=Lib.hid (boxedT w [.int .i64 3,.slice A1 n1 c1,.slice A2 n2 c2,.string name,.int .i32 c,.slice A m cc] 29)
 have e0:((m:Int)==0)=false:=by simpa using h0
 clear h0
 clear HY
 go_enter Tryz.func24,Tryz.ntmps24
 go_wp2_with fail
 generalize w.alloc (.cells #[.int .i64 3,.slice A1 n1 c1,.slice A2 n2 c2,.string name,.int .i32 c,.slice A m cc] 29)=W at *
 refine (C1.out _ X0.out.2.1).mono ?_
 rintro e w1 ⟨rfl,hb⟩
 have X1:=Lib.hid (X0.out.step hb)
 clear hb
 obtain ⟨x0,x1,x2,x3,x4,x5⟩:=X1.out.c6
 cases b1
 case false =>
  have HT:Hid (R=false):=by unfold Hid;rw [HR.out] <;> simp
  go_wp2
  go_ret
  exact ⟨by rw [HT.out];rfl,X1.out.2.1⟩
 have HT:Hid (R=false):=by unfold Hid;rw [HR.out] <;> simp
 go_wp2
 go_ret
 exact ⟨by rw [HT.out];rfl,X1.out.2.1⟩
theorem rval_3b {N:Nat}{A1:Option Addr}{n1 c1:Nat}{A2:Option Addr}{n2 c2:Nat}{name:ByteArray}{c:Int}{cc:Nat}{nums:List Nat}{text:List Int}{w:World}  {A:Option Addr}{kids:List RTree}
  (HY:Hid (NodR N w A1 n1 c1 A2 n2 c2 name A 0 cc nums text kids))
  : Calls Tryz.prog 24 #[.agg #[.int .i64 3,.slice A1 n1 c1,.slice A2 n2 c2,.string name,.int .i32 c,.slice A 0 cc]] w fun e w'=>e= .returned (.bool (gd (.mk 3 nums text name c kids) 0))/\Below w.heap.size w w':=by
 obtain ⟨R,hR⟩:∃ R,R=gd (.mk 3 nums text name c kids) 0:=⟨_,rfl⟩
 have HR:Hid (R=((onlyB 3 nums text name c)&&(goodNB (runesOf name)&&(upB name==false)))):=by
  unfold Hid;rw [hR];rw [gd_0_3,pl_n (by decide),decide_eq_true (show (kids.length:Int)=0 by have:=HY.out.hm;omega)];simp [onlyB,nmK,chK,Bool.and_assoc]
 rw [<- hR]
 clear hR
 obtain ⟨b1,hb1⟩:∃ b:Bool,b=(onlyB 3 nums text name c):=⟨_,rfl⟩
 have C1:Hid (∀ W,Below w.heap.size w W->Calls Tryz.prog 53 #[.agg #[.int .i64 3,.slice A1 n1 c1,.slice A2 n2 c2,.string name,.int .i32 c,.slice A 0 cc]] W fun e w'=>e= .returned (.bool b1)/\Below W.heap.size W w'):=by
  unfold Hid;rw [hb1];intro W _;exact only_walk 3 A1 n1 c1 A2 n2 c2 name c A 0 cc nums text HY.out.hn HY.out.ht W
 rw [<- hb1] at HR
 clear hb1
 obtain ⟨b2,hb2⟩:∃ b:Bool,b=(goodNB (runesOf name)&&(upB name==false)):=⟨_,rfl⟩
 have C2:Hid (∀ W,Below w.heap.size w W->Calls Tryz.prog 56 #[.agg #[.int .i64 3,.slice A1 n1 c1,.slice A2 n2 c2,.string name,.int .i32 c,.slice A 0 cc],.bool false] W fun e w'=>e= .returned (.bool b2)/\Below W.heap.size W w'):=by
  unfold Hid;rw [hb2];intro W _;exact named_walk 3 _ _ _ name c false W HY.out.fs
 rw [<- hb2] at HR
 clear hb2
 have X0:=Lib.hid (boxedT w [.int .i64 3,.slice A1 n1 c1,.slice A2 n2 c2,.string name,.int .i32 c,.slice A 0 cc] 29)
 clear HY
 go_enter Tryz.func24,Tryz.ntmps24
 go_wp2_with fail
 generalize w.alloc (.cells #[.int .i64 3,.slice A1 n1 c1,.slice A2 n2 c2,.string name,.int .i32 c,.slice A 0 cc] 29)=W at *
 refine (C1.out _ X0.out.2.1).mono ?_
 rintro e w1 ⟨rfl,hb⟩
 have X1:=Lib.hid (X0.out.step hb)
 clear hb
 obtain ⟨x0,x1,x2,x3,x4,x5⟩:=X1.out.c6
 cases b1
 case false =>
  have HT:Hid (R=false):=by unfold Hid;rw [HR.out] <;> simp
  go_wp2
  go_ret
  exact ⟨by rw [HT.out];rfl,X1.out.2.1⟩
 go_wp2_with fail
 refine (C2.out _ X1.out.2.1).mono ?_
 rintro e w2 ⟨rfl,hb⟩
 have X2:=Lib.hid (X1.out.step hb)
 clear hb x0 x1 x2 x3 x4 x5
 obtain ⟨x0,x1,x2,x3,x4,x5⟩:=X2.out.c6
 cases b2
 case false =>
  have HT:Hid (R=false):=by unfold Hid;rw [HR.out] <;> simp
  go_wp2
  go_ret
  exact ⟨by rw [HT.out];rfl,X2.out.2.1⟩
 have HT:Hid (R=true):=by unfold Hid;rw [HR.out] <;> simp
 go_wp2
 go_ret
 exact ⟨by rw [HT.out];rfl,X2.out.2.1⟩
theorem rval_4a {N:Nat}{A1:Option Addr}{n1 c1:Nat}{A2:Option Addr}{n2 c2:Nat}{name:ByteArray}{c:Int}{cc:Nat}{nums:List Nat}{text:List Int}{w:World}{m:Nat}  {A:Option Addr}{kids:List RTree} (h0:(m:Int)≠0)
  (HY:Hid (NodR N w A1 n1 c1 A2 n2 c2 name A m cc nums text kids))
  : Calls Tryz.prog 24 #[.agg #[.int .i64 4,.slice A1 n1 c1,.slice A2 n2 c2,.string name,.int .i32 c,.slice A m cc]] w fun e w'=>e= .returned (.bool (gd (.mk 4 nums text name c kids) 0))/\Below w.heap.size w w':=by
 obtain ⟨R,hR⟩:∃ R,R=gd (.mk 4 nums text name c kids) 0:=⟨_,rfl⟩
 have HR:Hid (R=((onlyB 4 nums text name c)&&false)):=by
  unfold Hid;rw [hR];rw [gd_0_4,pl_n (by decide),decide_eq_false (show ¬ (kids.length:Int)=0 by have:=HY.out.hm;omega)];simp
 rw [<- hR]
 clear hR
 obtain ⟨b1,hb1⟩:∃ b:Bool,b=(onlyB 4 nums text name c):=⟨_,rfl⟩
 have C1:Hid (∀ W,Below w.heap.size w W->Calls Tryz.prog 53 #[.agg #[.int .i64 4,.slice A1 n1 c1,.slice A2 n2 c2,.string name,.int .i32 c,.slice A m cc]] W fun e w'=>e= .returned (.bool b1)/\Below W.heap.size W w'):=by
  unfold Hid;rw [hb1];intro W _;exact only_walk 4 A1 n1 c1 A2 n2 c2 name c A m cc nums text HY.out.hn HY.out.ht W
 rw [<- hb1] at HR
 clear hb1
 have X0:=Lib.hid (boxedT w [.int .i64 4,.slice A1 n1 c1,.slice A2 n2 c2,.string name,.int .i32 c,.slice A m cc] 29)
 have e0:((m:Int)==0)=false:=by simpa using h0
 clear h0
 clear HY
 go_enter Tryz.func24,Tryz.ntmps24
 go_wp2_with fail
 generalize w.alloc (.cells #[.int .i64 4,.slice A1 n1 c1,.slice A2 n2 c2,.string name,.int .i32 c,.slice A m cc] 29)=W at *
 refine (C1.out _ X0.out.2.1).mono ?_
 rintro e w1 ⟨rfl,hb⟩
 have X1:=Lib.hid (X0.out.step hb)
 clear hb
 obtain ⟨x0,x1,x2,x3,x4,x5⟩:=X1.out.c6
 cases b1
 case false =>
  have HT:Hid (R=false):=by unfold Hid;rw [HR.out] <;> simp
  go_wp2
  go_ret
  exact ⟨by rw [HT.out];rfl,X1.out.2.1⟩
 have HT:Hid (R=false):=by unfold Hid;rw [HR.out] <;> simp
 go_wp2
 go_ret
 exact ⟨by rw [HT.out];rfl,X1.out.2.1⟩
theorem rval_4b {N:Nat}{A1:Option Addr}{n1 c1:Nat}{A2:Option Addr}{n2 c2:Nat}{name:ByteArray}{c:Int}{cc:Nat}{nums:List Nat}{text:List Int}{w:World}  {A:Option Addr}{kids:List RTree}
  (HY:Hid (NodR N w A1 n1 c1 A2 n2 c2 name A 0 cc nums text kids))
  : Calls Tryz.prog 24 #[.agg #[.int .i64 4,.slice A1 n1 c1,.slice A2 n2 c2,.string name,.int .i32 c,.slice A 0 cc]] w fun e w'=>e= .returned (.bool (gd (.mk 4 nums text name c kids) 0))/\Below w.heap.size w w':=by
 obtain ⟨R,hR⟩:∃ R,R=gd (.mk 4 nums text name c kids) 0:=⟨_,rfl⟩
 have HR:Hid (R=((onlyB 4 nums text name c))):=by
  unfold Hid;rw [hR];rw [gd_0_4,pl_n (by decide),decide_eq_true (show (kids.length:Int)=0 by have:=HY.out.hm;omega)];simp [onlyB,nmK,chK]
 rw [<- hR]
 clear hR
 obtain ⟨b1,hb1⟩:∃ b:Bool,b=(onlyB 4 nums text name c):=⟨_,rfl⟩
 have C1:Hid (∀ W,Below w.heap.size w W->Calls Tryz.prog 53 #[.agg #[.int .i64 4,.slice A1 n1 c1,.slice A2 n2 c2,.string name,.int .i32 c,.slice A 0 cc]] W fun e w'=>e= .returned (.bool b1)/\Below W.heap.size W w'):=by
  unfold Hid;rw [hb1];intro W _;exact only_walk 4 A1 n1 c1 A2 n2 c2 name c A 0 cc nums text HY.out.hn HY.out.ht W
 rw [<- hb1] at HR
 clear hb1
 have X0:=Lib.hid (boxedT w [.int .i64 4,.slice A1 n1 c1,.slice A2 n2 c2,.string name,.int .i32 c,.slice A 0 cc] 29)
 clear HY
 go_enter Tryz.func24,Tryz.ntmps24
 go_wp2_with fail
 generalize w.alloc (.cells #[.int .i64 4,.slice A1 n1 c1,.slice A2 n2 c2,.string name,.int .i32 c,.slice A 0 cc] 29)=W at *
 refine (C1.out _ X0.out.2.1).mono ?_
 rintro e w1 ⟨rfl,hb⟩
 have X1:=Lib.hid (X0.out.step hb)
 clear hb
 obtain ⟨x0,x1,x2,x3,x4,x5⟩:=X1.out.c6
 cases b1
 case false =>
  have HT:Hid (R=false):=by unfold Hid;rw [HR.out] <;> simp
  go_wp2
  go_ret
  exact ⟨by rw [HT.out];rfl,X1.out.2.1⟩
 have HT:Hid (R=true):=by unfold Hid;rw [HR.out] <;> simp
 go_wp2
 go_ret
 exact ⟨by rw [HT.out];rfl,X1.out.2.1⟩
theorem rval_5a {N:Nat}{A1:Option Addr}{n1 c1:Nat}{A2:Option Addr}{n2 c2:Nat}{name:ByteArray}{c:Int}{cc:Nat}{nums:List Nat}{text:List Int}{w:World}{m:Nat}  {A:Option Addr}{kids:List RTree} (h0:(m:Int)≠0)
  (HY:Hid (NodR N w A1 n1 c1 A2 n2 c2 name A m cc nums text kids))
  : Calls Tryz.prog 24 #[.agg #[.int .i64 5,.slice A1 n1 c1,.slice A2 n2 c2,.string name,.int .i32 c,.slice A m cc]] w fun e w'=>e= .returned (.bool (gd (.mk 5 nums text name c kids) 0))/\Below w.heap.size w w':=by
 obtain ⟨R,hR⟩:∃ R,R=gd (.mk 5 nums text name c kids) 0:=⟨_,rfl⟩
 have HR:Hid (R=((onlyB 5 nums text name c)&&false)):=by
  unfold Hid;rw [hR];rw [gd_0_5,pl_n (by decide),decide_eq_false (show ¬ (kids.length:Int)=0 by have:=HY.out.hm;omega)];simp
 rw [<- hR]
 clear hR
 obtain ⟨b1,hb1⟩:∃ b:Bool,b=(onlyB 5 nums text name c):=⟨_,rfl⟩
 have C1:Hid (∀ W,Below w.heap.size w W->Calls Tryz.prog 53 #[.agg #[.int .i64 5,.slice A1 n1 c1,.slice A2 n2 c2,.string name,.int .i32 c,.slice A m cc]] W fun e w'=>e= .returned (.bool b1)/\Below W.heap.size W w'):=by
  unfold Hid;rw [hb1];intro W _;exact only_walk 5 A1 n1 c1 A2 n2 c2 name c A m cc nums text HY.out.hn HY.out.ht W
 rw [<- hb1] at HR
 clear hb1
 have X0:=Lib.hid (boxedT w [.int .i64 5,.slice A1 n1 c1,.slice A2 n2 c2,.string name,.int .i32 c,.slice A m cc] 29)
 have e0:((m:Int)==0)=false:=by simpa using h0
 clear h0
 clear HY
 go_enter Tryz.func24,Tryz.ntmps24
 go_wp2_with fail
 generalize w.alloc (.cells #[.int .i64 5,.slice A1 n1 c1,.slice A2 n2 c2,.string name,.int .i32 c,.slice A m cc] 29)=W at *
 refine (C1.out _ X0.out.2.1).mono ?_
 rintro e w1 ⟨rfl,hb⟩
 have X1:=Lib.hid (X0.out.step hb)
 clear hb
 obtain ⟨x0,x1,x2,x3,x4,x5⟩:=X1.out.c6
 cases b1
 case false =>
  have HT:Hid (R=false):=by unfold Hid;rw [HR.out] <;> simp
  go_wp2
  go_ret
  exact ⟨by rw [HT.out];rfl,X1.out.2.1⟩
 have HT:Hid (R=false):=by unfold Hid;rw [HR.out] <;> simp
 go_wp2
 go_ret
 exact ⟨by rw [HT.out];rfl,X1.out.2.1⟩
theorem rval_5b {N:Nat}{A1:Option Addr}{n1 c1:Nat}{A2:Option Addr}{n2 c2:Nat}{name:ByteArray}{c:Int}{cc:Nat}{nums:List Nat}{text:List Int}{w:World}  {A:Option Addr}{kids:List RTree}
  (HY:Hid (NodR N w A1 n1 c1 A2 n2 c2 name A 0 cc nums text kids))
  : Calls Tryz.prog 24 #[.agg #[.int .i64 5,.slice A1 n1 c1,.slice A2 n2 c2,.string name,.int .i32 c,.slice A 0 cc]] w fun e w'=>e= .returned (.bool (gd (.mk 5 nums text name c kids) 0))/\Below w.heap.size w w':=by
 obtain ⟨R,hR⟩:∃ R,R=gd (.mk 5 nums text name c kids) 0:=⟨_,rfl⟩
 have HR:Hid (R=((onlyB 5 nums text name c))):=by
  unfold Hid;rw [hR];rw [gd_0_5,pl_n (by decide),decide_eq_true (show (kids.length:Int)=0 by have:=HY.out.hm;omega)];simp [onlyB,nmK,chK]
 rw [<- hR]
 clear hR
 obtain ⟨b1,hb1⟩:∃ b:Bool,b=(onlyB 5 nums text name c):=⟨_,rfl⟩
 have C1:Hid (∀ W,Below w.heap.size w W->Calls Tryz.prog 53 #[.agg #[.int .i64 5,.slice A1 n1 c1,.slice A2 n2 c2,.string name,.int .i32 c,.slice A 0 cc]] W fun e w'=>e= .returned (.bool b1)/\Below W.heap.size W w'):=by
  unfold Hid;rw [hb1];intro W _;exact only_walk 5 A1 n1 c1 A2 n2 c2 name c A 0 cc nums text HY.out.hn HY.out.ht W
 rw [<- hb1] at HR
 clear hb1
 have X0:=Lib.hid (boxedT w [.int .i64 5,.slice A1 n1 c1,.slice A2 n2 c2,.string name,.int .i32 c,.slice A 0 cc] 29)
 clear HY
 go_enter Tryz.func24,Tryz.ntmps24
 go_wp2_with fail
 generalize w.alloc (.cells #[.int .i64 5,.slice A1 n1 c1,.slice A2 n2 c2,.string name,.int .i32 c,.slice A 0 cc] 29)=W at *
 refine (C1.out _ X0.out.2.1).mono ?_
 rintro e w1 ⟨rfl,hb⟩
 have X1:=Lib.hid (X0.out.step hb)
 clear hb
 obtain ⟨x0,x1,x2,x3,x4,x5⟩:=X1.out.c6
 cases b1
 case false =>
  have HT:Hid (R=false):=by unfold Hid;rw [HR.out] <;> simp
  go_wp2
  go_ret
  exact ⟨by rw [HT.out];rfl,X1.out.2.1⟩
 have HT:Hid (R=true):=by unfold Hid;rw [HR.out] <;> simp
 go_wp2
 go_ret
 exact ⟨by rw [HT.out];rfl,X1.out.2.1⟩
theorem rval_6a {N:Nat}{A1:Option Addr}{n1 c1:Nat}{A2:Option Addr}{n2 c2:Nat}{name:ByteArray}{c:Int}{cc:Nat}{nums:List Nat}{text:List Int}{w:World}{m:Nat}  {A:Option Addr}{kids:List RTree} (h0:(m:Int)≠0)
  (HY:Hid (NodR N w A1 n1 c1 A2 n2 c2 name A m cc nums text kids))
  : Calls Tryz.prog 24 #[.agg #[.int .i64 6,.slice A1 n1 c1,.slice A2 n2 c2,.string name,.int .i32 c,.slice A m cc]] w fun e w'=>e= .returned (.bool (gd (.mk 6 nums text name c kids) 0))/\Below w.heap.size w w':=by
 obtain ⟨R,hR⟩:∃ R,R=gd (.mk 6 nums text name c kids) 0:=⟨_,rfl⟩
 have HR:Hid (R=((onlyB 6 nums text name c)&&false)):=by
  unfold Hid;rw [hR];rw [gd_0_6,pl_n (by decide),decide_eq_false (show ¬ (kids.length:Int)=0 by have:=HY.out.hm;omega)];simp
 rw [<- hR]
 clear hR
 obtain ⟨b1,hb1⟩:∃ b:Bool,b=(onlyB 6 nums text name c):=⟨_,rfl⟩
 have C1:Hid (∀ W,Below w.heap.size w W->Calls Tryz.prog 53 #[.agg #[.int .i64 6,.slice A1 n1 c1,.slice A2 n2 c2,.string name,.int .i32 c,.slice A m cc]] W fun e w'=>e= .returned (.bool b1)/\Below W.heap.size W w'):=by
  unfold Hid;rw [hb1];intro W _;exact only_walk 6 A1 n1 c1 A2 n2 c2 name c A m cc nums text HY.out.hn HY.out.ht W
 rw [<- hb1] at HR
 clear hb1
 have X0:=Lib.hid (boxedT w [.int .i64 6,.slice A1 n1 c1,.slice A2 n2 c2,.string name,.int .i32 c,.slice A m cc] 29)
 have e0:((m:Int)==0)=false:=by simpa using h0
 clear h0
 clear HY
 go_enter Tryz.func24,Tryz.ntmps24
 go_wp2_with fail
 generalize w.alloc (.cells #[.int .i64 6,.slice A1 n1 c1,.slice A2 n2 c2,.string name,.int .i32 c,.slice A m cc] 29)=W at *
 refine (C1.out _ X0.out.2.1).mono ?_
 rintro e w1 ⟨rfl,hb⟩
 have X1:=Lib.hid (X0.out.step hb)
 clear hb
 obtain ⟨x0,x1,x2,x3,x4,x5⟩:=X1.out.c6
 cases b1
 case false =>
  have HT:Hid (R=false):=by unfold Hid;rw [HR.out] <;> simp
  go_wp2
  go_ret
  exact ⟨by rw [HT.out];rfl,X1.out.2.1⟩
 have HT:Hid (R=false):=by unfold Hid;rw [HR.out] <;> simp
 go_wp2
 go_ret
 exact ⟨by rw [HT.out];rfl,X1.out.2.1⟩
theorem rval_6b {N:Nat}{A1:Option Addr}{n1 c1:Nat}{A2:Option Addr}{n2 c2:Nat}{name:ByteArray}{c:Int}{cc:Nat}{nums:List Nat}{text:List Int}{w:World}  {A:Option Addr}{kids:List RTree}
  (HY:Hid (NodR N w A1 n1 c1 A2 n2 c2 name A 0 cc nums text kids))
  : Calls Tryz.prog 24 #[.agg #[.int .i64 6,.slice A1 n1 c1,.slice A2 n2 c2,.string name,.int .i32 c,.slice A 0 cc]] w fun e w'=>e= .returned (.bool (gd (.mk 6 nums text name c kids) 0))/\Below w.heap.size w w':=by
 obtain ⟨R,hR⟩:∃ R,R=gd (.mk 6 nums text name c kids) 0:=⟨_,rfl⟩
 have HR:Hid (R=((onlyB 6 nums text name c))):=by
  unfold Hid;rw [hR];rw [gd_0_6,pl_n (by decide),decide_eq_true (show (kids.length:Int)=0 by have:=HY.out.hm;omega)];simp [onlyB,nmK,chK]
 rw [<- hR]
 clear hR
 obtain ⟨b1,hb1⟩:∃ b:Bool,b=(onlyB 6 nums text name c):=⟨_,rfl⟩
 have C1:Hid (∀ W,Below w.heap.size w W->Calls Tryz.prog 53 #[.agg #[.int .i64 6,.slice A1 n1 c1,.slice A2 n2 c2,.string name,.int .i32 c,.slice A 0 cc]] W fun e w'=>e= .returned (.bool b1)/\Below W.heap.size W w'):=by
  unfold Hid;rw [hb1];intro W _;exact only_walk 6 A1 n1 c1 A2 n2 c2 name c A 0 cc nums text HY.out.hn HY.out.ht W
 rw [<- hb1] at HR
 clear hb1
 have X0:=Lib.hid (boxedT w [.int .i64 6,.slice A1 n1 c1,.slice A2 n2 c2,.string name,.int .i32 c,.slice A 0 cc] 29)
 clear HY
 go_enter Tryz.func24,Tryz.ntmps24
 go_wp2_with fail
 generalize w.alloc (.cells #[.int .i64 6,.slice A1 n1 c1,.slice A2 n2 c2,.string name,.int .i32 c,.slice A 0 cc] 29)=W at *
 refine (C1.out _ X0.out.2.1).mono ?_
 rintro e w1 ⟨rfl,hb⟩
 have X1:=Lib.hid (X0.out.step hb)
 clear hb
 obtain ⟨x0,x1,x2,x3,x4,x5⟩:=X1.out.c6
 cases b1
 case false =>
  have HT:Hid (R=false):=by unfold Hid;rw [HR.out] <;> simp
  go_wp2
  go_ret
  exact ⟨by rw [HT.out];rfl,X1.out.2.1⟩
 have HT:Hid (R=true):=by unfold Hid;rw [HR.out] <;> simp
 go_wp2
 go_ret
 exact ⟨by rw [HT.out];rfl,X1.out.2.1⟩
theorem rval_7a {N:Nat}{A1:Option Addr}{n1 c1:Nat}{A2:Option Addr}{n2 c2:Nat}{name:ByteArray}{c:Int}{cc:Nat}{nums:List Nat}{text:List Int}{w:World}{m:Nat}  {A:Option Addr}{kids:List RTree} (h0:m<=1)
  (HY:Hid (NodR N w A1 n1 c1 A2 n2 c2 name A m cc nums text kids))
  : Calls Tryz.prog 24 #[.agg #[.int .i64 7,.slice A1 n1 c1,.slice A2 n2 c2,.string name,.int .i32 c,.slice A m cc]] w fun e w'=>e= .returned (.bool (gd (.mk 7 nums text name c kids) 0))/\Below w.heap.size w w':=by
 obtain ⟨R,hR⟩:∃ R,R=gd (.mk 7 nums text name c kids) 0:=⟨_,rfl⟩
 have HR:Hid (R=((onlyB 7 nums text name c)&&false)):=by
  unfold Hid;rw [hR];rw [gd_0_7,pl_m,decide_eq_false (by have:=HY.out.hm;omega)];simp
 rw [<- hR]
 clear hR
 obtain ⟨b1,hb1⟩:∃ b:Bool,b=(onlyB 7 nums text name c):=⟨_,rfl⟩
 have C1:Hid (∀ W,Below w.heap.size w W->Calls Tryz.prog 53 #[.agg #[.int .i64 7,.slice A1 n1 c1,.slice A2 n2 c2,.string name,.int .i32 c,.slice A m cc]] W fun e w'=>e= .returned (.bool b1)/\Below W.heap.size W w'):=by
  unfold Hid;rw [hb1];intro W _;exact only_walk 7 A1 n1 c1 A2 n2 c2 name c A m cc nums text HY.out.hn HY.out.ht W
 rw [<- hb1] at HR
 clear hb1
 have X0:=Lib.hid (boxedT w [.int .i64 7,.slice A1 n1 c1,.slice A2 n2 c2,.string name,.int .i32 c,.slice A m cc] 29)
 have e0:¬ (2:Int)<=(m:Int):=by omega
 have e1:decide ((2:Int)<=(m:Int))=false:=decide_eq_false e0
 clear h0
 clear HY
 go_enter Tryz.func24,Tryz.ntmps24
 go_wp2_with fail
 generalize w.alloc (.cells #[.int .i64 7,.slice A1 n1 c1,.slice A2 n2 c2,.string name,.int .i32 c,.slice A m cc] 29)=W at *
 refine (C1.out _ X0.out.2.1).mono ?_
 rintro e w1 ⟨rfl,hb⟩
 have X1:=Lib.hid (X0.out.step hb)
 clear hb
 obtain ⟨x0,x1,x2,x3,x4,x5⟩:=X1.out.c6
 cases b1
 case false =>
  have HT:Hid (R=false):=by unfold Hid;rw [HR.out] <;> simp
  go_wp2
  go_ret
  exact ⟨by rw [HT.out];rfl,X1.out.2.1⟩
 have HT:Hid (R=false):=by unfold Hid;rw [HR.out] <;> simp
 go_wp2
 go_ret
 exact ⟨by rw [HT.out];rfl,X1.out.2.1⟩
theorem rval_8a {N:Nat}{A1:Option Addr}{n1 c1:Nat}{A2:Option Addr}{n2 c2:Nat}{name:ByteArray}{c:Int}{cc:Nat}{nums:List Nat}{text:List Int}{w:World}{m:Nat}  {A:Option Addr}{kids:List RTree} (h0:m<=1)
  (HY:Hid (NodR N w A1 n1 c1 A2 n2 c2 name A m cc nums text kids))
  : Calls Tryz.prog 24 #[.agg #[.int .i64 8,.slice A1 n1 c1,.slice A2 n2 c2,.string name,.int .i32 c,.slice A m cc]] w fun e w'=>e= .returned (.bool (gd (.mk 8 nums text name c kids) 0))/\Below w.heap.size w w':=by
 obtain ⟨R,hR⟩:∃ R,R=gd (.mk 8 nums text name c kids) 0:=⟨_,rfl⟩
 have HR:Hid (R=((onlyB 8 nums text name c)&&false)):=by
  unfold Hid;rw [hR];rw [gd_0_8,pl_m,decide_eq_false (by have:=HY.out.hm;omega)];simp
 rw [<- hR]
 clear hR
 obtain ⟨b1,hb1⟩:∃ b:Bool,b=(onlyB 8 nums text name c):=⟨_,rfl⟩
 have C1:Hid (∀ W,Below w.heap.size w W->Calls Tryz.prog 53 #[.agg #[.int .i64 8,.slice A1 n1 c1,.slice A2 n2 c2,.string name,.int .i32 c,.slice A m cc]] W fun e w'=>e= .returned (.bool b1)/\Below W.heap.size W w'):=by
  unfold Hid;rw [hb1];intro W _;exact only_walk 8 A1 n1 c1 A2 n2 c2 name c A m cc nums text HY.out.hn HY.out.ht W
 rw [<- hb1] at HR
 clear hb1
 have X0:=Lib.hid (boxedT w [.int .i64 8,.slice A1 n1 c1,.slice A2 n2 c2,.string name,.int .i32 c,.slice A m cc] 29)
 have e0:¬ (2:Int)<=(m:Int):=by omega
 have e1:decide ((2:Int)<=(m:Int))=false:=decide_eq_false e0
 clear h0
 clear HY
 go_enter Tryz.func24,Tryz.ntmps24
 go_wp2_with fail
 generalize w.alloc (.cells #[.int .i64 8,.slice A1 n1 c1,.slice A2 n2 c2,.string name,.int .i32 c,.slice A m cc] 29)=W at *
 refine (C1.out _ X0.out.2.1).mono ?_
 rintro e w1 ⟨rfl,hb⟩
 have X1:=Lib.hid (X0.out.step hb)
 clear hb
 obtain ⟨x0,x1,x2,x3,x4,x5⟩:=X1.out.c6
 cases b1
 case false =>
  have HT:Hid (R=false):=by unfold Hid;rw [HR.out] <;> simp
  go_wp2
  go_ret
  exact ⟨by rw [HT.out];rfl,X1.out.2.1⟩
 have HT:Hid (R=false):=by unfold Hid;rw [HR.out] <;> simp
 go_wp2
 go_ret
 exact ⟨by rw [HT.out];rfl,X1.out.2.1⟩
theorem rval_12a {N:Nat}{A1:Option Addr}{n1 c1:Nat}{A2:Option Addr}{n2 c2:Nat}{name:ByteArray}{c:Int}{cc:Nat}{nums:List Nat}{text:List Int}{w:World}{m:Nat}  {A:Option Addr}{kids:List RTree} (h0:m<=1)
  (HY:Hid (NodR N w A1 n1 c1 A2 n2 c2 name A m cc nums text kids))
  : Calls Tryz.prog 24 #[.agg #[.int .i64 12,.slice A1 n1 c1,.slice A2 n2 c2,.string name,.int .i32 c,.slice A m cc]] w fun e w'=>e= .returned (.bool (gd (.mk 12 nums text name c kids) 0))/\Below w.heap.size w w':=by
 obtain ⟨R,hR⟩:∃ R,R=gd (.mk 12 nums text name c kids) 0:=⟨_,rfl⟩
 have HR:Hid (R=((onlyB 12 nums text name c)&&false)):=by
  unfold Hid;rw [hR];rw [gd_0_12,pl_m,decide_eq_false (by have:=HY.out.hm;omega)];simp
 rw [<- hR]
 clear hR
 obtain ⟨b1,hb1⟩:∃ b:Bool,b=(onlyB 12 nums text name c):=⟨_,rfl⟩
 have C1:Hid (∀ W,Below w.heap.size w W->Calls Tryz.prog 53 #[.agg #[.int .i64 12,.slice A1 n1 c1,.slice A2 n2 c2,.string name,.int .i32 c,.slice A m cc]] W fun e w'=>e= .returned (.bool b1)/\Below W.heap.size W w'):=by
  unfold Hid;rw [hb1];intro W _;exact only_walk 12 A1 n1 c1 A2 n2 c2 name c A m cc nums text HY.out.hn HY.out.ht W
 rw [<- hb1] at HR
 clear hb1
 have X0:=Lib.hid (boxedT w [.int .i64 12,.slice A1 n1 c1,.slice A2 n2 c2,.string name,.int .i32 c,.slice A m cc] 29)
 have e0:¬ (2:Int)<=(m:Int):=by omega
 have e1:decide ((2:Int)<=(m:Int))=false:=decide_eq_false e0
 clear h0
 clear HY
 go_enter Tryz.func24,Tryz.ntmps24
 go_wp2_with fail
 generalize w.alloc (.cells #[.int .i64 12,.slice A1 n1 c1,.slice A2 n2 c2,.string name,.int .i32 c,.slice A m cc] 29)=W at *
 refine (C1.out _ X0.out.2.1).mono ?_
 rintro e w1 ⟨rfl,hb⟩
 have X1:=Lib.hid (X0.out.step hb)
 clear hb
 obtain ⟨x0,x1,x2,x3,x4,x5⟩:=X1.out.c6
 cases b1
 case false =>
  have HT:Hid (R=false):=by unfold Hid;rw [HR.out] <;> simp
  go_wp2
  go_ret
  exact ⟨by rw [HT.out];rfl,X1.out.2.1⟩
 have HT:Hid (R=false):=by unfold Hid;rw [HR.out] <;> simp
 go_wp2
 go_ret
 exact ⟨by rw [HT.out];rfl,X1.out.2.1⟩
theorem rval_7b {N:Nat}{A1:Option Addr}{n1 c1:Nat}{A2:Option Addr}{n2 c2:Nat}{name:ByteArray}{c:Int}{cc:Nat}{nums:List Nat}{text:List Int}{w:World}{m:Nat}  {A:Option Addr}{kids:List RTree} (h0:1 < m)
  (HY:Hid (NodR N w A1 n1 c1 A2 n2 c2 name A m cc nums text kids)) (HK:Hid (KTell N))
  : Calls Tryz.prog 24 #[.agg #[.int .i64 7,.slice A1 n1 c1,.slice A2 n2 c2,.string name,.int .i32 c,.slice A m cc]] w fun e w'=>e= .returned (.bool (gd (.mk 7 nums text name c kids) 0))/\Below w.heap.size w w':=by
 obtain ⟨R,hR⟩:∃ R,R=gd (.mk 7 nums text name c kids) 0:=⟨_,rfl⟩
 have HR:Hid (R=((onlyB 7 nums text name c)&&(kids.all (fun t=>gd t 0)))):=by
  unfold Hid;rw [hR];rw [gd_0_7,pl_m,decide_eq_true (by have:=HY.out.hm;omega),gds_eq];simp [onlyB,nmK,chK]
 rw [<- hR]
 clear hR
 obtain ⟨b1,hb1⟩:∃ b:Bool,b=(onlyB 7 nums text name c):=⟨_,rfl⟩
 have C1:Hid (∀ W,Below w.heap.size w W->Calls Tryz.prog 53 #[.agg #[.int .i64 7,.slice A1 n1 c1,.slice A2 n2 c2,.string name,.int .i32 c,.slice A m cc]] W fun e w'=>e= .returned (.bool b1)/\Below W.heap.size W w'):=by
  unfold Hid;rw [hb1];intro W _;exact only_walk 7 A1 n1 c1 A2 n2 c2 name c A m cc nums text HY.out.hn HY.out.ht W
 rw [<- hb1] at HR
 clear hb1
 obtain ⟨b2,hb2⟩:∃ b:Bool,b=(kids.all (fun t=>gd t 0)):=⟨_,rfl⟩
 have C2:Hid (∀ W,Below w.heap.size w W->Calls Tryz.prog 57 #[.slice A m cc,.int .i64 0] W fun e w'=>e= .returned (.bool b2)/\Below W.heap.size W w'):=by
  unfold Hid;rw [hb2];intro W hb;exact HK.out 0 0 kids A m cc W rfl (by decide) HY.out.hm (by have:=HY.out.fm;omega) (HY.out.hkid.below hb) (HY.out.ok)
 rw [<- hb2] at HR
 clear hb2
 have X0:=Lib.hid (boxedT w [.int .i64 7,.slice A1 n1 c1,.slice A2 n2 c2,.string name,.int .i32 c,.slice A m cc] 29)
 have e0:(2:Int)<=(m:Int):=by omega
 have e1:decide ((2:Int)<=(m:Int))=true:=decide_eq_true e0
 clear h0
 clear HY HK
 go_enter Tryz.func24,Tryz.ntmps24
 go_wp2_with fail
 generalize w.alloc (.cells #[.int .i64 7,.slice A1 n1 c1,.slice A2 n2 c2,.string name,.int .i32 c,.slice A m cc] 29)=W at *
 refine (C1.out _ X0.out.2.1).mono ?_
 rintro e w1 ⟨rfl,hb⟩
 have X1:=Lib.hid (X0.out.step hb)
 clear hb
 obtain ⟨x0,x1,x2,x3,x4,x5⟩:=X1.out.c6
 cases b1
 case false =>
  have HT:Hid (R=false):=by unfold Hid;rw [HR.out] <;> simp
  go_wp2
  go_ret
  exact ⟨by rw [HT.out];rfl,X1.out.2.1⟩
 go_wp2_with fail
 refine (C2.out _ X1.out.2.1).mono ?_
 rintro e w2 ⟨rfl,hb⟩
 have X2:=Lib.hid (X1.out.step hb)
 clear hb x0 x1 x2 x3 x4 x5
 obtain ⟨x0,x1,x2,x3,x4,x5⟩:=X2.out.c6
 cases b2
 case false =>
  have HT:Hid (R=false):=by unfold Hid;rw [HR.out] <;> simp
  go_wp2
  go_ret
  exact ⟨by rw [HT.out];rfl,X2.out.2.1⟩
 have HT:Hid (R=true):=by unfold Hid;rw [HR.out] <;> simp
 go_wp2
 go_ret
 exact ⟨by rw [HT.out];rfl,X2.out.2.1⟩
theorem rval_8b {N:Nat}{A1:Option Addr}{n1 c1:Nat}{A2:Option Addr}{n2 c2:Nat}{name:ByteArray}{c:Int}{cc:Nat}{nums:List Nat}{text:List Int}{w:World}{m:Nat}  {b o:Nat}{t0:RTree}{ts:List RTree} (h0:1 < m)
  (HY:Hid (NodR N w A1 n1 c1 A2 n2 c2 name (some ⟨b,o,none⟩) m cc nums text (t0::ts))) (HK:Hid (KTell N))
  : Calls Tryz.prog 24 #[.agg #[.int .i64 8,.slice A1 n1 c1,.slice A2 n2 c2,.string name,.int .i32 c,.slice (some ⟨b,o,none⟩) m cc]] w fun e w'=>e= .returned (.bool (gd (.mk 8 nums text name c (t0::ts)) 0))/\Below w.heap.size w w':=by
 obtain ⟨R,hR⟩:∃ R,R=gd (.mk 8 nums text name c (t0::ts)) 0:=⟨_,rfl⟩
 have HR:Hid (R=((onlyB 8 nums text name c)&&([t0].all (fun t=>gd t 0))&&(ts.all (fun t=>gd t 2)))):=by
  unfold Hid;rw [hR];rw [gd_0_8,pl_m,decide_eq_true (by have:=HY.out.hm;omega),gdh,gds_eq];simp [onlyB,nmK,chK,Bool.and_assoc]
 rw [<- hR]
 clear hR
 obtain ⟨b1,hb1⟩:∃ b:Bool,b=(onlyB 8 nums text name c):=⟨_,rfl⟩
 have C1:Hid (∀ W,Below w.heap.size w W->Calls Tryz.prog 53 #[.agg #[.int .i64 8,.slice A1 n1 c1,.slice A2 n2 c2,.string name,.int .i32 c,.slice (some ⟨b,o,none⟩) m cc]] W fun e w'=>e= .returned (.bool b1)/\Below W.heap.size W w'):=by
  unfold Hid;rw [hb1];intro W _;exact only_walk 8 A1 n1 c1 A2 n2 c2 name c (some ⟨b,o,none⟩) m cc nums text HY.out.hn HY.out.ht W
 rw [<- hb1] at HR
 clear hb1
 obtain ⟨b2,hb2⟩:∃ b:Bool,b=([t0].all (fun t=>gd t 0)):=⟨_,rfl⟩
 have C2:Hid (∀ W,Below w.heap.size w W->Calls Tryz.prog 57 #[.slice (some ⟨b,o,none⟩) 1 cc,.int .i64 0] W fun e w'=>e= .returned (.bool b2)/\Below W.heap.size W w'):=by
  unfold Hid;rw [hb2];intro W hb;exact HK.out 0 0 [t0] (some ⟨b,o,none⟩) 1 cc W rfl (by decide) rfl (by have:=HY.out.fm;omega) (HY.out.hkid.head.below hb) (fun i hi=>by have h2:=HY.out.ok 0 (by simp);obtain rfl:i=0:=(by simpa using hi);exact h2)
 rw [<- hb2] at HR
 clear hb2
 obtain ⟨b3,hb3⟩:∃ b:Bool,b=(ts.all (fun t=>gd t 2)):=⟨_,rfl⟩
 have C3:Hid (∀ W,Below w.heap.size w W->Calls Tryz.prog 57 #[.slice (some ⟨b,o+6,none⟩) (m - 1) (cc - 1),.int .i64 2] W fun e w'=>e= .returned (.bool b3)/\Below W.heap.size W w'):=by
  unfold Hid;rw [hb3];intro W hb;exact HK.out 2 2 ts (some ⟨b,o+6,none⟩) (m - 1) (cc - 1) W rfl (by decide) (by have:=HY.out.hm;simp at this;omega) (by have:=HY.out.fm;omega) (HY.out.hkid.tail.below hb) (fun i hi=>by have:=HY.out.ok (i+1) (by simpa using hi);simpa using this)
 rw [<- hb3] at HR
 clear hb3
 have X0:=Lib.hid (boxedT w [.int .i64 8,.slice A1 n1 c1,.slice A2 n2 c2,.string name,.int .i32 c,.slice (some ⟨b,o,none⟩) m cc] 29)
 have e0:(2:Int)<=(m:Int):=by omega
 have e1:decide ((2:Int)<=(m:Int))=true:=decide_eq_true e0
 have hcp:=HY.out.hcap
 have h1:1<=m:=by omega
 clear h0
 clear HY HK
 go_enter Tryz.func24,Tryz.ntmps24
 go_wp2_with fail
 generalize w.alloc (.cells #[.int .i64 8,.slice A1 n1 c1,.slice A2 n2 c2,.string name,.int .i32 c,.slice (some ⟨b,o,none⟩) m cc] 29)=W at *
 refine (C1.out _ X0.out.2.1).mono ?_
 rintro e w1 ⟨rfl,hb⟩
 have X1:=Lib.hid (X0.out.step hb)
 clear hb
 obtain ⟨x0,x1,x2,x3,x4,x5⟩:=X1.out.c6
 cases b1
 case false =>
  have HT:Hid (R=false):=by unfold Hid;rw [HR.out] <;> simp
  go_wp2
  go_ret
  exact ⟨by rw [HT.out];rfl,X1.out.2.1⟩
 go_wp2_with fail
 refine (C2.out _ X1.out.2.1).mono ?_
 rintro e w2 ⟨rfl,hb⟩
 have X2:=Lib.hid (X1.out.step hb)
 clear hb x0 x1 x2 x3 x4 x5
 obtain ⟨x0,x1,x2,x3,x4,x5⟩:=X2.out.c6
 cases b2
 case false =>
  have HT:Hid (R=false):=by unfold Hid;rw [HR.out] <;> simp
  go_wp2
  go_ret
  exact ⟨by rw [HT.out];rfl,X2.out.2.1⟩
 go_wp2_with fail
 refine (C3.out _ X2.out.2.1).mono ?_
 rintro e w3 ⟨rfl,hb⟩
 have X3:=Lib.hid (X2.out.step hb)
 clear hb x0 x1 x2 x3 x4 x5
 obtain ⟨x0,x1,x2,x3,x4,x5⟩:=X3.out.c6
 cases b3
 case false =>
  have HT:Hid (R=false):=by unfold Hid;rw [HR.out] <;> simp
  go_wp2
  go_ret
  exact ⟨by rw [HT.out];rfl,X3.out.2.1⟩
 have HT:Hid (R=true):=by unfold Hid;rw [HR.out] <;> simp
 go_wp2
 go_ret
 exact ⟨by rw [HT.out];rfl,X3.out.2.1⟩
theorem rval_9a {N:Nat}{A1:Option Addr}{n1 c1:Nat}{A2:Option Addr}{n2 c2:Nat}{name:ByteArray}{c:Int}{cc:Nat}{nums:List Nat}{text:List Int}{w:World}{m:Nat}  {A:Option Addr}{kids:List RTree} (h0:(m:Int)≠2)
  (HY:Hid (NodR N w A1 n1 c1 A2 n2 c2 name A m cc nums text kids))
  : Calls Tryz.prog 24 #[.agg #[.int .i64 9,.slice A1 n1 c1,.slice A2 n2 c2,.string name,.int .i32 c,.slice A m cc]] w fun e w'=>e= .returned (.bool (gd (.mk 9 nums text name c kids) 0))/\Below w.heap.size w w':=by
 obtain ⟨R,hR⟩:∃ R,R=gd (.mk 9 nums text name c kids) 0:=⟨_,rfl⟩
 have HR:Hid (R=((onlyB 9 nums text name c)&&false)):=by
  unfold Hid;rw [hR];rw [gd_0_9,pl_n (by decide),decide_eq_false (show ¬ (kids.length:Int)=2 by have:=HY.out.hm;omega)];simp
 rw [<- hR]
 clear hR
 obtain ⟨b1,hb1⟩:∃ b:Bool,b=(onlyB 9 nums text name c):=⟨_,rfl⟩
 have C1:Hid (∀ W,Below w.heap.size w W->Calls Tryz.prog 53 #[.agg #[.int .i64 9,.slice A1 n1 c1,.slice A2 n2 c2,.string name,.int .i32 c,.slice A m cc]] W fun e w'=>e= .returned (.bool b1)/\Below W.heap.size W w'):=by
  unfold Hid;rw [hb1];intro W _;exact only_walk 9 A1 n1 c1 A2 n2 c2 name c A m cc nums text HY.out.hn HY.out.ht W
 rw [<- hb1] at HR
 clear hb1
 have X0:=Lib.hid (boxedT w [.int .i64 9,.slice A1 n1 c1,.slice A2 n2 c2,.string name,.int .i32 c,.slice A m cc] 29)
 have e0:((m:Int)==2)=false:=by simpa using h0
 clear h0
 clear HY
 go_enter Tryz.func24,Tryz.ntmps24
 go_wp2_with fail
 generalize w.alloc (.cells #[.int .i64 9,.slice A1 n1 c1,.slice A2 n2 c2,.string name,.int .i32 c,.slice A m cc] 29)=W at *
 refine (C1.out _ X0.out.2.1).mono ?_
 rintro e w1 ⟨rfl,hb⟩
 have X1:=Lib.hid (X0.out.step hb)
 clear hb
 obtain ⟨x0,x1,x2,x3,x4,x5⟩:=X1.out.c6
 cases b1
 case false =>
  have HT:Hid (R=false):=by unfold Hid;rw [HR.out] <;> simp
  go_wp2
  go_ret
  exact ⟨by rw [HT.out];rfl,X1.out.2.1⟩
 have HT:Hid (R=false):=by unfold Hid;rw [HR.out] <;> simp
 go_wp2
 go_ret
 exact ⟨by rw [HT.out];rfl,X1.out.2.1⟩
theorem rval_9b {N:Nat}{A1:Option Addr}{n1 c1:Nat}{A2:Option Addr}{n2 c2:Nat}{name:ByteArray}{c:Int}{cc:Nat}{nums:List Nat}{text:List Int}{w:World}  {b o:Nat}{t0:RTree}{ts:List RTree}
  (HY:Hid (NodR N w A1 n1 c1 A2 n2 c2 name (some ⟨b,o,none⟩) 2 cc nums text (t0::ts))) (HK:Hid (KTell N))
  : Calls Tryz.prog 24 #[.agg #[.int .i64 9,.slice A1 n1 c1,.slice A2 n2 c2,.string name,.int .i32 c,.slice (some ⟨b,o,none⟩) 2 cc]] w fun e w'=>e= .returned (.bool (gd (.mk 9 nums text name c (t0::ts)) 0))/\Below w.heap.size w w':=by
 obtain ⟨R,hR⟩:∃ R,R=gd (.mk 9 nums text name c (t0::ts)) 0:=⟨_,rfl⟩
 have HR:Hid (R=((onlyB 9 nums text name c)&&([t0].all (fun t=>gd t 1))&&(ts.all (fun t=>gd t 0)))):=by
  unfold Hid;rw [hR];rw [gd_0_9,pl_n (by decide),decide_eq_true (show ((t0::ts).length:Int)=2 by have:=HY.out.hm;omega)];rw [gdh,gds_eq];simp [onlyB,nmK,chK,Bool.and_assoc]
 rw [<- hR]
 clear hR
 obtain ⟨b1,hb1⟩:∃ b:Bool,b=(onlyB 9 nums text name c):=⟨_,rfl⟩
 have C1:Hid (∀ W,Below w.heap.size w W->Calls Tryz.prog 53 #[.agg #[.int .i64 9,.slice A1 n1 c1,.slice A2 n2 c2,.string name,.int .i32 c,.slice (some ⟨b,o,none⟩) 2 cc]] W fun e w'=>e= .returned (.bool b1)/\Below W.heap.size W w'):=by
  unfold Hid;rw [hb1];intro W _;exact only_walk 9 A1 n1 c1 A2 n2 c2 name c (some ⟨b,o,none⟩) 2 cc nums text HY.out.hn HY.out.ht W
 rw [<- hb1] at HR
 clear hb1
 obtain ⟨b2,hb2⟩:∃ b:Bool,b=([t0].all (fun t=>gd t 1)):=⟨_,rfl⟩
 have C2:Hid (∀ W,Below w.heap.size w W->Calls Tryz.prog 57 #[.slice (some ⟨b,o,none⟩) 1 cc,.int .i64 1] W fun e w'=>e= .returned (.bool b2)/\Below W.heap.size W w'):=by
  unfold Hid;rw [hb2];intro W hb;exact HK.out 1 1 [t0] (some ⟨b,o,none⟩) 1 cc W rfl (by decide) rfl (by have:=HY.out.fm;omega) (HY.out.hkid.head.below hb) (fun i hi=>by have h2:=HY.out.ok 0 (by simp);obtain rfl:i=0:=(by simpa using hi);exact h2)
 rw [<- hb2] at HR
 clear hb2
 obtain ⟨b3,hb3⟩:∃ b:Bool,b=(ts.all (fun t=>gd t 0)):=⟨_,rfl⟩
 have C3:Hid (∀ W,Below w.heap.size w W->Calls Tryz.prog 57 #[.slice (some ⟨b,o+6,none⟩) 1 (cc - 1),.int .i64 0] W fun e w'=>e= .returned (.bool b3)/\Below W.heap.size W w'):=by
  unfold Hid;rw [hb3];intro W hb;exact HK.out 0 0 ts (some ⟨b,o+6,none⟩) 1 (cc - 1) W rfl (by decide) (by have:=HY.out.hm;simp at this;omega) (by have:=HY.out.fm;omega) (HY.out.hkid.tail.below hb) (fun i hi=>by have:=HY.out.ok (i+1) (by simpa using hi);simpa using this)
 rw [<- hb3] at HR
 clear hb3
 have X0:=Lib.hid (boxedT w [.int .i64 9,.slice A1 n1 c1,.slice A2 n2 c2,.string name,.int .i32 c,.slice (some ⟨b,o,none⟩) 2 cc] 29)
 have hcp:=HY.out.hcap
 clear HY HK
 go_enter Tryz.func24,Tryz.ntmps24
 go_wp2_with fail
 generalize w.alloc (.cells #[.int .i64 9,.slice A1 n1 c1,.slice A2 n2 c2,.string name,.int .i32 c,.slice (some ⟨b,o,none⟩) 2 cc] 29)=W at *
 refine (C1.out _ X0.out.2.1).mono ?_
 rintro e w1 ⟨rfl,hb⟩
 have X1:=Lib.hid (X0.out.step hb)
 clear hb
 obtain ⟨x0,x1,x2,x3,x4,x5⟩:=X1.out.c6
 cases b1
 case false =>
  have HT:Hid (R=false):=by unfold Hid;rw [HR.out] <;> simp
  go_wp2
  go_ret
  exact ⟨by rw [HT.out];rfl,X1.out.2.1⟩
 go_wp2_with fail
 refine (C2.out _ X1.out.2.1).mono ?_
 rintro e w2 ⟨rfl,hb⟩
 have X2:=Lib.hid (X1.out.step hb)
 clear hb x0 x1 x2 x3 x4 x5
 obtain ⟨x0,x1,x2,x3,x4,x5⟩:=X2.out.c6
 cases b2
 case false =>
  have HT:Hid (R=false):=by unfold Hid;rw [HR.out] <;> simp
  go_wp2
  go_ret
  exact ⟨by rw [HT.out];rfl,X2.out.2.1⟩
 go_wp2_with fail
 refine (C3.out _ X2.out.2.1).mono ?_
 rintro e w3 ⟨rfl,hb⟩
 have X3:=Lib.hid (X2.out.step hb)
 clear hb x0 x1 x2 x3 x4 x5
 obtain ⟨x0,x1,x2,x3,x4,x5⟩:=X3.out.c6
 cases b3
 case false =>
  have HT:Hid (R=false):=by unfold Hid;rw [HR.out] <;> simp
  go_wp2
  go_ret
  exact ⟨by rw [HT.out];rfl,X3.out.2.1⟩
 have HT:Hid (R=true):=by unfold Hid;rw [HR.out] <;> simp
 go_wp2
 go_ret
 exact ⟨by rw [HT.out];rfl,X3.out.2.1⟩
theorem rval_10a {N:Nat}{A1:Option Addr}{n1 c1:Nat}{A2:Option Addr}{n2 c2:Nat}{name:ByteArray}{c:Int}{cc:Nat}{nums:List Nat}{text:List Int}{w:World}{m:Nat}  {A:Option Addr}{kids:List RTree} (h0:(m:Int)≠3)
  (HY:Hid (NodR N w A1 n1 c1 A2 n2 c2 name A m cc nums text kids))
  : Calls Tryz.prog 24 #[.agg #[.int .i64 10,.slice A1 n1 c1,.slice A2 n2 c2,.string name,.int .i32 c,.slice A m cc]] w fun e w'=>e= .returned (.bool (gd (.mk 10 nums text name c kids) 0))/\Below w.heap.size w w':=by
 obtain ⟨R,hR⟩:∃ R,R=gd (.mk 10 nums text name c kids) 0:=⟨_,rfl⟩
 have HR:Hid (R=((onlyB 10 nums text name c)&&false)):=by
  unfold Hid;rw [hR];rw [gd_0_10,pl_n (by decide),decide_eq_false (show ¬ (kids.length:Int)=3 by have:=HY.out.hm;omega)];simp
 rw [<- hR]
 clear hR
 obtain ⟨b1,hb1⟩:∃ b:Bool,b=(onlyB 10 nums text name c):=⟨_,rfl⟩
 have C1:Hid (∀ W,Below w.heap.size w W->Calls Tryz.prog 53 #[.agg #[.int .i64 10,.slice A1 n1 c1,.slice A2 n2 c2,.string name,.int .i32 c,.slice A m cc]] W fun e w'=>e= .returned (.bool b1)/\Below W.heap.size W w'):=by
  unfold Hid;rw [hb1];intro W _;exact only_walk 10 A1 n1 c1 A2 n2 c2 name c A m cc nums text HY.out.hn HY.out.ht W
 rw [<- hb1] at HR
 clear hb1
 have X0:=Lib.hid (boxedT w [.int .i64 10,.slice A1 n1 c1,.slice A2 n2 c2,.string name,.int .i32 c,.slice A m cc] 29)
 have e0:((m:Int)==3)=false:=by simpa using h0
 clear h0
 clear HY
 go_enter Tryz.func24,Tryz.ntmps24
 go_wp2_with fail
 generalize w.alloc (.cells #[.int .i64 10,.slice A1 n1 c1,.slice A2 n2 c2,.string name,.int .i32 c,.slice A m cc] 29)=W at *
 refine (C1.out _ X0.out.2.1).mono ?_
 rintro e w1 ⟨rfl,hb⟩
 have X1:=Lib.hid (X0.out.step hb)
 clear hb
 obtain ⟨x0,x1,x2,x3,x4,x5⟩:=X1.out.c6
 cases b1
 case false =>
  have HT:Hid (R=false):=by unfold Hid;rw [HR.out] <;> simp
  go_wp2
  go_ret
  exact ⟨by rw [HT.out];rfl,X1.out.2.1⟩
 have HT:Hid (R=false):=by unfold Hid;rw [HR.out] <;> simp
 go_wp2
 go_ret
 exact ⟨by rw [HT.out];rfl,X1.out.2.1⟩
theorem rval_10b {N:Nat}{A1:Option Addr}{n1 c1:Nat}{A2:Option Addr}{n2 c2:Nat}{name:ByteArray}{c:Int}{cc:Nat}{nums:List Nat}{text:List Int}{w:World}  {b o:Nat}{t0:RTree}{ts:List RTree}
  (HY:Hid (NodR N w A1 n1 c1 A2 n2 c2 name (some ⟨b,o,none⟩) 3 cc nums text (t0::ts))) (HK:Hid (KTell N))
  : Calls Tryz.prog 24 #[.agg #[.int .i64 10,.slice A1 n1 c1,.slice A2 n2 c2,.string name,.int .i32 c,.slice (some ⟨b,o,none⟩) 3 cc]] w fun e w'=>e= .returned (.bool (gd (.mk 10 nums text name c (t0::ts)) 0))/\Below w.heap.size w w':=by
 obtain ⟨R,hR⟩:∃ R,R=gd (.mk 10 nums text name c (t0::ts)) 0:=⟨_,rfl⟩
 have HR:Hid (R=((onlyB 10 nums text name c)&&([t0].all (fun t=>gd t 1))&&(ts.all (fun t=>gd t 0)))):=by
  unfold Hid;rw [hR];rw [gd_0_10,pl_n (by decide),decide_eq_true (show ((t0::ts).length:Int)=3 by have:=HY.out.hm;omega)];rw [gdh,gds_eq];simp [onlyB,nmK,chK,Bool.and_assoc]
 rw [<- hR]
 clear hR
 obtain ⟨b1,hb1⟩:∃ b:Bool,b=(onlyB 10 nums text name c):=⟨_,rfl⟩
 have C1:Hid (∀ W,Below w.heap.size w W->Calls Tryz.prog 53 #[.agg #[.int .i64 10,.slice A1 n1 c1,.slice A2 n2 c2,.string name,.int .i32 c,.slice (some ⟨b,o,none⟩) 3 cc]] W fun e w'=>e= .returned (.bool b1)/\Below W.heap.size W w'):=by
  unfold Hid;rw [hb1];intro W _;exact only_walk 10 A1 n1 c1 A2 n2 c2 name c (some ⟨b,o,none⟩) 3 cc nums text HY.out.hn HY.out.ht W
 rw [<- hb1] at HR
 clear hb1
 obtain ⟨b2,hb2⟩:∃ b:Bool,b=([t0].all (fun t=>gd t 1)):=⟨_,rfl⟩
 have C2:Hid (∀ W,Below w.heap.size w W->Calls Tryz.prog 57 #[.slice (some ⟨b,o,none⟩) 1 cc,.int .i64 1] W fun e w'=>e= .returned (.bool b2)/\Below W.heap.size W w'):=by
  unfold Hid;rw [hb2];intro W hb;exact HK.out 1 1 [t0] (some ⟨b,o,none⟩) 1 cc W rfl (by decide) rfl (by have:=HY.out.fm;omega) (HY.out.hkid.head.below hb) (fun i hi=>by have h2:=HY.out.ok 0 (by simp);obtain rfl:i=0:=(by simpa using hi);exact h2)
 rw [<- hb2] at HR
 clear hb2
 obtain ⟨b3,hb3⟩:∃ b:Bool,b=(ts.all (fun t=>gd t 0)):=⟨_,rfl⟩
 have C3:Hid (∀ W,Below w.heap.size w W->Calls Tryz.prog 57 #[.slice (some ⟨b,o+6,none⟩) 2 (cc - 1),.int .i64 0] W fun e w'=>e= .returned (.bool b3)/\Below W.heap.size W w'):=by
  unfold Hid;rw [hb3];intro W hb;exact HK.out 0 0 ts (some ⟨b,o+6,none⟩) 2 (cc - 1) W rfl (by decide) (by have:=HY.out.hm;simp at this;omega) (by have:=HY.out.fm;omega) (HY.out.hkid.tail.below hb) (fun i hi=>by have:=HY.out.ok (i+1) (by simpa using hi);simpa using this)
 rw [<- hb3] at HR
 clear hb3
 have X0:=Lib.hid (boxedT w [.int .i64 10,.slice A1 n1 c1,.slice A2 n2 c2,.string name,.int .i32 c,.slice (some ⟨b,o,none⟩) 3 cc] 29)
 have hcp:=HY.out.hcap
 clear HY HK
 go_enter Tryz.func24,Tryz.ntmps24
 go_wp2_with fail
 generalize w.alloc (.cells #[.int .i64 10,.slice A1 n1 c1,.slice A2 n2 c2,.string name,.int .i32 c,.slice (some ⟨b,o,none⟩) 3 cc] 29)=W at *
 refine (C1.out _ X0.out.2.1).mono ?_
 rintro e w1 ⟨rfl,hb⟩
 have X1:=Lib.hid (X0.out.step hb)
 clear hb
 obtain ⟨x0,x1,x2,x3,x4,x5⟩:=X1.out.c6
 cases b1
 case false =>
  have HT:Hid (R=false):=by unfold Hid;rw [HR.out] <;> simp
  go_wp2
  go_ret
  exact ⟨by rw [HT.out];rfl,X1.out.2.1⟩
 go_wp2_with fail
 refine (C2.out _ X1.out.2.1).mono ?_
 rintro e w2 ⟨rfl,hb⟩
 have X2:=Lib.hid (X1.out.step hb)
 clear hb x0 x1 x2 x3 x4 x5
 obtain ⟨x0,x1,x2,x3,x4,x5⟩:=X2.out.c6
 cases b2
 case false =>
  have HT:Hid (R=false):=by unfold Hid;rw [HR.out] <;> simp
  go_wp2
  go_ret
  exact ⟨by rw [HT.out];rfl,X2.out.2.1⟩
 go_wp2_with fail
 refine (C3.out _ X2.out.2.1).mono ?_
 rintro e w3 ⟨rfl,hb⟩
 have X3:=Lib.hid (X2.out.step hb)
 clear hb x0 x1 x2 x3 x4 x5
 obtain ⟨x0,x1,x2,x3,x4,x5⟩:=X3.out.c6
 cases b3
 case false =>
  have HT:Hid (R=false):=by unfold Hid;rw [HR.out] <;> simp
  go_wp2
  go_ret
  exact ⟨by rw [HT.out];rfl,X3.out.2.1⟩
 have HT:Hid (R=true):=by unfold Hid;rw [HR.out] <;> simp
 go_wp2
 go_ret
 exact ⟨by rw [HT.out];rfl,X3.out.2.1⟩
theorem rval_11a {N:Nat}{A1:Option Addr}{n1 c1:Nat}{A2:Option Addr}{n2 c2:Nat}{name:ByteArray}{c:Int}{cc:Nat}{nums:List Nat}{text:List Int}{w:World}{m:Nat}  {A:Option Addr}{kids:List RTree} (h0:(m:Int)≠1)
  (HY:Hid (NodR N w A1 n1 c1 A2 n2 c2 name A m cc nums text kids))
  : Calls Tryz.prog 24 #[.agg #[.int .i64 11,.slice A1 n1 c1,.slice A2 n2 c2,.string name,.int .i32 c,.slice A m cc]] w fun e w'=>e= .returned (.bool (gd (.mk 11 nums text name c kids) 0))/\Below w.heap.size w w':=by
 obtain ⟨R,hR⟩:∃ R,R=gd (.mk 11 nums text name c kids) 0:=⟨_,rfl⟩
 have HR:Hid (R=((onlyB 11 nums text name c)&&false)):=by
  unfold Hid;rw [hR];rw [gd_0_11,pl_n (by decide),decide_eq_false (show ¬ (kids.length:Int)=1 by have:=HY.out.hm;omega)];simp
 rw [<- hR]
 clear hR
 obtain ⟨b1,hb1⟩:∃ b:Bool,b=(onlyB 11 nums text name c):=⟨_,rfl⟩
 have C1:Hid (∀ W,Below w.heap.size w W->Calls Tryz.prog 53 #[.agg #[.int .i64 11,.slice A1 n1 c1,.slice A2 n2 c2,.string name,.int .i32 c,.slice A m cc]] W fun e w'=>e= .returned (.bool b1)/\Below W.heap.size W w'):=by
  unfold Hid;rw [hb1];intro W _;exact only_walk 11 A1 n1 c1 A2 n2 c2 name c A m cc nums text HY.out.hn HY.out.ht W
 rw [<- hb1] at HR
 clear hb1
 have X0:=Lib.hid (boxedT w [.int .i64 11,.slice A1 n1 c1,.slice A2 n2 c2,.string name,.int .i32 c,.slice A m cc] 29)
 have e0:((m:Int)==1)=false:=by simpa using h0
 clear h0
 clear HY
 go_enter Tryz.func24,Tryz.ntmps24
 go_wp2_with fail
 generalize w.alloc (.cells #[.int .i64 11,.slice A1 n1 c1,.slice A2 n2 c2,.string name,.int .i32 c,.slice A m cc] 29)=W at *
 refine (C1.out _ X0.out.2.1).mono ?_
 rintro e w1 ⟨rfl,hb⟩
 have X1:=Lib.hid (X0.out.step hb)
 clear hb
 obtain ⟨x0,x1,x2,x3,x4,x5⟩:=X1.out.c6
 cases b1
 case false =>
  have HT:Hid (R=false):=by unfold Hid;rw [HR.out] <;> simp
  go_wp2
  go_ret
  exact ⟨by rw [HT.out];rfl,X1.out.2.1⟩
 have HT:Hid (R=false):=by unfold Hid;rw [HR.out] <;> simp
 go_wp2
 go_ret
 exact ⟨by rw [HT.out];rfl,X1.out.2.1⟩
theorem rval_11b {N:Nat}{A1:Option Addr}{n1 c1:Nat}{A2:Option Addr}{n2 c2:Nat}{name:ByteArray}{c:Int}{cc:Nat}{nums:List Nat}{text:List Int}{w:World}{m:Nat}  {A:Option Addr}{kids:List RTree} (h0:(m:Int)=1)
  (HY:Hid (NodR N w A1 n1 c1 A2 n2 c2 name A m cc nums text kids)) (HK:Hid (KTell N))
  : Calls Tryz.prog 24 #[.agg #[.int .i64 11,.slice A1 n1 c1,.slice A2 n2 c2,.string name,.int .i32 c,.slice A m cc]] w fun e w'=>e= .returned (.bool (gd (.mk 11 nums text name c kids) 0))/\Below w.heap.size w w':=by
 obtain ⟨R,hR⟩:∃ R,R=gd (.mk 11 nums text name c kids) 0:=⟨_,rfl⟩
 have HR:Hid (R=((onlyB 11 nums text name c)&&(goodNB (runesOf name)&&(upB name==false))&&(kids.all (fun t=>gd t 0)))):=by
  unfold Hid;rw [hR];rw [gd_0_11,pl_n (by decide),decide_eq_true (show ((kids).length:Int)=1 by have:=HY.out.hm;omega)];rw [gds_eq];simp [onlyB,nmK,chK,Bool.and_assoc]
 rw [<- hR]
 clear hR
 obtain ⟨b1,hb1⟩:∃ b:Bool,b=(onlyB 11 nums text name c):=⟨_,rfl⟩
 have C1:Hid (∀ W,Below w.heap.size w W->Calls Tryz.prog 53 #[.agg #[.int .i64 11,.slice A1 n1 c1,.slice A2 n2 c2,.string name,.int .i32 c,.slice A m cc]] W fun e w'=>e= .returned (.bool b1)/\Below W.heap.size W w'):=by
  unfold Hid;rw [hb1];intro W _;exact only_walk 11 A1 n1 c1 A2 n2 c2 name c A m cc nums text HY.out.hn HY.out.ht W
 rw [<- hb1] at HR
 clear hb1
 obtain ⟨b2,hb2⟩:∃ b:Bool,b=(goodNB (runesOf name)&&(upB name==false)):=⟨_,rfl⟩
 have C2:Hid (∀ W,Below w.heap.size w W->Calls Tryz.prog 56 #[.agg #[.int .i64 11,.slice A1 n1 c1,.slice A2 n2 c2,.string name,.int .i32 c,.slice A m cc],.bool false] W fun e w'=>e= .returned (.bool b2)/\Below W.heap.size W w'):=by
  unfold Hid;rw [hb2];intro W _;exact named_walk 11 _ _ _ name c false W HY.out.fs
 rw [<- hb2] at HR
 clear hb2
 obtain ⟨b3,hb3⟩:∃ b:Bool,b=(kids.all (fun t=>gd t 0)):=⟨_,rfl⟩
 have C3:Hid (∀ W,Below w.heap.size w W->Calls Tryz.prog 57 #[.slice A m cc,.int .i64 0] W fun e w'=>e= .returned (.bool b3)/\Below W.heap.size W w'):=by
  unfold Hid;rw [hb3];intro W hb;exact HK.out 0 0 kids A m cc W rfl (by decide) HY.out.hm (by have:=HY.out.fm;omega) (HY.out.hkid.below hb) (HY.out.ok)
 rw [<- hb3] at HR
 clear hb3
 have X0:=Lib.hid (boxedT w [.int .i64 11,.slice A1 n1 c1,.slice A2 n2 c2,.string name,.int .i32 c,.slice A m cc] 29)
 have e0:((m:Int)==1)=true:=by simpa using h0
 have h1:1<=m:=by omega
 clear h0
 clear HY HK
 go_enter Tryz.func24,Tryz.ntmps24
 go_wp2_with fail
 generalize w.alloc (.cells #[.int .i64 11,.slice A1 n1 c1,.slice A2 n2 c2,.string name,.int .i32 c,.slice A m cc] 29)=W at *
 refine (C1.out _ X0.out.2.1).mono ?_
 rintro e w1 ⟨rfl,hb⟩
 have X1:=Lib.hid (X0.out.step hb)
 clear hb
 obtain ⟨x0,x1,x2,x3,x4,x5⟩:=X1.out.c6
 cases b1
 case false =>
  have HT:Hid (R=false):=by unfold Hid;rw [HR.out] <;> simp
  go_wp2
  go_ret
  exact ⟨by rw [HT.out];rfl,X1.out.2.1⟩
 go_wp2_with fail
 refine (C2.out _ X1.out.2.1).mono ?_
 rintro e w2 ⟨rfl,hb⟩
 have X2:=Lib.hid (X1.out.step hb)
 clear hb x0 x1 x2 x3 x4 x5
 obtain ⟨x0,x1,x2,x3,x4,x5⟩:=X2.out.c6
 cases b2
 case false =>
  have HT:Hid (R=false):=by unfold Hid;rw [HR.out] <;> simp
  go_wp2
  go_ret
  exact ⟨by rw [HT.out];rfl,X2.out.2.1⟩
 go_wp2_with fail
 refine (C3.out _ X2.out.2.1).mono ?_
 rintro e w3 ⟨rfl,hb⟩
 have X3:=Lib.hid (X2.out.step hb)
 clear hb x0 x1 x2 x3 x4 x5
 obtain ⟨x0,x1,x2,x3,x4,x5⟩:=X3.out.c6
 cases b3
 case false =>
  have HT:Hid (R=false):=by unfold Hid;rw [HR.out] <;> simp
  go_wp2
  go_ret
  exact ⟨by rw [HT.out];rfl,X3.out.2.1⟩
 have HT:Hid (R=true):=by unfold Hid;rw [HR.out] <;> simp
 go_wp2
 go_ret
 exact ⟨by rw [HT.out];rfl,X3.out.2.1⟩
theorem rval_12b {N:Nat}{A1:Option Addr}{n1 c1:Nat}{A2:Option Addr}{n2 c2:Nat}{name:ByteArray}{c:Int}{cc:Nat}{nums:List Nat}{text:List Int}{w:World}  {b o j:Nat}{t0:RTree}{ts:List RTree} (h0:0 < j) (hj2:j<=1048576) (hj:Hid (j=ts.length))
  (HY:Hid (NodR N w A1 n1 c1 A2 n2 c2 name (some ⟨b,o,none⟩) (j+1) cc nums text (ts++[t0]))) (HK:Hid (KTell N))
  : Calls Tryz.prog 24 #[.agg #[.int .i64 12,.slice A1 n1 c1,.slice A2 n2 c2,.string name,.int .i32 c,.slice (some ⟨b,o,none⟩) (j+1) cc]] w fun e w'=>e= .returned (.bool (gd (.mk 12 nums text name c (ts++[t0])) 0))/\Below w.heap.size w w':=by
 obtain ⟨R,hR⟩:∃ R,R=gd (.mk 12 nums text name c (ts++[t0])) 0:=⟨_,rfl⟩
 have HR:Hid (R=((onlyB 12 nums text name c)&&(goodNB (runesOf name)&&(upB name==false))&&(ts.all (fun t=>gd t 2))&&([t0].all (fun t=>gd t 0)))):=by
  unfold Hid;rw [hR];rw [gd_0_12,pl_m,decide_eq_true (by have:=HY.out.hm;omega),gdl_snocR];simp [onlyB,nmK,chK,Bool.and_assoc]
 rw [<- hR]
 clear hR
 obtain ⟨b1,hb1⟩:∃ b:Bool,b=(onlyB 12 nums text name c):=⟨_,rfl⟩
 have C1:Hid (∀ W,Below w.heap.size w W->Calls Tryz.prog 53 #[.agg #[.int .i64 12,.slice A1 n1 c1,.slice A2 n2 c2,.string name,.int .i32 c,.slice (some ⟨b,o,none⟩) (j+1) cc]] W fun e w'=>e= .returned (.bool b1)/\Below W.heap.size W w'):=by
  unfold Hid;rw [hb1];intro W _;exact only_walk 12 A1 n1 c1 A2 n2 c2 name c (some ⟨b,o,none⟩) (j+1) cc nums text HY.out.hn HY.out.ht W
 rw [<- hb1] at HR
 clear hb1
 obtain ⟨b2,hb2⟩:∃ b:Bool,b=(goodNB (runesOf name)&&(upB name==false)):=⟨_,rfl⟩
 have C2:Hid (∀ W,Below w.heap.size w W->Calls Tryz.prog 56 #[.agg #[.int .i64 12,.slice A1 n1 c1,.slice A2 n2 c2,.string name,.int .i32 c,.slice (some ⟨b,o,none⟩) (j+1) cc],.bool false] W fun e w'=>e= .returned (.bool b2)/\Below W.heap.size W w'):=by
  unfold Hid;rw [hb2];intro W _;exact named_walk 12 _ _ _ name c false W HY.out.fs
 rw [<- hb2] at HR
 clear hb2
 obtain ⟨b3,hb3⟩:∃ b:Bool,b=(ts.all (fun t=>gd t 2)):=⟨_,rfl⟩
 have C3:Hid (∀ W,Below w.heap.size w W->Calls Tryz.prog 57 #[.slice (some ⟨b,o,none⟩) j cc,.int .i64 2] W fun e w'=>e= .returned (.bool b3)/\Below W.heap.size W w'):=by
  unfold Hid;rw [hb3];intro W hb;exact HK.out 2 2 ts (some ⟨b,o,none⟩) j cc W rfl (by decide) hj.out (by have:=HY.out.fm;omega) (HY.out.hkid.front.below hb) (fun i hi=>by have:=HY.out.ok i (by simp;omega);rwa [List.getElem_append_left hi] at this)
 rw [<- hb3] at HR
 clear hb3
 obtain ⟨b4,hb4⟩:∃ b:Bool,b=([t0].all (fun t=>gd t 0)):=⟨_,rfl⟩
 have C4:Hid (∀ W,Below w.heap.size w W->Calls Tryz.prog 57 #[.slice (some ⟨b,o+j*6,none⟩) 1 (cc - j),.int .i64 0] W fun e w'=>e= .returned (.bool b4)/\Below W.heap.size W w'):=by
  unfold Hid;rw [hb4];intro W hb;exact HK.out 0 0 [t0] (some ⟨b,o+j*6,none⟩) 1 (cc - j) W rfl (by decide) rfl (by have:=HY.out.fm;omega) ((HY.out.hkid.back hj.out).below hb) (fun i hi=>by obtain rfl:i=0:=(by simpa using hi);have h2:=HY.out.ok ts.length (by simp);simpa using h2)
 rw [<- hb4] at HR
 clear hb4
 have X0:=Lib.hid (boxedT w [.int .i64 12,.slice A1 n1 c1,.slice A2 n2 c2,.string name,.int .i32 c,.slice (some ⟨b,o,none⟩) (j+1) cc] 29)
 have hcp:=HY.out.hcap
 have e0:(2:Int)<=((j:Int)+1):=by omega
 have h1:1<=j:=h0
 clear h0
 clear HY HK
 go_enter Tryz.func24,Tryz.ntmps24
 go_wp2_with fail
 generalize w.alloc (.cells #[.int .i64 12,.slice A1 n1 c1,.slice A2 n2 c2,.string name,.int .i32 c,.slice (some ⟨b,o,none⟩) (j+1) cc] 29)=W at *
 refine (C1.out _ X0.out.2.1).mono ?_
 rintro e w1 ⟨rfl,hb⟩
 have X1:=Lib.hid (X0.out.step hb)
 clear hb
 obtain ⟨x0,x1,x2,x3,x4,x5⟩:=X1.out.c6
 cases b1
 case false =>
  have HT:Hid (R=false):=by unfold Hid;rw [HR.out] <;> simp
  go_wp2
  go_ret
  exact ⟨by rw [HT.out];rfl,X1.out.2.1⟩
 go_wp2_with fail
 refine (C2.out _ X1.out.2.1).mono ?_
 rintro e w2 ⟨rfl,hb⟩
 have X2:=Lib.hid (X1.out.step hb)
 clear hb x0 x1 x2 x3 x4 x5
 obtain ⟨x0,x1,x2,x3,x4,x5⟩:=X2.out.c6
 cases b2
 case false =>
  have HT:Hid (R=false):=by unfold Hid;rw [HR.out] <;> simp
  go_wp2
  go_ret
  exact ⟨by rw [HT.out];rfl,X2.out.2.1⟩
 go_wp2_with fail
 refine (C3.out _ X2.out.2.1).mono ?_
 rintro e w3 ⟨rfl,hb⟩
 have X3:=Lib.hid (X2.out.step hb)
 clear hb x0 x1 x2 x3 x4 x5
 obtain ⟨x0,x1,x2,x3,x4,x5⟩:=X3.out.c6
 cases b3
 case false =>
  have HT:Hid (R=false):=by unfold Hid;rw [HR.out] <;> simp
  go_wp2
  go_ret
  exact ⟨by rw [HT.out];rfl,X3.out.2.1⟩
 go_wp2_with fail
 refine (C4.out _ X3.out.2.1).mono ?_
 rintro e w4 ⟨rfl,hb⟩
 have X4:=Lib.hid (X3.out.step hb)
 clear hb x0 x1 x2 x3 x4 x5
 obtain ⟨x0,x1,x2,x3,x4,x5⟩:=X4.out.c6
 cases b4
 case false =>
  have HT:Hid (R=false):=by unfold Hid;rw [HR.out] <;> simp
  go_wp2
  go_ret
  exact ⟨by rw [HT.out];rfl,X4.out.2.1⟩
 have HT:Hid (R=true):=by unfold Hid;rw [HR.out] <;> simp
 go_wp2
 go_ret
 exact ⟨by rw [HT.out];rfl,X4.out.2.1⟩
theorem rfun_no {N:Nat}{A1:Option Addr}{n1 c1:Nat}{A2:Option Addr}{n2 c2:Nat}{name:ByteArray}{k:Int}{c:Int}{cc:Nat}{nums:List Nat}{text:List Int}{w:World}{m:Nat}  {A:Option Addr}{kids:List RTree} (hk:k < 13\/18 < k)
  (HY:Hid (NodR N w A1 n1 c1 A2 n2 c2 name A m cc nums text kids))
  : Calls Tryz.prog 105 #[.agg #[.int .i64 k,.slice A1 n1 c1,.slice A2 n2 c2,.string name,.int .i32 c,.slice A m cc]] w fun e w'=>e= .returned (.bool (gd (.mk k nums text name c kids) 1))/\Below w.heap.size w w':=by
 have q13:(k==13)=false:=by simp;omega
 have q14:(k==14)=false:=by simp;omega
 have q15:(k==15)=false:=by simp;omega
 have q16:(k==16)=false:=by simp;omega
 have q17:(k==17)=false:=by simp;omega
 have q18:(k==18)=false:=by simp;omega
 obtain ⟨R,hR⟩:∃ R,R=gd (.mk k nums text name c kids) 1:=⟨_,rfl⟩
 have HR:Hid (R=((onlyB k nums text name c)&&false)):=by
  unfold Hid;rw [hR];rw [gd_1_no hk];simp
 rw [<- hR]
 clear hR
 obtain ⟨b1,hb1⟩:∃ b:Bool,b=(onlyB k nums text name c):=⟨_,rfl⟩
 have C1:Hid (∀ W,Below w.heap.size w W->Calls Tryz.prog 53 #[.agg #[.int .i64 k,.slice A1 n1 c1,.slice A2 n2 c2,.string name,.int .i32 c,.slice A m cc]] W fun e w'=>e= .returned (.bool b1)/\Below W.heap.size W w'):=by
  unfold Hid;rw [hb1];intro W _;exact only_walk k A1 n1 c1 A2 n2 c2 name c A m cc nums text HY.out.hn HY.out.ht W
 rw [<- hb1] at HR
 clear hb1
 have X0:=Lib.hid (boxedT w [.int .i64 k,.slice A1 n1 c1,.slice A2 n2 c2,.string name,.int .i32 c,.slice A m cc] 29)
 clear hk
 clear HY
 go_enter Tryz.func105,Tryz.ntmps105
 go_wp2_with fail
 generalize w.alloc (.cells #[.int .i64 k,.slice A1 n1 c1,.slice A2 n2 c2,.string name,.int .i32 c,.slice A m cc] 29)=W at *
 refine (C1.out _ X0.out.2.1).mono ?_
 rintro e w1 ⟨rfl,hb⟩
 have X1:=Lib.hid (X0.out.step hb)
 clear hb
 obtain ⟨x0,x1,x2,x3,x4,x5⟩:=X1.out.c6
 cases b1
 case false =>
  have HT:Hid (R=false):=by unfold Hid;rw [HR.out] <;> simp
  go_wp2
  go_ret
  exact ⟨by rw [HT.out];rfl,X1.out.2.1⟩
 have HT:Hid (R=false):=by unfold Hid;rw [HR.out] <;> simp
 go_wp2
 go_ret
 exact ⟨by rw [HT.out];rfl,X1.out.2.1⟩
theorem rfun_14a {N:Nat}{A1:Option Addr}{n1 c1:Nat}{A2:Option Addr}{n2 c2:Nat}{name:ByteArray}{c:Int}{cc:Nat}{nums:List Nat}{text:List Int}{w:World}{m:Nat}  {A:Option Addr}{kids:List RTree} (h0:(m:Int)≠0)
  (HY:Hid (NodR N w A1 n1 c1 A2 n2 c2 name A m cc nums text kids))
  : Calls Tryz.prog 105 #[.agg #[.int .i64 14,.slice A1 n1 c1,.slice A2 n2 c2,.string name,.int .i32 c,.slice A m cc]] w fun e w'=>e= .returned (.bool (gd (.mk 14 nums text name c kids) 1))/\Below w.heap.size w w':=by
 obtain ⟨R,hR⟩:∃ R,R=gd (.mk 14 nums text name c kids) 1:=⟨_,rfl⟩
 have HR:Hid (R=((onlyB 14 nums text name c)&&false)):=by
  unfold Hid;rw [hR];rw [gd_1_14,pl_n (by decide),decide_eq_false (show ¬ (kids.length:Int)=0 by have:=HY.out.hm;omega)];simp
 rw [<- hR]
 clear hR
 obtain ⟨b1,hb1⟩:∃ b:Bool,b=(onlyB 14 nums text name c):=⟨_,rfl⟩
 have C1:Hid (∀ W,Below w.heap.size w W->Calls Tryz.prog 53 #[.agg #[.int .i64 14,.slice A1 n1 c1,.slice A2 n2 c2,.string name,.int .i32 c,.slice A m cc]] W fun e w'=>e= .returned (.bool b1)/\Below W.heap.size W w'):=by
  unfold Hid;rw [hb1];intro W _;exact only_walk 14 A1 n1 c1 A2 n2 c2 name c A m cc nums text HY.out.hn HY.out.ht W
 rw [<- hb1] at HR
 clear hb1
 have X0:=Lib.hid (boxedT w [.int .i64 14,.slice A1 n1 c1,.slice A2 n2 c2,.string name,.int .i32 c,.slice A m cc] 29)
 have e0:((m:Int)==0)=false:=by simpa using h0
 clear h0
 clear HY
 go_enter Tryz.func105,Tryz.ntmps105
 go_wp2_with fail
 generalize w.alloc (.cells #[.int .i64 14,.slice A1 n1 c1,.slice A2 n2 c2,.string name,.int .i32 c,.slice A m cc] 29)=W at *
 refine (C1.out _ X0.out.2.1).mono ?_
 rintro e w1 ⟨rfl,hb⟩
 have X1:=Lib.hid (X0.out.step hb)
 clear hb
 obtain ⟨x0,x1,x2,x3,x4,x5⟩:=X1.out.c6
 cases b1
 case false =>
  have HT:Hid (R=false):=by unfold Hid;rw [HR.out] <;> simp
  go_wp2
  go_ret
  exact ⟨by rw [HT.out];rfl,X1.out.2.1⟩
 have HT:Hid (R=false):=by unfold Hid;rw [HR.out] <;> simp
 go_wp2
 go_ret
 exact ⟨by rw [HT.out];rfl,X1.out.2.1⟩
theorem rfun_14b {N:Nat}{A1:Option Addr}{n1 c1:Nat}{A2:Option Addr}{n2 c2:Nat}{name:ByteArray}{c:Int}{cc:Nat}{nums:List Nat}{text:List Int}{w:World}  {A:Option Addr}{kids:List RTree}
  (HY:Hid (NodR N w A1 n1 c1 A2 n2 c2 name A 0 cc nums text kids))
  : Calls Tryz.prog 105 #[.agg #[.int .i64 14,.slice A1 n1 c1,.slice A2 n2 c2,.string name,.int .i32 c,.slice A 0 cc]] w fun e w'=>e= .returned (.bool (gd (.mk 14 nums text name c kids) 1))/\Below w.heap.size w w':=by
 obtain ⟨R,hR⟩:∃ R,R=gd (.mk 14 nums text name c kids) 1:=⟨_,rfl⟩
 have HR:Hid (R=((onlyB 14 nums text name c)&&(goodNB (runesOf name)&&(upB name==true)))):=by
  unfold Hid;rw [hR];rw [gd_1_14,pl_n (by decide),decide_eq_true (show (kids.length:Int)=0 by have:=HY.out.hm;omega)];simp [onlyB,nmK,chK,Bool.and_assoc]
 rw [<- hR]
 clear hR
 obtain ⟨b1,hb1⟩:∃ b:Bool,b=(onlyB 14 nums text name c):=⟨_,rfl⟩
 have C1:Hid (∀ W,Below w.heap.size w W->Calls Tryz.prog 53 #[.agg #[.int .i64 14,.slice A1 n1 c1,.slice A2 n2 c2,.string name,.int .i32 c,.slice A 0 cc]] W fun e w'=>e= .returned (.bool b1)/\Below W.heap.size W w'):=by
  unfold Hid;rw [hb1];intro W _;exact only_walk 14 A1 n1 c1 A2 n2 c2 name c A 0 cc nums text HY.out.hn HY.out.ht W
 rw [<- hb1] at HR
 clear hb1
 obtain ⟨b2,hb2⟩:∃ b:Bool,b=(goodNB (runesOf name)&&(upB name==true)):=⟨_,rfl⟩
 have C2:Hid (∀ W,Below w.heap.size w W->Calls Tryz.prog 56 #[.agg #[.int .i64 14,.slice A1 n1 c1,.slice A2 n2 c2,.string name,.int .i32 c,.slice A 0 cc],.bool true] W fun e w'=>e= .returned (.bool b2)/\Below W.heap.size W w'):=by
  unfold Hid;rw [hb2];intro W _;exact named_walk 14 _ _ _ name c true W HY.out.fs
 rw [<- hb2] at HR
 clear hb2
 have X0:=Lib.hid (boxedT w [.int .i64 14,.slice A1 n1 c1,.slice A2 n2 c2,.string name,.int .i32 c,.slice A 0 cc] 29)
 clear HY
 go_enter Tryz.func105,Tryz.ntmps105
 go_wp2_with fail
 generalize w.alloc (.cells #[.int .i64 14,.slice A1 n1 c1,.slice A2 n2 c2,.string name,.int .i32 c,.slice A 0 cc] 29)=W at *
 refine (C1.out _ X0.out.2.1).mono ?_
 rintro e w1 ⟨rfl,hb⟩
 have X1:=Lib.hid (X0.out.step hb)
 clear hb
 obtain ⟨x0,x1,x2,x3,x4,x5⟩:=X1.out.c6
 cases b1
 case false =>
  have HT:Hid (R=false):=by unfold Hid;rw [HR.out] <;> simp
  go_wp2
  go_ret
  exact ⟨by rw [HT.out];rfl,X1.out.2.1⟩
 go_wp2_with fail
 refine (C2.out _ X1.out.2.1).mono ?_
 rintro e w2 ⟨rfl,hb⟩
 have X2:=Lib.hid (X1.out.step hb)
 clear hb x0 x1 x2 x3 x4 x5
 obtain ⟨x0,x1,x2,x3,x4,x5⟩:=X2.out.c6
 cases b2
 case false =>
  have HT:Hid (R=false):=by unfold Hid;rw [HR.out] <;> simp
  go_wp2
  go_ret
  exact ⟨by rw [HT.out];rfl,X2.out.2.1⟩
 have HT:Hid (R=true):=by unfold Hid;rw [HR.out] <;> simp
 go_wp2
 go_ret
 exact ⟨by rw [HT.out];rfl,X2.out.2.1⟩
theorem rfun_15a {N:Nat}{A1:Option Addr}{n1 c1:Nat}{A2:Option Addr}{n2 c2:Nat}{name:ByteArray}{c:Int}{cc:Nat}{nums:List Nat}{text:List Int}{w:World}  {A:Option Addr}{kids:List RTree}
  (HY:Hid (NodR N w A1 n1 c1 A2 n2 c2 name A 0 cc nums text kids))
  : Calls Tryz.prog 105 #[.agg #[.int .i64 15,.slice A1 n1 c1,.slice A2 n2 c2,.string name,.int .i32 c,.slice A 0 cc]] w fun e w'=>e= .returned (.bool (gd (.mk 15 nums text name c kids) 1))/\Below w.heap.size w w':=by
 obtain ⟨R,hR⟩:∃ R,R=gd (.mk 15 nums text name c kids) 1:=⟨_,rfl⟩
 have HR:Hid (R=((onlyB 15 nums text name c)&&false)):=by
  unfold Hid;rw [hR];rw [gd_1_15,decide_eq_false (by have:=HY.out.hm;omega)];simp
 rw [<- hR]
 clear hR
 obtain ⟨b1,hb1⟩:∃ b:Bool,b=(onlyB 15 nums text name c):=⟨_,rfl⟩
 have C1:Hid (∀ W,Below w.heap.size w W->Calls Tryz.prog 53 #[.agg #[.int .i64 15,.slice A1 n1 c1,.slice A2 n2 c2,.string name,.int .i32 c,.slice A 0 cc]] W fun e w'=>e= .returned (.bool b1)/\Below W.heap.size W w'):=by
  unfold Hid;rw [hb1];intro W _;exact only_walk 15 A1 n1 c1 A2 n2 c2 name c A 0 cc nums text HY.out.hn HY.out.ht W
 rw [<- hb1] at HR
 clear hb1
 have X0:=Lib.hid (boxedT w [.int .i64 15,.slice A1 n1 c1,.slice A2 n2 c2,.string name,.int .i32 c,.slice A 0 cc] 29)
 clear HY
 go_enter Tryz.func105,Tryz.ntmps105
 go_wp2_with fail
 generalize w.alloc (.cells #[.int .i64 15,.slice A1 n1 c1,.slice A2 n2 c2,.string name,.int .i32 c,.slice A 0 cc] 29)=W at *
 refine (C1.out _ X0.out.2.1).mono ?_
 rintro e w1 ⟨rfl,hb⟩
 have X1:=Lib.hid (X0.out.step hb)
 clear hb
 obtain ⟨x0,x1,x2,x3,x4,x5⟩:=X1.out.c6
 cases b1
 case false =>
  have HT:Hid (R=false):=by unfold Hid;rw [HR.out] <;> simp
  go_wp2
  go_ret
  exact ⟨by rw [HT.out];rfl,X1.out.2.1⟩
 have HT:Hid (R=false):=by unfold Hid;rw [HR.out] <;> simp
 go_wp2
 go_ret
 exact ⟨by rw [HT.out];rfl,X1.out.2.1⟩
theorem rfun_15b {N:Nat}{A1:Option Addr}{n1 c1:Nat}{A2:Option Addr}{n2 c2:Nat}{name:ByteArray}{c:Int}{cc:Nat}{nums:List Nat}{text:List Int}{w:World}{m:Nat}  {A:Option Addr}{kids:List RTree} (h0:0 < m)
  (HY:Hid (NodR N w A1 n1 c1 A2 n2 c2 name A m cc nums text kids)) (HK:Hid (KTell N))
  : Calls Tryz.prog 105 #[.agg #[.int .i64 15,.slice A1 n1 c1,.slice A2 n2 c2,.string name,.int .i32 c,.slice A m cc]] w fun e w'=>e= .returned (.bool (gd (.mk 15 nums text name c kids) 1))/\Below w.heap.size w w':=by
 obtain ⟨R,hR⟩:∃ R,R=gd (.mk 15 nums text name c kids) 1:=⟨_,rfl⟩
 have HR:Hid (R=((onlyB 15 nums text name c)&&(kids.all (fun t=>gd t 3)))):=by
  unfold Hid;rw [hR];rw [gd_1_15,pl_m,decide_eq_true (by have:=HY.out.hm;omega),gds_eq];simp [onlyB,nmK,chK]
 rw [<- hR]
 clear hR
 obtain ⟨b1,hb1⟩:∃ b:Bool,b=(onlyB 15 nums text name c):=⟨_,rfl⟩
 have C1:Hid (∀ W,Below w.heap.size w W->Calls Tryz.prog 53 #[.agg #[.int .i64 15,.slice A1 n1 c1,.slice A2 n2 c2,.string name,.int .i32 c,.slice A m cc]] W fun e w'=>e= .returned (.bool b1)/\Below W.heap.size W w'):=by
  unfold Hid;rw [hb1];intro W _;exact only_walk 15 A1 n1 c1 A2 n2 c2 name c A m cc nums text HY.out.hn HY.out.ht W
 rw [<- hb1] at HR
 clear hb1
 obtain ⟨b2,hb2⟩:∃ b:Bool,b=(kids.all (fun t=>gd t 3)):=⟨_,rfl⟩
 have C2:Hid (∀ W,Below w.heap.size w W->Calls Tryz.prog 57 #[.slice A m cc,.int .i64 3] W fun e w'=>e= .returned (.bool b2)/\Below W.heap.size W w'):=by
  unfold Hid;rw [hb2];intro W hb;exact HK.out 3 3 kids A m cc W rfl (by decide) HY.out.hm (by have:=HY.out.fm;omega) (HY.out.hkid.below hb) (HY.out.ok)
 rw [<- hb2] at HR
 clear hb2
 have X0:=Lib.hid (boxedT w [.int .i64 15,.slice A1 n1 c1,.slice A2 n2 c2,.string name,.int .i32 c,.slice A m cc] 29)
 have e0:(1:Int)<=(m:Int):=by omega
 have e1:decide ((1:Int)<=(m:Int))=true:=decide_eq_true e0
 clear h0
 clear HY HK
 go_enter Tryz.func105,Tryz.ntmps105
 go_wp2_with fail
 generalize w.alloc (.cells #[.int .i64 15,.slice A1 n1 c1,.slice A2 n2 c2,.string name,.int .i32 c,.slice A m cc] 29)=W at *
 refine (C1.out _ X0.out.2.1).mono ?_
 rintro e w1 ⟨rfl,hb⟩
 have X1:=Lib.hid (X0.out.step hb)
 clear hb
 obtain ⟨x0,x1,x2,x3,x4,x5⟩:=X1.out.c6
 cases b1
 case false =>
  have HT:Hid (R=false):=by unfold Hid;rw [HR.out] <;> simp
  go_wp2
  go_ret
  exact ⟨by rw [HT.out];rfl,X1.out.2.1⟩
 go_wp2_with fail
 refine (C2.out _ X1.out.2.1).mono ?_
 rintro e w2 ⟨rfl,hb⟩
 have X2:=Lib.hid (X1.out.step hb)
 clear hb x0 x1 x2 x3 x4 x5
 obtain ⟨x0,x1,x2,x3,x4,x5⟩:=X2.out.c6
 cases b2
 case false =>
  have HT:Hid (R=false):=by unfold Hid;rw [HR.out] <;> simp
  go_wp2
  go_ret
  exact ⟨by rw [HT.out];rfl,X2.out.2.1⟩
 have HT:Hid (R=true):=by unfold Hid;rw [HR.out] <;> simp
 go_wp2
 go_ret
 exact ⟨by rw [HT.out];rfl,X2.out.2.1⟩
theorem rfun_17a {N:Nat}{A1:Option Addr}{n1 c1:Nat}{A2:Option Addr}{n2 c2:Nat}{name:ByteArray}{c:Int}{cc:Nat}{nums:List Nat}{text:List Int}{w:World}{m:Nat}  {A:Option Addr}{kids:List RTree} (h0:(m:Int)≠2)
  (HY:Hid (NodR N w A1 n1 c1 A2 n2 c2 name A m cc nums text kids))
  : Calls Tryz.prog 105 #[.agg #[.int .i64 17,.slice A1 n1 c1,.slice A2 n2 c2,.string name,.int .i32 c,.slice A m cc]] w fun e w'=>e= .returned (.bool (gd (.mk 17 nums text name c kids) 1))/\Below w.heap.size w w':=by
 obtain ⟨R,hR⟩:∃ R,R=gd (.mk 17 nums text name c kids) 1:=⟨_,rfl⟩
 have HR:Hid (R=((onlyB 17 nums text name c)&&false)):=by
  unfold Hid;rw [hR];rw [gd_1_17,pl_n (by decide),decide_eq_false (show ¬ (kids.length:Int)=2 by have:=HY.out.hm;omega)];simp
 rw [<- hR]
 clear hR
 obtain ⟨b1,hb1⟩:∃ b:Bool,b=(onlyB 17 nums text name c):=⟨_,rfl⟩
 have C1:Hid (∀ W,Below w.heap.size w W->Calls Tryz.prog 53 #[.agg #[.int .i64 17,.slice A1 n1 c1,.slice A2 n2 c2,.string name,.int .i32 c,.slice A m cc]] W fun e w'=>e= .returned (.bool b1)/\Below W.heap.size W w'):=by
  unfold Hid;rw [hb1];intro W _;exact only_walk 17 A1 n1 c1 A2 n2 c2 name c A m cc nums text HY.out.hn HY.out.ht W
 rw [<- hb1] at HR
 clear hb1
 have X0:=Lib.hid (boxedT w [.int .i64 17,.slice A1 n1 c1,.slice A2 n2 c2,.string name,.int .i32 c,.slice A m cc] 29)
 have e0:((m:Int)==2)=false:=by simpa using h0
 clear h0
 clear HY
 go_enter Tryz.func105,Tryz.ntmps105
 go_wp2_with fail
 generalize w.alloc (.cells #[.int .i64 17,.slice A1 n1 c1,.slice A2 n2 c2,.string name,.int .i32 c,.slice A m cc] 29)=W at *
 refine (C1.out _ X0.out.2.1).mono ?_
 rintro e w1 ⟨rfl,hb⟩
 have X1:=Lib.hid (X0.out.step hb)
 clear hb
 obtain ⟨x0,x1,x2,x3,x4,x5⟩:=X1.out.c6
 cases b1
 case false =>
  have HT:Hid (R=false):=by unfold Hid;rw [HR.out] <;> simp
  go_wp2
  go_ret
  exact ⟨by rw [HT.out];rfl,X1.out.2.1⟩
 have HT:Hid (R=false):=by unfold Hid;rw [HR.out] <;> simp
 go_wp2
 go_ret
 exact ⟨by rw [HT.out];rfl,X1.out.2.1⟩
theorem rfun_17b {N:Nat}{A1:Option Addr}{n1 c1:Nat}{A2:Option Addr}{n2 c2:Nat}{name:ByteArray}{c:Int}{cc:Nat}{nums:List Nat}{text:List Int}{w:World}{m:Nat}  {A:Option Addr}{kids:List RTree} (h0:(m:Int)=2)
  (HY:Hid (NodR N w A1 n1 c1 A2 n2 c2 name A m cc nums text kids)) (HK:Hid (KTell N))
  : Calls Tryz.prog 105 #[.agg #[.int .i64 17,.slice A1 n1 c1,.slice A2 n2 c2,.string name,.int .i32 c,.slice A m cc]] w fun e w'=>e= .returned (.bool (gd (.mk 17 nums text name c kids) 1))/\Below w.heap.size w w':=by
 obtain ⟨R,hR⟩:∃ R,R=gd (.mk 17 nums text name c kids) 1:=⟨_,rfl⟩
 have HR:Hid (R=((onlyB 17 nums text name c)&&(kids.all (fun t=>gd t 1)))):=by
  unfold Hid;rw [hR];rw [gd_1_17,pl_n (by decide),decide_eq_true (show ((kids).length:Int)=2 by have:=HY.out.hm;omega)];rw [gds_eq];simp [onlyB,nmK,chK]
 rw [<- hR]
 clear hR
 obtain ⟨b1,hb1⟩:∃ b:Bool,b=(onlyB 17 nums text name c):=⟨_,rfl⟩
 have C1:Hid (∀ W,Below w.heap.size w W->Calls Tryz.prog 53 #[.agg #[.int .i64 17,.slice A1 n1 c1,.slice A2 n2 c2,.string name,.int .i32 c,.slice A m cc]] W fun e w'=>e= .returned (.bool b1)/\Below W.heap.size W w'):=by
  unfold Hid;rw [hb1];intro W _;exact only_walk 17 A1 n1 c1 A2 n2 c2 name c A m cc nums text HY.out.hn HY.out.ht W
 rw [<- hb1] at HR
 clear hb1
 obtain ⟨b2,hb2⟩:∃ b:Bool,b=(kids.all (fun t=>gd t 1)):=⟨_,rfl⟩
 have C2:Hid (∀ W,Below w.heap.size w W->Calls Tryz.prog 57 #[.slice A m cc,.int .i64 1] W fun e w'=>e= .returned (.bool b2)/\Below W.heap.size W w'):=by
  unfold Hid;rw [hb2];intro W hb;exact HK.out 1 1 kids A m cc W rfl (by decide) HY.out.hm (by have:=HY.out.fm;omega) (HY.out.hkid.below hb) (HY.out.ok)
 rw [<- hb2] at HR
 clear hb2
 have X0:=Lib.hid (boxedT w [.int .i64 17,.slice A1 n1 c1,.slice A2 n2 c2,.string name,.int .i32 c,.slice A m cc] 29)
 have e0:((m:Int)==2)=true:=by simpa using h0
 have h1:1<=m:=by omega
 clear h0
 clear HY HK
 go_enter Tryz.func105,Tryz.ntmps105
 go_wp2_with fail
 generalize w.alloc (.cells #[.int .i64 17,.slice A1 n1 c1,.slice A2 n2 c2,.string name,.int .i32 c,.slice A m cc] 29)=W at *
 refine (C1.out _ X0.out.2.1).mono ?_
 rintro e w1 ⟨rfl,hb⟩
 have X1:=Lib.hid (X0.out.step hb)
 clear hb
 obtain ⟨x0,x1,x2,x3,x4,x5⟩:=X1.out.c6
 cases b1
 case false =>
  have HT:Hid (R=false):=by unfold Hid;rw [HR.out] <;> simp
  go_wp2
  go_ret
  exact ⟨by rw [HT.out];rfl,X1.out.2.1⟩
 go_wp2_with fail
 refine (C2.out _ X1.out.2.1).mono ?_
 rintro e w2 ⟨rfl,hb⟩
 have X2:=Lib.hid (X1.out.step hb)
 clear hb x0 x1 x2 x3 x4 x5
 obtain ⟨x0,x1,x2,x3,x4,x5⟩:=X2.out.c6
 cases b2
 case false =>
  have HT:Hid (R=false):=by unfold Hid;rw [HR.out] <;> simp
  go_wp2
  go_ret
  exact ⟨by rw [HT.out];rfl,X2.out.2.1⟩
 have HT:Hid (R=true):=by unfold Hid;rw [HR.out] <;> simp
 go_wp2
 go_ret
 exact ⟨by rw [HT.out];rfl,X2.out.2.1⟩
theorem rfun_18a {N:Nat}{A1:Option Addr}{n1 c1:Nat}{A2:Option Addr}{n2 c2:Nat}{name:ByteArray}{c:Int}{cc:Nat}{nums:List Nat}{text:List Int}{w:World}{m:Nat}  {A:Option Addr}{kids:List RTree} (h0:(m:Int)≠1)
  (HY:Hid (NodR N w A1 n1 c1 A2 n2 c2 name A m cc nums text kids))
  : Calls Tryz.prog 105 #[.agg #[.int .i64 18,.slice A1 n1 c1,.slice A2 n2 c2,.string name,.int .i32 c,.slice A m cc]] w fun e w'=>e= .returned (.bool (gd (.mk 18 nums text name c kids) 1))/\Below w.heap.size w w':=by
 obtain ⟨R,hR⟩:∃ R,R=gd (.mk 18 nums text name c kids) 1:=⟨_,rfl⟩
 have HR:Hid (R=((onlyB 18 nums text name c)&&false)):=by
  unfold Hid;rw [hR];rw [gd_1_18,pl_n (by decide),decide_eq_false (show ¬ (kids.length:Int)=1 by have:=HY.out.hm;omega)];simp
 rw [<- hR]
 clear hR
 obtain ⟨b1,hb1⟩:∃ b:Bool,b=(onlyB 18 nums text name c):=⟨_,rfl⟩
 have C1:Hid (∀ W,Below w.heap.size w W->Calls Tryz.prog 53 #[.agg #[.int .i64 18,.slice A1 n1 c1,.slice A2 n2 c2,.string name,.int .i32 c,.slice A m cc]] W fun e w'=>e= .returned (.bool b1)/\Below W.heap.size W w'):=by
  unfold Hid;rw [hb1];intro W _;exact only_walk 18 A1 n1 c1 A2 n2 c2 name c A m cc nums text HY.out.hn HY.out.ht W
 rw [<- hb1] at HR
 clear hb1
 have X0:=Lib.hid (boxedT w [.int .i64 18,.slice A1 n1 c1,.slice A2 n2 c2,.string name,.int .i32 c,.slice A m cc] 29)
 have e0:((m:Int)==1)=false:=by simpa using h0
 clear h0
 clear HY
 go_enter Tryz.func105,Tryz.ntmps105
 go_wp2_with fail
 generalize w.alloc (.cells #[.int .i64 18,.slice A1 n1 c1,.slice A2 n2 c2,.string name,.int .i32 c,.slice A m cc] 29)=W at *
 refine (C1.out _ X0.out.2.1).mono ?_
 rintro e w1 ⟨rfl,hb⟩
 have X1:=Lib.hid (X0.out.step hb)
 clear hb
 obtain ⟨x0,x1,x2,x3,x4,x5⟩:=X1.out.c6
 cases b1
 case false =>
  have HT:Hid (R=false):=by unfold Hid;rw [HR.out] <;> simp
  go_wp2
  go_ret
  exact ⟨by rw [HT.out];rfl,X1.out.2.1⟩
 have HT:Hid (R=false):=by unfold Hid;rw [HR.out] <;> simp
 go_wp2
 go_ret
 exact ⟨by rw [HT.out];rfl,X1.out.2.1⟩
theorem rfun_18b {N:Nat}{A1:Option Addr}{n1 c1:Nat}{A2:Option Addr}{n2 c2:Nat}{name:ByteArray}{c:Int}{cc:Nat}{nums:List Nat}{text:List Int}{w:World}{m:Nat}  {A:Option Addr}{kids:List RTree} (h0:(m:Int)=1)
  (HY:Hid (NodR N w A1 n1 c1 A2 n2 c2 name A m cc nums text kids)) (HK:Hid (KTell N))
  : Calls Tryz.prog 105 #[.agg #[.int .i64 18,.slice A1 n1 c1,.slice A2 n2 c2,.string name,.int .i32 c,.slice A m cc]] w fun e w'=>e= .returned (.bool (gd (.mk 18 nums text name c kids) 1))/\Below w.heap.size w w':=by
 obtain ⟨R,hR⟩:∃ R,R=gd (.mk 18 nums text name c kids) 1:=⟨_,rfl⟩
 have HR:Hid (R=((onlyB 18 nums text name c)&&(kids.all (fun t=>gd t 1)))):=by
  unfold Hid;rw [hR];rw [gd_1_18,pl_n (by decide),decide_eq_true (show ((kids).length:Int)=1 by have:=HY.out.hm;omega)];rw [gds_eq];simp [onlyB,nmK,chK]
 rw [<- hR]
 clear hR
 obtain ⟨b1,hb1⟩:∃ b:Bool,b=(onlyB 18 nums text name c):=⟨_,rfl⟩
 have C1:Hid (∀ W,Below w.heap.size w W->Calls Tryz.prog 53 #[.agg #[.int .i64 18,.slice A1 n1 c1,.slice A2 n2 c2,.string name,.int .i32 c,.slice A m cc]] W fun e w'=>e= .returned (.bool b1)/\Below W.heap.size W w'):=by
  unfold Hid;rw [hb1];intro W _;exact only_walk 18 A1 n1 c1 A2 n2 c2 name c A m cc nums text HY.out.hn HY.out.ht W
 rw [<- hb1] at HR
 clear hb1
 obtain ⟨b2,hb2⟩:∃ b:Bool,b=(kids.all (fun t=>gd t 1)):=⟨_,rfl⟩
 have C2:Hid (∀ W,Below w.heap.size w W->Calls Tryz.prog 57 #[.slice A m cc,.int .i64 1] W fun e w'=>e= .returned (.bool b2)/\Below W.heap.size W w'):=by
  unfold Hid;rw [hb2];intro W hb;exact HK.out 1 1 kids A m cc W rfl (by decide) HY.out.hm (by have:=HY.out.fm;omega) (HY.out.hkid.below hb) (HY.out.ok)
 rw [<- hb2] at HR
 clear hb2
 have X0:=Lib.hid (boxedT w [.int .i64 18,.slice A1 n1 c1,.slice A2 n2 c2,.string name,.int .i32 c,.slice A m cc] 29)
 have e0:((m:Int)==1)=true:=by simpa using h0
 have h1:1<=m:=by omega
 clear h0
 clear HY HK
 go_enter Tryz.func105,Tryz.ntmps105
 go_wp2_with fail
 generalize w.alloc (.cells #[.int .i64 18,.slice A1 n1 c1,.slice A2 n2 c2,.string name,.int .i32 c,.slice A m cc] 29)=W at *
 refine (C1.out _ X0.out.2.1).mono ?_
 rintro e w1 ⟨rfl,hb⟩
 have X1:=Lib.hid (X0.out.step hb)
 clear hb
 obtain ⟨x0,x1,x2,x3,x4,x5⟩:=X1.out.c6
 cases b1
 case false =>
  have HT:Hid (R=false):=by unfold Hid;rw [HR.out] <;> simp
  go_wp2
  go_ret
  exact ⟨by rw [HT.out];rfl,X1.out.2.1⟩
 go_wp2_with fail
 refine (C2.out _ X1.out.2.1).mono ?_
 rintro e w2 ⟨rfl,hb⟩
 have X2:=Lib.hid (X1.out.step hb)
 clear hb x0 x1 x2 x3 x4 x5
 obtain ⟨x0,x1,x2,x3,x4,x5⟩:=X2.out.c6
 cases b2
 case false =>
  have HT:Hid (R=false):=by unfold Hid;rw [HR.out] <;> simp
  go_wp2
  go_ret
  exact ⟨by rw [HT.out];rfl,X2.out.2.1⟩
 have HT:Hid (R=true):=by unfold Hid;rw [HR.out] <;> simp
 go_wp2
 go_ret
 exact ⟨by rw [HT.out];rfl,X2.out.2.1⟩
theorem rfun_16a {N:Nat}{A1:Option Addr}{n1 c1:Nat}{A2:Option Addr}{n2 c2:Nat}{name:ByteArray}{c:Int}{cc:Nat}{nums:List Nat}{text:List Int}{w:World}{m:Nat}  {A:Option Addr}{kids:List RTree} (h0:(m:Int)≠1)
  (HY:Hid (NodR N w A1 n1 c1 A2 n2 c2 name A m cc nums text kids))
  : Calls Tryz.prog 105 #[.agg #[.int .i64 16,.slice A1 n1 c1,.slice A2 n2 c2,.string name,.int .i32 c,.slice A m cc]] w fun e w'=>e= .returned (.bool (gd (.mk 16 nums text name c kids) 1))/\Below w.heap.size w w':=by
 obtain ⟨R,hR⟩:∃ R,R=gd (.mk 16 nums text name c kids) 1:=⟨_,rfl⟩
 have HR:Hid (R=((onlyB 16 nums text name c)&&false)):=by
  unfold Hid;rw [hR];rw [gd_1_16,pl_n (by decide),decide_eq_false (show ¬ (kids.length:Int)=1 by have:=HY.out.hm;omega)];simp
 rw [<- hR]
 clear hR
 obtain ⟨b1,hb1⟩:∃ b:Bool,b=(onlyB 16 nums text name c):=⟨_,rfl⟩
 have C1:Hid (∀ W,Below w.heap.size w W->Calls Tryz.prog 53 #[.agg #[.int .i64 16,.slice A1 n1 c1,.slice A2 n2 c2,.string name,.int .i32 c,.slice A m cc]] W fun e w'=>e= .returned (.bool b1)/\Below W.heap.size W w'):=by
  unfold Hid;rw [hb1];intro W _;exact only_walk 16 A1 n1 c1 A2 n2 c2 name c A m cc nums text HY.out.hn HY.out.ht W
 rw [<- hb1] at HR
 clear hb1
 have X0:=Lib.hid (boxedT w [.int .i64 16,.slice A1 n1 c1,.slice A2 n2 c2,.string name,.int .i32 c,.slice A m cc] 29)
 have e0:((m:Int)==1)=false:=by simpa using h0
 clear h0
 clear HY
 go_enter Tryz.func105,Tryz.ntmps105
 go_wp2_with fail
 generalize w.alloc (.cells #[.int .i64 16,.slice A1 n1 c1,.slice A2 n2 c2,.string name,.int .i32 c,.slice A m cc] 29)=W at *
 refine (C1.out _ X0.out.2.1).mono ?_
 rintro e w1 ⟨rfl,hb⟩
 have X1:=Lib.hid (X0.out.step hb)
 clear hb
 obtain ⟨x0,x1,x2,x3,x4,x5⟩:=X1.out.c6
 cases b1
 case false =>
  have HT:Hid (R=false):=by unfold Hid;rw [HR.out] <;> simp
  go_wp2
  go_ret
  exact ⟨by rw [HT.out];rfl,X1.out.2.1⟩
 have HT:Hid (R=false):=by unfold Hid;rw [HR.out] <;> simp
 go_wp2
 go_ret
 exact ⟨by rw [HT.out];rfl,X1.out.2.1⟩
theorem rfun_16b {N:Nat}{A1:Option Addr}{n1 c1:Nat}{A2:Option Addr}{n2 c2:Nat}{name:ByteArray}{c:Int}{cc:Nat}{nums:List Nat}{text:List Int}{w:World}  {A:Option Addr}{kids:List RTree} (hs:slashB c=true)
  (HY:Hid (NodR N w A1 n1 c1 A2 n2 c2 name A 1 cc nums text kids)) (HK:Hid (KTell N))
  : Calls Tryz.prog 105 #[.agg #[.int .i64 16,.slice A1 n1 c1,.slice A2 n2 c2,.string name,.int .i32 c,.slice A 1 cc]] w fun e w'=>e= .returned (.bool (gd (.mk 16 nums text name c kids) 1))/\Below w.heap.size w w':=by
 obtain ⟨R,hR⟩:∃ R,R=gd (.mk 16 nums text name c kids) 1:=⟨_,rfl⟩
 have HR:Hid (R=((onlyB 16 nums text name c)&&(kids.all (fun t=>gd t 1)))):=by
  unfold Hid;rw [hR];rw [gd_1_16,pl_n (by decide),decide_eq_true (show (kids.length:Int)=1 by have:=HY.out.hm;omega),hs,gds_eq];simp [onlyB,nmK,chK]
 rw [<- hR]
 clear hR
 obtain ⟨b1,hb1⟩:∃ b:Bool,b=(onlyB 16 nums text name c):=⟨_,rfl⟩
 have C1:Hid (∀ W,Below w.heap.size w W->Calls Tryz.prog 53 #[.agg #[.int .i64 16,.slice A1 n1 c1,.slice A2 n2 c2,.string name,.int .i32 c,.slice A 1 cc]] W fun e w'=>e= .returned (.bool b1)/\Below W.heap.size W w'):=by
  unfold Hid;rw [hb1];intro W _;exact only_walk 16 A1 n1 c1 A2 n2 c2 name c A 1 cc nums text HY.out.hn HY.out.ht W
 rw [<- hb1] at HR
 clear hb1
 obtain ⟨b2,hb2⟩:∃ b:Bool,b=(slashB c):=⟨_,rfl⟩
 have C2:Hid (∀ W,Below w.heap.size w W->Calls Tryz.prog 128 #[.int .i32 c] W fun e w'=>e= .returned (.bool b2)/\W=w'):=by
  unfold Hid;rw [hb2];intro W _;exact rslash_walk c W
 have kb2:b2=true:=by rw [hb2];exact hs
 clear hb2
 subst kb2
 obtain ⟨b3,hb3⟩:∃ b:Bool,b=(kids.all (fun t=>gd t 1)):=⟨_,rfl⟩
 have C3:Hid (∀ W,Below w.heap.size w W->Calls Tryz.prog 57 #[.slice A 1 cc,.int .i64 1] W fun e w'=>e= .returned (.bool b3)/\Below W.heap.size W w'):=by
  unfold Hid;rw [hb3];intro W hb;exact HK.out 1 1 kids A 1 cc W rfl (by decide) HY.out.hm (by have:=HY.out.fm;omega) (HY.out.hkid.below hb) (HY.out.ok)
 rw [<- hb3] at HR
 clear hb3
 have X0:=Lib.hid (boxedT w [.int .i64 16,.slice A1 n1 c1,.slice A2 n2 c2,.string name,.int .i32 c,.slice A 1 cc] 29)
 clear hs
 clear HY HK
 go_enter Tryz.func105,Tryz.ntmps105
 go_wp2_with fail
 generalize w.alloc (.cells #[.int .i64 16,.slice A1 n1 c1,.slice A2 n2 c2,.string name,.int .i32 c,.slice A 1 cc] 29)=W at *
 refine (C1.out _ X0.out.2.1).mono ?_
 rintro e w1 ⟨rfl,hb⟩
 have X1:=Lib.hid (X0.out.step hb)
 clear hb
 obtain ⟨x0,x1,x2,x3,x4,x5⟩:=X1.out.c6
 cases b1
 case false =>
  have HT:Hid (R=false):=by unfold Hid;rw [HR.out] <;> simp
  go_wp2
  go_ret
  exact ⟨by rw [HT.out];rfl,X1.out.2.1⟩
 go_wp2_with fail
 refine (C2.out _ X1.out.2.1).mono ?_
 rintro e w2 ⟨rfl,rfl⟩
 go_wp2_with fail
 refine (C3.out _ X1.out.2.1).mono ?_
 rintro e w3 ⟨rfl,hb⟩
 have X3:=Lib.hid (X1.out.step hb)
 clear hb x0 x1 x2 x3 x4 x5
 obtain ⟨x0,x1,x2,x3,x4,x5⟩:=X3.out.c6
 cases b3
 case false =>
  have HT:Hid (R=false):=by unfold Hid;rw [HR.out] <;> simp
  go_wp2
  go_ret
  exact ⟨by rw [HT.out];rfl,X3.out.2.1⟩
 have HT:Hid (R=true):=by unfold Hid;rw [HR.out] <;> simp
 go_wp2
 go_ret
 exact ⟨by rw [HT.out];rfl,X3.out.2.1⟩
theorem rfun_16c {N:Nat}{A1:Option Addr}{n1 c1:Nat}{A2:Option Addr}{n2 c2:Nat}{name:ByteArray}{cc:Nat}{nums:List Nat}{text:List Int}{w:World}  {A:Option Addr}{kids:List RTree}
  (HY:Hid (NodR N w A1 n1 c1 A2 n2 c2 name A 1 cc nums text kids)) (HK:Hid (KTell N))
  : Calls Tryz.prog 105 #[.agg #[.int .i64 16,.slice A1 n1 c1,.slice A2 n2 c2,.string name,.int .i32 168,.slice A 1 cc]] w fun e w'=>e= .returned (.bool (gd (.mk 16 nums text name 168 kids) 1))/\Below w.heap.size w w':=by
 obtain ⟨R,hR⟩:∃ R,R=gd (.mk 16 nums text name 168 kids) 1:=⟨_,rfl⟩
 have HR:Hid (R=((onlyB 16 nums text name 168)&&(kids.all (fun t=>gd t 1)))):=by
  unfold Hid;rw [hR];rw [gd_1_16,pl_n (by decide),decide_eq_true (show (kids.length:Int)=1 by have:=HY.out.hm;omega),gds_eq];simp [onlyB,nmK,chK]
 rw [<- hR]
 clear hR
 obtain ⟨b1,hb1⟩:∃ b:Bool,b=(onlyB 16 nums text name 168):=⟨_,rfl⟩
 have C1:Hid (∀ W,Below w.heap.size w W->Calls Tryz.prog 53 #[.agg #[.int .i64 16,.slice A1 n1 c1,.slice A2 n2 c2,.string name,.int .i32 168,.slice A 1 cc]] W fun e w'=>e= .returned (.bool b1)/\Below W.heap.size W w'):=by
  unfold Hid;rw [hb1];intro W _;exact only_walk 16 A1 n1 c1 A2 n2 c2 name 168 A 1 cc nums text HY.out.hn HY.out.ht W
 rw [<- hb1] at HR
 clear hb1
 obtain ⟨b2,hb2⟩:∃ b:Bool,b=(slashB 168):=⟨_,rfl⟩
 have C2:Hid (∀ W,Below w.heap.size w W->Calls Tryz.prog 128 #[.int .i32 168] W fun e w'=>e= .returned (.bool b2)/\W=w'):=by
  unfold Hid;rw [hb2];intro W _;exact rslash_walk 168 W
 have kb2:b2=false:=by rw [hb2];exact by decide
 clear hb2
 subst kb2
 obtain ⟨b3,hb3⟩:∃ b:Bool,b=(kids.all (fun t=>gd t 1)):=⟨_,rfl⟩
 have C3:Hid (∀ W,Below w.heap.size w W->Calls Tryz.prog 57 #[.slice A 1 cc,.int .i64 1] W fun e w'=>e= .returned (.bool b3)/\Below W.heap.size W w'):=by
  unfold Hid;rw [hb3];intro W hb;exact HK.out 1 1 kids A 1 cc W rfl (by decide) HY.out.hm (by have:=HY.out.fm;omega) (HY.out.hkid.below hb) (HY.out.ok)
 rw [<- hb3] at HR
 clear hb3
 have X0:=Lib.hid (boxedT w [.int .i64 16,.slice A1 n1 c1,.slice A2 n2 c2,.string name,.int .i32 168,.slice A 1 cc] 29)
 clear HY HK
 go_enter Tryz.func105,Tryz.ntmps105
 go_wp2_with fail
 generalize w.alloc (.cells #[.int .i64 16,.slice A1 n1 c1,.slice A2 n2 c2,.string name,.int .i32 168,.slice A 1 cc] 29)=W at *
 refine (C1.out _ X0.out.2.1).mono ?_
 rintro e w1 ⟨rfl,hb⟩
 have X1:=Lib.hid (X0.out.step hb)
 clear hb
 obtain ⟨x0,x1,x2,x3,x4,x5⟩:=X1.out.c6
 cases b1
 case false =>
  have HT:Hid (R=false):=by unfold Hid;rw [HR.out] <;> simp
  go_wp2
  go_ret
  exact ⟨by rw [HT.out];rfl,X1.out.2.1⟩
 go_wp2_with fail
 refine (C2.out _ X1.out.2.1).mono ?_
 rintro e w2 ⟨rfl,rfl⟩
 go_wp2_with fail
 refine (C3.out _ X1.out.2.1).mono ?_
 rintro e w3 ⟨rfl,hb⟩
 have X3:=Lib.hid (X1.out.step hb)
 clear hb x0 x1 x2 x3 x4 x5
 obtain ⟨x0,x1,x2,x3,x4,x5⟩:=X3.out.c6
 cases b3
 case false =>
  have HT:Hid (R=false):=by unfold Hid;rw [HR.out] <;> simp
  go_wp2
  go_ret
  exact ⟨by rw [HT.out];rfl,X3.out.2.1⟩
 have HT:Hid (R=true):=by unfold Hid;rw [HR.out] <;> simp
 go_wp2
 go_ret
 exact ⟨by rw [HT.out];rfl,X3.out.2.1⟩
theorem rfun_16d {N:Nat}{A1:Option Addr}{n1 c1:Nat}{A2:Option Addr}{n2 c2:Nat}{name:ByteArray}{cc:Nat}{nums:List Nat}{text:List Int}{w:World}  {A:Option Addr}{kids:List RTree}
  (HY:Hid (NodR N w A1 n1 c1 A2 n2 c2 name A 1 cc nums text kids)) (HK:Hid (KTell N))
  : Calls Tryz.prog 105 #[.agg #[.int .i64 16,.slice A1 n1 c1,.slice A2 n2 c2,.string name,.int .i32 9064,.slice A 1 cc]] w fun e w'=>e= .returned (.bool (gd (.mk 16 nums text name 9064 kids) 1))/\Below w.heap.size w w':=by
 obtain ⟨R,hR⟩:∃ R,R=gd (.mk 16 nums text name 9064 kids) 1:=⟨_,rfl⟩
 have HR:Hid (R=((onlyB 16 nums text name 9064)&&(kids.all (fun t=>gd t 1)))):=by
  unfold Hid;rw [hR];rw [gd_1_16,pl_n (by decide),decide_eq_true (show (kids.length:Int)=1 by have:=HY.out.hm;omega),gds_eq];simp [onlyB,nmK,chK]
 rw [<- hR]
 clear hR
 obtain ⟨b1,hb1⟩:∃ b:Bool,b=(onlyB 16 nums text name 9064):=⟨_,rfl⟩
 have C1:Hid (∀ W,Below w.heap.size w W->Calls Tryz.prog 53 #[.agg #[.int .i64 16,.slice A1 n1 c1,.slice A2 n2 c2,.string name,.int .i32 9064,.slice A 1 cc]] W fun e w'=>e= .returned (.bool b1)/\Below W.heap.size W w'):=by
  unfold Hid;rw [hb1];intro W _;exact only_walk 16 A1 n1 c1 A2 n2 c2 name 9064 A 1 cc nums text HY.out.hn HY.out.ht W
 rw [<- hb1] at HR
 clear hb1
 obtain ⟨b2,hb2⟩:∃ b:Bool,b=(slashB 9064):=⟨_,rfl⟩
 have C2:Hid (∀ W,Below w.heap.size w W->Calls Tryz.prog 128 #[.int .i32 9064] W fun e w'=>e= .returned (.bool b2)/\W=w'):=by
  unfold Hid;rw [hb2];intro W _;exact rslash_walk 9064 W
 have kb2:b2=false:=by rw [hb2];exact by decide
 clear hb2
 subst kb2
 obtain ⟨b3,hb3⟩:∃ b:Bool,b=(kids.all (fun t=>gd t 1)):=⟨_,rfl⟩
 have C3:Hid (∀ W,Below w.heap.size w W->Calls Tryz.prog 57 #[.slice A 1 cc,.int .i64 1] W fun e w'=>e= .returned (.bool b3)/\Below W.heap.size W w'):=by
  unfold Hid;rw [hb3];intro W hb;exact HK.out 1 1 kids A 1 cc W rfl (by decide) HY.out.hm (by have:=HY.out.fm;omega) (HY.out.hkid.below hb) (HY.out.ok)
 rw [<- hb3] at HR
 clear hb3
 have X0:=Lib.hid (boxedT w [.int .i64 16,.slice A1 n1 c1,.slice A2 n2 c2,.string name,.int .i32 9064,.slice A 1 cc] 29)
 clear HY HK
 go_enter Tryz.func105,Tryz.ntmps105
 go_wp2_with fail
 generalize w.alloc (.cells #[.int .i64 16,.slice A1 n1 c1,.slice A2 n2 c2,.string name,.int .i32 9064,.slice A 1 cc] 29)=W at *
 refine (C1.out _ X0.out.2.1).mono ?_
 rintro e w1 ⟨rfl,hb⟩
 have X1:=Lib.hid (X0.out.step hb)
 clear hb
 obtain ⟨x0,x1,x2,x3,x4,x5⟩:=X1.out.c6
 cases b1
 case false =>
  have HT:Hid (R=false):=by unfold Hid;rw [HR.out] <;> simp
  go_wp2
  go_ret
  exact ⟨by rw [HT.out];rfl,X1.out.2.1⟩
 go_wp2_with fail
 refine (C2.out _ X1.out.2.1).mono ?_
 rintro e w2 ⟨rfl,rfl⟩
 go_wp2_with fail
 refine (C3.out _ X1.out.2.1).mono ?_
 rintro e w3 ⟨rfl,hb⟩
 have X3:=Lib.hid (X1.out.step hb)
 clear hb x0 x1 x2 x3 x4 x5
 obtain ⟨x0,x1,x2,x3,x4,x5⟩:=X3.out.c6
 cases b3
 case false =>
  have HT:Hid (R=false):=by unfold Hid;rw [HR.out] <;> simp
  go_wp2
  go_ret
  exact ⟨by rw [HT.out];rfl,X3.out.2.1⟩
 have HT:Hid (R=true):=by unfold Hid;rw [HR.out] <;> simp
 go_wp2
 go_ret
 exact ⟨by rw [HT.out];rfl,X3.out.2.1⟩
theorem rfun_16e {N:Nat}{A1:Option Addr}{n1 c1:Nat}{A2:Option Addr}{n2 c2:Nat}{name:ByteArray}{c:Int}{cc:Nat}{nums:List Nat}{text:List Int}{w:World}  {A:Option Addr}{kids:List RTree} (hs:slashB c=false) (h1:(c==168)=false) (h2:(c==9064)=false)
  (HY:Hid (NodR N w A1 n1 c1 A2 n2 c2 name A 1 cc nums text kids))
  : Calls Tryz.prog 105 #[.agg #[.int .i64 16,.slice A1 n1 c1,.slice A2 n2 c2,.string name,.int .i32 c,.slice A 1 cc]] w fun e w'=>e= .returned (.bool (gd (.mk 16 nums text name c kids) 1))/\Below w.heap.size w w':=by
 obtain ⟨R,hR⟩:∃ R,R=gd (.mk 16 nums text name c kids) 1:=⟨_,rfl⟩
 have HR:Hid (R=((onlyB 16 nums text name c)&&false)):=by
  unfold Hid;rw [hR];rw [gd_1_16,pl_n (by decide),decide_eq_true (show (kids.length:Int)=1 by have:=HY.out.hm;omega),hs,decide_eq_false (show ¬ c=168 by simpa using h1),decide_eq_false (show ¬ c=9064 by simpa using h2)];simp
 rw [<- hR]
 clear hR
 obtain ⟨b1,hb1⟩:∃ b:Bool,b=(onlyB 16 nums text name c):=⟨_,rfl⟩
 have C1:Hid (∀ W,Below w.heap.size w W->Calls Tryz.prog 53 #[.agg #[.int .i64 16,.slice A1 n1 c1,.slice A2 n2 c2,.string name,.int .i32 c,.slice A 1 cc]] W fun e w'=>e= .returned (.bool b1)/\Below W.heap.size W w'):=by
  unfold Hid;rw [hb1];intro W _;exact only_walk 16 A1 n1 c1 A2 n2 c2 name c A 1 cc nums text HY.out.hn HY.out.ht W
 rw [<- hb1] at HR
 clear hb1
 obtain ⟨b2,hb2⟩:∃ b:Bool,b=(slashB c):=⟨_,rfl⟩
 have C2:Hid (∀ W,Below w.heap.size w W->Calls Tryz.prog 128 #[.int .i32 c] W fun e w'=>e= .returned (.bool b2)/\W=w'):=by
  unfold Hid;rw [hb2];intro W _;exact rslash_walk c W
 have kb2:b2=false:=by rw [hb2];exact hs
 clear hb2
 subst kb2
 have X0:=Lib.hid (boxedT w [.int .i64 16,.slice A1 n1 c1,.slice A2 n2 c2,.string name,.int .i32 c,.slice A 1 cc] 29)
 clear hs
 clear HY
 go_enter Tryz.func105,Tryz.ntmps105
 go_wp2_with fail
 generalize w.alloc (.cells #[.int .i64 16,.slice A1 n1 c1,.slice A2 n2 c2,.string name,.int .i32 c,.slice A 1 cc] 29)=W at *
 refine (C1.out _ X0.out.2.1).mono ?_
 rintro e w1 ⟨rfl,hb⟩
 have X1:=Lib.hid (X0.out.step hb)
 clear hb
 obtain ⟨x0,x1,x2,x3,x4,x5⟩:=X1.out.c6
 cases b1
 case false =>
  have HT:Hid (R=false):=by unfold Hid;rw [HR.out] <;> simp
  go_wp2
  go_ret
  exact ⟨by rw [HT.out];rfl,X1.out.2.1⟩
 go_wp2_with fail
 refine (C2.out _ X1.out.2.1).mono ?_
 rintro e w2 ⟨rfl,rfl⟩
 have HT:Hid (R=false):=by unfold Hid;rw [HR.out] <;> simp
 go_wp2
 go_ret
 exact ⟨by rw [HT.out];rfl,X1.out.2.1⟩
end Go.Proofs.YtbakjaliponbbaaGreatDoor
