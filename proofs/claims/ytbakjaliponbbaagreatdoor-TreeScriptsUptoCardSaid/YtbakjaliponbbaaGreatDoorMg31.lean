/- The walks of tree.value and tree.function, kind by kind. Printed by .. Conditions: as each theorem says. -/
import Derived.Test.YtbakjaliponbbaaGreatDoorMg04
set_option maxRecDepth 100000
set_option maxHeartbeats 1600000
namespace Go.Proofs.YtbakjaliponbbaaGreatDoor
open Go Go.RowKit Go.Proofs Fl
theorem val_no {at1:Int}{A1:Option Addr}{n1 c1:Nat}{A2:Option Addr}{n2 c2:Nat}{name:ByteArray}{k:Int}{c:Int}{cc:Nat}{nums:List Nat}{text:List Int}{w:World}{A:Option Addr}{m:Nat}{kids:List RTree} (hk:k < 1\/12 < k)
  : Calls Tryz.prog 69 #[.agg #[.int .i64 k,.int .i64 at1,.slice A1 n1 c1,.slice A2 n2 c2,.string name,.int .i32 c,.slice A m cc]] w fun e w'=>e= .returned (.bool (gd (.mk k nums text name c kids) 0))/\Below w.heap.size w w':=by
 have q1:(k==1)=false:=by simp;omega
 have q2:(k==2)=false:=by simp;omega
 have q3:(k==3)=false:=by simp;omega
 have q4:(k==4)=false:=by simp;omega
 have q5:(k==5)=false:=by simp;omega
 have q6:(k==6)=false:=by simp;omega
 have q7:(k==7)=false:=by simp;omega
 have q8:(k==8)=false:=by simp;omega
 have q9:(k==9)=false:=by simp;omega
 have q10:(k==10)=false:=by simp;omega
 have q11:(k==11)=false:=by simp;omega
 have q12:(k==12)=false:=by simp;omega
 obtain ⟨R,hR⟩:∃ R,R=gd (.mk k nums text name c kids) 0:=⟨_,rfl⟩
 have HR:Hid (R=(false)):=by
  unfold Hid;rw [hR];exact gd_0_no hk
 rw [<- hR]
 clear hR
 have X0:=Lib.hid (boxedT w [.int .i64 k,.int .i64 at1,.slice A1 n1 c1,.slice A2 n2 c2,.string name,.int .i32 c,.slice A m cc] 31)
 go_enter Tryz.func69,Tryz.ntmps69
 go_wp2
 go_ret
 exact ⟨by rw [HR.out];rfl,X0.out.2.1⟩
theorem val_1a {N:Nat}{at1:Int}{A1:Option Addr}{n1 c1:Nat}{A2:Option Addr}{n2 c2:Nat}{name:ByteArray}{c:Int}{cc:Nat}{nums:List Nat}{text:List Int}{w:World}{A:Option Addr}{m:Nat}{kids:List RTree} (h0:n1=0)
  (HY:Hid (NodeW N w A1 n1 c1 A2 n2 c2 name A m cc nums text kids))
  : Calls Tryz.prog 69 #[.agg #[.int .i64 1,.int .i64 at1,.slice A1 n1 c1,.slice A2 n2 c2,.string name,.int .i32 c,.slice A m cc]] w fun e w'=>e= .returned (.bool (gd (.mk 1 nums text name c kids) 0))/\Below w.heap.size w w':=by
 obtain ⟨R,hR⟩:∃ R,R=gd (.mk 1 nums text name c kids) 0:=⟨_,rfl⟩
 have HR:Hid (R=(false)):=by
  unfold Hid;rw [hR];rw [gd_0_1,decide_eq_false (by have:=HY.out.hn;omega)];rfl
 rw [<- hR]
 clear hR
 have X0:=Lib.hid (boxedT w [.int .i64 1,.int .i64 at1,.slice A1 n1 c1,.slice A2 n2 c2,.string name,.int .i32 c,.slice A m cc] 31)
 clear HY
 have h1:¬ 0 < n1:=by omega
 clear h0
 go_enter Tryz.func69,Tryz.ntmps69
 go_wp2
 go_ret
 exact ⟨by rw [HR.out];rfl,X0.out.2.1⟩
theorem val_1b {N:Nat}{at1:Int}{A1:Option Addr}{n1 c1:Nat}{A2:Option Addr}{n2 c2:Nat}{name:ByteArray}{c:Int}{cc:Nat}{nums:List Nat}{text:List Int}{w:World}{A:Option Addr}{m:Nat}{kids:List RTree} (h0:0 < n1)
  (HY:Hid (NodeW N w A1 n1 c1 A2 n2 c2 name A m cc nums text kids))
  : Calls Tryz.prog 69 #[.agg #[.int .i64 1,.int .i64 at1,.slice A1 n1 c1,.slice A2 n2 c2,.string name,.int .i32 c,.slice A m cc]] w fun e w'=>e= .returned (.bool (gd (.mk 1 nums text name c kids) 0))/\Below w.heap.size w w':=by
 obtain ⟨R,hR⟩:∃ R,R=gd (.mk 1 nums text name c kids) 0:=⟨_,rfl⟩
 have HR:Hid (R=(plainB 1 nums text name c kids 0 false false&&nums.all isFin)):=by
  unfold Hid;rw [hR];rw [gd_0_1,decide_eq_true (by have:=HY.out.hn;omega)];rfl
 rw [<- hR]
 clear hR
 obtain ⟨b1,hb1⟩:∃ b:Bool,b=(plainB 1 nums text name c kids 0 false false):=⟨_,rfl⟩
 have C1:Hid (∀ W,Below w.heap.size w W->Calls Tryz.prog 110 #[.agg #[.int .i64 1,.int .i64 at1,.slice A1 n1 c1,.slice A2 n2 c2,.string name,.int .i32 c,.slice A m cc],.int .i64 0,.bool false,.bool false] W fun e w'=>e= .returned (.bool b1)/\Below W.heap.size W w'):=by
  unfold Hid;rw [hb1];intro W _;exact plain_walk 1 at1 A1 n1 c1 A2 n2 c2 name c A m cc nums text kids HY.out.hn HY.out.ht HY.out.hm 0 false false W
 rw [<- hb1] at HR
 clear hb1
 obtain ⟨b2,hb2⟩:∃ b:Bool,b=(nums.all isFin):=⟨_,rfl⟩
 have C2:Hid (∀ W,Below w.heap.size w W->Calls Tryz.prog 111 #[.slice A1 n1 c1] W fun e w'=>e= .returned (.bool b2)/\W=w'):=by
  unfold Hid;rw [hb2];intro W hb;exact numbers_walk _ nums W (HY.out.hrn.below hb) HY.out.fn HY.out.fx
 rw [<- hb2] at HR
 clear hb2
 have X0:=Lib.hid (boxedT w [.int .i64 1,.int .i64 at1,.slice A1 n1 c1,.slice A2 n2 c2,.string name,.int .i32 c,.slice A m cc] 31)
 clear HY
 go_enter Tryz.func69,Tryz.ntmps69
 go_wp2_with fail
 generalize w.alloc (.cells #[.int .i64 1,.int .i64 at1,.slice A1 n1 c1,.slice A2 n2 c2,.string name,.int .i32 c,.slice A m cc] 31)=W at *
 refine (C1.out _ X0.out.2.1).mono ?_
 rintro e w1 ⟨rfl,hb⟩
 have X1:=Lib.hid (X0.out.step hb)
 clear hb
 obtain ⟨x0,x1,x2,x3,x4,x5,x6⟩:=X1.out.c7
 cases b1
 case false =>
  have HT:Hid (R=false):=by unfold Hid;rw [HR.out] <;> simp
  go_wp2
  go_ret
  exact ⟨by rw [HT.out];rfl,X1.out.2.1⟩
 go_wp2_with fail
 refine (C2.out _ X1.out.2.1).mono ?_
 rintro e w2 ⟨rfl,rfl⟩
 cases b2
 case false =>
  have HT:Hid (R=false):=by unfold Hid;rw [HR.out] <;> simp
  go_wp2
  go_ret
  exact ⟨by rw [HT.out];rfl,X1.out.2.1⟩
 have HT:Hid (R=true):=by unfold Hid;rw [HR.out] <;> simp
 go_wp2
 go_ret
 exact ⟨by rw [HT.out];rfl,X1.out.2.1⟩
theorem val_2 {N:Nat}{at1:Int}{A1:Option Addr}{n1 c1:Nat}{A2:Option Addr}{n2 c2:Nat}{name:ByteArray}{c:Int}{cc:Nat}{nums:List Nat}{text:List Int}{w:World}{A:Option Addr}{m:Nat}{kids:List RTree}
  (HY:Hid (NodeW N w A1 n1 c1 A2 n2 c2 name A m cc nums text kids))
  : Calls Tryz.prog 69 #[.agg #[.int .i64 2,.int .i64 at1,.slice A1 n1 c1,.slice A2 n2 c2,.string name,.int .i32 c,.slice A m cc]] w fun e w'=>e= .returned (.bool (gd (.mk 2 nums text name c kids) 0))/\Below w.heap.size w w':=by
 obtain ⟨R,hR⟩:∃ R,R=gd (.mk 2 nums text name c kids) 0:=⟨_,rfl⟩
 have HR:Hid (R=(plainB 2 nums text name c kids 0 false false&&!(text.any (fun x=>decide (x=10))))):=by
  unfold Hid;rw [hR];exact gd_0_2
 rw [<- hR]
 clear hR
 obtain ⟨b1,hb1⟩:∃ b:Bool,b=(plainB 2 nums text name c kids 0 false false):=⟨_,rfl⟩
 have C1:Hid (∀ W,Below w.heap.size w W->Calls Tryz.prog 110 #[.agg #[.int .i64 2,.int .i64 at1,.slice A1 n1 c1,.slice A2 n2 c2,.string name,.int .i32 c,.slice A m cc],.int .i64 0,.bool false,.bool false] W fun e w'=>e= .returned (.bool b1)/\Below W.heap.size W w'):=by
  unfold Hid;rw [hb1];intro W _;exact plain_walk 2 at1 A1 n1 c1 A2 n2 c2 name c A m cc nums text kids HY.out.hn HY.out.ht HY.out.hm 0 false false W
 rw [<- hb1] at HR
 clear hb1
 obtain ⟨b2,hb2⟩:∃ b:Bool,b=(text.any (fun x=>decide (x=10))):=⟨_,rfl⟩
 have C2:Hid (∀ W,Below w.heap.size w W->Calls Tryz.prog 112 #[.slice A2 n2 c2,.func (.func 113) #[] #[]] W fun e w'=>e= .returned (.bool b2)/\W=w'):=by
  unfold Hid;rw [hb2];intro W hb;exact contains_walk _ text W (runes_of (HY.out.hrt.below hb)) (by have:=HY.out.ft;omega) 113 (fun x=>decide (x=10)) _ Tryz.func113 (by kernel_rfl) _ rfl nl_walk
 rw [<- hb2] at HR
 clear hb2
 have X0:=Lib.hid (boxedT w [.int .i64 2,.int .i64 at1,.slice A1 n1 c1,.slice A2 n2 c2,.string name,.int .i32 c,.slice A m cc] 31)
 clear HY
 go_enter Tryz.func69,Tryz.ntmps69
 go_wp2_with fail
 generalize w.alloc (.cells #[.int .i64 2,.int .i64 at1,.slice A1 n1 c1,.slice A2 n2 c2,.string name,.int .i32 c,.slice A m cc] 31)=W at *
 refine (C1.out _ X0.out.2.1).mono ?_
 rintro e w1 ⟨rfl,hb⟩
 have X1:=Lib.hid (X0.out.step hb)
 clear hb
 obtain ⟨x0,x1,x2,x3,x4,x5,x6⟩:=X1.out.c7
 cases b1
 case false =>
  have HT:Hid (R=false):=by unfold Hid;rw [HR.out] <;> simp
  go_wp2
  go_ret
  exact ⟨by rw [HT.out];rfl,X1.out.2.1⟩
 go_wp2_with fail
 refine (C2.out _ X1.out.2.1).mono ?_
 rintro e w2 ⟨rfl,rfl⟩
 cases b2
 case true =>
  have HT:Hid (R=false):=by unfold Hid;rw [HR.out] <;> simp
  go_wp2
  go_ret
  exact ⟨by rw [HT.out];rfl,X1.out.2.1⟩
 have HT:Hid (R=true):=by unfold Hid;rw [HR.out] <;> simp
 go_wp2
 go_ret
 exact ⟨by rw [HT.out];rfl,X1.out.2.1⟩
theorem val_3 {N:Nat}{at1:Int}{A1:Option Addr}{n1 c1:Nat}{A2:Option Addr}{n2 c2:Nat}{name:ByteArray}{c:Int}{cc:Nat}{nums:List Nat}{text:List Int}{w:World}{A:Option Addr}{m:Nat}{kids:List RTree}
  (HY:Hid (NodeW N w A1 n1 c1 A2 n2 c2 name A m cc nums text kids))
  : Calls Tryz.prog 69 #[.agg #[.int .i64 3,.int .i64 at1,.slice A1 n1 c1,.slice A2 n2 c2,.string name,.int .i32 c,.slice A m cc]] w fun e w'=>e= .returned (.bool (gd (.mk 3 nums text name c kids) 0))/\Below w.heap.size w w':=by
 obtain ⟨R,hR⟩:∃ R,R=gd (.mk 3 nums text name c kids) 0:=⟨_,rfl⟩
 have HR:Hid (R=(plainB 3 nums text name c kids 0 true false&&goodNB (runesOf name)&&!(upB name))):=by
  unfold Hid;rw [hR];exact gd_0_3
 rw [<- hR]
 clear hR
 obtain ⟨b1,hb1⟩:∃ b:Bool,b=(plainB 3 nums text name c kids 0 true false):=⟨_,rfl⟩
 have C1:Hid (∀ W,Below w.heap.size w W->Calls Tryz.prog 110 #[.agg #[.int .i64 3,.int .i64 at1,.slice A1 n1 c1,.slice A2 n2 c2,.string name,.int .i32 c,.slice A m cc],.int .i64 0,.bool true,.bool false] W fun e w'=>e= .returned (.bool b1)/\Below W.heap.size W w'):=by
  unfold Hid;rw [hb1];intro W _;exact plain_walk 3 at1 A1 n1 c1 A2 n2 c2 name c A m cc nums text kids HY.out.hn HY.out.ht HY.out.hm 0 true false W
 rw [<- hb1] at HR
 clear hb1
 obtain ⟨b2,hb2⟩:∃ b:Bool,b=(goodNB (runesOf name)):=⟨_,rfl⟩
 have C2:Hid (∀ W,Below w.heap.size w W->Calls Tryz.prog 114 #[.string name] W fun e w'=>e= .returned (.bool b2)/\Below W.heap.size W w'):=by
  unfold Hid;rw [hb2];intro W _;exact gname_walk name W HY.out.fs
 rw [<- hb2] at HR
 clear hb2
 obtain ⟨b3,hb3⟩:∃ b:Bool,b=(upB name):=⟨_,rfl⟩
 have C3:Hid (∀ W,Below w.heap.size w W->Calls Tryz.prog 115 #[.string name] W fun e w'=>e= .returned (.bool b3)/\W=w'):=by
  unfold Hid;rw [hb3];intro W _;exact upper_walk name W
 rw [<- hb3] at HR
 clear hb3
 have X0:=Lib.hid (boxedT w [.int .i64 3,.int .i64 at1,.slice A1 n1 c1,.slice A2 n2 c2,.string name,.int .i32 c,.slice A m cc] 31)
 clear HY
 go_enter Tryz.func69,Tryz.ntmps69
 go_wp2_with fail
 generalize w.alloc (.cells #[.int .i64 3,.int .i64 at1,.slice A1 n1 c1,.slice A2 n2 c2,.string name,.int .i32 c,.slice A m cc] 31)=W at *
 refine (C1.out _ X0.out.2.1).mono ?_
 rintro e w1 ⟨rfl,hb⟩
 have X1:=Lib.hid (X0.out.step hb)
 clear hb
 obtain ⟨x0,x1,x2,x3,x4,x5,x6⟩:=X1.out.c7
 cases b1
 case false =>
  have HT:Hid (R=false):=by unfold Hid;rw [HR.out] <;> simp
  go_wp2
  go_ret
  exact ⟨by rw [HT.out];rfl,X1.out.2.1⟩
 go_wp2_with fail
 refine (C2.out _ X1.out.2.1).mono ?_
 rintro e w2 ⟨rfl,hb⟩
 have X2:=Lib.hid (X1.out.step hb)
 clear hb x0 x1 x2 x3 x4 x5 x6
 obtain ⟨x0,x1,x2,x3,x4,x5,x6⟩:=X2.out.c7
 cases b2
 case false =>
  have HT:Hid (R=false):=by unfold Hid;rw [HR.out] <;> simp
  go_wp2
  go_ret
  exact ⟨by rw [HT.out];rfl,X2.out.2.1⟩
 go_wp2_with fail
 refine (C3.out _ X2.out.2.1).mono ?_
 rintro e w3 ⟨rfl,rfl⟩
 cases b3
 case true =>
  have HT:Hid (R=false):=by unfold Hid;rw [HR.out] <;> simp
  go_wp2
  go_ret
  exact ⟨by rw [HT.out];rfl,X2.out.2.1⟩
 have HT:Hid (R=true):=by unfold Hid;rw [HR.out] <;> simp
 go_wp2
 go_ret
 exact ⟨by rw [HT.out];rfl,X2.out.2.1⟩
theorem val_4 {N:Nat}{at1:Int}{A1:Option Addr}{n1 c1:Nat}{A2:Option Addr}{n2 c2:Nat}{name:ByteArray}{c:Int}{cc:Nat}{nums:List Nat}{text:List Int}{w:World}{A:Option Addr}{m:Nat}{kids:List RTree}
  (HY:Hid (NodeW N w A1 n1 c1 A2 n2 c2 name A m cc nums text kids))
  : Calls Tryz.prog 69 #[.agg #[.int .i64 4,.int .i64 at1,.slice A1 n1 c1,.slice A2 n2 c2,.string name,.int .i32 c,.slice A m cc]] w fun e w'=>e= .returned (.bool (gd (.mk 4 nums text name c kids) 0))/\Below w.heap.size w w':=by
 obtain ⟨R,hR⟩:∃ R,R=gd (.mk 4 nums text name c kids) 0:=⟨_,rfl⟩
 have HR:Hid (R=(plainB 4 nums text name c kids 0 false false)):=by
  unfold Hid;rw [hR];exact gd_0_4
 rw [<- hR]
 clear hR
 obtain ⟨b1,hb1⟩:∃ b:Bool,b=(plainB 4 nums text name c kids 0 false false):=⟨_,rfl⟩
 have C1:Hid (∀ W,Below w.heap.size w W->Calls Tryz.prog 110 #[.agg #[.int .i64 4,.int .i64 at1,.slice A1 n1 c1,.slice A2 n2 c2,.string name,.int .i32 c,.slice A m cc],.int .i64 0,.bool false,.bool false] W fun e w'=>e= .returned (.bool b1)/\Below W.heap.size W w'):=by
  unfold Hid;rw [hb1];intro W _;exact plain_walk 4 at1 A1 n1 c1 A2 n2 c2 name c A m cc nums text kids HY.out.hn HY.out.ht HY.out.hm 0 false false W
 rw [<- hb1] at HR
 clear hb1
 have X0:=Lib.hid (boxedT w [.int .i64 4,.int .i64 at1,.slice A1 n1 c1,.slice A2 n2 c2,.string name,.int .i32 c,.slice A m cc] 31)
 clear HY
 go_enter Tryz.func69,Tryz.ntmps69
 go_wp2_with fail
 generalize w.alloc (.cells #[.int .i64 4,.int .i64 at1,.slice A1 n1 c1,.slice A2 n2 c2,.string name,.int .i32 c,.slice A m cc] 31)=W at *
 refine (C1.out _ X0.out.2.1).mono ?_
 rintro e w1 ⟨rfl,hb⟩
 have X1:=Lib.hid (X0.out.step hb)
 clear hb
 obtain ⟨x0,x1,x2,x3,x4,x5,x6⟩:=X1.out.c7
 cases b1
 case false =>
  have HT:Hid (R=false):=by unfold Hid;rw [HR.out] <;> simp
  go_wp2
  go_ret
  exact ⟨by rw [HT.out];rfl,X1.out.2.1⟩
 have HT:Hid (R=true):=by unfold Hid;rw [HR.out] <;> simp
 go_wp2
 go_ret
 exact ⟨by rw [HT.out];rfl,X1.out.2.1⟩
theorem val_5 {N:Nat}{at1:Int}{A1:Option Addr}{n1 c1:Nat}{A2:Option Addr}{n2 c2:Nat}{name:ByteArray}{c:Int}{cc:Nat}{nums:List Nat}{text:List Int}{w:World}{A:Option Addr}{m:Nat}{kids:List RTree}
  (HY:Hid (NodeW N w A1 n1 c1 A2 n2 c2 name A m cc nums text kids))
  : Calls Tryz.prog 69 #[.agg #[.int .i64 5,.int .i64 at1,.slice A1 n1 c1,.slice A2 n2 c2,.string name,.int .i32 c,.slice A m cc]] w fun e w'=>e= .returned (.bool (gd (.mk 5 nums text name c kids) 0))/\Below w.heap.size w w':=by
 obtain ⟨R,hR⟩:∃ R,R=gd (.mk 5 nums text name c kids) 0:=⟨_,rfl⟩
 have HR:Hid (R=(plainB 5 nums text name c kids 0 false false)):=by
  unfold Hid;rw [hR];exact gd_0_5
 rw [<- hR]
 clear hR
 obtain ⟨b1,hb1⟩:∃ b:Bool,b=(plainB 5 nums text name c kids 0 false false):=⟨_,rfl⟩
 have C1:Hid (∀ W,Below w.heap.size w W->Calls Tryz.prog 110 #[.agg #[.int .i64 5,.int .i64 at1,.slice A1 n1 c1,.slice A2 n2 c2,.string name,.int .i32 c,.slice A m cc],.int .i64 0,.bool false,.bool false] W fun e w'=>e= .returned (.bool b1)/\Below W.heap.size W w'):=by
  unfold Hid;rw [hb1];intro W _;exact plain_walk 5 at1 A1 n1 c1 A2 n2 c2 name c A m cc nums text kids HY.out.hn HY.out.ht HY.out.hm 0 false false W
 rw [<- hb1] at HR
 clear hb1
 have X0:=Lib.hid (boxedT w [.int .i64 5,.int .i64 at1,.slice A1 n1 c1,.slice A2 n2 c2,.string name,.int .i32 c,.slice A m cc] 31)
 clear HY
 go_enter Tryz.func69,Tryz.ntmps69
 go_wp2_with fail
 generalize w.alloc (.cells #[.int .i64 5,.int .i64 at1,.slice A1 n1 c1,.slice A2 n2 c2,.string name,.int .i32 c,.slice A m cc] 31)=W at *
 refine (C1.out _ X0.out.2.1).mono ?_
 rintro e w1 ⟨rfl,hb⟩
 have X1:=Lib.hid (X0.out.step hb)
 clear hb
 obtain ⟨x0,x1,x2,x3,x4,x5,x6⟩:=X1.out.c7
 cases b1
 case false =>
  have HT:Hid (R=false):=by unfold Hid;rw [HR.out] <;> simp
  go_wp2
  go_ret
  exact ⟨by rw [HT.out];rfl,X1.out.2.1⟩
 have HT:Hid (R=true):=by unfold Hid;rw [HR.out] <;> simp
 go_wp2
 go_ret
 exact ⟨by rw [HT.out];rfl,X1.out.2.1⟩
theorem val_6 {N:Nat}{at1:Int}{A1:Option Addr}{n1 c1:Nat}{A2:Option Addr}{n2 c2:Nat}{name:ByteArray}{c:Int}{cc:Nat}{nums:List Nat}{text:List Int}{w:World}{A:Option Addr}{m:Nat}{kids:List RTree}
  (HY:Hid (NodeW N w A1 n1 c1 A2 n2 c2 name A m cc nums text kids))
  : Calls Tryz.prog 69 #[.agg #[.int .i64 6,.int .i64 at1,.slice A1 n1 c1,.slice A2 n2 c2,.string name,.int .i32 c,.slice A m cc]] w fun e w'=>e= .returned (.bool (gd (.mk 6 nums text name c kids) 0))/\Below w.heap.size w w':=by
 obtain ⟨R,hR⟩:∃ R,R=gd (.mk 6 nums text name c kids) 0:=⟨_,rfl⟩
 have HR:Hid (R=(plainB 6 nums text name c kids 0 false false)):=by
  unfold Hid;rw [hR];exact gd_0_6
 rw [<- hR]
 clear hR
 obtain ⟨b1,hb1⟩:∃ b:Bool,b=(plainB 6 nums text name c kids 0 false false):=⟨_,rfl⟩
 have C1:Hid (∀ W,Below w.heap.size w W->Calls Tryz.prog 110 #[.agg #[.int .i64 6,.int .i64 at1,.slice A1 n1 c1,.slice A2 n2 c2,.string name,.int .i32 c,.slice A m cc],.int .i64 0,.bool false,.bool false] W fun e w'=>e= .returned (.bool b1)/\Below W.heap.size W w'):=by
  unfold Hid;rw [hb1];intro W _;exact plain_walk 6 at1 A1 n1 c1 A2 n2 c2 name c A m cc nums text kids HY.out.hn HY.out.ht HY.out.hm 0 false false W
 rw [<- hb1] at HR
 clear hb1
 have X0:=Lib.hid (boxedT w [.int .i64 6,.int .i64 at1,.slice A1 n1 c1,.slice A2 n2 c2,.string name,.int .i32 c,.slice A m cc] 31)
 clear HY
 go_enter Tryz.func69,Tryz.ntmps69
 go_wp2_with fail
 generalize w.alloc (.cells #[.int .i64 6,.int .i64 at1,.slice A1 n1 c1,.slice A2 n2 c2,.string name,.int .i32 c,.slice A m cc] 31)=W at *
 refine (C1.out _ X0.out.2.1).mono ?_
 rintro e w1 ⟨rfl,hb⟩
 have X1:=Lib.hid (X0.out.step hb)
 clear hb
 obtain ⟨x0,x1,x2,x3,x4,x5,x6⟩:=X1.out.c7
 cases b1
 case false =>
  have HT:Hid (R=false):=by unfold Hid;rw [HR.out] <;> simp
  go_wp2
  go_ret
  exact ⟨by rw [HT.out];rfl,X1.out.2.1⟩
 have HT:Hid (R=true):=by unfold Hid;rw [HR.out] <;> simp
 go_wp2
 go_ret
 exact ⟨by rw [HT.out];rfl,X1.out.2.1⟩
theorem val_7a {N:Nat}{at1:Int}{A1:Option Addr}{n1 c1:Nat}{A2:Option Addr}{n2 c2:Nat}{name:ByteArray}{c:Int}{cc:Nat}{nums:List Nat}{text:List Int}{w:World}{A:Option Addr}{m:Nat}{kids:List RTree} (h0:m<=1)
  (HY:Hid (NodeW N w A1 n1 c1 A2 n2 c2 name A m cc nums text kids))
  : Calls Tryz.prog 69 #[.agg #[.int .i64 7,.int .i64 at1,.slice A1 n1 c1,.slice A2 n2 c2,.string name,.int .i32 c,.slice A m cc]] w fun e w'=>e= .returned (.bool (gd (.mk 7 nums text name c kids) 0))/\Below w.heap.size w w':=by
 obtain ⟨R,hR⟩:∃ R,R=gd (.mk 7 nums text name c kids) 0:=⟨_,rfl⟩
 have HR:Hid (R=(plainB 7 nums text name c kids (-1) false false&&false)):=by
  unfold Hid;rw [hR];rw [gd_0_7,decide_eq_false (by have:=HY.out.hm;omega)];simp
 rw [<- hR]
 clear hR
 obtain ⟨b1,hb1⟩:∃ b:Bool,b=(plainB 7 nums text name c kids (-1) false false):=⟨_,rfl⟩
 have C1:Hid (∀ W,Below w.heap.size w W->Calls Tryz.prog 110 #[.agg #[.int .i64 7,.int .i64 at1,.slice A1 n1 c1,.slice A2 n2 c2,.string name,.int .i32 c,.slice A m cc],.int .i64 (-1),.bool false,.bool false] W fun e w'=>e= .returned (.bool b1)/\Below W.heap.size W w'):=by
  unfold Hid;rw [hb1];intro W _;exact plain_walk 7 at1 A1 n1 c1 A2 n2 c2 name c A m cc nums text kids HY.out.hn HY.out.ht HY.out.hm (-1) false false W
 rw [<- hb1] at HR
 clear hb1
 have X0:=Lib.hid (boxedT w [.int .i64 7,.int .i64 at1,.slice A1 n1 c1,.slice A2 n2 c2,.string name,.int .i32 c,.slice A m cc] 31)
 clear HY
 go_enter Tryz.func69,Tryz.ntmps69
 go_wp2_with fail
 generalize w.alloc (.cells #[.int .i64 7,.int .i64 at1,.slice A1 n1 c1,.slice A2 n2 c2,.string name,.int .i32 c,.slice A m cc] 31)=W at *
 refine (C1.out _ X0.out.2.1).mono ?_
 rintro e w1 ⟨rfl,hb⟩
 have X1:=Lib.hid (X0.out.step hb)
 clear hb
 obtain ⟨x0,x1,x2,x3,x4,x5,x6⟩:=X1.out.c7
 cases b1
 case false =>
  have HT:Hid (R=false):=by unfold Hid;rw [HR.out] <;> simp
  go_wp2
  go_ret
  exact ⟨by rw [HT.out];rfl,X1.out.2.1⟩
 have HT:Hid (R=false):=by unfold Hid;rw [HR.out] <;> simp
 go_wp2
 go_ret
 exact ⟨by rw [HT.out];rfl,X1.out.2.1⟩
theorem val_7b {N:Nat}{at1:Int}{A1:Option Addr}{n1 c1:Nat}{A2:Option Addr}{n2 c2:Nat}{name:ByteArray}{c:Int}{cc:Nat}{nums:List Nat}{text:List Int}{w:World}{A:Option Addr}{m:Nat}{kids:List RTree} (h0:1 < m)
  (HY:Hid (NodeW N w A1 n1 c1 A2 n2 c2 name A m cc nums text kids))
  (HIV:Hid (Tells 69 (fun t=>gd t 0) (fun t=>sizeR t<=N/\FitG t)))
  : Calls Tryz.prog 69 #[.agg #[.int .i64 7,.int .i64 at1,.slice A1 n1 c1,.slice A2 n2 c2,.string name,.int .i32 c,.slice A m cc]] w fun e w'=>e= .returned (.bool (gd (.mk 7 nums text name c kids) 0))/\Below w.heap.size w w':=by
 obtain ⟨R,hR⟩:∃ R,R=gd (.mk 7 nums text name c kids) 0:=⟨_,rfl⟩
 have HR:Hid (R=(plainB 7 nums text name c kids (-1) false false&&kids.all (fun t=>gd t 0))):=by
  unfold Hid;rw [hR];rw [gd_0_7,decide_eq_true (by have:=HY.out.hm;omega),gds_eq];simp
 rw [<- hR]
 clear hR
 obtain ⟨b1,hb1⟩:∃ b:Bool,b=(plainB 7 nums text name c kids (-1) false false):=⟨_,rfl⟩
 have C1:Hid (∀ W,Below w.heap.size w W->Calls Tryz.prog 110 #[.agg #[.int .i64 7,.int .i64 at1,.slice A1 n1 c1,.slice A2 n2 c2,.string name,.int .i32 c,.slice A m cc],.int .i64 (-1),.bool false,.bool false] W fun e w'=>e= .returned (.bool b1)/\Below W.heap.size W w'):=by
  unfold Hid;rw [hb1];intro W _;exact plain_walk 7 at1 A1 n1 c1 A2 n2 c2 name c A m cc nums text kids HY.out.hn HY.out.ht HY.out.hm (-1) false false W
 rw [<- hb1] at HR
 clear hb1
 obtain ⟨b2,hb2⟩:∃ b:Bool,b=(kids.all (fun t=>gd t 0)):=⟨_,rfl⟩
 have C2:Hid (∀ W,Below w.heap.size w W->Calls Tryz.prog 116 #[.slice A m cc,.func (.func 69) #[] #[]] W fun e w'=>e= .returned (.bool b2)/\Below W.heap.size W w'):=by
  unfold Hid;rw [hb2];intro W hb;exact every_walk kids A m cc W 69 (fun t=>gd t 0) _ _ Tryz.func69 (by kernel_rfl) _ rfl HY.out.hm HY.out.fm (HY.out.hkid.below hb) (HY.out.ok) HIV.out
 rw [<- hb2] at HR
 clear hb2
 have X0:=Lib.hid (boxedT w [.int .i64 7,.int .i64 at1,.slice A1 n1 c1,.slice A2 n2 c2,.string name,.int .i32 c,.slice A m cc] 31)
 clear HY HIV
 go_enter Tryz.func69,Tryz.ntmps69
 go_wp2_with fail
 generalize w.alloc (.cells #[.int .i64 7,.int .i64 at1,.slice A1 n1 c1,.slice A2 n2 c2,.string name,.int .i32 c,.slice A m cc] 31)=W at *
 refine (C1.out _ X0.out.2.1).mono ?_
 rintro e w1 ⟨rfl,hb⟩
 have X1:=Lib.hid (X0.out.step hb)
 clear hb
 obtain ⟨x0,x1,x2,x3,x4,x5,x6⟩:=X1.out.c7
 cases b1
 case false =>
  have HT:Hid (R=false):=by unfold Hid;rw [HR.out] <;> simp
  go_wp2
  go_ret
  exact ⟨by rw [HT.out];rfl,X1.out.2.1⟩
 go_wp2_with fail
 refine (C2.out _ X1.out.2.1).mono ?_
 rintro e w2 ⟨rfl,hb⟩
 have X2:=Lib.hid (X1.out.step hb)
 clear hb x0 x1 x2 x3 x4 x5 x6
 obtain ⟨x0,x1,x2,x3,x4,x5,x6⟩:=X2.out.c7
 cases b2
 case false =>
  have HT:Hid (R=false):=by unfold Hid;rw [HR.out] <;> simp
  go_wp2
  go_ret
  exact ⟨by rw [HT.out];rfl,X2.out.2.1⟩
 have HT:Hid (R=true):=by unfold Hid;rw [HR.out] <;> simp
 go_wp2
 go_ret
 exact ⟨by rw [HT.out];rfl,X2.out.2.1⟩
theorem val_8a {N:Nat}{at1:Int}{A1:Option Addr}{n1 c1:Nat}{A2:Option Addr}{n2 c2:Nat}{name:ByteArray}{c:Int}{cc:Nat}{nums:List Nat}{text:List Int}{w:World}{A:Option Addr}{m:Nat}{kids:List RTree} (h0:m<=1)
  (HY:Hid (NodeW N w A1 n1 c1 A2 n2 c2 name A m cc nums text kids))
  : Calls Tryz.prog 69 #[.agg #[.int .i64 8,.int .i64 at1,.slice A1 n1 c1,.slice A2 n2 c2,.string name,.int .i32 c,.slice A m cc]] w fun e w'=>e= .returned (.bool (gd (.mk 8 nums text name c kids) 0))/\Below w.heap.size w w':=by
 obtain ⟨R,hR⟩:∃ R,R=gd (.mk 8 nums text name c kids) 0:=⟨_,rfl⟩
 have HR:Hid (R=(plainB 8 nums text name c kids (-1) false false&&false)):=by
  unfold Hid;rw [hR];rw [gd_0_8,decide_eq_false (by have:=HY.out.hm;omega)];simp
 rw [<- hR]
 clear hR
 obtain ⟨b1,hb1⟩:∃ b:Bool,b=(plainB 8 nums text name c kids (-1) false false):=⟨_,rfl⟩
 have C1:Hid (∀ W,Below w.heap.size w W->Calls Tryz.prog 110 #[.agg #[.int .i64 8,.int .i64 at1,.slice A1 n1 c1,.slice A2 n2 c2,.string name,.int .i32 c,.slice A m cc],.int .i64 (-1),.bool false,.bool false] W fun e w'=>e= .returned (.bool b1)/\Below W.heap.size W w'):=by
  unfold Hid;rw [hb1];intro W _;exact plain_walk 8 at1 A1 n1 c1 A2 n2 c2 name c A m cc nums text kids HY.out.hn HY.out.ht HY.out.hm (-1) false false W
 rw [<- hb1] at HR
 clear hb1
 have X0:=Lib.hid (boxedT w [.int .i64 8,.int .i64 at1,.slice A1 n1 c1,.slice A2 n2 c2,.string name,.int .i32 c,.slice A m cc] 31)
 clear HY
 go_enter Tryz.func69,Tryz.ntmps69
 go_wp2_with fail
 generalize w.alloc (.cells #[.int .i64 8,.int .i64 at1,.slice A1 n1 c1,.slice A2 n2 c2,.string name,.int .i32 c,.slice A m cc] 31)=W at *
 refine (C1.out _ X0.out.2.1).mono ?_
 rintro e w1 ⟨rfl,hb⟩
 have X1:=Lib.hid (X0.out.step hb)
 clear hb
 obtain ⟨x0,x1,x2,x3,x4,x5,x6⟩:=X1.out.c7
 cases b1
 case false =>
  have HT:Hid (R=false):=by unfold Hid;rw [HR.out] <;> simp
  go_wp2
  go_ret
  exact ⟨by rw [HT.out];rfl,X1.out.2.1⟩
 have HT:Hid (R=false):=by unfold Hid;rw [HR.out] <;> simp
 go_wp2
 go_ret
 exact ⟨by rw [HT.out];rfl,X1.out.2.1⟩
theorem val_8b {N:Nat}{at1:Int}{A1:Option Addr}{n1 c1:Nat}{A2:Option Addr}{n2 c2:Nat}{name:ByteArray}{c:Int}{cc:Nat}{nums:List Nat}{text:List Int}{w:World}{m:Nat}{b o:Nat}{u00 u01 u02 u03 u04 u05 u06:Value}{t0:RTree}{t1:RTree}{ts:List RTree} (h0:1 < m) (hcp:m<=cc)
  (HY:Hid (NodeW N w A1 n1 c1 A2 n2 c2 name (some ⟨b,o,none⟩) m cc nums text (t0::t1::ts)))
  (HR0:Hid (TN w t0 [u00,u01,u02,u03,u04,u05,u06])) (HC0:Hid (KidC w b o u00 u01 u02 u03 u04 u05 u06)) (OK0:Hid (sizeR t0<=N/\FitG t0))
  (HIV:Hid (Tells 69 (fun t=>gd t 0) (fun t=>sizeR t<=N/\FitG t)))
  (HIX:Hid (Tells 117 (fun t=>gd t 2) (fun t=>sizeR t<=N/\FitG t)))
  : Calls Tryz.prog 69 #[.agg #[.int .i64 8,.int .i64 at1,.slice A1 n1 c1,.slice A2 n2 c2,.string name,.int .i32 c,.slice (some ⟨b,o,none⟩) m cc]] w fun e w'=>e= .returned (.bool (gd (.mk 8 nums text name c (t0::t1::ts)) 0))/\Below w.heap.size w w':=by
 obtain ⟨R,hR⟩:∃ R,R=gd (.mk 8 nums text name c (t0::t1::ts)) 0:=⟨_,rfl⟩
 have HR:Hid (R=(plainB 8 nums text name c (t0::t1::ts) (-1) false false&&gd t0 0&&(t1::ts).all (fun t=>gd t 2))):=by
  unfold Hid;rw [hR];rw [gd_0_8,decide_eq_true (by have:=HY.out.hm;omega),gdh,gds_eq];simp [Bool.and_assoc]
 rw [<- hR]
 clear hR
 obtain ⟨b1,hb1⟩:∃ b:Bool,b=(plainB 8 nums text name c (t0::t1::ts) (-1) false false):=⟨_,rfl⟩
 have C1:Hid (∀ W,Below w.heap.size w W->Calls Tryz.prog 110 #[.agg #[.int .i64 8,.int .i64 at1,.slice A1 n1 c1,.slice A2 n2 c2,.string name,.int .i32 c,.slice (some ⟨b,o,none⟩) m cc],.int .i64 (-1),.bool false,.bool false] W fun e w'=>e= .returned (.bool b1)/\Below W.heap.size W w'):=by
  unfold Hid;rw [hb1];intro W _;exact plain_walk 8 at1 A1 n1 c1 A2 n2 c2 name c (some ⟨b,o,none⟩) m cc nums text (t0::t1::ts) HY.out.hn HY.out.ht HY.out.hm (-1) false false W
 rw [<- hb1] at HR
 clear hb1
 obtain ⟨b2,hb2⟩:∃ b:Bool,b=(gd t0 0):=⟨_,rfl⟩
 have C2:Hid (∀ W,Below w.heap.size w W->Calls Tryz.prog 69 #[.agg #[u00,u01,u02,u03,u04,u05,u06]] W fun e w'=>e= .returned (.bool b2)/\Below W.heap.size W w'):=by
  unfold Hid;rw [hb2];intro W hb;exact HIV.out t0 _ _ _ _ _ _ _ W OK0.out (TN.below hb _ _ HR0.out)
 rw [<- hb2] at HR
 clear hb2
 obtain ⟨b3,hb3⟩:∃ b:Bool,b=((t1::ts).all (fun t=>gd t 2)):=⟨_,rfl⟩
 have C3:Hid (∀ W,Below w.heap.size w W->Calls Tryz.prog 116 #[.slice (some ⟨b,o+7,none⟩) (m - 1) (cc - 1),.func (.func 117) #[] #[]] W fun e w'=>e= .returned (.bool b3)/\Below W.heap.size W w'):=by
  unfold Hid;rw [hb3];intro W hb;exact every_walk (t1::ts) (some ⟨b,o+7,none⟩) (m - 1) (cc - 1) W 117 (fun t=>gd t 2) _ _ Tryz.func117 (by kernel_rfl) _ rfl (by rw [HY.out.hm];rfl) (by have:=HY.out.fm;omega) (HY.out.hkid.tail.below hb) (fun i hi=>by have:=HY.out.ok (i+1) (by simpa using hi);simpa using this) HIX.out
 rw [<- hb3] at HR
 clear hb3
 have X0:=Lib.hid (boxedT w [.int .i64 8,.int .i64 at1,.slice A1 n1 c1,.slice A2 n2 c2,.string name,.int .i32 c,.slice (some ⟨b,o,none⟩) m cc] 31)
 clear HY HIV HIX HR0 OK0
 go_enter Tryz.func69,Tryz.ntmps69
 go_wp2_with fail
 generalize w.alloc (.cells #[.int .i64 8,.int .i64 at1,.slice A1 n1 c1,.slice A2 n2 c2,.string name,.int .i32 c,.slice (some ⟨b,o,none⟩) m cc] 31)=W at *
 refine (C1.out _ X0.out.2.1).mono ?_
 rintro e w1 ⟨rfl,hb⟩
 have X1:=Lib.hid (X0.out.step hb)
 clear hb
 obtain ⟨x0,x1,x2,x3,x4,x5,x6⟩:=X1.out.c7
 cases b1
 case false =>
  have HT:Hid (R=false):=by unfold Hid;rw [HR.out] <;> simp
  go_wp2
  go_ret
  exact ⟨by rw [HT.out];rfl,X1.out.2.1⟩
 obtain ⟨y0,y1,y2,y3,y4,y5,y6⟩:=HC0.out _ X1.out.2.1
 go_wp2_with fail
 refine (C2.out _ X1.out.2.1).mono ?_
 rintro e w2 ⟨rfl,hb⟩
 have X2:=Lib.hid (X1.out.step hb)
 clear hb x0 x1 x2 x3 x4 x5 x6 y0 y1 y2 y3 y4 y5 y6
 obtain ⟨x0,x1,x2,x3,x4,x5,x6⟩:=X2.out.c7
 cases b2
 case false =>
  have HT:Hid (R=false):=by unfold Hid;rw [HR.out] <;> simp
  go_wp2
  go_ret
  exact ⟨by rw [HT.out];rfl,X2.out.2.1⟩
 go_wp2_with fail
 refine (C3.out _ X2.out.2.1).mono ?_
 rintro e w3 ⟨rfl,hb⟩
 have X3:=Lib.hid (X2.out.step hb)
 clear hb x0 x1 x2 x3 x4 x5 x6
 obtain ⟨x0,x1,x2,x3,x4,x5,x6⟩:=X3.out.c7
 cases b3
 case false =>
  have HT:Hid (R=false):=by unfold Hid;rw [HR.out] <;> simp
  go_wp2
  go_ret
  exact ⟨by rw [HT.out];rfl,X3.out.2.1⟩
 have HT:Hid (R=true):=by unfold Hid;rw [HR.out] <;> simp
 go_wp2
 go_ret
 exact ⟨by rw [HT.out];rfl,X3.out.2.1⟩
theorem val_9a {N:Nat}{at1:Int}{A1:Option Addr}{n1 c1:Nat}{A2:Option Addr}{n2 c2:Nat}{name:ByteArray}{c:Int}{cc:Nat}{nums:List Nat}{text:List Int}{w:World}{A:Option Addr}{m:Nat}{kids:List RTree} (h0:(m:Int)≠2)
  (HY:Hid (NodeW N w A1 n1 c1 A2 n2 c2 name A m cc nums text kids))
  : Calls Tryz.prog 69 #[.agg #[.int .i64 9,.int .i64 at1,.slice A1 n1 c1,.slice A2 n2 c2,.string name,.int .i32 c,.slice A m cc]] w fun e w'=>e= .returned (.bool (gd (.mk 9 nums text name c kids) 0))/\Below w.heap.size w w':=by
 obtain ⟨R,hR⟩:∃ R,R=gd (.mk 9 nums text name c kids) 0:=⟨_,rfl⟩
 have HR:Hid (R=(plainB 9 nums text name c kids 2 false false)):=by
  unfold Hid;rw [hR];rw [gd_0_9,plainB_len (n:=2) (by omega) (by rw [<- HY.out.hm];exact h0)];simp
 rw [<- hR]
 clear hR
 obtain ⟨b1,hb1⟩:∃ b:Bool,b=(plainB 9 nums text name c kids 2 false false):=⟨_,rfl⟩
 have C1:Hid (∀ W,Below w.heap.size w W->Calls Tryz.prog 110 #[.agg #[.int .i64 9,.int .i64 at1,.slice A1 n1 c1,.slice A2 n2 c2,.string name,.int .i32 c,.slice A m cc],.int .i64 2,.bool false,.bool false] W fun e w'=>e= .returned (.bool b1)/\Below W.heap.size W w'):=by
  unfold Hid;rw [hb1];intro W _;exact plain_walk 9 at1 A1 n1 c1 A2 n2 c2 name c A m cc nums text kids HY.out.hn HY.out.ht HY.out.hm 2 false false W
 rw [<- hb1] at HR
 have kb1:b1=false:=by rw [hb1];exact plainB_len (by omega) (by rw [<- HY.out.hm];exact h0)
 clear hb1
 subst kb1
 have X0:=Lib.hid (boxedT w [.int .i64 9,.int .i64 at1,.slice A1 n1 c1,.slice A2 n2 c2,.string name,.int .i32 c,.slice A m cc] 31)
 clear HY
 go_enter Tryz.func69,Tryz.ntmps69
 go_wp2_with fail
 generalize w.alloc (.cells #[.int .i64 9,.int .i64 at1,.slice A1 n1 c1,.slice A2 n2 c2,.string name,.int .i32 c,.slice A m cc] 31)=W at *
 refine (C1.out _ X0.out.2.1).mono ?_
 rintro e w1 ⟨rfl,hb⟩
 have X1:=Lib.hid (X0.out.step hb)
 clear hb
 obtain ⟨x0,x1,x2,x3,x4,x5,x6⟩:=X1.out.c7
 have HT:Hid (R=false):=by unfold Hid;rw [HR.out] <;> simp
 go_wp2
 go_ret
 exact ⟨by rw [HT.out];rfl,X1.out.2.1⟩
theorem val_9b {N:Nat}{at1:Int}{A1:Option Addr}{n1 c1:Nat}{A2:Option Addr}{n2 c2:Nat}{name:ByteArray}{c:Int}{cc:Nat}{nums:List Nat}{text:List Int}{w:World}{b o:Nat}{u00 u01 u02 u03 u04 u05 u06:Value}{u10 u11 u12 u13 u14 u15 u16:Value}{t0 t1:RTree}
  (HY:Hid (NodeW N w A1 n1 c1 A2 n2 c2 name (some ⟨b,o,none⟩) 2 cc nums text [t0,t1]))
  (HR0:Hid (TN w t0 [u00,u01,u02,u03,u04,u05,u06])) (HC0:Hid (KidC w b o u00 u01 u02 u03 u04 u05 u06)) (OK0:Hid (sizeR t0<=N/\FitG t0))
  (HR1:Hid (TN w t1 [u10,u11,u12,u13,u14,u15,u16])) (HC1:Hid (KidC w b (o+7) u10 u11 u12 u13 u14 u15 u16)) (OK1:Hid (sizeR t1<=N/\FitG t1))
  (HIV:Hid (Tells 69 (fun t=>gd t 0) (fun t=>sizeR t<=N/\FitG t)))
  (HIF:Hid (Tells 70 (fun t=>gd t 1) (fun t=>sizeR t<=N/\FitG t)))
  : Calls Tryz.prog 69 #[.agg #[.int .i64 9,.int .i64 at1,.slice A1 n1 c1,.slice A2 n2 c2,.string name,.int .i32 c,.slice (some ⟨b,o,none⟩) 2 cc]] w fun e w'=>e= .returned (.bool (gd (.mk 9 nums text name c [t0,t1]) 0))/\Below w.heap.size w w':=by
 obtain ⟨R,hR⟩:∃ R,R=gd (.mk 9 nums text name c [t0,t1]) 0:=⟨_,rfl⟩
 have HR:Hid (R=(plainB 9 nums text name c [t0,t1] 2 false false&&gd t0 1&&gd t1 0)):=by
  unfold Hid;rw [hR];rw [gd_0_9];simp [gdh,gds,Bool.and_assoc]
 rw [<- hR]
 clear hR
 obtain ⟨b1,hb1⟩:∃ b:Bool,b=(plainB 9 nums text name c [t0,t1] 2 false false):=⟨_,rfl⟩
 have C1:Hid (∀ W,Below w.heap.size w W->Calls Tryz.prog 110 #[.agg #[.int .i64 9,.int .i64 at1,.slice A1 n1 c1,.slice A2 n2 c2,.string name,.int .i32 c,.slice (some ⟨b,o,none⟩) 2 cc],.int .i64 2,.bool false,.bool false] W fun e w'=>e= .returned (.bool b1)/\Below W.heap.size W w'):=by
  unfold Hid;rw [hb1];intro W _;exact plain_walk 9 at1 A1 n1 c1 A2 n2 c2 name c (some ⟨b,o,none⟩) 2 cc nums text [t0,t1] HY.out.hn HY.out.ht HY.out.hm 2 false false W
 rw [<- hb1] at HR
 clear hb1
 obtain ⟨b2,hb2⟩:∃ b:Bool,b=(gd t0 1):=⟨_,rfl⟩
 have C2:Hid (∀ W,Below w.heap.size w W->Calls Tryz.prog 70 #[.agg #[u00,u01,u02,u03,u04,u05,u06]] W fun e w'=>e= .returned (.bool b2)/\Below W.heap.size W w'):=by
  unfold Hid;rw [hb2];intro W hb;exact HIF.out t0 _ _ _ _ _ _ _ W OK0.out (TN.below hb _ _ HR0.out)
 rw [<- hb2] at HR
 clear hb2
 obtain ⟨b3,hb3⟩:∃ b:Bool,b=(gd t1 0):=⟨_,rfl⟩
 have C3:Hid (∀ W,Below w.heap.size w W->Calls Tryz.prog 69 #[.agg #[u10,u11,u12,u13,u14,u15,u16]] W fun e w'=>e= .returned (.bool b3)/\Below W.heap.size W w'):=by
  unfold Hid;rw [hb3];intro W hb;exact HIV.out t1 _ _ _ _ _ _ _ W OK1.out (TN.below hb _ _ HR1.out)
 rw [<- hb3] at HR
 clear hb3
 have X0:=Lib.hid (boxedT w [.int .i64 9,.int .i64 at1,.slice A1 n1 c1,.slice A2 n2 c2,.string name,.int .i32 c,.slice (some ⟨b,o,none⟩) 2 cc] 31)
 clear HY HIV HIF HR0 OK0 HR1 OK1
 go_enter Tryz.func69,Tryz.ntmps69
 go_wp2_with fail
 generalize w.alloc (.cells #[.int .i64 9,.int .i64 at1,.slice A1 n1 c1,.slice A2 n2 c2,.string name,.int .i32 c,.slice (some ⟨b,o,none⟩) 2 cc] 31)=W at *
 refine (C1.out _ X0.out.2.1).mono ?_
 rintro e w1 ⟨rfl,hb⟩
 have X1:=Lib.hid (X0.out.step hb)
 clear hb
 obtain ⟨x0,x1,x2,x3,x4,x5,x6⟩:=X1.out.c7
 cases b1
 case false =>
  have HT:Hid (R=false):=by unfold Hid;rw [HR.out] <;> simp
  go_wp2
  go_ret
  exact ⟨by rw [HT.out];rfl,X1.out.2.1⟩
 obtain ⟨y0,y1,y2,y3,y4,y5,y6⟩:=HC0.out _ X1.out.2.1
 go_wp2_with fail
 refine (C2.out _ X1.out.2.1).mono ?_
 rintro e w2 ⟨rfl,hb⟩
 have X2:=Lib.hid (X1.out.step hb)
 clear hb x0 x1 x2 x3 x4 x5 x6 y0 y1 y2 y3 y4 y5 y6
 obtain ⟨x0,x1,x2,x3,x4,x5,x6⟩:=X2.out.c7
 cases b2
 case false =>
  have HT:Hid (R=false):=by unfold Hid;rw [HR.out] <;> simp
  go_wp2
  go_ret
  exact ⟨by rw [HT.out];rfl,X2.out.2.1⟩
 obtain ⟨y0,y1,y2,y3,y4,y5,y6⟩:=HC1.out _ X2.out.2.1
 go_wp2_with fail
 refine (C3.out _ X2.out.2.1).mono ?_
 rintro e w3 ⟨rfl,hb⟩
 have X3:=Lib.hid (X2.out.step hb)
 clear hb x0 x1 x2 x3 x4 x5 x6 y0 y1 y2 y3 y4 y5 y6
 obtain ⟨x0,x1,x2,x3,x4,x5,x6⟩:=X3.out.c7
 cases b3
 case false =>
  have HT:Hid (R=false):=by unfold Hid;rw [HR.out] <;> simp
  go_wp2
  go_ret
  exact ⟨by rw [HT.out];rfl,X3.out.2.1⟩
 have HT:Hid (R=true):=by unfold Hid;rw [HR.out] <;> simp
 go_wp2
 go_ret
 exact ⟨by rw [HT.out];rfl,X3.out.2.1⟩
theorem val_10a {N:Nat}{at1:Int}{A1:Option Addr}{n1 c1:Nat}{A2:Option Addr}{n2 c2:Nat}{name:ByteArray}{c:Int}{cc:Nat}{nums:List Nat}{text:List Int}{w:World}{A:Option Addr}{m:Nat}{kids:List RTree} (h0:(m:Int)≠3)
  (HY:Hid (NodeW N w A1 n1 c1 A2 n2 c2 name A m cc nums text kids))
  : Calls Tryz.prog 69 #[.agg #[.int .i64 10,.int .i64 at1,.slice A1 n1 c1,.slice A2 n2 c2,.string name,.int .i32 c,.slice A m cc]] w fun e w'=>e= .returned (.bool (gd (.mk 10 nums text name c kids) 0))/\Below w.heap.size w w':=by
 obtain ⟨R,hR⟩:∃ R,R=gd (.mk 10 nums text name c kids) 0:=⟨_,rfl⟩
 have HR:Hid (R=(plainB 10 nums text name c kids 3 false false)):=by
  unfold Hid;rw [hR];rw [gd_0_10,plainB_len (n:=3) (by omega) (by rw [<- HY.out.hm];exact h0)];simp
 rw [<- hR]
 clear hR
 obtain ⟨b1,hb1⟩:∃ b:Bool,b=(plainB 10 nums text name c kids 3 false false):=⟨_,rfl⟩
 have C1:Hid (∀ W,Below w.heap.size w W->Calls Tryz.prog 110 #[.agg #[.int .i64 10,.int .i64 at1,.slice A1 n1 c1,.slice A2 n2 c2,.string name,.int .i32 c,.slice A m cc],.int .i64 3,.bool false,.bool false] W fun e w'=>e= .returned (.bool b1)/\Below W.heap.size W w'):=by
  unfold Hid;rw [hb1];intro W _;exact plain_walk 10 at1 A1 n1 c1 A2 n2 c2 name c A m cc nums text kids HY.out.hn HY.out.ht HY.out.hm 3 false false W
 rw [<- hb1] at HR
 have kb1:b1=false:=by rw [hb1];exact plainB_len (by omega) (by rw [<- HY.out.hm];exact h0)
 clear hb1
 subst kb1
 have X0:=Lib.hid (boxedT w [.int .i64 10,.int .i64 at1,.slice A1 n1 c1,.slice A2 n2 c2,.string name,.int .i32 c,.slice A m cc] 31)
 clear HY
 go_enter Tryz.func69,Tryz.ntmps69
 go_wp2_with fail
 generalize w.alloc (.cells #[.int .i64 10,.int .i64 at1,.slice A1 n1 c1,.slice A2 n2 c2,.string name,.int .i32 c,.slice A m cc] 31)=W at *
 refine (C1.out _ X0.out.2.1).mono ?_
 rintro e w1 ⟨rfl,hb⟩
 have X1:=Lib.hid (X0.out.step hb)
 clear hb
 obtain ⟨x0,x1,x2,x3,x4,x5,x6⟩:=X1.out.c7
 have HT:Hid (R=false):=by unfold Hid;rw [HR.out] <;> simp
 go_wp2
 go_ret
 exact ⟨by rw [HT.out];rfl,X1.out.2.1⟩
theorem val_10b {N:Nat}{at1:Int}{A1:Option Addr}{n1 c1:Nat}{A2:Option Addr}{n2 c2:Nat}{name:ByteArray}{c:Int}{cc:Nat}{nums:List Nat}{text:List Int}{w:World}{b o:Nat}{u00 u01 u02 u03 u04 u05 u06:Value}{u10 u11 u12 u13 u14 u15 u16:Value}{u20 u21 u22 u23 u24 u25 u26:Value}{t0 t1 t2:RTree}
  (HY:Hid (NodeW N w A1 n1 c1 A2 n2 c2 name (some ⟨b,o,none⟩) 3 cc nums text [t0,t1,t2]))
  (HR0:Hid (TN w t0 [u00,u01,u02,u03,u04,u05,u06])) (HC0:Hid (KidC w b o u00 u01 u02 u03 u04 u05 u06)) (OK0:Hid (sizeR t0<=N/\FitG t0))
  (HR1:Hid (TN w t1 [u10,u11,u12,u13,u14,u15,u16])) (HC1:Hid (KidC w b (o+7) u10 u11 u12 u13 u14 u15 u16)) (OK1:Hid (sizeR t1<=N/\FitG t1))
  (HR2:Hid (TN w t2 [u20,u21,u22,u23,u24,u25,u26])) (HC2:Hid (KidC w b (o+14) u20 u21 u22 u23 u24 u25 u26)) (OK2:Hid (sizeR t2<=N/\FitG t2))
  (HIV:Hid (Tells 69 (fun t=>gd t 0) (fun t=>sizeR t<=N/\FitG t)))
  (HIF:Hid (Tells 70 (fun t=>gd t 1) (fun t=>sizeR t<=N/\FitG t)))
  : Calls Tryz.prog 69 #[.agg #[.int .i64 10,.int .i64 at1,.slice A1 n1 c1,.slice A2 n2 c2,.string name,.int .i32 c,.slice (some ⟨b,o,none⟩) 3 cc]] w fun e w'=>e= .returned (.bool (gd (.mk 10 nums text name c [t0,t1,t2]) 0))/\Below w.heap.size w w':=by
 obtain ⟨R,hR⟩:∃ R,R=gd (.mk 10 nums text name c [t0,t1,t2]) 0:=⟨_,rfl⟩
 have HR:Hid (R=(plainB 10 nums text name c [t0,t1,t2] 3 false false&&gd t0 1&&gd t1 0&&gd t2 0)):=by
  unfold Hid;rw [hR];rw [gd_0_10];simp [gdh,gds,Bool.and_assoc]
 rw [<- hR]
 clear hR
 obtain ⟨b1,hb1⟩:∃ b:Bool,b=(plainB 10 nums text name c [t0,t1,t2] 3 false false):=⟨_,rfl⟩
 have C1:Hid (∀ W,Below w.heap.size w W->Calls Tryz.prog 110 #[.agg #[.int .i64 10,.int .i64 at1,.slice A1 n1 c1,.slice A2 n2 c2,.string name,.int .i32 c,.slice (some ⟨b,o,none⟩) 3 cc],.int .i64 3,.bool false,.bool false] W fun e w'=>e= .returned (.bool b1)/\Below W.heap.size W w'):=by
  unfold Hid;rw [hb1];intro W _;exact plain_walk 10 at1 A1 n1 c1 A2 n2 c2 name c (some ⟨b,o,none⟩) 3 cc nums text [t0,t1,t2] HY.out.hn HY.out.ht HY.out.hm 3 false false W
 rw [<- hb1] at HR
 clear hb1
 obtain ⟨b2,hb2⟩:∃ b:Bool,b=(gd t0 1):=⟨_,rfl⟩
 have C2:Hid (∀ W,Below w.heap.size w W->Calls Tryz.prog 70 #[.agg #[u00,u01,u02,u03,u04,u05,u06]] W fun e w'=>e= .returned (.bool b2)/\Below W.heap.size W w'):=by
  unfold Hid;rw [hb2];intro W hb;exact HIF.out t0 _ _ _ _ _ _ _ W OK0.out (TN.below hb _ _ HR0.out)
 rw [<- hb2] at HR
 clear hb2
 obtain ⟨b3,hb3⟩:∃ b:Bool,b=(gd t1 0):=⟨_,rfl⟩
 have C3:Hid (∀ W,Below w.heap.size w W->Calls Tryz.prog 69 #[.agg #[u10,u11,u12,u13,u14,u15,u16]] W fun e w'=>e= .returned (.bool b3)/\Below W.heap.size W w'):=by
  unfold Hid;rw [hb3];intro W hb;exact HIV.out t1 _ _ _ _ _ _ _ W OK1.out (TN.below hb _ _ HR1.out)
 rw [<- hb3] at HR
 clear hb3
 obtain ⟨b4,hb4⟩:∃ b:Bool,b=(gd t2 0):=⟨_,rfl⟩
 have C4:Hid (∀ W,Below w.heap.size w W->Calls Tryz.prog 69 #[.agg #[u20,u21,u22,u23,u24,u25,u26]] W fun e w'=>e= .returned (.bool b4)/\Below W.heap.size W w'):=by
  unfold Hid;rw [hb4];intro W hb;exact HIV.out t2 _ _ _ _ _ _ _ W OK2.out (TN.below hb _ _ HR2.out)
 rw [<- hb4] at HR
 clear hb4
 have X0:=Lib.hid (boxedT w [.int .i64 10,.int .i64 at1,.slice A1 n1 c1,.slice A2 n2 c2,.string name,.int .i32 c,.slice (some ⟨b,o,none⟩) 3 cc] 31)
 clear HY HIV HIF HR0 OK0 HR1 OK1 HR2 OK2
 go_enter Tryz.func69,Tryz.ntmps69
 go_wp2_with fail
 generalize w.alloc (.cells #[.int .i64 10,.int .i64 at1,.slice A1 n1 c1,.slice A2 n2 c2,.string name,.int .i32 c,.slice (some ⟨b,o,none⟩) 3 cc] 31)=W at *
 refine (C1.out _ X0.out.2.1).mono ?_
 rintro e w1 ⟨rfl,hb⟩
 have X1:=Lib.hid (X0.out.step hb)
 clear hb
 obtain ⟨x0,x1,x2,x3,x4,x5,x6⟩:=X1.out.c7
 cases b1
 case false =>
  have HT:Hid (R=false):=by unfold Hid;rw [HR.out] <;> simp
  go_wp2
  go_ret
  exact ⟨by rw [HT.out];rfl,X1.out.2.1⟩
 obtain ⟨y0,y1,y2,y3,y4,y5,y6⟩:=HC0.out _ X1.out.2.1
 go_wp2_with fail
 refine (C2.out _ X1.out.2.1).mono ?_
 rintro e w2 ⟨rfl,hb⟩
 have X2:=Lib.hid (X1.out.step hb)
 clear hb x0 x1 x2 x3 x4 x5 x6 y0 y1 y2 y3 y4 y5 y6
 obtain ⟨x0,x1,x2,x3,x4,x5,x6⟩:=X2.out.c7
 cases b2
 case false =>
  have HT:Hid (R=false):=by unfold Hid;rw [HR.out] <;> simp
  go_wp2
  go_ret
  exact ⟨by rw [HT.out];rfl,X2.out.2.1⟩
 obtain ⟨y0,y1,y2,y3,y4,y5,y6⟩:=HC1.out _ X2.out.2.1
 go_wp2_with fail
 refine (C3.out _ X2.out.2.1).mono ?_
 rintro e w3 ⟨rfl,hb⟩
 have X3:=Lib.hid (X2.out.step hb)
 clear hb x0 x1 x2 x3 x4 x5 x6 y0 y1 y2 y3 y4 y5 y6
 obtain ⟨x0,x1,x2,x3,x4,x5,x6⟩:=X3.out.c7
 cases b3
 case false =>
  have HT:Hid (R=false):=by unfold Hid;rw [HR.out] <;> simp
  go_wp2
  go_ret
  exact ⟨by rw [HT.out];rfl,X3.out.2.1⟩
 obtain ⟨y0,y1,y2,y3,y4,y5,y6⟩:=HC2.out _ X3.out.2.1
 go_wp2_with fail
 refine (C4.out _ X3.out.2.1).mono ?_
 rintro e w4 ⟨rfl,hb⟩
 have X4:=Lib.hid (X3.out.step hb)
 clear hb x0 x1 x2 x3 x4 x5 x6 y0 y1 y2 y3 y4 y5 y6
 obtain ⟨x0,x1,x2,x3,x4,x5,x6⟩:=X4.out.c7
 cases b4
 case false =>
  have HT:Hid (R=false):=by unfold Hid;rw [HR.out] <;> simp
  go_wp2
  go_ret
  exact ⟨by rw [HT.out];rfl,X4.out.2.1⟩
 have HT:Hid (R=true):=by unfold Hid;rw [HR.out] <;> simp
 go_wp2
 go_ret
 exact ⟨by rw [HT.out];rfl,X4.out.2.1⟩
theorem val_11a {N:Nat}{at1:Int}{A1:Option Addr}{n1 c1:Nat}{A2:Option Addr}{n2 c2:Nat}{name:ByteArray}{c:Int}{cc:Nat}{nums:List Nat}{text:List Int}{w:World}{A:Option Addr}{m:Nat}{kids:List RTree} (h0:(m:Int)≠1)
  (HY:Hid (NodeW N w A1 n1 c1 A2 n2 c2 name A m cc nums text kids))
  : Calls Tryz.prog 69 #[.agg #[.int .i64 11,.int .i64 at1,.slice A1 n1 c1,.slice A2 n2 c2,.string name,.int .i32 c,.slice A m cc]] w fun e w'=>e= .returned (.bool (gd (.mk 11 nums text name c kids) 0))/\Below w.heap.size w w':=by
 obtain ⟨R,hR⟩:∃ R,R=gd (.mk 11 nums text name c kids) 0:=⟨_,rfl⟩
 have HR:Hid (R=(plainB 11 nums text name c kids 1 true false)):=by
  unfold Hid;rw [hR];rw [gd_0_11,plainB_len (n:=1) (by omega) (by rw [<- HY.out.hm];exact h0)];simp
 rw [<- hR]
 clear hR
 obtain ⟨b1,hb1⟩:∃ b:Bool,b=(plainB 11 nums text name c kids 1 true false):=⟨_,rfl⟩
 have C1:Hid (∀ W,Below w.heap.size w W->Calls Tryz.prog 110 #[.agg #[.int .i64 11,.int .i64 at1,.slice A1 n1 c1,.slice A2 n2 c2,.string name,.int .i32 c,.slice A m cc],.int .i64 1,.bool true,.bool false] W fun e w'=>e= .returned (.bool b1)/\Below W.heap.size W w'):=by
  unfold Hid;rw [hb1];intro W _;exact plain_walk 11 at1 A1 n1 c1 A2 n2 c2 name c A m cc nums text kids HY.out.hn HY.out.ht HY.out.hm 1 true false W
 rw [<- hb1] at HR
 have kb1:b1=false:=by rw [hb1];exact plainB_len (by omega) (by rw [<- HY.out.hm];exact h0)
 clear hb1
 subst kb1
 have X0:=Lib.hid (boxedT w [.int .i64 11,.int .i64 at1,.slice A1 n1 c1,.slice A2 n2 c2,.string name,.int .i32 c,.slice A m cc] 31)
 clear HY
 go_enter Tryz.func69,Tryz.ntmps69
 go_wp2_with fail
 generalize w.alloc (.cells #[.int .i64 11,.int .i64 at1,.slice A1 n1 c1,.slice A2 n2 c2,.string name,.int .i32 c,.slice A m cc] 31)=W at *
 refine (C1.out _ X0.out.2.1).mono ?_
 rintro e w1 ⟨rfl,hb⟩
 have X1:=Lib.hid (X0.out.step hb)
 clear hb
 obtain ⟨x0,x1,x2,x3,x4,x5,x6⟩:=X1.out.c7
 have HT:Hid (R=false):=by unfold Hid;rw [HR.out] <;> simp
 go_wp2
 go_ret
 exact ⟨by rw [HT.out];rfl,X1.out.2.1⟩
theorem val_11b {N:Nat}{at1:Int}{A1:Option Addr}{n1 c1:Nat}{A2:Option Addr}{n2 c2:Nat}{name:ByteArray}{c:Int}{cc:Nat}{nums:List Nat}{text:List Int}{w:World}{b o:Nat}{u00 u01 u02 u03 u04 u05 u06:Value}{t0:RTree}
  (HY:Hid (NodeW N w A1 n1 c1 A2 n2 c2 name (some ⟨b,o,none⟩) 1 cc nums text [t0]))
  (HR0:Hid (TN w t0 [u00,u01,u02,u03,u04,u05,u06])) (HC0:Hid (KidC w b o u00 u01 u02 u03 u04 u05 u06)) (OK0:Hid (sizeR t0<=N/\FitG t0))
  (HIV:Hid (Tells 69 (fun t=>gd t 0) (fun t=>sizeR t<=N/\FitG t)))
  : Calls Tryz.prog 69 #[.agg #[.int .i64 11,.int .i64 at1,.slice A1 n1 c1,.slice A2 n2 c2,.string name,.int .i32 c,.slice (some ⟨b,o,none⟩) 1 cc]] w fun e w'=>e= .returned (.bool (gd (.mk 11 nums text name c [t0]) 0))/\Below w.heap.size w w':=by
 obtain ⟨R,hR⟩:∃ R,R=gd (.mk 11 nums text name c [t0]) 0:=⟨_,rfl⟩
 have HR:Hid (R=(plainB 11 nums text name c [t0] 1 true false&&goodNB (runesOf name)&&!(upB name)&&gd t0 0)):=by
  unfold Hid;rw [hR];rw [gd_0_11];simp [gds,Bool.and_assoc]
 rw [<- hR]
 clear hR
 obtain ⟨b1,hb1⟩:∃ b:Bool,b=(plainB 11 nums text name c [t0] 1 true false):=⟨_,rfl⟩
 have C1:Hid (∀ W,Below w.heap.size w W->Calls Tryz.prog 110 #[.agg #[.int .i64 11,.int .i64 at1,.slice A1 n1 c1,.slice A2 n2 c2,.string name,.int .i32 c,.slice (some ⟨b,o,none⟩) 1 cc],.int .i64 1,.bool true,.bool false] W fun e w'=>e= .returned (.bool b1)/\Below W.heap.size W w'):=by
  unfold Hid;rw [hb1];intro W _;exact plain_walk 11 at1 A1 n1 c1 A2 n2 c2 name c (some ⟨b,o,none⟩) 1 cc nums text [t0] HY.out.hn HY.out.ht HY.out.hm 1 true false W
 rw [<- hb1] at HR
 clear hb1
 obtain ⟨b2,hb2⟩:∃ b:Bool,b=(goodNB (runesOf name)):=⟨_,rfl⟩
 have C2:Hid (∀ W,Below w.heap.size w W->Calls Tryz.prog 114 #[.string name] W fun e w'=>e= .returned (.bool b2)/\Below W.heap.size W w'):=by
  unfold Hid;rw [hb2];intro W _;exact gname_walk name W HY.out.fs
 rw [<- hb2] at HR
 clear hb2
 obtain ⟨b3,hb3⟩:∃ b:Bool,b=(upB name):=⟨_,rfl⟩
 have C3:Hid (∀ W,Below w.heap.size w W->Calls Tryz.prog 115 #[.string name] W fun e w'=>e= .returned (.bool b3)/\W=w'):=by
  unfold Hid;rw [hb3];intro W _;exact upper_walk name W
 rw [<- hb3] at HR
 clear hb3
 obtain ⟨b4,hb4⟩:∃ b:Bool,b=(gd t0 0):=⟨_,rfl⟩
 have C4:Hid (∀ W,Below w.heap.size w W->Calls Tryz.prog 69 #[.agg #[u00,u01,u02,u03,u04,u05,u06]] W fun e w'=>e= .returned (.bool b4)/\Below W.heap.size W w'):=by
  unfold Hid;rw [hb4];intro W hb;exact HIV.out t0 _ _ _ _ _ _ _ W OK0.out (TN.below hb _ _ HR0.out)
 rw [<- hb4] at HR
 clear hb4
 have X0:=Lib.hid (boxedT w [.int .i64 11,.int .i64 at1,.slice A1 n1 c1,.slice A2 n2 c2,.string name,.int .i32 c,.slice (some ⟨b,o,none⟩) 1 cc] 31)
 clear HY HIV HR0 OK0
 go_enter Tryz.func69,Tryz.ntmps69
 go_wp2_with fail
 generalize w.alloc (.cells #[.int .i64 11,.int .i64 at1,.slice A1 n1 c1,.slice A2 n2 c2,.string name,.int .i32 c,.slice (some ⟨b,o,none⟩) 1 cc] 31)=W at *
 refine (C1.out _ X0.out.2.1).mono ?_
 rintro e w1 ⟨rfl,hb⟩
 have X1:=Lib.hid (X0.out.step hb)
 clear hb
 obtain ⟨x0,x1,x2,x3,x4,x5,x6⟩:=X1.out.c7
 cases b1
 case false =>
  have HT:Hid (R=false):=by unfold Hid;rw [HR.out] <;> simp
  go_wp2
  go_ret
  exact ⟨by rw [HT.out];rfl,X1.out.2.1⟩
 go_wp2_with fail
 refine (C2.out _ X1.out.2.1).mono ?_
 rintro e w2 ⟨rfl,hb⟩
 have X2:=Lib.hid (X1.out.step hb)
 clear hb x0 x1 x2 x3 x4 x5 x6
 obtain ⟨x0,x1,x2,x3,x4,x5,x6⟩:=X2.out.c7
 cases b2
 case false =>
  have HT:Hid (R=false):=by unfold Hid;rw [HR.out] <;> simp
  go_wp2
  go_ret
  exact ⟨by rw [HT.out];rfl,X2.out.2.1⟩
 go_wp2_with fail
 refine (C3.out _ X2.out.2.1).mono ?_
 rintro e w3 ⟨rfl,rfl⟩
 cases b3
 case true =>
  have HT:Hid (R=false):=by unfold Hid;rw [HR.out] <;> simp
  go_wp2
  go_ret
  exact ⟨by rw [HT.out];rfl,X2.out.2.1⟩
 obtain ⟨y0,y1,y2,y3,y4,y5,y6⟩:=HC0.out _ X2.out.2.1
 go_wp2_with fail
 refine (C4.out _ X2.out.2.1).mono ?_
 rintro e w4 ⟨rfl,hb⟩
 have X4:=Lib.hid (X2.out.step hb)
 clear hb x0 x1 x2 x3 x4 x5 x6 y0 y1 y2 y3 y4 y5 y6
 obtain ⟨x0,x1,x2,x3,x4,x5,x6⟩:=X4.out.c7
 cases b4
 case false =>
  have HT:Hid (R=false):=by unfold Hid;rw [HR.out] <;> simp
  go_wp2
  go_ret
  exact ⟨by rw [HT.out];rfl,X4.out.2.1⟩
 have HT:Hid (R=true):=by unfold Hid;rw [HR.out] <;> simp
 go_wp2
 go_ret
 exact ⟨by rw [HT.out];rfl,X4.out.2.1⟩
theorem fun_no {at1:Int}{A1:Option Addr}{n1 c1:Nat}{A2:Option Addr}{n2 c2:Nat}{name:ByteArray}{k:Int}{c:Int}{cc:Nat}{nums:List Nat}{text:List Int}{w:World}{A:Option Addr}{m:Nat}{kids:List RTree} (hk:k < 13\/18 < k)
  : Calls Tryz.prog 70 #[.agg #[.int .i64 k,.int .i64 at1,.slice A1 n1 c1,.slice A2 n2 c2,.string name,.int .i32 c,.slice A m cc]] w fun e w'=>e= .returned (.bool (gd (.mk k nums text name c kids) 1))/\Below w.heap.size w w':=by
 have q13:(k==13)=false:=by simp;omega
 have q14:(k==14)=false:=by simp;omega
 have q15:(k==15)=false:=by simp;omega
 have q16:(k==16)=false:=by simp;omega
 have q17:(k==17)=false:=by simp;omega
 have q18:(k==18)=false:=by simp;omega
 obtain ⟨R,hR⟩:∃ R,R=gd (.mk k nums text name c kids) 1:=⟨_,rfl⟩
 have HR:Hid (R=(false)):=by
  unfold Hid;rw [hR];exact gd_1_no hk
 rw [<- hR]
 clear hR
 have X0:=Lib.hid (boxedT w [.int .i64 k,.int .i64 at1,.slice A1 n1 c1,.slice A2 n2 c2,.string name,.int .i32 c,.slice A m cc] 31)
 go_enter Tryz.func70,Tryz.ntmps70
 go_wp2
 go_ret
 exact ⟨by rw [HR.out];rfl,X0.out.2.1⟩
theorem fun_14 {N:Nat}{at1:Int}{A1:Option Addr}{n1 c1:Nat}{A2:Option Addr}{n2 c2:Nat}{name:ByteArray}{c:Int}{cc:Nat}{nums:List Nat}{text:List Int}{w:World}{A:Option Addr}{m:Nat}{kids:List RTree}
  (HY:Hid (NodeW N w A1 n1 c1 A2 n2 c2 name A m cc nums text kids))
  : Calls Tryz.prog 70 #[.agg #[.int .i64 14,.int .i64 at1,.slice A1 n1 c1,.slice A2 n2 c2,.string name,.int .i32 c,.slice A m cc]] w fun e w'=>e= .returned (.bool (gd (.mk 14 nums text name c kids) 1))/\Below w.heap.size w w':=by
 obtain ⟨R,hR⟩:∃ R,R=gd (.mk 14 nums text name c kids) 1:=⟨_,rfl⟩
 have HR:Hid (R=(plainB 14 nums text name c kids 0 true false&&goodNB (runesOf name)&&upB name)):=by
  unfold Hid;rw [hR];exact gd_1_14
 rw [<- hR]
 clear hR
 obtain ⟨b1,hb1⟩:∃ b:Bool,b=(plainB 14 nums text name c kids 0 true false):=⟨_,rfl⟩
 have C1:Hid (∀ W,Below w.heap.size w W->Calls Tryz.prog 110 #[.agg #[.int .i64 14,.int .i64 at1,.slice A1 n1 c1,.slice A2 n2 c2,.string name,.int .i32 c,.slice A m cc],.int .i64 0,.bool true,.bool false] W fun e w'=>e= .returned (.bool b1)/\Below W.heap.size W w'):=by
  unfold Hid;rw [hb1];intro W _;exact plain_walk 14 at1 A1 n1 c1 A2 n2 c2 name c A m cc nums text kids HY.out.hn HY.out.ht HY.out.hm 0 true false W
 rw [<- hb1] at HR
 clear hb1
 obtain ⟨b2,hb2⟩:∃ b:Bool,b=(goodNB (runesOf name)):=⟨_,rfl⟩
 have C2:Hid (∀ W,Below w.heap.size w W->Calls Tryz.prog 114 #[.string name] W fun e w'=>e= .returned (.bool b2)/\Below W.heap.size W w'):=by
  unfold Hid;rw [hb2];intro W _;exact gname_walk name W HY.out.fs
 rw [<- hb2] at HR
 clear hb2
 obtain ⟨b3,hb3⟩:∃ b:Bool,b=(upB name):=⟨_,rfl⟩
 have C3:Hid (∀ W,Below w.heap.size w W->Calls Tryz.prog 115 #[.string name] W fun e w'=>e= .returned (.bool b3)/\W=w'):=by
  unfold Hid;rw [hb3];intro W _;exact upper_walk name W
 rw [<- hb3] at HR
 clear hb3
 have X0:=Lib.hid (boxedT w [.int .i64 14,.int .i64 at1,.slice A1 n1 c1,.slice A2 n2 c2,.string name,.int .i32 c,.slice A m cc] 31)
 clear HY
 go_enter Tryz.func70,Tryz.ntmps70
 go_wp2_with fail
 generalize w.alloc (.cells #[.int .i64 14,.int .i64 at1,.slice A1 n1 c1,.slice A2 n2 c2,.string name,.int .i32 c,.slice A m cc] 31)=W at *
 refine (C1.out _ X0.out.2.1).mono ?_
 rintro e w1 ⟨rfl,hb⟩
 have X1:=Lib.hid (X0.out.step hb)
 clear hb
 obtain ⟨x0,x1,x2,x3,x4,x5,x6⟩:=X1.out.c7
 cases b1
 case false =>
  have HT:Hid (R=false):=by unfold Hid;rw [HR.out] <;> simp
  go_wp2
  go_ret
  exact ⟨by rw [HT.out];rfl,X1.out.2.1⟩
 go_wp2_with fail
 refine (C2.out _ X1.out.2.1).mono ?_
 rintro e w2 ⟨rfl,hb⟩
 have X2:=Lib.hid (X1.out.step hb)
 clear hb x0 x1 x2 x3 x4 x5 x6
 obtain ⟨x0,x1,x2,x3,x4,x5,x6⟩:=X2.out.c7
 cases b2
 case false =>
  have HT:Hid (R=false):=by unfold Hid;rw [HR.out] <;> simp
  go_wp2
  go_ret
  exact ⟨by rw [HT.out];rfl,X2.out.2.1⟩
 go_wp2_with fail
 refine (C3.out _ X2.out.2.1).mono ?_
 rintro e w3 ⟨rfl,rfl⟩
 cases b3
 case false =>
  have HT:Hid (R=false):=by unfold Hid;rw [HR.out] <;> simp
  go_wp2
  go_ret
  exact ⟨by rw [HT.out];rfl,X2.out.2.1⟩
 have HT:Hid (R=true):=by unfold Hid;rw [HR.out] <;> simp
 go_wp2
 go_ret
 exact ⟨by rw [HT.out];rfl,X2.out.2.1⟩
theorem fun_15a {N:Nat}{at1:Int}{A1:Option Addr}{n1 c1:Nat}{A2:Option Addr}{n2 c2:Nat}{name:ByteArray}{c:Int}{cc:Nat}{nums:List Nat}{text:List Int}{w:World}{A:Option Addr}{kids:List RTree}
  (HY:Hid (NodeW N w A1 n1 c1 A2 n2 c2 name A 0 cc nums text kids))
  : Calls Tryz.prog 70 #[.agg #[.int .i64 15,.int .i64 at1,.slice A1 n1 c1,.slice A2 n2 c2,.string name,.int .i32 c,.slice A 0 cc]] w fun e w'=>e= .returned (.bool (gd (.mk 15 nums text name c kids) 1))/\Below w.heap.size w w':=by
 obtain ⟨R,hR⟩:∃ R,R=gd (.mk 15 nums text name c kids) 1:=⟨_,rfl⟩
 have HR:Hid (R=(plainB 15 nums text name c kids (-1) false false&&false)):=by
  unfold Hid;rw [hR];rw [gd_1_15,decide_eq_false (by have:=HY.out.hm;omega)];simp
 rw [<- hR]
 clear hR
 obtain ⟨b1,hb1⟩:∃ b:Bool,b=(plainB 15 nums text name c kids (-1) false false):=⟨_,rfl⟩
 have C1:Hid (∀ W,Below w.heap.size w W->Calls Tryz.prog 110 #[.agg #[.int .i64 15,.int .i64 at1,.slice A1 n1 c1,.slice A2 n2 c2,.string name,.int .i32 c,.slice A 0 cc],.int .i64 (-1),.bool false,.bool false] W fun e w'=>e= .returned (.bool b1)/\Below W.heap.size W w'):=by
  unfold Hid;rw [hb1];intro W _;exact plain_walk 15 at1 A1 n1 c1 A2 n2 c2 name c A 0 cc nums text kids HY.out.hn HY.out.ht HY.out.hm (-1) false false W
 rw [<- hb1] at HR
 clear hb1
 have X0:=Lib.hid (boxedT w [.int .i64 15,.int .i64 at1,.slice A1 n1 c1,.slice A2 n2 c2,.string name,.int .i32 c,.slice A 0 cc] 31)
 clear HY
 go_enter Tryz.func70,Tryz.ntmps70
 go_wp2_with fail
 generalize w.alloc (.cells #[.int .i64 15,.int .i64 at1,.slice A1 n1 c1,.slice A2 n2 c2,.string name,.int .i32 c,.slice A 0 cc] 31)=W at *
 refine (C1.out _ X0.out.2.1).mono ?_
 rintro e w1 ⟨rfl,hb⟩
 have X1:=Lib.hid (X0.out.step hb)
 clear hb
 obtain ⟨x0,x1,x2,x3,x4,x5,x6⟩:=X1.out.c7
 cases b1
 case false =>
  have HT:Hid (R=false):=by unfold Hid;rw [HR.out] <;> simp
  go_wp2
  go_ret
  exact ⟨by rw [HT.out];rfl,X1.out.2.1⟩
 have HT:Hid (R=false):=by unfold Hid;rw [HR.out] <;> simp
 go_wp2
 go_ret
 exact ⟨by rw [HT.out];rfl,X1.out.2.1⟩
theorem fun_15b {N:Nat}{at1:Int}{A1:Option Addr}{n1 c1:Nat}{A2:Option Addr}{n2 c2:Nat}{name:ByteArray}{c:Int}{cc:Nat}{nums:List Nat}{text:List Int}{w:World}{A:Option Addr}{m:Nat}{kids:List RTree} (h0:0 < m)
  (HY:Hid (NodeW N w A1 n1 c1 A2 n2 c2 name A m cc nums text kids))
  (HIL:Hid (Tells 120 (fun t=>gd t 3) (fun t=>sizeR t<=N/\FitG t)))
  : Calls Tryz.prog 70 #[.agg #[.int .i64 15,.int .i64 at1,.slice A1 n1 c1,.slice A2 n2 c2,.string name,.int .i32 c,.slice A m cc]] w fun e w'=>e= .returned (.bool (gd (.mk 15 nums text name c kids) 1))/\Below w.heap.size w w':=by
 obtain ⟨R,hR⟩:∃ R,R=gd (.mk 15 nums text name c kids) 1:=⟨_,rfl⟩
 have HR:Hid (R=(plainB 15 nums text name c kids (-1) false false&&kids.all (fun t=>gd t 3))):=by
  unfold Hid;rw [hR];rw [gd_1_15,decide_eq_true (by have:=HY.out.hm;omega),gds_eq];simp
 rw [<- hR]
 clear hR
 obtain ⟨b1,hb1⟩:∃ b:Bool,b=(plainB 15 nums text name c kids (-1) false false):=⟨_,rfl⟩
 have C1:Hid (∀ W,Below w.heap.size w W->Calls Tryz.prog 110 #[.agg #[.int .i64 15,.int .i64 at1,.slice A1 n1 c1,.slice A2 n2 c2,.string name,.int .i32 c,.slice A m cc],.int .i64 (-1),.bool false,.bool false] W fun e w'=>e= .returned (.bool b1)/\Below W.heap.size W w'):=by
  unfold Hid;rw [hb1];intro W _;exact plain_walk 15 at1 A1 n1 c1 A2 n2 c2 name c A m cc nums text kids HY.out.hn HY.out.ht HY.out.hm (-1) false false W
 rw [<- hb1] at HR
 clear hb1
 obtain ⟨b2,hb2⟩:∃ b:Bool,b=(kids.all (fun t=>gd t 3)):=⟨_,rfl⟩
 have C2:Hid (∀ W,Below w.heap.size w W->Calls Tryz.prog 116 #[.slice A m cc,.func (.func 120) #[] #[]] W fun e w'=>e= .returned (.bool b2)/\Below W.heap.size W w'):=by
  unfold Hid;rw [hb2];intro W hb;exact every_walk kids A m cc W 120 (fun t=>gd t 3) _ _ Tryz.func120 (by kernel_rfl) _ rfl HY.out.hm HY.out.fm (HY.out.hkid.below hb) (HY.out.ok) HIL.out
 rw [<- hb2] at HR
 clear hb2
 have X0:=Lib.hid (boxedT w [.int .i64 15,.int .i64 at1,.slice A1 n1 c1,.slice A2 n2 c2,.string name,.int .i32 c,.slice A m cc] 31)
 clear HY HIL
 go_enter Tryz.func70,Tryz.ntmps70
 go_wp2_with fail
 generalize w.alloc (.cells #[.int .i64 15,.int .i64 at1,.slice A1 n1 c1,.slice A2 n2 c2,.string name,.int .i32 c,.slice A m cc] 31)=W at *
 refine (C1.out _ X0.out.2.1).mono ?_
 rintro e w1 ⟨rfl,hb⟩
 have X1:=Lib.hid (X0.out.step hb)
 clear hb
 obtain ⟨x0,x1,x2,x3,x4,x5,x6⟩:=X1.out.c7
 cases b1
 case false =>
  have HT:Hid (R=false):=by unfold Hid;rw [HR.out] <;> simp
  go_wp2
  go_ret
  exact ⟨by rw [HT.out];rfl,X1.out.2.1⟩
 go_wp2_with fail
 refine (C2.out _ X1.out.2.1).mono ?_
 rintro e w2 ⟨rfl,hb⟩
 have X2:=Lib.hid (X1.out.step hb)
 clear hb x0 x1 x2 x3 x4 x5 x6
 obtain ⟨x0,x1,x2,x3,x4,x5,x6⟩:=X2.out.c7
 cases b2
 case false =>
  have HT:Hid (R=false):=by unfold Hid;rw [HR.out] <;> simp
  go_wp2
  go_ret
  exact ⟨by rw [HT.out];rfl,X2.out.2.1⟩
 have HT:Hid (R=true):=by unfold Hid;rw [HR.out] <;> simp
 go_wp2
 go_ret
 exact ⟨by rw [HT.out];rfl,X2.out.2.1⟩
theorem fun_17a {N:Nat}{at1:Int}{A1:Option Addr}{n1 c1:Nat}{A2:Option Addr}{n2 c2:Nat}{name:ByteArray}{c:Int}{cc:Nat}{nums:List Nat}{text:List Int}{w:World}{A:Option Addr}{m:Nat}{kids:List RTree} (h0:(m:Int)≠2)
  (HY:Hid (NodeW N w A1 n1 c1 A2 n2 c2 name A m cc nums text kids))
  : Calls Tryz.prog 70 #[.agg #[.int .i64 17,.int .i64 at1,.slice A1 n1 c1,.slice A2 n2 c2,.string name,.int .i32 c,.slice A m cc]] w fun e w'=>e= .returned (.bool (gd (.mk 17 nums text name c kids) 1))/\Below w.heap.size w w':=by
 obtain ⟨R,hR⟩:∃ R,R=gd (.mk 17 nums text name c kids) 1:=⟨_,rfl⟩
 have HR:Hid (R=(plainB 17 nums text name c kids 2 false false)):=by
  unfold Hid;rw [hR];rw [gd_1_17,plainB_len (n:=2) (by omega) (by rw [<- HY.out.hm];exact h0)];simp
 rw [<- hR]
 clear hR
 obtain ⟨b1,hb1⟩:∃ b:Bool,b=(plainB 17 nums text name c kids 2 false false):=⟨_,rfl⟩
 have C1:Hid (∀ W,Below w.heap.size w W->Calls Tryz.prog 110 #[.agg #[.int .i64 17,.int .i64 at1,.slice A1 n1 c1,.slice A2 n2 c2,.string name,.int .i32 c,.slice A m cc],.int .i64 2,.bool false,.bool false] W fun e w'=>e= .returned (.bool b1)/\Below W.heap.size W w'):=by
  unfold Hid;rw [hb1];intro W _;exact plain_walk 17 at1 A1 n1 c1 A2 n2 c2 name c A m cc nums text kids HY.out.hn HY.out.ht HY.out.hm 2 false false W
 rw [<- hb1] at HR
 have kb1:b1=false:=by rw [hb1];exact plainB_len (by omega) (by rw [<- HY.out.hm];exact h0)
 clear hb1
 subst kb1
 have X0:=Lib.hid (boxedT w [.int .i64 17,.int .i64 at1,.slice A1 n1 c1,.slice A2 n2 c2,.string name,.int .i32 c,.slice A m cc] 31)
 clear HY
 go_enter Tryz.func70,Tryz.ntmps70
 go_wp2_with fail
 generalize w.alloc (.cells #[.int .i64 17,.int .i64 at1,.slice A1 n1 c1,.slice A2 n2 c2,.string name,.int .i32 c,.slice A m cc] 31)=W at *
 refine (C1.out _ X0.out.2.1).mono ?_
 rintro e w1 ⟨rfl,hb⟩
 have X1:=Lib.hid (X0.out.step hb)
 clear hb
 obtain ⟨x0,x1,x2,x3,x4,x5,x6⟩:=X1.out.c7
 have HT:Hid (R=false):=by unfold Hid;rw [HR.out] <;> simp
 go_wp2
 go_ret
 exact ⟨by rw [HT.out];rfl,X1.out.2.1⟩
theorem fun_17b {N:Nat}{at1:Int}{A1:Option Addr}{n1 c1:Nat}{A2:Option Addr}{n2 c2:Nat}{name:ByteArray}{c:Int}{cc:Nat}{nums:List Nat}{text:List Int}{w:World}{b o:Nat}{u00 u01 u02 u03 u04 u05 u06:Value}{u10 u11 u12 u13 u14 u15 u16:Value}{t0 t1:RTree}
  (HY:Hid (NodeW N w A1 n1 c1 A2 n2 c2 name (some ⟨b,o,none⟩) 2 cc nums text [t0,t1]))
  (HR0:Hid (TN w t0 [u00,u01,u02,u03,u04,u05,u06])) (HC0:Hid (KidC w b o u00 u01 u02 u03 u04 u05 u06)) (OK0:Hid (sizeR t0<=N/\FitG t0))
  (HR1:Hid (TN w t1 [u10,u11,u12,u13,u14,u15,u16])) (HC1:Hid (KidC w b (o+7) u10 u11 u12 u13 u14 u15 u16)) (OK1:Hid (sizeR t1<=N/\FitG t1))
  (HIF:Hid (Tells 70 (fun t=>gd t 1) (fun t=>sizeR t<=N/\FitG t)))
  : Calls Tryz.prog 70 #[.agg #[.int .i64 17,.int .i64 at1,.slice A1 n1 c1,.slice A2 n2 c2,.string name,.int .i32 c,.slice (some ⟨b,o,none⟩) 2 cc]] w fun e w'=>e= .returned (.bool (gd (.mk 17 nums text name c [t0,t1]) 1))/\Below w.heap.size w w':=by
 obtain ⟨R,hR⟩:∃ R,R=gd (.mk 17 nums text name c [t0,t1]) 1:=⟨_,rfl⟩
 have HR:Hid (R=(plainB 17 nums text name c [t0,t1] 2 false false&&gd t0 1&&gd t1 1)):=by
  unfold Hid;rw [hR];rw [gd_1_17];simp [gds,Bool.and_assoc]
 rw [<- hR]
 clear hR
 obtain ⟨b1,hb1⟩:∃ b:Bool,b=(plainB 17 nums text name c [t0,t1] 2 false false):=⟨_,rfl⟩
 have C1:Hid (∀ W,Below w.heap.size w W->Calls Tryz.prog 110 #[.agg #[.int .i64 17,.int .i64 at1,.slice A1 n1 c1,.slice A2 n2 c2,.string name,.int .i32 c,.slice (some ⟨b,o,none⟩) 2 cc],.int .i64 2,.bool false,.bool false] W fun e w'=>e= .returned (.bool b1)/\Below W.heap.size W w'):=by
  unfold Hid;rw [hb1];intro W _;exact plain_walk 17 at1 A1 n1 c1 A2 n2 c2 name c (some ⟨b,o,none⟩) 2 cc nums text [t0,t1] HY.out.hn HY.out.ht HY.out.hm 2 false false W
 rw [<- hb1] at HR
 clear hb1
 obtain ⟨b2,hb2⟩:∃ b:Bool,b=(gd t0 1):=⟨_,rfl⟩
 have C2:Hid (∀ W,Below w.heap.size w W->Calls Tryz.prog 70 #[.agg #[u00,u01,u02,u03,u04,u05,u06]] W fun e w'=>e= .returned (.bool b2)/\Below W.heap.size W w'):=by
  unfold Hid;rw [hb2];intro W hb;exact HIF.out t0 _ _ _ _ _ _ _ W OK0.out (TN.below hb _ _ HR0.out)
 rw [<- hb2] at HR
 clear hb2
 obtain ⟨b3,hb3⟩:∃ b:Bool,b=(gd t1 1):=⟨_,rfl⟩
 have C3:Hid (∀ W,Below w.heap.size w W->Calls Tryz.prog 70 #[.agg #[u10,u11,u12,u13,u14,u15,u16]] W fun e w'=>e= .returned (.bool b3)/\Below W.heap.size W w'):=by
  unfold Hid;rw [hb3];intro W hb;exact HIF.out t1 _ _ _ _ _ _ _ W OK1.out (TN.below hb _ _ HR1.out)
 rw [<- hb3] at HR
 clear hb3
 have X0:=Lib.hid (boxedT w [.int .i64 17,.int .i64 at1,.slice A1 n1 c1,.slice A2 n2 c2,.string name,.int .i32 c,.slice (some ⟨b,o,none⟩) 2 cc] 31)
 clear HY HIF HR0 OK0 HR1 OK1
 go_enter Tryz.func70,Tryz.ntmps70
 go_wp2_with fail
 generalize w.alloc (.cells #[.int .i64 17,.int .i64 at1,.slice A1 n1 c1,.slice A2 n2 c2,.string name,.int .i32 c,.slice (some ⟨b,o,none⟩) 2 cc] 31)=W at *
 refine (C1.out _ X0.out.2.1).mono ?_
 rintro e w1 ⟨rfl,hb⟩
 have X1:=Lib.hid (X0.out.step hb)
 clear hb
 obtain ⟨x0,x1,x2,x3,x4,x5,x6⟩:=X1.out.c7
 cases b1
 case false =>
  have HT:Hid (R=false):=by unfold Hid;rw [HR.out] <;> simp
  go_wp2
  go_ret
  exact ⟨by rw [HT.out];rfl,X1.out.2.1⟩
 obtain ⟨y0,y1,y2,y3,y4,y5,y6⟩:=HC0.out _ X1.out.2.1
 go_wp2_with fail
 refine (C2.out _ X1.out.2.1).mono ?_
 rintro e w2 ⟨rfl,hb⟩
 have X2:=Lib.hid (X1.out.step hb)
 clear hb x0 x1 x2 x3 x4 x5 x6 y0 y1 y2 y3 y4 y5 y6
 obtain ⟨x0,x1,x2,x3,x4,x5,x6⟩:=X2.out.c7
 cases b2
 case false =>
  have HT:Hid (R=false):=by unfold Hid;rw [HR.out] <;> simp
  go_wp2
  go_ret
  exact ⟨by rw [HT.out];rfl,X2.out.2.1⟩
 obtain ⟨y0,y1,y2,y3,y4,y5,y6⟩:=HC1.out _ X2.out.2.1
 go_wp2_with fail
 refine (C3.out _ X2.out.2.1).mono ?_
 rintro e w3 ⟨rfl,hb⟩
 have X3:=Lib.hid (X2.out.step hb)
 clear hb x0 x1 x2 x3 x4 x5 x6 y0 y1 y2 y3 y4 y5 y6
 obtain ⟨x0,x1,x2,x3,x4,x5,x6⟩:=X3.out.c7
 cases b3
 case false =>
  have HT:Hid (R=false):=by unfold Hid;rw [HR.out] <;> simp
  go_wp2
  go_ret
  exact ⟨by rw [HT.out];rfl,X3.out.2.1⟩
 have HT:Hid (R=true):=by unfold Hid;rw [HR.out] <;> simp
 go_wp2
 go_ret
 exact ⟨by rw [HT.out];rfl,X3.out.2.1⟩
theorem fun_18a {N:Nat}{at1:Int}{A1:Option Addr}{n1 c1:Nat}{A2:Option Addr}{n2 c2:Nat}{name:ByteArray}{c:Int}{cc:Nat}{nums:List Nat}{text:List Int}{w:World}{A:Option Addr}{m:Nat}{kids:List RTree} (h0:(m:Int)≠1)
  (HY:Hid (NodeW N w A1 n1 c1 A2 n2 c2 name A m cc nums text kids))
  : Calls Tryz.prog 70 #[.agg #[.int .i64 18,.int .i64 at1,.slice A1 n1 c1,.slice A2 n2 c2,.string name,.int .i32 c,.slice A m cc]] w fun e w'=>e= .returned (.bool (gd (.mk 18 nums text name c kids) 1))/\Below w.heap.size w w':=by
 obtain ⟨R,hR⟩:∃ R,R=gd (.mk 18 nums text name c kids) 1:=⟨_,rfl⟩
 have HR:Hid (R=(plainB 18 nums text name c kids 1 false false)):=by
  unfold Hid;rw [hR];rw [gd_1_18,plainB_len (n:=1) (by omega) (by rw [<- HY.out.hm];exact h0)];simp
 rw [<- hR]
 clear hR
 obtain ⟨b1,hb1⟩:∃ b:Bool,b=(plainB 18 nums text name c kids 1 false false):=⟨_,rfl⟩
 have C1:Hid (∀ W,Below w.heap.size w W->Calls Tryz.prog 110 #[.agg #[.int .i64 18,.int .i64 at1,.slice A1 n1 c1,.slice A2 n2 c2,.string name,.int .i32 c,.slice A m cc],.int .i64 1,.bool false,.bool false] W fun e w'=>e= .returned (.bool b1)/\Below W.heap.size W w'):=by
  unfold Hid;rw [hb1];intro W _;exact plain_walk 18 at1 A1 n1 c1 A2 n2 c2 name c A m cc nums text kids HY.out.hn HY.out.ht HY.out.hm 1 false false W
 rw [<- hb1] at HR
 have kb1:b1=false:=by rw [hb1];exact plainB_len (by omega) (by rw [<- HY.out.hm];exact h0)
 clear hb1
 subst kb1
 have X0:=Lib.hid (boxedT w [.int .i64 18,.int .i64 at1,.slice A1 n1 c1,.slice A2 n2 c2,.string name,.int .i32 c,.slice A m cc] 31)
 clear HY
 go_enter Tryz.func70,Tryz.ntmps70
 go_wp2_with fail
 generalize w.alloc (.cells #[.int .i64 18,.int .i64 at1,.slice A1 n1 c1,.slice A2 n2 c2,.string name,.int .i32 c,.slice A m cc] 31)=W at *
 refine (C1.out _ X0.out.2.1).mono ?_
 rintro e w1 ⟨rfl,hb⟩
 have X1:=Lib.hid (X0.out.step hb)
 clear hb
 obtain ⟨x0,x1,x2,x3,x4,x5,x6⟩:=X1.out.c7
 have HT:Hid (R=false):=by unfold Hid;rw [HR.out] <;> simp
 go_wp2
 go_ret
 exact ⟨by rw [HT.out];rfl,X1.out.2.1⟩
theorem fun_18b {N:Nat}{at1:Int}{A1:Option Addr}{n1 c1:Nat}{A2:Option Addr}{n2 c2:Nat}{name:ByteArray}{c:Int}{cc:Nat}{nums:List Nat}{text:List Int}{w:World}{b o:Nat}{u00 u01 u02 u03 u04 u05 u06:Value}{t0:RTree}
  (HY:Hid (NodeW N w A1 n1 c1 A2 n2 c2 name (some ⟨b,o,none⟩) 1 cc nums text [t0]))
  (HR0:Hid (TN w t0 [u00,u01,u02,u03,u04,u05,u06])) (HC0:Hid (KidC w b o u00 u01 u02 u03 u04 u05 u06)) (OK0:Hid (sizeR t0<=N/\FitG t0))
  (HIF:Hid (Tells 70 (fun t=>gd t 1) (fun t=>sizeR t<=N/\FitG t)))
  : Calls Tryz.prog 70 #[.agg #[.int .i64 18,.int .i64 at1,.slice A1 n1 c1,.slice A2 n2 c2,.string name,.int .i32 c,.slice (some ⟨b,o,none⟩) 1 cc]] w fun e w'=>e= .returned (.bool (gd (.mk 18 nums text name c [t0]) 1))/\Below w.heap.size w w':=by
 obtain ⟨R,hR⟩:∃ R,R=gd (.mk 18 nums text name c [t0]) 1:=⟨_,rfl⟩
 have HR:Hid (R=(plainB 18 nums text name c [t0] 1 false false&&gd t0 1)):=by
  unfold Hid;rw [hR];rw [gd_1_18];simp [gds]
 rw [<- hR]
 clear hR
 obtain ⟨b1,hb1⟩:∃ b:Bool,b=(plainB 18 nums text name c [t0] 1 false false):=⟨_,rfl⟩
 have C1:Hid (∀ W,Below w.heap.size w W->Calls Tryz.prog 110 #[.agg #[.int .i64 18,.int .i64 at1,.slice A1 n1 c1,.slice A2 n2 c2,.string name,.int .i32 c,.slice (some ⟨b,o,none⟩) 1 cc],.int .i64 1,.bool false,.bool false] W fun e w'=>e= .returned (.bool b1)/\Below W.heap.size W w'):=by
  unfold Hid;rw [hb1];intro W _;exact plain_walk 18 at1 A1 n1 c1 A2 n2 c2 name c (some ⟨b,o,none⟩) 1 cc nums text [t0] HY.out.hn HY.out.ht HY.out.hm 1 false false W
 rw [<- hb1] at HR
 clear hb1
 obtain ⟨b2,hb2⟩:∃ b:Bool,b=(gd t0 1):=⟨_,rfl⟩
 have C2:Hid (∀ W,Below w.heap.size w W->Calls Tryz.prog 70 #[.agg #[u00,u01,u02,u03,u04,u05,u06]] W fun e w'=>e= .returned (.bool b2)/\Below W.heap.size W w'):=by
  unfold Hid;rw [hb2];intro W hb;exact HIF.out t0 _ _ _ _ _ _ _ W OK0.out (TN.below hb _ _ HR0.out)
 rw [<- hb2] at HR
 clear hb2
 have X0:=Lib.hid (boxedT w [.int .i64 18,.int .i64 at1,.slice A1 n1 c1,.slice A2 n2 c2,.string name,.int .i32 c,.slice (some ⟨b,o,none⟩) 1 cc] 31)
 clear HY HIF HR0 OK0
 go_enter Tryz.func70,Tryz.ntmps70
 go_wp2_with fail
 generalize w.alloc (.cells #[.int .i64 18,.int .i64 at1,.slice A1 n1 c1,.slice A2 n2 c2,.string name,.int .i32 c,.slice (some ⟨b,o,none⟩) 1 cc] 31)=W at *
 refine (C1.out _ X0.out.2.1).mono ?_
 rintro e w1 ⟨rfl,hb⟩
 have X1:=Lib.hid (X0.out.step hb)
 clear hb
 obtain ⟨x0,x1,x2,x3,x4,x5,x6⟩:=X1.out.c7
 cases b1
 case false =>
  have HT:Hid (R=false):=by unfold Hid;rw [HR.out] <;> simp
  go_wp2
  go_ret
  exact ⟨by rw [HT.out];rfl,X1.out.2.1⟩
 obtain ⟨y0,y1,y2,y3,y4,y5,y6⟩:=HC0.out _ X1.out.2.1
 go_wp2_with fail
 refine (C2.out _ X1.out.2.1).mono ?_
 rintro e w2 ⟨rfl,hb⟩
 have X2:=Lib.hid (X1.out.step hb)
 clear hb x0 x1 x2 x3 x4 x5 x6 y0 y1 y2 y3 y4 y5 y6
 obtain ⟨x0,x1,x2,x3,x4,x5,x6⟩:=X2.out.c7
 cases b2
 case false =>
  have HT:Hid (R=false):=by unfold Hid;rw [HR.out] <;> simp
  go_wp2
  go_ret
  exact ⟨by rw [HT.out];rfl,X2.out.2.1⟩
 have HT:Hid (R=true):=by unfold Hid;rw [HR.out] <;> simp
 go_wp2
 go_ret
 exact ⟨by rw [HT.out];rfl,X2.out.2.1⟩
end Go.Proofs.YtbakjaliponbbaaGreatDoor
