/- The walks of tree.value and tree.function, kind by kind (2). Printed by .. Conditions: as each theorem says. -/
import Derived.Test.YtbakjaliponbbaaGreatDoorMg04
set_option maxRecDepth 100000
set_option maxHeartbeats 1600000
namespace Go.Proofs.YtbakjaliponbbaaGreatDoor
open Go Go.RowKit Go.Proofs Fl
theorem gdl_snoc:∀ (ts:List RTree) (t:RTree) (a b:Nat),gdl (ts++[t]) a b=(ts.all (fun t=>gd t a)&&gd t b)
 | [],t,a,b=>by rw [List.nil_append,gdl];simp
 | [t1],t,a,b=>by rw [List.singleton_append,gdl,gdl];simp
 | t1::t2::ts,t,a,b=>by
  rw [List.cons_append,List.cons_append,gdl,<- List.cons_append,gdl_snoc (t2::ts) t a b];simp [Bool.and_assoc]
theorem val_12a {N:Nat}{at1:Int}{A1:Option Addr}{n1 c1:Nat}{A2:Option Addr}{n2 c2:Nat}{name:ByteArray}{c:Int}{cc:Nat}{nums:List Nat}{text:List Int}{w:World}{A:Option Addr}{m:Nat}{kids:List RTree} (h0:m<=1)
  (HY:Hid (NodeW N w A1 n1 c1 A2 n2 c2 name A m cc nums text kids))
  : Calls Tryz.prog 69 #[.agg #[.int .i64 12,.int .i64 at1,.slice A1 n1 c1,.slice A2 n2 c2,.string name,.int .i32 c,.slice A m cc]] w fun e w'=>e= .returned (.bool (gd (.mk 12 nums text name c kids) 0))/\Below w.heap.size w w':=by
 obtain ⟨R,hR⟩:∃ R,R=gd (.mk 12 nums text name c kids) 0:=⟨_,rfl⟩
 have HR:Hid (R=(plainB 12 nums text name c kids (-1) true false&&false)):=by
  unfold Hid;rw [hR];rw [gd_0_12,decide_eq_false (by have:=HY.out.hm;omega)];simp
 rw [<- hR]
 clear hR
 obtain ⟨b1,hb1⟩:∃ b:Bool,b=(plainB 12 nums text name c kids (-1) true false):=⟨_,rfl⟩
 have C1:Hid (∀ W,Below w.heap.size w W->Calls Tryz.prog 110 #[.agg #[.int .i64 12,.int .i64 at1,.slice A1 n1 c1,.slice A2 n2 c2,.string name,.int .i32 c,.slice A m cc],.int .i64 (-1),.bool true,.bool false] W fun e w'=>e= .returned (.bool b1)/\Below W.heap.size W w'):=by
  unfold Hid;rw [hb1];intro W _;exact plain_walk 12 at1 A1 n1 c1 A2 n2 c2 name c A m cc nums text kids HY.out.hn HY.out.ht HY.out.hm (-1) true false W
 rw [<- hb1] at HR
 clear hb1
 have X0:=Lib.hid (boxedT w [.int .i64 12,.int .i64 at1,.slice A1 n1 c1,.slice A2 n2 c2,.string name,.int .i32 c,.slice A m cc] 31)
 clear HY
 go_enter Tryz.func69,Tryz.ntmps69
 go_wp2_with fail
 generalize w.alloc (.cells #[.int .i64 12,.int .i64 at1,.slice A1 n1 c1,.slice A2 n2 c2,.string name,.int .i32 c,.slice A m cc] 31)=W at *
 refine (C1.out _ X0.out.2.1).mono ?_
 rintro e w1 ⟨rfl,hb⟩
 have X1:=Lib.hid (X0.out.step hb)
 clear hb
 obtain ⟨x0,x1,x2,x3,x4,x5,x6⟩:=X1.out.c7
 cases b1
 case false =>
  have HT:Hid (R=false):=by unfold Hid;rw [HR.out] <;> simp
  go_wp2
  go_ret
  exact ⟨by rw [HT.out];rfl,X1.out.2.1⟩
 have HT:Hid (R=false):=by unfold Hid;rw [HR.out] <;> simp
 go_wp2
 go_ret
 exact ⟨by rw [HT.out];rfl,X1.out.2.1⟩
theorem val_12b {N:Nat}{at1:Int}{A1:Option Addr}{n1 c1:Nat}{A2:Option Addr}{n2 c2:Nat}{name:ByteArray}{c:Int}{cc:Nat}{nums:List Nat}{text:List Int}{w:World}{j:Nat}{b o:Nat}{u00 u01 u02 u03 u04 u05 u06:Value}{t0:RTree}{ts:List RTree} (h0:0 < j) (hj2:j<=1048576) (hcp:j+1<=cc) (hj:Hid (j=ts.length))
  (HY:Hid (NodeW N w A1 n1 c1 A2 n2 c2 name (some ⟨b,o,none⟩) (j+1) cc nums text (ts++[t0])))
  (HR0:Hid (TN w t0 [u00,u01,u02,u03,u04,u05,u06])) (HC0:Hid (KidC w b (o+j*7) u00 u01 u02 u03 u04 u05 u06)) (OK0:Hid (sizeR t0<=N/\FitG t0))
  (HIV:Hid (Tells 69 (fun t=>gd t 0) (fun t=>sizeR t<=N/\FitG t)))
  (HIX:Hid (Tells 117 (fun t=>gd t 2) (fun t=>sizeR t<=N/\FitG t)))
  : Calls Tryz.prog 69 #[.agg #[.int .i64 12,.int .i64 at1,.slice A1 n1 c1,.slice A2 n2 c2,.string name,.int .i32 c,.slice (some ⟨b,o,none⟩) (j+1) cc]] w fun e w'=>e= .returned (.bool (gd (.mk 12 nums text name c (ts++[t0])) 0))/\Below w.heap.size w w':=by
 obtain ⟨R,hR⟩:∃ R,R=gd (.mk 12 nums text name c (ts++[t0])) 0:=⟨_,rfl⟩
 have HR:Hid (R=(plainB 12 nums text name c (ts++[t0]) (-1) true false&&goodNB (runesOf name)&&!(upB name)&&ts.all (fun t=>gd t 2)&&gd t0 0)):=by
  unfold Hid;rw [hR];rw [gd_0_12,decide_eq_true (by have:=HY.out.hm;omega),gdl_snoc];simp [Bool.and_assoc]
 rw [<- hR]
 clear hR
 obtain ⟨b1,hb1⟩:∃ b:Bool,b=(plainB 12 nums text name c (ts++[t0]) (-1) true false):=⟨_,rfl⟩
 have C1:Hid (∀ W,Below w.heap.size w W->Calls Tryz.prog 110 #[.agg #[.int .i64 12,.int .i64 at1,.slice A1 n1 c1,.slice A2 n2 c2,.string name,.int .i32 c,.slice (some ⟨b,o,none⟩) (j+1) cc],.int .i64 (-1),.bool true,.bool false] W fun e w'=>e= .returned (.bool b1)/\Below W.heap.size W w'):=by
  unfold Hid;rw [hb1];intro W _;exact plain_walk 12 at1 A1 n1 c1 A2 n2 c2 name c (some ⟨b,o,none⟩) (j+1) cc nums text (ts++[t0]) HY.out.hn HY.out.ht HY.out.hm (-1) true false W
 rw [<- hb1] at HR
 clear hb1
 obtain ⟨b2,hb2⟩:∃ b:Bool,b=(goodNB (runesOf name)):=⟨_,rfl⟩
 have C2:Hid (∀ W,Below w.heap.size w W->Calls Tryz.prog 114 #[.string name] W fun e w'=>e= .returned (.bool b2)/\Below W.heap.size W w'):=by
  unfold Hid;rw [hb2];intro W _;exact gname_walk name W HY.out.fs
 rw [<- hb2] at HR
 clear hb2
 obtain ⟨b3,hb3⟩:∃ b:Bool,b=(upB name):=⟨_,rfl⟩
 have C3:Hid (∀ W,Below w.heap.size w W->Calls Tryz.prog 115 #[.string name] W fun e w'=>e= .returned (.bool b3)/\W=w'):=by
  unfold Hid;rw [hb3];intro W _;exact upper_walk name W
 rw [<- hb3] at HR
 clear hb3
 obtain ⟨b4,hb4⟩:∃ b:Bool,b=(ts.all (fun t=>gd t 2)):=⟨_,rfl⟩
 have C4:Hid (∀ W,Below w.heap.size w W->Calls Tryz.prog 116 #[.slice (some ⟨b,o,none⟩) j cc,.func (.func 117) #[] #[]] W fun e w'=>e= .returned (.bool b4)/\Below W.heap.size W w'):=by
  unfold Hid;rw [hb4];intro W hb;exact every_walk ts (some ⟨b,o,none⟩) j cc W 117 (fun t=>gd t 2) _ _ Tryz.func117 (by kernel_rfl) _ rfl hj.out (by have:=HY.out.fm;omega) (HY.out.hkid.front.below hb) (fun i hi=>by have:=HY.out.ok i (by simp;omega);rwa [List.getElem_append_left hi] at this) HIX.out
 rw [<- hb4] at HR
 clear hb4
 obtain ⟨b5,hb5⟩:∃ b:Bool,b=(gd t0 0):=⟨_,rfl⟩
 have C5:Hid (∀ W,Below w.heap.size w W->Calls Tryz.prog 69 #[.agg #[u00,u01,u02,u03,u04,u05,u06]] W fun e w'=>e= .returned (.bool b5)/\Below W.heap.size W w'):=by
  unfold Hid;rw [hb5];intro W hb;exact HIV.out t0 _ _ _ _ _ _ _ W OK0.out (TN.below hb _ _ HR0.out)
 rw [<- hb5] at HR
 clear hb5
 have X0:=Lib.hid (boxedT w [.int .i64 12,.int .i64 at1,.slice A1 n1 c1,.slice A2 n2 c2,.string name,.int .i32 c,.slice (some ⟨b,o,none⟩) (j+1) cc] 31)
 clear HY HIV HIX HR0 OK0
 go_enter Tryz.func69,Tryz.ntmps69
 go_wp2_with fail
 generalize w.alloc (.cells #[.int .i64 12,.int .i64 at1,.slice A1 n1 c1,.slice A2 n2 c2,.string name,.int .i32 c,.slice (some ⟨b,o,none⟩) (j+1) cc] 31)=W at *
 refine (C1.out _ X0.out.2.1).mono ?_
 rintro e w1 ⟨rfl,hb⟩
 have X1:=Lib.hid (X0.out.step hb)
 clear hb
 obtain ⟨x0,x1,x2,x3,x4,x5,x6⟩:=X1.out.c7
 cases b1
 case false =>
  have HT:Hid (R=false):=by unfold Hid;rw [HR.out] <;> simp
  go_wp2
  go_ret
  exact ⟨by rw [HT.out];rfl,X1.out.2.1⟩
 go_wp2_with fail
 refine (C2.out _ X1.out.2.1).mono ?_
 rintro e w2 ⟨rfl,hb⟩
 have X2:=Lib.hid (X1.out.step hb)
 clear hb x0 x1 x2 x3 x4 x5 x6
 obtain ⟨x0,x1,x2,x3,x4,x5,x6⟩:=X2.out.c7
 cases b2
 case false =>
  have HT:Hid (R=false):=by unfold Hid;rw [HR.out] <;> simp
  go_wp2
  go_ret
  exact ⟨by rw [HT.out];rfl,X2.out.2.1⟩
 go_wp2_with fail
 refine (C3.out _ X2.out.2.1).mono ?_
 rintro e w3 ⟨rfl,rfl⟩
 cases b3
 case true =>
  have HT:Hid (R=false):=by unfold Hid;rw [HR.out] <;> simp
  go_wp2
  go_ret
  exact ⟨by rw [HT.out];rfl,X2.out.2.1⟩
 go_wp2_with fail
 refine (C4.out _ X2.out.2.1).mono ?_
 rintro e w4 ⟨rfl,hb⟩
 have X4:=Lib.hid (X2.out.step hb)
 clear hb x0 x1 x2 x3 x4 x5 x6
 obtain ⟨x0,x1,x2,x3,x4,x5,x6⟩:=X4.out.c7
 cases b4
 case false =>
  have HT:Hid (R=false):=by unfold Hid;rw [HR.out] <;> simp
  go_wp2
  go_ret
  exact ⟨by rw [HT.out];rfl,X4.out.2.1⟩
 obtain ⟨y0,y1,y2,y3,y4,y5,y6⟩:=HC0.out _ X4.out.2.1
 go_wp2_with fail
 refine (C5.out _ X4.out.2.1).mono ?_
 rintro e w5 ⟨rfl,hb⟩
 have X5:=Lib.hid (X4.out.step hb)
 clear hb x0 x1 x2 x3 x4 x5 x6 y0 y1 y2 y3 y4 y5 y6
 obtain ⟨x0,x1,x2,x3,x4,x5,x6⟩:=X5.out.c7
 cases b5
 case false =>
  have HT:Hid (R=false):=by unfold Hid;rw [HR.out] <;> simp
  go_wp2
  go_ret
  exact ⟨by rw [HT.out];rfl,X5.out.2.1⟩
 have HT:Hid (R=true):=by unfold Hid;rw [HR.out] <;> simp
 go_wp2
 go_ret
 exact ⟨by rw [HT.out];rfl,X5.out.2.1⟩
theorem fun_13 {N:Nat}{at1:Int}{A1:Option Addr}{n1 c1:Nat}{A2:Option Addr}{n2 c2:Nat}{name:ByteArray}{c:Int}{cc:Nat}{nums:List Nat}{text:List Int}{w:World}{A:Option Addr}{m:Nat}{kids:List RTree}
  (HY:Hid (NodeW N w A1 n1 c1 A2 n2 c2 name A m cc nums text kids))
  : Calls Tryz.prog 70 #[.agg #[.int .i64 13,.int .i64 at1,.slice A1 n1 c1,.slice A2 n2 c2,.string name,.int .i32 c,.slice A m cc]] w fun e w'=>e= .returned (.bool (gd (.mk 13 nums text name c kids) 1))/\Below w.heap.size w w':=by
 obtain ⟨R,hR⟩:∃ R,R=gd (.mk 13 nums text name c kids) 1:=⟨_,rfl⟩
 have HR:Hid (R=(plainB 13 nums text name c kids 0 false true&&(verbB c||slashB c))):=by
  unfold Hid;rw [hR];exact gd_1_13
 rw [<- hR]
 clear hR
 obtain ⟨b1,hb1⟩:∃ b:Bool,b=(plainB 13 nums text name c kids 0 false true):=⟨_,rfl⟩
 have C1:Hid (∀ W,Below w.heap.size w W->Calls Tryz.prog 110 #[.agg #[.int .i64 13,.int .i64 at1,.slice A1 n1 c1,.slice A2 n2 c2,.string name,.int .i32 c,.slice A m cc],.int .i64 0,.bool false,.bool true] W fun e w'=>e= .returned (.bool b1)/\Below W.heap.size W w'):=by
  unfold Hid;rw [hb1];intro W _;exact plain_walk 13 at1 A1 n1 c1 A2 n2 c2 name c A m cc nums text kids HY.out.hn HY.out.ht HY.out.hm 0 false true W
 rw [<- hb1] at HR
 clear hb1
 obtain ⟨b2,hb2⟩:∃ b:Bool,b=(verbB c):=⟨_,rfl⟩
 have C2:Hid (∀ W,Below w.heap.size w W->Calls Tryz.prog 118 #[.int .i32 c] W fun e w'=>e= .returned (.bool b2)/\Below W.heap.size W w'):=by
  unfold Hid;rw [hb2];intro W _;exact isVerbB_walk c W
 rw [<- hb2] at HR
 clear hb2
 obtain ⟨b3,hb3⟩:∃ b:Bool,b=(slashB c):=⟨_,rfl⟩
 have C3:Hid (∀ W,Below w.heap.size w W->Calls Tryz.prog 119 #[.int .i32 c] W fun e w'=>e= .returned (.bool b3)/\W=w'):=by
  unfold Hid;rw [hb3];intro W _;exact slash_walk c W
 rw [<- hb3] at HR
 clear hb3
 have X0:=Lib.hid (boxedT w [.int .i64 13,.int .i64 at1,.slice A1 n1 c1,.slice A2 n2 c2,.string name,.int .i32 c,.slice A m cc] 31)
 clear HY
 go_enter Tryz.func70,Tryz.ntmps70
 go_wp2_with fail
 generalize w.alloc (.cells #[.int .i64 13,.int .i64 at1,.slice A1 n1 c1,.slice A2 n2 c2,.string name,.int .i32 c,.slice A m cc] 31)=W at *
 refine (C1.out _ X0.out.2.1).mono ?_
 rintro e w1 ⟨rfl,hb⟩
 have X1:=Lib.hid (X0.out.step hb)
 clear hb
 obtain ⟨x0,x1,x2,x3,x4,x5,x6⟩:=X1.out.c7
 cases b1
 case false =>
  have HT:Hid (R=false):=by unfold Hid;rw [HR.out] <;> simp
  go_wp2
  go_ret
  exact ⟨by rw [HT.out];rfl,X1.out.2.1⟩
 go_wp2_with fail
 refine (C2.out _ X1.out.2.1).mono ?_
 rintro e w2 ⟨rfl,hb⟩
 have X2:=Lib.hid (X1.out.step hb)
 clear hb x0 x1 x2 x3 x4 x5 x6
 obtain ⟨x0,x1,x2,x3,x4,x5,x6⟩:=X2.out.c7
 cases b2
 case true =>
  have HT:Hid (R=true):=by unfold Hid;rw [HR.out] <;> simp
  go_wp2
  go_ret
  exact ⟨by rw [HT.out];rfl,X2.out.2.1⟩
 go_wp2_with fail
 refine (C3.out _ X2.out.2.1).mono ?_
 rintro e w3 ⟨rfl,rfl⟩
 cases b3
 case false =>
  have HT:Hid (R=false):=by unfold Hid;rw [HR.out] <;> simp
  go_wp2
  go_ret
  exact ⟨by rw [HT.out];rfl,X2.out.2.1⟩
 have HT:Hid (R=true):=by unfold Hid;rw [HR.out] <;> simp
 go_wp2
 go_ret
 exact ⟨by rw [HT.out];rfl,X2.out.2.1⟩
theorem fun_16a {N:Nat}{at1:Int}{A1:Option Addr}{n1 c1:Nat}{A2:Option Addr}{n2 c2:Nat}{name:ByteArray}{c:Int}{cc:Nat}{nums:List Nat}{text:List Int}{w:World}{A:Option Addr}{m:Nat}{kids:List RTree} (h0:(m:Int)≠1)
  (HY:Hid (NodeW N w A1 n1 c1 A2 n2 c2 name A m cc nums text kids))
  : Calls Tryz.prog 70 #[.agg #[.int .i64 16,.int .i64 at1,.slice A1 n1 c1,.slice A2 n2 c2,.string name,.int .i32 c,.slice A m cc]] w fun e w'=>e= .returned (.bool (gd (.mk 16 nums text name c kids) 1))/\Below w.heap.size w w':=by
 obtain ⟨R,hR⟩:∃ R,R=gd (.mk 16 nums text name c kids) 1:=⟨_,rfl⟩
 have HR:Hid (R=(plainB 16 nums text name c kids 1 false true)):=by
  unfold Hid;rw [hR];rw [gd_1_16,plainB_len (n:=1) (by omega) (by rw [<- HY.out.hm];exact h0)];simp
 rw [<- hR]
 clear hR
 obtain ⟨b1,hb1⟩:∃ b:Bool,b=(plainB 16 nums text name c kids 1 false true):=⟨_,rfl⟩
 have C1:Hid (∀ W,Below w.heap.size w W->Calls Tryz.prog 110 #[.agg #[.int .i64 16,.int .i64 at1,.slice A1 n1 c1,.slice A2 n2 c2,.string name,.int .i32 c,.slice A m cc],.int .i64 1,.bool false,.bool true] W fun e w'=>e= .returned (.bool b1)/\Below W.heap.size W w'):=by
  unfold Hid;rw [hb1];intro W _;exact plain_walk 16 at1 A1 n1 c1 A2 n2 c2 name c A m cc nums text kids HY.out.hn HY.out.ht HY.out.hm 1 false true W
 rw [<- hb1] at HR
 have kb1:b1=false:=by rw [hb1];exact plainB_len (by omega) (by rw [<- HY.out.hm];exact h0)
 clear hb1
 subst kb1
 have X0:=Lib.hid (boxedT w [.int .i64 16,.int .i64 at1,.slice A1 n1 c1,.slice A2 n2 c2,.string name,.int .i32 c,.slice A m cc] 31)
 clear HY
 go_enter Tryz.func70,Tryz.ntmps70
 go_wp2_with fail
 generalize w.alloc (.cells #[.int .i64 16,.int .i64 at1,.slice A1 n1 c1,.slice A2 n2 c2,.string name,.int .i32 c,.slice A m cc] 31)=W at *
 refine (C1.out _ X0.out.2.1).mono ?_
 rintro e w1 ⟨rfl,hb⟩
 have X1:=Lib.hid (X0.out.step hb)
 clear hb
 obtain ⟨x0,x1,x2,x3,x4,x5,x6⟩:=X1.out.c7
 have HT:Hid (R=false):=by unfold Hid;rw [HR.out] <;> simp
 go_wp2
 go_ret
 exact ⟨by rw [HT.out];rfl,X1.out.2.1⟩
theorem fun_16b {N:Nat}{at1:Int}{A1:Option Addr}{n1 c1:Nat}{A2:Option Addr}{n2 c2:Nat}{name:ByteArray}{c:Int}{cc:Nat}{nums:List Nat}{text:List Int}{w:World}{b o:Nat}{u00 u01 u02 u03 u04 u05 u06:Value}{t0:RTree} (hs:slashB c=true)
  (HY:Hid (NodeW N w A1 n1 c1 A2 n2 c2 name (some ⟨b,o,none⟩) 1 cc nums text [t0]))
  (HR0:Hid (TN w t0 [u00,u01,u02,u03,u04,u05,u06])) (HC0:Hid (KidC w b o u00 u01 u02 u03 u04 u05 u06)) (OK0:Hid (sizeR t0<=N/\FitG t0))
  (HIF:Hid (Tells 70 (fun t=>gd t 1) (fun t=>sizeR t<=N/\FitG t)))
  : Calls Tryz.prog 70 #[.agg #[.int .i64 16,.int .i64 at1,.slice A1 n1 c1,.slice A2 n2 c2,.string name,.int .i32 c,.slice (some ⟨b,o,none⟩) 1 cc]] w fun e w'=>e= .returned (.bool (gd (.mk 16 nums text name c [t0]) 1))/\Below w.heap.size w w':=by
 obtain ⟨R,hR⟩:∃ R,R=gd (.mk 16 nums text name c [t0]) 1:=⟨_,rfl⟩
 have HR:Hid (R=(plainB 16 nums text name c [t0] 1 false true&&gd t0 1)):=by
  unfold Hid;rw [hR];rw [gd_1_16,hs];simp [gds]
 rw [<- hR]
 clear hR
 obtain ⟨b1,hb1⟩:∃ b:Bool,b=(plainB 16 nums text name c [t0] 1 false true):=⟨_,rfl⟩
 have C1:Hid (∀ W,Below w.heap.size w W->Calls Tryz.prog 110 #[.agg #[.int .i64 16,.int .i64 at1,.slice A1 n1 c1,.slice A2 n2 c2,.string name,.int .i32 c,.slice (some ⟨b,o,none⟩) 1 cc],.int .i64 1,.bool false,.bool true] W fun e w'=>e= .returned (.bool b1)/\Below W.heap.size W w'):=by
  unfold Hid;rw [hb1];intro W _;exact plain_walk 16 at1 A1 n1 c1 A2 n2 c2 name c (some ⟨b,o,none⟩) 1 cc nums text [t0] HY.out.hn HY.out.ht HY.out.hm 1 false true W
 rw [<- hb1] at HR
 clear hb1
 obtain ⟨b2,hb2⟩:∃ b:Bool,b=(slashB c):=⟨_,rfl⟩
 have C2:Hid (∀ W,Below w.heap.size w W->Calls Tryz.prog 119 #[.int .i32 c] W fun e w'=>e= .returned (.bool b2)/\W=w'):=by
  unfold Hid;rw [hb2];intro W _;exact slash_walk c W
 have kb2:b2=true:=by rw [hb2];exact hs
 clear hb2
 subst kb2
 obtain ⟨b3,hb3⟩:∃ b:Bool,b=(gd t0 1):=⟨_,rfl⟩
 have C3:Hid (∀ W,Below w.heap.size w W->Calls Tryz.prog 70 #[.agg #[u00,u01,u02,u03,u04,u05,u06]] W fun e w'=>e= .returned (.bool b3)/\Below W.heap.size W w'):=by
  unfold Hid;rw [hb3];intro W hb;exact HIF.out t0 _ _ _ _ _ _ _ W OK0.out (TN.below hb _ _ HR0.out)
 rw [<- hb3] at HR
 clear hb3
 have X0:=Lib.hid (boxedT w [.int .i64 16,.int .i64 at1,.slice A1 n1 c1,.slice A2 n2 c2,.string name,.int .i32 c,.slice (some ⟨b,o,none⟩) 1 cc] 31)
 clear HY HIF HR0 OK0
 clear hs
 go_enter Tryz.func70,Tryz.ntmps70
 go_wp2_with fail
 generalize w.alloc (.cells #[.int .i64 16,.int .i64 at1,.slice A1 n1 c1,.slice A2 n2 c2,.string name,.int .i32 c,.slice (some ⟨b,o,none⟩) 1 cc] 31)=W at *
 refine (C1.out _ X0.out.2.1).mono ?_
 rintro e w1 ⟨rfl,hb⟩
 have X1:=Lib.hid (X0.out.step hb)
 clear hb
 obtain ⟨x0,x1,x2,x3,x4,x5,x6⟩:=X1.out.c7
 cases b1
 case false =>
  have HT:Hid (R=false):=by unfold Hid;rw [HR.out] <;> simp
  go_wp2
  go_ret
  exact ⟨by rw [HT.out];rfl,X1.out.2.1⟩
 go_wp2_with fail
 refine (C2.out _ X1.out.2.1).mono ?_
 rintro e w2 ⟨rfl,rfl⟩
 obtain ⟨y0,y1,y2,y3,y4,y5,y6⟩:=HC0.out _ X1.out.2.1
 go_wp2_with fail
 refine (C3.out _ X1.out.2.1).mono ?_
 rintro e w3 ⟨rfl,hb⟩
 have X3:=Lib.hid (X1.out.step hb)
 clear hb x0 x1 x2 x3 x4 x5 x6 y0 y1 y2 y3 y4 y5 y6
 obtain ⟨x0,x1,x2,x3,x4,x5,x6⟩:=X3.out.c7
 cases b3
 case false =>
  have HT:Hid (R=false):=by unfold Hid;rw [HR.out] <;> simp
  go_wp2
  go_ret
  exact ⟨by rw [HT.out];rfl,X3.out.2.1⟩
 have HT:Hid (R=true):=by unfold Hid;rw [HR.out] <;> simp
 go_wp2
 go_ret
 exact ⟨by rw [HT.out];rfl,X3.out.2.1⟩
theorem fun_16c {N:Nat}{at1:Int}{A1:Option Addr}{n1 c1:Nat}{A2:Option Addr}{n2 c2:Nat}{name:ByteArray}  {cc:Nat}{nums:List Nat}{text:List Int}{w:World}{b o:Nat}{u00 u01 u02 u03 u04 u05 u06:Value}{t0:RTree}
  (HY:Hid (NodeW N w A1 n1 c1 A2 n2 c2 name (some ⟨b,o,none⟩) 1 cc nums text [t0]))
  (HR0:Hid (TN w t0 [u00,u01,u02,u03,u04,u05,u06])) (HC0:Hid (KidC w b o u00 u01 u02 u03 u04 u05 u06)) (OK0:Hid (sizeR t0<=N/\FitG t0))
  (HIF:Hid (Tells 70 (fun t=>gd t 1) (fun t=>sizeR t<=N/\FitG t)))
  : Calls Tryz.prog 70 #[.agg #[.int .i64 16,.int .i64 at1,.slice A1 n1 c1,.slice A2 n2 c2,.string name,.int .i32 168,.slice (some ⟨b,o,none⟩) 1 cc]] w fun e w'=>e= .returned (.bool (gd (.mk 16 nums text name 168 [t0]) 1))/\Below w.heap.size w w':=by
 obtain ⟨R,hR⟩:∃ R,R=gd (.mk 16 nums text name 168 [t0]) 1:=⟨_,rfl⟩
 have HR:Hid (R=(plainB 16 nums text name 168 [t0] 1 false true&&gd t0 1)):=by
  unfold Hid;rw [hR];rw [gd_1_16];simp [gds]
 rw [<- hR]
 clear hR
 obtain ⟨b1,hb1⟩:∃ b:Bool,b=(plainB 16 nums text name 168 [t0] 1 false true):=⟨_,rfl⟩
 have C1:Hid (∀ W,Below w.heap.size w W->Calls Tryz.prog 110 #[.agg #[.int .i64 16,.int .i64 at1,.slice A1 n1 c1,.slice A2 n2 c2,.string name,.int .i32 168,.slice (some ⟨b,o,none⟩) 1 cc],.int .i64 1,.bool false,.bool true] W fun e w'=>e= .returned (.bool b1)/\Below W.heap.size W w'):=by
  unfold Hid;rw [hb1];intro W _;exact plain_walk 16 at1 A1 n1 c1 A2 n2 c2 name 168 (some ⟨b,o,none⟩) 1 cc nums text [t0] HY.out.hn HY.out.ht HY.out.hm 1 false true W
 rw [<- hb1] at HR
 clear hb1
 obtain ⟨b2,hb2⟩:∃ b:Bool,b=(slashB 168):=⟨_,rfl⟩
 have C2:Hid (∀ W,Below w.heap.size w W->Calls Tryz.prog 119 #[.int .i32 168] W fun e w'=>e= .returned (.bool b2)/\W=w'):=by
  unfold Hid;rw [hb2];intro W _;exact slash_walk 168 W
 have kb2:b2=false:=by rw [hb2];exact by decide
 clear hb2
 subst kb2
 obtain ⟨b3,hb3⟩:∃ b:Bool,b=(gd t0 1):=⟨_,rfl⟩
 have C3:Hid (∀ W,Below w.heap.size w W->Calls Tryz.prog 70 #[.agg #[u00,u01,u02,u03,u04,u05,u06]] W fun e w'=>e= .returned (.bool b3)/\Below W.heap.size W w'):=by
  unfold Hid;rw [hb3];intro W hb;exact HIF.out t0 _ _ _ _ _ _ _ W OK0.out (TN.below hb _ _ HR0.out)
 rw [<- hb3] at HR
 clear hb3
 have X0:=Lib.hid (boxedT w [.int .i64 16,.int .i64 at1,.slice A1 n1 c1,.slice A2 n2 c2,.string name,.int .i32 168,.slice (some ⟨b,o,none⟩) 1 cc] 31)
 clear HY HIF HR0 OK0
 go_enter Tryz.func70,Tryz.ntmps70
 go_wp2_with fail
 generalize w.alloc (.cells #[.int .i64 16,.int .i64 at1,.slice A1 n1 c1,.slice A2 n2 c2,.string name,.int .i32 168,.slice (some ⟨b,o,none⟩) 1 cc] 31)=W at *
 refine (C1.out _ X0.out.2.1).mono ?_
 rintro e w1 ⟨rfl,hb⟩
 have X1:=Lib.hid (X0.out.step hb)
 clear hb
 obtain ⟨x0,x1,x2,x3,x4,x5,x6⟩:=X1.out.c7
 cases b1
 case false =>
  have HT:Hid (R=false):=by unfold Hid;rw [HR.out] <;> simp
  go_wp2
  go_ret
  exact ⟨by rw [HT.out];rfl,X1.out.2.1⟩
 go_wp2_with fail
 refine (C2.out _ X1.out.2.1).mono ?_
 rintro e w2 ⟨rfl,rfl⟩
 obtain ⟨y0,y1,y2,y3,y4,y5,y6⟩:=HC0.out _ X1.out.2.1
 go_wp2_with fail
 refine (C3.out _ X1.out.2.1).mono ?_
 rintro e w3 ⟨rfl,hb⟩
 have X3:=Lib.hid (X1.out.step hb)
 clear hb x0 x1 x2 x3 x4 x5 x6 y0 y1 y2 y3 y4 y5 y6
 obtain ⟨x0,x1,x2,x3,x4,x5,x6⟩:=X3.out.c7
 cases b3
 case false =>
  have HT:Hid (R=false):=by unfold Hid;rw [HR.out] <;> simp
  go_wp2
  go_ret
  exact ⟨by rw [HT.out];rfl,X3.out.2.1⟩
 have HT:Hid (R=true):=by unfold Hid;rw [HR.out] <;> simp
 go_wp2
 go_ret
 exact ⟨by rw [HT.out];rfl,X3.out.2.1⟩
theorem fun_16d {N:Nat}{at1:Int}{A1:Option Addr}{n1 c1:Nat}{A2:Option Addr}{n2 c2:Nat}{name:ByteArray}  {cc:Nat}{nums:List Nat}{text:List Int}{w:World}{b o:Nat}{u00 u01 u02 u03 u04 u05 u06:Value}{t0:RTree}
  (HY:Hid (NodeW N w A1 n1 c1 A2 n2 c2 name (some ⟨b,o,none⟩) 1 cc nums text [t0]))
  (HR0:Hid (TN w t0 [u00,u01,u02,u03,u04,u05,u06])) (HC0:Hid (KidC w b o u00 u01 u02 u03 u04 u05 u06)) (OK0:Hid (sizeR t0<=N/\FitG t0))
  (HIF:Hid (Tells 70 (fun t=>gd t 1) (fun t=>sizeR t<=N/\FitG t)))
  : Calls Tryz.prog 70 #[.agg #[.int .i64 16,.int .i64 at1,.slice A1 n1 c1,.slice A2 n2 c2,.string name,.int .i32 9064,.slice (some ⟨b,o,none⟩) 1 cc]] w fun e w'=>e= .returned (.bool (gd (.mk 16 nums text name 9064 [t0]) 1))/\Below w.heap.size w w':=by
 obtain ⟨R,hR⟩:∃ R,R=gd (.mk 16 nums text name 9064 [t0]) 1:=⟨_,rfl⟩
 have HR:Hid (R=(plainB 16 nums text name 9064 [t0] 1 false true&&gd t0 1)):=by
  unfold Hid;rw [hR];rw [gd_1_16];simp [gds]
 rw [<- hR]
 clear hR
 obtain ⟨b1,hb1⟩:∃ b:Bool,b=(plainB 16 nums text name 9064 [t0] 1 false true):=⟨_,rfl⟩
 have C1:Hid (∀ W,Below w.heap.size w W->Calls Tryz.prog 110 #[.agg #[.int .i64 16,.int .i64 at1,.slice A1 n1 c1,.slice A2 n2 c2,.string name,.int .i32 9064,.slice (some ⟨b,o,none⟩) 1 cc],.int .i64 1,.bool false,.bool true] W fun e w'=>e= .returned (.bool b1)/\Below W.heap.size W w'):=by
  unfold Hid;rw [hb1];intro W _;exact plain_walk 16 at1 A1 n1 c1 A2 n2 c2 name 9064 (some ⟨b,o,none⟩) 1 cc nums text [t0] HY.out.hn HY.out.ht HY.out.hm 1 false true W
 rw [<- hb1] at HR
 clear hb1
 obtain ⟨b2,hb2⟩:∃ b:Bool,b=(slashB 9064):=⟨_,rfl⟩
 have C2:Hid (∀ W,Below w.heap.size w W->Calls Tryz.prog 119 #[.int .i32 9064] W fun e w'=>e= .returned (.bool b2)/\W=w'):=by
  unfold Hid;rw [hb2];intro W _;exact slash_walk 9064 W
 have kb2:b2=false:=by rw [hb2];exact by decide
 clear hb2
 subst kb2
 obtain ⟨b3,hb3⟩:∃ b:Bool,b=(gd t0 1):=⟨_,rfl⟩
 have C3:Hid (∀ W,Below w.heap.size w W->Calls Tryz.prog 70 #[.agg #[u00,u01,u02,u03,u04,u05,u06]] W fun e w'=>e= .returned (.bool b3)/\Below W.heap.size W w'):=by
  unfold Hid;rw [hb3];intro W hb;exact HIF.out t0 _ _ _ _ _ _ _ W OK0.out (TN.below hb _ _ HR0.out)
 rw [<- hb3] at HR
 clear hb3
 have X0:=Lib.hid (boxedT w [.int .i64 16,.int .i64 at1,.slice A1 n1 c1,.slice A2 n2 c2,.string name,.int .i32 9064,.slice (some ⟨b,o,none⟩) 1 cc] 31)
 clear HY HIF HR0 OK0
 go_enter Tryz.func70,Tryz.ntmps70
 go_wp2_with fail
 generalize w.alloc (.cells #[.int .i64 16,.int .i64 at1,.slice A1 n1 c1,.slice A2 n2 c2,.string name,.int .i32 9064,.slice (some ⟨b,o,none⟩) 1 cc] 31)=W at *
 refine (C1.out _ X0.out.2.1).mono ?_
 rintro e w1 ⟨rfl,hb⟩
 have X1:=Lib.hid (X0.out.step hb)
 clear hb
 obtain ⟨x0,x1,x2,x3,x4,x5,x6⟩:=X1.out.c7
 cases b1
 case false =>
  have HT:Hid (R=false):=by unfold Hid;rw [HR.out] <;> simp
  go_wp2
  go_ret
  exact ⟨by rw [HT.out];rfl,X1.out.2.1⟩
 go_wp2_with fail
 refine (C2.out _ X1.out.2.1).mono ?_
 rintro e w2 ⟨rfl,rfl⟩
 obtain ⟨y0,y1,y2,y3,y4,y5,y6⟩:=HC0.out _ X1.out.2.1
 go_wp2_with fail
 refine (C3.out _ X1.out.2.1).mono ?_
 rintro e w3 ⟨rfl,hb⟩
 have X3:=Lib.hid (X1.out.step hb)
 clear hb x0 x1 x2 x3 x4 x5 x6 y0 y1 y2 y3 y4 y5 y6
 obtain ⟨x0,x1,x2,x3,x4,x5,x6⟩:=X3.out.c7
 cases b3
 case false =>
  have HT:Hid (R=false):=by unfold Hid;rw [HR.out] <;> simp
  go_wp2
  go_ret
  exact ⟨by rw [HT.out];rfl,X3.out.2.1⟩
 have HT:Hid (R=true):=by unfold Hid;rw [HR.out] <;> simp
 go_wp2
 go_ret
 exact ⟨by rw [HT.out];rfl,X3.out.2.1⟩
theorem fun_16e {N:Nat}{at1:Int}{A1:Option Addr}{n1 c1:Nat}{A2:Option Addr}{n2 c2:Nat}{name:ByteArray}{c:Int}{cc:Nat}{nums:List Nat}{text:List Int}{w:World}{b o:Nat}{t0:RTree} (hs:slashB c=false) (h1:(c==168)=false) (h2:(c==9064)=false)
  (HY:Hid (NodeW N w A1 n1 c1 A2 n2 c2 name (some ⟨b,o,none⟩) 1 cc nums text [t0]))
  : Calls Tryz.prog 70 #[.agg #[.int .i64 16,.int .i64 at1,.slice A1 n1 c1,.slice A2 n2 c2,.string name,.int .i32 c,.slice (some ⟨b,o,none⟩) 1 cc]] w fun e w'=>e= .returned (.bool (gd (.mk 16 nums text name c [t0]) 1))/\Below w.heap.size w w':=by
 obtain ⟨R,hR⟩:∃ R,R=gd (.mk 16 nums text name c [t0]) 1:=⟨_,rfl⟩
 have HR:Hid (R=(plainB 16 nums text name c [t0] 1 false true&&false)):=by
  unfold Hid;rw [hR];rw [gd_1_16,hs,decide_eq_false (by simpa using h1),decide_eq_false (by simpa using h2)];simp
 rw [<- hR]
 clear hR
 obtain ⟨b1,hb1⟩:∃ b:Bool,b=(plainB 16 nums text name c [t0] 1 false true):=⟨_,rfl⟩
 have C1:Hid (∀ W,Below w.heap.size w W->Calls Tryz.prog 110 #[.agg #[.int .i64 16,.int .i64 at1,.slice A1 n1 c1,.slice A2 n2 c2,.string name,.int .i32 c,.slice (some ⟨b,o,none⟩) 1 cc],.int .i64 1,.bool false,.bool true] W fun e w'=>e= .returned (.bool b1)/\Below W.heap.size W w'):=by
  unfold Hid;rw [hb1];intro W _;exact plain_walk 16 at1 A1 n1 c1 A2 n2 c2 name c (some ⟨b,o,none⟩) 1 cc nums text [t0] HY.out.hn HY.out.ht HY.out.hm 1 false true W
 rw [<- hb1] at HR
 clear hb1
 obtain ⟨b2,hb2⟩:∃ b:Bool,b=(slashB c):=⟨_,rfl⟩
 have C2:Hid (∀ W,Below w.heap.size w W->Calls Tryz.prog 119 #[.int .i32 c] W fun e w'=>e= .returned (.bool b2)/\W=w'):=by
  unfold Hid;rw [hb2];intro W _;exact slash_walk c W
 have kb2:b2=false:=by rw [hb2];exact hs
 clear hb2
 subst kb2
 have X0:=Lib.hid (boxedT w [.int .i64 16,.int .i64 at1,.slice A1 n1 c1,.slice A2 n2 c2,.string name,.int .i32 c,.slice (some ⟨b,o,none⟩) 1 cc] 31)
 clear HY
 clear hs
 go_enter Tryz.func70,Tryz.ntmps70
 go_wp2_with fail
 generalize w.alloc (.cells #[.int .i64 16,.int .i64 at1,.slice A1 n1 c1,.slice A2 n2 c2,.string name,.int .i32 c,.slice (some ⟨b,o,none⟩) 1 cc] 31)=W at *
 refine (C1.out _ X0.out.2.1).mono ?_
 rintro e w1 ⟨rfl,hb⟩
 have X1:=Lib.hid (X0.out.step hb)
 clear hb
 obtain ⟨x0,x1,x2,x3,x4,x5,x6⟩:=X1.out.c7
 cases b1
 case false =>
  have HT:Hid (R=false):=by unfold Hid;rw [HR.out] <;> simp
  go_wp2
  go_ret
  exact ⟨by rw [HT.out];rfl,X1.out.2.1⟩
 go_wp2_with fail
 refine (C2.out _ X1.out.2.1).mono ?_
 rintro e w2 ⟨rfl,rfl⟩
 have HT:Hid (R=false):=by unfold Hid;rw [HR.out] <;> simp
 go_wp2
 go_ret
 exact ⟨by rw [HT.out];rfl,X1.out.2.1⟩
theorem idx_21 {N:Nat}{at1:Int}{A1:Option Addr}{n1 c1:Nat}{A2:Option Addr}{n2 c2:Nat}{name:ByteArray}{c:Int}{cc:Nat}{nums:List Nat}{text:List Int}{w:World}{A:Option Addr}{m:Nat}{kids:List RTree}
  (HY:Hid (NodeW N w A1 n1 c1 A2 n2 c2 name A m cc nums text kids))
  (HW0:Hid (∀ W,Below w.heap.size w W->Calls Tryz.prog 69 #[.agg #[.int .i64 21,.int .i64 at1,.slice A1 n1 c1,.slice A2 n2 c2,.string name,.int .i32 c,.slice A m cc]] W fun e w'=>e= .returned (.bool (gd (.mk 21 nums text name c kids) 0))/\Below W.heap.size W w'))
  : Calls Tryz.prog 117 #[.agg #[.int .i64 21,.int .i64 at1,.slice A1 n1 c1,.slice A2 n2 c2,.string name,.int .i32 c,.slice A m cc]] w fun e w'=>e= .returned (.bool (gd (.mk 21 nums text name c kids) 2))/\Below w.heap.size w w':=by
 obtain ⟨R,hR⟩:∃ R,R=gd (.mk 21 nums text name c kids) 2:=⟨_,rfl⟩
 have HR:Hid (R=(plainB 21 nums text name c kids 0 false false||gd (.mk 21 nums text name c kids) 0)):=by
  unfold Hid;rw [hR];rw [gd_2_21,gd_0_no (by omega)];simp
 rw [<- hR]
 clear hR
 obtain ⟨b1,hb1⟩:∃ b:Bool,b=(plainB 21 nums text name c kids 0 false false):=⟨_,rfl⟩
 have C1:Hid (∀ W,Below w.heap.size w W->Calls Tryz.prog 110 #[.agg #[.int .i64 21,.int .i64 at1,.slice A1 n1 c1,.slice A2 n2 c2,.string name,.int .i32 c,.slice A m cc],.int .i64 0,.bool false,.bool false] W fun e w'=>e= .returned (.bool b1)/\Below W.heap.size W w'):=by
  unfold Hid;rw [hb1];intro W _;exact plain_walk 21 at1 A1 n1 c1 A2 n2 c2 name c A m cc nums text kids HY.out.hn HY.out.ht HY.out.hm 0 false false W
 rw [<- hb1] at HR
 clear hb1
 obtain ⟨b2,hb2⟩:∃ b:Bool,b=(gd (.mk 21 nums text name c kids) 0):=⟨_,rfl⟩
 have C2:Hid (∀ W,Below w.heap.size w W->Calls Tryz.prog 69 #[.agg #[.int .i64 21,.int .i64 at1,.slice A1 n1 c1,.slice A2 n2 c2,.string name,.int .i32 c,.slice A m cc]] W fun e w'=>e= .returned (.bool b2)/\Below W.heap.size W w'):=by
  unfold Hid;rw [hb2];intro W hb;exact HW0.out W hb
 rw [<- hb2] at HR
 clear hb2
 have X0:=Lib.hid (boxedT w [.int .i64 21,.int .i64 at1,.slice A1 n1 c1,.slice A2 n2 c2,.string name,.int .i32 c,.slice A m cc] 31)
 clear HY HW0
 go_enter Tryz.func117,Tryz.ntmps117
 go_wp2_with fail
 generalize w.alloc (.cells #[.int .i64 21,.int .i64 at1,.slice A1 n1 c1,.slice A2 n2 c2,.string name,.int .i32 c,.slice A m cc] 31)=W at *
 refine (C1.out _ X0.out.2.1).mono ?_
 rintro e w1 ⟨rfl,hb⟩
 have X1:=Lib.hid (X0.out.step hb)
 clear hb
 obtain ⟨x0,x1,x2,x3,x4,x5,x6⟩:=X1.out.c7
 cases b1
 case true =>
  have HT:Hid (R=true):=by unfold Hid;rw [HR.out] <;> simp
  go_wp2
  go_ret
  exact ⟨by rw [HT.out];rfl,X1.out.2.1⟩
 go_wp2_with fail
 refine (C2.out _ X1.out.2.1).mono ?_
 rintro e w2 ⟨rfl,hb⟩
 have X2:=Lib.hid (X1.out.step hb)
 clear hb x0 x1 x2 x3 x4 x5 x6
 obtain ⟨x0,x1,x2,x3,x4,x5,x6⟩:=X2.out.c7
 cases b2
 case false =>
  have HT:Hid (R=false):=by unfold Hid;rw [HR.out] <;> simp
  go_wp2
  go_ret
  exact ⟨by rw [HT.out];rfl,X2.out.2.1⟩
 have HT:Hid (R=true):=by unfold Hid;rw [HR.out] <;> simp
 go_wp2
 go_ret
 exact ⟨by rw [HT.out];rfl,X2.out.2.1⟩
theorem idx_no {at1:Int}{A1:Option Addr}{n1 c1:Nat}{A2:Option Addr}{n2 c2:Nat}{name:ByteArray}{k:Int}{c:Int}{cc:Nat}{nums:List Nat}{text:List Int}{w:World}{A:Option Addr}{m:Nat}{kids:List RTree} (hk:k≠21)
  (HW0:Hid (∀ W,Below w.heap.size w W->Calls Tryz.prog 69 #[.agg #[.int .i64 k,.int .i64 at1,.slice A1 n1 c1,.slice A2 n2 c2,.string name,.int .i32 c,.slice A m cc]] W fun e w'=>e= .returned (.bool (gd (.mk k nums text name c kids) 0))/\Below W.heap.size W w'))
  : Calls Tryz.prog 117 #[.agg #[.int .i64 k,.int .i64 at1,.slice A1 n1 c1,.slice A2 n2 c2,.string name,.int .i32 c,.slice A m cc]] w fun e w'=>e= .returned (.bool (gd (.mk k nums text name c kids) 2))/\Below w.heap.size w w':=by
 have q1:(k==21)=false:=by simp;omega
 obtain ⟨R,hR⟩:∃ R,R=gd (.mk k nums text name c kids) 2:=⟨_,rfl⟩
 have HR:Hid (R=(gd (.mk k nums text name c kids) 0)):=by
  unfold Hid;rw [hR];exact gd_2_no hk
 rw [<- hR]
 clear hR
 obtain ⟨b1,hb1⟩:∃ b:Bool,b=(gd (.mk k nums text name c kids) 0):=⟨_,rfl⟩
 have C1:Hid (∀ W,Below w.heap.size w W->Calls Tryz.prog 69 #[.agg #[.int .i64 k,.int .i64 at1,.slice A1 n1 c1,.slice A2 n2 c2,.string name,.int .i32 c,.slice A m cc]] W fun e w'=>e= .returned (.bool b1)/\Below W.heap.size W w'):=by
  unfold Hid;rw [hb1];intro W hb;exact HW0.out W hb
 rw [<- hb1] at HR
 clear hb1
 have X0:=Lib.hid (boxedT w [.int .i64 k,.int .i64 at1,.slice A1 n1 c1,.slice A2 n2 c2,.string name,.int .i32 c,.slice A m cc] 31)
 clear HW0
 clear hk
 go_enter Tryz.func117,Tryz.ntmps117
 go_wp2_with fail
 generalize w.alloc (.cells #[.int .i64 k,.int .i64 at1,.slice A1 n1 c1,.slice A2 n2 c2,.string name,.int .i32 c,.slice A m cc] 31)=W at *
 refine (C1.out _ X0.out.2.1).mono ?_
 rintro e w1 ⟨rfl,hb⟩
 have X1:=Lib.hid (X0.out.step hb)
 clear hb
 obtain ⟨x0,x1,x2,x3,x4,x5,x6⟩:=X1.out.c7
 cases b1
 case false =>
  have HT:Hid (R=false):=by unfold Hid;rw [HR.out] <;> simp
  go_wp2
  go_ret
  exact ⟨by rw [HT.out];rfl,X1.out.2.1⟩
 have HT:Hid (R=true):=by unfold Hid;rw [HR.out] <;> simp
 go_wp2
 go_ret
 exact ⟨by rw [HT.out];rfl,X1.out.2.1⟩
theorem bind_a {N:Nat}{at1:Int}{A1:Option Addr}{n1 c1:Nat}{A2:Option Addr}{n2 c2:Nat}{name:ByteArray}{k:Int}{c:Int}{cc:Nat}{nums:List Nat}{text:List Int}{w:World}{A:Option Addr}{m:Nat}{kids:List RTree} (h0:(m:Int)≠1)
  (HY:Hid (NodeW N w A1 n1 c1 A2 n2 c2 name A m cc nums text kids))
  : Calls Tryz.prog 72 #[.agg #[.int .i64 k,.int .i64 at1,.slice A1 n1 c1,.slice A2 n2 c2,.string name,.int .i32 c,.slice A m cc]] w fun e w'=>e= .returned (.bool (gd (.mk k nums text name c kids) 4))/\Below w.heap.size w w':=by
 obtain ⟨R,hR⟩:∃ R,R=gd (.mk k nums text name c kids) 4:=⟨_,rfl⟩
 have HR:Hid (R=(false)):=by
  unfold Hid;rw [hR];rw [gd_4,decide_eq_false (by have:=HY.out.hm;omega)];rfl
 rw [<- hR]
 clear hR
 have X0:=Lib.hid (boxedT w [.int .i64 k,.int .i64 at1,.slice A1 n1 c1,.slice A2 n2 c2,.string name,.int .i32 c,.slice A m cc] 31)
 clear HY
 have h1:((m:Int)==1)=false:=by simp;omega
 clear h0
 go_enter Tryz.func72,Tryz.ntmps72
 go_wp2
 go_ret
 exact ⟨by rw [HR.out];rfl,X0.out.2.1⟩
theorem bind_b {N:Nat}{at1:Int}{A1:Option Addr}{n1 c1:Nat}{A2:Option Addr}{n2 c2:Nat}{name:ByteArray}{k:Int}{c:Int}{cc:Nat}{nums:List Nat}{text:List Int}{w:World}{b o:Nat}{u00 u01 u02 u03 u04 u05 u06:Value}{t0:RTree}
  (HY:Hid (NodeW N w A1 n1 c1 A2 n2 c2 name (some ⟨b,o,none⟩) 1 cc nums text [t0]))
  (HR0:Hid (TN w t0 [u00,u01,u02,u03,u04,u05,u06])) (HC0:Hid (KidC w b o u00 u01 u02 u03 u04 u05 u06)) (OK0:Hid (sizeR t0<=N/\FitG t0))
  (HIF:Hid (Tells 70 (fun t=>gd t 1) (fun t=>sizeR t<=N/\FitG t)))
  : Calls Tryz.prog 72 #[.agg #[.int .i64 k,.int .i64 at1,.slice A1 n1 c1,.slice A2 n2 c2,.string name,.int .i32 c,.slice (some ⟨b,o,none⟩) 1 cc]] w fun e w'=>e= .returned (.bool (gd (.mk k nums text name c [t0]) 4))/\Below w.heap.size w w':=by
 obtain ⟨R,hR⟩:∃ R,R=gd (.mk k nums text name c [t0]) 4:=⟨_,rfl⟩
 have HR:Hid (R=(goodNB (runesOf name)&&upB name&&gd t0 1&&plainB k nums text name c [t0] 1 true false)):=by
  unfold Hid;rw [hR];rw [gd_4];simp [gds,Bool.and_assoc]
 rw [<- hR]
 clear hR
 obtain ⟨b1,hb1⟩:∃ b:Bool,b=(goodNB (runesOf name)):=⟨_,rfl⟩
 have C1:Hid (∀ W,Below w.heap.size w W->Calls Tryz.prog 114 #[.string name] W fun e w'=>e= .returned (.bool b1)/\Below W.heap.size W w'):=by
  unfold Hid;rw [hb1];intro W _;exact gname_walk name W HY.out.fs
 rw [<- hb1] at HR
 clear hb1
 obtain ⟨b2,hb2⟩:∃ b:Bool,b=(upB name):=⟨_,rfl⟩
 have C2:Hid (∀ W,Below w.heap.size w W->Calls Tryz.prog 115 #[.string name] W fun e w'=>e= .returned (.bool b2)/\W=w'):=by
  unfold Hid;rw [hb2];intro W _;exact upper_walk name W
 rw [<- hb2] at HR
 clear hb2
 obtain ⟨b3,hb3⟩:∃ b:Bool,b=(gd t0 1):=⟨_,rfl⟩
 have C3:Hid (∀ W,Below w.heap.size w W->Calls Tryz.prog 70 #[.agg #[u00,u01,u02,u03,u04,u05,u06]] W fun e w'=>e= .returned (.bool b3)/\Below W.heap.size W w'):=by
  unfold Hid;rw [hb3];intro W hb;exact HIF.out t0 _ _ _ _ _ _ _ W OK0.out (TN.below hb _ _ HR0.out)
 rw [<- hb3] at HR
 clear hb3
 obtain ⟨b4,hb4⟩:∃ b:Bool,b=(plainB k nums text name c [t0] 1 true false):=⟨_,rfl⟩
 have C4:Hid (∀ W,Below w.heap.size w W->Calls Tryz.prog 110 #[.agg #[.int .i64 k,.int .i64 at1,.slice A1 n1 c1,.slice A2 n2 c2,.string name,.int .i32 c,.slice (some ⟨b,o,none⟩) 1 cc],.int .i64 1,.bool true,.bool false] W fun e w'=>e= .returned (.bool b4)/\Below W.heap.size W w'):=by
  unfold Hid;rw [hb4];intro W _;exact plain_walk k at1 A1 n1 c1 A2 n2 c2 name c (some ⟨b,o,none⟩) 1 cc nums text [t0] HY.out.hn HY.out.ht HY.out.hm 1 true false W
 rw [<- hb4] at HR
 clear hb4
 have X0:=Lib.hid (boxedT w [.int .i64 k,.int .i64 at1,.slice A1 n1 c1,.slice A2 n2 c2,.string name,.int .i32 c,.slice (some ⟨b,o,none⟩) 1 cc] 31)
 clear HY HIF HR0 OK0
 go_enter Tryz.func72,Tryz.ntmps72
 go_wp2_with fail
 generalize w.alloc (.cells #[.int .i64 k,.int .i64 at1,.slice A1 n1 c1,.slice A2 n2 c2,.string name,.int .i32 c,.slice (some ⟨b,o,none⟩) 1 cc] 31)=W at *
 refine (C1.out _ X0.out.2.1).mono ?_
 rintro e w1 ⟨rfl,hb⟩
 have X1:=Lib.hid (X0.out.step hb)
 clear hb
 obtain ⟨x0,x1,x2,x3,x4,x5,x6⟩:=X1.out.c7
 cases b1
 case false =>
  have HT:Hid (R=false):=by unfold Hid;rw [HR.out] <;> simp
  go_wp2
  go_ret
  exact ⟨by rw [HT.out];rfl,X1.out.2.1⟩
 go_wp2_with fail
 refine (C2.out _ X1.out.2.1).mono ?_
 rintro e w2 ⟨rfl,rfl⟩
 cases b2
 case false =>
  have HT:Hid (R=false):=by unfold Hid;rw [HR.out] <;> simp
  go_wp2
  go_ret
  exact ⟨by rw [HT.out];rfl,X1.out.2.1⟩
 obtain ⟨y0,y1,y2,y3,y4,y5,y6⟩:=HC0.out _ X1.out.2.1
 go_wp2_with fail
 refine (C3.out _ X1.out.2.1).mono ?_
 rintro e w3 ⟨rfl,hb⟩
 have X3:=Lib.hid (X1.out.step hb)
 clear hb x0 x1 x2 x3 x4 x5 x6 y0 y1 y2 y3 y4 y5 y6
 obtain ⟨x0,x1,x2,x3,x4,x5,x6⟩:=X3.out.c7
 cases b3
 case false =>
  have HT:Hid (R=false):=by unfold Hid;rw [HR.out] <;> simp
  go_wp2
  go_ret
  exact ⟨by rw [HT.out];rfl,X3.out.2.1⟩
 go_wp2_with fail
 refine (C4.out _ X3.out.2.1).mono ?_
 rintro e w4 ⟨rfl,hb⟩
 have X4:=Lib.hid (X3.out.step hb)
 clear hb x0 x1 x2 x3 x4 x5 x6
 obtain ⟨x0,x1,x2,x3,x4,x5,x6⟩:=X4.out.c7
 cases b4
 case false =>
  have HT:Hid (R=false):=by unfold Hid;rw [HR.out] <;> simp
  go_wp2
  go_ret
  exact ⟨by rw [HT.out];rfl,X4.out.2.1⟩
 have HT:Hid (R=true):=by unfold Hid;rw [HR.out] <;> simp
 go_wp2
 go_ret
 exact ⟨by rw [HT.out];rfl,X4.out.2.1⟩
theorem line_19a {N:Nat}{at1:Int}{A1:Option Addr}{n1 c1:Nat}{A2:Option Addr}{n2 c2:Nat}{name:ByteArray}{c:Int}{cc:Nat}{nums:List Nat}{text:List Int}{w:World}{A:Option Addr}{m:Nat}{kids:List RTree} (h0:(m:Int)≠2)
  (HY:Hid (NodeW N w A1 n1 c1 A2 n2 c2 name A m cc nums text kids))
  : Calls Tryz.prog 120 #[.agg #[.int .i64 19,.int .i64 at1,.slice A1 n1 c1,.slice A2 n2 c2,.string name,.int .i32 c,.slice A m cc]] w fun e w'=>e= .returned (.bool (gd (.mk 19 nums text name c kids) 3))/\Below w.heap.size w w':=by
 obtain ⟨R,hR⟩:∃ R,R=gd (.mk 19 nums text name c kids) 3:=⟨_,rfl⟩
 have HR:Hid (R=(plainB 19 nums text name c kids 2 false false)):=by
  unfold Hid;rw [hR];rw [gd_3_19,plainB_len (n:=2) (by omega) (by rw [<- HY.out.hm];exact h0)];simp
 rw [<- hR]
 clear hR
 obtain ⟨b1,hb1⟩:∃ b:Bool,b=(plainB 19 nums text name c kids 2 false false):=⟨_,rfl⟩
 have C1:Hid (∀ W,Below w.heap.size w W->Calls Tryz.prog 110 #[.agg #[.int .i64 19,.int .i64 at1,.slice A1 n1 c1,.slice A2 n2 c2,.string name,.int .i32 c,.slice A m cc],.int .i64 2,.bool false,.bool false] W fun e w'=>e= .returned (.bool b1)/\Below W.heap.size W w'):=by
  unfold Hid;rw [hb1];intro W _;exact plain_walk 19 at1 A1 n1 c1 A2 n2 c2 name c A m cc nums text kids HY.out.hn HY.out.ht HY.out.hm 2 false false W
 rw [<- hb1] at HR
 have kb1:b1=false:=by rw [hb1];exact plainB_len (by omega) (by rw [<- HY.out.hm];exact h0)
 clear hb1
 subst kb1
 have X0:=Lib.hid (boxedT w [.int .i64 19,.int .i64 at1,.slice A1 n1 c1,.slice A2 n2 c2,.string name,.int .i32 c,.slice A m cc] 31)
 clear HY
 go_enter Tryz.func120,Tryz.ntmps120
 go_wp2_with fail
 generalize w.alloc (.cells #[.int .i64 19,.int .i64 at1,.slice A1 n1 c1,.slice A2 n2 c2,.string name,.int .i32 c,.slice A m cc] 31)=W at *
 refine (C1.out _ X0.out.2.1).mono ?_
 rintro e w1 ⟨rfl,hb⟩
 have X1:=Lib.hid (X0.out.step hb)
 clear hb
 obtain ⟨x0,x1,x2,x3,x4,x5,x6⟩:=X1.out.c7
 have HT:Hid (R=false):=by unfold Hid;rw [HR.out] <;> simp
 go_wp2
 go_ret
 exact ⟨by rw [HT.out];rfl,X1.out.2.1⟩
theorem line_19b {N:Nat}{at1:Int}{A1:Option Addr}{n1 c1:Nat}{A2:Option Addr}{n2 c2:Nat}{name:ByteArray}{c:Int}{cc:Nat}{nums:List Nat}{text:List Int}{w:World}{b o:Nat}{u00 u01 u02 u03 u04 u05 u06:Value}{u10 u11 u12 u13 u14 u15 u16:Value}{t0 t1:RTree}
  (HY:Hid (NodeW N w A1 n1 c1 A2 n2 c2 name (some ⟨b,o,none⟩) 2 cc nums text [t0,t1]))
  (HR0:Hid (TN w t0 [u00,u01,u02,u03,u04,u05,u06])) (HC0:Hid (KidC w b o u00 u01 u02 u03 u04 u05 u06)) (OK0:Hid (sizeR t0<=N/\FitG t0))
  (HR1:Hid (TN w t1 [u10,u11,u12,u13,u14,u15,u16])) (HC1:Hid (KidC w b (o+7) u10 u11 u12 u13 u14 u15 u16)) (OK1:Hid (sizeR t1<=N/\FitG t1))
  (HIV:Hid (Tells 69 (fun t=>gd t 0) (fun t=>sizeR t<=N/\FitG t)))
  : Calls Tryz.prog 120 #[.agg #[.int .i64 19,.int .i64 at1,.slice A1 n1 c1,.slice A2 n2 c2,.string name,.int .i32 c,.slice (some ⟨b,o,none⟩) 2 cc]] w fun e w'=>e= .returned (.bool (gd (.mk 19 nums text name c [t0,t1]) 3))/\Below w.heap.size w w':=by
 obtain ⟨R,hR⟩:∃ R,R=gd (.mk 19 nums text name c [t0,t1]) 3:=⟨_,rfl⟩
 have HR:Hid (R=(plainB 19 nums text name c [t0,t1] 2 false false&&gd t0 0&&gd t1 0)):=by
  unfold Hid;rw [hR];rw [gd_3_19];simp [gds,Bool.and_assoc]
 rw [<- hR]
 clear hR
 obtain ⟨b1,hb1⟩:∃ b:Bool,b=(plainB 19 nums text name c [t0,t1] 2 false false):=⟨_,rfl⟩
 have C1:Hid (∀ W,Below w.heap.size w W->Calls Tryz.prog 110 #[.agg #[.int .i64 19,.int .i64 at1,.slice A1 n1 c1,.slice A2 n2 c2,.string name,.int .i32 c,.slice (some ⟨b,o,none⟩) 2 cc],.int .i64 2,.bool false,.bool false] W fun e w'=>e= .returned (.bool b1)/\Below W.heap.size W w'):=by
  unfold Hid;rw [hb1];intro W _;exact plain_walk 19 at1 A1 n1 c1 A2 n2 c2 name c (some ⟨b,o,none⟩) 2 cc nums text [t0,t1] HY.out.hn HY.out.ht HY.out.hm 2 false false W
 rw [<- hb1] at HR
 clear hb1
 obtain ⟨b2,hb2⟩:∃ b:Bool,b=(gd t0 0):=⟨_,rfl⟩
 have C2:Hid (∀ W,Below w.heap.size w W->Calls Tryz.prog 69 #[.agg #[u00,u01,u02,u03,u04,u05,u06]] W fun e w'=>e= .returned (.bool b2)/\Below W.heap.size W w'):=by
  unfold Hid;rw [hb2];intro W hb;exact HIV.out t0 _ _ _ _ _ _ _ W OK0.out (TN.below hb _ _ HR0.out)
 rw [<- hb2] at HR
 clear hb2
 obtain ⟨b3,hb3⟩:∃ b:Bool,b=(gd t1 0):=⟨_,rfl⟩
 have C3:Hid (∀ W,Below w.heap.size w W->Calls Tryz.prog 69 #[.agg #[u10,u11,u12,u13,u14,u15,u16]] W fun e w'=>e= .returned (.bool b3)/\Below W.heap.size W w'):=by
  unfold Hid;rw [hb3];intro W hb;exact HIV.out t1 _ _ _ _ _ _ _ W OK1.out (TN.below hb _ _ HR1.out)
 rw [<- hb3] at HR
 clear hb3
 have X0:=Lib.hid (boxedT w [.int .i64 19,.int .i64 at1,.slice A1 n1 c1,.slice A2 n2 c2,.string name,.int .i32 c,.slice (some ⟨b,o,none⟩) 2 cc] 31)
 clear HY HIV HR0 OK0 HR1 OK1
 go_enter Tryz.func120,Tryz.ntmps120
 go_wp2_with fail
 generalize w.alloc (.cells #[.int .i64 19,.int .i64 at1,.slice A1 n1 c1,.slice A2 n2 c2,.string name,.int .i32 c,.slice (some ⟨b,o,none⟩) 2 cc] 31)=W at *
 refine (C1.out _ X0.out.2.1).mono ?_
 rintro e w1 ⟨rfl,hb⟩
 have X1:=Lib.hid (X0.out.step hb)
 clear hb
 obtain ⟨x0,x1,x2,x3,x4,x5,x6⟩:=X1.out.c7
 cases b1
 case false =>
  have HT:Hid (R=false):=by unfold Hid;rw [HR.out] <;> simp
  go_wp2
  go_ret
  exact ⟨by rw [HT.out];rfl,X1.out.2.1⟩
 obtain ⟨y0,y1,y2,y3,y4,y5,y6⟩:=HC0.out _ X1.out.2.1
 go_wp2_with fail
 refine (C2.out _ X1.out.2.1).mono ?_
 rintro e w2 ⟨rfl,hb⟩
 have X2:=Lib.hid (X1.out.step hb)
 clear hb x0 x1 x2 x3 x4 x5 x6 y0 y1 y2 y3 y4 y5 y6
 obtain ⟨x0,x1,x2,x3,x4,x5,x6⟩:=X2.out.c7
 cases b2
 case false =>
  have HT:Hid (R=false):=by unfold Hid;rw [HR.out] <;> simp
  go_wp2
  go_ret
  exact ⟨by rw [HT.out];rfl,X2.out.2.1⟩
 obtain ⟨y0,y1,y2,y3,y4,y5,y6⟩:=HC1.out _ X2.out.2.1
 go_wp2_with fail
 refine (C3.out _ X2.out.2.1).mono ?_
 rintro e w3 ⟨rfl,hb⟩
 have X3:=Lib.hid (X2.out.step hb)
 clear hb x0 x1 x2 x3 x4 x5 x6 y0 y1 y2 y3 y4 y5 y6
 obtain ⟨x0,x1,x2,x3,x4,x5,x6⟩:=X3.out.c7
 cases b3
 case false =>
  have HT:Hid (R=false):=by unfold Hid;rw [HR.out] <;> simp
  go_wp2
  go_ret
  exact ⟨by rw [HT.out];rfl,X3.out.2.1⟩
 have HT:Hid (R=true):=by unfold Hid;rw [HR.out] <;> simp
 go_wp2
 go_ret
 exact ⟨by rw [HT.out];rfl,X3.out.2.1⟩
theorem line_20 {at1:Int}{A1:Option Addr}{n1 c1:Nat}{A2:Option Addr}{n2 c2:Nat}{name:ByteArray}{c:Int}{cc:Nat}{nums:List Nat}{text:List Int}{w:World}{A:Option Addr}{m:Nat}{kids:List RTree}
  (HW0:Hid (∀ W,Below w.heap.size w W->Calls Tryz.prog 69 #[.agg #[.int .i64 20,.int .i64 at1,.slice A1 n1 c1,.slice A2 n2 c2,.string name,.int .i32 c,.slice A m cc]] W fun e w'=>e= .returned (.bool (gd (.mk 20 nums text name c kids) 0))/\Below W.heap.size W w'))
  (HW4:Hid (∀ W,Below w.heap.size w W->Calls Tryz.prog 72 #[.agg #[.int .i64 20,.int .i64 at1,.slice A1 n1 c1,.slice A2 n2 c2,.string name,.int .i32 c,.slice A m cc]] W fun e w'=>e= .returned (.bool (gd (.mk 20 nums text name c kids) 4))/\Below W.heap.size W w'))
  : Calls Tryz.prog 120 #[.agg #[.int .i64 20,.int .i64 at1,.slice A1 n1 c1,.slice A2 n2 c2,.string name,.int .i32 c,.slice A m cc]] w fun e w'=>e= .returned (.bool (gd (.mk 20 nums text name c kids) 3))/\Below w.heap.size w w':=by
 obtain ⟨R,hR⟩:∃ R,R=gd (.mk 20 nums text name c kids) 3:=⟨_,rfl⟩
 have HR:Hid (R=(gd (.mk 20 nums text name c kids) 4||gd (.mk 20 nums text name c kids) 0)):=by
  unfold Hid;rw [hR];rw [gd_3_20,gd_0_no (by omega)];simp
 rw [<- hR]
 clear hR
 obtain ⟨b1,hb1⟩:∃ b:Bool,b=(gd (.mk 20 nums text name c kids) 4):=⟨_,rfl⟩
 have C1:Hid (∀ W,Below w.heap.size w W->Calls Tryz.prog 72 #[.agg #[.int .i64 20,.int .i64 at1,.slice A1 n1 c1,.slice A2 n2 c2,.string name,.int .i32 c,.slice A m cc]] W fun e w'=>e= .returned (.bool b1)/\Below W.heap.size W w'):=by
  unfold Hid;rw [hb1];intro W hb;exact HW4.out W hb
 rw [<- hb1] at HR
 clear hb1
 obtain ⟨b2,hb2⟩:∃ b:Bool,b=(gd (.mk 20 nums text name c kids) 0):=⟨_,rfl⟩
 have C2:Hid (∀ W,Below w.heap.size w W->Calls Tryz.prog 69 #[.agg #[.int .i64 20,.int .i64 at1,.slice A1 n1 c1,.slice A2 n2 c2,.string name,.int .i32 c,.slice A m cc]] W fun e w'=>e= .returned (.bool b2)/\Below W.heap.size W w'):=by
  unfold Hid;rw [hb2];intro W hb;exact HW0.out W hb
 rw [<- hb2] at HR
 clear hb2
 have X0:=Lib.hid (boxedT w [.int .i64 20,.int .i64 at1,.slice A1 n1 c1,.slice A2 n2 c2,.string name,.int .i32 c,.slice A m cc] 31)
 clear HW0 HW4
 go_enter Tryz.func120,Tryz.ntmps120
 go_wp2_with fail
 generalize w.alloc (.cells #[.int .i64 20,.int .i64 at1,.slice A1 n1 c1,.slice A2 n2 c2,.string name,.int .i32 c,.slice A m cc] 31)=W at *
 refine (C1.out _ X0.out.2.1).mono ?_
 rintro e w1 ⟨rfl,hb⟩
 have X1:=Lib.hid (X0.out.step hb)
 clear hb
 obtain ⟨x0,x1,x2,x3,x4,x5,x6⟩:=X1.out.c7
 cases b1
 case true =>
  have HT:Hid (R=true):=by unfold Hid;rw [HR.out] <;> simp
  go_wp2
  go_ret
  exact ⟨by rw [HT.out];rfl,X1.out.2.1⟩
 go_wp2_with fail
 refine (C2.out _ X1.out.2.1).mono ?_
 rintro e w2 ⟨rfl,hb⟩
 have X2:=Lib.hid (X1.out.step hb)
 clear hb x0 x1 x2 x3 x4 x5 x6
 obtain ⟨x0,x1,x2,x3,x4,x5,x6⟩:=X2.out.c7
 cases b2
 case false =>
  have HT:Hid (R=false):=by unfold Hid;rw [HR.out] <;> simp
  go_wp2
  go_ret
  exact ⟨by rw [HT.out];rfl,X2.out.2.1⟩
 have HT:Hid (R=true):=by unfold Hid;rw [HR.out] <;> simp
 go_wp2
 go_ret
 exact ⟨by rw [HT.out];rfl,X2.out.2.1⟩
theorem line_no {at1:Int}{A1:Option Addr}{n1 c1:Nat}{A2:Option Addr}{n2 c2:Nat}{name:ByteArray}{k:Int}{c:Int}{cc:Nat}{nums:List Nat}{text:List Int}{w:World}{A:Option Addr}{m:Nat}{kids:List RTree} (hk:k≠19) (hk2:k≠20)
  (HW0:Hid (∀ W,Below w.heap.size w W->Calls Tryz.prog 69 #[.agg #[.int .i64 k,.int .i64 at1,.slice A1 n1 c1,.slice A2 n2 c2,.string name,.int .i32 c,.slice A m cc]] W fun e w'=>e= .returned (.bool (gd (.mk k nums text name c kids) 0))/\Below W.heap.size W w'))
  : Calls Tryz.prog 120 #[.agg #[.int .i64 k,.int .i64 at1,.slice A1 n1 c1,.slice A2 n2 c2,.string name,.int .i32 c,.slice A m cc]] w fun e w'=>e= .returned (.bool (gd (.mk k nums text name c kids) 3))/\Below w.heap.size w w':=by
 have q1:(k==19)=false:=by simp;omega
 have q2:(k==20)=false:=by simp;omega
 obtain ⟨R,hR⟩:∃ R,R=gd (.mk k nums text name c kids) 3:=⟨_,rfl⟩
 have HR:Hid (R=(gd (.mk k nums text name c kids) 0)):=by
  unfold Hid;rw [hR];exact gd_3_no hk hk2
 rw [<- hR]
 clear hR
 obtain ⟨b1,hb1⟩:∃ b:Bool,b=(gd (.mk k nums text name c kids) 0):=⟨_,rfl⟩
 have C1:Hid (∀ W,Below w.heap.size w W->Calls Tryz.prog 69 #[.agg #[.int .i64 k,.int .i64 at1,.slice A1 n1 c1,.slice A2 n2 c2,.string name,.int .i32 c,.slice A m cc]] W fun e w'=>e= .returned (.bool b1)/\Below W.heap.size W w'):=by
  unfold Hid;rw [hb1];intro W hb;exact HW0.out W hb
 rw [<- hb1] at HR
 clear hb1
 have X0:=Lib.hid (boxedT w [.int .i64 k,.int .i64 at1,.slice A1 n1 c1,.slice A2 n2 c2,.string name,.int .i32 c,.slice A m cc] 31)
 clear HW0
 clear hk hk2
 go_enter Tryz.func120,Tryz.ntmps120
 go_wp2_with fail
 generalize w.alloc (.cells #[.int .i64 k,.int .i64 at1,.slice A1 n1 c1,.slice A2 n2 c2,.string name,.int .i32 c,.slice A m cc] 31)=W at *
 refine (C1.out _ X0.out.2.1).mono ?_
 rintro e w1 ⟨rfl,hb⟩
 have X1:=Lib.hid (X0.out.step hb)
 clear hb
 obtain ⟨x0,x1,x2,x3,x4,x5,x6⟩:=X1.out.c7
 cases b1
 case false =>
  have HT:Hid (R=false):=by unfold Hid;rw [HR.out] <;> simp
  go_wp2
  go_ret
  exact ⟨by rw [HT.out];rfl,X1.out.2.1⟩
 have HT:Hid (R=true):=by unfold Hid;rw [HR.out] <;> simp
 go_wp2
 go_ret
 exact ⟨by rw [HT.out];rfl,X1.out.2.1⟩
end Go.Proofs.YtbakjaliponbbaaGreatDoor
