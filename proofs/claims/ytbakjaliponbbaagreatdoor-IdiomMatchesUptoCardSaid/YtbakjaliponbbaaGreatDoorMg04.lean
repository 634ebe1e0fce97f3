/- Which trees are good: the plain law. No program in sight but memory's words. Walks of slices.Equal over numbers and over runes. The walks of slices.EqualFunc .. Conditions: as each theorem says. -/
import Derived.Test.YtbakjaliponbbaaGreatDoorMg02
import Derived.Test.YtbakjaliponbbaaGreatDoorMg00
import Derived.Test.YtbakjaliponbbaaGreatDoorMg03
import Derived.Deep.QuietTactic
import Derived.BigQuiet
import Derived.StillTailTactics
import Derived.OwnWalk
import Derived.Laws.OwnMore
import Derived.Deep.OwnRows
set_option maxHeartbeats 400000
namespace Go.Proofs.YtbakjaliponbbaaGreatDoor
open Go Go.RowKit Go.Proofs
def plainB (k:Int) (nums:List Nat) (text:List Int) (name:ByteArray) (c:Int) (kids:List RTree) (n:Int) (nm ch:Bool):Bool :=
 (decide (n < 0)||decide ((kids.length:Int)=n))&&(nm||decide (name.toList=[]))&&(ch||decide (c=0))&&(decide (k=1)||decide (nums.length=0))&&(decide (k=2)||decide (text.length=0))
def slashB (c:Int):Bool:=decide (c=47\/c=92\/c=9023\/c=9024)
def verbB (c:Int):Bool:=decide (c∈verbsL)
def kindR:RTree->Int
 | .mk k _ _ _ _ _=>k
mutual
def gd:RTree->Nat->Bool
 | .mk k nums text name c kids,0 =>
  if k=1 then decide (0 < nums.length)&&plainB k nums text name c kids 0 false false&&nums.all isFin
  else if k=2 then plainB k nums text name c kids 0 false false&&!text.any (fun x=>decide (x=10))
  else if k=3 then plainB k nums text name c kids 0 true false&&goodNB (runesOf name)&&!upB name
  else if k=4\/k=5\/k=6 then plainB k nums text name c kids 0 false false
  else if k=7 then plainB k nums text name c kids (-1) false false&&decide (1 < kids.length)&&gds kids 0
  else if k=8 then plainB k nums text name c kids (-1) false false&&decide (1 < kids.length)&&gdh kids 0 2
  else if k=9 then plainB k nums text name c kids 2 false false&&gdh kids 1 0
  else if k=10 then plainB k nums text name c kids 3 false false&&gdh kids 1 0
  else if k=11 then plainB k nums text name c kids 1 true false&&goodNB (runesOf name)&&!upB name&&gds kids 0
  else if k=12 then plainB k nums text name c kids (-1) true false&&decide (1 < kids.length)&&goodNB (runesOf name)&&!upB name&&gdl kids 2 0
  else false
 | .mk k nums text name c kids,1 =>
  if k=13 then plainB k nums text name c kids 0 false true&&(verbB c||slashB c)
  else if k=14 then plainB k nums text name c kids 0 true false&&goodNB (runesOf name)&&upB name
  else if k=15 then plainB k nums text name c kids (-1) false false&&decide (0 < kids.length)&&gds kids 3
  else if k=16 then plainB k nums text name c kids 1 false true&&(slashB c||decide (c=168)||decide (c=9064))&&gds kids 1
  else if k=17 then plainB k nums text name c kids 2 false false&&gds kids 1
  else if k=18 then plainB k nums text name c kids 1 false false&&gds kids 1
  else false
 | .mk k nums text name c kids,2 =>
  if k=21 then plainB k nums text name c kids 0 false false else gd (.mk k nums text name c kids) 0
 | .mk k nums text name c kids,3 =>
  if k=19 then plainB k nums text name c kids 2 false false&&gds kids 0
  else if k=20 then gd (.mk k nums text name c kids) 4
  else gd (.mk k nums text name c kids) 0
 | .mk k nums text name c kids,_=>decide (kids.length=1)&&goodNB (runesOf name)&&upB name&&gds kids 1&&plainB k nums text name c kids 1 true false
termination_by t s=>(SizeOf.sizeOf t,if s=2\/s=3 then 1 else 0)
def gds:List RTree->Nat->Bool
 | [],_=>true
 | t::ts,s=>gd t s&&gds ts s
termination_by ts _=>(SizeOf.sizeOf ts,0)
def gdh:List RTree->Nat->Nat->Bool
 | [],_,_=>true
 | t::ts,a,b=>gd t a&&gds ts b
termination_by ts _ _=>(SizeOf.sizeOf ts,0)
def gdl:List RTree->Nat->Nat->Bool
 | [],_,_=>true
 | [t],_,b=>gd t b
 | t::t2::ts,a,b=>gd t a&&gdl (t2::ts) a b
termination_by ts _ _=>(SizeOf.sizeOf ts,0)
end
theorem gd_0_1 {nums:List Nat}{text:List Int}{name:ByteArray}{c:Int}{kids:List RTree}:gd (.mk 1 nums text name c kids) 0=(decide (0 < nums.length)&&plainB 1 nums text name c kids 0 false false&&nums.all isFin):=by rw [gd];rfl
theorem gd_0_2 {nums:List Nat}{text:List Int}{name:ByteArray}{c:Int}{kids:List RTree}:gd (.mk 2 nums text name c kids) 0=(plainB 2 nums text name c kids 0 false false&&!text.any (fun x=>decide (x=10))):=by rw [gd];rfl
theorem gd_0_3 {nums:List Nat}{text:List Int}{name:ByteArray}{c:Int}{kids:List RTree}:gd (.mk 3 nums text name c kids) 0=(plainB 3 nums text name c kids 0 true false&&goodNB (runesOf name)&&!upB name):=by rw [gd];rfl
theorem gd_0_4 {nums:List Nat}{text:List Int}{name:ByteArray}{c:Int}{kids:List RTree}:gd (.mk 4 nums text name c kids) 0=(plainB 4 nums text name c kids 0 false false):=by rw [gd];rfl
theorem gd_0_5 {nums:List Nat}{text:List Int}{name:ByteArray}{c:Int}{kids:List RTree}:gd (.mk 5 nums text name c kids) 0=(plainB 5 nums text name c kids 0 false false):=by rw [gd];rfl
theorem gd_0_6 {nums:List Nat}{text:List Int}{name:ByteArray}{c:Int}{kids:List RTree}:gd (.mk 6 nums text name c kids) 0=(plainB 6 nums text name c kids 0 false false):=by rw [gd];rfl
theorem gd_0_7 {nums:List Nat}{text:List Int}{name:ByteArray}{c:Int}{kids:List RTree}:gd (.mk 7 nums text name c kids) 0=(plainB 7 nums text name c kids (-1) false false&&decide (1 < kids.length)&&gds kids 0):=by rw [gd];rfl
theorem gd_0_8 {nums:List Nat}{text:List Int}{name:ByteArray}{c:Int}{kids:List RTree}:gd (.mk 8 nums text name c kids) 0=(plainB 8 nums text name c kids (-1) false false&&decide (1 < kids.length)&&gdh kids 0 2):=by rw [gd];rfl
theorem gd_0_9 {nums:List Nat}{text:List Int}{name:ByteArray}{c:Int}{kids:List RTree}:gd (.mk 9 nums text name c kids) 0=(plainB 9 nums text name c kids 2 false false&&gdh kids 1 0):=by rw [gd];rfl
theorem gd_0_10 {nums:List Nat}{text:List Int}{name:ByteArray}{c:Int}{kids:List RTree}:gd (.mk 10 nums text name c kids) 0=(plainB 10 nums text name c kids 3 false false&&gdh kids 1 0):=by rw [gd];rfl
theorem gd_0_11 {nums:List Nat}{text:List Int}{name:ByteArray}{c:Int}{kids:List RTree}:gd (.mk 11 nums text name c kids) 0=(plainB 11 nums text name c kids 1 true false&&goodNB (runesOf name)&&!upB name&&gds kids 0):=by rw [gd];rfl
theorem gd_0_12 {nums:List Nat}{text:List Int}{name:ByteArray}{c:Int}{kids:List RTree}:gd (.mk 12 nums text name c kids) 0=(plainB 12 nums text name c kids (-1) true false&&decide (1 < kids.length)&&goodNB (runesOf name)&&!upB name&&gdl kids 2 0):=by rw [gd];rfl
theorem gd_1_13 {nums:List Nat}{text:List Int}{name:ByteArray}{c:Int}{kids:List RTree}:gd (.mk 13 nums text name c kids) 1=(plainB 13 nums text name c kids 0 false true&&(verbB c||slashB c)):=by rw [gd];rfl
theorem gd_1_14 {nums:List Nat}{text:List Int}{name:ByteArray}{c:Int}{kids:List RTree}:gd (.mk 14 nums text name c kids) 1=(plainB 14 nums text name c kids 0 true false&&goodNB (runesOf name)&&upB name):=by rw [gd];rfl
theorem gd_1_15 {nums:List Nat}{text:List Int}{name:ByteArray}{c:Int}{kids:List RTree}:gd (.mk 15 nums text name c kids) 1=(plainB 15 nums text name c kids (-1) false false&&decide (0 < kids.length)&&gds kids 3):=by rw [gd];rfl
theorem gd_1_16 {nums:List Nat}{text:List Int}{name:ByteArray}{c:Int}{kids:List RTree}:gd (.mk 16 nums text name c kids) 1=(plainB 16 nums text name c kids 1 false true&&(slashB c||decide (c=168)||decide (c=9064))&&gds kids 1):=by rw [gd];rfl
theorem gd_1_17 {nums:List Nat}{text:List Int}{name:ByteArray}{c:Int}{kids:List RTree}:gd (.mk 17 nums text name c kids) 1=(plainB 17 nums text name c kids 2 false false&&gds kids 1):=by rw [gd];rfl
theorem gd_1_18 {nums:List Nat}{text:List Int}{name:ByteArray}{c:Int}{kids:List RTree}:gd (.mk 18 nums text name c kids) 1=(plainB 18 nums text name c kids 1 false false&&gds kids 1):=by rw [gd];rfl
theorem gd_2_21 {nums:List Nat}{text:List Int}{name:ByteArray}{c:Int}{kids:List RTree}:gd (.mk 21 nums text name c kids) 2=(plainB 21 nums text name c kids 0 false false):=by rw [gd];rfl
theorem gd_3_19 {nums:List Nat}{text:List Int}{name:ByteArray}{c:Int}{kids:List RTree}:gd (.mk 19 nums text name c kids) 3=(plainB 19 nums text name c kids 2 false false&&gds kids 0):=by rw [gd];rfl
theorem gd_3_20 {nums:List Nat}{text:List Int}{name:ByteArray}{c:Int}{kids:List RTree}:gd (.mk 20 nums text name c kids) 3=(gd (.mk 20 nums text name c kids) 4):=by rw [gd];rfl
theorem gd_0_no {k:Int}{nums:List Nat}{text:List Int}{name:ByteArray}{c:Int}{kids:List RTree} (h:k < 1\/12 < k):gd (.mk k nums text name c kids) 0=false:=by
 rw [gd]
 rw [if_neg (by omega),if_neg (by omega),if_neg (by omega),if_neg (by omega),if_neg (by omega),if_neg (by omega),if_neg (by omega),if_neg (by omega),if_neg (by omega),if_neg (by omega)]
theorem gd_1_no {k:Int}{nums:List Nat}{text:List Int}{name:ByteArray}{c:Int}{kids:List RTree} (h:k < 13\/18 < k):gd (.mk k nums text name c kids) 1=false:=by
 rw [gd]
 rw [if_neg (by omega),if_neg (by omega),if_neg (by omega),if_neg (by omega),if_neg (by omega),if_neg (by omega)]
theorem gd_2_no {k:Int}{nums:List Nat}{text:List Int}{name:ByteArray}{c:Int}{kids:List RTree} (h:k≠21):gd (.mk k nums text name c kids) 2=gd (.mk k nums text name c kids) 0:=by
 conv=>lhs;rw [gd]
 rw [if_neg h]
theorem gd_3_no {k:Int}{nums:List Nat}{text:List Int}{name:ByteArray}{c:Int}{kids:List RTree} (h:k≠19) (h2:k≠20):gd (.mk k nums text name c kids) 3=gd (.mk k nums text name c kids) 0:=by
 conv=>lhs;rw [gd]
 rw [if_neg h,if_neg h2]
theorem gd_4 {k:Int}{nums:List Nat}{text:List Int}{name:ByteArray}{c:Int}{kids:List RTree}:gd (.mk k nums text name c kids) 4=(decide (kids.length=1)&&goodNB (runesOf name)&&upB name&&gds kids 1&&plainB k nums text name c kids 1 true false):=by
 rw [gd] <;> simp
theorem gds_eq:∀ (ts:List RTree) (s:Nat),gds ts s=ts.all (fun t=>gd t s)
 | [],_=>by rw [gds];rfl
 | t::ts,s=>by rw [gds,gds_eq ts s];rfl
theorem Reads1.opn {w:World}{v:Value}{xs:List Value} (h:Reads1 w v xs):∃ A cc n,v= .slice A n cc/\n=xs.length /\
  ∀ i (hi:i < xs.length),∃ b o,A=some ⟨b,o,none⟩/\∀ w1,Below w.heap.size w w1->w1.cell? ⟨b,o+i,none⟩=some xs[i]:=by
 rcases h with ⟨a,c,rfl,rfl⟩ | ⟨b,o,n,c,rfl,hn,hc⟩
 ·exact ⟨a,c,0,rfl,rfl,fun i hi=>by simp at hi⟩
 ·refine ⟨_,c,n,rfl,hn,fun i hi=>⟨b,o,rfl,fun w1 hb=>?_⟩⟩
  have:=hc i hi
  rw [hb.cell (cell_lt this),this]
def KidsAt (w:World) (A:Option Addr) (kids:List RTree):Prop :=
 ∀ i (hi:i < kids.length),∃ b o v0 v1 v2 v3 v4 v5 v6,A=some ⟨b,o,none⟩/\TN w kids[i] [v0,v1,v2,v3,v4,v5,v6]/\∀ w1,Below w.heap.size w w1 ->
    w1.cell? ⟨b,o+i*7,none⟩=some v0/\w1.cell? ⟨b,o+i*7+1,none⟩=some v1/\w1.cell? ⟨b,o+i*7+2,none⟩=some v2/\w1.cell? ⟨b,o+i*7+3,none⟩=some v3/\w1.cell? ⟨b,o+i*7+4,none⟩=some v4/\w1.cell? ⟨b,o+i*7+5,none⟩=some v5/\w1.cell? ⟨b,o+i*7+6,none⟩=some v6
theorem KidsAt.below {w w':World}{A:Option Addr}{kids:List RTree} (h:KidsAt w A kids) (hb:Below w.heap.size w w'):KidsAt w' A kids:=by
 intro i hi
 obtain ⟨b,o,v0,v1,v2,v3,v4,v5,v6,h1,h2,h3⟩:=h i hi
 exact ⟨b,o,v0,v1,v2,v3,v4,v5,v6,h1,TN.below hb _ _ h2,fun w1 hb1=>h3 w1 (hb.trans (hb1.mono hb.size))⟩
theorem TN.shape {w:World}{t:RTree}{v0 v1 v2 v3 v4 v5 v6:Value} (h:TN w t [v0,v1,v2,v3,v4,v5,v6]) :
  ∃ (k a c:Int) (name:ByteArray) (A1 A2 A3:Option Addr) (n1 c1 n2 c2 n3 c3:Nat),v0= .int .i64 k/\v1= .int .i64 a/\v2= .slice A1 n1 c1/\v3= .slice A2 n2 c2/\v4= .string name/\v5= .int .i32 c/\v6= .slice A3 n3 c3:=by
 cases t with
 | mk k nums text name c kids =>
  obtain ⟨a,nv,tv,A,cc,m,hvs,hrn,hrt,_,_⟩:=h.open_
  simp only [List.cons.injEq,and_true] at hvs
  obtain ⟨rfl,rfl,rfl,rfl,rfl,rfl,rfl⟩:=hvs
  obtain ⟨A1,c1,n1,rfl,_,_⟩:=hrn.opn
  obtain ⟨A2,c2,n2,rfl,_,_⟩:=hrt.opn
  exact ⟨k,a,c,name,A1,A2,A,n1,c1,n2,c2,m,cc,rfl,rfl,rfl,rfl,rfl,rfl,rfl⟩
def BoxT (w W:World) (vs:List Value):Prop:=(∀ i,W.cell? ⟨w.heap.size,i,none⟩=vs[i]?)/\Below w.heap.size w W/\w.heap.size < W.heap.size
theorem boxedT (w:World) (vs:List Value) (T:TypeId):BoxT w (w.alloc (.cells vs.toArray T)) vs :=
 ⟨fun i=>by rw [World.cell?_alloc_at _ _ _ _ rfl];simp,(Below.refl _ w).alloc (Nat.le_refl _) _,by simp⟩
theorem BoxT.step {w W W':World}{vs:List Value} (h:BoxT w W vs) (hb:Below W.heap.size W W'):BoxT w W' vs :=
 ⟨fun i=>by rw [hb.cell (p:=⟨w.heap.size,i,none⟩) h.2.2];exact h.1 i,h.2.1.trans (hb.mono (by have:=h.2.2;omega)),by have:=hb.size;have:=h.2.2;omega⟩
theorem BoxT.c7 {w W:World}{v0 v1 v2 v3 v4 v5 v6:Value} (h:BoxT w W [v0,v1,v2,v3,v4,v5,v6]):W.cell? ⟨w.heap.size,0,none⟩=some v0/\W.cell? ⟨w.heap.size,1,none⟩=some v1/\W.cell? ⟨w.heap.size,2,none⟩=some v2 /\
  W.cell? ⟨w.heap.size,3,none⟩=some v3/\W.cell? ⟨w.heap.size,4,none⟩=some v4/\W.cell? ⟨w.heap.size,5,none⟩=some v5/\W.cell? ⟨w.heap.size,6,none⟩=some v6:=⟨h.1 0,h.1 1,h.1 2,h.1 3,h.1 4,h.1 5,h.1 6⟩
end Go.Proofs.YtbakjaliponbbaaGreatDoor
namespace Go.Proofs.YtbakjaliponbbaaGreatDoor
open Go Go.RowKit Go.Proofs Fl
mutual
def FitG:RTree->Prop
 | .mk _ nums text name _ kids=>nums.length<=1048576/\(∀ x∈nums,x < 18446744073709551616)/\text.length<=1048576/\name.size<=70368744177664/\kids.length<=1048576/\FitGs kids
def FitGs:List RTree->Prop
 | []=>True
 | t::ts=>FitG t/\FitGs ts
end
theorem FitGs_at:∀ {ts:List RTree} (_:FitGs ts){i:Nat} (hi:i < ts.length),FitG ts[i]
 | [],_,_,hi=>by simp at hi
 | t::ts,h,0,_=>by rw [FitGs] at h;exact h.1
 | t::ts,h,i+1,hi=>by rw [FitGs] at h;exact FitGs_at h.2 (by simpa using hi)
structure NodeW (N:Nat) (w:World) (A1:Option Addr) (n1 c1:Nat) (A2:Option Addr) (n2 c2:Nat) (name:ByteArray) (A:Option Addr) (m cc:Nat) (nums:List Nat) (text:List Int) (kids:List RTree):Prop where
 hn:n1=nums.length
 ht:n2=text.length
 hm:m=kids.length
 hrn:Reads1 w (.slice A1 n1 c1) (nums.map (Value.float .f64))
 hrt:Reads1 w (.slice A2 n2 c2) (text.map (Value.int .i32))
 hkid:KidsAt w A kids
 hcap:m<=cc
 fn:nums.length<=1048576
 fx:∀ x∈nums,x < 18446744073709551616
 ft:text.length<=1048576
 fs:name.size<=70368744177664
 fm:m<=1048576
 ok:∀ i (hi:i < kids.length),sizeR kids[i]<=N/\FitG kids[i]
theorem TN.node {N:Nat}{w:World}{k:Int}{nums:List Nat}{text:List Int}{name:ByteArray}{c:Int}{kids:List RTree}{vs:List Value} (h:TN w (.mk k nums text name c kids) vs) (hf:FitG (.mk k nums text name c kids)) (hN:sizeR (.mk k nums text name c kids)<=N+1) :
  ∃ at1 A1 n1 c1 A2 n2 c2 A m cc,vs=[.int .i64 k,.int .i64 at1,.slice A1 n1 c1,.slice A2 n2 c2,.string name,.int .i32 c,.slice A m cc]/\NodeW N w A1 n1 c1 A2 n2 c2 name A m cc nums text kids:=by
 obtain ⟨at1,nv,tv,A,cc,m,rfl,hrn,hrt,hm,hkid⟩:=h.open_
 obtain ⟨A1,c1,n1,rfl,hn1,_⟩:=hrn.opn
 obtain ⟨A2,c2,n2,rfl,hn2,_⟩:=hrt.opn
 rw [FitG] at hf
 rw [sizeR] at hN
 refine ⟨at1,A1,n1,c1,A2,n2,c2,A,m,cc,rfl,⟨by simpa using hn1,by simpa using hn2,hm,hrn,hrt,hkid,h.cap,hf.1,hf.2.1,hf.2.2.1,hf.2.2.2.1,by rw [hm];exact hf.2.2.2.2.1,fun i hi=>⟨?_,FitGs_at hf.2.2.2.2.2 hi⟩⟩⟩
 have:=sizeRs_at hi
 omega
theorem KidsAt.tail {w:World}{b o:Nat}{t:RTree}{ts:List RTree} (h:KidsAt w (some ⟨b,o,none⟩) (t::ts)):KidsAt w (some ⟨b,o+7,none⟩) ts:=by
 intro i hi
 obtain ⟨b',o',v0,v1,v2,v3,v4,v5,v6,h1,h2,h3⟩:=h (i+1) (by simpa using hi)
 cases h1
 refine ⟨b,o+7,v0,v1,v2,v3,v4,v5,v6,rfl,by simpa using h2,fun w1 hb=>?_⟩
 have:=h3 w1 hb
 have e:o+(i+1)*7=o+7+i*7:=by omega
 rwa [e] at this
theorem KidsAt.front {w:World}{A:Option Addr}{ts us:List RTree} (h:KidsAt w A (ts++us)):KidsAt w A ts:=by
 intro i hi
 have:=h i (by simp;omega)
 rwa [List.getElem_append_left hi] at this
def KidC (w:World) (b o:Nat) (v0 v1 v2 v3 v4 v5 v6:Value):Prop:=∀ w1,Below w.heap.size w w1->w1.cell? ⟨b,o,none⟩=some v0/\w1.cell? ⟨b,o+1,none⟩=some v1/\w1.cell? ⟨b,o+2,none⟩=some v2/\w1.cell? ⟨b,o+3,none⟩=some v3/\w1.cell? ⟨b,o+4,none⟩=some v4/\w1.cell? ⟨b,o+5,none⟩=some v5/\w1.cell? ⟨b,o+6,none⟩=some v6
theorem KidsAt.kid {w:World}{A:Option Addr}{kids:List RTree} (h:KidsAt w A kids) (i:Nat) (hi:i < kids.length):∃ b o v0 v1 v2 v3 v4 v5 v6,A=some ⟨b,o,none⟩/\TN w kids[i] [v0,v1,v2,v3,v4,v5,v6]/\KidC w b (o+i*7) v0 v1 v2 v3 v4 v5 v6:=h i hi
theorem runes_of {w:World}{A:Option Addr}{n c:Nat}{l:List Int} (h:Reads1 w (.slice A n c) (l.map (Value.int .i32))):Runes w (.slice A n c) l:=by
 rcases h with ⟨a,cc,h1,h2⟩ | ⟨b,o,n',cc,h1,h2,h3⟩
 ·exact .inl ⟨a,cc,h1,by simpa using h2⟩
 ·exact .inr ⟨b,o,n',cc,h1,by simpa using h2,fun i hi=>by have:=h3 i (by simpa using hi);simpa using this⟩
end Go.Proofs.YtbakjaliponbbaaGreatDoor
namespace Go.Proofs.YtbakjaliponbbaaGreatDoor.Fl
open Ieee Go
def fi (n:Int):Nat:=floatOfInt .f64 n
theorem fi_W (n:Int) (h:n.natAbs<=9007199254740992):fi n=W (decide (n < 0)) (n.natAbs*2^K):=ofInt n h
theorem fi_sg (n:Int):sg (decide (n < 0)) (n.natAbs*2^K)=n*(2^K:Nat):=by
 rw [sg_mul]
 congr 1
 unfold sg
 by_cases h0:n < 0
 ·simp [h0];omega
 ·simp [h0];omega
theorem rep_fi (n:Int) (h:n.natAbs<=9007199254740992):Rep (n.natAbs*2^K):=rep_int K h (by unfold K;omega)
theorem order_fi (a b:Int) (ha:a.natAbs<=9007199254740992) (hb:b.natAbs<=9007199254740992):double.order (fi a) (fi b)=some (compare a b):=by
 have hp:0 < 2 ^ K:=Nat.two_pow_pos K
 rw [fi_W a ha,fi_W b hb,order_W _ _ (rep_fi a ha) (rep_fi b hb),fi_sg a,fi_sg b,compare_mul _ _ _ hp]
end Go.Proofs.YtbakjaliponbbaaGreatDoor.Fl
namespace Go.Proofs.YtbakjaliponbbaaGreatDoor
open Go Go.RowKit Go.Proofs Fl
def TF (b:Nat):Prop:=∃ s Z,Rep Z/\b=W s Z/\(Z=0->s=false)
theorem TF.lt {b:Nat} (h:TF b):b < 18446744073709551616:=by
 obtain ⟨s,Z,hz,rfl,_⟩:=h
 exact W_lt s hz
theorem tf_zero:TF 0:=⟨false,0,rep_zero,W_zero.symm,fun _=>rfl⟩
theorem tf_tid (s:Bool){Z:Nat} (hz:Rep Z):TF (tid s Z):=by
 unfold tid
 split
 ·exact tf_zero
 ·rename_i h;exact ⟨s,Z,hz,rfl,fun e=>absurd e h⟩
theorem tf_one:TF 4607182418800017408:=⟨false,1*2^K,rep_int K (by decide) (by unfold K;omega),by decide+kernel,fun _=>rfl⟩
def doneP (b:Nat):Nat×Int:=match Ieee.double.read b with
 | .number _ m _=>(if m=0 then 0 else b,0)
 | _=>(0,24)
theorem mg_zero {Z:Nat} (hz:Rep Z):mg (rung Z)=0↔Z=0:=by
 have h:=mg_ex hz
 constructor
 ·intro e;rw [e,Nat.zero_mul] at h;exact h.symm
 ·intro e
  rw [e] at h
  rcases Nat.mul_eq_zero.1 h with h | h
  ·rw [e];exact h
  ·exact absurd h (Nat.ne_of_gt (Nat.two_pow_pos _))
theorem doneP_num (s:Bool){Z:Nat} (hz:Rep Z):doneP (W s Z)=(tid s Z,0):=by
 unfold doneP
 rw [read_W s hz]
 show (if mg (rung Z)=0 then 0 else W s Z,0)=_
 unfold tid
 by_cases h:Z=0
 ·rw [if_pos h,if_pos ((mg_zero hz).2 h)]
 ·rw [if_neg h,if_neg (fun e=>h ((mg_zero hz).1 e))]
theorem doneP_inf (s:Bool):doneP (infw s)=(0,24):=by unfold doneP;rw [read_inf]
theorem doneP_nan {b:Nat} (h:(Ieee.double.read b).isNaN=true):doneP b=(0,24):=by
 unfold doneP
 cases hd:Ieee.double.read b <;> rw [hd] at h <;> first | rfl | cases h
theorem doneP_cases {b:Nat} (hb:b < 18446744073709551616):(∃ c,TF c/\doneP b=(c,0))\/doneP b=(0,24):=by
 rcases classify b hb with ⟨s,Z,hz,rfl⟩ | ⟨s,rfl⟩ | h
 ·exact .inl ⟨_,tf_tid s hz,doneP_num s hz⟩
 ·exact .inr (doneP_inf s)
 ·exact .inr (doneP_nan h)
theorem doneP_tf {b:Nat} (h:TF b):doneP b=(b,0):=by
 obtain ⟨s,Z,hz,rfl,h0⟩:=h
 rw [doneP_num s hz]
 unfold tid
 split
 ·rename_i e;rw [e,h0 e,W_zero]
 ·rfl
theorem inf_gt_top:FloatKind.f64.format.order (infw false) 9218868437227405311=some .gt:=by rw [<- W_top];exact fo_inf false false rep_top
theorem inf_lt_ntop:FloatKind.f64.format.order (infw true) 18442240474082181119=some .lt:=by rw [<- W_ntop];exact fo_inf true true rep_top
theorem inf_lt_top:FloatKind.f64.format.order (infw true) 9218868437227405311=some .lt:=by rw [<- W_top];exact fo_inf true false rep_top
theorem ntidy_bad {b:Nat} (h:(∃ s,b=infw s)\/(Ieee.double.read b).isNaN=true) (w:World) :
  Calls Tryz.prog 166 #[.float .f64 b] w fun e w'=>e= .returned (.tuple #[.float .f64 0,.bool false])/\w=w':=by
 rcases h with ⟨s,rfl⟩ | h
 ·have h1:=fo_infinf s
  cases s
  ·have h2:=inf_gt_top
   generalize infw false=b at *
   go_enter Tryz.func166,Tryz.ntmps166
   go_wp2
   go_ret2
   exact ⟨rfl,rfl⟩
  ·have h2:=inf_lt_ntop
   have h3:=inf_lt_top
   generalize infw true=b at *
   go_enter Tryz.func166,Tryz.ntmps166
   go_wp2
   go_ret2
   exact ⟨rfl,rfl⟩
 ·have h1:=fo_nan b h
  clear h
  go_enter Tryz.func166,Tryz.ntmps166
  go_wp2
  go_ret2
  exact ⟨rfl,rfl⟩
theorem tf_eq_zero {b:Nat} (h:TF b):FloatKind.f64.format.order b 0=some (if b=0 then .eq else if (Ieee.double.order b 0)=some .lt then .lt else .gt):=by
 obtain ⟨s,Z,hz,rfl,h0⟩:=h
 have h1:=order_W s false hz rep_zero
 rw [W_zero,sg_zero] at h1
 show Ieee.double.order (W s Z) 0=_
 by_cases e:Z=0
 ·rw [e,h0 e,W_zero,if_pos rfl];decide
 ·have hne:W s Z≠0:=by
   intro e2
   have h2:=read_W s hz
   rw [e2] at h2
   have h3:Ieee.double.read 0= .number false 0 (-1074):=by decide
   rw [h3] at h2
   injection h2 with _ h4 _
   exact e ((mg_zero hz).1 h4.symm)
  rw [if_neg hne,h1]
  rcases Int.lt_trichotomy (sg s Z) 0 with h | h | h
  ·rw [cmp_lt h];rfl
  ·exact absurd (sg_eq_zero.1 h) e
  ·rw [cmp_gt h];rfl
theorem tf_is_zero {b:Nat} (h:TF b):(FloatKind.f64.format.order b 0==some .eq)=decide (b=0):=by
 rw [tf_eq_zero h]
 by_cases e:b=0
 ·rw [if_pos e,decide_eq_true e];rfl
 ·rw [if_neg e,decide_eq_false e];split <;> rfl
end Go.Proofs.YtbakjaliponbbaaGreatDoor
namespace Go.Proofs.YtbakjaliponbbaaGreatDoor
open Go Go.RowKit Go.Proofs
def fillL (f:Nat->Value) (z:Value) (n k:Nat):List Value:=(List.range n).map fun i=>if i < k then f i else z
theorem fillL_len (f:Nat->Value) (z:Value) (n k:Nat):(fillL f z n k).length=n:=by simp [fillL]
theorem fillL_get (f:Nat->Value) (z:Value) (n k i:Nat) (h:i < n):(fillL f z n k)[i]?=some (if i < k then f i else z):=by simp [fillL,h]
theorem fillL_none (f:Nat->Value) (z:Value) (n k i:Nat) (h:¬ i < n):(fillL f z n k)[i]?=none:=by
 rw [List.getElem?_eq_none_iff,fillL_len];omega
theorem fillL_zero (f:Nat->Value) (z:Value) (n:Nat):List.replicate n z=fillL f z n 0:=by
 apply List.ext_getElem?
 intro i
 by_cases h:i < n
 ·rw [fillL_get _ _ _ _ _ h,List.getElem?_replicate,if_pos h];simp
 ·rw [fillL_none _ _ _ _ _ h,List.getElem?_replicate,if_neg h]
theorem fillL_set (f:Nat->Value) (z:Value) (n k:Nat) (h:k < n):(fillL f z n k).set k (f k)=fillL f z n (k+1):=by
 apply List.ext_getElem?
 intro i
 rw [List.getElem?_set]
 by_cases hi:i < n
 ·rw [fillL_get _ _ _ _ _ hi,fillL_get _ _ _ _ _ hi,fillL_len]
  by_cases hk:k=i
  ·subst hk;rw [if_pos rfl,if_pos h,if_pos (by omega)]
  ·rw [if_neg hk]
   by_cases h2:i < k
   ·rw [if_pos h2,if_pos (by omega)]
   ·rw [if_neg h2,if_neg (by omega)]
 ·rw [fillL_none _ _ _ _ _ hi,fillL_none _ _ _ _ _ hi,if_neg (by omega)]
theorem fillL_full (f:Nat->Value) (z:Value) (n:Nat):fillL f z n n=(List.range n).map f:=by
 unfold fillL
 apply List.map_congr_left
 intro i hi
 rw [if_pos (List.mem_range.1 hi)]
def Fill (w:World) (B g:Nat) (e:TypeId) (f:Nat->Value) (z:Value) (n k:Nat):Prop:=w.ownsRow B e 1 (.slice (some ⟨g,0,none⟩) n n) n (fillL f z n k)
theorem Fill.made (w:World) (B:Nat) (hB:B<=w.heap.size) (e:TypeId) (f:Nat->Value) (z:Value) (n:Nat) (hn:n<=maxLen):Fill (w.alloc (.cells (madeCells #[z] n) e)) B w.heap.size e f z n 0:=by
 have h:=World.ownsRow_lit (base:=B) (e:=e) (size:=1) w (madeCells #[z] n) n hB hn (by rw [size_madeCells];omega)
 rw [toList_madeCells_one,fillL_zero f] at h
 exact h
theorem Fill.cell {w:World}{B g:Nat}{e:TypeId}{f:Nat->Value}{z:Value}{n k:Nat} (h:Fill w B g e f z n k) (hk:k < n):w.cell? ⟨g,k,none⟩=some z:=by
 have:=World.ownsRow.cellAt h k (by omega)
 rw [this,fillL_get _ _ _ _ _ hk,if_neg (by omega)]
theorem Fill.done {w:World}{B g:Nat}{e:TypeId}{f:Nat->Value}{z:Value}{n k:Nat} (h:Fill w B g e f z n k) (i:Nat) (hi:i < k) (hk:k<=n):w.cell? ⟨g,i,none⟩=some (f i):=by
 have:=World.ownsRow.cellAt h i (by omega)
 rw [this,fillL_get _ _ _ _ _ (by omega),if_pos hi]
theorem Fill.frozen {w:World}{B g:Nat}{e:TypeId}{f:Nat->Value}{z:Value}{n k:Nat} (h:Fill w B g e f z n k) (i:Nat):w.frozen? ⟨g,i,none⟩=false:=World.ownsRow.frozenAt h i
theorem Fill.put {w:World}{B g:Nat}{e:TypeId}{f:Nat->Value}{z:Value}{n k:Nat} (h:Fill w B g e f z n k) (hk:k < n):Fill (w.setCell ⟨g,k,none⟩ (f k)) B g e f z n (k+1):=by
 have:=(World.ownsRow.stored h k (f k)).1
 rw [fillL_set _ _ _ _ hk] at this
 exact this
theorem Fill.low {w:World}{B g:Nat}{e:TypeId}{f:Nat->Value}{z:Value}{n k:Nat} (h:Fill w B g e f z n k):B<=g/\g < w.heap.size:=World.ownsRow.lt h g rfl
theorem Fill.bel {w w0:World}{B g:Nat}{e:TypeId}{f:Nat->Value}{z:Value}{n k:Nat} (h:Fill w B g e f z n k) (hb:Below B w0 w) (i:Nat) (u:Value):Below B w0 (w.setCell ⟨g,i,none⟩ u):=hb.setCell h.low.1 _
theorem Fill.below {w w':World}{B g:Nat}{e:TypeId}{f:Nat->Value}{z:Value}{n k:Nat} (h:Fill w B g e f z n k) (hb:Below w.heap.size w w'):Fill w' B g e f z n k:=by
 have h2:Own1 w B e (.slice (some ⟨g,0,none⟩) n n) (fillL f z n k):=by unfold Own1;rw [fillL_len];exact h
 have:=h2.below hb
 unfold Own1 at this
 rw [fillL_len] at this
 exact this
theorem Fill.own {w:World}{B g:Nat}{e:TypeId}{f:Nat->Value}{z:Value}{n:Nat} (h:Fill w B g e f z n n):Own1 w B e (.slice (some ⟨g,0,none⟩) n n) ((List.range n).map f):=by
 unfold Own1
 rw [<- fillL_full f z n,fillL_len]
 exact h
theorem map_range_getD {α:Type} (l:List α) (d:α) (f:α->Value):(List.range l.length).map (fun i=>f (l.getD i d))=l.map f:=by
 apply List.ext_getElem?
 intro i
 by_cases h:i < l.length
 ·simp [h,List.getD]
 ·simp [h]
theorem Reads1.at {w:World}{v:Value}{xs:List Value} (h:Reads1 w v xs):(∃ a c,v= .slice a 0 c/\xs=[])\/∃ b o c,v= .slice (some ⟨b,o,none⟩) xs.length c/\∀ i (h:i < xs.length),w.cell? ⟨b,o+i,none⟩=some xs[i]:=by
 rcases h with h | ⟨b,o,n,c,rfl,hn,hc⟩
 ·exact .inl h
 ·exact .inr ⟨b,o,c,by rw [hn],hc⟩
theorem bel1 (w:World) (a:Obj):Below w.heap.size w (w.alloc a):=(Below.refl _ w).alloc (Nat.le_refl _) a
theorem bel2 (w:World) (a b:Obj):Below w.heap.size w ((w.alloc a).alloc b):=(bel1 w a).alloc (by simp) b
theorem bel3 (w:World) (a b c:Obj):Below w.heap.size w (((w.alloc a).alloc b).alloc c):=(bel2 w a b).alloc (by simp;omega) c
theorem bel4 (w:World) (a b c d:Obj):Below w.heap.size w ((((w.alloc a).alloc b).alloc c).alloc d):=(bel3 w a b c).alloc (by simp;omega) d
theorem cell_box1 {w:World}{p:Addr}{v:Value} (h:w.cell? p=some v) (a:Obj):(w.alloc a).cell? p=some v:=by rw [(bel1 w a).cell (cell_lt h)];exact h
theorem cell_box2 {w:World}{p:Addr}{v:Value} (h:w.cell? p=some v) (a b:Obj):((w.alloc a).alloc b).cell? p=some v:=cell_box1 (cell_box1 h a) b
theorem cell_box3 {w:World}{p:Addr}{v:Value} (h:w.cell? p=some v) (a b c:Obj):(((w.alloc a).alloc b).alloc c).cell? p=some v:=cell_box1 (cell_box2 h a b) c
theorem cell_box4 {w:World}{p:Addr}{v:Value} (h:w.cell? p=some v) (a b c d:Obj):((((w.alloc a).alloc b).alloc c).alloc d).cell? p=some v:=cell_box1 (cell_box3 h a b c) d
abbrev vnil:Value := .slice none 0 0
abbrev vecV (k:Int) (bw:Value) (bn:Int) (s i f c x:Value):Value := .agg #[.int .i64 k,bw,.int .i64 bn,s,i,f,c,x]
structure BitsOf (ws:List Nat) (l:List Bool):Prop where
 len:ws.length=(l.length+63) / 64
 word:∀ x∈ws,x < 18446744073709551616
 bit:∀ i (h:i < ws.length) j,j < 64->ws[i].testBit j=l.getD (64*i+j) false
inductive VecS where
 | none | bits (l:List Bool) | small (l:List Int) | ints (l:List Int) | floats (l:List Nat) | chars (l:List Int) | boxes (s:Value)
def VecS.kind:VecS->Nat
 | .none=>0 | .bits _=>1 | .small _=>2 | .ints _=>3 | .floats _=>4 | .chars _=>5 | .boxes _=>6
def VR (w:World) (v:Value):VecS->Prop
 | .none=>v=vecV 0 vnil 0 vnil vnil vnil vnil vnil
 | .bits l=>∃ b ws,v=vecV 1 b l.length vnil vnil vnil vnil vnil/\Reads1 w b (ws.map fun x:Nat => .int .u64 x)/\BitsOf ws l
 | .small l=>∃ s,v=vecV 2 vnil 0 s vnil vnil vnil vnil/\Reads1 w s (l.map (.int .i8))/\∀ n∈l,-128<=n/\n<=127
 | .ints l=>∃ s,v=vecV 3 vnil 0 vnil s vnil vnil vnil/\Reads1 w s (l.map (.int .i64))/\∀ n∈l,-9007199254740992<=n/\n<=9007199254740992
 | .floats l=>∃ s,v=vecV 4 vnil 0 vnil vnil s vnil vnil/\Reads1 w s (l.map (.float .f64))
 | .chars l=>∃ s,v=vecV 5 vnil 0 vnil vnil vnil s vnil/\Reads1 w s (l.map (.int .i32))
 | .boxes s=>v=vecV 6 vnil 0 vnil vnil vnil vnil s
theorem VR.below {w w':World}{v:Value}{x:VecS} (h:VR w v x) (hb:Below w.heap.size w w'):VR w' v x:=by
 cases x with
 | none=>exact h
 | bits l=>obtain ⟨b,ws,e,h1,h2⟩:=h;exact ⟨b,ws,e,h1.below hb,h2⟩
 | small l=>obtain ⟨s,e,h1,h2⟩:=h;exact ⟨s,e,h1.below hb,h2⟩
 | ints l=>obtain ⟨s,e,h1,h2⟩:=h;exact ⟨s,e,h1.below hb,h2⟩
 | floats l=>obtain ⟨s,e,h1⟩:=h;exact ⟨s,e,h1.below hb⟩
 | chars l=>obtain ⟨s,e,h1⟩:=h;exact ⟨s,e,h1.below hb⟩
 | boxes s=>exact h
end Go.Proofs.YtbakjaliponbbaaGreatDoor
