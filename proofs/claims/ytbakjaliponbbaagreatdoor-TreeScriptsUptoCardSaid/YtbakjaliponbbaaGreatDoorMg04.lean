/- Walks of tree.numbers, tree.Slash, lex.IsVerb, tree.depth. A node of the program's, taken apart: what a walk through it wants. The walk of the reference's .. Conditions: as each theorem says. -/
import Derived.Test.YtbakjaliponbbaaGreatDoorMg03
import Derived.Test.YtbakjaliponbbaaGreatDoorMg01
set_option maxRecDepth 100000
set_option maxHeartbeats 1600000
namespace Go.Proofs.YtbakjaliponbbaaGreatDoor
open Go Go.RowKit Go.Proofs Fl
theorem ntidy_inf (s:Bool) (w:World) :
  Calls Tryz.prog 166 #[.float .f64 (infw s)] w fun e w'=>e= .returned (.tuple #[.float .f64 0,.bool false])/\w=w':=by
 have h2:=fo_infinf s
 have h3:=fo_inf s false rep_top
 have h4:=fo_inf s true rep_top
 rw [W_top] at h3
 rw [W_ntop] at h4
 have h2':(FloatKind.f64.format.order (infw s) (infw s) != some .eq)=false:=by rw [h2];rfl
 cases s with
 | true =>
  have h3':(FloatKind.f64.format.order (infw true) 9218868437227405311==some .gt)=false:=by rw [h3];rfl
  have h4':(FloatKind.f64.format.order (infw true) 18442240474082181119==some .lt)=true:=by rw [h4];rfl
  have h3'':¬ FloatKind.f64.format.order (infw true) 9218868437227405311=some .gt:=by rw [h3];simp
  generalize infw true=x at *
  go_enter Tryz.func166,Tryz.ntmps166
  go_wp2
  go_ret2
  exact ⟨rfl,rfl⟩
 | false =>
  have h3':(FloatKind.f64.format.order (infw false) 9218868437227405311==some .gt)=true:=by rw [h3];rfl
  generalize infw false=x at *
  go_enter Tryz.func166,Tryz.ntmps166
  go_wp2
  go_ret2
  exact ⟨rfl,rfl⟩
theorem ntidy_nan {b:Nat} (h:(Ieee.double.read b).isNaN=true) (w:World) :
  Calls Tryz.prog 166 #[.float .f64 b] w fun e w'=>e= .returned (.tuple #[.float .f64 0,.bool false])/\w=w':=by
 have h2:=fo_nan b h
 have h2':(FloatKind.f64.format.order b b != some .eq)=true:=by rw [h2];rfl
 have h2'':¬ FloatKind.f64.format.order b b=some .eq:=by rw [h2];simp
 clear h h2
 go_enter Tryz.func166,Tryz.ntmps166
 go_wp2
 go_ret2
 exact ⟨rfl,rfl⟩
def TidyTells (b:Nat) (e:Ending):Prop:=∃ y,e= .returned (.tuple #[.float .f64 y,.bool (isFin b)])
theorem ntidy_any (b:Nat) (hb:b < 18446744073709551616) (w:World):Calls Tryz.prog 166 #[.float .f64 b] w fun e w'=>TidyTells b e/\w=w':=by
 rcases classify b hb with ⟨s,Z,hz,rfl⟩ | ⟨s,rfl⟩ | h
 ·exact (ntidy_num s hz w).mono fun _ _ ⟨h1,h2⟩=>⟨⟨_,by rw [isFin_W s hz];exact h1⟩,h2⟩
 ·exact (ntidy_inf s w).mono fun _ _ ⟨h1,h2⟩=>⟨⟨_,by rw [isFin_inf];exact h1⟩,h2⟩
 ·exact (ntidy_nan h w).mono fun _ _ ⟨h1,h2⟩=>⟨⟨_,by rw [isFin_nan h];exact h1⟩,h2⟩
theorem numC_walk (b:Nat) (hb:b < 18446744073709551616) (w:World):Calls Tryz.prog 165 #[.float .f64 b] w fun e w'=>e= .returned (.bool (!isFin b))/\w=w':=by
 have HT:=Lib.hid (ntidy_any b hb w)
 clear hb
 unfold TidyTells at HT
 generalize isFin b=R at *
 go_enter Tryz.func165,Tryz.ntmps165
 go_wp2_with fail
 refine HT.out.mono ?_
 rintro e w' ⟨⟨y,rfl⟩,rfl⟩
 go_wp2
 go_ret
 exact ⟨rfl,rfl⟩
theorem fIndex_walk (v : Value) (l : List Nat) (w : World) (hr : Reads1 w v (l.map (Value.float .f64))) (hl : l.length ≤ 1048576) (f : FuncId) (p : Nat → Bool) (fn : Func) (hfn : Tryz.prog.funcs[f]? = some fn) (hnm : (fn.name == "runtime.NumGoroutine") = false) (co : Code) (hco : fn.body = some co)
  (hf:∀ c w,c∈l->Calls Tryz.prog f #[.float .f64 c] w fun e w'=>e= .returned (.bool (p c))/\w=w') :
  Calls Tryz.prog 220 #[v,.func (.func f) #[] #[]] w fun e w'=>IdxTells (l.any p) e/\w=w':=by
 obtain ⟨A,cc,n,rfl,hn,hcell⟩:=hr.opn
 rw [List.length_map] at hn
 have HC:Hid (∀ i (hi:i < l.length),∃ b o,A=some ⟨b,o,none⟩/\w.cell? ⟨b,o+i,none⟩=some (.float .f64 l[i])):=fun i hi=>by
  obtain ⟨b,o,h1,h2⟩:=hcell i (by simpa using hi)
  exact ⟨b,o,h1,by rw [h2 w (Below.refl _ _)];simp⟩
 have HN:=Lib.hid hn
 have HF:=Lib.hid hf
 have hcf:∀ (args:Array Value) (w:World),(callFunc f args).run Tryz.prog w= .ok (.enter f args) w:=by
  intro args w
  have h1 : fn.name ≠ "runtime.NumGoroutine" := by simpa using hnm
  simp [callFunc,hfn,h1,hco]
 have hn2:n<=1048576:=by omega
 obtain ⟨R,hR⟩:∃ R,R=l.any p:=⟨_,rfl⟩
 have HY:Hid (∀ i (hi:i < l.length),p l[i]=true->R=true):=fun i hi h2=>by rw [hR,List.any_eq_true];exact ⟨_,List.getElem_mem hi,h2⟩
 have HX:Hid ((∀ i (hi:i < l.length),p l[i]=false)->R=false):=fun h=>by
  rw [hR,List.any_eq_false];intro x hx;obtain ⟨i,hi,rfl⟩:=List.getElem_of_mem hx;simp [h i hi]
 rw [<- hR]
 clear hcell hn hf hr hl hfn hnm hco hR
 go_enter Tryz.func220,Tryz.ntmps220
 go_wp2
 go_loop [5,8] (fun _ i=>∃ k:Nat,k<=n/\i= .int .i64 (k:Int)/\Hid (∀ i (hi:i < l.length),i < k->p l[i]=false)) (fun _ i=>n - (intOf i).toNat)
 case atStart=>exact ⟨0,Nat.zero_le _,rfl,fun i _ h=>absurd h (by omega)⟩
 case round =>
  obtain ⟨k,hk,rfl,hall⟩:=hrel
  by_cases hlt:k < n
  ·have hik:k < l.length:=by have:=HN.out;omega
   obtain ⟨b,o,rfl,hce⟩:=HC.out k hik
   have HFC:=Lib.hid (HF.out l[k] w (List.getElem_mem hik))
   have HYK:=Lib.hid (HY.out k hik)
   have HAK:Hid (p l[k]=false->∀ i (hi:i < l.length),i < k+1->p l[i]=false):=by
    intro hp i hi h
    rcases Nat.lt_or_ge i k with h1 | h1
    ·exact hall.out i hi h1
    ·obtain rfl:i=k:=by omega
     exact hp
   clear hall
   generalize p l[k]=pb at *
   generalize l[k]=x at *
   go_wp2_with fail
   refine HFC.out.mono ?_
   rintro e w2 ⟨rfl,rfl⟩
   cases pb with
   | true =>
    have HT:=Lib.hid (HYK.out rfl)
    go_wp2
    go_ret
    exact ⟨⟨(k:Int),rfl,by omega,by rw [HT.out];simp⟩,rfl⟩
   | false =>
    have HA:=Lib.hid (HAK.out rfl)
    go_wp2
    go_round
    case rel=>exact ⟨k+1,by omega,by go_num,HA.out⟩
    case measure=>simp [intOf];omega
  ·have HT:Hid (R=false):=HX.out fun i hi=>hall.out i hi (by have:=HN.out;omega)
   clear hall
   go_wp2
   go_ret
   exact ⟨⟨-1,rfl,by omega,by rw [HT.out];simp⟩,rfl⟩
theorem fContains_walk (v : Value) (l : List Nat) (w : World) (hr : Reads1 w v (l.map (Value.float .f64))) (hl : l.length ≤ 1048576) (f : FuncId) (p : Nat → Bool) (fn : Func) (hfn : Tryz.prog.funcs[f]? = some fn) (hnm : (fn.name == "runtime.NumGoroutine") = false) (co : Code) (hco : fn.body = some co)
  (hf:∀ c w,c∈l->Calls Tryz.prog f #[.float .f64 c] w fun e w'=>e= .returned (.bool (p c))/\w=w') :
  Calls Tryz.prog 164 #[v,.func (.func f) #[] #[]] w fun e w'=>e= .returned (.bool (l.any p))/\w=w':=by
 have HI:=Lib.hid (fIndex_walk v l w hr hl f p fn hfn hnm co hco hf)
 obtain ⟨A,cc,n,rfl,hn,hcell⟩:=hr.opn
 clear hr hl hf hfn hnm hco hn hcell
 generalize l.any p=R at *
 go_enter Tryz.func164,Tryz.ntmps164
 go_wp2_with fail
 refine HI.out.mono ?_
 rintro e w' ⟨⟨k,rfl,hk,hR⟩,rfl⟩
 have HR:=Lib.hid hR
 clear hR
 go_wp2
 go_ret
 exact ⟨by rw [<- HR.out];rfl,rfl⟩
theorem any_notN {l:List Nat}{p:Nat->Bool}:(!l.any fun t => !p t)=l.all p:=by
 induction l with
 | nil=>rfl
 | cons t ts ih=>rw [List.any_cons,List.all_cons,<- ih];simp
theorem numbers_walk (v:Value) (l:List Nat) (w:World) (hr:Reads1 w v (l.map (Value.float .f64))) (hl:l.length<=1048576) (hx:∀ x∈l,x < 18446744073709551616) :
  Calls Tryz.prog 111 #[v] w fun e w'=>e= .returned (.bool (l.all isFin))/\w=w':=by
 have HI:=Lib.hid (fContains_walk v l w hr hl 165 (fun t => !isFin t) _ Tryz.func165 (by kernel_rfl) _ rfl fun c w hc=>numC_walk c (hx c hc) w)
 obtain ⟨A,cc,n,rfl,hn,hcell⟩:=hr.opn
 rw [<- any_notN]
 clear hr hl hx hn hcell
 generalize (l.any fun t => !isFin t)=R at *
 go_enter Tryz.func111,Tryz.ntmps111
 go_wp2_with fail
 refine HI.out.mono ?_
 rintro e w' ⟨rfl,rfl⟩
 go_wp2
 go_ret
 exact ⟨rfl,rfl⟩
theorem nl_walk (c:Int) (w:World):Calls Tryz.prog 113 #[.int .i32 c] w fun e w'=>e= .returned (.bool (decide (c=10)))/\w=w':=by
 go_enter Tryz.func113,Tryz.ntmps113
 go_wp2
 go_ret
 exact ⟨by show Ending.returned (Value.bool _)=_;refine congrArg (fun b=>Ending.returned (Value.bool b)) ?_;rw [Bool.eq_iff_iff];simp,rfl⟩
theorem slash_walk (c:Int) (w:World):Calls Tryz.prog 119 #[.int .i32 c] w fun e w'=>e= .returned (.bool (slashB c))/\w=w':=by
 have HR:Hid (slashB c=decide (c=47\/c=92\/c=9023\/c=9024)):=rfl
 generalize slashB c=R at *
 go_enter Tryz.func119,Tryz.ntmps119
 go_wp2
 all_goals go_ret
 all_goals exact ⟨by rw [HR.out];clear HR;first | rfl | (show Ending.returned (Value.bool _)=_;refine congrArg (fun b=>Ending.returned (Value.bool b)) ?_;rw [Bool.eq_iff_iff];simp [*]),rfl⟩
theorem in_atL (c:Int) (L:List Int) (s:ByteArray) (w:World) (h:runesOf s=L):Calls Tryz.prog 172 #[.int .i32 c,.string s] w fun e w'=>e= .returned (.bool (decide (c∈L)))/\Below w.heap.size w w':=by
 rw [<- h];exact in_walk c s w
theorem isVerbB_walk (c:Int) (w:World):Calls Tryz.prog 118 #[.int .i32 c] w fun e w'=>e= .returned (.bool (verbB c))/\Below w.heap.size w w':=by
 show Calls _ _ _ _ fun e w'=>e= .returned (.bool (decide (c∈verbsL)))/\Below w.heap.size w w'
 generalize hD:decide (c∈verbsL)=D
 go_enter Tryz.func118,Tryz.ntmps118
 go_wp2_with fail
 refine (in_atL c verbsL _ _ (by decide+kernel)).mono ?_
 rintro e w' ⟨rfl,hb⟩
 rw [hD]
 have HB:=Lib.hid hb
 clear hb hD
 go_wp2
 go_ret
 exact ⟨rfl,HB.out⟩
mutual
def FitG:RTree->Prop
 | .mk _ nums text name _ kids=>nums.length<=1048576/\(∀ x∈nums,x < 18446744073709551616)/\text.length<=1048576/\name.size<=70368744177664/\kids.length<=1048576/\FitGs kids
def FitGs:List RTree->Prop
 | []=>True
 | t::ts=>FitG t/\FitGs ts
end
theorem FitGs_at:∀ {ts:List RTree} (_:FitGs ts){i:Nat} (hi:i < ts.length),FitG ts[i]
 | [],_,_,hi=>by simp at hi
 | t::ts,h,0,_=>by rw [FitGs] at h;exact h.1
 | t::ts,h,i+1,hi=>by rw [FitGs] at h;exact FitGs_at h.2 (by simpa using hi)
structure NodeW (N:Nat) (w:World) (A1:Option Addr) (n1 c1:Nat) (A2:Option Addr) (n2 c2:Nat) (name:ByteArray) (A:Option Addr) (m cc:Nat) (nums:List Nat) (text:List Int) (kids:List RTree):Prop where
 hn:n1=nums.length
 ht:n2=text.length
 hm:m=kids.length
 hrn:Reads1 w (.slice A1 n1 c1) (nums.map (Value.float .f64))
 hrt:Reads1 w (.slice A2 n2 c2) (text.map (Value.int .i32))
 hkid:KidsAt w A kids
 hcap:m<=cc
 fn:nums.length<=1048576
 fx:∀ x∈nums,x < 18446744073709551616
 ft:text.length<=1048576
 fs:name.size<=70368744177664
 fm:m<=1048576
 ok:∀ i (hi:i < kids.length),sizeR kids[i]<=N/\FitG kids[i]
theorem TN.node {N:Nat}{w:World}{k:Int}{nums:List Nat}{text:List Int}{name:ByteArray}{c:Int}{kids:List RTree}{vs:List Value} (h:TN w (.mk k nums text name c kids) vs) (hf:FitG (.mk k nums text name c kids)) (hN:sizeR (.mk k nums text name c kids)<=N+1) :
  ∃ at1 A1 n1 c1 A2 n2 c2 A m cc,vs=[.int .i64 k,.int .i64 at1,.slice A1 n1 c1,.slice A2 n2 c2,.string name,.int .i32 c,.slice A m cc]/\NodeW N w A1 n1 c1 A2 n2 c2 name A m cc nums text kids:=by
 obtain ⟨at1,nv,tv,A,cc,m,rfl,hrn,hrt,hm,hkid⟩:=h.open_
 obtain ⟨A1,c1,n1,rfl,hn1,_⟩:=hrn.opn
 obtain ⟨A2,c2,n2,rfl,hn2,_⟩:=hrt.opn
 rw [FitG] at hf
 rw [sizeR] at hN
 refine ⟨at1,A1,n1,c1,A2,n2,c2,A,m,cc,rfl,⟨by simpa using hn1,by simpa using hn2,hm,hrn,hrt,hkid,h.cap,hf.1,hf.2.1,hf.2.2.1,hf.2.2.2.1,by rw [hm];exact hf.2.2.2.2.1,fun i hi=>⟨?_,FitGs_at hf.2.2.2.2.2 hi⟩⟩⟩
 have:=sizeRs_at hi
 omega
theorem KidsAt.tail {w:World}{b o:Nat}{t:RTree}{ts:List RTree} (h:KidsAt w (some ⟨b,o,none⟩) (t::ts)):KidsAt w (some ⟨b,o+7,none⟩) ts:=by
 intro i hi
 obtain ⟨b',o',v0,v1,v2,v3,v4,v5,v6,h1,h2,h3⟩:=h (i+1) (by simpa using hi)
 cases h1
 refine ⟨b,o+7,v0,v1,v2,v3,v4,v5,v6,rfl,by simpa using h2,fun w1 hb=>?_⟩
 have:=h3 w1 hb
 have e:o+(i+1)*7=o+7+i*7:=by omega
 rwa [e] at this
theorem KidsAt.front {w:World}{A:Option Addr}{ts us:List RTree} (h:KidsAt w A (ts++us)):KidsAt w A ts:=by
 intro i hi
 have:=h i (by simp;omega)
 rwa [List.getElem_append_left hi] at this
def KidC (w:World) (b o:Nat) (v0 v1 v2 v3 v4 v5 v6:Value):Prop:=∀ w1,Below w.heap.size w w1->w1.cell? ⟨b,o,none⟩=some v0/\w1.cell? ⟨b,o+1,none⟩=some v1/\w1.cell? ⟨b,o+2,none⟩=some v2/\w1.cell? ⟨b,o+3,none⟩=some v3/\w1.cell? ⟨b,o+4,none⟩=some v4/\w1.cell? ⟨b,o+5,none⟩=some v5/\w1.cell? ⟨b,o+6,none⟩=some v6
theorem KidsAt.kid {w:World}{A:Option Addr}{kids:List RTree} (h:KidsAt w A kids) (i:Nat) (hi:i < kids.length):∃ b o v0 v1 v2 v3 v4 v5 v6,A=some ⟨b,o,none⟩/\TN w kids[i] [v0,v1,v2,v3,v4,v5,v6]/\KidC w b (o+i*7) v0 v1 v2 v3 v4 v5 v6:=h i hi
theorem KidsAt.kid0 {w:World}{A:Option Addr}{t:RTree}{ts:List RTree} (h:KidsAt w A (t::ts)):∃ b o v0 v1 v2 v3 v4 v5 v6,A=some ⟨b,o,none⟩/\TN w t [v0,v1,v2,v3,v4,v5,v6]/\KidC w b o v0 v1 v2 v3 v4 v5 v6:=by
 obtain ⟨b,o,v0,v1,v2,v3,v4,v5,v6,h1,h2,h3⟩:=h.kid 0 (by simp)
 exact ⟨b,o,v0,v1,v2,v3,v4,v5,v6,h1,by simpa using h2,by simpa using h3⟩
theorem KidsAt.kid1 {w:World}{b o:Nat}{t t1:RTree}{ts:List RTree} (h:KidsAt w (some ⟨b,o,none⟩) (t::t1::ts)):∃ v0 v1 v2 v3 v4 v5 v6,TN w t1 [v0,v1,v2,v3,v4,v5,v6]/\KidC w b (o+7) v0 v1 v2 v3 v4 v5 v6:=by
 obtain ⟨b',o',v0,v1,v2,v3,v4,v5,v6,h1,h2,h3⟩:=h.kid 1 (by simp)
 cases h1
 exact ⟨v0,v1,v2,v3,v4,v5,v6,by simpa using h2,by simpa using h3⟩
theorem KidsAt.kid2 {w:World}{b o:Nat}{t t1 t2:RTree}{ts:List RTree} (h:KidsAt w (some ⟨b,o,none⟩) (t::t1::t2::ts)):∃ v0 v1 v2 v3 v4 v5 v6,TN w t2 [v0,v1,v2,v3,v4,v5,v6]/\KidC w b (o+14) v0 v1 v2 v3 v4 v5 v6:=by
 obtain ⟨b',o',v0,v1,v2,v3,v4,v5,v6,h1,h2,h3⟩:=h.kid 2 (by simp)
 cases h1
 exact ⟨v0,v1,v2,v3,v4,v5,v6,by simpa using h2,by simpa using h3⟩
theorem plainB_len {k:Int}{nums:List Nat}{text:List Int}{name:ByteArray}{c:Int}{kids:List RTree}{n:Int}{nm ch:Bool} (hn:0<=n) (h:(kids.length:Int)≠n):plainB k nums text name c kids n nm ch=false:=by
 unfold plainB;rw [decide_eq_false (by omega),decide_eq_false h];simp
theorem runes_of {w:World}{A:Option Addr}{n c:Nat}{l:List Int} (h:Reads1 w (.slice A n c) (l.map (Value.int .i32))):Runes w (.slice A n c) l:=by
 rcases h with ⟨a,cc,h1,h2⟩ | ⟨b,o,n',cc,h1,h2,h3⟩
 ·exact .inl ⟨a,cc,h1,by simpa using h2⟩
 ·exact .inr ⟨b,o,n',cc,h1,by simpa using h2,fun i hi=>by have:=h3 i (by simpa using hi);simpa using this⟩
end Go.Proofs.YtbakjaliponbbaaGreatDoor
namespace Go.Proofs.YtbakjaliponbbaaGreatDoor
open Go Go.RowKit Go.Proofs
def badB (c:Int) (k:Nat):Bool := !letB c&&(decide (k=0)||!digB c)
theorem good_bad {l:List Int}{k:Nat} (hk:k < l.length) (h:badB (l.getD k 0) k=true):goodNB l=false:=by
 unfold badB at h
 simp only [Bool.and_eq_true,Bool.not_eq_true',Bool.or_eq_true,decide_eq_true_eq] at h
 unfold goodNB
 by_cases h0:k=0
 ·subst h0;rw [h.1];simp
 ·have:l.any oddB=true:=any_at hk (by unfold oddB;rw [h.1,h.2.resolve_left h0];rfl)
  rw [this];simp
theorem good_fine {l:List Int} (h:∀ k,k < l.length->badB (l.getD k 0) k=false):goodNB l=(decide (1<=l.length)&&decide (l.length<=32)):=by
 unfold goodNB
 by_cases hl:1<=l.length
 ·have h1:letB (l.getD 0 0)=true:=by have:=h 0 (by omega);unfold badB at this;simpa using this
  have h2:l.any oddB=false:=any_no fun k hk=>by
   have:=h k hk
   unfold badB at this
   unfold oddB
   by_cases h0:k=0
   ·subst h0;rw [h1];rfl
   ·simpa [h0] using this
  rw [h1,h2];simp
 ·rw [decide_eq_false hl];simp
theorem rGood_walk (v:Value) (l:List Int) (w:World) (hr:Runes w v l) (hl:l.length<=140737488351232) :
  Calls Tryz.prog 103 #[v] w fun e w'=>e= .returned (.bool (goodNB l))/\w=w':=by
 obtain ⟨A,cc,n,rfl,hn,hcell⟩:=hr.opn
 have HC:=Lib.hid hcell
 have HN:=Lib.hid hn
 have hn2:n<=140737488351232:=by omega
 have HY:Hid (∀ k,k < l.length->badB (l.getD k 0) k=true->goodNB l=false):=fun k h h2=>good_bad h h2
 have HX:Hid ((∀ k,k < l.length->badB (l.getD k 0) k=false)->goodNB l=(decide (1<=l.length)&&decide (l.length<=32))):=fun h=>good_fine h
 clear hcell hn hr hl
 go_enter Tryz.func103,Tryz.ntmps103
 go_wp2
 go_loop [3] (fun i=>∃ k:Nat,k<=n/\i= .int .i64 (k:Int)/\Hid (∀ j,j < k->badB (l.getD j 0) j=false)) (fun i=>n - (intOf i).toNat)
 case atStart=>exact ⟨0,Nat.zero_le _,rfl,fun j h=>absurd h (by omega)⟩
 case round =>
  obtain ⟨k,hk,rfl,hall⟩:=hrel
  by_cases hlt:k < n
  ·have hkl:k < l.length:=by have:=HN.out;omega
   obtain ⟨b,o,rfl,hce⟩:=HC.out k hkl
   have hce2:=hce _ (Below.refl _ _)
   clear hce
   obtain ⟨x,hx⟩:∃ x,x=l.getD k 0:=⟨_,rfl⟩
   rw [<- hx] at hce2
   have HXX:=Lib.hid hx
   clear hx
   have HL:=Lib.hid (letter_walk x)
   have HLW:Hid (∀ w,Calls Tryz.prog 161 #[.int .i32 x] w fun e w'=>e= .returned (.bool (letB x))/\w=w'):=rLetter_walk x
   have HDW:Hid (∀ w,Calls Tryz.prog 162 #[.int .i32 x] w fun e w'=>e= .returned (.bool (digB x))/\w=w'):=rDigit_walk x
   cases hb:letB x with
   | true =>
    have HA:Hid (∀ j,j < k+1->badB (l.getD j 0) j=false):=by
     intro j hj
     rcases Nat.lt_or_ge j k with h | h
     ·exact hall.out j h
     ·obtain rfl:j=k:=by omega
      rw [<- HXX.out];unfold badB;rw [hb];rfl
    rw [hb] at HLW
    clear hall hb HL
    go_wp2_with fail
    refine (HLW.out _).mono ?_
    rintro e w' ⟨rfl,rfl⟩
    go_wp2
    go_round
    case rel=>exact ⟨k+1,by omega,by go_num,HA⟩
    case measure=>simp [intOf];omega
   | false =>
    by_cases h0:k=0
    ·have HT:=Lib.hid (HY.out k hkl (by rw [<- HXX.out];unfold badB;rw [hb,decide_eq_true h0];rfl))
     rw [hb] at HLW
     subst h0
     rw [Nat.add_zero] at hce2
     clear hall hb HL
     go_wp2_with fail
     refine (HLW.out _).mono ?_
     rintro e w' ⟨rfl,rfl⟩
     go_wp2
     go_ret
     exact ⟨by rw [HT.out];rfl,rfl⟩
    ·have hk0:((k:Int)==0)=false:=by simp;omega
     cases hd:digB x with
     | true =>
      have HA:Hid (∀ j,j < k+1->badB (l.getD j 0) j=false):=by
       intro j hj
       rcases Nat.lt_or_ge j k with h | h
       ·exact hall.out j h
       ·obtain rfl:j=k:=by omega
        rw [<- HXX.out];unfold badB;rw [hb,hd,decide_eq_false h0];rfl
      rw [hb] at HLW
      rw [hd] at HDW
      clear hall hb HL hd
      go_wp2_with fail
      refine (HLW.out _).mono ?_
      rintro e w' ⟨rfl,rfl⟩
      go_wp2_with fail
      refine (HDW.out _).mono ?_
      rintro e w' ⟨rfl,rfl⟩
      go_wp2
      go_round
      case rel=>exact ⟨k+1,by omega,by go_num,HA⟩
      case measure=>simp [intOf];omega
     | false =>
      have HT:=Lib.hid (HY.out k hkl (by rw [<- HXX.out];unfold badB;rw [hb,hd];simp))
      rw [hb] at HLW
      rw [hd] at HDW
      clear hall hb HL hd
      go_wp2_with fail
      refine (HLW.out _).mono ?_
      rintro e w' ⟨rfl,rfl⟩
      go_wp2_with fail
      refine (HDW.out _).mono ?_
      rintro e w' ⟨rfl,rfl⟩
      go_wp2
      go_ret
      exact ⟨by rw [HT.out];rfl,rfl⟩
  ·have HT:Hid (goodNB l=(decide (1<=n)&&decide (n<=32))):=by
    unfold Hid;rw [HX.out fun j hj=>hall.out j (by have:=HN.out;omega),<- HN.out]
   clear hall
   by_cases h1:1<=n
   ·have HT2:Hid (goodNB l=decide (n<=32)):=by unfold Hid;rw [HT.out,decide_eq_true h1];rfl
    clear HT
    by_cases h2:n<=32
    ·have HT3:Hid (goodNB l=true):=by unfold Hid;rw [HT2.out,decide_eq_true h2]
     clear HT2
     go_wp2
     go_ret
     exact ⟨by rw [HT3.out];show Ending.returned (Value.bool _)=_;refine congrArg (fun b=>Ending.returned (Value.bool b)) ?_;simp;omega,rfl⟩
    ·have HT3:Hid (goodNB l=false):=by unfold Hid;rw [HT2.out,decide_eq_false h2]
     clear HT2
     go_wp2
     go_ret
     exact ⟨by rw [HT3.out];show Ending.returned (Value.bool _)=_;refine congrArg (fun b=>Ending.returned (Value.bool b)) ?_;simp;omega,rfl⟩
   ·have HT3:Hid (goodNB l=false):=by unfold Hid;rw [HT.out,decide_eq_false h1];rfl
    clear HT
    go_wp2
    go_ret
    exact ⟨by rw [HT3.out];rfl,rfl⟩
end Go.Proofs.YtbakjaliponbbaaGreatDoor
