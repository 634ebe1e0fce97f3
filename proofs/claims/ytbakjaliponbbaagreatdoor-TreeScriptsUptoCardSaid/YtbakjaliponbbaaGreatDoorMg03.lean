/- Walks of package math's functions on 64-bit floats: Abs, IsInf, IsNaN, Inf, Copysign, normalize, Ldexp. Which trees are good: the plain law. No program in .. Conditions: as each theorem says. -/
import Derived.Test.YtbakjaliponbbaaGreatDoorMg02
import Derived.Test.YtbakjaliponbbaaGreatDoorMg00
import Derived.Test.YtbakjaliponbbaaGreatDoorMg01
import Derived.Deep.QuietTactic
import Derived.BigQuiet
import Derived.StillTailTactics
set_option maxRecDepth 100000
set_option maxHeartbeats 3200000
namespace Go.Proofs.YtbakjaliponbbaaGreatDoor
open Go Go.RowKit Go.Proofs Fl
theorem run_f64bits (b:Nat) (w:World):(callFunc 259 #[.float .f64 b]).run Tryz.prog w= .ok (.value (.int .u64 b)) w:=by
 rw [run_callFunc_extern (fn:=Tryz.f259) (e:=Extern.MathFloatBits.float64bits) Tryz.func259 (by kernel_rfl) (by kernel_rfl) (by kernel_rfl) (by kernel_rfl)]
 rfl
theorem run_f64from (n:Int) (w:World):(callFunc 266 #[.int .u64 n]).run Tryz.prog w= .ok (.value (.float .f64 n.toNat)) w:=by
 rw [run_callFunc_extern (fn:=Tryz.f266) (e:=Extern.MathFloatBits.float64frombits) Tryz.func266 (by kernel_rfl) (by kernel_rfl) (by kernel_rfl) (by kernel_rfl)]
 rfl
theorem andNot_c (x c d:Nat) (hx:x < 18446744073709551616) (hc:c+d=18446744073709551615) :
  bits .andNot .u64 (x:Int) (c:Int)=((x &&& d:Nat):Int):=by
 rw [u64_andNot_nat x c hx (by omega),show 18446744073709551615 - c=d by omega]
theorem word_abs (s:Bool){r:Nat} (hr:r < 9223372036854775808):Ieee.double.word s r &&& 9223372036854775807=Ieee.double.word false r:=by
 rw [and_rest];unfold Ieee.Format.word;rw [signWeight];cases s <;> simp <;> omega
theorem word_lt64 (s:Bool){r:Nat} (hr:r < 9223372036854775808):Ieee.double.word s r < 18446744073709551616:=by
 unfold Ieee.Format.word;rw [signWeight];cases s <;> simp <;> omega
theorem abs_bits (s:Bool){r:Nat} (hr:r < 9223372036854775808) :
  bits .andNot .u64 ((Ieee.double.word s r:Nat):Int) 9223372036854775808=((Ieee.double.word false r:Nat):Int):=by
 have:=andNot_c (Ieee.double.word s r) 9223372036854775808 9223372036854775807 (word_lt64 s hr) (by omega)
 rw [word_abs s hr] at this
 exact this
theorem abs_word (b c:Nat) (h:bits .andNot .u64 (b:Int) 9223372036854775808=(c:Int)) (w:World) :
  Calls Tryz.prog 272 #[.float .f64 b] w fun e w'=>e= .returned (.float .f64 c)/\w=w':=by
 have c1:=run_f64bits
 have c2:=run_f64from
 go_enter Tryz.func272,Tryz.ntmps272
 go_wp2
 go_ret
 exact ⟨by simp,rfl⟩
theorem abs_W (s:Bool){Z:Nat} (hz:Rep Z) (w:World) :
  Calls Tryz.prog 272 #[.float .f64 (W s Z)] w fun e w'=>e= .returned (.float .f64 (W false Z))/\w=w' :=
 abs_word _ _ (abs_bits s (by have:=rung_lt hz;omega)) w
theorem isinf_W (s:Bool){Z:Nat} (hz:Rep Z) (w:World) :
  Calls Tryz.prog 263 #[.float .f64 (W s Z),.int .i64 0] w fun e w'=>e= .returned (.bool false)/\w=w':=by
 have h1:=fo_gt false false hz rep_top
 have:=rep_le hz
 rw [W_top,sg_false,sg_false,decide_eq_false (by omega)] at h1
 have h1':=beq_eq_false_iff_ne.1 h1
 clear this
 go_enter Tryz.func263,Tryz.ntmps263
 go_wp2_with (go_at_call 272;refine (abs_W s hz _).mono ?_;rintro e w' ⟨rfl,rfl⟩)
 go_ret
 exact ⟨by simp,rfl⟩
theorem isnan_W (s:Bool){Z:Nat} (hz:Rep Z) (w:World) :
  Calls Tryz.prog 264 #[.float .f64 (W s Z)] w fun e w'=>e= .returned (.bool false)/\w=w':=by
 have h1:FloatKind.f64.format.order (W s Z) (W s Z)=some .eq:=by
  have:=order_W s s hz hz
  rw [cmp_eq] at this;exact this
 clear hz
 go_enter Tryz.func264,Tryz.ntmps264
 go_wp2
 go_ret
 exact ⟨rfl,rfl⟩
theorem inf_any (s:Bool) (k:Int) (hk:k=if s then -1 else 1) (w:World) :
  Calls Tryz.prog 268 #[.int .i64 k] w fun e w'=>e= .returned (.float .f64 (infw s))/\w=w':=by
 have c2:=run_f64from
 have i1:infw true=18442240474082181120:=by decide
 have i2:infw false=9218868437227405312:=by decide
 cases s
 ·obtain rfl:k=1:=hk
  rw [i2];clear i1 i2
  go_enter Tryz.func268,Tryz.ntmps268
  go_wp2
  go_ret
  exact ⟨rfl,rfl⟩
 ·obtain rfl:k=-1:=hk
  rw [i1];clear i1 i2
  go_enter Tryz.func268,Tryz.ntmps268
  go_wp2
  go_ret
  exact ⟨rfl,rfl⟩
theorem sign_bits (s:Bool){r:Nat} (hr:r < 9223372036854775808) :
  bits .and .u64 ((Ieee.double.word s r:Nat):Int) 9223372036854775808=((W s 0:Nat):Int):=by
 have:=u64_and_nat (Ieee.double.word s r) 9223372036854775808 (word_lt64 s hr) (by omega)
 rw [and_sign] at this
 refine this.trans ?_
 congr 1
 unfold W Ieee.Format.word;rw [signWeight];cases s <;> simp [rung] <;> omega
theorem or_zero_bits (n:Nat) (h:n < 18446744073709551616):bits .or .u64 0 (n:Int)=(n:Int):=by
 have:=u64_or_nat 0 n (by omega) h
 rw [Nat.zero_or] at this
 exact this
theorem copysign_zero (s:Bool){Z:Nat} (hz:Rep Z) (w:World) :
  Calls Tryz.prog 267 #[.float .f64 0,.float .f64 (W s Z)] w fun e w'=>e= .returned (.float .f64 (W s 0))/\w=w':=by
 have c1:=run_f64bits
 have c2:=run_f64from
 have h0:bits .andNot .u64 (((0:Nat)):Int) 9223372036854775808=0:=by decide
 have h0':bits .andNot .u64 0 9223372036854775808=0:=by decide
 have h1:bits .and .u64 ((W s Z:Nat):Int) 9223372036854775808=((W s 0:Nat):Int):=sign_bits s (by have:=rung_lt hz;omega)
 have h2:=or_zero_bits (W s 0) (W_lt s rep_zero)
 clear hz
 generalize W s 0=z at *
 go_enter Tryz.func267,Tryz.ntmps267
 go_wp2
 go_ret
 exact ⟨by simp,rfl⟩
theorem W_min:W false 4503599627370496=4503599627370496:=by decide
theorem rep_min:Rep 4503599627370496:=⟨by decide,1,52,by decide,by decide⟩
theorem norm_sub (s:Bool){Z:Nat} (hz:Rep Z) (hl:Z < 4503599627370496) (w:World) :
  Calls Tryz.prog 265 #[.float .f64 (W s Z)] w fun e w'=>e= .returned (.tuple #[.float .f64 (W s (Z*2^52)),.int .i64 (-52)])/\w=w':=by
 have h1:=order_W false false hz rep_min
 rw [W_min,sg_false,sg_false,cmp_lt (by omega)] at h1
 have h1:FloatKind.f64.format.order (W false Z) 4503599627370496=some .lt:=h1
 have h2:=(mul_p52 s hz hl).2
 have h3:=fun w=>run_float_arith (P:=Tryz.prog) w .mul 96 .f64 (W s Z) 4841369599423283200 _ h2
 clear h2 hl
 generalize W s (Z*2^52)=r at *
 go_enter Tryz.func265,Tryz.ntmps265
 go_wp2_with (go_at_call 272;refine (abs_W s hz _).mono ?_;rintro e w' ⟨rfl,rfl⟩)
 go_ret2
 exact ⟨rfl,rfl⟩
theorem norm_nrm (s:Bool){Z:Nat} (hz:Rep Z) (hl:4503599627370496<=Z) (w:World) :
  Calls Tryz.prog 265 #[.float .f64 (W s Z)] w fun e w'=>e= .returned (.tuple #[.float .f64 (W s Z),.int .i64 0])/\w=w':=by
 have h1:=fo_lt false false hz rep_min
 rw [W_min,sg_false,sg_false,decide_eq_false (by omega)] at h1
 have h1':=beq_eq_false_iff_ne.1 h1
 clear hl
 go_enter Tryz.func265,Tryz.ntmps265
 go_wp2_with (go_at_call 272;refine (abs_W s hz _).mono ?_;rintro e w' ⟨rfl,rfl⟩)
 go_ret2
 exact ⟨rfl,rfl⟩
end Go.Proofs.YtbakjaliponbbaaGreatDoor
namespace Go.Proofs.YtbakjaliponbbaaGreatDoor
open Go Go.RowKit Go.Proofs
def plainB (k:Int) (nums:List Nat) (text:List Int) (name:ByteArray) (c:Int) (kids:List RTree) (n:Int) (nm ch:Bool):Bool :=
 (decide (n < 0)||decide ((kids.length:Int)=n))&&(nm||decide (name.toList=[]))&&(ch||decide (c=0))&&(decide (k=1)||decide (nums.length=0))&&(decide (k=2)||decide (text.length=0))
def slashB (c:Int):Bool:=decide (c=47\/c=92\/c=9023\/c=9024)
def verbB (c:Int):Bool:=decide (c∈verbsL)
def kindR:RTree->Int
 | .mk k _ _ _ _ _=>k
mutual
def gd:RTree->Nat->Bool
 | .mk k nums text name c kids,0 =>
  if k=1 then decide (0 < nums.length)&&plainB k nums text name c kids 0 false false&&nums.all isFin
  else if k=2 then plainB k nums text name c kids 0 false false&&!text.any (fun x=>decide (x=10))
  else if k=3 then plainB k nums text name c kids 0 true false&&goodNB (runesOf name)&&!upB name
  else if k=4\/k=5\/k=6 then plainB k nums text name c kids 0 false false
  else if k=7 then plainB k nums text name c kids (-1) false false&&decide (1 < kids.length)&&gds kids 0
  else if k=8 then plainB k nums text name c kids (-1) false false&&decide (1 < kids.length)&&gdh kids 0 2
  else if k=9 then plainB k nums text name c kids 2 false false&&gdh kids 1 0
  else if k=10 then plainB k nums text name c kids 3 false false&&gdh kids 1 0
  else if k=11 then plainB k nums text name c kids 1 true false&&goodNB (runesOf name)&&!upB name&&gds kids 0
  else if k=12 then plainB k nums text name c kids (-1) true false&&decide (1 < kids.length)&&goodNB (runesOf name)&&!upB name&&gdl kids 2 0
  else false
 | .mk k nums text name c kids,1 =>
  if k=13 then plainB k nums text name c kids 0 false true&&(verbB c||slashB c)
  else if k=14 then plainB k nums text name c kids 0 true false&&goodNB (runesOf name)&&upB name
  else if k=15 then plainB k nums text name c kids (-1) false false&&decide (0 < kids.length)&&gds kids 3
  else if k=16 then plainB k nums text name c kids 1 false true&&(slashB c||decide (c=168)||decide (c=9064))&&gds kids 1
  else if k=17 then plainB k nums text name c kids 2 false false&&gds kids 1
  else if k=18 then plainB k nums text name c kids 1 false false&&gds kids 1
  else false
 | .mk k nums text name c kids,2 =>
  if k=21 then plainB k nums text name c kids 0 false false else gd (.mk k nums text name c kids) 0
 | .mk k nums text name c kids,3 =>
  if k=19 then plainB k nums text name c kids 2 false false&&gds kids 0
  else if k=20 then gd (.mk k nums text name c kids) 4
  else gd (.mk k nums text name c kids) 0
 | .mk k nums text name c kids,_=>decide (kids.length=1)&&goodNB (runesOf name)&&upB name&&gds kids 1&&plainB k nums text name c kids 1 true false
termination_by t s=>(SizeOf.sizeOf t,if s=2\/s=3 then 1 else 0)
def gds:List RTree->Nat->Bool
 | [],_=>true
 | t::ts,s=>gd t s&&gds ts s
termination_by ts _=>(SizeOf.sizeOf ts,0)
def gdh:List RTree->Nat->Nat->Bool
 | [],_,_=>true
 | t::ts,a,b=>gd t a&&gds ts b
termination_by ts _ _=>(SizeOf.sizeOf ts,0)
def gdl:List RTree->Nat->Nat->Bool
 | [],_,_=>true
 | [t],_,b=>gd t b
 | t::t2::ts,a,b=>gd t a&&gdl (t2::ts) a b
termination_by ts _ _=>(SizeOf.sizeOf ts,0)
end
theorem gd_0_1 {nums:List Nat}{text:List Int}{name:ByteArray}{c:Int}{kids:List RTree}:gd (.mk 1 nums text name c kids) 0=(decide (0 < nums.length)&&plainB 1 nums text name c kids 0 false false&&nums.all isFin):=by rw [gd];rfl
theorem gd_0_2 {nums:List Nat}{text:List Int}{name:ByteArray}{c:Int}{kids:List RTree}:gd (.mk 2 nums text name c kids) 0=(plainB 2 nums text name c kids 0 false false&&!text.any (fun x=>decide (x=10))):=by rw [gd];rfl
theorem gd_0_3 {nums:List Nat}{text:List Int}{name:ByteArray}{c:Int}{kids:List RTree}:gd (.mk 3 nums text name c kids) 0=(plainB 3 nums text name c kids 0 true false&&goodNB (runesOf name)&&!upB name):=by rw [gd];rfl
theorem gd_0_4 {nums:List Nat}{text:List Int}{name:ByteArray}{c:Int}{kids:List RTree}:gd (.mk 4 nums text name c kids) 0=(plainB 4 nums text name c kids 0 false false):=by rw [gd];rfl
theorem gd_0_5 {nums:List Nat}{text:List Int}{name:ByteArray}{c:Int}{kids:List RTree}:gd (.mk 5 nums text name c kids) 0=(plainB 5 nums text name c kids 0 false false):=by rw [gd];rfl
theorem gd_0_6 {nums:List Nat}{text:List Int}{name:ByteArray}{c:Int}{kids:List RTree}:gd (.mk 6 nums text name c kids) 0=(plainB 6 nums text name c kids 0 false false):=by rw [gd];rfl
theorem gd_0_7 {nums:List Nat}{text:List Int}{name:ByteArray}{c:Int}{kids:List RTree}:gd (.mk 7 nums text name c kids) 0=(plainB 7 nums text name c kids (-1) false false&&decide (1 < kids.length)&&gds kids 0):=by rw [gd];rfl
theorem gd_0_8 {nums:List Nat}{text:List Int}{name:ByteArray}{c:Int}{kids:List RTree}:gd (.mk 8 nums text name c kids) 0=(plainB 8 nums text name c kids (-1) false false&&decide (1 < kids.length)&&gdh kids 0 2):=by rw [gd];rfl
theorem gd_0_9 {nums:List Nat}{text:List Int}{name:ByteArray}{c:Int}{kids:List RTree}:gd (.mk 9 nums text name c kids) 0=(plainB 9 nums text name c kids 2 false false&&gdh kids 1 0):=by rw [gd];rfl
theorem gd_0_10 {nums:List Nat}{text:List Int}{name:ByteArray}{c:Int}{kids:List RTree}:gd (.mk 10 nums text name c kids) 0=(plainB 10 nums text name c kids 3 false false&&gdh kids 1 0):=by rw [gd];rfl
theorem gd_0_11 {nums:List Nat}{text:List Int}{name:ByteArray}{c:Int}{kids:List RTree}:gd (.mk 11 nums text name c kids) 0=(plainB 11 nums text name c kids 1 true false&&goodNB (runesOf name)&&!upB name&&gds kids 0):=by rw [gd];rfl
theorem gd_0_12 {nums:List Nat}{text:List Int}{name:ByteArray}{c:Int}{kids:List RTree}:gd (.mk 12 nums text name c kids) 0=(plainB 12 nums text name c kids (-1) true false&&decide (1 < kids.length)&&goodNB (runesOf name)&&!upB name&&gdl kids 2 0):=by rw [gd];rfl
theorem gd_1_13 {nums:List Nat}{text:List Int}{name:ByteArray}{c:Int}{kids:List RTree}:gd (.mk 13 nums text name c kids) 1=(plainB 13 nums text name c kids 0 false true&&(verbB c||slashB c)):=by rw [gd];rfl
theorem gd_1_14 {nums:List Nat}{text:List Int}{name:ByteArray}{c:Int}{kids:List RTree}:gd (.mk 14 nums text name c kids) 1=(plainB 14 nums text name c kids 0 true false&&goodNB (runesOf name)&&upB name):=by rw [gd];rfl
theorem gd_1_15 {nums:List Nat}{text:List Int}{name:ByteArray}{c:Int}{kids:List RTree}:gd (.mk 15 nums text name c kids) 1=(plainB 15 nums text name c kids (-1) false false&&decide (0 < kids.length)&&gds kids 3):=by rw [gd];rfl
theorem gd_1_16 {nums:List Nat}{text:List Int}{name:ByteArray}{c:Int}{kids:List RTree}:gd (.mk 16 nums text name c kids) 1=(plainB 16 nums text name c kids 1 false true&&(slashB c||decide (c=168)||decide (c=9064))&&gds kids 1):=by rw [gd];rfl
theorem gd_1_17 {nums:List Nat}{text:List Int}{name:ByteArray}{c:Int}{kids:List RTree}:gd (.mk 17 nums text name c kids) 1=(plainB 17 nums text name c kids 2 false false&&gds kids 1):=by rw [gd];rfl
theorem gd_1_18 {nums:List Nat}{text:List Int}{name:ByteArray}{c:Int}{kids:List RTree}:gd (.mk 18 nums text name c kids) 1=(plainB 18 nums text name c kids 1 false false&&gds kids 1):=by rw [gd];rfl
theorem gd_2_21 {nums:List Nat}{text:List Int}{name:ByteArray}{c:Int}{kids:List RTree}:gd (.mk 21 nums text name c kids) 2=(plainB 21 nums text name c kids 0 false false):=by rw [gd];rfl
theorem gd_3_19 {nums:List Nat}{text:List Int}{name:ByteArray}{c:Int}{kids:List RTree}:gd (.mk 19 nums text name c kids) 3=(plainB 19 nums text name c kids 2 false false&&gds kids 0):=by rw [gd];rfl
theorem gd_3_20 {nums:List Nat}{text:List Int}{name:ByteArray}{c:Int}{kids:List RTree}:gd (.mk 20 nums text name c kids) 3=(gd (.mk 20 nums text name c kids) 4):=by rw [gd];rfl
theorem gd_0_no {k:Int}{nums:List Nat}{text:List Int}{name:ByteArray}{c:Int}{kids:List RTree} (h:k < 1\/12 < k):gd (.mk k nums text name c kids) 0=false:=by
 rw [gd]
 rw [if_neg (by omega),if_neg (by omega),if_neg (by omega),if_neg (by omega),if_neg (by omega),if_neg (by omega),if_neg (by omega),if_neg (by omega),if_neg (by omega),if_neg (by omega)]
theorem gd_1_no {k:Int}{nums:List Nat}{text:List Int}{name:ByteArray}{c:Int}{kids:List RTree} (h:k < 13\/18 < k):gd (.mk k nums text name c kids) 1=false:=by
 rw [gd]
 rw [if_neg (by omega),if_neg (by omega),if_neg (by omega),if_neg (by omega),if_neg (by omega),if_neg (by omega)]
theorem gd_2_no {k:Int}{nums:List Nat}{text:List Int}{name:ByteArray}{c:Int}{kids:List RTree} (h:k≠21):gd (.mk k nums text name c kids) 2=gd (.mk k nums text name c kids) 0:=by
 conv=>lhs;rw [gd]
 rw [if_neg h]
theorem gd_3_no {k:Int}{nums:List Nat}{text:List Int}{name:ByteArray}{c:Int}{kids:List RTree} (h:k≠19) (h2:k≠20):gd (.mk k nums text name c kids) 3=gd (.mk k nums text name c kids) 0:=by
 conv=>lhs;rw [gd]
 rw [if_neg h,if_neg h2]
theorem gd_4 {k:Int}{nums:List Nat}{text:List Int}{name:ByteArray}{c:Int}{kids:List RTree}:gd (.mk k nums text name c kids) 4=(decide (kids.length=1)&&goodNB (runesOf name)&&upB name&&gds kids 1&&plainB k nums text name c kids 1 true false):=by
 rw [gd] <;> simp
theorem gds_eq:∀ (ts:List RTree) (s:Nat),gds ts s=ts.all (fun t=>gd t s)
 | [],_=>by rw [gds];rfl
 | t::ts,s=>by rw [gds,gds_eq ts s];rfl
theorem Reads1.opn {w:World}{v:Value}{xs:List Value} (h:Reads1 w v xs):∃ A cc n,v= .slice A n cc/\n=xs.length /\
  ∀ i (hi:i < xs.length),∃ b o,A=some ⟨b,o,none⟩/\∀ w1,Below w.heap.size w w1->w1.cell? ⟨b,o+i,none⟩=some xs[i]:=by
 rcases h with ⟨a,c,rfl,rfl⟩ | ⟨b,o,n,c,rfl,hn,hc⟩
 ·exact ⟨a,c,0,rfl,rfl,fun i hi=>by simp at hi⟩
 ·refine ⟨_,c,n,rfl,hn,fun i hi=>⟨b,o,rfl,fun w1 hb=>?_⟩⟩
  have:=hc i hi
  rw [hb.cell (cell_lt this),this]
theorem Below.drewN2 {B:Nat}{a w:World} (h:Below B a w) (k:Nat):Below B a (w.drewN k):=⟨h.os,h.tape,h.output,h.size,h.block⟩
def KidsAt (w:World) (A:Option Addr) (kids:List RTree):Prop :=
 ∀ i (hi:i < kids.length),∃ b o v0 v1 v2 v3 v4 v5 v6,A=some ⟨b,o,none⟩/\TN w kids[i] [v0,v1,v2,v3,v4,v5,v6]/\∀ w1,Below w.heap.size w w1 ->
    w1.cell? ⟨b,o+i*7,none⟩=some v0/\w1.cell? ⟨b,o+i*7+1,none⟩=some v1/\w1.cell? ⟨b,o+i*7+2,none⟩=some v2/\w1.cell? ⟨b,o+i*7+3,none⟩=some v3/\w1.cell? ⟨b,o+i*7+4,none⟩=some v4/\w1.cell? ⟨b,o+i*7+5,none⟩=some v5/\w1.cell? ⟨b,o+i*7+6,none⟩=some v6
theorem KidsAt.below {w w':World}{A:Option Addr}{kids:List RTree} (h:KidsAt w A kids) (hb:Below w.heap.size w w'):KidsAt w' A kids:=by
 intro i hi
 obtain ⟨b,o,v0,v1,v2,v3,v4,v5,v6,h1,h2,h3⟩:=h i hi
 exact ⟨b,o,v0,v1,v2,v3,v4,v5,v6,h1,TN.below hb _ _ h2,fun w1 hb1=>h3 w1 (hb.trans (hb1.mono hb.size))⟩
theorem TN.shape {w:World}{t:RTree}{v0 v1 v2 v3 v4 v5 v6:Value} (h:TN w t [v0,v1,v2,v3,v4,v5,v6]) :
  ∃ (k a c:Int) (name:ByteArray) (A1 A2 A3:Option Addr) (n1 c1 n2 c2 n3 c3:Nat),v0= .int .i64 k/\v1= .int .i64 a/\v2= .slice A1 n1 c1/\v3= .slice A2 n2 c2/\v4= .string name/\v5= .int .i32 c/\v6= .slice A3 n3 c3:=by
 cases t with
 | mk k nums text name c kids =>
  obtain ⟨a,nv,tv,A,cc,m,hvs,hrn,hrt,_,_⟩:=h.open_
  simp only [List.cons.injEq,and_true] at hvs
  obtain ⟨rfl,rfl,rfl,rfl,rfl,rfl,rfl⟩:=hvs
  obtain ⟨A1,c1,n1,rfl,_,_⟩:=hrn.opn
  obtain ⟨A2,c2,n2,rfl,_,_⟩:=hrt.opn
  exact ⟨k,a,c,name,A1,A2,A,n1,c1,n2,c2,m,cc,rfl,rfl,rfl,rfl,rfl,rfl,rfl⟩
def BoxT (w W:World) (vs:List Value):Prop:=(∀ i,W.cell? ⟨w.heap.size,i,none⟩=vs[i]?)/\Below w.heap.size w W/\w.heap.size < W.heap.size
theorem boxedT (w:World) (vs:List Value) (T:TypeId):BoxT w (w.alloc (.cells vs.toArray T)) vs :=
 ⟨fun i=>by rw [World.cell?_alloc_at _ _ _ _ rfl];simp,(Below.refl _ w).alloc (Nat.le_refl _) _,by simp⟩
theorem BoxT.step {w W W':World}{vs:List Value} (h:BoxT w W vs) (hb:Below W.heap.size W W'):BoxT w W' vs :=
 ⟨fun i=>by rw [hb.cell (p:=⟨w.heap.size,i,none⟩) h.2.2];exact h.1 i,h.2.1.trans (hb.mono (by have:=h.2.2;omega)),by have:=hb.size;have:=h.2.2;omega⟩
theorem BoxT.c7 {w W:World}{v0 v1 v2 v3 v4 v5 v6:Value} (h:BoxT w W [v0,v1,v2,v3,v4,v5,v6]):W.cell? ⟨w.heap.size,0,none⟩=some v0/\W.cell? ⟨w.heap.size,1,none⟩=some v1/\W.cell? ⟨w.heap.size,2,none⟩=some v2 /\
  W.cell? ⟨w.heap.size,3,none⟩=some v3/\W.cell? ⟨w.heap.size,4,none⟩=some v4/\W.cell? ⟨w.heap.size,5,none⟩=some v5/\W.cell? ⟨w.heap.size,6,none⟩=some v6:=⟨h.1 0,h.1 1,h.1 2,h.1 3,h.1 4,h.1 5,h.1 6⟩
theorem plain_walk (k at1:Int) (A1:Option Addr) (n1 c1:Nat) (A2:Option Addr) (n2 c2:Nat) (name:ByteArray) (c:Int) (A:Option Addr) (m cc:Nat) (nums:List Nat) (text:List Int) (kids:List RTree)
  (hn:n1=nums.length) (ht:n2=text.length) (hm:m=kids.length) (kn:Int) (nm ch:Bool) (w:World) :
  Calls Tryz.prog 110 #[.agg #[.int .i64 k,.int .i64 at1,.slice A1 n1 c1,.slice A2 n2 c2,.string name,.int .i32 c,.slice A m cc],.int .i64 kn,.bool nm,.bool ch] w
   fun e w'=>e= .returned (.bool (plainB k nums text name c kids kn nm ch))/\Below w.heap.size w w':=by
 obtain ⟨R,hR⟩:∃ R,R=plainB k nums text name c kids kn nm ch:=⟨_,rfl⟩
 have HR:Hid (R=((decide (kn < 0)||decide ((m:Int)=kn))&&(nm||decide (name.toList=[]))&&(ch||decide (c=0))&&(decide (k=1)||decide (n1=0))&&(decide (k=2)||decide (n2=0)))):=by
  unfold Hid;rw [hR,hn,ht,hm];rfl
 rw [<- hR]
 clear hR hn ht hm
 go_enter Tryz.func110,Tryz.ntmps110
 go_wp2
 all_goals go_ret
 all_goals exact ⟨by rw [HR.out];clear HR;first | rfl | (show Ending.returned (Value.bool _)=_;refine congrArg (fun b=>Ending.returned (Value.bool b)) ?_;first | (simp [*];done) | (rw [Bool.eq_iff_iff];simp [*];done) | (rw [Bool.eq_iff_iff];simp [*];omega)),(Below.refl _ w).alloc (Nat.le_refl _) _⟩
theorem nIndex_walk (kids : List RTree) (A : Option Addr) (m cc : Nat) (w : World) (q : Addr) (f : FuncId) (p : RTree → Bool) (fn : Func) (hfn : Tryz.prog.funcs[f]? = some fn) (hnm : (fn.name == "runtime.NumGoroutine") = false) (co : Code) (hco : fn.body = some co)
  (hm:m=kids.length) (hm2:m<=1048576) (hk:KidsAt w A kids)
  (hf:∀ i (hi:i < kids.length) v0 v1 v2 v3 v4 v5 v6 w1,Below w.heap.size w w1->TN w1 kids[i] [v0,v1,v2,v3,v4,v5,v6]->Calls Tryz.prog f #[.agg #[v0,v1,v2,v3,v4,v5,v6],.pointer (some q)] w1 fun e w'=>e= .returned (.bool (p kids[i]))/\Below w1.heap.size w1 w') :
  Calls Tryz.prog 173 #[.slice A m cc,.func (.func f) #[] #[.pointer (some q)]] w fun e w'=>IdxTells (kids.any p) e/\Below w.heap.size w w':=by
 have HK:=Lib.hid hk
 have HM:=Lib.hid hm
 have HF:=Lib.hid hf
 have hcf:∀ (args:Array Value) (w:World),(callFunc f args).run Tryz.prog w= .ok (.enter f args) w:=by
  intro args w
  have h1 : fn.name ≠ "runtime.NumGoroutine" := by simpa using hnm
  simp [callFunc,hfn,h1,hco]
 obtain ⟨R,hR⟩:∃ R,R=kids.any p:=⟨_,rfl⟩
 have HY:Hid (∀ i (hi:i < kids.length),p kids[i]=true->R=true):=fun i hi h2=>by rw [hR,List.any_eq_true];exact ⟨_,List.getElem_mem hi,h2⟩
 have HX:Hid ((∀ i (hi:i < kids.length),p kids[i]=false)->R=false):=fun h=>by
  rw [hR,List.any_eq_false];intro x hx;obtain ⟨i,hi,rfl⟩:=List.getElem_of_mem hx;simp [h i hi]
 rw [<- hR]
 clear hk hm hf hfn hnm hco hR
 go_enter Tryz.func173,Tryz.ntmps173
 go_wp2
 go_loopw [5,8] (fun _ iv wr=>∃ k:Nat,k<=m/\iv= .int .i64 (k:Int)/\Below w.heap.size w wr/\Hid (∀ i (hi:i < kids.length),i < k->p kids[i]=false)) (fun _ iv _=>m - (intOf iv).toNat)
 case atStart=>exact ⟨0,Nat.zero_le _,rfl,Below.refl _ _,fun i _ h=>absurd h (by omega)⟩
 case round =>
  obtain ⟨k,hk,rfl,hbl,hall⟩:=hrel
  have HBL:=Lib.hid hbl
  by_cases hlt:k < m
  ·have hik:k < kids.length:=by have:=HM.out;omega
   obtain ⟨b,o,u0,u1,u2,u3,u4,u5,u6,rfl,hr,hce⟩:=HK.out k hik
   obtain ⟨c0,c1,c2,c3,c4,c5,c6⟩:=hce wr hbl
   have HFC:=Lib.hid (HF.out k hik u0 u1 u2 u3 u4 u5 u6 wr hbl (TN.below hbl _ _ hr))
   have HYK:=Lib.hid (HY.out k hik)
   have HAK:Hid (p kids[k]=false->∀ i (hi:i < kids.length),i < k+1->p kids[i]=false):=by
    intro hp i hi h
    rcases Nat.lt_or_ge i k with h1 | h1
    ·exact hall.out i hi h1
    ·obtain rfl:i=k:=by omega
     exact hp
   clear hr hce hbl hall
   generalize p kids[k]=pb at *
   go_wp2_with fail
   refine HFC.out.mono ?_
   rintro e w2 ⟨rfl,hb⟩
   have HB2:=Lib.hid (HBL.out.trans (hb.mono HBL.out.size))
   clear hb c0 c1 c2 c3 c4 c5 c6
   cases pb with
   | true =>
    have HT:=Lib.hid (HYK.out rfl)
    go_wp2
    go_ret
    exact ⟨⟨(k:Int),rfl,by omega,by rw [HT.out];simp⟩,HB2.out⟩
   | false =>
    have HA:=Lib.hid (HAK.out rfl)
    go_wp2
    go_roundw
    case rel=>exact ⟨k+1,by omega,by go_num,HB2.out,HA.out⟩
    case measure=>simp [intOf];omega
  ·have HT:Hid (R=false):=HX.out fun i hi=>hall.out i hi (by have:=HM.out;omega)
   clear hall hbl
   go_wp2
   go_ret
   exact ⟨⟨-1,rfl,by omega,by rw [HT.out];simp⟩,HBL.out⟩
theorem nContains_walk (kids : List RTree) (A : Option Addr) (m cc : Nat) (w : World) (q : Addr) (f : FuncId) (p : RTree → Bool) (fn : Func) (hfn : Tryz.prog.funcs[f]? = some fn) (hnm : (fn.name == "runtime.NumGoroutine") = false) (co : Code) (hco : fn.body = some co)
  (hm:m=kids.length) (hm2:m<=1048576) (hk:KidsAt w A kids)
  (hf:∀ i (hi:i < kids.length) v0 v1 v2 v3 v4 v5 v6 w1,Below w.heap.size w w1->TN w1 kids[i] [v0,v1,v2,v3,v4,v5,v6]->Calls Tryz.prog f #[.agg #[v0,v1,v2,v3,v4,v5,v6],.pointer (some q)] w1 fun e w'=>e= .returned (.bool (p kids[i]))/\Below w1.heap.size w1 w') :
  Calls Tryz.prog 121 #[.slice A m cc,.func (.func f) #[] #[.pointer (some q)]] w fun e w'=>e= .returned (.bool (kids.any p))/\Below w.heap.size w w':=by
 have HI:=Lib.hid (nIndex_walk kids A m cc w q f p fn hfn hnm co hco hm hm2 hk hf)
 clear hk hm hm2 hf hfn hnm hco
 generalize kids.any p=R at *
 go_enter Tryz.func121,Tryz.ntmps121
 go_wp2_with fail
 refine HI.out.mono ?_
 rintro e w' ⟨⟨k,rfl,hk,hR⟩,hb⟩
 have HR:=Lib.hid hR
 have HB:=Lib.hid hb
 clear hR hb
 go_wp2
 go_ret
 exact ⟨by rw [<- HR.out];rfl,HB.out⟩
def Tells (f:FuncId) (p:RTree->Bool) (ok:RTree->Prop):Prop :=
 ∀ t v0 v1 v2 v3 v4 v5 v6 w,ok t->TN w t [v0,v1,v2,v3,v4,v5,v6]->Calls Tryz.prog f #[.agg #[v0,v1,v2,v3,v4,v5,v6]] w fun e w'=>e= .returned (.bool (p t))/\Below w.heap.size w w'
theorem everyC_walk (v0 v1 v2 v3 v4 v5 v6 : Value) (w : World) (q : Addr) (f : FuncId) (b : Bool) (fn : Func) (hfn : Tryz.prog.funcs[f]? = some fn) (hnm : (fn.name == "runtime.NumGoroutine") = false) (co : Code) (hco : fn.body = some co)
  (hq:w.cell? q=some (.func (.func f) #[] #[]))
  (hf:∀ w1,Below w.heap.size w w1->Calls Tryz.prog f #[.agg #[v0,v1,v2,v3,v4,v5,v6]] w1 fun e w'=>e= .returned (.bool b)/\Below w1.heap.size w1 w') :
  Calls Tryz.prog 171 #[.agg #[v0,v1,v2,v3,v4,v5,v6],.pointer (some q)] w fun e w'=>e= .returned (.bool (!b))/\Below w.heap.size w w':=by
 have HF:=Lib.hid hf
 have hcf:∀ (args:Array Value) (w:World),(callFunc f args).run Tryz.prog w= .ok (.enter f args) w:=by
  intro args w
  have h1 : fn.name ≠ "runtime.NumGoroutine" := by simpa using hnm
  simp [callFunc,hfn,h1,hco]
 have hb0:Below w.heap.size w (w.alloc (.cells #[v0,v1,v2,v3,v4,v5,v6] 31)):=(Below.refl _ w).alloc (Nat.le_refl _) _
 have HB0:=Lib.hid hb0
 have hq2:(w.alloc (.cells #[v0,v1,v2,v3,v4,v5,v6] 31)).cell? q=some (.func (.func f) #[] #[]):=by rw [hb0.cell (cell_lt hq)];exact hq
 clear hf hfn hnm hco hb0 hq
 go_enter Tryz.func171,Tryz.ntmps171
 go_wp2_with fail
 refine (HF.out _ HB0.out).mono ?_
 rintro e w2 ⟨rfl,hb⟩
 have HB2:=Lib.hid (HB0.out.trans (hb.mono HB0.out.size))
 clear hb hq2
 go_wp2
 go_ret
 exact ⟨rfl,HB2.out⟩
theorem any_not {kids:List RTree}{p:RTree->Bool}:(!kids.any fun t => !p t)=kids.all p:=by
 induction kids with
 | nil=>rfl
 | cons t ts ih=>rw [List.any_cons,List.all_cons,<- ih];simp
theorem every_walk (kids : List RTree) (A : Option Addr) (m cc : Nat) (w : World) (f : FuncId) (p : RTree → Bool) (ok : RTree → Prop) (fn : Func) (hfn : Tryz.prog.funcs[f]? = some fn) (hnm : (fn.name == "runtime.NumGoroutine") = false) (co : Code) (hco : fn.body = some co)
  (hm:m=kids.length) (hm2:m<=1048576) (hk:KidsAt w A kids) (hok:∀ i (hi:i < kids.length),ok kids[i]) (hf:Tells f p ok) :
  Calls Tryz.prog 116 #[.slice A m cc,.func (.func f) #[] #[]] w fun e w'=>e= .returned (.bool (kids.all p))/\Below w.heap.size w w':=by
 have hb0:Below w.heap.size w (w.alloc (.cells #[.func (.func f) #[] #[]] 82)):=(Below.refl _ w).alloc (Nat.le_refl _) _
 have HB0:=Lib.hid hb0
 have HC:=Lib.hid (nContains_walk kids A m cc (w.alloc (.cells #[.func (.func f) #[] #[]] 82)) ⟨w.heap.size,0,none⟩ 171 (fun t => !p t) _ Tryz.func171 (by kernel_rfl) _ rfl hm hm2 (hk.below hb0)
  (fun i hi v0 v1 v2 v3 v4 v5 v6 w1 hb ht=>everyC_walk v0 v1 v2 v3 v4 v5 v6 w1 _ f (p kids[i]) fn hfn hnm co hco (by rw [hb.cell (by simp),World.cell?_alloc_at _ _ _ _ rfl];rfl)
   fun w2 hb2=>hf _ _ _ _ _ _ _ _ _ (hok i hi) (TN.below hb2 _ _ ht)))
 rw [<- any_not]
 clear hb0 hm hm2 hk hok hf hfn hnm hco
 generalize (kids.any fun t => !p t)=R at *
 go_enter Tryz.func116,Tryz.ntmps116
 go_wp2_with fail
 refine HC.out.mono ?_
 rintro e w2 ⟨rfl,hb⟩
 have HB2:=Lib.hid (HB0.out.trans (hb.mono HB0.out.size))
 clear hb
 go_wp2
 go_ret
 exact ⟨rfl,HB2.out⟩
end Go.Proofs.YtbakjaliponbbaaGreatDoor
