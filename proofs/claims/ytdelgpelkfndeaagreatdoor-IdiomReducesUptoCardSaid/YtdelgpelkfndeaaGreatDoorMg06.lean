/- The walks of Packed and Wholes at numbers in any store. Numbers in any store bear what fold.Fold asks of them. The walk of vec.Floats where one is no number. .. Conditions: as each theorem says. -/
import Derived.Test.YtdelgpelkfndeaaGreatDoorMgA
import Derived.Test.YtdelgpelkfndeaaGreatDoorMg05
import Derived.Test.YtdelgpelkfndeaaGreatDoorMg02
import Derived.Test.YtdelgpelkfndeaaGreatDoorMg00
import Derived.Laws.BitsAllLaws
import Derived.Test.YtdelgpelkfndeaaGreatDoorMg04
set_option maxRecDepth 100000
set_option maxHeartbeats 1000000
namespace Go.Proofs.YtdelgpelkfndeaaGreatDoor
open Go Go.RowKit Go.Proofs Fl
theorem Qbi (a:Sl) (bn:Int) (s i f c x:Value) (w:World) :
  Calls Tryz.prog 28 #[vecV 1 (.slice a.1 a.2.1 a.2.2) bn s i f c x] w fun e w'=>e= .returned (.tuple #[.agg #[.slice a.1 a.2.1 a.2.2,.int .i64 bn],.bool true])/\Below w.heap.size w w':=by
 have HK:=hD (heap_alloc_new (w.alloc (.cells #[.int .i64 1,.slice a.1 a.2.1 a.2.2,.int .i64 bn,s,i,f,c,x] 39)) (.cells #[.slice a.1 a.2.1 a.2.2,.int .i64 bn] 33))
 go_enter Tryz.func28,Tryz.ntmps28
 go_wp2
 refine bodyPost_ret (v := .tuple #[.agg #[.slice a.1 a.2.1 a.2.2,.int .i64 bn],.bool true]) ?_ rfl ⟨rfl,bel2 _ _ _⟩
 exact QbI (fn:=Tryz.f28) (p:=2) (u:=3) rfl _ _ (w.heap.size+1) (by rfl) (by have h:=HK.out;simpa using h)
theorem QaY (k:Int) (b:Value) (bn:Int) (s i f c x:Value) (w:World) :
  Calls Tryz.prog 43 #[vecV k b bn s i f c x] w fun e w'=>e= .returned (.int .i64 k)/\Below w.heap.size w w':=by
 go_enter Tryz.func43,Tryz.ntmps43
 go_wp2
 go_ret
 exact ⟨rfl,bel1 _ _⟩
theorem Qmj {k:Int}{b:Value}{bn:Int}{s i f c x:Value}{n:Nat}{F:Nat->Nat}{w:World} (hn:n<=1000000) (hN:∀ W,Below w.heap.size w W->NumV (vecV k b bn s i f c x) k n F W) :
  Calls Tryz.prog 174 #[vecV k b bn s i f c x] w fun e w'=>e= .returned (.int .i64 (leastF F n:Nat))/\Below w.heap.size w w':=by
 rcases (hN w (Below.refl _ _)).kind with e | e | e | e
 ·exact QbA k (.inl e) _ bn _ _ _ _ _ n F w (by omega) hN
 ·exact QbA k (.inr (.inl e)) _ bn _ _ _ _ _ n F w (by omega) hN
 ·exact QbA k (.inr (.inr e)) _ bn _ _ _ _ _ n F w (by omega) hN
 ·subst e
  exact Qe6 _ bn _ _ _ _ _ n F w (by omega) hN
theorem Qmk {k:Int}{b:Value}{bn:Int}{s i f c x:Value}{n:Nat}{F:Nat->Nat}{w:World} (hn:n<=1000000) (hN:∀ W,Below w.heap.size w W->NumV (vecV k b bn s i f c x) k n F W) :
  Calls Tryz.prog 165 #[vecV k b bn s i f c x] w fun e w'=>e= .returned (.bool (k==(leastF F n:Nat)))/\Below w.heap.size w w':=by
 have HC:=hD (fun W=>QaY k b bn s i f c x W)
 have HL:=hD (fun W (hw:Below w.heap.size w W)=>Qmj hn (fun W' hw'=>hN W' (Qaa hw hw')))
 clear hN
 go_enter Tryz.func165,Tryz.ntmps165
 go_wp2_with fail
 go_region_with (first
  | (go_at_call 43;go_loud ((refine (HC.out _).mono ?_);rintro e w1 ⟨rfl,hb1⟩);obtain ⟨hc1,hf1⟩:=bcell2 hb1;have hz1:=hb1.size)
  | (go_at_call 174;go_loud ((refine (HL.out _ ?_).mono ?_);exact Qaa (bel1 w _).drew hb1;rintro e w2 ⟨rfl,hb2⟩);obtain ⟨hc2,hf2⟩:=bcell2 hb2;have hz2:=hb2.size))
 all_goals
  go_wp2
  go_ret
  exact ⟨rfl,Qaa (Qaa (bel1 w _).drew hb1) hb2⟩
theorem QkK (b o n c:Nat) (x y:Nat->Nat) (hn:n<=1000000) (w:World) (hc:∀ i,i < n->w.cell? ⟨b,o+i,none⟩=some (.float .f64 (x i)))
  (K:Nat) (hK:K < n) (ht:∀ i,i < K->∀ W,Calls Tryz.prog 172 #[.float .f64 (x i)] W fun e w'=>e= .returned (.tuple #[.float .f64 (y i),.bool true])/\W=w')
  (hbad:∀ W,Calls Tryz.prog 172 #[.float .f64 (x K)] W fun e w'=>e= .returned (.tuple #[.float .f64 0,.bool false])/\W=w') :
  Calls Tryz.prog 116 #[.slice (some ⟨b,o,none⟩) n c] w (QoS w):=by
 have HC:Hid (∀ wr,Below w.heap.size w wr->∀ i,i < n->wr.cell? ⟨b,o+i,none⟩=some (.float .f64 (x i))):=by
  intro wr hb i h
  rw [hb.cell (Qav (hc i h))];exact hc i h
 have HT:=hD ht
 have HBAD:=hD hbad
 have hmk:=run_make_row' (P:=Tryz.prog) 36 60 (.float .f64 0) 8 Tryz.underlying36 Qds rfl .i64 .i64 n (by omega) (by omega)
 clear hc ht hbad
 have hsz:(w.alloc (.cells zcells 39)).heap.size=w.heap.size+1:=by simp
 have HF0:=hD (Fill.made (w.alloc (.cells zcells 39)) w.heap.size (by simp) 60 (fun j => .float .f64 (y j)) (.float .f64 0) n (by unfold maxLen;omega))
 rw [hsz] at HF0
 have HB0:=hD (bel2 w (.cells zcells 39) (.cells (madeCells #[.float .f64 0] n) 60))
 have HK0:=hD (Qar (bel1 (w.alloc (.cells zcells 39)) (.cells (madeCells #[.float .f64 0] n) 60)))
 clear hsz
 go_enter Tryz.func116,Tryz.ntmps116
 go_wp2
 go_loopw [14] (fun j wr=>∃ m:Nat,m<=K/\j= .int .i64 m/\Fill wr w.heap.size (w.heap.size+1) 60 (fun j => .float .f64 (y j)) (.float .f64 0) n m/\Below w.heap.size w wr/\wr.heap[w.heap.size]?=some (.cells zcells 39)) (fun j _=>n - (intOf j).toNat)
 case atStart=>exact ⟨0,Nat.zero_le _,rfl,HF0.out,HB0.out,HK0.out⟩
 case round =>
  obtain ⟨m,hm,rfl,hf,hbl,hk⟩:=hrel
  have HF:=hD hf
  have HBL:=hD hbl
  have HK:=hD hk
  clear hf hbl hk
  have hlt:m < n:=by omega
  have hcell:=HC.out wr HBL.out m hlt
  by_cases hmK:m < K
  ·have hc3:=HF.out.cell hlt
   have hz3:=HF.out.frozen m
   have HP:=hD (HF.out.put hlt)
   have HB3:=hD (HF.out.bel HBL.out m (.float .f64 (y m)))
   have HK3:=hD (show (wr.setCell ⟨w.heap.size+1,m,none⟩ (.float .f64 (y m))).heap[w.heap.size]?=some (.cells zcells 39) by rw [Below.heap_setCell _ _ _ _ (by simp)];exact HK.out)
   have hst:=fun md=>QaG hc3 hz3 .f64 (y m) md
   have HTM:=hD (HT.out m hmK)
   go_wp2_with fail
   refine (HTM.out _).mono ?_
   rintro e w3 ⟨rfl,rfl⟩
   go_wp2
   go_roundw
   case rel=>exact ⟨m+1,by omega,by go_num,HP.out,HB3.out,HK3.out⟩
   case measure=>simp [intOf];omega
  ·obtain rfl:m=K:=by omega
   obtain ⟨⟨h0,h1,h2,h3,h4,h5,h6,h7⟩,hz⟩:=Qag HK.out
   go_wp2_with fail
   refine (HBAD.out _).mono ?_
   rintro e w3 ⟨rfl,rfl⟩
   go_wp2
   refine bodyPost_ret (v := .tuple #[vecV 0 vnil 0 vnil vnil vnil vnil vnil,.bool false]) ?_ rfl ⟨rfl,Qac HBL.out (Nat.le_refl _) _ _ _ _ _ _ _ _⟩
   exact Qas (fn:=Tryz.f116) (p:=2) (u:=3) rfl _ _ w.heap.size (by rfl) (Qad HK.out _ _ _ _ _ _ _ _)
def okF (b:Nat):Bool:=(Qau b).2==0
def tidF (b:Nat):Nat:=(Qau b).1
theorem QjK {b:Nat} (hb:b < 18446744073709551616):(okF b=true/\TF (tidF b)/\(∀ W,Calls Tryz.prog 172 #[.float .f64 b] W fun e w'=>e= .returned (.tuple #[.float .f64 (tidF b),.bool true])/\W=w')/\(∀ W,Calls Tryz.prog 42 #[.float .f64 b] W fun e w'=>e= .returned (.tuple #[.float .f64 (tidF b),.bool true])/\W=w')) \/
  (okF b=false/\(∀ W,Calls Tryz.prog 172 #[.float .f64 b] W fun e w'=>e= .returned (.tuple #[.float .f64 0,.bool false])/\W=w')/\(∀ W,Calls Tryz.prog 42 #[.float .f64 b] W fun e w'=>e= .returned (.tuple #[.float .f64 0,.bool false])/\W=w')):=by
 rcases classify b hb with ⟨s,Z,hz,rfl⟩ | h
 ·left
  have e:=QaX s hz
  have e1:tidF (W s Z)=tid s Z:=by unfold tidF;rw [e]
  have e2:okF (W s Z)=true:=by unfold okF;rw [e];rfl
  have e3:TF (tid s Z):=by
   rcases Qa9 hb with ⟨c,hc,e4⟩ | e4
   ·rw [e] at e4
    injection e4 with e4 _
    rw [e4];exact hc
   ·rw [e] at e4
    injection e4 with _ e5
    cases e5
  rw [e1]
  exact ⟨e2,e3,fun W=>QeT s hz W,fun W=>QeS s hz W⟩
 ·right
  have e:Qau b=(0,24):=by rcases h with ⟨s,rfl⟩ | h;exact Qbo s;exact Qcd h
  exact ⟨by unfold okF;rw [e];rfl,fun W=>Qhk h W,fun W=>Qhi h W⟩
def Qte (n:Nat) (F:Nat->Nat) (w:World) (e:Ending) (w':World):Prop :=
 ((∀ j,j < n->okF (F j)=true)/\∃ a m c,e= .returned (.tuple #[vecV 4 vnil 0 vnil vnil (.slice a m c) vnil vnil,.bool true])/\Own1 w' w.heap.size 60 (.slice a m c) ((List.range n).map fun j => .float .f64 (tidF (F j)))/\Below w.heap.size w w') \/
 ((∃ j,j < n/\okF (F j)=false)/\QoS w e w')
theorem QkL {w:World}{v:Value}{n:Nat}{F:Nat->Nat} (hr:Reads1 w v ((List.range n).map fun j => .float .f64 (F j))) (hn:n<=1000000) (hF:∀ j,j < n->F j < 18446744073709551616) :
  Calls Tryz.prog 116 #[v] w (Qte n F w):=by
 obtain ⟨a,c,rfl,hc⟩:=Qbg hr
 by_cases h0:n=0
 ·subst h0
  refine (QfY hr hn (fun j hj=>absurd hj (Nat.not_lt_zero _))).mono ?_
  rintro e w' ⟨a2,m,c2,rfl,ho,hb⟩
  exact .inl ⟨fun j hj=>absurd hj (Nat.not_lt_zero _),a2,m,c2,rfl,ho,hb⟩
 ·obtain ⟨b,o,rfl,_⟩:=hc 0 (by omega)
  have hcell:∀ i,i < n->w.cell? ⟨b,o+i,none⟩=some (.float .f64 (F i)):=fun i hi=>Qbh hr i hi
  have hyes:∀ j,j < n->okF (F j)=true->∀ W,Calls Tryz.prog 172 #[.float .f64 (F j)] W fun e w'=>e= .returned (.tuple #[.float .f64 (tidF (F j)),.bool true])/\W=w':=fun j hj ho=>by
   rcases QjK (hF j hj) with h | h
   ·exact h.2.2.1
   ·rw [h.1] at ho;cases ho
  rcases Qdx (fun j=>okF (F j)) n with hall | ⟨K,hK,hbad,hlow⟩
  ·refine (QeX b o n c F (fun j=>tidF (F j)) hn w hcell (fun i hi=>hyes i hi (hall i hi))).mono ?_
   rintro e w' ⟨u,rfl,ho,hb⟩
   obtain ⟨a2,m,c2,rfl⟩:∃ a m c',u= .slice a m c':=by obtain ⟨a,c,e⟩:=ho.reads.len;exact ⟨a,_,c,e⟩
   exact .inl ⟨hall,a2,m,c2,rfl,ho,hb⟩
  ·refine (QkK b o n c F (fun j=>tidF (F j)) hn w hcell K hK (fun i hi=>hyes i (by omega) (hlow i hi)) ?_).mono fun e w' h => .inr ⟨⟨K,hK,hbad⟩,h⟩
   rcases QjK (hF K hK) with h | h
   ·rw [h.1] at hbad;cases hbad
   ·exact h.2.1
theorem NumV.kindEq {k kd:Int}{b:Sl}{bn:Int}{s i f c x:Sl}{n:Nat}{F:Nat->Nat}{w:World} (h:NumV (vecW k b bn s i f c x) kd n F w):k=kd:=by
 obtain ⟨_,_,_,_,_,_,_,e⟩:=h.shape
 injection e with e
 have e1:=congrArg (fun a:Array Value=>a.getD 0 undef) e
 have e2:Value.int .i64 k= .int .i64 kd:=e1
 injection e2
end Go.Proofs.YtdelgpelkfndeaaGreatDoor
namespace Go.Proofs.YtdelgpelkfndeaaGreatDoor.Fl
open Ieee Go
def wd (s:Bool) (E F:Nat):Nat:=s.toNat*9223372036854775808+E*4503599627370496+F
theorem wd_lt (s:Bool){E F:Nat} (hE:E < 2048) (hF:F < 4503599627370496):wd s E F < 18446744073709551616:=by
 unfold wd;cases s <;> simp <;> omega
theorem Qo2:double.read 4607182418800017408= .number false 4503599627370496 (-52):=by decide
end Go.Proofs.YtdelgpelkfndeaaGreatDoor.Fl
namespace Go.Proofs.YtdelgpelkfndeaaGreatDoor
open Go Go.RowKit Go.Proofs Fl Ieee
def BigR (b:Nat):Prop:=∃ s r,1023*4503599627370496<=r/\r<=9218868437227405312/\b=double.word s r
def LowR (b:Nat):Prop:=∃ s r,r<=1023*4503599627370496/\b=double.word s r
theorem Qml {s:Bool}{r:Nat} (h:r<=9218868437227405312):double.word s r < 18446744073709551616:=by
 show (if s then double.signWeight+r else r) < _
 rw [signWeight]
 split <;> omega
theorem BigR.lt {b:Nat} (h:BigR b):b < 18446744073709551616:=by
 obtain ⟨s,r,_,h2,rfl⟩:=h
 exact Qml h2
theorem LowR.lt {b:Nat} (h:LowR b):b < 18446744073709551616:=by
 obtain ⟨s,r,h2,rfl⟩:=h
 exact Qml (by omega)
theorem BigR.read {b:Nat} (h:BigR b):(∃ s,double.read b= .infinity s)\/∃ s m i,double.read b= .number s m i/\m≠0/\0<=(m.log2:Int)+i:=by
 obtain ⟨s,r,h1,h2,rfl⟩:=h
 by_cases e:r=9218868437227405312
 ·subst e
  exact .inl ⟨s,Qex s⟩
 ·have hr:r < 9218868437227405312:=by omega
  refine .inr ⟨s,_,_,QeQ s hr,?_,?_⟩
  ·unfold mg
   rw [if_neg (by omega)]
   omega
  ·have hm:52<=(mg r).log2:=QcR (by unfold mg;rw [if_neg (by omega)];omega)
   have he:1022<=ex r:=by unfold ex;rw [if_neg (by omega)];omega
   omega
theorem LowR.read {b:Nat} (h:LowR b):∃ s m q,double.read b= .number s m (-(q:Nat))/\m<=2 ^ q:=by
 obtain ⟨s,r,h1,rfl⟩:=h
 have hr:r < 9218868437227405312:=by omega
 have he:ex r<=1022:=by unfold ex;split <;> omega
 have e0:(-1074+(ex r:Int))=-((1074 - ex r:Nat):Int):=by omega
 refine ⟨s,mg r,1074 - ex r,by rw [QeQ s hr,e0],?_⟩
 by_cases h52:ex r=1022
 ·rw [h52]
  have:mg r=2 ^ 52:=by
   unfold ex at h52
   unfold mg
   split at h52
   ·omega
   ·rw [if_neg (by omega)];omega
  rw [this]
  exact Nat.le_refl _
 ·have h1:=QqD r
  have h2:2 ^ 53<=2 ^ (1074 - ex r):=Nat.pow_le_pow_right (by decide) (by omega)
  omega
theorem QiI {m n:Nat} (hm:m≠0) (hn:n≠0):m.log2+n.log2<=(m*n).log2:=by
 apply QcR
 rw [Nat.pow_add]
 exact Nat.mul_le_mul (Nat.log2_self_le hm) (Nat.log2_self_le hn)
theorem Qtf (n d:Nat):n / 2^d<=rhe n d:=by unfold rhe;omega
theorem QiJ (s:Bool){m:Nat}{i:Int} (hm:m≠0) (h:0<=(m.log2:Int)+i):BigR (double.nearest s m i):=by
 rw [Qca s hm]
 have e1:max (i+(m.log2:Int) - 52) (-1074)=i+m.log2 - 52:=by omega
 rw [e1]
 generalize hL:i+(m.log2:Int) - 52=L
 have hl:-52<=L:=by omega
 have h2:2 ^ 52<=rhe (m*2 ^ (i - L).toNat) (L - i).toNat:=by
  refine Nat.le_trans ?_ (Qtf _ _)
  rw [Nat.le_div_iff_mul_le (Nat.two_pow_pos _),<- Nat.pow_add]
  have h3:2 ^ (m.log2+(i - L).toNat)<=m*2 ^ (i - L).toNat:=by
   rw [Nat.pow_add];exact Nat.mul_le_mul_right _ (Nat.log2_self_le hm)
  refine Nat.le_trans (Nat.pow_le_pow_right (by decide) ?_) h3
  omega
 have h4:1022<=(L+1074).toNat:=by omega
 have h5:1022*4503599627370496<=(L+1074).toNat*4503599627370496:=Nat.mul_le_mul_right _ h4
 refine ⟨s,_,?_,Nat.min_le_right _ _,rfl⟩
 rw [Nat.le_min]
 exact ⟨by omega,by omega⟩
theorem Qru {n d B:Nat} (h:n<=B*2 ^ d):rhe n d<=B:=by
 have hp:=Nat.two_pow_pos d
 by_cases e:n=B*2 ^ d
 ·rw [e,Qhc];exact Nat.le_refl _
 ·have h1:n / 2 ^ d < B:=(Nat.div_lt_iff_lt_mul hp).2 (by omega)
  have h2:rhe n d<=n / 2 ^ d+1:=by
   unfold rhe
   have:∀ b:Bool,b.toNat<=1:=by intro b;cases b <;> decide
   have:=this (decide (2^d < 2*(n % 2^d))||(2^d==2*(n % 2^d)&&(n / 2^d) % 2==1))
   omega
  omega
theorem Qhy (s:Bool) (i:Int):double.nearest s 0 i=double.word s 0:=by simp [Format.nearest]
theorem QiK (s:Bool){m q:Nat} (h:m<=2 ^ q):LowR (double.nearest s m (-(q:Nat))):=by
 by_cases hm:m=0
 ·subst hm
  exact ⟨s,0,by omega,Qhy s _⟩
 by_cases e:m=2 ^ q
 ·have h1:=Qbb s 1 q (-(q:Nat))
  rw [Nat.one_mul,show -(q:Int)+(q:Nat)=0 by omega] at h1
  rw [e,h1]
  exact ⟨s,1023*4503599627370496,Nat.le_refl _,by cases s <;> decide⟩
 ·have hlt:m < 2 ^ q:=by omega
  have hq:1<=q:=by
   rcases Nat.eq_zero_or_pos q with h0 | h0
   ·subst h0;simp at hlt;omega
   ·exact h0
  have hl:m.log2<=q - 1:=QbP (by rw [Nat.sub_add_cancel hq];exact hlt)
  rw [Qca s hm]
  generalize hL:max (-(q:Nat)+(m.log2:Int) - 52) (-1074)=L
  have hm2:m < 2 ^ (m.log2+1):=Nat.lt_log2_self
  have h1:rhe (m*2 ^ (-(q:Nat) - L).toNat) (L - -(q:Nat)).toNat<=2 ^ (m.log2+1+(-(q:Nat) - L).toNat - (L - -(q:Nat)).toNat):=by
   apply Qru
   rw [<- Nat.pow_add]
   have h3:m*2 ^ (-(q:Nat) - L).toNat<=2 ^ (m.log2+1+(-(q:Nat) - L).toNat):=by
    rw [Nat.pow_add];exact Nat.mul_le_mul_right _ (Nat.le_of_lt hm2)
   exact Nat.le_trans h3 (Nat.pow_le_pow_right (by decide) (by omega))
  refine ⟨s,_,?_,rfl⟩
  refine Nat.le_trans (Nat.min_le_left _ _) ?_
  by_cases hc:-1074<=-(q:Nat)+(m.log2:Int) - 52
  ·have e2:m.log2+1+(-(q:Nat) - L).toNat - (L - -(q:Nat)).toNat=53:=by omega
   rw [e2] at h1
   have h4:(L+1074).toNat<=1021:=by omega
   have h5:(L+1074).toNat*4503599627370496<=1021*4503599627370496:=Nat.mul_le_mul_right _ h4
   rw [show (2:Nat) ^ 53=9007199254740992 from rfl] at h1
   exact Nat.le_trans (Nat.add_le_add h5 h1) (by decide)
  ·have e3:L=-1074:=by omega
   subst e3
   have e2:m.log2+1+(-(q:Nat) - (-1074:Int)).toNat - ((-1074:Int) - -(q:Nat)).toNat<=52:=by omega
   have h6:=Nat.le_trans h1 (Nat.pow_le_pow_right (by decide) e2)
   have e4:((-1074:Int)+1074).toNat=0:=by decide
   rw [e4,Nat.zero_mul,Nat.zero_add]
   exact Nat.le_trans h6 (by decide)
theorem Qrv {a b:Nat} (ha:BigR a) (hb:BigR b):∃ c,floatBits .mul .f64 a b=some c/\BigR c:=by
 show ∃ c,((double.read a).product (double.read b)).map double.write=some c/\BigR c
 have hi:∀ s,BigR (double.write (.infinity s)):=fun s=>⟨s,9218868437227405312,by decide,Nat.le_refl _,by cases s <;> decide⟩
 rcases ha.read with ⟨s,h1⟩ | ⟨s,m,i,h1,hm,h2⟩ <;> rcases hb.read with ⟨t,h3⟩ | ⟨t,n,j,h3,hn,h4⟩ <;> rw [h1,h3]
 ·exact ⟨_,rfl,hi _⟩
 ·refine ⟨_,by unfold Datum.product;dsimp only;rw [if_neg hn];rfl,hi _⟩
 ·refine ⟨_,by unfold Datum.product;dsimp only;rw [if_neg hm];rfl,hi _⟩
 ·refine ⟨_,rfl,QiJ _ (Nat.mul_ne_zero hm hn) ?_⟩
  have:=QiI hm hn
  omega
theorem Qrw {a b:Nat} (ha:LowR a) (hb:LowR b):∃ c,floatBits .mul .f64 a b=some c/\LowR c:=by
 show ∃ c,((double.read a).product (double.read b)).map double.write=some c/\LowR c
 obtain ⟨s,m,p,h1,h2⟩:=ha.read
 obtain ⟨t,n,q,h3,h4⟩:=hb.read
 rw [h1,h3]
 refine ⟨_,rfl,?_⟩
 show LowR (double.nearest (s ^^ t) (m*n) (-(p:Nat)+-(q:Nat)))
 have e:-(p:Int)+-(q:Nat)=-((p+q:Nat):Int):=by omega
 rw [e]
 exact QiK _ (by rw [Nat.pow_add];exact Nat.mul_le_mul h2 h4)
def Cl (t:Bool) (b:Nat):Prop:=if t=true then BigR b else LowR b
theorem Cl.lt {t:Bool}{b:Nat} (h:Cl t b):b < 18446744073709551616:=by
 cases t
 ·exact LowR.lt h
 ·exact BigR.lt h
theorem Cl.mul {t:Bool}{a b:Nat} (ha:Cl t a) (hb:Cl t b):floatBits .mul .f64 a b=some (opB .mul a b)/\Cl t (opB .mul a b):=by
 cases t
 ·obtain ⟨c,h1,h2⟩:=Qrw ha hb
  have e:opB .mul a b=c:=by unfold opB;rw [h1];rfl
  rw [e]
  exact ⟨h1,h2⟩
 ·obtain ⟨c,h1,h2⟩:=Qrv ha hb
  have e:opB .mul a b=c:=by unfold opB;rw [h1];rfl
  rw [e]
  exact ⟨h1,h2⟩
theorem Qhz (t:Bool):Cl t 4607182418800017408:=by
 cases t
 ·exact ⟨false,1023*4503599627370496,Nat.le_refl _,by decide⟩
 ·exact ⟨false,1023*4503599627370496,Nat.le_refl _,by decide,by decide⟩
theorem Qrx {b:Nat} (h:TF b):∃ t,Cl t b:=by
 obtain ⟨s,Z,hz,rfl,_⟩:=h
 have hr:=Qgv hz
 by_cases hc:rung Z<=1023*4503599627370496
 ·exact ⟨false,s,rung Z,hc,rfl⟩
 ·exact ⟨true,s,rung Z,by omega,by omega,rfl⟩
theorem QgN {t:Bool}{b:Nat} (h:Cl t b):(∃ s Z,Rep Z/\b=W s Z)\/∃ s,b=infw s:=by
 have hw:∀ s r,r<=9218868437227405312->b=double.word s r->(∃ s Z,Rep Z/\b=W s Z)\/∃ s,b=infw s:=by
  intro s r hr e
  by_cases h2:r=9218868437227405312
  ·subst h2
   exact .inr ⟨s,e⟩
  ·exact .inl ⟨s,mag r,QlD (by omega),by rw [QsN];exact e⟩
 cases t
 ·obtain ⟨s,r,h1,h2⟩:=h
  exact hw s r (by omega) h2
 ·obtain ⟨s,r,_,h1,h2⟩:=h
  exact hw s r h1 h2
def powF (k o x:Nat):Nat:=if k=0 then o else powF (k / 2) (if k % 2=1 then opB .mul o x else o) (if 1 < k then opB .mul x x else x)
termination_by k
decreasing_by omega
theorem QcJ (o x:Nat):powF 0 o x=o:=by rw [powF];rfl
theorem QdA {k:Nat} (o x:Nat) (h:k≠0):powF k o x=powF (k / 2) (if k % 2=1 then opB .mul o x else o) (if 1 < k then opB .mul x x else x):=by
 rw [powF,if_neg h]
theorem Qry {t:Bool} (k:Nat):∀ {o x:Nat},Cl t o->Cl t x->Cl t (powF k o x):=by
 induction k using Nat.strongRecOn with
 | _ k ih =>
  intro o x ho hx
  by_cases h:k=0
  ·subst h;rw [QcJ];exact ho
  ·rw [QdA o x h]
   refine ih (k / 2) (by omega) ?_ ?_
   ·split
    ·exact (ho.mul hx).2
    ·exact ho
   ·split
    ·exact (hx.mul hx).2
    ·exact hx
theorem QiL (s:Bool){Z:Nat} (hz:Rep Z) (h0:Z≠0):floatBits .quo .f64 4607182418800017408 (W s Z)=some (opB .quo 4607182418800017408 (W s Z))/\opB .quo 4607182418800017408 (W s Z) < 18446744073709551616:=by
 refine Qdr ?_
 show ((Datum.quotient (double.fractionBits+2) (double.read 4607182418800017408) (double.read (W s Z))).map double.write).isSome=true
 rw [QbS s hz,Qo2]
 unfold Datum.quotient
 dsimp only
 rw [if_neg (fun e=>h0 ((QeW hz).1 e))]
 rfl
noncomputable def powP (a:Nat) (n:Int):Nat×Int :=
 if n < -1023\/1023 < n then (0,24) else if 0<=n then Qau (powF n.natAbs 4607182418800017408 a)
 else if (Qau (powF n.natAbs 4607182418800017408 a)).2=0/\(Qau (powF n.natAbs 4607182418800017408 a)).1≠0 then Qau (opB .quo 4607182418800017408 (powF n.natAbs 4607182418800017408 a)) else (0,24)
noncomputable def pwP (a b:Nat):Nat×Int:=match wholeP b with
 | none=>(0,24)
 | some n=>powP a n
theorem Qrz {a:Nat} (ha:TF a) (n:Int):(∃ c,TF c/\powP a n=(c,0))\/powP a n=(0,24):=by
 unfold powP
 obtain ⟨t,hc⟩:=Qrx ha
 have ho:=Qry n.natAbs (Qhz t) hc
 generalize powF n.natAbs 4607182418800017408 a=o at *
 split
 ·exact .inr rfl
 ·split
  ·exact Qa9 ho.lt
  ·split
   ·rename_i h
    rcases QgN ho with ⟨s,Z,hz,rfl⟩ | ⟨s,rfl⟩
    ·have h0:Z≠0:=by
      rintro rfl
      rw [QaX s hz] at h
      exact h.2 rfl
     exact Qa9 (QiL s hz h0).2
    ·rw [Qbo] at h
     cases h.1
   ·exact .inr rfl
end Go.Proofs.YtdelgpelkfndeaaGreatDoor
namespace Go.Proofs.YtdelgpelkfndeaaGreatDoor
open Go Go.RowKit Go.Proofs Fl
theorem Qmm {a:Nat}{n:Int} (h0:0<=n) (h1:n<=1023):powP a n=Qau (powF n.natAbs 4607182418800017408 a):=by
 unfold powP
 rw [if_neg (by omega),if_pos h0]
theorem QhA {a:Nat}{n:Int} (h0:n < 0) (h1:-1023<=n):powP a n=if (Qau (powF n.natAbs 4607182418800017408 a)).2=0/\(Qau (powF n.natAbs 4607182418800017408 a)).1≠0 then Qau (opB .quo 4607182418800017408 (powF n.natAbs 4607182418800017408 a)) else (0,24):=by
 unfold powP
 rw [if_neg (by omega),if_neg (by omega)]
theorem QrA (a:Nat) (t:Bool) (ha:Cl t a) (n:Int) (hn0:0<=n) (hn1:n<=1023) (w:World) :
  Calls Tryz.prog 211 #[.float .f64 a,.float .f64 (fi n)] w fun e w'=>e= .returned (.tuple #[.float .f64 (powP a n).1,.int .i64 (powP a n).2])/\w=w':=by
 have HW:=hD (fun W=>Qbq n ⟨by omega,by omega⟩ W)
 have HP:=hD (Qmm (a:=a) hn0 hn1)
 generalize powP a n=R at *
 have HA:=hD ha
 have HO:=hD (Qhz t)
 have nn:¬ n < 0:=by omega
 have n3:¬ 1023 < n:=by omega
 have n4:¬ n < -1023:=by omega
 clear ha
 go_enter Tryz.func211,Tryz.ntmps211
 go_wp2_with fail
 refine (HW.out _).mono ?_
 rintro e w1 ⟨rfl,rfl⟩
 go_wp2
 go_loop [8,9,10] (fun k o x=>∃ (K O X:Nat),K<=1023/\k= .int .i64 K/\o= .float .f64 O/\x= .float .f64 X/\Cl t O/\Cl t X/\powF K O X=powF n.natAbs 4607182418800017408 a) (fun k _ _=>(intOf k).toNat)
 case atStart=>exact ⟨n.natAbs,4607182418800017408,a,by omega,by congr 1;omega,rfl,rfl,HO.out,HA.out,rfl⟩
 case round =>
  obtain ⟨K,O,X,hK,rfl,rfl,rfl,ho,hx,hpw⟩:=hrel
  have HOO:=hD ho
  have HXX:=hD hx
  have HPW:=hD hpw
  clear ho hx hpw
  by_cases h0:K=0
  ·subst h0
   have HQ:Hid (R=Qau O):=by
    show _=_
    rw [HP.out,<- HPW.out,QcJ]
   have HD:=hD (fun W=>Qb1 O HOO.out.lt W)
   go_wp2_with fail
   refine (HD.out _).mono ?_
   rintro e w2 ⟨rfl,rfl⟩
   go_wp2
   go_ret2
   exact ⟨by rw [HQ.out];rfl,rfl⟩
  ·have e1:=and1 K (by omega)
   have HM1:=HOO.out.mul HXX.out
   have HM2:=HXX.out.mul HXX.out
   have hop1:=fun w=>run_float_arith (P:=Tryz.prog) w .mul 60 .f64 _ _ _ HM1.1
   have hop2:=fun w=>run_float_arith (P:=Tryz.prog) w .mul 60 .f64 _ _ _ HM2.1
   have HN1:=hD HM1.2
   have HN2:=hD HM2.2
   have HPP:=hD (QdA O X h0)
   clear HM1 HM2
   generalize opB .mul O X=OX at *
   generalize opB .mul X X=XX at *
   have p0:0 < K:=by omega
   by_cases h2:K % 2=1
   ·have e2:(((K % 2:Nat):Int)==1)=true:=by simp;omega
    have HP2:Hid ((if K % 2=1 then OX else O)=OX):=if_pos h2
    clear h2
    by_cases h1:1 < K
    ·have HP3:Hid ((if 1 < K then XX else X)=XX):=if_pos h1
     go_wp2
     go_round
     case rel=>exact ⟨K / 2,OX,XX,by omega,by go_num,rfl,rfl,HN1.out,HN2.out,by rw [<- HPW.out,HPP.out,HP2.out,HP3.out]⟩
     case measure=>simp [intOf];omega
    ·have HP3:Hid ((if 1 < K then XX else X)=X):=if_neg h1
     go_wp2
     go_round
     case rel=>exact ⟨K / 2,OX,X,by omega,by go_num,rfl,rfl,HN1.out,HXX.out,by rw [<- HPW.out,HPP.out,HP2.out,HP3.out]⟩
     case measure=>simp [intOf];omega
   ·have e2:(((K % 2:Nat):Int)==1)=false:=by simp;omega
    have HP2:Hid ((if K % 2=1 then OX else O)=O):=if_neg h2
    have h1:1 < K:=by omega
    clear h2
    have HP3:Hid ((if 1 < K then XX else X)=XX):=if_pos h1
    go_wp2
    go_round
    case rel=>exact ⟨K / 2,O,XX,by omega,by go_num,rfl,rfl,HOO.out,HN2.out,by rw [<- HPW.out,HPP.out,HP2.out,HP3.out]⟩
    case measure=>simp [intOf];omega
theorem Qmn (a:Nat) (t:Bool) (ha:Cl t a) (n:Int) (hn0:n < 0) (hn1:-1023<=n) (w:World) :
  Calls Tryz.prog 211 #[.float .f64 a,.float .f64 (fi n)] w fun e w'=>e= .returned (.tuple #[.float .f64 (powP a n).1,.int .i64 (powP a n).2])/\w=w':=by
 have HW:=hD (fun W=>Qbq n ⟨by omega,by omega⟩ W)
 have HP:=hD (QhA (a:=a) hn0 hn1)
 generalize powP a n=R at *
 have HA:=hD ha
 have HO:=hD (Qhz t)
 have n3:¬ 1023 < n:=by omega
 have n4:¬ n < -1023:=by omega
 have n5:¬ 0<=n:=by omega
 clear ha
 go_enter Tryz.func211,Tryz.ntmps211
 go_wp2_with fail
 refine (HW.out _).mono ?_
 rintro e w1 ⟨rfl,rfl⟩
 go_wp2
 go_loop [8,9,10] (fun k o x=>∃ (K O X:Nat),K<=1023/\k= .int .i64 K/\o= .float .f64 O/\x= .float .f64 X/\Cl t O/\Cl t X/\powF K O X=powF n.natAbs 4607182418800017408 a) (fun k _ _=>(intOf k).toNat)
 case atStart=>exact ⟨n.natAbs,4607182418800017408,a,by omega,by congr 1;omega,rfl,rfl,HO.out,HA.out,rfl⟩
 case round =>
  obtain ⟨K,O,X,hK,rfl,rfl,rfl,ho,hx,hpw⟩:=hrel
  have HOO:=hD ho
  have HXX:=hD hx
  have HPW:=hD hpw
  clear ho hx hpw
  by_cases h0:K=0
  ·subst h0
   have HQ:Hid (R=if (Qau O).2=0/\(Qau O).1≠0 then Qau (opB .quo 4607182418800017408 O) else (0,24)):=by
    show _=_
    rw [HP.out,<- HPW.out,QcJ]
   rcases QgN HOO.out with ⟨s,Z,hz,rfl⟩ | ⟨s,rfl⟩
   ·have hd:=QaX s hz
    have HD:=hD (fun W=>Qb1 _ HOO.out.lt W)
    rw [hd] at HD HQ
    have h3:=QdW s false hz QbD
    rw [W_zero,Qbx] at h3
    by_cases hz0:Z=0
    ·have HQ2:Hid (R=(0,24)):=by
      show _=_
      rw [HQ.out,if_neg (fun h=>h.2 (if_pos hz0))]
     rw [decide_eq_true (by rw [sg_eq_zero];exact hz0)] at h3
     have h3':=beq_iff_eq.1 h3
     clear hd hz hz0
     generalize W s Z=O at *
     generalize tid s Z=O' at *
     go_wp2_with fail
     refine (HD.out _).mono ?_
     rintro e w2 ⟨rfl,rfl⟩
     go_wp2
     go_ret2
     exact ⟨by rw [HQ2.out];rfl,rfl⟩
    ·obtain ⟨hq1,hq2⟩:=QiL s hz hz0
     have hne:tid s Z≠0:=fun e=>by
      have e2:tid s Z=W s Z:=if_neg hz0
      have e:W s Z=0:=e2▸e
      have h4:=QdW s false hz QbD
      rw [W_zero,Qbx,e,decide_eq_false (by rw [sg_eq_zero];exact hz0)] at h4
      have:(FloatKind.f64.format.order 0 0==some .eq)=true:=by decide
      rw [this] at h4
      cases h4
     have HQ2:Hid (R=Qau (opB .quo 4607182418800017408 (W s Z))):=by
      show _=_
      rw [HQ.out,if_pos ⟨rfl,hne⟩]
     rw [decide_eq_false (by rw [sg_eq_zero];exact hz0)] at h3
     have h3':=beq_eq_false_iff_ne.1 h3
     have hop:=fun w=>run_float_arith (P:=Tryz.prog) w .quo 60 .f64 _ _ _ hq1
     have HD2:=hD (fun W=>Qb1 _ hq2 W)
     clear hd hz hz0 hq1 hq2 hne
     generalize opB .quo 4607182418800017408 (W s Z)=P at *
     generalize W s Z=O at *
     generalize tid s Z=O' at *
     go_wp2_with fail
     refine (HD.out _).mono ?_
     rintro e w2 ⟨rfl,rfl⟩
     go_wp2_with fail
     refine (HD2.out _).mono ?_
     rintro e w2 ⟨rfl,rfl⟩
     go_wp2
     go_ret2
     exact ⟨by rw [HQ2.out];rfl,rfl⟩
   ·have HD:=hD (fun W=>Qb1 _ HOO.out.lt W)
    rw [Qbo] at HD HQ
    have HQ2:Hid (R=(0,24)):=by
     show _=_
     rw [HQ.out,if_neg (fun h=>absurd h.1 (by decide))]
    generalize infw s=O at *
    go_wp2_with fail
    refine (HD.out _).mono ?_
    rintro e w2 ⟨rfl,rfl⟩
    go_wp2
    go_ret2
    exact ⟨by rw [HQ2.out];rfl,rfl⟩
  ·have e1:=and1 K (by omega)
   have HM1:=HOO.out.mul HXX.out
   have HM2:=HXX.out.mul HXX.out
   have hop1:=fun w=>run_float_arith (P:=Tryz.prog) w .mul 60 .f64 _ _ _ HM1.1
   have hop2:=fun w=>run_float_arith (P:=Tryz.prog) w .mul 60 .f64 _ _ _ HM2.1
   have HN1:=hD HM1.2
   have HN2:=hD HM2.2
   have HPP:=hD (QdA O X h0)
   clear HM1 HM2
   generalize opB .mul O X=OX at *
   generalize opB .mul X X=XX at *
   have p0:0 < K:=by omega
   by_cases h2:K % 2=1
   ·have e2:(((K % 2:Nat):Int)==1)=true:=by simp;omega
    have HP2:Hid ((if K % 2=1 then OX else O)=OX):=if_pos h2
    clear h2
    by_cases h1:1 < K
    ·have HP3:Hid ((if 1 < K then XX else X)=XX):=if_pos h1
     go_wp2
     go_round
     case rel=>exact ⟨K / 2,OX,XX,by omega,by go_num,rfl,rfl,HN1.out,HN2.out,by rw [<- HPW.out,HPP.out,HP2.out,HP3.out]⟩
     case measure=>simp [intOf];omega
    ·have HP3:Hid ((if 1 < K then XX else X)=X):=if_neg h1
     go_wp2
     go_round
     case rel=>exact ⟨K / 2,OX,X,by omega,by go_num,rfl,rfl,HN1.out,HXX.out,by rw [<- HPW.out,HPP.out,HP2.out,HP3.out]⟩
     case measure=>simp [intOf];omega
   ·have e2:(((K % 2:Nat):Int)==1)=false:=by simp;omega
    have HP2:Hid ((if K % 2=1 then OX else O)=O):=if_neg h2
    have h1:1 < K:=by omega
    clear h2
    have HP3:Hid ((if 1 < K then XX else X)=XX):=if_pos h1
    go_wp2
    go_round
    case rel=>exact ⟨K / 2,O,XX,by omega,by go_num,rfl,rfl,HOO.out,HN2.out,by rw [<- HPW.out,HPP.out,HP2.out,HP3.out]⟩
    case measure=>simp [intOf];omega
theorem Qo3 (a:Nat) (n:Int) (hg:Good n) (hn:n < -1023\/1023 < n) (w:World) :
  Calls Tryz.prog 211 #[.float .f64 a,.float .f64 (fi n)] w fun e w'=>e= .returned (.tuple #[.float .f64 (powP a n).1,.int .i64 (powP a n).2])/\w=w':=by
 have HW:=hD (fun W=>Qbq n hg W)
 have hp:powP a n=(0,24):=if_pos hn
 rw [hp]
 clear hp hg
 rcases hn with hn | hn
 ·have n3:¬ 1023 < n:=by omega
  go_enter Tryz.func211,Tryz.ntmps211
  go_wp2_with fail
  refine (HW.out _).mono ?_
  rintro e w1 ⟨rfl,rfl⟩
  go_wp2
  go_ret2
  exact ⟨rfl,rfl⟩
 ·go_enter Tryz.func211,Tryz.ntmps211
  go_wp2_with fail
  refine (HW.out _).mono ?_
  rintro e w1 ⟨rfl,rfl⟩
  go_wp2
  go_ret2
  exact ⟨rfl,rfl⟩
theorem Qo4 (a:Nat) (s:Bool){Z:Nat} (hz:Rep Z) (hn:¬ QeU Z) (w:World) :
  Calls Tryz.prog 211 #[.float .f64 a,.float .f64 (W s Z)] w fun e w'=>e= .returned (.tuple #[.float .f64 0,.int .i64 24])/\w=w':=by
 have HW:=hD (fun W=>Qcb s hz hn W)
 generalize W s Z=b at *
 clear hz hn
 go_enter Tryz.func211,Tryz.ntmps211
 go_wp2_with fail
 refine (HW.out _).mono ?_
 rintro e w1 ⟨⟨n,rfl⟩,rfl⟩
 go_wp2
 go_ret2
 exact ⟨rfl,rfl⟩
theorem Qo5 (a b:Nat) (ha:TF a) (hb:TF b) (w:World) :
  Calls Tryz.prog 211 #[.float .f64 a,.float .f64 b] w fun e w'=>e= .returned (.tuple #[.float .f64 (pwP a b).1,.int .i64 (pwP a b).2])/\w=w':=by
 rcases QaS hb with ⟨n,hg,rfl,e⟩ | ⟨e,s,Z,hz,rfl,hn⟩
 ·have e2:pwP a (fi n)=powP a n:=by unfold pwP;rw [e]
  rw [e2]
  obtain ⟨t,hc⟩:=Qrx ha
  by_cases h1:n < -1023\/1023 < n
  ·exact Qo3 a n hg h1 w
  ·by_cases h0:0<=n
   ·exact QrA a t hc n h0 (by omega) w
   ·exact Qmn a t hc n (by omega) (by omega) w
 ·have e2:pwP a (W s Z)=(0,24):=by unfold pwP;rw [e]
  rw [e2]
  exact Qo4 a s hz hn w
theorem Qmo {a b:Int} (h:a=b):Ending.returned (.int .i64 a)= .returned (.int .i64 b):=by rw [h]
theorem QiM:(4652209618980700160:Nat)=fi 1023:=by decide+kernel
theorem QgO:(13875581655835475968:Nat)=fi (-1023):=by decide+kernel
theorem Qmp (n m:Int) (hn:Good n) (hm:Good m):FloatKind.f64.format.order (fi n) (fi m)=some (compare n m):=Qey n m (Qah hn) (Qah hm)
theorem QhB (n m:Int) (hn:Good n) (hm:Good m):(FloatKind.f64.format.order (fi n) (fi m)==some .gt)=decide (m < n):=by
 rw [Qmp n m hn hm]
 rcases Int.lt_trichotomy n m with h | h | h
 ·rw [QbL h,decide_eq_false (by omega)];rfl
 ·rw [h,Qb0,decide_eq_false (by omega)];rfl
 ·rw [QbH h,decide_eq_true h];rfl
theorem Qmq (n m:Int) (hn:Good n) (hm:Good m):(FloatKind.f64.format.order (fi n) (fi m)==some .lt)=decide (n < m):=by
 rw [Qmp n m hn hm]
 rcases Int.lt_trichotomy n m with h | h | h
 ·rw [QbL h,decide_eq_true h];rfl
 ·rw [h,Qb0,decide_eq_false (by omega)];rfl
 ·rw [QbH h,decide_eq_false (by omega)];rfl
theorem Qqi (n m:Int) (hn:Good n) (hm:Good m):(FloatKind.f64.format.order (fi n) (fi m)==some .eq)=decide (n=m):=by
 rw [Qmp n m hn hm]
 rcases Int.lt_trichotomy n m with h | h | h
 ·rw [QbL h,decide_eq_false (by omega)];rfl
 ·rw [h,Qb0,decide_eq_true rfl];rfl
 ·rw [QbH h,decide_eq_false (by omega)];rfl
theorem Qo6 {n:Int} (hg:Good n) (h0:0<=n) (h1:n<=1023) :
  (FloatKind.f64.format.order (fi n) 4652209618980700160==some .gt)=false/\¬ FloatKind.f64.format.order (fi n) 4652209618980700160=some .gt /\
  (FloatKind.f64.format.order (fi n) 13875581655835475968==some .lt)=false/\¬ FloatKind.f64.format.order (fi n) 13875581655835475968=some .lt /\
  (FloatKind.f64.format.order (fi n) 0==some .gt||FloatKind.f64.format.order (fi n) 0==some .eq)=true:=by
 have a:=QhB n 1023 hg (by decide)
 have b:=Qmq n (-1023) hg (by decide)
 have c:=QhB n 0 hg (by decide)
 have d:=Qqi n 0 hg (by decide)
 rw [<- QiM,decide_eq_false (by omega)] at a
 rw [<- QgO,decide_eq_false (by omega)] at b
 rw [fi_zero] at c d
 refine ⟨a,beq_eq_false_iff_ne.1 a,b,beq_eq_false_iff_ne.1 b,?_⟩
 rw [c,d]
 simp;omega
theorem QkM {n:Int} (hg:Good n) (h0:n < 0) (h1:-1023<=n) :
  (FloatKind.f64.format.order (fi n) 4652209618980700160==some .gt)=false/\¬ FloatKind.f64.format.order (fi n) 4652209618980700160=some .gt /\
  (FloatKind.f64.format.order (fi n) 13875581655835475968==some .lt)=false/\¬ FloatKind.f64.format.order (fi n) 13875581655835475968=some .lt /\
  (FloatKind.f64.format.order (fi n) 0==some .gt||FloatKind.f64.format.order (fi n) 0==some .eq)=false:=by
 have a:=QhB n 1023 hg (by decide)
 have b:=Qmq n (-1023) hg (by decide)
 have c:=QhB n 0 hg (by decide)
 have d:=Qqi n 0 hg (by decide)
 rw [<- QiM,decide_eq_false (by omega)] at a
 rw [<- QgO,decide_eq_false (by omega)] at b
 rw [fi_zero] at c d
 refine ⟨a,beq_eq_false_iff_ne.1 a,b,beq_eq_false_iff_ne.1 b,?_⟩
 rw [c,d]
 simp;omega
theorem QjL (n:Int) (hg:Good n) (w:World) :
  Calls Tryz.prog 257 #[.int .i64 n] w fun e w'=>e= .returned (.int .i64 (n.natAbs:Nat))/\w=w':=by
 obtain ⟨g1,g2⟩:=hg
 by_cases h:n < 0
 ·go_enter Tryz.func257,Tryz.ntmps257
  go_wp2
  go_ret
  exact ⟨Qmo (by omega),rfl⟩
 ·go_enter Tryz.func257,Tryz.ntmps257
  go_wp2
  go_ret
  exact ⟨Qmo (by omega),rfl⟩
theorem QrB (a:Nat) (t:Bool) (ha:Cl t a) (n:Int) (hn0:0<=n) (hn1:n<=1023) (w:World) :
  Calls Tryz.prog 240 #[.float .f64 a,.float .f64 (fi n)] w fun e w'=>e= .returned (.tuple #[.float .f64 (powP a n).1,.int .i64 (powP a n).2])/\w=w':=by
 have hgn:Good n:=⟨by omega,by omega⟩
 have HW:=hD (fun W=>Qci n hgn W)
 have hcv:=fun W=>QgD n hgn W
 have HSZ:=hD (fun W=>QjL n hgn W)
 obtain ⟨g1,g2,g3,g4,g5⟩:=Qo6 hgn hn0 hn1
 have HP:=hD (Qmm (a:=a) hn0 hn1)
 generalize powP a n=R at *
 have HA:=hD ha
 have HO:=hD (Qhz t)
 have hnb:n.natAbs<=1023:=by omega
 clear hgn hn0 hn1
 clear ha
 go_enter Tryz.func240,Tryz.ntmps240
 go_wp2_with fail
 refine (HW.out _).mono ?_
 rintro e w1 ⟨rfl,rfl⟩
 go_wp2_with fail
 refine (HSZ.out _).mono ?_
 rintro e w1 ⟨rfl,rfl⟩
 go_wp2
 go_loop [6,7,8] (fun k o x=>∃ (K O X:Nat),K<=1023/\k= .int .i64 K/\o= .float .f64 O/\x= .float .f64 X/\Cl t O/\Cl t X/\powF K O X=powF n.natAbs 4607182418800017408 a) (fun k _ _=>(intOf k).toNat)
 case atStart=>exact ⟨n.natAbs,4607182418800017408,a,hnb,rfl,rfl,rfl,HO.out,HA.out,rfl⟩
 case round =>
  obtain ⟨K,O,X,hK,rfl,rfl,rfl,ho,hx,hpw⟩:=hrel
  have HOO:=hD ho
  have HXX:=hD hx
  have HPW:=hD hpw
  clear ho hx hpw
  by_cases h0:K=0
  ·subst h0
   have HQ:Hid (R=Qau O):=by
    show _=_
    rw [HP.out,<- HPW.out,QcJ]
   have HD:=hD (fun W=>Qce O HOO.out.lt W)
   go_wp2_with fail
   refine (HD.out _).mono ?_
   rintro e w2 ⟨rfl,rfl⟩
   go_wp2
   go_ret2
   exact ⟨by rw [HQ.out];rfl,rfl⟩
  ·skip
   have HM1:=HOO.out.mul HXX.out
   have HM2:=HXX.out.mul HXX.out
   have hop1:=fun w=>run_float_arith (P:=Tryz.prog) w .mul 60 .f64 _ _ _ HM1.1
   have hop2:=fun w=>run_float_arith (P:=Tryz.prog) w .mul 60 .f64 _ _ _ HM2.1
   have HN1:=hD HM1.2
   have HN2:=hD HM2.2
   have HPP:=hD (QdA O X h0)
   clear HM1 HM2
   generalize opB .mul O X=OX at *
   generalize opB .mul X X=XX at *
   have p0:0 < K:=by omega
   by_cases h2:K % 2=1
   ·have e2:(((K:Int) % 2)==1)=true:=by simp;omega
    have HP2:Hid ((if K % 2=1 then OX else O)=OX):=if_pos h2
    clear h2
    by_cases h1:1 < K
    ·have HP3:Hid ((if 1 < K then XX else X)=XX):=if_pos h1
     go_wp2
     go_round
     case rel=>exact ⟨K / 2,OX,XX,by omega,by go_num,rfl,rfl,HN1.out,HN2.out,by rw [<- HPW.out,HPP.out,HP2.out,HP3.out]⟩
     case measure=>simp [intOf];omega
    ·have HP3:Hid ((if 1 < K then XX else X)=X):=if_neg h1
     go_wp2
     go_round
     case rel=>exact ⟨K / 2,OX,X,by omega,by go_num,rfl,rfl,HN1.out,HXX.out,by rw [<- HPW.out,HPP.out,HP2.out,HP3.out]⟩
     case measure=>simp [intOf];omega
   ·have e2:(((K:Int) % 2)==1)=false:=by simp;omega
    have HP2:Hid ((if K % 2=1 then OX else O)=O):=if_neg h2
    have h1:1 < K:=by omega
    clear h2
    have HP3:Hid ((if 1 < K then XX else X)=XX):=if_pos h1
    go_wp2
    go_round
    case rel=>exact ⟨K / 2,O,XX,by omega,by go_num,rfl,rfl,HOO.out,HN2.out,by rw [<- HPW.out,HPP.out,HP2.out,HP3.out]⟩
    case measure=>simp [intOf];omega
theorem Qmr (a:Nat) (t:Bool) (ha:Cl t a) (n:Int) (hn0:n < 0) (hn1:-1023<=n) (w:World) :
  Calls Tryz.prog 240 #[.float .f64 a,.float .f64 (fi n)] w fun e w'=>e= .returned (.tuple #[.float .f64 (powP a n).1,.int .i64 (powP a n).2])/\w=w':=by
 have hgn:Good n:=⟨by omega,by omega⟩
 have HW:=hD (fun W=>Qci n hgn W)
 have hcv:=fun W=>QgD n hgn W
 have HSZ:=hD (fun W=>QjL n hgn W)
 obtain ⟨g1,g2,g3,g4,g5⟩:=QkM hgn hn0 hn1
 have HP:=hD (QhA (a:=a) hn0 hn1)
 generalize powP a n=R at *
 have HA:=hD ha
 have HO:=hD (Qhz t)
 have hnb:n.natAbs<=1023:=by omega
 clear hgn hn0 hn1
 clear ha
 go_enter Tryz.func240,Tryz.ntmps240
 go_wp2_with fail
 refine (HW.out _).mono ?_
 rintro e w1 ⟨rfl,rfl⟩
 go_wp2_with fail
 refine (HSZ.out _).mono ?_
 rintro e w1 ⟨rfl,rfl⟩
 go_wp2
 go_loop [6,7,8] (fun k o x=>∃ (K O X:Nat),K<=1023/\k= .int .i64 K/\o= .float .f64 O/\x= .float .f64 X/\Cl t O/\Cl t X/\powF K O X=powF n.natAbs 4607182418800017408 a) (fun k _ _=>(intOf k).toNat)
 case atStart=>exact ⟨n.natAbs,4607182418800017408,a,hnb,rfl,rfl,rfl,HO.out,HA.out,rfl⟩
 case round =>
  obtain ⟨K,O,X,hK,rfl,rfl,rfl,ho,hx,hpw⟩:=hrel
  have HOO:=hD ho
  have HXX:=hD hx
  have HPW:=hD hpw
  clear ho hx hpw
  by_cases h0:K=0
  ·subst h0
   have HQ:Hid (R=if (Qau O).2=0/\(Qau O).1≠0 then Qau (opB .quo 4607182418800017408 O) else (0,24)):=by
    show _=_
    rw [HP.out,<- HPW.out,QcJ]
   rcases QgN HOO.out with ⟨s,Z,hz,rfl⟩ | ⟨s,rfl⟩
   ·have hd:=QaX s hz
    have HD:=hD (fun W=>QcT s hz W)
    rw [hd] at HQ
    have h3:=QdW s false hz QbD
    rw [W_zero,Qbx] at h3
    by_cases hz0:Z=0
    ·have HQ2:Hid (R=(0,24)):=by
      show _=_
      rw [HQ.out,if_neg (fun h=>h.2 (if_pos hz0))]
     rw [decide_eq_true (by rw [sg_eq_zero];exact hz0)] at h3
     have h3':=beq_iff_eq.1 h3
     clear hd hz hz0
     generalize W s Z=O at *
     generalize tid s Z=O' at *
     go_wp2_with fail
     refine (HD.out _).mono ?_
     rintro e w2 ⟨rfl,rfl⟩
     go_wp2
     go_ret2
     exact ⟨by rw [HQ2.out];rfl,rfl⟩
    ·obtain ⟨hq1,hq2⟩:=QiL s hz hz0
     have hne:tid s Z≠0:=fun e=>by
      have e2:tid s Z=W s Z:=if_neg hz0
      have e:W s Z=0:=e2▸e
      have h4:=QdW s false hz QbD
      rw [W_zero,Qbx,e,decide_eq_false (by rw [sg_eq_zero];exact hz0)] at h4
      have:(FloatKind.f64.format.order 0 0==some .eq)=true:=by decide
      rw [this] at h4
      cases h4
     have HQ2:Hid (R=Qau (opB .quo 4607182418800017408 (W s Z))):=by
      show _=_
      rw [HQ.out,if_pos ⟨rfl,hne⟩]
     rw [decide_eq_false (by rw [sg_eq_zero];exact hz0)] at h3
     have h3':=beq_eq_false_iff_ne.1 h3
     have hop:=fun w=>run_float_arith (P:=Tryz.prog) w .quo 60 .f64 _ _ _ hq1
     have HD2:=hD (fun W=>Qce _ hq2 W)
     clear hd hz hz0 hq1 hq2 hne
     generalize opB .quo 4607182418800017408 (W s Z)=P at *
     generalize W s Z=O at *
     generalize tid s Z=O' at *
     go_wp2_with fail
     refine (HD.out _).mono ?_
     rintro e w2 ⟨rfl,rfl⟩
     go_wp2_with fail
     refine (HD2.out _).mono ?_
     rintro e w2 ⟨rfl,rfl⟩
     go_wp2
     go_ret2
     exact ⟨by rw [HQ2.out];rfl,rfl⟩
   ·have HD:=hD (fun W=>QdX s W)
    rw [Qbo] at HQ
    have HQ2:Hid (R=(0,24)):=by
     show _=_
     rw [HQ.out,if_neg (fun h=>absurd h.1 (by decide))]
    generalize infw s=O at *
    go_wp2_with fail
    refine (HD.out _).mono ?_
    rintro e w2 ⟨rfl,rfl⟩
    go_wp2
    go_ret2
    exact ⟨by rw [HQ2.out];rfl,rfl⟩
  ·skip
   have HM1:=HOO.out.mul HXX.out
   have HM2:=HXX.out.mul HXX.out
   have hop1:=fun w=>run_float_arith (P:=Tryz.prog) w .mul 60 .f64 _ _ _ HM1.1
   have hop2:=fun w=>run_float_arith (P:=Tryz.prog) w .mul 60 .f64 _ _ _ HM2.1
   have HN1:=hD HM1.2
   have HN2:=hD HM2.2
   have HPP:=hD (QdA O X h0)
   clear HM1 HM2
   generalize opB .mul O X=OX at *
   generalize opB .mul X X=XX at *
   have p0:0 < K:=by omega
   by_cases h2:K % 2=1
   ·have e2:(((K:Int) % 2)==1)=true:=by simp;omega
    have HP2:Hid ((if K % 2=1 then OX else O)=OX):=if_pos h2
    clear h2
    by_cases h1:1 < K
    ·have HP3:Hid ((if 1 < K then XX else X)=XX):=if_pos h1
     go_wp2
     go_round
     case rel=>exact ⟨K / 2,OX,XX,by omega,by go_num,rfl,rfl,HN1.out,HN2.out,by rw [<- HPW.out,HPP.out,HP2.out,HP3.out]⟩
     case measure=>simp [intOf];omega
    ·have HP3:Hid ((if 1 < K then XX else X)=X):=if_neg h1
     go_wp2
     go_round
     case rel=>exact ⟨K / 2,OX,X,by omega,by go_num,rfl,rfl,HN1.out,HXX.out,by rw [<- HPW.out,HPP.out,HP2.out,HP3.out]⟩
     case measure=>simp [intOf];omega
   ·have e2:(((K:Int) % 2)==1)=false:=by simp;omega
    have HP2:Hid ((if K % 2=1 then OX else O)=O):=if_neg h2
    have h1:1 < K:=by omega
    clear h2
    have HP3:Hid ((if 1 < K then XX else X)=XX):=if_pos h1
    go_wp2
    go_round
    case rel=>exact ⟨K / 2,O,XX,by omega,by go_num,rfl,rfl,HOO.out,HN2.out,by rw [<- HPW.out,HPP.out,HP2.out,HP3.out]⟩
    case measure=>simp [intOf];omega
theorem Qo7 (a:Nat) (n:Int) (hg:Good n) (hn:n < -1023\/1023 < n) (w:World) :
  Calls Tryz.prog 240 #[.float .f64 a,.float .f64 (fi n)] w fun e w'=>e= .returned (.tuple #[.float .f64 (powP a n).1,.int .i64 (powP a n).2])/\w=w':=by
 have HW:=hD (fun W=>Qci n hg W)
 have hp:powP a n=(0,24):=if_pos hn
 rw [hp]
 clear hp
 have p:=QhB n 1023 hg (by decide)
 have q:=Qmq n (-1023) hg (by decide)
 rw [<- QiM] at p
 rw [<- QgO] at q
 by_cases h1:1023 < n
 ·rw [decide_eq_true h1] at p
  have p':=beq_iff_eq.1 p
  clear hn hg q h1
  go_enter Tryz.func240,Tryz.ntmps240
  go_wp2_with fail
  refine (HW.out _).mono ?_
  rintro e w1 ⟨rfl,rfl⟩
  go_wp2
  go_ret2
  exact ⟨rfl,rfl⟩
 ·rw [decide_eq_false h1] at p
  rw [decide_eq_true (by omega)] at q
  have p':=beq_eq_false_iff_ne.1 p
  have q':=beq_iff_eq.1 q
  clear hn hg h1
  go_enter Tryz.func240,Tryz.ntmps240
  go_wp2_with fail
  refine (HW.out _).mono ?_
  rintro e w1 ⟨rfl,rfl⟩
  go_wp2
  go_ret2
  exact ⟨rfl,rfl⟩
theorem Qo8 (a:Nat) (s:Bool){Z:Nat} (hz:Rep Z) (hn:¬ QeU Z) (w:World) :
  Calls Tryz.prog 240 #[.float .f64 a,.float .f64 (W s Z)] w fun e w'=>e= .returned (.tuple #[.float .f64 0,.int .i64 24])/\w=w':=by
 have HW:=hD (fun W=>Qd1 s hz hn W)
 generalize W s Z=b at *
 clear hz hn
 go_enter Tryz.func240,Tryz.ntmps240
 go_wp2_with fail
 refine (HW.out _).mono ?_
 rintro e w1 ⟨rfl,rfl⟩
 go_wp2
 go_ret2
 exact ⟨rfl,rfl⟩
theorem Qo9 (a b:Nat) (ha:TF a) (hb:TF b) (w:World) :
  Calls Tryz.prog 240 #[.float .f64 a,.float .f64 b] w fun e w'=>e= .returned (.tuple #[.float .f64 (pwP a b).1,.int .i64 (pwP a b).2])/\w=w':=by
 rcases QaS hb with ⟨n,hg,rfl,e⟩ | ⟨e,s,Z,hz,rfl,hn⟩
 ·have e2:pwP a (fi n)=powP a n:=by unfold pwP;rw [e]
  rw [e2]
  obtain ⟨t,hc⟩:=Qrx ha
  by_cases h1:n < -1023\/1023 < n
  ·exact Qo7 a n hg h1 w
  ·by_cases h0:0<=n
   ·exact QrB a t hc n h0 (by omega) w
   ·exact Qmr a t hc n (by omega) (by omega) w
 ·have e2:pwP a (W s Z)=(0,24):=by unfold pwP;rw [e]
  rw [e2]
  exact Qo8 a s hz hn w
theorem QrC:PowIs pwP:=by
 refine ⟨fun a b ha hb W=>Qo5 a b ha hb W,fun a b ha hb W=>Qo9 a b ha hb W,fun a b ha hb=>?_⟩
 unfold pwP
 split
 ·exact .inr rfl
 ·exact Qrz ha _
end Go.Proofs.YtdelgpelkfndeaaGreatDoor
