/- Numbers in any store bear what fold.Fold asks of them. The walk of vec.Floats where one is no number. Tidy, in the program and in the reference, in one word; .. Conditions: as each theorem says. -/
import Derived.Test.YtakgmnafbjdccaaGreatDoorMg14
import Derived.Test.YtakgmnafbjdccaaGreatDoorMg04
import Derived.Test.YtakgmnafbjdccaaGreatDoorMg00
import Derived.Laws.BitsAllLaws
set_option maxRecDepth 100000
set_option maxHeartbeats 1000000
namespace Go.Proofs.YtakgmnafbjdccaaGreatDoor
open Go Go.RowKit Go.Proofs Fl
theorem numX_of {k:Int}{b:Sl}{bn:Int}{s i f c x:Sl}{n:Nat}{F:Nat->Nat}{w:World} (h:NumV (vecW k b bn s i f c x) k n F w):NumX k b bn s i f c x n F w:=by
 refine ⟨h,fun hk=>?_,fun hk=>?_⟩
 ·obtain ⟨l,s',e,hb,hf⟩:=h.bitsX hk
  injection e with e
  have e1:=congrArg (fun a:Array Value=>a.getD 1 undef) e
  have e2:=congrArg (fun a:Array Value=>a.getD 2 undef) e
  have e1':Value.slice b.1 b.2.1 b.2.2=s':=e1
  have e2':Value.int .i64 bn= .int .i64 (n:Int):=e2
  rw [e1',e2']
  exact ⟨l,hb,fun j hj=>by rw [hf j hj,flagF_bI]⟩
 ·obtain ⟨L,s',e,hr,hf⟩:=h.intsX hk
  injection e with e
  have e1:=congrArg (fun a:Array Value=>a.getD 4 undef) e
  have e1':Value.slice i.1 i.2.1 i.2.2=s':=e1
  rw [e1']
  have e3:((List.range n).map fun j=>Value.int .i64 (zOf (F j)))=(List.range n).map fun j => .int .i64 (L j):=by
   apply List.map_congr_left
   intro j hj
   obtain ⟨ef,hg⟩:=hf j (List.mem_range.1 hj)
   rw [ef,zOf_of (wholeP_fi hg)]
  rw [e3]
  exact hr
theorem vkind_any (k:Int) (b:Value) (bn:Int) (s i f c x:Value) (w:World) :
  Calls Tryz.prog 60 #[vecV k b bn s i f c x] w fun e w'=>e= .returned (.int .i64 k)/\Below w.heap.size w w':=by
 go_enter Tryz.func60,Tryz.ntmps60
 go_wp2
 go_ret
 exact ⟨rfl,bel1 _ _⟩
theorem least_any {k:Int}{b:Value}{bn:Int}{s i f c x:Value}{n:Nat}{F:Nat->Nat}{w:World} (hn:n<=1000000) (hN:∀ W,Below w.heap.size w W->NumV (vecV k b bn s i f c x) k n F W) :
  Calls Tryz.prog 184 #[vecV k b bn s i f c x] w fun e w'=>e= .returned (.int .i64 (leastF F n:Nat))/\Below w.heap.size w w':=by
 rcases (hN w (Below.refl _ _)).kind with e | e | e | e
 ·exact least_whole k (.inl e) _ bn _ _ _ _ _ n F w (by omega) hN
 ·exact least_whole k (.inr (.inl e)) _ bn _ _ _ _ _ n F w (by omega) hN
 ·exact least_whole k (.inr (.inr e)) _ bn _ _ _ _ _ n F w (by omega) hN
 ·subst e
  exact least_float _ bn _ _ _ _ _ n F w (by omega) hN
theorem tight_any {k:Int}{b:Value}{bn:Int}{s i f c x:Value}{n:Nat}{F:Nat->Nat}{w:World} (hn:n<=1000000) (hN:∀ W,Below w.heap.size w W->NumV (vecV k b bn s i f c x) k n F W) :
  Calls Tryz.prog 186 #[vecV k b bn s i f c x] w fun e w'=>e= .returned (.bool (k==(leastF F n:Nat)))/\Below w.heap.size w w':=by
 have HC:=Lib.hid (fun W=>vkind_any k b bn s i f c x W)
 have HL:=Lib.hid (fun W (hw:Below w.heap.size w W)=>least_any hn (fun W' hw'=>hN W' (bel_both hw hw')))
 clear hN
 go_enter Tryz.func186,Tryz.ntmps186
 go_wp2_with fail
 go_region_with (first
  | (go_at_call 60;go_loud ((refine (HC.out _).mono ?_);rintro e w1 ⟨rfl,hb1⟩);obtain ⟨hc1,hf1⟩:=bcell2 hb1;have hz1:=hb1.size)
  | (go_at_call 184;go_loud ((refine (HL.out _ ?_).mono ?_);exact bel_both (bel1 w _).drew hb1;rintro e w2 ⟨rfl,hb2⟩);obtain ⟨hc2,hf2⟩:=bcell2 hb2;have hz2:=hb2.size))
 all_goals
  go_wp2
  go_ret
  exact ⟨rfl,bel_both (bel_both (bel1 w _).drew hb1) hb2⟩
theorem floats_bad (b o n c:Nat) (x y:Nat->Nat) (hn:n<=1000000) (w:World) (hc:∀ i,i < n->w.cell? ⟨b,o+i,none⟩=some (.float .f64 (x i)))
  (K:Nat) (hK:K < n) (ht:∀ i,i < K->∀ W,Calls Tryz.prog 228 #[.float .f64 (x i)] W fun e w'=>e= .returned (.tuple #[.float .f64 (y i),.bool true])/\W=w')
  (hbad:∀ W,Calls Tryz.prog 228 #[.float .f64 (x K)] W fun e w'=>e= .returned (.tuple #[.float .f64 0,.bool false])/\W=w') :
  Calls Tryz.prog 185 #[.slice (some ⟨b,o,none⟩) n c] w (NoVec w):=by
 have HC:Hid (∀ wr,Below w.heap.size w wr->∀ i,i < n->wr.cell? ⟨b,o+i,none⟩=some (.float .f64 (x i))):=by
  intro wr hb i h
  rw [hb.cell (cell_lt (hc i h))];exact hc i h
 have HT:=Lib.hid ht
 have HBAD:=Lib.hid hbad
 have hmk:=run_make_row' (P:=Tryz.prog) 34 51 (.float .f64 0) 8 Tryz.underlying34 info_f64 rfl .i64 .i64 n (by omega) (by omega)
 clear hc ht hbad
 have hsz:(w.alloc (.cells zcells 38)).heap.size=w.heap.size+1:=by simp
 have HF0:=Lib.hid (Fill.made (w.alloc (.cells zcells 38)) w.heap.size (by simp) 51 (fun j => .float .f64 (y j)) (.float .f64 0) n (by unfold maxLen;omega))
 rw [hsz] at HF0
 have HB0:=Lib.hid (bel2 w (.cells zcells 38) (.cells (madeCells #[.float .f64 0] n) 51))
 have HK0:=Lib.hid (block_up (bel1 (w.alloc (.cells zcells 38)) (.cells (madeCells #[.float .f64 0] n) 51)))
 clear hsz
 go_enter Tryz.func185,Tryz.ntmps185
 go_wp2
 go_loopw [14] (fun j wr=>∃ m:Nat,m<=K/\j= .int .i64 m/\Fill wr w.heap.size (w.heap.size+1) 51 (fun j => .float .f64 (y j)) (.float .f64 0) n m/\Below w.heap.size w wr/\wr.heap[w.heap.size]?=some (.cells zcells 38)) (fun j _=>n - (intOf j).toNat)
 case atStart=>exact ⟨0,Nat.zero_le _,rfl,HF0.out,HB0.out,HK0.out⟩
 case round =>
  obtain ⟨m,hm,rfl,hf,hbl,hk⟩:=hrel
  have HF:=Lib.hid hf
  have HBL:=Lib.hid hbl
  have HK:=Lib.hid hk
  clear hf hbl hk
  have hlt:m < n:=by omega
  have hcell:=HC.out wr HBL.out m hlt
  by_cases hmK:m < K
  ·have hc3:=HF.out.cell hlt
   have hz3:=HF.out.frozen m
   have HP:=Lib.hid (HF.out.put hlt)
   have HB3:=Lib.hid (HF.out.bel HBL.out m (.float .f64 (y m)))
   have HK3:=Lib.hid (show (wr.setCell ⟨w.heap.size+1,m,none⟩ (.float .f64 (y m))).heap[w.heap.size]?=some (.cells zcells 38) by rw [Below.heap_setCell _ _ _ _ (by simp)];exact HK.out)
   have hst:=fun md=>store_float hc3 hz3 .f64 (y m) md
   have HTM:=Lib.hid (HT.out m hmK)
   go_wp2_with fail
   refine (HTM.out _).mono ?_
   rintro e w3 ⟨rfl,rfl⟩
   go_wp2
   go_roundw
   case rel=>exact ⟨m+1,by omega,by go_num,HP.out,HB3.out,HK3.out⟩
   case measure=>simp [intOf];omega
  ·obtain rfl:m=K:=by omega
   obtain ⟨⟨h0,h1,h2,h3,h4,h5,h6,h7⟩,hz⟩:=boxed_of HK.out
   go_wp2_with fail
   refine (HBAD.out _).mono ?_
   rintro e w3 ⟨rfl,rfl⟩
   go_wp2
   refine bodyPost_ret (v := .tuple #[vecV 0 vnil 0 vnil vnil vnil vnil vnil,.bool false]) ?_ rfl ⟨rfl,below_set8 HBL.out (Nat.le_refl _) _ _ _ _ _ _ _ _⟩
   exact ret_vec2 (fn:=Tryz.f185) (p:=2) (u:=3) rfl _ _ w.heap.size (by rfl) (set8_block HK.out _ _ _ _ _ _ _ _)
def okF (b:Nat):Bool:=(doneP b).2==0
def tidF (b:Nat):Nat:=(doneP b).1
theorem ok_cases {b:Nat} (hb:b < 18446744073709551616):(okF b=true/\TF (tidF b)/\(∀ W,Calls Tryz.prog 228 #[.float .f64 b] W fun e w'=>e= .returned (.tuple #[.float .f64 (tidF b),.bool true])/\W=w')/\(∀ W,Calls Tryz.prog 59 #[.float .f64 b] W fun e w'=>e= .returned (.tuple #[.float .f64 (tidF b),.bool true])/\W=w')) \/
  (okF b=false/\(∀ W,Calls Tryz.prog 228 #[.float .f64 b] W fun e w'=>e= .returned (.tuple #[.float .f64 0,.bool false])/\W=w')/\(∀ W,Calls Tryz.prog 59 #[.float .f64 b] W fun e w'=>e= .returned (.tuple #[.float .f64 0,.bool false])/\W=w')):=by
 rcases classify b hb with ⟨s,Z,hz,rfl⟩ | h
 ·left
  have e:=doneP_num s hz
  have e1:tidF (W s Z)=tid s Z:=by unfold tidF;rw [e]
  have e2:okF (W s Z)=true:=by unfold okF;rw [e];rfl
  have e3:TF (tid s Z):=by
   rcases doneP_cases hb with ⟨c,hc,e4⟩ | e4
   ·rw [e] at e4
    injection e4 with e4 _
    rw [e4];exact hc
   ·rw [e] at e4
    injection e4 with _ e5
    cases e5
  rw [e1]
  exact ⟨e2,e3,fun W=>ntidy_num s hz W,fun W=>rtidy_num s hz W⟩
 ·right
  have e:doneP b=(0,24):=by rcases h with ⟨s,rfl⟩ | h;exact doneP_inf s;exact doneP_nan h
  exact ⟨by unfold okF;rw [e];rfl,fun W=>ntidy_bad h W,fun W=>rtidy_bad h W⟩
def FlsOut (n:Nat) (F:Nat->Nat) (w:World) (e:Ending) (w':World):Prop :=
 ((∀ j,j < n->okF (F j)=true)/\∃ a m c,e= .returned (.tuple #[vecV 4 vnil 0 vnil vnil (.slice a m c) vnil vnil,.bool true])/\Own1 w' w.heap.size 51 (.slice a m c) ((List.range n).map fun j => .float .f64 (tidF (F j)))/\Below w.heap.size w w') \/
 ((∃ j,j < n/\okF (F j)=false)/\NoVec w e w')
theorem floats_all {w:World}{v:Value}{n:Nat}{F:Nat->Nat} (hr:Reads1 w v ((List.range n).map fun j => .float .f64 (F j))) (hn:n<=1000000) (hF:∀ j,j < n->F j < 18446744073709551616) :
  Calls Tryz.prog 185 #[v] w (FlsOut n F w):=by
 obtain ⟨a,c,rfl,hc⟩:=reads_at hr
 by_cases h0:n=0
 ·subst h0
  refine (floats_any hr hn (fun j hj=>absurd hj (Nat.not_lt_zero _))).mono ?_
  rintro e w' ⟨a2,m,c2,rfl,ho,hb⟩
  exact .inl ⟨fun j hj=>absurd hj (Nat.not_lt_zero _),a2,m,c2,rfl,ho,hb⟩
 ·obtain ⟨b,o,rfl,_⟩:=hc 0 (by omega)
  have hcell:∀ i,i < n->w.cell? ⟨b,o+i,none⟩=some (.float .f64 (F i)):=fun i hi=>reads_cell hr i hi
  have hyes:∀ j,j < n->okF (F j)=true->∀ W,Calls Tryz.prog 228 #[.float .f64 (F j)] W fun e w'=>e= .returned (.tuple #[.float .f64 (tidF (F j)),.bool true])/\W=w':=fun j hj ho=>by
   rcases ok_cases (hF j hj) with h | h
   ·exact h.2.2.1
   ·rw [h.1] at ho;cases ho
  rcases first_bad (fun j=>okF (F j)) n with hall | ⟨K,hK,hbad,hlow⟩
  ·refine (floats_walk b o n c F (fun j=>tidF (F j)) hn w hcell (fun i hi=>hyes i hi (hall i hi))).mono ?_
   rintro e w' ⟨u,rfl,ho,hb⟩
   obtain ⟨a2,m,c2,rfl⟩:∃ a m c',u= .slice a m c':=by obtain ⟨a,c,e⟩:=ho.reads.len;exact ⟨a,_,c,e⟩
   exact .inl ⟨hall,a2,m,c2,rfl,ho,hb⟩
  ·refine (floats_bad b o n c F (fun j=>tidF (F j)) hn w hcell K hK (fun i hi=>hyes i (by omega) (hlow i hi)) ?_).mono fun e w' h => .inr ⟨⟨K,hK,hbad⟩,h⟩
   rcases ok_cases (hF K hK) with h | h
   ·rw [h.1] at hbad;cases hbad
   ·exact h.2.1
theorem NumV.kindEq {k kd:Int}{b:Sl}{bn:Int}{s i f c x:Sl}{n:Nat}{F:Nat->Nat}{w:World} (h:NumV (vecW k b bn s i f c x) kd n F w):k=kd:=by
 obtain ⟨_,_,_,_,_,_,_,e⟩:=h.shape
 injection e with e
 have e1:=congrArg (fun a:Array Value=>a.getD 0 undef) e
 have e2:Value.int .i64 k= .int .i64 kd:=e1
 injection e2
end Go.Proofs.YtakgmnafbjdccaaGreatDoor
namespace Go.Proofs.YtakgmnafbjdccaaGreatDoor.Fl
open Ieee Go
def wd (s:Bool) (E F:Nat):Nat:=s.toNat*9223372036854775808+E*4503599627370496+F
theorem wd_lt (s:Bool){E F:Nat} (hE:E < 2048) (hF:F < 4503599627370496):wd s E F < 18446744073709551616:=by
 unfold wd;cases s <;> simp <;> omega
theorem read_one:double.read 4607182418800017408= .number false 4503599627370496 (-52):=by decide
end Go.Proofs.YtakgmnafbjdccaaGreatDoor.Fl
namespace Go.Proofs.YtakgmnafbjdccaaGreatDoor
open Go Go.RowKit Go.Proofs Fl Ieee
def BigR (b:Nat):Prop:=∃ s r,1023*4503599627370496<=r/\r<=9218868437227405312/\b=double.word s r
def LowR (b:Nat):Prop:=∃ s r,r<=1023*4503599627370496/\b=double.word s r
theorem word_lt {s:Bool}{r:Nat} (h:r<=9218868437227405312):double.word s r < 18446744073709551616:=by
 show (if s then double.signWeight+r else r) < _
 rw [signWeight]
 split <;> omega
theorem BigR.lt {b:Nat} (h:BigR b):b < 18446744073709551616:=by
 obtain ⟨s,r,_,h2,rfl⟩:=h
 exact word_lt h2
theorem LowR.lt {b:Nat} (h:LowR b):b < 18446744073709551616:=by
 obtain ⟨s,r,h2,rfl⟩:=h
 exact word_lt (by omega)
theorem BigR.read {b:Nat} (h:BigR b):(∃ s,double.read b= .infinity s)\/∃ s m i,double.read b= .number s m i/\m≠0/\0<=(m.log2:Int)+i:=by
 obtain ⟨s,r,h1,h2,rfl⟩:=h
 by_cases e:r=9218868437227405312
 ·subst e
  exact .inl ⟨s,read_inf s⟩
 ·have hr:r < 9218868437227405312:=by omega
  refine .inr ⟨s,_,_,read_word s hr,?_,?_⟩
  ·unfold mg
   rw [if_neg (by omega)]
   omega
  ·have hm:52<=(mg r).log2:=le_log2_of (by unfold mg;rw [if_neg (by omega)];omega)
   have he:1022<=ex r:=by unfold ex;rw [if_neg (by omega)];omega
   omega
theorem LowR.read {b:Nat} (h:LowR b):∃ s m q,double.read b= .number s m (-(q:Nat))/\m<=2 ^ q:=by
 obtain ⟨s,r,h1,rfl⟩:=h
 have hr:r < 9218868437227405312:=by omega
 have he:ex r<=1022:=by unfold ex;split <;> omega
 have e0:(-1074+(ex r:Int))=-((1074 - ex r:Nat):Int):=by omega
 refine ⟨s,mg r,1074 - ex r,by rw [read_word s hr,e0],?_⟩
 by_cases h52:ex r=1022
 ·rw [h52]
  have:mg r=2 ^ 52:=by
   unfold ex at h52
   unfold mg
   split at h52
   ·omega
   ·rw [if_neg (by omega)];omega
  rw [this]
  exact Nat.le_refl _
 ·have h1:=mg_lt r
  have h2:2 ^ 53<=2 ^ (1074 - ex r):=Nat.pow_le_pow_right (by decide) (by omega)
  omega
theorem log2_mul_ge {m n:Nat} (hm:m≠0) (hn:n≠0):m.log2+n.log2<=(m*n).log2:=by
 apply le_log2_of
 rw [Nat.pow_add]
 exact Nat.mul_le_mul (Nat.log2_self_le hm) (Nat.log2_self_le hn)
theorem rhe_ge (n d:Nat):n / 2^d<=rhe n d:=by unfold rhe;omega
theorem nearest_big (s:Bool){m:Nat}{i:Int} (hm:m≠0) (h:0<=(m.log2:Int)+i):BigR (double.nearest s m i):=by
 rw [nearest_eq s hm]
 have e1:max (i+(m.log2:Int) - 52) (-1074)=i+m.log2 - 52:=by omega
 rw [e1]
 generalize hL:i+(m.log2:Int) - 52=L
 have hl:-52<=L:=by omega
 have h2:2 ^ 52<=rhe (m*2 ^ (i - L).toNat) (L - i).toNat:=by
  refine Nat.le_trans ?_ (rhe_ge _ _)
  rw [Nat.le_div_iff_mul_le (Nat.two_pow_pos _),<- Nat.pow_add]
  have h3:2 ^ (m.log2+(i - L).toNat)<=m*2 ^ (i - L).toNat:=by
   rw [Nat.pow_add];exact Nat.mul_le_mul_right _ (Nat.log2_self_le hm)
  refine Nat.le_trans (Nat.pow_le_pow_right (by decide) ?_) h3
  omega
 have h4:1022<=(L+1074).toNat:=by omega
 have h5:1022*4503599627370496<=(L+1074).toNat*4503599627370496:=Nat.mul_le_mul_right _ h4
 refine ⟨s,_,?_,Nat.min_le_right _ _,rfl⟩
 rw [Nat.le_min]
 exact ⟨by omega,by omega⟩
theorem rhe_le' {n d B:Nat} (h:n<=B*2 ^ d):rhe n d<=B:=by
 have hp:=Nat.two_pow_pos d
 by_cases e:n=B*2 ^ d
 ·rw [e,rhe_exact];exact Nat.le_refl _
 ·have h1:n / 2 ^ d < B:=(Nat.div_lt_iff_lt_mul hp).2 (by omega)
  have h2:rhe n d<=n / 2 ^ d+1:=by
   unfold rhe
   have:∀ b:Bool,b.toNat<=1:=by intro b;cases b <;> decide
   have:=this (decide (2^d < 2*(n % 2^d))||(2^d==2*(n % 2^d)&&(n / 2^d) % 2==1))
   omega
  omega
theorem nearest_zero (s:Bool) (i:Int):double.nearest s 0 i=double.word s 0:=by simp [Format.nearest]
theorem nearest_low (s:Bool){m q:Nat} (h:m<=2 ^ q):LowR (double.nearest s m (-(q:Nat))):=by
 by_cases hm:m=0
 ·subst hm
  exact ⟨s,0,by omega,nearest_zero s _⟩
 by_cases e:m=2 ^ q
 ·have h1:=nearest_shift s 1 q (-(q:Nat))
  rw [Nat.one_mul,show -(q:Int)+(q:Nat)=0 by omega] at h1
  rw [e,h1]
  exact ⟨s,1023*4503599627370496,Nat.le_refl _,by cases s <;> decide⟩
 ·have hlt:m < 2 ^ q:=by omega
  have hq:1<=q:=by
   rcases Nat.eq_zero_or_pos q with h0 | h0
   ·subst h0;simp at hlt;omega
   ·exact h0
  have hl:m.log2<=q - 1:=log2_lt_of (by rw [Nat.sub_add_cancel hq];exact hlt)
  rw [nearest_eq s hm]
  generalize hL:max (-(q:Nat)+(m.log2:Int) - 52) (-1074)=L
  have hm2:m < 2 ^ (m.log2+1):=Nat.lt_log2_self
  have h1:rhe (m*2 ^ (-(q:Nat) - L).toNat) (L - -(q:Nat)).toNat<=2 ^ (m.log2+1+(-(q:Nat) - L).toNat - (L - -(q:Nat)).toNat):=by
   apply rhe_le'
   rw [<- Nat.pow_add]
   have h3:m*2 ^ (-(q:Nat) - L).toNat<=2 ^ (m.log2+1+(-(q:Nat) - L).toNat):=by
    rw [Nat.pow_add];exact Nat.mul_le_mul_right _ (Nat.le_of_lt hm2)
   exact Nat.le_trans h3 (Nat.pow_le_pow_right (by decide) (by omega))
  refine ⟨s,_,?_,rfl⟩
  refine Nat.le_trans (Nat.min_le_left _ _) ?_
  by_cases hc:-1074<=-(q:Nat)+(m.log2:Int) - 52
  ·have e2:m.log2+1+(-(q:Nat) - L).toNat - (L - -(q:Nat)).toNat=53:=by omega
   rw [e2] at h1
   have h4:(L+1074).toNat<=1021:=by omega
   have h5:(L+1074).toNat*4503599627370496<=1021*4503599627370496:=Nat.mul_le_mul_right _ h4
   rw [show (2:Nat) ^ 53=9007199254740992 from rfl] at h1
   exact Nat.le_trans (Nat.add_le_add h5 h1) (by decide)
  ·have e3:L=-1074:=by omega
   subst e3
   have e2:m.log2+1+(-(q:Nat) - (-1074:Int)).toNat - ((-1074:Int) - -(q:Nat)).toNat<=52:=by omega
   have h6:=Nat.le_trans h1 (Nat.pow_le_pow_right (by decide) e2)
   have e4:((-1074:Int)+1074).toNat=0:=by decide
   rw [e4,Nat.zero_mul,Nat.zero_add]
   exact Nat.le_trans h6 (by decide)
theorem big_mul {a b:Nat} (ha:BigR a) (hb:BigR b):∃ c,floatBits .mul .f64 a b=some c/\BigR c:=by
 show ∃ c,((double.read a).product (double.read b)).map double.write=some c/\BigR c
 have hi:∀ s,BigR (double.write (.infinity s)):=fun s=>⟨s,9218868437227405312,by decide,Nat.le_refl _,by cases s <;> decide⟩
 rcases ha.read with ⟨s,h1⟩ | ⟨s,m,i,h1,hm,h2⟩ <;> rcases hb.read with ⟨t,h3⟩ | ⟨t,n,j,h3,hn,h4⟩ <;> rw [h1,h3]
 ·exact ⟨_,rfl,hi _⟩
 ·refine ⟨_,by unfold Datum.product;dsimp only;rw [if_neg hn];rfl,hi _⟩
 ·refine ⟨_,by unfold Datum.product;dsimp only;rw [if_neg hm];rfl,hi _⟩
 ·refine ⟨_,rfl,nearest_big _ (Nat.mul_ne_zero hm hn) ?_⟩
  have:=log2_mul_ge hm hn
  omega
theorem low_mul {a b:Nat} (ha:LowR a) (hb:LowR b):∃ c,floatBits .mul .f64 a b=some c/\LowR c:=by
 show ∃ c,((double.read a).product (double.read b)).map double.write=some c/\LowR c
 obtain ⟨s,m,p,h1,h2⟩:=ha.read
 obtain ⟨t,n,q,h3,h4⟩:=hb.read
 rw [h1,h3]
 refine ⟨_,rfl,?_⟩
 show LowR (double.nearest (s ^^ t) (m*n) (-(p:Nat)+-(q:Nat)))
 have e:-(p:Int)+-(q:Nat)=-((p+q:Nat):Int):=by omega
 rw [e]
 exact nearest_low _ (by rw [Nat.pow_add];exact Nat.mul_le_mul h2 h4)
def Cl (t:Bool) (b:Nat):Prop:=if t=true then BigR b else LowR b
theorem Cl.lt {t:Bool}{b:Nat} (h:Cl t b):b < 18446744073709551616:=by
 cases t
 ·exact LowR.lt h
 ·exact BigR.lt h
theorem Cl.mul {t:Bool}{a b:Nat} (ha:Cl t a) (hb:Cl t b):floatBits .mul .f64 a b=some (opB .mul a b)/\Cl t (opB .mul a b):=by
 cases t
 ·obtain ⟨c,h1,h2⟩:=low_mul ha hb
  have e:opB .mul a b=c:=by unfold opB;rw [h1];rfl
  rw [e]
  exact ⟨h1,h2⟩
 ·obtain ⟨c,h1,h2⟩:=big_mul ha hb
  have e:opB .mul a b=c:=by unfold opB;rw [h1];rfl
  rw [e]
  exact ⟨h1,h2⟩
theorem cl_one (t:Bool):Cl t 4607182418800017408:=by
 cases t
 ·exact ⟨false,1023*4503599627370496,Nat.le_refl _,by decide⟩
 ·exact ⟨false,1023*4503599627370496,Nat.le_refl _,by decide,by decide⟩
theorem cl_tf {b:Nat} (h:TF b):∃ t,Cl t b:=by
 obtain ⟨s,Z,hz,rfl,_⟩:=h
 have hr:=rung_lt hz
 by_cases hc:rung Z<=1023*4503599627370496
 ·exact ⟨false,s,rung Z,hc,rfl⟩
 ·exact ⟨true,s,rung Z,by omega,by omega,rfl⟩
theorem cl_cases {t:Bool}{b:Nat} (h:Cl t b):(∃ s Z,Rep Z/\b=W s Z)\/∃ s,b=infw s:=by
 have hw:∀ s r,r<=9218868437227405312->b=double.word s r->(∃ s Z,Rep Z/\b=W s Z)\/∃ s,b=infw s:=by
  intro s r hr e
  by_cases h2:r=9218868437227405312
  ·subst h2
   exact .inr ⟨s,e⟩
  ·exact .inl ⟨s,mag r,rep_mag (by omega),by rw [W_mag];exact e⟩
 cases t
 ·obtain ⟨s,r,h1,h2⟩:=h
  exact hw s r (by omega) h2
 ·obtain ⟨s,r,_,h1,h2⟩:=h
  exact hw s r h1 h2
def powF (k o x:Nat):Nat:=if k=0 then o else powF (k / 2) (if k % 2=1 then opB .mul o x else o) (if 1 < k then opB .mul x x else x)
termination_by k
decreasing_by omega
theorem powF_zero (o x:Nat):powF 0 o x=o:=by rw [powF];rfl
theorem powF_pos {k:Nat} (o x:Nat) (h:k≠0):powF k o x=powF (k / 2) (if k % 2=1 then opB .mul o x else o) (if 1 < k then opB .mul x x else x):=by
 rw [powF,if_neg h]
theorem powF_cl {t:Bool} (k:Nat):∀ {o x:Nat},Cl t o->Cl t x->Cl t (powF k o x):=by
 induction k using Nat.strongRecOn with
 | _ k ih =>
  intro o x ho hx
  by_cases h:k=0
  ·subst h;rw [powF_zero];exact ho
  ·rw [powF_pos o x h]
   refine ih (k / 2) (by omega) ?_ ?_
   ·split
    ·exact (ho.mul hx).2
    ·exact ho
   ·split
    ·exact (hx.mul hx).2
    ·exact hx
theorem quo_one (s:Bool){Z:Nat} (hz:Rep Z) (h0:Z≠0):floatBits .quo .f64 4607182418800017408 (W s Z)=some (opB .quo 4607182418800017408 (W s Z))/\opB .quo 4607182418800017408 (W s Z) < 18446744073709551616:=by
 refine opB_some ?_
 show ((Datum.quotient (double.fractionBits+2) (double.read 4607182418800017408) (double.read (W s Z))).map double.write).isSome=true
 rw [read_W s hz,read_one]
 unfold Datum.quotient
 dsimp only
 rw [if_neg (fun e=>h0 ((mg_zero hz).1 e))]
 rfl
noncomputable def powP (a:Nat) (n:Int):Nat×Int :=
 if n < -1023\/1023 < n then (0,24) else if 0<=n then doneP (powF n.natAbs 4607182418800017408 a)
 else if (doneP (powF n.natAbs 4607182418800017408 a)).2=0/\(doneP (powF n.natAbs 4607182418800017408 a)).1≠0 then doneP (opB .quo 4607182418800017408 (powF n.natAbs 4607182418800017408 a)) else (0,24)
noncomputable def pwP (a b:Nat):Nat×Int:=match wholeP b with
 | none=>(0,24)
 | some n=>powP a n
theorem powP_tf {a:Nat} (ha:TF a) (n:Int):(∃ c,TF c/\powP a n=(c,0))\/powP a n=(0,24):=by
 unfold powP
 obtain ⟨t,hc⟩:=cl_tf ha
 have ho:=powF_cl n.natAbs (cl_one t) hc
 generalize powF n.natAbs 4607182418800017408 a=o at *
 split
 ·exact .inr rfl
 ·split
  ·exact doneP_cases ho.lt
  ·split
   ·rename_i h
    rcases cl_cases ho with ⟨s,Z,hz,rfl⟩ | ⟨s,rfl⟩
    ·have h0:Z≠0:=by
      rintro rfl
      rw [doneP_num s hz] at h
      exact h.2 rfl
     exact doneP_cases (quo_one s hz h0).2
    ·rw [doneP_inf] at h
     cases h.1
   ·exact .inr rfl
end Go.Proofs.YtakgmnafbjdccaaGreatDoor
