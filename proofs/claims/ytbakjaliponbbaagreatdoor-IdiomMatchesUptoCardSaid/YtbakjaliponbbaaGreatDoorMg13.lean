/- The walk of vec.Floats where one is no number. Tidy, in the program and in the reference, in one word; vec.Floats at any floats. The walk of kept at any .. Conditions: as each theorem says. -/
import Derived.Test.YtbakjaliponbbaaGreatDoorMg12
import Derived.Test.YtbakjaliponbbaaGreatDoorMg07
import Derived.Test.YtbakjaliponbbaaGreatDoorMg08
import Derived.Test.YtbakjaliponbbaaGreatDoorMg03
import Derived.Test.YtbakjaliponbbaaGreatDoorMg02
import Derived.Test.YtbakjaliponbbaaGreatDoorMg09
import Derived.Test.YtbakjaliponbbaaGreatDoorMg06
set_option maxRecDepth 100000
set_option maxHeartbeats 1000000
namespace Go.Proofs.YtbakjaliponbbaaGreatDoor
open Go Go.RowKit Go.Proofs Fl
theorem floats_bad (b o n c:Nat) (x y:Nat->Nat) (hn:n<=1000000) (w:World) (hc:∀ i,i < n->w.cell? ⟨b,o+i,none⟩=some (.float .f64 (x i)))
  (K:Nat) (hK:K < n) (ht:∀ i,i < K->∀ W,Calls Tryz.prog 166 #[.float .f64 (x i)] W fun e w'=>e= .returned (.tuple #[.float .f64 (y i),.bool true])/\W=w')
  (hbad:∀ W,Calls Tryz.prog 166 #[.float .f64 (x K)] W fun e w'=>e= .returned (.tuple #[.float .f64 0,.bool false])/\W=w') :
  Calls Tryz.prog 205 #[.slice (some ⟨b,o,none⟩) n c] w (NoVec w):=by
 have HC:Hid (∀ wr,Below w.heap.size w wr->∀ i,i < n->wr.cell? ⟨b,o+i,none⟩=some (.float .f64 (x i))):=by
  intro wr hb i h
  rw [hb.cell (cell_lt (hc i h))];exact hc i h
 have HT:=Lib.hid ht
 have HBAD:=Lib.hid hbad
 have hmk:=run_make_row' (P:=Tryz.prog) 26 96 (.float .f64 0) 8 Tryz.underlying26 info_f64 rfl .i64 .i64 n (by omega) (by omega)
 clear hc ht hbad
 have hsz:(w.alloc (.cells zcells 57)).heap.size=w.heap.size+1:=by simp
 have HF0:=Lib.hid (Fill.made (w.alloc (.cells zcells 57)) w.heap.size (by simp) 96 (fun j => .float .f64 (y j)) (.float .f64 0) n (by unfold maxLen;omega))
 rw [hsz] at HF0
 have HB0:=Lib.hid (bel2 w (.cells zcells 57) (.cells (madeCells #[.float .f64 0] n) 96))
 have HK0:=Lib.hid (block_up (bel1 (w.alloc (.cells zcells 57)) (.cells (madeCells #[.float .f64 0] n) 96)))
 clear hsz
 go_enter Tryz.func205,Tryz.ntmps205
 go_wp2
 go_loopw [14] (fun j wr=>∃ m:Nat,m<=K/\j= .int .i64 m/\Fill wr w.heap.size (w.heap.size+1) 96 (fun j => .float .f64 (y j)) (.float .f64 0) n m/\Below w.heap.size w wr/\wr.heap[w.heap.size]?=some (.cells zcells 57)) (fun j _=>n - (intOf j).toNat)
 case atStart=>exact ⟨0,Nat.zero_le _,rfl,HF0.out,HB0.out,HK0.out⟩
 case round =>
  obtain ⟨m,hm,rfl,hf,hbl,hk⟩:=hrel
  have HF:=Lib.hid hf
  have HBL:=Lib.hid hbl
  have HK:=Lib.hid hk
  clear hf hbl hk
  have hlt:m < n:=by omega
  have hcell:=HC.out wr HBL.out m hlt
  by_cases hmK:m < K
  ·have hc3:=HF.out.cell hlt
   have hz3:=HF.out.frozen m
   have HP:=Lib.hid (HF.out.put hlt)
   have HB3:=Lib.hid (HF.out.bel HBL.out m (.float .f64 (y m)))
   have HK3:=Lib.hid (show (wr.setCell ⟨w.heap.size+1,m,none⟩ (.float .f64 (y m))).heap[w.heap.size]?=some (.cells zcells 57) by rw [Below.heap_setCell _ _ _ _ (by simp)];exact HK.out)
   have hst:=fun md=>store_float hc3 hz3 .f64 (y m) md
   have HTM:=Lib.hid (HT.out m hmK)
   go_wp2_with fail
   refine (HTM.out _).mono ?_
   rintro e w3 ⟨rfl,rfl⟩
   go_wp2
   go_roundw
   case rel=>exact ⟨m+1,by omega,by go_num,HP.out,HB3.out,HK3.out⟩
   case measure=>simp [intOf];omega
  ·obtain rfl:m=K:=by omega
   obtain ⟨⟨h0,h1,h2,h3,h4,h5,h6,h7⟩,hz⟩:=boxed_of HK.out
   go_wp2_with fail
   refine (HBAD.out _).mono ?_
   rintro e w3 ⟨rfl,rfl⟩
   go_wp2
   refine bodyPost_ret (v := .tuple #[vecV 0 vnil 0 vnil vnil vnil vnil vnil,.bool false]) ?_ rfl ⟨rfl,below_set8 HBL.out (Nat.le_refl _) _ _ _ _ _ _ _ _⟩
   exact ret_vec2 (fn:=Tryz.f205) (p:=2) (u:=3) rfl _ _ w.heap.size (by rfl) (set8_block HK.out _ _ _ _ _ _ _ _)
def okF (b:Nat):Bool:=(doneP b).2==0
def tidF (b:Nat):Nat:=(doneP b).1
theorem ok_cases {b:Nat} (hb:b < 18446744073709551616):(okF b=true/\TF (tidF b)/\(∀ W,Calls Tryz.prog 166 #[.float .f64 b] W fun e w'=>e= .returned (.tuple #[.float .f64 (tidF b),.bool true])/\W=w')/\(∀ W,Calls Tryz.prog 51 #[.float .f64 b] W fun e w'=>e= .returned (.tuple #[.float .f64 (tidF b),.bool true])/\W=w')) \/
  (okF b=false/\(∀ W,Calls Tryz.prog 166 #[.float .f64 b] W fun e w'=>e= .returned (.tuple #[.float .f64 0,.bool false])/\W=w')/\(∀ W,Calls Tryz.prog 51 #[.float .f64 b] W fun e w'=>e= .returned (.tuple #[.float .f64 0,.bool false])/\W=w')):=by
 rcases classify b hb with ⟨s,Z,hz,rfl⟩ | h
 ·left
  have e:=doneP_num s hz
  have e1:tidF (W s Z)=tid s Z:=by unfold tidF;rw [e]
  have e2:okF (W s Z)=true:=by unfold okF;rw [e];rfl
  have e3:TF (tid s Z):=by
   rcases doneP_cases hb with ⟨c,hc,e4⟩ | e4
   ·rw [e] at e4
    injection e4 with e4 _
    rw [e4];exact hc
   ·rw [e] at e4
    injection e4 with _ e5
    cases e5
  rw [e1]
  exact ⟨e2,e3,fun W=>ntidy_num s hz W,fun W=>rtidy_num s hz W⟩
 ·right
  have e:doneP b=(0,24):=by rcases h with ⟨s,rfl⟩ | h;exact doneP_inf s;exact doneP_nan h
  exact ⟨by unfold okF;rw [e];rfl,fun W=>ntidy_bad h W,fun W=>rtidy_bad h W⟩
def FlsOut (n:Nat) (F:Nat->Nat) (w:World) (e:Ending) (w':World):Prop :=
 ((∀ j,j < n->okF (F j)=true)/\∃ a m c,e= .returned (.tuple #[vecV 4 vnil 0 vnil vnil (.slice a m c) vnil vnil,.bool true])/\Own1 w' w.heap.size 96 (.slice a m c) ((List.range n).map fun j => .float .f64 (tidF (F j)))/\Below w.heap.size w w') \/
 ((∃ j,j < n/\okF (F j)=false)/\NoVec w e w')
theorem floats_all {w:World}{v:Value}{n:Nat}{F:Nat->Nat} (hr:Reads1 w v ((List.range n).map fun j => .float .f64 (F j))) (hn:n<=1000000) (hF:∀ j,j < n->F j < 18446744073709551616) :
  Calls Tryz.prog 205 #[v] w (FlsOut n F w):=by
 obtain ⟨a,c,rfl,hc⟩:=reads_at hr
 by_cases h0:n=0
 ·subst h0
  refine (floats_any hr hn (fun j hj=>absurd hj (Nat.not_lt_zero _))).mono ?_
  rintro e w' ⟨a2,m,c2,rfl,ho,hb⟩
  exact .inl ⟨fun j hj=>absurd hj (Nat.not_lt_zero _),a2,m,c2,rfl,ho,hb⟩
 ·obtain ⟨b,o,rfl,_⟩:=hc 0 (by omega)
  have hcell:∀ i,i < n->w.cell? ⟨b,o+i,none⟩=some (.float .f64 (F i)):=fun i hi=>reads_cell hr i hi
  have hyes:∀ j,j < n->okF (F j)=true->∀ W,Calls Tryz.prog 166 #[.float .f64 (F j)] W fun e w'=>e= .returned (.tuple #[.float .f64 (tidF (F j)),.bool true])/\W=w':=fun j hj ho=>by
   rcases ok_cases (hF j hj) with h | h
   ·exact h.2.2.1
   ·rw [h.1] at ho;cases ho
  rcases first_bad (fun j=>okF (F j)) n with hall | ⟨K,hK,hbad,hlow⟩
  ·refine (floats_walk b o n c F (fun j=>tidF (F j)) hn w hcell (fun i hi=>hyes i hi (hall i hi))).mono ?_
   rintro e w' ⟨u,rfl,ho,hb⟩
   obtain ⟨a2,m,c2,rfl⟩:∃ a m c',u= .slice a m c':=by obtain ⟨a,c,e⟩:=ho.reads.len;exact ⟨a,_,c,e⟩
   exact .inl ⟨hall,a2,m,c2,rfl,ho,hb⟩
  ·refine (floats_bad b o n c F (fun j=>tidF (F j)) hn w hcell K hK (fun i hi=>hyes i (by omega) (hlow i hi)) ?_).mono fun e w' h => .inr ⟨⟨K,hK,hbad⟩,h⟩
   rcases ok_cases (hF K hK) with h | h
   ·rw [h.1] at hbad;cases hbad
   ·exact h.2.1
theorem NumV.kindEq {k kd:Int}{b:Sl}{bn:Int}{s i f c x:Sl}{n:Nat}{F:Nat->Nat}{w:World} (h:NumV (vecW k b bn s i f c x) kd n F w):k=kd:=by
 obtain ⟨_,_,_,_,_,_,_,e⟩:=h.shape
 injection e with e
 have e1:=congrArg (fun a:Array Value=>a.getD 0 undef) e
 have e2:Value.int .i64 k= .int .i64 kd:=e1
 injection e2
end Go.Proofs.YtbakjaliponbbaaGreatDoor
namespace Go.Proofs.YtbakjaliponbbaaGreatDoor
open Go Go.RowKit Go.Proofs Fl Ieee
def BigR (b:Nat):Prop:=∃ s r,1023*4503599627370496<=r/\r<=9218868437227405312/\b=double.word s r
def LowR (b:Nat):Prop:=∃ s r,r<=1023*4503599627370496/\b=double.word s r
theorem word_lt {s:Bool}{r:Nat} (h:r<=9218868437227405312):double.word s r < 18446744073709551616:=by
 show (if s then double.signWeight+r else r) < _
 rw [signWeight]
 split <;> omega
theorem BigR.lt {b:Nat} (h:BigR b):b < 18446744073709551616:=by
 obtain ⟨s,r,_,h2,rfl⟩:=h
 exact word_lt h2
theorem LowR.lt {b:Nat} (h:LowR b):b < 18446744073709551616:=by
 obtain ⟨s,r,h2,rfl⟩:=h
 exact word_lt (by omega)
theorem BigR.read {b:Nat} (h:BigR b):(∃ s,double.read b= .infinity s)\/∃ s m i,double.read b= .number s m i/\m≠0/\0<=(m.log2:Int)+i:=by
 obtain ⟨s,r,h1,h2,rfl⟩:=h
 by_cases e:r=9218868437227405312
 ·subst e
  exact .inl ⟨s,read_inf s⟩
 ·have hr:r < 9218868437227405312:=by omega
  refine .inr ⟨s,_,_,read_word s hr,?_,?_⟩
  ·unfold mg
   rw [if_neg (by omega)]
   omega
  ·have hm:52<=(mg r).log2:=le_log2_of (by unfold mg;rw [if_neg (by omega)];omega)
   have he:1022<=ex r:=by unfold ex;rw [if_neg (by omega)];omega
   omega
theorem LowR.read {b:Nat} (h:LowR b):∃ s m q,double.read b= .number s m (-(q:Nat))/\m<=2 ^ q:=by
 obtain ⟨s,r,h1,rfl⟩:=h
 have hr:r < 9218868437227405312:=by omega
 have he:ex r<=1022:=by unfold ex;split <;> omega
 have e0:(-1074+(ex r:Int))=-((1074 - ex r:Nat):Int):=by omega
 refine ⟨s,mg r,1074 - ex r,by rw [read_word s hr,e0],?_⟩
 by_cases h52:ex r=1022
 ·rw [h52]
  have:mg r=2 ^ 52:=by
   unfold ex at h52
   unfold mg
   split at h52
   ·omega
   ·rw [if_neg (by omega)];omega
  rw [this]
  exact Nat.le_refl _
 ·have h1:=mg_lt r
  have h2:2 ^ 53<=2 ^ (1074 - ex r):=Nat.pow_le_pow_right (by decide) (by omega)
  omega
def Cl (t:Bool) (b:Nat):Prop:=if t=true then BigR b else LowR b
theorem Cl.lt {t:Bool}{b:Nat} (h:Cl t b):b < 18446744073709551616:=by
 cases t
 ·exact LowR.lt h
 ·exact BigR.lt h
end Go.Proofs.YtbakjaliponbbaaGreatDoor
namespace Go.Proofs.YtbakjaliponbbaaGreatDoor
open Go Go.RowKit Go.Proofs Fl
structure NumW (v:Value) (n:Nat) (F:Nat->Nat) (w:World):Prop where
 cls:Calls Tryz.prog 135 #[v] w fun e w2=>e= .returned (.int .i64 0)/\Below w.heap.size w w2
 len:Calls Tryz.prog 48 #[v] w fun e w2=>e= .returned (.int .i64 n)/\Below w.heap.size w w2
 num:∀ j,j < n->Calls Tryz.prog 138 #[v,.int .i64 (j:Nat)] w fun e w2=>e= .returned (.float .f64 (F j))/\Below w.heap.size w w2
theorem NumW.of {v:Value}{n:Nat}{F:Nat->Nat}{w:World}{H:Nat->Prop} (h:Keeps H w (NumW v n F)):NumsOf w v n F :=
 ⟨fun _ hb=>(h.step hb).now.cls,fun _ hb=>(h.step hb).now.len,fun _ hb j hj=>(h.step hb).now.num j hj⟩
structure LdS (w0:World) (G:Nat) (k:Int) (b:Value) (bn:Int) (s i f c x:Value) (W:World):Prop where
 box:Boxed W G k b bn s i f c x
 bel:Below w0.heap.size w0 W
 old:G < w0.heap.size
theorem LdS.new {w0:World}{G:Nat}{k:Int}{b:Value}{bn:Int}{s i f c x:Value} (h:Boxed w0 G k b bn s i f c x):LdS w0 G k b bn s i f c x w0:=⟨h,Below.refl _ _,h.lt⟩
theorem LdS.step {w0 W W':World}{G:Nat}{k:Int}{b:Value}{bn:Int}{s i f c x:Value} (h:LdS w0 G k b bn s i f c x W) (hb:Below W.heap.size W W'):LdS w0 G k b bn s i f c x W':=⟨h.box.below hb,bel_both h.bel hb,h.old⟩
theorem LdS.al {w0 W:World}{G:Nat}{k:Int}{b:Value}{bn:Int}{s i f c x:Value} (h:LdS w0 G k b bn s i f c x W) (o:Obj):LdS w0 G k b bn s i f c x (W.alloc o):=h.step (bel1 W o)
theorem LdS.dr {w0 W:World}{G:Nat}{k:Int}{b:Value}{bn:Int}{s i f c x:Value} (h:LdS w0 G k b bn s i f c x W):LdS w0 G k b bn s i f c x W.drew:=h.step (Below.refl _ W).drew
theorem LdS.put {w0 W:World}{G:Nat}{k:Int}{b:Value}{bn:Int}{s i f c x:Value} (h:LdS w0 G k b bn s i f c x W){g j:Nat} (ha:w0.heap.size<=g) (u:Value):LdS w0 G k b bn s i f c x (W.setCell ⟨g,j,none⟩ u) :=
 ⟨h.box.set (by show g≠_;have:=h.old;omega) u,h.bel.setCell (by show _<=g;omega) u,h.old⟩
theorem LdS.put8 {w0 W:World}{G:Nat}{k:Int}{b:Value}{bn:Int}{s i f c x:Value} (h:LdS w0 G k b bn s i f c x W){g:Nat} (ha:w0.heap.size<=g) (a0 a1 a2 a3 a4 a5 a6 a7:Value):LdS w0 G k b bn s i f c x (set8 W g a0 a1 a2 a3 a4 a5 a6 a7) :=
 (((((((h.put ha _).put ha _).put ha _).put ha _).put ha _).put ha _).put ha _).put ha _
theorem LdS.self {w0 W:World}{G:Nat}{k:Int}{b:Value}{bn:Int}{s i f c x:Value} (h:LdS w0 G k b bn s i f c x W):LdS w0 G k b bn s i f c x W:=h
theorem LdS.sz {w0 W:World}{G:Nat}{k:Int}{b:Value}{bn:Int}{s i f c x:Value} (h:LdS w0 G k b bn s i f c x W):w0.heap.size<=W.heap.size:=h.bel.size
theorem lt_al (w1:World) (o:Obj):w1.heap.size < (w1.alloc o).heap.size:=by simp
theorem lt_dr (w1:World) (o:Obj):w1.heap.size < (w1.alloc o).drew.heap.size:=by simp [World.drew]
structure V8 where
 k:Int
 b:Sl
 bn:Int
 s:Sl
 i:Sl
 f:Sl
 c:Sl
 x:Sl
abbrev V8.v (p:V8):Value:=vecW p.k p.b p.bn p.s p.i p.f p.c p.x
abbrev BoxP (W:World) (G:Nat) (p:V8):Prop:=Boxed W G p.k (.slice p.b.1 p.b.2.1 p.b.2.2) p.bn (.slice p.s.1 p.s.2.1 p.s.2.2) (.slice p.i.1 p.i.2.1 p.i.2.2) (.slice p.f.1 p.f.2.1 p.f.2.2) (.slice p.c.1 p.c.2.1 p.c.2.2) (.slice p.x.1 p.x.2.1 p.x.2.2)
abbrev V8.o (p:V8):Obj := .cells #[.int .i64 p.k,.slice p.b.1 p.b.2.1 p.b.2.2,.int .i64 p.bn,.slice p.s.1 p.s.2.1 p.s.2.2,.slice p.i.1 p.i.2.1 p.i.2.2,.slice p.f.1 p.f.2.1 p.f.2.2,.slice p.c.1 p.c.2.1 p.c.2.2,.slice p.x.1 p.x.2.1 p.x.2.2] 57
theorem boxP_new (w:World) (p:V8):BoxP (w.alloc p.o) w.heap.size p:=boxed_new w 57 _ _ _ _ _ _ _ _
structure St2 (w W:World) (p q:V8):Prop where
 one:BoxP W w.heap.size p
 two:BoxP W (w.heap.size+1) q
 res:W.heap[w.heap.size+2]?=some (.cells zcells 57)
 bel:Below w.heap.size w W
theorem St2.step {w W W':World}{p q:V8} (h:St2 w W p q) (hb:Below W.heap.size W W'):St2 w W' p q :=
 ⟨h.one.below hb,h.two.below hb,by rw [hb.block _ (boxed_of h.res).1.lt];exact h.res,bel_both h.bel hb⟩
theorem St2.new (w:World) (p q:V8):St2 w (((w.alloc p.o).alloc q.o).alloc (.cells zcells 57)) p q:=by
 have h1:=boxP_new w p
 have h2:=boxP_new (w.alloc p.o) q
 have h3:=heap_alloc_new ((w.alloc p.o).alloc q.o) (.cells zcells 57)
 have e1:(w.alloc p.o).heap.size=w.heap.size+1:=by simp
 have e2:((w.alloc p.o).alloc q.o).heap.size=w.heap.size+2:=by simp
 rw [e1] at h2
 rw [e2] at h3
 exact ⟨(h1.below (bel1 _ _)).below (bel1 _ _),h2.below (bel1 _ _),h3,bel_both (bel2 w _ _) (bel1 _ _)⟩
theorem St2.al {w W:World}{p q:V8} (h:St2 w W p q) (o:Obj):St2 w (W.alloc o) p q:=h.step (bel1 W o)
theorem St2.dr {w W:World}{p q:V8} (h:St2 w W p q):St2 w W.drew p q:=h.step (Below.refl _ W).drew
theorem St2.put {w W:World}{p q:V8} (h:St2 w W p q){g j:Nat} (ha:w.heap.size+3<=g) (u:Value):St2 w (W.setCell ⟨g,j,none⟩ u) p q :=
 ⟨h.one.set (by show g≠_;omega) u,h.two.set (by show g≠_;omega) u,by rw [Below.heap_setCell _ _ _ _ (by show _≠g;omega)];exact h.res,h.bel.setCell (by show _<=g;omega) u⟩
theorem St2.sz {w W:World}{p q:V8} (h:St2 w W p q):w.heap.size+3<=W.heap.size:=(boxed_of h.res).1.lt
theorem St2.self {w W:World}{p q:V8} (h:St2 w W p q):St2 w W p q:=h
theorem St2.more {w W W':World}{p q:V8} (h:St2 w W p q) (hb:Below (w.heap.size+3) W W'):St2 w W' p q :=
 ⟨h.one.of fun j=>hb.cell (p:=⟨w.heap.size,j,none⟩) (by show w.heap.size < _;omega),h.two.of fun j=>hb.cell (p:=⟨w.heap.size+1,j,none⟩) (by show w.heap.size+1 < _;omega),by rw [hb.block _ (by omega)];exact h.res,h.bel.trans (hb.mono (by omega))⟩
def ixP (m i:Nat):Nat:=if m=1 then 0 else i
inductive PA where
 | nums (s:List Nat) (l:List Nat)
 | chars (s:List Nat) (l:List Int)
 | boxes (s:List Nat) (l:List PA)
instance:Inhabited PA:=⟨.nums [] []⟩
def PA.shape:PA->List Nat
 | .nums s _=>s | .chars s _=>s | .boxes s _=>s
def PA.len:PA->Nat
 | .nums _ l=>l.length | .chars _ l=>l.length | .boxes _ l=>l.length
def PA.fill:PA->Nat
 | .nums _ _=>0 | .chars _ _=>1 | .boxes _ _=>2
abbrev sv (h:Sl):Value := .slice h.1 h.2.1 h.2.2
abbrev nilS:Sl:=(none,0,0)
abbrev RdH (H:Nat->Prop) (w:World) (v:Value) (xs:List Value):Prop:=Keeps H w fun W=>Reads1 W v xs
structure Lat (H:Nat->Prop) (w w':World):Prop where
 size:w.heap.size<=w'.heap.size
 block:∀ b,b < w.heap.size->¬ H b->w'.heap[b]?=w.heap[b]?
theorem Lat.below {H:Nat->Prop}{w w':World} (h:Below w.heap.size w w'):Lat H w w':=⟨h.size,fun b hb _=>h.block b hb⟩
theorem Lat.set {H:Nat->Prop}{w:World}{a:Addr} (ha:H a.block) (u:Value):Lat H w (w.setCell a u) :=
 ⟨by rw [size_setCell'];exact Nat.le_refl _,fun b _ hn=>Below.heap_setCell _ _ _ _ (fun e=>hn (by rw [e];exact ha))⟩
theorem Lat.trans {H:Nat->Prop}{a b c:World} (h:Lat H a b) (k:Lat H b c):Lat H a c :=
 ⟨Nat.le_trans h.size k.size,fun x hx hn=>by rw [k.block x (Nat.lt_of_lt_of_le hx h.size) hn,h.block x hx hn]⟩
theorem Keeps.lat {H:Nat->Prop}{w w':World}{R:World->Prop} (h:Keeps H w R) (g:Lat H w w'):Keeps H w' R :=
 fun W hz hb=>h W (Nat.le_trans g.size hz) fun b hl hn=>by rw [hb b (Nat.lt_of_lt_of_le hl g.size) hn,g.block b hl hn]
theorem RdH.len {H:Nat->Prop}{w:World}{v:Value}{xs:List Value} (h:RdH H w v xs):∃ a c,v= .slice a xs.length c:=Reads1.len h.now
abbrev ShV (H:Nat->Prop) (w:World) (h:Sl) (s:List Nat):Prop:=RdH H w (sv h) (s.map fun n:Nat => .int .i64 (n:Int))
theorem ShV.len {H:Nat->Prop}{w:World}{h:Sl}{s:List Nat} (g:ShV H w h s):h.2.1=s.length:=by
 obtain ⟨a,c,e⟩:=RdH.len g
 unfold sv at e
 injection e with _ e _
 simpa using e
theorem shV_nil (H:Nat->Prop) (w:World):ShV H w nilS []:=fun _ _ _ => .inl ⟨none,0,rfl,rfl⟩
structure NumS (H:Nat->Prop) (w:World) (p:V8) (l:List Nat):Prop where
 num:Keeps H w (NumV p.v p.k l.length (fun j=>l.getD j 0))
 least:p.k=(leastF (fun j=>l.getD j 0) l.length:Nat)
abbrev zbP:V8:=⟨1,nilS,0,nilS,nilS,nilS,nilS,nilS⟩
def NumA (H:Nat->Prop) (w:World) (p:V8) (l:List Nat):Prop:=NumS H w p l\/(l=[]/\p=zbP)
theorem NumA.lat {H:Nat->Prop}{w w':World}{p:V8}{l:List Nat} (g:NumA H w p l) (k:Lat H w w'):NumA H w' p l:=by
 rcases g with g | g
 ·exact .inl ⟨g.num.lat k,g.least⟩
 ·exact .inr g
theorem NumA.sub {H H':Nat->Prop}{w:World}{p:V8}{l:List Nat} (g:NumA H w p l) (hs:∀ j,j < w.heap.size->H' j->H j):NumA H' w p l:=by
 rcases g with g | g
 ·exact .inl ⟨g.num.sub hs,g.least⟩
 ·exact .inr g
abbrev charsP (c:Sl):V8:=⟨5,nilS,0,nilS,nilS,nilS,c,nilS⟩
abbrev boxesP (x:Sl):V8:=⟨6,nilS,0,nilS,nilS,nilS,nilS,x⟩
abbrev zeroP:V8:=⟨0,nilS,0,nilS,nilS,nilS,nilS,nilS⟩
abbrev arrL (h:Sl) (p:V8):List Value:=[sv h,.int .i64 p.k,sv p.b,.int .i64 p.bn,sv p.s,sv p.i,sv p.f,sv p.c,sv p.x]
abbrev arrV (h:Sl) (p:V8):Value := .agg #[sv h,.int .i64 p.k,sv p.b,.int .i64 p.bn,sv p.s,sv p.i,sv p.f,sv p.c,sv p.x]
def At9 (w:World) (b o:Nat) (h:Sl) (p:V8):Prop :=
 w.cell? ⟨b,o,none⟩=some (sv h)/\w.cell? ⟨b,o+1,none⟩=some (.int .i64 p.k)/\w.cell? ⟨b,o+2,none⟩=some (sv p.b)/\w.cell? ⟨b,o+3,none⟩=some (.int .i64 p.bn)/\w.cell? ⟨b,o+4,none⟩=some (sv p.s) /\
  w.cell? ⟨b,o+5,none⟩=some (sv p.i)/\w.cell? ⟨b,o+6,none⟩=some (sv p.f)/\w.cell? ⟨b,o+7,none⟩=some (sv p.c)/\w.cell? ⟨b,o+8,none⟩=some (sv p.x)
theorem At9.of {w w':World}{b o:Nat}{h:Sl}{p:V8} (g:At9 w b o h p) (e:∀ j,w'.cell? ⟨b,j,none⟩=w.cell? ⟨b,j,none⟩):At9 w' b o h p:=by
 unfold At9
 rw [e,e,e,e,e,e,e,e,e]
 exact g
theorem At9.lt {w:World}{b o:Nat}{h:Sl}{p:V8} (g:At9 w b o h p):b < w.heap.size:=cell_lt g.1
theorem At9.below {w w':World}{b o:Nat}{h:Sl}{p:V8} (g:At9 w b o h p) (hb:Below w.heap.size w w'):At9 w' b o h p:=g.of fun _=>hb.cell g.lt
theorem At9.lat {H:Nat->Prop}{w w':World}{b o:Nat}{h:Sl}{p:V8} (g:At9 w b o h p) (hn:¬ H b) (k:Lat H w w'):At9 w' b o h p:=g.of fun _=>World.cell?_of_block (w:=w) (k.block b g.lt hn)
mutual
def AV (H:Nat->Prop) (w:World):PA->Sl->V8->Prop
 | .nums s l,h,p=>ShV H w h s/\NumA H w p l
 | .chars s l,h,p=>ShV H w h s/\∃ c,p=charsP c/\RdH H w (sv c) (l.map (Value.int .i32))
 | .boxes s l,h,p=>ShV H w h s/\∃ x,p=boxesP x/\x.2.1=l.length/\((l=[]/\True)\/∃ b o,x.1=some ⟨b,o,none⟩/\¬ H b/\AVs H w b o l)
def AVs (H:Nat->Prop) (w:World) (b:Nat):Nat->List PA->Prop
 | _,[]=>True
 | o,a::ar=>(∃ h p,At9 w b o h p/\AV H w a h p)/\AVs H w b (o+9) ar
end
mutual
theorem AV.lat {H:Nat->Prop}{w w':World} (k:Lat H w w'):∀ {a:PA}{h:Sl}{p:V8},AV H w a h p->AV H w' a h p
 | .nums s l,h,p,g=>by
  rw [AV] at g ⊢
  exact ⟨g.1.lat k,g.2.lat k⟩
 | .chars s l,h,p,g=>by
  rw [AV] at g ⊢
  obtain ⟨g1,c,g2,g3⟩:=g
  exact ⟨g1.lat k,c,g2,g3.lat k⟩
 | .boxes s l,h,p,g=>by
  rw [AV] at g ⊢
  obtain ⟨g1,x,g2,g3,g4⟩:=g
  refine ⟨g1.lat k,x,g2,g3,?_⟩
  rcases g4 with g4 | ⟨b,o,g5,hn,g6⟩
  ·exact .inl g4
  ·exact .inr ⟨b,o,g5,hn,AVs.lat k hn g6⟩
theorem AVs.lat {H:Nat->Prop}{w w':World} (k:Lat H w w'){b:Nat} (hn:¬ H b):∀ {o:Nat}{l:List PA},AVs H w b o l->AVs H w' b o l
 | _,[],_=>by rw [AVs];trivial
 | o,a::ar,g=>by
  rw [AVs] at g ⊢
  obtain ⟨⟨h,p,g1,g2⟩,g3⟩:=g
  exact ⟨⟨h,p,g1.lat hn k,AV.lat k g2⟩,AVs.lat k hn g3⟩
end
theorem AV.step {H:Nat->Prop}{w w':World}{a:PA}{h:Sl}{p:V8} (g:AV H w a h p) (hb:Below w.heap.size w w'):AV H w' a h p:=AV.lat (Lat.below hb) g
mutual
theorem AV.sub {H H':Nat->Prop}{w:World} (hs:∀ b,b < w.heap.size->H' b->H b):∀ {a:PA}{h:Sl}{p:V8},AV H w a h p->AV H' w a h p
 | .nums s l,h,p,g=>by
  rw [AV] at g ⊢
  exact ⟨g.1.sub hs,g.2.sub hs⟩
 | .chars s l,h,p,g=>by
  rw [AV] at g ⊢
  obtain ⟨g1,c,g2,g3⟩:=g
  exact ⟨g1.sub hs,c,g2,g3.sub hs⟩
 | .boxes s l,h,p,g=>by
  rw [AV] at g ⊢
  obtain ⟨g1,x,g2,g3,g4⟩:=g
  refine ⟨g1.sub hs,x,g2,g3,?_⟩
  rcases g4 with g4 | ⟨b,o,g5,hn,g6⟩
  ·exact .inl g4
  ·cases l with
   | nil=>exact .inl ⟨rfl,trivial⟩
   | cons a ar =>
    have hl:b < w.heap.size:=by rw [AVs] at g6;obtain ⟨⟨_,_,h9,_⟩,_⟩:=g6;exact h9.lt
    exact .inr ⟨b,o,g5,fun e=>hn (hs b hl e),AVs.sub hs g6⟩
theorem AVs.sub {H H':Nat->Prop}{w:World} (hs:∀ b,b < w.heap.size->H' b->H b){b:Nat}:∀ {o:Nat}{l:List PA},AVs H w b o l->AVs H' w b o l
 | _,[],_=>by rw [AVs];trivial
 | o,a::ar,g=>by
  rw [AVs] at g ⊢
  obtain ⟨⟨h,p,g1,g2⟩,g3⟩:=g
  exact ⟨⟨h,p,g1,AV.sub hs g2⟩,AVs.sub hs g3⟩
end
theorem AV.arg {H:Nat->Prop}{w W:World}{a:PA}{h:Sl}{p:V8} (g:AV H w a h p) (hb:Below w.heap.size w W):AV (Hole H w W) W a h p:=by
 have g2:AV (Hole H w W) w a h p:=AV.sub (fun b hl e=>by
  rcases e with e | ⟨e,_⟩
  ·exact e
  ·omega) g
 exact AV.lat (Lat.below hb) g2
theorem AVs.at_ {H:Nat->Prop}{w:World}{b:Nat}:∀ {l:List PA}{o i:Nat} (hi:i < l.length),AVs H w b o l->∃ h p,At9 w b (o+i*9) h p/\AV H w l[i] h p
 | [],_,_,hi,_=>by simp at hi
 | a::ar,o,0,_,g=>by
  rw [AVs] at g
  simpa using g.1
 | a::ar,o,i+1,hi,g=>by
  rw [AVs] at g
  have:=AVs.at_ (l:=ar) (o:=o+9) (i:=i) (by simpa using hi) g.2
  have e:o+9+i*9=o+(i+1)*9:=by omega
  rw [e] at this
  simpa using this
theorem avs_of {H:Nat->Prop}{w:World}{b:Nat}:∀ (l:List PA) (o:Nat),(∀ i (h:i < l.length),∃ h p,At9 w b (o+i*9) h p/\AV H w l[i] h p)->AVs H w b o l
 | [],_,_=>by rw [AVs];trivial
 | a::ar,o,g=>by
  rw [AVs]
  refine ⟨?_,avs_of ar (o+9) fun i hi=>?_⟩
  ·have:=g 0 (by simp);simpa using this
  ·have:=g (i+1) (by simpa using hi)
   have e:o+(i+1)*9=o+9+i*9:=by omega
   rw [e] at this
   simpa using this
theorem AV.shape {H:Nat->Prop}{w:World}{a:PA}{h:Sl}{p:V8} (g:AV H w a h p):ShV H w h a.shape:=by
 cases a <;> (rw [AV] at g;exact g.1)
theorem AV.nums {H:Nat->Prop}{w:World}{s:List Nat}{l:List Nat}{h:Sl}{p:V8} (g:AV H w (.nums s l) h p):NumA H w p l:=by rw [AV] at g;exact g.2
theorem AV.chars {H:Nat->Prop}{w:World}{s:List Nat}{l:List Int}{h:Sl}{p:V8} (g:AV H w (.chars s l) h p):∃ c,p=charsP c/\RdH H w (sv c) (l.map (Value.int .i32)):=by rw [AV] at g;exact g.2
theorem AV.boxes {H:Nat->Prop}{w:World}{s:List Nat}{l:List PA}{h:Sl}{p:V8} (g:AV H w (.boxes s l) h p) :
  ∃ A n c,p=boxesP (A,n,c)/\n=l.length/\∀ i (hi:i < l.length),∃ b o h p,A=some ⟨b,o,none⟩/\¬ H b/\AV H w l[i] h p/\∀ w1,Lat H w w1->At9 w1 b (o+i*9) h p:=by
 rw [AV] at g
 obtain ⟨_,⟨A,n,c⟩,rfl,hn,g4⟩:=g
 refine ⟨A,n,c,rfl,hn,fun i hi=>?_⟩
 rcases g4 with ⟨rfl,_⟩ | ⟨b,o,g5,hb,g6⟩
 ·simp at hi
 ·obtain ⟨h,p,g7,g8⟩:=AVs.at_ hi g6
  exact ⟨b,o,h,p,g5,hb,g8,fun w1 k=>g7.lat hb k⟩
end Go.Proofs.YtbakjaliponbbaaGreatDoor
