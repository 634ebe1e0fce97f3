/- Plain law of powers by repeated squares: no product of a zero and an infinity ever comes up. fold.Fold and the reference's Fold at numbers: both tell the same, .. Conditions: as each theorem says. -/
import Derived.Test.YtbakjaliponbbaaGreatDoorMg08
import Derived.Test.YtbakjaliponbbaaGreatDoorMg02
import Derived.Laws.MakeOwn
import Derived.Test.YtbakjaliponbbaaGreatDoorMg00
namespace Go.Proofs.YtbakjaliponbbaaGreatDoor
open Go Go.RowKit Go.Proofs Fl Ieee
def BigR (b:Nat):Prop:=∃ s r,1023*4503599627370496<=r/\r<=9218868437227405312/\b=double.word s r
def LowR (b:Nat):Prop:=∃ s r,r<=1023*4503599627370496/\b=double.word s r
theorem word_lt {s:Bool}{r:Nat} (h:r<=9218868437227405312):double.word s r < 18446744073709551616:=by
 show (if s then double.signWeight+r else r) < _
 rw [signWeight]
 split <;> omega
theorem BigR.lt {b:Nat} (h:BigR b):b < 18446744073709551616:=by
 obtain ⟨s,r,_,h2,rfl⟩:=h
 exact word_lt h2
theorem LowR.lt {b:Nat} (h:LowR b):b < 18446744073709551616:=by
 obtain ⟨s,r,h2,rfl⟩:=h
 exact word_lt (by omega)
theorem BigR.read {b:Nat} (h:BigR b):(∃ s,double.read b= .infinity s)\/∃ s m i,double.read b= .number s m i/\m≠0/\0<=(m.log2:Int)+i:=by
 obtain ⟨s,r,h1,h2,rfl⟩:=h
 by_cases e:r=9218868437227405312
 ·subst e
  exact .inl ⟨s,read_inf s⟩
 ·have hr:r < 9218868437227405312:=by omega
  refine .inr ⟨s,_,_,read_word s hr,?_,?_⟩
  ·unfold mg
   rw [if_neg (by omega)]
   omega
  ·have hm:52<=(mg r).log2:=le_log2_of (by unfold mg;rw [if_neg (by omega)];omega)
   have he:1022<=ex r:=by unfold ex;rw [if_neg (by omega)];omega
   omega
theorem LowR.read {b:Nat} (h:LowR b):∃ s m q,double.read b= .number s m (-(q:Nat))/\m<=2 ^ q:=by
 obtain ⟨s,r,h1,rfl⟩:=h
 have hr:r < 9218868437227405312:=by omega
 have he:ex r<=1022:=by unfold ex;split <;> omega
 have e0:(-1074+(ex r:Int))=-((1074 - ex r:Nat):Int):=by omega
 refine ⟨s,mg r,1074 - ex r,by rw [read_word s hr,e0],?_⟩
 by_cases h52:ex r=1022
 ·rw [h52]
  have:mg r=2 ^ 52:=by
   unfold ex at h52
   unfold mg
   split at h52
   ·omega
   ·rw [if_neg (by omega)];omega
  rw [this]
  exact Nat.le_refl _
 ·have h1:=mg_lt r
  have h2:2 ^ 53<=2 ^ (1074 - ex r):=Nat.pow_le_pow_right (by decide) (by omega)
  omega
theorem log2_mul_ge {m n:Nat} (hm:m≠0) (hn:n≠0):m.log2+n.log2<=(m*n).log2:=by
 apply le_log2_of
 rw [Nat.pow_add]
 exact Nat.mul_le_mul (Nat.log2_self_le hm) (Nat.log2_self_le hn)
theorem rhe_ge (n d:Nat):n / 2^d<=rhe n d:=by unfold rhe;omega
theorem nearest_big (s:Bool){m:Nat}{i:Int} (hm:m≠0) (h:0<=(m.log2:Int)+i):BigR (double.nearest s m i):=by
 rw [nearest_eq s hm]
 have e1:max (i+(m.log2:Int) - 52) (-1074)=i+m.log2 - 52:=by omega
 rw [e1]
 generalize hL:i+(m.log2:Int) - 52=L
 have hl:-52<=L:=by omega
 have h2:2 ^ 52<=rhe (m*2 ^ (i - L).toNat) (L - i).toNat:=by
  refine Nat.le_trans ?_ (rhe_ge _ _)
  rw [Nat.le_div_iff_mul_le (Nat.two_pow_pos _),<- Nat.pow_add]
  have h3:2 ^ (m.log2+(i - L).toNat)<=m*2 ^ (i - L).toNat:=by
   rw [Nat.pow_add];exact Nat.mul_le_mul_right _ (Nat.log2_self_le hm)
  refine Nat.le_trans (Nat.pow_le_pow_right (by decide) ?_) h3
  omega
 have h4:1022<=(L+1074).toNat:=by omega
 have h5:1022*4503599627370496<=(L+1074).toNat*4503599627370496:=Nat.mul_le_mul_right _ h4
 refine ⟨s,_,?_,Nat.min_le_right _ _,rfl⟩
 rw [Nat.le_min]
 exact ⟨by omega,by omega⟩
theorem rhe_le' {n d B:Nat} (h:n<=B*2 ^ d):rhe n d<=B:=by
 have hp:=Nat.two_pow_pos d
 by_cases e:n=B*2 ^ d
 ·rw [e,rhe_exact];exact Nat.le_refl _
 ·have h1:n / 2 ^ d < B:=(Nat.div_lt_iff_lt_mul hp).2 (by omega)
  have h2:rhe n d<=n / 2 ^ d+1:=by
   unfold rhe
   have:∀ b:Bool,b.toNat<=1:=by intro b;cases b <;> decide
   have:=this (decide (2^d < 2*(n % 2^d))||(2^d==2*(n % 2^d)&&(n / 2^d) % 2==1))
   omega
  omega
theorem nearest_zero (s:Bool) (i:Int):double.nearest s 0 i=double.word s 0:=by simp [Format.nearest]
theorem nearest_low (s:Bool){m q:Nat} (h:m<=2 ^ q):LowR (double.nearest s m (-(q:Nat))):=by
 by_cases hm:m=0
 ·subst hm
  exact ⟨s,0,by omega,nearest_zero s _⟩
 by_cases e:m=2 ^ q
 ·have h1:=nearest_shift s 1 q (-(q:Nat))
  rw [Nat.one_mul,show -(q:Int)+(q:Nat)=0 by omega] at h1
  rw [e,h1]
  exact ⟨s,1023*4503599627370496,Nat.le_refl _,by cases s <;> decide⟩
 ·have hlt:m < 2 ^ q:=by omega
  have hq:1<=q:=by
   rcases Nat.eq_zero_or_pos q with h0 | h0
   ·subst h0;simp at hlt;omega
   ·exact h0
  have hl:m.log2<=q - 1:=log2_lt_of (by rw [Nat.sub_add_cancel hq];exact hlt)
  rw [nearest_eq s hm]
  generalize hL:max (-(q:Nat)+(m.log2:Int) - 52) (-1074)=L
  have hm2:m < 2 ^ (m.log2+1):=Nat.lt_log2_self
  have h1:rhe (m*2 ^ (-(q:Nat) - L).toNat) (L - -(q:Nat)).toNat<=2 ^ (m.log2+1+(-(q:Nat) - L).toNat - (L - -(q:Nat)).toNat):=by
   apply rhe_le'
   rw [<- Nat.pow_add]
   have h3:m*2 ^ (-(q:Nat) - L).toNat<=2 ^ (m.log2+1+(-(q:Nat) - L).toNat):=by
    rw [Nat.pow_add];exact Nat.mul_le_mul_right _ (Nat.le_of_lt hm2)
   exact Nat.le_trans h3 (Nat.pow_le_pow_right (by decide) (by omega))
  refine ⟨s,_,?_,rfl⟩
  refine Nat.le_trans (Nat.min_le_left _ _) ?_
  by_cases hc:-1074<=-(q:Nat)+(m.log2:Int) - 52
  ·have e2:m.log2+1+(-(q:Nat) - L).toNat - (L - -(q:Nat)).toNat=53:=by omega
   rw [e2] at h1
   have h4:(L+1074).toNat<=1021:=by omega
   have h5:(L+1074).toNat*4503599627370496<=1021*4503599627370496:=Nat.mul_le_mul_right _ h4
   rw [show (2:Nat) ^ 53=9007199254740992 from rfl] at h1
   exact Nat.le_trans (Nat.add_le_add h5 h1) (by decide)
  ·have e3:L=-1074:=by omega
   subst e3
   have e2:m.log2+1+(-(q:Nat) - (-1074:Int)).toNat - ((-1074:Int) - -(q:Nat)).toNat<=52:=by omega
   have h6:=Nat.le_trans h1 (Nat.pow_le_pow_right (by decide) e2)
   have e4:((-1074:Int)+1074).toNat=0:=by decide
   rw [e4,Nat.zero_mul,Nat.zero_add]
   exact Nat.le_trans h6 (by decide)
theorem big_mul {a b:Nat} (ha:BigR a) (hb:BigR b):∃ c,floatBits .mul .f64 a b=some c/\BigR c:=by
 show ∃ c,((double.read a).product (double.read b)).map double.write=some c/\BigR c
 have hi:∀ s,BigR (double.write (.infinity s)):=fun s=>⟨s,9218868437227405312,by decide,Nat.le_refl _,by cases s <;> decide⟩
 rcases ha.read with ⟨s,h1⟩ | ⟨s,m,i,h1,hm,h2⟩ <;> rcases hb.read with ⟨t,h3⟩ | ⟨t,n,j,h3,hn,h4⟩ <;> rw [h1,h3]
 ·exact ⟨_,rfl,hi _⟩
 ·refine ⟨_,by unfold Datum.product;dsimp only;rw [if_neg hn];rfl,hi _⟩
 ·refine ⟨_,by unfold Datum.product;dsimp only;rw [if_neg hm];rfl,hi _⟩
 ·refine ⟨_,rfl,nearest_big _ (Nat.mul_ne_zero hm hn) ?_⟩
  have:=log2_mul_ge hm hn
  omega
theorem low_mul {a b:Nat} (ha:LowR a) (hb:LowR b):∃ c,floatBits .mul .f64 a b=some c/\LowR c:=by
 show ∃ c,((double.read a).product (double.read b)).map double.write=some c/\LowR c
 obtain ⟨s,m,p,h1,h2⟩:=ha.read
 obtain ⟨t,n,q,h3,h4⟩:=hb.read
 rw [h1,h3]
 refine ⟨_,rfl,?_⟩
 show LowR (double.nearest (s ^^ t) (m*n) (-(p:Nat)+-(q:Nat)))
 have e:-(p:Int)+-(q:Nat)=-((p+q:Nat):Int):=by omega
 rw [e]
 exact nearest_low _ (by rw [Nat.pow_add];exact Nat.mul_le_mul h2 h4)
def Cl (t:Bool) (b:Nat):Prop:=if t=true then BigR b else LowR b
theorem Cl.lt {t:Bool}{b:Nat} (h:Cl t b):b < 18446744073709551616:=by
 cases t
 ·exact LowR.lt h
 ·exact BigR.lt h
theorem Cl.mul {t:Bool}{a b:Nat} (ha:Cl t a) (hb:Cl t b):floatBits .mul .f64 a b=some (opB .mul a b)/\Cl t (opB .mul a b):=by
 cases t
 ·obtain ⟨c,h1,h2⟩:=low_mul ha hb
  have e:opB .mul a b=c:=by unfold opB;rw [h1];rfl
  rw [e]
  exact ⟨h1,h2⟩
 ·obtain ⟨c,h1,h2⟩:=big_mul ha hb
  have e:opB .mul a b=c:=by unfold opB;rw [h1];rfl
  rw [e]
  exact ⟨h1,h2⟩
end Go.Proofs.YtbakjaliponbbaaGreatDoor
namespace Go.Proofs.YtbakjaliponbbaaGreatDoor
open Go Go.RowKit Go.Proofs Fl
structure NumW (v:Value) (n:Nat) (F:Nat->Nat) (w:World):Prop where
 cls:Calls Tryz.prog 135 #[v] w fun e w2=>e= .returned (.int .i64 0)/\Below w.heap.size w w2
 len:Calls Tryz.prog 48 #[v] w fun e w2=>e= .returned (.int .i64 n)/\Below w.heap.size w w2
 num:∀ j,j < n->Calls Tryz.prog 138 #[v,.int .i64 (j:Nat)] w fun e w2=>e= .returned (.float .f64 (F j))/\Below w.heap.size w w2
theorem NumW.of {v:Value}{n:Nat}{F:Nat->Nat}{w:World}{H:Nat->Prop} (h:Keeps H w (NumW v n F)):NumsOf w v n F :=
 ⟨fun _ hb=>(h.step hb).now.cls,fun _ hb=>(h.step hb).now.len,fun _ hb j hj=>(h.step hb).now.num j hj⟩
structure LdS (w0:World) (G:Nat) (k:Int) (b:Value) (bn:Int) (s i f c x:Value) (W:World):Prop where
 box:Boxed W G k b bn s i f c x
 bel:Below w0.heap.size w0 W
 old:G < w0.heap.size
theorem LdS.new {w0:World}{G:Nat}{k:Int}{b:Value}{bn:Int}{s i f c x:Value} (h:Boxed w0 G k b bn s i f c x):LdS w0 G k b bn s i f c x w0:=⟨h,Below.refl _ _,h.lt⟩
theorem LdS.step {w0 W W':World}{G:Nat}{k:Int}{b:Value}{bn:Int}{s i f c x:Value} (h:LdS w0 G k b bn s i f c x W) (hb:Below W.heap.size W W'):LdS w0 G k b bn s i f c x W':=⟨h.box.below hb,bel_both h.bel hb,h.old⟩
theorem LdS.put {w0 W:World}{G:Nat}{k:Int}{b:Value}{bn:Int}{s i f c x:Value} (h:LdS w0 G k b bn s i f c x W){g j:Nat} (ha:w0.heap.size<=g) (u:Value):LdS w0 G k b bn s i f c x (W.setCell ⟨g,j,none⟩ u) :=
 ⟨h.box.set (by show g≠_;have:=h.old;omega) u,h.bel.setCell (by show _<=g;omega) u,h.old⟩
theorem LdS.sz {w0 W:World}{G:Nat}{k:Int}{b:Value}{bn:Int}{s i f c x:Value} (h:LdS w0 G k b bn s i f c x W):w0.heap.size<=W.heap.size:=h.bel.size
structure V8 where
 k:Int
 b:Sl
 bn:Int
 s:Sl
 i:Sl
 f:Sl
 c:Sl
 x:Sl
abbrev V8.v (p:V8):Value:=vecW p.k p.b p.bn p.s p.i p.f p.c p.x
abbrev BoxP (W:World) (G:Nat) (p:V8):Prop:=Boxed W G p.k (.slice p.b.1 p.b.2.1 p.b.2.2) p.bn (.slice p.s.1 p.s.2.1 p.s.2.2) (.slice p.i.1 p.i.2.1 p.i.2.2) (.slice p.f.1 p.f.2.1 p.f.2.2) (.slice p.c.1 p.c.2.1 p.c.2.2) (.slice p.x.1 p.x.2.1 p.x.2.2)
abbrev V8.o (p:V8):Obj := .cells #[.int .i64 p.k,.slice p.b.1 p.b.2.1 p.b.2.2,.int .i64 p.bn,.slice p.s.1 p.s.2.1 p.s.2.2,.slice p.i.1 p.i.2.1 p.i.2.2,.slice p.f.1 p.f.2.1 p.f.2.2,.slice p.c.1 p.c.2.1 p.c.2.2,.slice p.x.1 p.x.2.1 p.x.2.2] 57
theorem boxP_new (w:World) (p:V8):BoxP (w.alloc p.o) w.heap.size p:=boxed_new w 57 _ _ _ _ _ _ _ _
structure St2 (w W:World) (p q:V8):Prop where
 one:BoxP W w.heap.size p
 two:BoxP W (w.heap.size+1) q
 res:W.heap[w.heap.size+2]?=some (.cells zcells 57)
 bel:Below w.heap.size w W
theorem St2.step {w W W':World}{p q:V8} (h:St2 w W p q) (hb:Below W.heap.size W W'):St2 w W' p q :=
 ⟨h.one.below hb,h.two.below hb,by rw [hb.block _ (boxed_of h.res).1.lt];exact h.res,bel_both h.bel hb⟩
theorem St2.new (w:World) (p q:V8):St2 w (((w.alloc p.o).alloc q.o).alloc (.cells zcells 57)) p q:=by
 have h1:=boxP_new w p
 have h2:=boxP_new (w.alloc p.o) q
 have h3:=heap_alloc_new ((w.alloc p.o).alloc q.o) (.cells zcells 57)
 have e1:(w.alloc p.o).heap.size=w.heap.size+1:=by simp
 have e2:((w.alloc p.o).alloc q.o).heap.size=w.heap.size+2:=by simp
 rw [e1] at h2
 rw [e2] at h3
 exact ⟨(h1.below (bel1 _ _)).below (bel1 _ _),h2.below (bel1 _ _),h3,bel_both (bel2 w _ _) (bel1 _ _)⟩
theorem St2.put {w W:World}{p q:V8} (h:St2 w W p q){g j:Nat} (ha:w.heap.size+3<=g) (u:Value):St2 w (W.setCell ⟨g,j,none⟩ u) p q :=
 ⟨h.one.set (by show g≠_;omega) u,h.two.set (by show g≠_;omega) u,by rw [Below.heap_setCell _ _ _ _ (by show _≠g;omega)];exact h.res,h.bel.setCell (by show _<=g;omega) u⟩
theorem St2.sz {w W:World}{p q:V8} (h:St2 w W p q):w.heap.size+3<=W.heap.size:=(boxed_of h.res).1.lt
theorem St2.more {w W W':World}{p q:V8} (h:St2 w W p q) (hb:Below (w.heap.size+3) W W'):St2 w W' p q :=
 ⟨h.one.of fun j=>hb.cell (p:=⟨w.heap.size,j,none⟩) (by show w.heap.size < _;omega),h.two.of fun j=>hb.cell (p:=⟨w.heap.size+1,j,none⟩) (by show w.heap.size+1 < _;omega),by rw [hb.block _ (by omega)];exact h.res,h.bel.trans (hb.mono (by omega))⟩
inductive PA where
 | nums (s:List Nat) (l:List Nat)
 | chars (s:List Nat) (l:List Int)
 | boxes (s:List Nat) (l:List PA)
instance:Inhabited PA:=⟨.nums [] []⟩
def PA.shape:PA->List Nat
 | .nums s _=>s | .chars s _=>s | .boxes s _=>s
def PA.len:PA->Nat
 | .nums _ l=>l.length | .chars _ l=>l.length | .boxes _ l=>l.length
def PA.fill:PA->Nat
 | .nums _ _=>0 | .chars _ _=>1 | .boxes _ _=>2
abbrev sv (h:Sl):Value := .slice h.1 h.2.1 h.2.2
abbrev nilS:Sl:=(none,0,0)
abbrev RdH (H:Nat->Prop) (w:World) (v:Value) (xs:List Value):Prop:=Keeps H w fun W=>Reads1 W v xs
structure Lat (H:Nat->Prop) (w w':World):Prop where
 size:w.heap.size<=w'.heap.size
 block:∀ b,b < w.heap.size->¬ H b->w'.heap[b]?=w.heap[b]?
theorem Lat.below {H:Nat->Prop}{w w':World} (h:Below w.heap.size w w'):Lat H w w':=⟨h.size,fun b hb _=>h.block b hb⟩
theorem Lat.set {H:Nat->Prop}{w:World}{a:Addr} (ha:H a.block) (u:Value):Lat H w (w.setCell a u) :=
 ⟨by rw [size_setCell'];exact Nat.le_refl _,fun b _ hn=>Below.heap_setCell _ _ _ _ (fun e=>hn (by rw [e];exact ha))⟩
theorem Lat.trans {H:Nat->Prop}{a b c:World} (h:Lat H a b) (k:Lat H b c):Lat H a c :=
 ⟨Nat.le_trans h.size k.size,fun x hx hn=>by rw [k.block x (Nat.lt_of_lt_of_le hx h.size) hn,h.block x hx hn]⟩
theorem Keeps.lat {H:Nat->Prop}{w w':World}{R:World->Prop} (h:Keeps H w R) (g:Lat H w w'):Keeps H w' R :=
 fun W hz hb=>h W (Nat.le_trans g.size hz) fun b hl hn=>by rw [hb b (Nat.lt_of_lt_of_le hl g.size) hn,g.block b hl hn]
theorem RdH.len {H:Nat->Prop}{w:World}{v:Value}{xs:List Value} (h:RdH H w v xs):∃ a c,v= .slice a xs.length c:=Reads1.len h.now
abbrev ShV (H:Nat->Prop) (w:World) (h:Sl) (s:List Nat):Prop:=RdH H w (sv h) (s.map fun n:Nat => .int .i64 (n:Int))
theorem ShV.len {H:Nat->Prop}{w:World}{h:Sl}{s:List Nat} (g:ShV H w h s):h.2.1=s.length:=by
 obtain ⟨a,c,e⟩:=RdH.len g
 unfold sv at e
 injection e with _ e _
 simpa using e
structure NumS (H:Nat->Prop) (w:World) (p:V8) (l:List Nat):Prop where
 num:Keeps H w (NumV p.v p.k l.length (fun j=>l.getD j 0))
 least:p.k=(leastF (fun j=>l.getD j 0) l.length:Nat)
abbrev zbP:V8:=⟨1,nilS,0,nilS,nilS,nilS,nilS,nilS⟩
def NumA (H:Nat->Prop) (w:World) (p:V8) (l:List Nat):Prop:=NumS H w p l\/(l=[]/\p=zbP)
theorem NumA.lat {H:Nat->Prop}{w w':World}{p:V8}{l:List Nat} (g:NumA H w p l) (k:Lat H w w'):NumA H w' p l:=by
 rcases g with g | g
 ·exact .inl ⟨g.num.lat k,g.least⟩
 ·exact .inr g
theorem NumA.sub {H H':Nat->Prop}{w:World}{p:V8}{l:List Nat} (g:NumA H w p l) (hs:∀ j,j < w.heap.size->H' j->H j):NumA H' w p l:=by
 rcases g with g | g
 ·exact .inl ⟨g.num.sub hs,g.least⟩
 ·exact .inr g
abbrev charsP (c:Sl):V8:=⟨5,nilS,0,nilS,nilS,nilS,c,nilS⟩
abbrev boxesP (x:Sl):V8:=⟨6,nilS,0,nilS,nilS,nilS,nilS,x⟩
abbrev zeroP:V8:=⟨0,nilS,0,nilS,nilS,nilS,nilS,nilS⟩
abbrev arrL (h:Sl) (p:V8):List Value:=[sv h,.int .i64 p.k,sv p.b,.int .i64 p.bn,sv p.s,sv p.i,sv p.f,sv p.c,sv p.x]
def At9 (w:World) (b o:Nat) (h:Sl) (p:V8):Prop :=
 w.cell? ⟨b,o,none⟩=some (sv h)/\w.cell? ⟨b,o+1,none⟩=some (.int .i64 p.k)/\w.cell? ⟨b,o+2,none⟩=some (sv p.b)/\w.cell? ⟨b,o+3,none⟩=some (.int .i64 p.bn)/\w.cell? ⟨b,o+4,none⟩=some (sv p.s) /\
  w.cell? ⟨b,o+5,none⟩=some (sv p.i)/\w.cell? ⟨b,o+6,none⟩=some (sv p.f)/\w.cell? ⟨b,o+7,none⟩=some (sv p.c)/\w.cell? ⟨b,o+8,none⟩=some (sv p.x)
theorem At9.of {w w':World}{b o:Nat}{h:Sl}{p:V8} (g:At9 w b o h p) (e:∀ j,w'.cell? ⟨b,j,none⟩=w.cell? ⟨b,j,none⟩):At9 w' b o h p:=by
 unfold At9
 rw [e,e,e,e,e,e,e,e,e]
 exact g
theorem At9.lt {w:World}{b o:Nat}{h:Sl}{p:V8} (g:At9 w b o h p):b < w.heap.size:=cell_lt g.1
theorem At9.below {w w':World}{b o:Nat}{h:Sl}{p:V8} (g:At9 w b o h p) (hb:Below w.heap.size w w'):At9 w' b o h p:=g.of fun _=>hb.cell g.lt
theorem At9.lat {H:Nat->Prop}{w w':World}{b o:Nat}{h:Sl}{p:V8} (g:At9 w b o h p) (hn:¬ H b) (k:Lat H w w'):At9 w' b o h p:=g.of fun _=>World.cell?_of_block (w:=w) (k.block b g.lt hn)
mutual
def AV (H:Nat->Prop) (w:World):PA->Sl->V8->Prop
 | .nums s l,h,p=>ShV H w h s/\NumA H w p l
 | .chars s l,h,p=>ShV H w h s/\∃ c,p=charsP c/\RdH H w (sv c) (l.map (Value.int .i32))
 | .boxes s l,h,p=>ShV H w h s/\∃ x,p=boxesP x/\x.2.1=l.length/\((l=[]/\True)\/∃ b o,x.1=some ⟨b,o,none⟩/\¬ H b/\AVs H w b o l)
def AVs (H:Nat->Prop) (w:World) (b:Nat):Nat->List PA->Prop
 | _,[]=>True
 | o,a::ar=>(∃ h p,At9 w b o h p/\AV H w a h p)/\AVs H w b (o+9) ar
end
mutual
theorem AV.lat {H:Nat->Prop}{w w':World} (k:Lat H w w'):∀ {a:PA}{h:Sl}{p:V8},AV H w a h p->AV H w' a h p
 | .nums s l,h,p,g=>by
  rw [AV] at g ⊢
  exact ⟨g.1.lat k,g.2.lat k⟩
 | .chars s l,h,p,g=>by
  rw [AV] at g ⊢
  obtain ⟨g1,c,g2,g3⟩:=g
  exact ⟨g1.lat k,c,g2,g3.lat k⟩
 | .boxes s l,h,p,g=>by
  rw [AV] at g ⊢
  obtain ⟨g1,x,g2,g3,g4⟩:=g
  refine ⟨g1.lat k,x,g2,g3,?_⟩
  rcases g4 with g4 | ⟨b,o,g5,hn,g6⟩
  ·exact .inl g4
  ·exact .inr ⟨b,o,g5,hn,AVs.lat k hn g6⟩
theorem AVs.lat {H:Nat->Prop}{w w':World} (k:Lat H w w'){b:Nat} (hn:¬ H b):∀ {o:Nat}{l:List PA},AVs H w b o l->AVs H w' b o l
 | _,[],_=>by rw [AVs];trivial
 | o,a::ar,g=>by
  rw [AVs] at g ⊢
  obtain ⟨⟨h,p,g1,g2⟩,g3⟩:=g
  exact ⟨⟨h,p,g1.lat hn k,AV.lat k g2⟩,AVs.lat k hn g3⟩
end
theorem AV.step {H:Nat->Prop}{w w':World}{a:PA}{h:Sl}{p:V8} (g:AV H w a h p) (hb:Below w.heap.size w w'):AV H w' a h p:=AV.lat (Lat.below hb) g
mutual
theorem AV.sub {H H':Nat->Prop}{w:World} (hs:∀ b,b < w.heap.size->H' b->H b):∀ {a:PA}{h:Sl}{p:V8},AV H w a h p->AV H' w a h p
 | .nums s l,h,p,g=>by
  rw [AV] at g ⊢
  exact ⟨g.1.sub hs,g.2.sub hs⟩
 | .chars s l,h,p,g=>by
  rw [AV] at g ⊢
  obtain ⟨g1,c,g2,g3⟩:=g
  exact ⟨g1.sub hs,c,g2,g3.sub hs⟩
 | .boxes s l,h,p,g=>by
  rw [AV] at g ⊢
  obtain ⟨g1,x,g2,g3,g4⟩:=g
  refine ⟨g1.sub hs,x,g2,g3,?_⟩
  rcases g4 with g4 | ⟨b,o,g5,hn,g6⟩
  ·exact .inl g4
  ·cases l with
   | nil=>exact .inl ⟨rfl,trivial⟩
   | cons a ar =>
    have hl:b < w.heap.size:=by rw [AVs] at g6;obtain ⟨⟨_,_,h9,_⟩,_⟩:=g6;exact h9.lt
    exact .inr ⟨b,o,g5,fun e=>hn (hs b hl e),AVs.sub hs g6⟩
theorem AVs.sub {H H':Nat->Prop}{w:World} (hs:∀ b,b < w.heap.size->H' b->H b){b:Nat}:∀ {o:Nat}{l:List PA},AVs H w b o l->AVs H' w b o l
 | _,[],_=>by rw [AVs];trivial
 | o,a::ar,g=>by
  rw [AVs] at g ⊢
  obtain ⟨⟨h,p,g1,g2⟩,g3⟩:=g
  exact ⟨⟨h,p,g1,AV.sub hs g2⟩,AVs.sub hs g3⟩
end
theorem AV.arg {H:Nat->Prop}{w W:World}{a:PA}{h:Sl}{p:V8} (g:AV H w a h p) (hb:Below w.heap.size w W):AV (Hole H w W) W a h p:=by
 have g2:AV (Hole H w W) w a h p:=AV.sub (fun b hl e=>by
  rcases e with e | ⟨e,_⟩
  ·exact e
  ·omega) g
 exact AV.lat (Lat.below hb) g2
theorem AVs.at_ {H:Nat->Prop}{w:World}{b:Nat}:∀ {l:List PA}{o i:Nat} (hi:i < l.length),AVs H w b o l->∃ h p,At9 w b (o+i*9) h p/\AV H w l[i] h p
 | [],_,_,hi,_=>by simp at hi
 | a::ar,o,0,_,g=>by
  rw [AVs] at g
  simpa using g.1
 | a::ar,o,i+1,hi,g=>by
  rw [AVs] at g
  have:=AVs.at_ (l:=ar) (o:=o+9) (i:=i) (by simpa using hi) g.2
  have e:o+9+i*9=o+(i+1)*9:=by omega
  rw [e] at this
  simpa using this
theorem AV.shape {H:Nat->Prop}{w:World}{a:PA}{h:Sl}{p:V8} (g:AV H w a h p):ShV H w h a.shape:=by
 cases a <;> (rw [AV] at g;exact g.1)
theorem AV.nums {H:Nat->Prop}{w:World}{s:List Nat}{l:List Nat}{h:Sl}{p:V8} (g:AV H w (.nums s l) h p):NumA H w p l:=by rw [AV] at g;exact g.2
theorem AV.chars {H:Nat->Prop}{w:World}{s:List Nat}{l:List Int}{h:Sl}{p:V8} (g:AV H w (.chars s l) h p):∃ c,p=charsP c/\RdH H w (sv c) (l.map (Value.int .i32)):=by rw [AV] at g;exact g.2
theorem AV.boxes {H:Nat->Prop}{w:World}{s:List Nat}{l:List PA}{h:Sl}{p:V8} (g:AV H w (.boxes s l) h p) :
  ∃ A n c,p=boxesP (A,n,c)/\n=l.length/\∀ i (hi:i < l.length),∃ b o h p,A=some ⟨b,o,none⟩/\¬ H b/\AV H w l[i] h p/\∀ w1,Lat H w w1->At9 w1 b (o+i*9) h p:=by
 rw [AV] at g
 obtain ⟨_,⟨A,n,c⟩,rfl,hn,g4⟩:=g
 refine ⟨A,n,c,rfl,hn,fun i hi=>?_⟩
 rcases g4 with ⟨rfl,_⟩ | ⟨b,o,g5,hb,g6⟩
 ·simp at hi
 ·obtain ⟨h,p,g7,g8⟩:=AVs.at_ hi g6
  exact ⟨b,o,h,p,g5,hb,g8,fun w1 k=>g7.lat hb k⟩
mutual
inductive RP where
 | mk (s:List Int) (items:List RI) (fill:Int)
inductive RI where
 | mk (kind:Int) (num:Nat) (char:Int) (box:List RP)
end
instance:Inhabited RP:=⟨.mk [] [] 0⟩
instance:Inhabited RI:=⟨.mk 0 0 0 []⟩
def At4 (w:World) (b o:Nat) (k:Int) (n:Nat) (c:Int) (x:Sl):Prop :=
 w.cell? ⟨b,o,none⟩=some (.int .i64 k)/\w.cell? ⟨b,o+1,none⟩=some (.float .f64 n)/\w.cell? ⟨b,o+2,none⟩=some (.int .i32 c)/\w.cell? ⟨b,o+3,none⟩=some (sv x)
def At3 (w:World) (b o:Nat) (h x:Sl) (f:Int):Prop :=
 w.cell? ⟨b,o,none⟩=some (sv h)/\w.cell? ⟨b,o+1,none⟩=some (sv x)/\w.cell? ⟨b,o+2,none⟩=some (.int .i64 f)
theorem At4.of {w w':World}{b o:Nat}{k:Int}{n:Nat}{c:Int}{x:Sl} (g:At4 w b o k n c x) (e:∀ j,w'.cell? ⟨b,j,none⟩=w.cell? ⟨b,j,none⟩):At4 w' b o k n c x:=by
 unfold At4
 rw [e,e,e,e]
 exact g
theorem At4.lt {w:World}{b o:Nat}{k:Int}{n:Nat}{c:Int}{x:Sl} (g:At4 w b o k n c x):b < w.heap.size:=cell_lt g.1
theorem At4.lat {H:Nat->Prop}{w w':World}{b o:Nat}{k:Int}{n:Nat}{c:Int}{x:Sl} (g:At4 w b o k n c x) (hn:¬ H b) (l:Lat H w w'):At4 w' b o k n c x:=g.of fun _=>World.cell?_of_block (w:=w) (l.block b g.lt hn)
theorem At3.of {w w':World}{b o:Nat}{h x:Sl}{f:Int} (g:At3 w b o h x f) (e:∀ j,w'.cell? ⟨b,j,none⟩=w.cell? ⟨b,j,none⟩):At3 w' b o h x f:=by
 unfold At3
 rw [e,e,e]
 exact g
theorem At3.lt {w:World}{b o:Nat}{h x:Sl}{f:Int} (g:At3 w b o h x f):b < w.heap.size:=cell_lt g.1
theorem At3.lat {H:Nat->Prop}{w w':World}{b o:Nat}{h x:Sl}{f:Int} (g:At3 w b o h x f) (hn:¬ H b) (l:Lat H w w'):At3 w' b o h x f:=g.of fun _=>World.cell?_of_block (w:=w) (l.block b g.lt hn)
mutual
def PV (H:Nat->Prop) (w:World):RP->Sl->Sl->Int->Prop
 | .mk s items fill,h,x,f=>RdH H w (sv h) (s.map (Value.int .i64))/\f=fill/\x.2.1=items.length/\((items=[]/\True)\/∃ b o,x.1=some ⟨b,o,none⟩/\¬ H b/\IVs H w b o items)
def IVs (H:Nat->Prop) (w:World) (b:Nat):Nat->List RI->Prop
 | _,[]=>True
 | o,t::ts=>(∃ k n c x,At4 w b o k n c x/\IV H w t k n c x)/\IVs H w b (o+4) ts
def IV (H:Nat->Prop) (w:World):RI->Int->Nat->Int->Sl->Prop
 | .mk kind num char box,k,n,c,x=>k=kind/\n=num/\c=char/\x.2.1=box.length/\((box=[]/\True)\/∃ b o,x.1=some ⟨b,o,none⟩/\¬ H b/\PVs H w b o box)
def PVs (H:Nat->Prop) (w:World) (b:Nat):Nat->List RP->Prop
 | _,[]=>True
 | o,t::ts=>(∃ h x f,At3 w b o h x f/\PV H w t h x f)/\PVs H w b (o+3) ts
end
mutual
theorem PV.lat {H:Nat->Prop}{w w':World} (l:Lat H w w'):∀ {t:RP}{h x:Sl}{f:Int},PV H w t h x f->PV H w' t h x f
 | .mk s items fill,h,x,f,g=>by
  rw [PV] at g ⊢
  obtain ⟨g1,g2,g3,g4⟩:=g
  refine ⟨g1.lat l,g2,g3,?_⟩
  rcases g4 with g4 | ⟨b,o,g5,hn,g6⟩
  ·exact .inl g4
  ·exact .inr ⟨b,o,g5,hn,IVs.lat l hn g6⟩
theorem IVs.lat {H:Nat->Prop}{w w':World} (l:Lat H w w'){b:Nat} (hn:¬ H b):∀ {o:Nat}{ts:List RI},IVs H w b o ts->IVs H w' b o ts
 | _,[],_=>by rw [IVs];trivial
 | o,t::ts,g=>by
  rw [IVs] at g ⊢
  obtain ⟨⟨k,n,c,x,c0,g1⟩,g2⟩:=g
  exact ⟨⟨k,n,c,x,c0.lat hn l,IV.lat l g1⟩,IVs.lat l hn g2⟩
theorem IV.lat {H:Nat->Prop}{w w':World} (l:Lat H w w'):∀ {t:RI}{k:Int}{n:Nat}{c:Int}{x:Sl},IV H w t k n c x->IV H w' t k n c x
 | .mk kind num char box,k,n,c,x,g=>by
  rw [IV] at g ⊢
  obtain ⟨g1,g2,g3,g4,g5⟩:=g
  refine ⟨g1,g2,g3,g4,?_⟩
  rcases g5 with g5 | ⟨b,o,g5,hn,g6⟩
  ·exact .inl g5
  ·exact .inr ⟨b,o,g5,hn,PVs.lat l hn g6⟩
theorem PVs.lat {H:Nat->Prop}{w w':World} (l:Lat H w w'){b:Nat} (hn:¬ H b):∀ {o:Nat}{ts:List RP},PVs H w b o ts->PVs H w' b o ts
 | _,[],_=>by rw [PVs];trivial
 | o,t::ts,g=>by
  rw [PVs] at g ⊢
  obtain ⟨⟨h,x,f,c0,g1⟩,g2⟩:=g
  exact ⟨⟨h,x,f,c0.lat hn l,PV.lat l g1⟩,PVs.lat l hn g2⟩
end
theorem PV.step {H:Nat->Prop}{w w':World}{t:RP}{h x:Sl}{f:Int} (g:PV H w t h x f) (hb:Below w.heap.size w w'):PV H w' t h x f:=PV.lat (Lat.below hb) g
theorem IV.step {H:Nat->Prop}{w w':World}{t:RI}{k:Int}{n:Nat}{c:Int}{x:Sl} (g:IV H w t k n c x) (hb:Below w.heap.size w w'):IV H w' t k n c x:=IV.lat (Lat.below hb) g
mutual
theorem PV.sub {H H':Nat->Prop}{w:World} (hs:∀ b,b < w.heap.size->H' b->H b):∀ {t:RP}{h x:Sl}{f:Int},PV H w t h x f->PV H' w t h x f
 | .mk s items fill,h,x,f,g=>by
  rw [PV] at g ⊢
  obtain ⟨g1,g2,g3,g4⟩:=g
  refine ⟨g1.sub hs,g2,g3,?_⟩
  rcases g4 with g4 | ⟨b,o,g5,hn,g6⟩
  ·exact .inl g4
  ·cases items with
   | nil=>exact .inl ⟨rfl,trivial⟩
   | cons a ar =>
    have hl:b < w.heap.size:=by rw [IVs] at g6;obtain ⟨⟨_,_,_,_,h9,_⟩,_⟩:=g6;exact h9.lt
    exact .inr ⟨b,o,g5,fun e=>hn (hs b hl e),IVs.sub hs g6⟩
theorem IVs.sub {H H':Nat->Prop}{w:World} (hs:∀ b,b < w.heap.size->H' b->H b){b:Nat}:∀ {o:Nat}{ts:List RI},IVs H w b o ts->IVs H' w b o ts
 | _,[],_=>by rw [IVs];trivial
 | o,t::ts,g=>by
  rw [IVs] at g ⊢
  obtain ⟨⟨k,n,c,x,c0,g1⟩,g2⟩:=g
  exact ⟨⟨k,n,c,x,c0,IV.sub hs g1⟩,IVs.sub hs g2⟩
theorem IV.sub {H H':Nat->Prop}{w:World} (hs:∀ b,b < w.heap.size->H' b->H b):∀ {t:RI}{k:Int}{n:Nat}{c:Int}{x:Sl},IV H w t k n c x->IV H' w t k n c x
 | .mk kind num char box,k,n,c,x,g=>by
  rw [IV] at g ⊢
  obtain ⟨g1,g2,g3,g4,g5⟩:=g
  refine ⟨g1,g2,g3,g4,?_⟩
  rcases g5 with g5 | ⟨b,o,g5,hn,g6⟩
  ·exact .inl g5
  ·cases box with
   | nil=>exact .inl ⟨rfl,trivial⟩
   | cons a ar =>
    have hl:b < w.heap.size:=by rw [PVs] at g6;obtain ⟨⟨_,_,_,h9,_⟩,_⟩:=g6;exact h9.lt
    exact .inr ⟨b,o,g5,fun e=>hn (hs b hl e),PVs.sub hs g6⟩
theorem PVs.sub {H H':Nat->Prop}{w:World} (hs:∀ b,b < w.heap.size->H' b->H b){b:Nat}:∀ {o:Nat}{ts:List RP},PVs H w b o ts->PVs H' w b o ts
 | _,[],_=>by rw [PVs];trivial
 | o,t::ts,g=>by
  rw [PVs] at g ⊢
  obtain ⟨⟨h,x,f,c0,g1⟩,g2⟩:=g
  exact ⟨⟨h,x,f,c0,PV.sub hs g1⟩,PVs.sub hs g2⟩
end
theorem PV.arg {H:Nat->Prop}{w W:World}{t:RP}{h x:Sl}{f:Int} (g:PV H w t h x f) (hb:Below w.heap.size w W):PV (Hole H w W) W t h x f:=by
 have g2:PV (Hole H w W) w t h x f:=PV.sub (fun b hl e=>by
  rcases e with e | ⟨e,_⟩
  ·exact e
  ·omega) g
 exact PV.lat (Lat.below hb) g2
theorem IVs.at_ {H:Nat->Prop}{w:World}{b:Nat}:∀ {ts:List RI}{o i:Nat} (hi:i < ts.length),IVs H w b o ts->∃ k n c x,At4 w b (o+i*4) k n c x/\IV H w ts[i] k n c x
 | [],_,_,hi,_=>by simp at hi
 | t::ts,o,0,_,g=>by
  rw [IVs] at g
  simpa using g.1
 | t::ts,o,i+1,hi,g=>by
  rw [IVs] at g
  have:=IVs.at_ (ts:=ts) (o:=o+4) (i:=i) (by simpa using hi) g.2
  have e:o+4+i*4=o+(i+1)*4:=by omega
  rw [e] at this
  simpa using this
theorem ivs_of {H:Nat->Prop}{w:World}{b:Nat}:∀ (ts:List RI) (o:Nat),(∀ i (h:i < ts.length),∃ k n c x,At4 w b (o+i*4) k n c x/\IV H w ts[i] k n c x)->IVs H w b o ts
 | [],_,_=>by rw [IVs];trivial
 | t::ts,o,g=>by
  rw [IVs]
  refine ⟨?_,ivs_of ts (o+4) fun i hi=>?_⟩
  ·have:=g 0 (by simp);simpa using this
  ·have:=g (i+1) (by simpa using hi)
   have e:o+(i+1)*4=o+4+i*4:=by omega
   rw [e] at this
   simpa using this
theorem PVs.at_ {H:Nat->Prop}{w:World}{b:Nat}:∀ {ts:List RP}{o i:Nat} (hi:i < ts.length),PVs H w b o ts->∃ h x f,At3 w b (o+i*3) h x f/\PV H w ts[i] h x f
 | [],_,_,hi,_=>by simp at hi
 | t::ts,o,0,_,g=>by
  rw [PVs] at g
  simpa using g.1
 | t::ts,o,i+1,hi,g=>by
  rw [PVs] at g
  have:=PVs.at_ (ts:=ts) (o:=o+3) (i:=i) (by simpa using hi) g.2
  have e:o+3+i*3=o+(i+1)*3:=by omega
  rw [e] at this
  simpa using this
theorem PV.open_ {H:Nat->Prop}{w:World}{s:List Int}{items:List RI}{fill:Int}{h x:Sl}{f:Int} (g:PV H w (.mk s items fill) h x f) :
  RdH H w (sv h) (s.map (Value.int .i64))/\f=fill/\x.2.1=items.length/\∀ i (hi:i < items.length),∃ b o k n c y,x.1=some ⟨b,o,none⟩/\¬ H b/\IV H w items[i] k n c y/\∀ w1,Lat H w w1->At4 w1 b (o+i*4) k n c y:=by
 rw [PV] at g
 obtain ⟨g1,g2,g3,g4⟩:=g
 refine ⟨g1,g2,g3,fun i hi=>?_⟩
 rcases g4 with ⟨rfl,_⟩ | ⟨b,o,g5,hn,g6⟩
 ·simp at hi
 ·obtain ⟨k,n,c,y,c0,g7⟩:=IVs.at_ hi g6
  exact ⟨b,o,k,n,c,y,g5,hn,g7,fun w1 l=>c0.lat hn l⟩
theorem pv_of {H:Nat->Prop}{w:World}{s:List Int}{items:List RI}{fill:Int}{h x:Sl} (h1:RdH H w (sv h) (s.map (Value.int .i64))) (h2:x.2.1=items.length)
  (h3:∀ i (hi:i < items.length),∃ b o k n c y,x.1=some ⟨b,o,none⟩/\¬ H b/\IV H w items[i] k n c y/\At4 w b (o+i*4) k n c y) :
  PV H w (.mk s items fill) h x fill:=by
 rw [PV]
 refine ⟨h1,rfl,h2,?_⟩
 cases items with
 | nil=>exact .inl ⟨rfl,trivial⟩
 | cons a ar =>
  obtain ⟨b,o,_,_,_,_,e0,hn0,_⟩:=h3 0 (by simp)
  refine .inr ⟨b,o,e0,hn0,ivs_of _ _ fun i hi=>?_⟩
  obtain ⟨b',o',k,n,c,y,e',_,g1,c0⟩:=h3 i hi
  rw [e0] at e'
  injection e' with e'
  injection e' with e1 e2 _
  subst e1;subst e2
  exact ⟨k,n,c,y,c0,g1⟩
theorem IV.open_ {H:Nat->Prop}{w:World}{kind:Int}{num:Nat}{char:Int}{box:List RP}{k:Int}{n:Nat}{c:Int}{x:Sl} (g:IV H w (.mk kind num char box) k n c x) :
  k=kind/\n=num/\c=char/\x.2.1=box.length/\∀ i (hi:i < box.length),∃ b o h y f,x.1=some ⟨b,o,none⟩/\¬ H b/\PV H w box[i] h y f/\∀ w1,Lat H w w1->At3 w1 b (o+i*3) h y f:=by
 rw [IV] at g
 obtain ⟨g1,g2,g3,g4,g5⟩:=g
 refine ⟨g1,g2,g3,g4,fun i hi=>?_⟩
 rcases g5 with ⟨rfl,_⟩ | ⟨b,o,g6,hn,g7⟩
 ·simp at hi
 ·obtain ⟨h,y,f,c0,g8⟩:=PVs.at_ hi g7
  exact ⟨b,o,h,y,f,g6,hn,g8,fun w1 l=>c0.lat hn l⟩
end Go.Proofs.YtbakjaliponbbaaGreatDoor
