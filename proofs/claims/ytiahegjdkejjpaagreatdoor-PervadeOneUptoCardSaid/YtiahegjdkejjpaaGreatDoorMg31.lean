/- fold.Two at two arrays' lists that go together: what it tells. Plain laws: what a function of one number tells of a whole number. No program in sight. The walk .. Conditions: as each theorem says. -/
import Derived.Test.YtiahegjdkejjpaaGreatDoorMg21
import Derived.Test.YtiahegjdkejjpaaGreatDoorMg22
import Derived.Test.YtiahegjdkejjpaaGreatDoorMg23
import Derived.Test.YtiahegjdkejjpaaGreatDoorMg29
import Derived.Test.YtiahegjdkejjpaaGreatDoorMg30
import Derived.Test.YtiahegjdkejjpaaGreatDoorMg12
import Derived.Test.YtiahegjdkejjpaaGreatDoorMg24
import Derived.Deep.QuietTactic
import Derived.BigQuiet
set_option maxRecDepth 100000
set_option maxHeartbeats 4000000
namespace Go.Proofs.YtiahegjdkejjpaaGreatDoor
open Go Go.RowKit Go.Proofs Fl
abbrev NumZ (H:Nat->Prop) (w:World) (p:V8) (l:List Nat):Prop:=NumA H w p l
def FltOut (H:Nat->Prop) (w:World) (r:Int×List Nat) (e:Ending) (w':World):Prop :=
 (r.1=0/\∃ u:V8,e= .returned (.tuple #[u.v,.int .i64 0])/\NumZ H w' u r.2/\Below w.heap.size w w')\/(r.1≠0/\ZeroE w r.1 e w')
abbrev TwT (N:Nat) (G:Nat->Nat) (u:Value) (W:World):Prop:=NumV u (leastF G N:Nat) N G W\/(N=0/\u=zbP.v)
theorem leastF_congr {F F':Nat->Nat}{n:Nat} (h:∀ j,j < n->F j=F' j):leastF F n=leastF F' n:=by
 induction n with
 | zero=>rfl
 | succ n ih =>
  unfold leastF
  rw [ih fun j hj=>h j (by omega),h n (by omega)]
theorem getD_range {N:Nat} (G:Nat->Nat){j:Nat} (hj:j < N):((List.range N).map G).getD j 0=G j:=by
 simp [List.getD,hj]
theorem numZ_of {H:Nat->Prop}{w:World}{k:Int}{b:Sl}{bn:Int}{s i f c x:Sl}{N:Nat}{G:Nat->Nat} (h:Keeps H w (TwT N G (vecW k b bn s i f c x))):NumZ H w ⟨k,b,bn,s,i,f,c,x⟩ ((List.range N).map G):=by
 by_cases hz:N=0/\vecW k b bn s i f c x=zbP.v
 ·obtain ⟨rfl,h2⟩:=hz
  refine .inr ⟨rfl,?_⟩
  unfold vecW vecV at h2
  simp only [Value.agg.injEq,Array.mk.injEq,List.cons.injEq,Value.int.injEq,Value.slice.injEq,true_and,and_true] at h2
  obtain ⟨rfl,⟨b1,b2,b3⟩,rfl,⟨s1,s2,s3⟩,⟨i1,i2,i3⟩,⟨f1,f2,f3⟩,⟨c1,c2,c3⟩,⟨x1,x2,x3⟩⟩:=h2
  obtain ⟨b4,b5,b6⟩:=b
  obtain ⟨s4,s5,s6⟩:=s
  obtain ⟨i4,i5,i6⟩:=i
  obtain ⟨f4,f5,f6⟩:=f
  obtain ⟨c4,c5,c6⟩:=c
  obtain ⟨x4,x5,x6⟩:=x
  subst b1 b2 b3 s1 s2 s3 i1 i2 i3 f1 f2 f3 c1 c2 c3 x1 x2 x3
  rfl
 ·have h1:Keeps H w (NumV (vecW k b bn s i f c x) (leastF G N:Nat) N G):=h.imp fun W h=>h.resolve_right hz
  obtain ⟨b',bn',s',i',f',c',x',e⟩:=h1.now.shape
  have ek:k=(leastF G N:Nat):=by
   unfold vecW vecV at e
   simp only [Value.agg.injEq,Array.mk.injEq,List.cons.injEq,Value.int.injEq,true_and] at e
   exact e.1
  subst ek
  have hl:((List.range N).map G).length=N:=by simp
  refine .inl ⟨?_,?_⟩
  ·show Keeps H w (NumV (vecW _ b bn s i f c x) _ _ _)
   rw [hl]
   exact h1.imp fun W h=>h.congr fun j hj=>getD_range G hj
  ·show ((leastF G N:Nat):Int)=_
   rw [hl]
   exact congrArg _ (leastF_congr fun j hj=>(getD_range G hj).symm)
theorem fltOut_of {H:Nat->Prop}{w:World}{N:Nat}{G:Nat->Nat}{E:Int}{r:Int×List Nat} (h1:r.1=E) (h2:E=0->r.2=(List.range N).map G) (e:Ending) (w':World) (h:TwoL H w (TwT N G) E e w'):FltOut H w r e w':=by
 rcases h with ⟨hE,k,b,bn,s,i,f,c,x,he,hk,hb⟩ | ⟨hE,hz⟩
 ·exact .inl ⟨by rw [h1];exact hE,⟨k,b,bn,s,i,f,c,x⟩,he,by rw [h2 hE];exact numZ_of hk,hb⟩
 ·exact .inr ⟨by rw [h1];exact hE,by rw [h1];exact hz⟩
theorem vecOk_imp {H:Nat->Prop}{w:World}{R R':Value->World->Prop} (h:∀ u W,R u W->R' u W){e:Ending}{w':World} (g:VecOk H w R e w'):VecOk H w R' e w':=by
 obtain ⟨k,b,bn,s,i,f,c,x,he,hk,hb⟩:=g
 exact ⟨k,b,bn,s,i,f,c,x,he,hk.imp fun W h1=>h _ _ h1,hb⟩
theorem aapply_L (H:Nat->Prop) (f:Int) (hf:1<=f) (hf2:f<=8) (p q:V8) (m n N:Nat) (F G:Nat->Nat) (w:World) (hL:lenP m n=some N) (hH:∀ b,H b->b < w.heap.size) (hm:m<=1000000) (hn:n<=1000000)
  (hP:∀ W,Below w.heap.size w W->NumV p.v p.k m F W) (hQ:∀ W,Below w.heap.size w W->NumV q.v q.k n G W) :
  Calls Tryz.prog 167 #[.int .i64 f,p.v,q.v] w (TwoL H w (TwT N fun c=>(oneP pwP f (F (ixP m c)) (G (ixP n c))).1) (numsE N fun c=>oneP pwP f (F (ixP m c)) (G (ixP n c))).1):=by
 refine (aapply_any H f hf hf2 p q m n F G w hH hm hn hP hQ).mono ?_
 rintro e w' (⟨h,-⟩ | ⟨N',hN,h⟩)
 ·rw [hL] at h;cases h
 ·rw [hL] at hN
  injection hN with hN
  subst hN
  rcases numsE_cases N (fun c=>oneP pwP f (F (ixP m c)) (G (ixP n c))) with ⟨hb,he⟩ | ⟨hb,he⟩
  ·rw [he]
   rcases h with ⟨h1,_⟩ | ⟨_,h⟩
   ·obtain ⟨c,hc,h2⟩:=hb
    exact absurd (h1 c hc) h2
   ·exact .inr ⟨by decide,h⟩
  ·rw [he]
   rcases h with ⟨_,h⟩ | ⟨⟨c,hc,h1⟩,_⟩
   ·exact .inl ⟨rfl,vecOk_imp (fun _ _ h => .inl h) h⟩
   ·exact absurd (hb c hc) h1
theorem rapply_L (H:Nat->Prop) (f:Int) (hf:11<=f) (hf2:f<=16) (p q:V8) (m n N:Nat) (F G:Nat->Nat) (w:World) (hL:lenP m n=some N) (hH:∀ b,H b->b < w.heap.size) (hm:m<=1000000) (hn:n<=1000000)
  (hP:∀ W,Below w.heap.size w W->NumV p.v p.k m F W) (hQ:∀ W,Below w.heap.size w W->NumV q.v q.k n G W) :
  Calls Tryz.prog 168 #[.int .i64 f,p.v,q.v] w (TwoL H w (TwT N fun c=>(oneP pwP f (F (ixP m c)) (G (ixP n c))).1) (numsE N fun c=>oneP pwP f (F (ixP m c)) (G (ixP n c))).1):=by
 refine (rapply_any H f hf hf2 p q m n F G w hH hm hn hP hQ).mono ?_
 have eG:(fun c=>oneP pwP f (F (ixP m c)) (G (ixP n c)))=fun c=>(flagF (relB f (F (ixP m c)) (G (ixP n c))),0):=by
  funext c
  exact oneP_rel hf hf2 _ _
 rintro e w' (⟨h,-⟩ | ⟨N',hN,h⟩)
 ·rw [hL] at h;cases h
 ·rw [hL] at hN
  injection hN with hN
  subst hN
  have e1:∀ c,oneP pwP f (F (ixP m c)) (G (ixP n c))=(flagF (relB f (F (ixP m c)) (G (ixP n c))),0):=fun c=>congrFun eG c
  have e2:(fun c=>(oneP pwP f (F (ixP m c)) (G (ixP n c))).1)=fun c=>flagF (relB f (F (ixP m c)) (G (ixP n c))):=by funext c;rw [e1]
  rw [e2]
  rcases numsE_cases N (fun c=>oneP pwP f (F (ixP m c)) (G (ixP n c))) with ⟨⟨c,hc,hb⟩,he⟩ | ⟨hb,he⟩
  ·exact absurd (by show (oneP pwP f _ _).2=0;rw [e1 c]) hb
  ·rw [he]
   refine .inl ⟨rfl,vecOk_imp (fun u W h => .inl ?_) h⟩
   rw [leastF_bits _ _ _ fun j _=>rfl]
   exact h
theorem lapply_L (H:Nat->Prop) (f:Int) (hf:21<=f) (hf2:f<=24) (p q:V8) (m n N:Nat) (F G:Nat->Nat) (w:World) (hL:lenP m n=some N) (hH:∀ b,H b->b < w.heap.size) (hm:m<=1000000) (hn:n<=1000000) (hN0:0 < N)
  (hP:∀ W,Below w.heap.size w W->Calls Tryz.prog 213 #[p.v] W (TsOut m F W)) (hQ:∀ W,Below w.heap.size w W->Calls Tryz.prog 213 #[q.v] W (TsOut n G W))
  (hLP:∀ W,Below w.heap.size w W->Calls Tryz.prog 85 #[p.v] W fun e w2=>e= .returned (.int .i64 (m:Nat))/\Below W.heap.size W w2)
  (hLQ:∀ W,Below w.heap.size w W->Calls Tryz.prog 85 #[q.v] W fun e w2=>e= .returned (.int .i64 (n:Nat))/\Below W.heap.size W w2) :
  Calls Tryz.prog 139 #[.int .i64 f,p.v,q.v] w (TwoL H w (TwT N fun c=>(oneP pwP f (F (ixP m c)) (G (ixP n c))).1) (numsE N fun c=>oneP pwP f (F (ixP m c)) (G (ixP n c))).1):=by
 refine (lapply_ts H f hf hf2 p q m n N F G w hH hL hN0 (lenP_le hL hm hn) hP hQ hLP hLQ).mono ?_
 rintro e w' (⟨h,-⟩ | ⟨N',hN,h⟩)
 ·cases h
 ·injection hN with hN
  subst hN
  rcases numsE_cases N (fun c=>oneP pwP f (F (ixP m c)) (G (ixP n c))) with ⟨⟨c,hc,hb⟩,he⟩ | ⟨hb,he⟩
  ·rw [he]
   rcases h with ⟨h1,_⟩ | ⟨_,h⟩
   ·exact absurd (by show (oneP pwP f _ _).2=0;rw [oneP_log hf,logP_yes (h1 c hc)]) hb
   ·exact .inr ⟨by decide,h⟩
  ·rw [he]
   rcases h with ⟨h1,h⟩ | ⟨⟨c,hc,h1⟩,_⟩
   ·refine .inl ⟨rfl,vecOk_imp (fun u W h => .inl ?_) h⟩
    have e3:∀ c,c < N->(oneP pwP f (F (ixP m c)) (G (ixP n c))).1=flagF (logB f (tv (F (ixP m c))) (tv (G (ixP n c)))):=fun c hc=>by rw [oneP_log hf,logP_yes (h1 c hc)]
    rw [leastF_bits _ _ _ e3]
    exact NumV.congr h e3
   ·have h2:=hb c hc
    exfalso
    rw [oneP_log hf,logP_no h1] at h2
    exact absurd h2 (by decide)
theorem known_cases {f:Int} (h:knownB f=true):(1<=f/\f<=8)\/(11<=f/\f<=16)\/(21<=f/\f<=24):=by
 unfold knownB at h
 rw [decide_eq_true_iff] at h
 omega
theorem clsV_av {H:Nat->Prop}{w:World}{a:PA}{h:Sl}{p:V8} (g:AV H w a h p):ClsV w p (a.fill:Nat) a.len :=
 ⟨fun W hb=>av_class g W hb,fun W hb=>av_len g W hb⟩
theorem ftwo_nums (H:Nat->Prop) (f:Int) (hk:knownB f=true) (p q:V8) (m n N:Nat) (F G:Nat->Nat) (w:World) (hL:lenP m n=some N) (hH:∀ b,H b->b < w.heap.size) (hm:m<=1000000) (hn:n<=1000000)
  {H1 H2:Nat->Prop} (hP:Keeps H1 w (NumV p.v p.k m F)) (hQ:Keeps H2 w (NumV q.v q.k n G)) :
  Calls Tryz.prog 94 #[.int .i64 f,p.v,q.v] w (FltOut H w (numsE N fun c=>oneP pwP f (F (ixP m c)) (G (ixP n c)))):=by
 have hP0:Keeps (fun _=>False) w (NumV p.v p.k m F):=hP.sub fun _ _ e=>e.elim
 have hQ0:Keeps (fun _=>False) w (NumV q.v q.k n G):=hQ.sub fun _ _ e=>e.elim
 have hP1:=fun W (hb:Below w.heap.size w W)=>(hP0.step hb).now
 have hQ1:=fun W (hb:Below w.heap.size w W)=>(hQ0.step hb).now
 have hfin:∀ (e:Ending) (w':World),TwoL H w (TwT N fun c=>(oneP pwP f (F (ixP m c)) (G (ixP n c))).1) (numsE N fun c=>oneP pwP f (F (ixP m c)) (G (ixP n c))).1 e w'->FltOut H w (numsE N fun c=>oneP pwP f (F (ixP m c)) (G (ixP n c))) e w':=by
  intro e w' h
  refine fltOut_of rfl (fun h0=>?_) e w' h
  rcases numsE_cases N (fun c=>oneP pwP f (F (ixP m c)) (G (ixP n c))) with ⟨_,he⟩ | ⟨_,he⟩
  ·rw [he] at h0;exact absurd h0 (by decide)
  ·rw [he]
 rcases known_cases hk with ⟨h1,h2⟩ | ⟨h1,h2⟩ | ⟨h1,h2⟩
 ·exact (twoL_arith H f _ _ p q w hH h1 h2 fun W H' hb hH'=>aapply_L H' f h1 h2 p q _ _ N _ _ W hL hH' hm hn (fun W' hb'=>hP1 W' (bel_both hb hb')) fun W' hb'=>hQ1 W' (bel_both hb hb')).mono hfin
 ·exact (twoL_relate H f _ _ p q w hH h1 h2 fun W H' hb hH'=>rapply_L H' f h1 h2 p q _ _ N _ _ W hL hH' hm hn (fun W' hb'=>hP1 W' (bel_both hb hb')) fun W' hb'=>hQ1 W' (bel_both hb hb')).mono hfin
 ·refine (twoL_logic H f _ _ p q w hH (by omega) (by omega) fun W H' hb hH'=>?_).mono hfin
  by_cases hN:N=0
  ·have hcP:ClsV W p 0 m:=⟨fun W' hb'=>(hP1 W' (bel_both hb hb')).cls,fun W' hb'=>(hP1 W' (bel_both hb hb')).len⟩
   have hcQ:ClsV W q 0 n:=⟨fun W' hb'=>(hQ1 W' (bel_both hb hb')).cls,fun W' hb'=>(hQ1 W' (bel_both hb hb')).len⟩
   refine (lapply_zero f h1 h2 p q _ _ N 0 0 W hN hL hcP hcQ).mono ?_
   rintro e w' ⟨⟨_,_,rfl⟩ | ⟨h,_⟩,hb2⟩
   ·rcases numsE_cases N (fun c=>oneP pwP f (F (ixP m c)) (G (ixP n c))) with ⟨⟨c,hc,_⟩,_⟩ | ⟨_,he⟩
    ·omega
    ·rw [he]
     exact .inl ⟨rfl,1,nilS,0,nilS,nilS,nilS,nilS,nilS,rfl,fun _ _ _ => .inr ⟨hN,rfl⟩,hb2⟩
   ·rcases h with h | h <;> exact absurd rfl h
  ·exact lapply_L H' f h1 h2 p q _ _ N _ _ W hL hH' hm hn (by omega) (fun W' hb'=>truths_any p _ _ W' hm (hP0.step (bel_both hb hb'))) (fun W' hb'=>truths_any q _ _ W' hn (hQ0.step (bel_both hb hb'))) (fun W' hb'=>(hP1 W' (bel_both hb hb')).len) fun W' hb'=>(hQ1 W' (bel_both hb hb')).len
theorem numA_w {H:Nat->Prop}{w:World}{p:V8}{l:List Nat} (g:NumA H w p l) (W:World) (hb:Below w.heap.size w W):NumW p.v l.length (fun j=>l.getD j 0) W:=by
 rcases g with h | ⟨rfl,rfl⟩
 ·exact (Keeps.lat h.num (Lat.below hb)).now.numW
 ·exact ⟨class_1 _ _ _ _ _ _ _ W,len_1 _ _ _ _ _ _ _ W,fun j hj=>absurd hj (Nat.not_lt_zero _)⟩
theorem numA_wh {H:Nat->Prop}{w:World}{p:V8}{l:List Nat} (g:NumA H w p l) (hl:l.length<=1000000) (W:World) (hb:Below w.heap.size w W):Calls Tryz.prog 122 #[p.v] W (WhZ (p.k != 4) W):=by
 rcases g with h | ⟨rfl,rfl⟩
 ·exact whZ_num p _ _ W hl fun W' hb'=>(Keeps.lat h.num (Lat.below (bel_both hb hb'))).now
 ·exact whZ_zb W
theorem numA_sp {H:Nat->Prop}{w:World}{p:V8}{l:List Nat} (g:NumA H w p l){N:Nat} (hN:N=0) (ho:l.length=N\/l.length=1) (W:World) (hb:Below w.heap.size w W):Calls Tryz.prog 234 #[p.v,.int .i64 (N:Int)] W (SpOutZ p.k l.length N (fun j=>l.getD j 0) W):=by
 rcases g with h | ⟨rfl,rfl⟩
 ·exact (spread_any p.k p.b p.bn p.s p.i p.f p.c p.x l.length N _ W (by omega) ho (Keeps.lat h.num (Lat.below hb)).now).mono fun e w' h=>spOutZ_of hN h
 ·exact spread_zb N hN _ W
theorem ftwo_zero (H:Nat->Prop) (f:Int) (hk:knownB f=true) (p q:V8) (l1 l2:List Nat) (N:Nat) (hN:N=0) (G:Nat->Nat×Int) (w:World) (hL:lenP l1.length l2.length=some N) (hH:∀ b,H b->b < w.heap.size) (hm:l1.length<=1000000) (hn:l2.length<=1000000)
  {H1 H2:Nat->Prop} (hP:NumA H1 w p l1) (hQ:NumA H2 w q l2) :
  Calls Tryz.prog 94 #[.int .i64 f,p.v,q.v] w (FltOut H w (numsE N G)):=by
 have hE:numsE N G=(0,(List.range N).map fun c=>(G c).1):=by
  rcases numsE_cases N G with ⟨⟨c,hc,_⟩,_⟩ | ⟨_,he⟩
  ·omega
  ·exact he
 have hfin:∀ (e:Ending) (w':World),TwoL H w (TwT N fun c=>(G c).1) 0 e w'->FltOut H w (numsE N G) e w':=fun e w' h=>fltOut_of (by rw [hE]) (fun _=>by rw [hE]) e w' h
 obtain ⟨o1,o2⟩:=lenP_ok hL
 rcases known_cases hk with ⟨h1,h2⟩ | ⟨h1,h2⟩ | ⟨h1,h2⟩
 ·refine (twoL_arith H f _ _ p q w hH h1 h2 fun W H' hb hH'=>?_).mono hfin
  have hL0:lenP l1.length l2.length=some 0:=by rw [hL,hN]
  refine (aapply_zero H' f h1 h2 p q l1.length l2.length G _ _ _ _ W hL0 hH' hm hn (fun W' hb'=>numA_w hP W' (bel_both hb hb')) (fun W' hb'=>numA_w hQ W' (bel_both hb hb')) (fun W' hb'=>numA_wh hP hm W' (bel_both hb hb')) fun W' hb'=>numA_wh hQ hn W' (bel_both hb hb')).mono ?_
  rintro e w' (⟨h,-⟩ | ⟨N',hN',h⟩)
  ·rw [hL] at h;cases h
  ·rw [hL] at hN'
   injection hN' with hN'
   subst hN'
   rcases h with ⟨_,h⟩ | ⟨⟨c,hc,_⟩,_⟩
   ·exact .inl ⟨rfl,vecOk_imp (fun _ _ h => .inl h) h⟩
   ·omega
 ·refine (twoL_relate H f _ _ p q w hH h1 h2 fun W H' hb hH'=>?_).mono hfin
  refine (rapply_zero H' f h1 h2 p q l1.length l2.length N hN _ _ (fun _=>false) W hH' hm hn hL (fun W' hb'=>numA_sp hP hN o1 W' (bel_both hb hb')) (fun W' hb'=>numA_sp hQ hN o2 W' (bel_both hb hb')) (fun W' hb'=>numA_w hP W' (bel_both hb hb')) fun W' hb'=>numA_w hQ W' (bel_both hb hb')).mono ?_
  rintro e w' (⟨h,-⟩ | ⟨N',hN',h⟩)
  ·rw [hL] at h;cases h
  ·rw [hL] at hN'
   injection hN' with hN'
   subst hN'
   refine .inl ⟨rfl,vecOk_imp (fun u W h => .inl ?_) h⟩
   have e1:leastF (fun c=>(G c).1) N=1:=by subst hN;rfl
   rw [e1]
   exact NumV.congr h fun j hj=>absurd hj (by omega)
 ·refine (twoL_logic H f _ _ p q w hH (by omega) (by omega) fun W H' hb hH'=>?_).mono hfin
  refine (lapply_zero f h1 h2 p q _ _ N 0 0 W hN hL ⟨fun W' hb'=>(numA_w hP W' (bel_both hb hb')).cls,fun W' hb'=>(numA_w hP W' (bel_both hb hb')).len⟩ ⟨fun W' hb'=>(numA_w hQ W' (bel_both hb hb')).cls,fun W' hb'=>(numA_w hQ W' (bel_both hb hb')).len⟩).mono ?_
  rintro e w' ⟨⟨_,_,rfl⟩ | ⟨h,_⟩,hb2⟩
  ·exact .inl ⟨rfl,1,nilS,0,nilS,nilS,nilS,nilS,nilS,rfl,fun _ _ _ => .inr ⟨hN,rfl⟩,hb2⟩
  ·rcases h with h | h <;> exact absurd rfl h
theorem ftwo_numsA (H:Nat->Prop) (f:Int) (hk:knownB f=true) (p q:V8) (l1 l2:List Nat) (N:Nat) (w:World) (hL:lenP l1.length l2.length=some N) (hH:∀ b,H b->b < w.heap.size) (hm:l1.length<=1000000) (hn:l2.length<=1000000)
  {H1 H2:Nat->Prop} (hP:NumA H1 w p l1) (hQ:NumA H2 w q l2) :
  Calls Tryz.prog 94 #[.int .i64 f,p.v,q.v] w (FltOut H w (numsE N fun c=>oneP pwP f (l1.getD (ixP l1.length c) 0) (l2.getD (ixP l2.length c) 0))):=by
 by_cases hN:N=0
 ·exact ftwo_zero H f hk p q l1 l2 N hN _ w hL hH hm hn hP hQ
 ·obtain ⟨i1,i2⟩:=ixP_lt hL (show 0 < N by omega)
  rcases hP with hP | ⟨rfl,_⟩
  ·rcases hQ with hQ | ⟨rfl,_⟩
   ·exact ftwo_nums H f hk p q l1.length l2.length N (fun j=>l1.getD j 0) (fun j=>l2.getD j 0) w hL hH hm hn hP.num hQ.num
   ·exact absurd i2 (Nat.not_lt_zero _)
  ·exact absurd i1 (Nat.not_lt_zero _)
theorem truths_no (p:V8) (z:Int) (n:Nat) (hz:z≠0) (hk:p.k≠1) (h0:0 < n) (w:World) (hc:ClsV w p z n):Calls Tryz.prog 213 #[p.v] w (TsOut n (fun _=>5) w) :=
 (truths_cls p z n hz hk w hc).mono fun _ _ ⟨h1,h2⟩ => .inr ⟨⟨0,h0,by decide⟩,h1,h2⟩
def mixE (f:Int) (N:Nat) (S:Nat->Bool):Int×List Nat:=if f=13\/f=16 then (0,(List.range N).map fun c=>flagF (S c==decide (f=13))) else (24,[])
theorem ftwo_mix (H:Nat->Prop) (f:Int) (hk:knownB f=true) (p q:V8) (m n N:Nat) (z1 z2:Int) (S:Nat->Bool) (F G:Nat->Nat) (w:World) (hL:lenP m n=some N) (hH:∀ b,H b->b < w.heap.size) (hm:m<=1000000) (hn:n<=1000000)
  (hz:z1≠0\/(z1=0/\z2≠0)) (hP:ClsV w p z1 m) (hQ:ClsV w q z2 n)
  (hTP:0 < m->∀ W,Below w.heap.size w W->Calls Tryz.prog 213 #[p.v] W (TsOut m F W)) (hTQ:0 < n->∀ W,Below w.heap.size w W->Calls Tryz.prog 213 #[q.v] W (TsOut n G W)) (hFG:(∀ j,F j=5)\/∀ j,G j=5)
  (hR:11<=f->f<=16->∀ (W:World) (H':Nat->Prop),Below w.heap.size w W->(∀ b,H' b->b < W.heap.size)->Calls Tryz.prog 168 #[.int .i64 f,p.v,q.v] W (TwoL H' W (TwT N fun c=>flagF (S c==decide (f=13))) (mixE f N S).1)) :
  Calls Tryz.prog 94 #[.int .i64 f,p.v,q.v] w (FltOut H w (mixE f N S)):=by
 have hfin:∀ (e:Ending) (w':World),TwoL H w (TwT N fun c=>flagF (S c==decide (f=13))) (mixE f N S).1 e w'->FltOut H w (mixE f N S) e w':=by
  intro e w' h
  refine fltOut_of rfl (fun h0=>?_) e w' h
  unfold mixE at h0 ⊢
  split at h0
  ·rename_i h3;rw [if_pos h3]
  ·exact absurd h0 (by decide)
 rcases known_cases hk with ⟨h1,h2⟩ | ⟨h1,h2⟩ | ⟨h1,h2⟩
 ·have hE:mixE f N S=(24,[]):=if_neg (by omega)
  refine (twoL_arith H f _ _ p q w hH h1 h2 fun W H' hb hH'=>?_).mono hfin
  rw [hE]
  exact (aapply_cls f h1 h2 p q m n N z1 z2 W hz hL (hP.up hb) (hQ.up hb)).mono fun e w' h => .inr ⟨by decide,h⟩
 ·exact (twoL_relate H f _ _ p q w hH h1 h2 (hR h1 h2)).mono hfin
 ·have hE:mixE f N S=(24,[]):=if_neg (by omega)
  refine (twoL_logic H f _ _ p q w hH (by omega) (by omega) fun W H' hb hH'=>?_).mono hfin
  rw [hE]
  by_cases hN:N=0
  ·refine (lapply_zero f h1 h2 p q _ _ N z1 z2 W hN hL (hP.up hb) (hQ.up hb)).mono ?_
   rintro e w' ⟨⟨h3,h4,_⟩ | ⟨_,h⟩,hb2⟩
   ·rcases hz with hz | ⟨_,hz⟩
    ·exact absurd h3 hz
    ·exact absurd h4 hz
   ·exact .inr ⟨by decide,h,hb2⟩
  ·obtain ⟨o1,o2⟩:=ixP_lt hL (show 0 < N by omega)
   refine (lapply_ts H' f h1 h2 p q m n N F G W hH' hL (by omega) (lenP_le hL hm hn) (fun W' hb'=>hTP (by omega) W' (bel_both hb hb')) (fun W' hb'=>hTQ (by omega) W' (bel_both hb hb')) (fun W' hb'=>hP.len W' (bel_both hb hb')) fun W' hb'=>hQ.len W' (bel_both hb hb')).mono ?_
   have hno:(isT (F (ixP m 0))&&isT (G (ixP n 0)))=false:=by
    rcases hFG with h | h
    ·rw [h];rfl
    ·rw [h,Bool.and_comm];rfl
   rintro e w' (⟨h,-⟩ | ⟨N',hN',h⟩)
   ·cases h
   ·injection hN' with hN'
    subst hN'
    rcases h with ⟨h3,_⟩ | ⟨_,h⟩
    ·have h4:(isT (F (ixP m 0))&&isT (G (ixP n 0)))=true:=h3 0 (by omega)
     rw [hno] at h4
     cases h4
    ·exact .inr ⟨by decide,h⟩
def monZ (f z:Int):Int:=if f=2 then -z else if f=3 then (if 0 < z then 1 else if z < 0 then -1 else 0) else if f=7 then (if z < 0 then -z else z) else if f=8 then 1 - z else z
theorem good_abs {z:Int} (hg:Good z):z.natAbs<=9007199254740992:=by have h1:=hg.1;have h2:=hg.2;omega
theorem floor_fi {z:Int} (hg:Good z):flF (fi z)=fi z/\ceF (fi z)=fi z:=by
 have hz:=good_abs hg
 have e:sg (decide (z < 0)) z.natAbs=z:=by
  unfold sg
  by_cases h:z < 0
  ·rw [decide_eq_true h];simp;omega
  ·rw [decide_eq_false h];simp;omega
 have h1:=fi_tid (decide (z < 0)) hz
 rw [e] at h1
 have hw:=fi_W z hz
 constructor
 ·rw [hw,flF_W _ (rep_fi z hz)]
  unfold flT
  rw [dnB_exact,<- h1,hw]
 ·rw [hw,ceF_W _ (rep_fi z hz)]
  unfold ceT
  rw [dnB_exact,<- h1,hw]
theorem cmp_zero {z:Int} (hg:Good z):FloatKind.f64.format.order (fi z) 0=some (compare z 0):=by
 have h:=order_fi z 0 (good_abs hg) (by decide)
 rw [fi_zero] at h
 exact h
theorem cmp_int (z:Int):compare z 0=if z < 0 then .lt else if z=0 then .eq else .gt:=rfl
theorem neg_fi {z:Int} (hg:Good z):opB .sub 0 (fi z)=fi (-z):=by
 have h:floatBits .sub .f64 (fi 0) (fi z)=some (fi (0 - z)):=sub_fi 0 z (by decide) (good_abs hg) (by have:=good_abs hg;omega)
 rw [fi_zero,Int.zero_sub] at h
 unfold opB
 rw [h,Option.getD_some]
theorem mon1 (b:Nat):monP 1 b=(b,0):=rfl
theorem mon2 (b:Nat):monP 2 b=doneP (opB .sub 0 b):=rfl
theorem mon3 (b:Nat):monP 3 b=(sgnF b,0):=rfl
theorem mon5 (b:Nat):monP 5 b=(ceF b,0):=rfl
theorem mon6 (b:Nat):monP 6 b=(flF b,0):=rfl
theorem mon7 (b:Nat):monP 7 b=(absF b,0):=rfl
theorem zon (z:Int):monZ 1 z=z/\monZ 2 z=-z/\monZ 3 z=(if 0 < z then 1 else if z < 0 then -1 else 0)/\monZ 5 z=z/\monZ 6 z=z/\monZ 7 z=(if z < 0 then -z else z)/\monZ 8 z=1 - z:=⟨rfl,rfl,rfl,rfl,rfl,rfl,rfl⟩
theorem sgn_fi {z:Int} (hg:Good z):sgnF (fi z)=fi (if 0 < z then 1 else if z < 0 then -1 else 0):=by
 have hc:=cmp_zero hg
 rw [cmp_int] at hc
 have e1:fi 1=4607182418800017408:=by decide+kernel
 have em:fi (-1)=13830554455654793216:=by decide+kernel
 unfold sgnF
 rw [hc]
 by_cases a:z < 0
 ·rw [if_pos a,if_neg (show ¬ 0 < z by omega),if_pos a,em,if_neg (by decide),if_pos (by decide)]
 ·by_cases b:z=0
  ·rw [if_neg a,if_pos b,if_neg (show ¬ 0 < z by omega),if_neg a,fi_zero,if_neg (by decide),if_neg (by decide)]
  ·rw [if_neg a,if_neg b,if_pos (show 0 < z by omega),e1,if_pos (by decide)]
theorem abs_fi {z:Int} (hg:Good z):absF (fi z)=fi (if z < 0 then -z else z):=by
 have hc:=cmp_zero hg
 rw [cmp_int] at hc
 unfold absF
 rw [hc]
 by_cases a:z < 0
 ·rw [if_pos a,if_pos a,neg_fi hg,if_pos (by decide)]
 ·rw [if_neg a,if_neg a]
  by_cases b:z=0
  ·rw [if_pos b,if_neg (by decide)]
  ·rw [if_neg b,if_neg (by decide)]
theorem monZ_fi {f z:Int} (h1:1<=f) (h8:f<=8) (h4:f≠4) (hg:Good z) (h01:f=8->z=0\/z=1):monP f (fi z)=(fi (monZ f z),0)/\Good (monZ f z):=by
 have ga:=hg.1
 have gb:=hg.2
 have hn:Good (-z):=⟨by omega,by omega⟩
 have g1:Good 1:=⟨by decide,by decide⟩
 have g0:Good 0:=⟨by decide,by decide⟩
 obtain ⟨z1,z2,z3,z5,z6,z7,z8⟩:=zon z
 rcases (by omega:f=1\/f=2\/f=3\/f=5\/f=6\/f=7\/f=8) with rfl | rfl | rfl | rfl | rfl | rfl | rfl
 ·rw [mon1,z1];exact ⟨rfl,hg⟩
 ·rw [mon2,z2,neg_fi hg];exact ⟨doneP_tf (tf_fi hn),hn⟩
 ·rw [mon3,z3,sgn_fi hg]
  refine ⟨rfl,?_⟩
  split
  ·exact g1
  ·split
   ·exact ⟨by decide,by decide⟩
   ·exact g0
 ·rw [mon5,z5,(floor_fi hg).2];exact ⟨rfl,hg⟩
 ·rw [mon6,z6,(floor_fi hg).1];exact ⟨rfl,hg⟩
 ·rw [mon7,z7,abs_fi hg]
  refine ⟨rfl,?_⟩
  split
  ·exact hn
  ·exact hg
 ·have f0:flagF false=fi 0:=flagF_fi false
  have f1:flagF true=fi 1:=flagF_fi true
  rw [z8]
  rcases h01 rfl with rfl | rfl
  ·rw [Int.sub_zero,<- f0,<- f1];exact ⟨monP_not false,g1⟩
  ·rw [Int.sub_self,<- f0,<- f1];exact ⟨monP_not true,g0⟩
theorem monZ_bad {z:Int} (hg:Good z) (h0:z≠0) (h1:z≠1):monP 8 (fi z)=(0,24):=by
 have h:isT (fi z)=false:=by
  unfold isT
  refine decide_eq_false ?_
  rintro (h | h)
  ·rw [<- fi_zero] at h
   have h2:=wholeP_fi hg
   rw [h,wholeP_fi ⟨by decide,by decide⟩] at h2
   injection h2 with h2
   exact h0 h2.symm
  ·rw [<- fi_one] at h
   have h2:=wholeP_fi hg
   rw [h,wholeP_fi ⟨by decide,by decide⟩] at h2
   injection h2 with h2
   exact h1 h2.symm
 show (if isT (fi z)=true then (flagF (!tv (fi z)),(0:Int)) else (0,24))=_
 rw [h];rfl
theorem below_drewN {B:Nat}{a w:World} (h:Below B a w) (k:Nat):Below B a (w.drewN k):=⟨h.os,h.tape,h.output,h.size,h.block⟩
theorem ints_same (va vb:Value) (s:List Int) (w:World) (ha:Reads1 w va (s.map (Value.int .i64))) (hb:Reads1 w vb (s.map (Value.int .i64))) (hl:s.length<=1048576) :
  Calls Tryz.prog 133 #[va,vb] w fun e w'=>e= .returned (.bool true)/\Below w.heap.size w w':=by
 obtain ⟨A,n,c,rfl,hn,hcell⟩:=int_open ha
 obtain ⟨A2,n2,c2,rfl,hn2,hcell2⟩:=int_open hb
 obtain rfl:n2=n:=by omega
 have HC:=Lib.hid hcell
 have HC2:=Lib.hid hcell2
 have HN:=Lib.hid hn
 have hnb:n2<=1048576:=by omega
 have hne:((n2:Int) != (n2:Int))=false:=by simp
 clear ha hb hl hn hn2 hcell hcell2
 go_enter Tryz.func133,Tryz.ntmps133
 go_wp2
 go_loopw [5] (fun i wr=>∃ k:Nat,k<=n2/\i= .int .i64 (k:Int)/\Below w.heap.size w wr) (fun i _=>n2 - (intOf i).toNat)
 case atStart=>exact ⟨0,Nat.zero_le _,rfl,Below.refl _ _⟩
 case round =>
  obtain ⟨k,hk,rfl,hbl⟩:=hrel
  have HBL:=Lib.hid hbl
  by_cases hlt:k < n2
  ·have hks:k < s.length:=by have:=HN.out;omega
   obtain ⟨b,o,rfl,hce⟩:=HC.out k hks
   obtain ⟨b',o',rfl,hce'⟩:=HC2.out k hks
   have c1:=cell_up hbl hce
   have c2':=cell_up hbl hce'
   generalize s[k]=x at c1 c2'
   have hxe:(x != x)=false:=by simp
   have hlt2:(k:Int) < (n2:Int):=by omega
   clear hce hce' hbl
   go_wp2
   go_quiet (fail)
   go_wp2
   go_roundw
   case rel=>exact ⟨k+1,by omega,by go_num,below_drewN HBL.out _⟩
   case measure=>simp [intOf];omega
  ·have hge:¬ (k:Int) < (n2:Int):=by omega
   clear hlt hbl
   go_wp2
   go_ret
   exact ⟨rfl,HBL.out⟩
theorem Reads1.opnI {w:World}{v:Value}{xs:List Value} (h:Reads1 w v xs):∃ A cc n,v= .slice A n cc/\n=xs.length /\
  ∀ i (hi:i < xs.length),∃ b o,A=some ⟨b,o,none⟩/\∀ w1,Below w.heap.size w w1->w1.cell? ⟨b,o+i,none⟩=some xs[i]:=by
 rcases h with ⟨a,c,rfl,rfl⟩ | ⟨b,o,n,c,rfl,hn,hc⟩
 ·exact ⟨a,c,0,rfl,rfl,fun i hi=>by simp at hi⟩
 ·refine ⟨_,c,n,rfl,hn,fun i hi=>⟨b,o,rfl,fun w1 hb=>?_⟩⟩
  have:=hc i hi
  rw [hb.cell (cell_lt this),this]
def allEqI {α:Type} (p:α->α->Bool):List α->List α->Bool
 | [],[]=>true
 | x::xs,y::ys=>p x y&&allEqI p xs ys
 | _,_=>false
theorem allEqI_len {α:Type}{p:α->α->Bool}:∀ {a b:List α},a.length≠b.length->allEqI p a b=false
 | [],[],h=>by simp at h
 | [],_::_,_=>rfl
 | _::_,[],_=>rfl
 | x::xs,y::ys,h=>by rw [allEqI,allEqI_len (a:=xs) (b:=ys) (by simpa using h)];simp
theorem allEqI_step {α:Type}{p:α->α->Bool}{a b:List α}{k:Nat} (ha:k < a.length) (hb:k < b.length):allEqI p (a.drop k) (b.drop k)=(p a[k] b[k]&&allEqI p (a.drop (k+1)) (b.drop (k+1))):=by
 rw [List.drop_eq_getElem_cons ha,List.drop_eq_getElem_cons hb,allEqI]
theorem allEqI_end {α:Type}{p:α->α->Bool}{a b:List α}{k:Nat} (ha:a.length<=k) (hb:b.length<=k):allEqI p (a.drop k) (b.drop k)=true:=by
 rw [List.drop_eq_nil_of_le ha,List.drop_eq_nil_of_le hb];rfl
def ieqI (a b:Int):Bool:=decide (a=b)
theorem allEqI_iff:∀ {a b:List Int},allEqI ieqI a b=decide (a=b)
 | [],[]=>by simp [allEqI]
 | [],_::_=>by simp [allEqI]
 | _::_,[]=>by simp [allEqI]
 | x::xs,y::ys=>by
  rw [allEqI,allEqI_iff (a:=xs) (b:=ys)]
  unfold ieqI
  simp
theorem equalI_walk (va vb:Value) (la lb:List Int) (w:World) (ha:Reads1 w va (la.map (Value.int .i64))) (hb:Reads1 w vb (lb.map (Value.int .i64))) (hl:la.length<=1048576) (hl2:lb.length<=1048576) :
  Calls Tryz.prog 223 #[va,vb] w fun e w'=>e= .returned (.bool (allEqI ieqI la lb))/\Below w.heap.size w w':=by
 obtain ⟨A,cc,n,rfl,hn,hcell⟩:=ha.opnI
 obtain ⟨A2,cc2,n2,rfl,hn2,hcell2⟩:=hb.opnI
 rw [List.length_map] at hn hn2
 have HC:=Lib.hid hcell
 have HC2:=Lib.hid hcell2
 have HN:=Lib.hid hn
 have HN2:=Lib.hid hn2
 have hb1:n<=1048576:=by omega
 have hb2:n2<=1048576:=by omega
 obtain ⟨R,hR⟩:∃ R,R=allEqI ieqI la lb:=⟨_,rfl⟩
 have HR:Hid (R=allEqI ieqI (la.drop 0) (lb.drop 0)):=hR
 have HLE:Hid (la.length≠lb.length->R=false):=fun h=>by rw [hR];exact allEqI_len h
 have HST:Hid (∀ k (h1:k < la.length) (h2:k < lb.length),allEqI ieqI (la.drop k) (lb.drop k)=(ieqI la[k] lb[k]&&allEqI ieqI (la.drop (k+1)) (lb.drop (k+1)))):=fun k h1 h2=>allEqI_step h1 h2
 have HEN:Hid (∀ k,la.length<=k->lb.length<=k->allEqI ieqI (la.drop k) (lb.drop k)=true):=fun k h1 h2=>allEqI_end h1 h2
 rw [<- hR]
 clear hcell hcell2 hn hn2 ha hb hl hl2 hR
 by_cases hnn:n=n2
 ·subst hnn
  have hne:((n:Int) != (n:Int))=false:=by simp
  go_enter Tryz.func223,Tryz.ntmps223
  go_wp2
  go_loopw [5,13] (fun _ i wr=>∃ k:Nat,k<=n/\i= .int .i64 (k:Int)/\Below w.heap.size w wr/\Hid (R=allEqI ieqI (la.drop k) (lb.drop k))) (fun _ i _=>n - (intOf i).toNat)
  case atStart=>exact ⟨0,Nat.zero_le _,rfl,Below.refl _ _,HR.out⟩
  case round =>
   obtain ⟨k,hk,rfl,hbl,heq⟩:=hrel
   have HBL:=Lib.hid hbl
   by_cases hlt:k < n
   ·have h1:k < la.length:=by have:=HN.out;omega
    have h2:k < lb.length:=by have:=HN2.out;omega
    obtain ⟨b,o,rfl,hce⟩:=HC.out k (by rw [List.length_map];exact h1)
    obtain ⟨b',o',rfl,hce'⟩:=HC2.out k (by rw [List.length_map];exact h2)
    have c1:=hce _ hbl
    have c2:=hce' _ hbl
    rw [List.getElem_map] at c1 c2
    have HS:=Lib.hid (HST.out k h1 h2)
    generalize la[k]=x at *
    generalize lb[k]=y at *
    skip
    cases hxy:ieqI x y with
    | true =>
     have HT:Hid (R=allEqI ieqI (la.drop (k+1)) (lb.drop (k+1))):=by unfold Hid;rw [heq.out,HS.out,hxy];rfl
     obtain rfl:x=y:=by unfold ieqI at hxy;simpa using hxy
     have hfe:(x != x)=false:=by simp
     have hlt2:(k:Int) < (n:Int):=by omega
     clear hxy heq hbl hce hce' HS
     go_wp2
     go_quiet (fail)
     go_wp2
     go_roundw
     case rel=>exact ⟨k+1,by omega,by go_num,below_drewN HBL.out _,HT.out⟩
     case measure=>simp [intOf];omega
    | false =>
     have HT:Hid (R=false):=by unfold Hid;rw [heq.out,HS.out,hxy];rfl
     have hfe:(x != y)=true:=by unfold ieqI at hxy;simpa using hxy
     have hlt2:(k:Int) < (n:Int):=by omega
     clear hxy heq hbl hce hce' HS
     go_wp2
     go_quiet (fail)
     go_wp2
     go_ret
     exact ⟨by rw [HT.out];rfl,below_drewN HBL.out _⟩
   ·have HT:Hid (R=true):=by unfold Hid;rw [heq.out,HEN.out k (by have:=HN.out;omega) (by have:=HN2.out;omega)]
    clear heq hbl
    go_wp2
    go_ret
    exact ⟨by rw [HT.out];rfl,HBL.out⟩
 ·have HT:Hid (R=false):=HLE.out fun e=>hnn (by rw [HN.out,HN2.out,e])
  have hne:((n:Int) != (n2:Int))=true:=by simp;omega
  go_enter Tryz.func223,Tryz.ntmps223
  go_wp2
  go_ret
  exact ⟨by rw [HT.out];rfl,Below.refl _ _⟩
theorem shSame_any {H1 H2:Nat->Prop}{w0:World}{h1 h2:Sl}{s1 s2:List Nat} (g1:ShV H1 w0 h1 s1) (g2:ShV H2 w0 h2 s2) (hl:s1.length<=1048576) (hl2:s2.length<=1048576) (w:World) (hb:Below w0.heap.size w0 w) :
  Calls Tryz.prog 154 #[sv h1,sv h2] w fun e w'=>e= .returned (.bool (decide (s1=s2)))/\Below w.heap.size w w':=by
 have r1:Reads1 w (sv h1) ((s1.map Int.ofNat).map (Value.int .i64)):=by
  rw [List.map_map]
  exact (Keeps.lat g1 (Lat.below hb)).now
 have r2:Reads1 w (sv h2) ((s2.map Int.ofNat).map (Value.int .i64)):=by
  rw [List.map_map]
  exact (Keeps.lat g2 (Lat.below hb)).now
 have e:allEqI ieqI (s1.map Int.ofNat) (s2.map Int.ofNat)=decide (s1=s2):=by
  rw [allEqI_iff]
  refine decide_eq_decide.2 ⟨fun h=>?_,fun h=>by rw [h]⟩
  exact (List.map_inj_right (fun a b h=>by injection h)).1 h
 have HE:=Lib.hid (equalI_walk _ _ _ _ w r1 r2 (by simpa using hl) (by simpa using hl2))
 rw [e] at HE
 clear e r1 r2 g1 g2 hl hl2 hb
 go_enter Tryz.func154,Tryz.ntmps154
 go_wp2_with fail
 refine HE.out.mono ?_
 rintro e w1 ⟨rfl,hb⟩
 have HB:=Lib.hid hb
 clear hb
 go_wp2
 go_ret
 exact ⟨rfl,HB.out⟩
structure A2 (w W:World) (h1:Sl) (p:V8) (h2:Sl) (q:V8):Prop where
 one:At9 W w.heap.size 0 h1 p
 two:At9 W (w.heap.size+1) 0 h2 q
 bel:Below w.heap.size w W
theorem A2.step {w W W':World}{h1 h2:Sl}{p q:V8} (h:A2 w W h1 p h2 q) (hb:Below W.heap.size W W'):A2 w W' h1 p h2 q:=⟨h.one.below hb,h.two.below hb,bel_both h.bel hb⟩
theorem A2.dr {w W:World}{h1 h2:Sl}{p q:V8} (h:A2 w W h1 p h2 q):A2 w W.drew h1 p h2 q:=h.step (Below.refl _ W).drew
theorem A2.self {w W:World}{h1 h2:Sl}{p q:V8} (h:A2 w W h1 p h2 q):A2 w W h1 p h2 q:=h
theorem A2.new (w:World) (h1 h2:Sl) (p q:V8):A2 w ((w.alloc (arrO h1 p)).alloc (arrO h2 q)) h1 p h2 q:=by
 have h:=at9_new (w.alloc (arrO h1 p)) h2 q
 have e:(w.alloc (arrO h1 p)).heap.size=w.heap.size+1:=by simp
 rw [e] at h
 exact ⟨(at9_new w h1 p).below (bel1 _ _),h,bel2 w _ _⟩
theorem a2_s {w W:World}{h1 h2:Sl}{p q:V8} (h:A2 w W h1 p h2 q):((W.cell? ⟨w.heap.size,0,none⟩=some (.slice h1.1 h1.2.1 h1.2.2)/\W.cell? ⟨w.heap.size,1,none⟩=some (.int .i64 p.k)/\W.cell? ⟨w.heap.size,2,none⟩=some (.slice p.b.1 p.b.2.1 p.b.2.2)/\W.cell? ⟨w.heap.size,3,none⟩=some (.int .i64 p.bn)/\W.cell? ⟨w.heap.size,4,none⟩=some (.slice p.s.1 p.s.2.1 p.s.2.2)/\W.cell? ⟨w.heap.size,5,none⟩=some (.slice p.i.1 p.i.2.1 p.i.2.2)/\W.cell? ⟨w.heap.size,6,none⟩=some (.slice p.f.1 p.f.2.1 p.f.2.2)/\W.cell? ⟨w.heap.size,7,none⟩=some (.slice p.c.1 p.c.2.1 p.c.2.2)/\W.cell? ⟨w.heap.size,8,none⟩=some (.slice p.x.1 p.x.2.1 p.x.2.2))/\(W.cell? ⟨w.heap.size+1,0,none⟩=some (.slice h2.1 h2.2.1 h2.2.2)/\W.cell? ⟨w.heap.size+1,1,none⟩=some (.int .i64 q.k)/\W.cell? ⟨w.heap.size+1,2,none⟩=some (.slice q.b.1 q.b.2.1 q.b.2.2)/\W.cell? ⟨w.heap.size+1,3,none⟩=some (.int .i64 q.bn)/\W.cell? ⟨w.heap.size+1,4,none⟩=some (.slice q.s.1 q.s.2.1 q.s.2.2)/\W.cell? ⟨w.heap.size+1,5,none⟩=some (.slice q.i.1 q.i.2.1 q.i.2.2)/\W.cell? ⟨w.heap.size+1,6,none⟩=some (.slice q.f.1 q.f.2.1 q.f.2.2)/\W.cell? ⟨w.heap.size+1,7,none⟩=some (.slice q.c.1 q.c.2.1 q.c.2.2)/\W.cell? ⟨w.heap.size+1,8,none⟩=some (.slice q.x.1 q.x.2.1 q.x.2.2)))/\A2 w W h1 p h2 q:=⟨⟨h.one.c,h.two.c⟩,h⟩
def FrMid (w:World) (h1:Sl) (p:V8) (h2:Sl) (q:V8) (x y:Bool) (u v:Value) (W:World):Prop:=u= .bool x/\v= .bool y/\A2 w W h1 p h2 q
theorem frMid_of {w W:World}{h1 h2:Sl}{p q:V8}{x y:Bool} (h:A2 w W h1 p h2 q):FrMid w h1 p h2 q x y (.bool x) (.bool y) W:=⟨rfl,rfl,h⟩
def FrR (a b:PA) (h1 h2:Sl) (w:World) (e:Ending) (w':World):Prop :=
 (((frameE a b).1=0/\∃ s:Sl,e= .returned (.tuple #[sv s,.int .i64 0])/\((s=h1/\(frameE a b).2=a.shape)\/(s=h2/\(frameE a b).2=b.shape)))\/((frameE a b).1≠0/\e= .returned (.tuple #[vnil,.int .i64 (frameE a b).1])))/\Below w.heap.size w w'
theorem frR_a {a b:PA}{h1 h2:Sl}{w w':World} (e:frameE a b=(0,a.shape)) (hb:Below w.heap.size w w'):FrR a b h1 h2 w (.returned (.tuple #[sv h1,.int .i64 0])) w':=⟨.inl ⟨by rw [e],h1,rfl,.inl ⟨rfl,by rw [e]⟩⟩,hb⟩
theorem frR_b {a b:PA}{h1 h2:Sl}{w w':World} (e:frameE a b=(0,b.shape)) (hb:Below w.heap.size w w'):FrR a b h1 h2 w (.returned (.tuple #[sv h2,.int .i64 0])) w':=⟨.inl ⟨by rw [e],h2,rfl,.inr ⟨rfl,by rw [e]⟩⟩,hb⟩
theorem frR_e {a b:PA}{h1 h2:Sl}{w w':World}{z:Int} (e:frameE a b=(z,[])) (hz:z≠0) (hb:Below w.heap.size w w'):FrR a b h1 h2 w (.returned (.tuple #[vnil,.int .i64 z])) w':=⟨.inr ⟨by rw [e];exact hz,by rw [e]⟩,hb⟩
theorem AV.shp {H:Nat->Prop}{w:World}{a:PA}{h:Sl}{p:V8} (g:AV H w a h p):ShV H w h a.shape:=by
 cases a <;> (rw [AV] at g;exact g.1)
theorem frame_any {Ha Hb:Nat->Prop}{a b:PA}{h1 h2:Sl}{p q:V8} (w:World) (ga:AV Ha w a h1 p) (gb:AV Hb w b h2 q) (sa:a.shape.length<=1048576) (sb:b.shape.length<=1048576) :
  Calls Tryz.prog 118 #[arrV h1 p,arrV h2 q] w (FrR a b h1 h2 w):=by
 obtain ⟨x,hx⟩:∃ x,x=((a.len:Int)==1):=⟨_,rfl⟩
 obtain ⟨y,hy⟩:∃ y,y=((b.len:Int)==1):=⟨_,rfl⟩
 have HSA:=Lib.hid (fun W (hs:A2 w W h1 p h2 q)=>single_any (AV.step ga hs.bel))
 have HSB:=Lib.hid (fun W (hs:A2 w W h1 p h2 q)=>single_any (AV.step gb hs.bel))
 have HSM:=Lib.hid (fun W (hs:A2 w W h1 p h2 q)=>shSame_any ga.shp gb.shp sa sb W hs.bel)
 rw [<- hx] at HSA
 rw [<- hy] at HSB
 have HL1:Hid (h1.2.1=a.shape.length):=ga.shp.len
 have HL2:Hid (h2.2.1=b.shape.length):=gb.shp.len
 have HX:Hid (x=true↔a.len=1):=by unfold Hid;rw [hx];simp;omega
 have HY:Hid (y=true↔b.len=1):=by unfold Hid;rw [hy];simp;omega
 have HS0:=Lib.hid (A2.new w h1 h2 p q)
 clear ga gb hx hy sa sb
 go_enter Tryz.func118,Tryz.ntmps118
 go_wp2_with fail
 obtain ⟨w0,hw0⟩:∃ w0,w0=(w.alloc (arrO h1 p)).alloc (arrO h2 q):=⟨_,rfl⟩
 rw [<- hw0] at HS0 ⊢
 clear hw0
 skip
 go_cut [6,7] from 8 (fun u v wx=>FrMid w h1 p h2 q x y u v wx)
 case first =>
  have hs0:=HS0.out.dr
  have hs00:=HS0.out
  go_region_held3 (fun W=>((W.cell? ⟨w.heap.size,0,none⟩=some (.slice h1.1 h1.2.1 h1.2.2)/\W.cell? ⟨w.heap.size,1,none⟩=some (.int .i64 p.k)/\W.cell? ⟨w.heap.size,2,none⟩=some (.slice p.b.1 p.b.2.1 p.b.2.2)/\W.cell? ⟨w.heap.size,3,none⟩=some (.int .i64 p.bn)/\W.cell? ⟨w.heap.size,4,none⟩=some (.slice p.s.1 p.s.2.1 p.s.2.2)/\W.cell? ⟨w.heap.size,5,none⟩=some (.slice p.i.1 p.i.2.1 p.i.2.2)/\W.cell? ⟨w.heap.size,6,none⟩=some (.slice p.f.1 p.f.2.1 p.f.2.2)/\W.cell? ⟨w.heap.size,7,none⟩=some (.slice p.c.1 p.c.2.1 p.c.2.2)/\W.cell? ⟨w.heap.size,8,none⟩=some (.slice p.x.1 p.x.2.1 p.x.2.2))/\(W.cell? ⟨w.heap.size+1,0,none⟩=some (.slice h2.1 h2.2.1 h2.2.2)/\W.cell? ⟨w.heap.size+1,1,none⟩=some (.int .i64 q.k)/\W.cell? ⟨w.heap.size+1,2,none⟩=some (.slice q.b.1 q.b.2.1 q.b.2.2)/\W.cell? ⟨w.heap.size+1,3,none⟩=some (.int .i64 q.bn)/\W.cell? ⟨w.heap.size+1,4,none⟩=some (.slice q.s.1 q.s.2.1 q.s.2.2)/\W.cell? ⟨w.heap.size+1,5,none⟩=some (.slice q.i.1 q.i.2.1 q.i.2.2)/\W.cell? ⟨w.heap.size+1,6,none⟩=some (.slice q.f.1 q.f.2.1 q.f.2.2)/\W.cell? ⟨w.heap.size+1,7,none⟩=some (.slice q.c.1 q.c.2.1 q.c.2.2)/\W.cell? ⟨w.heap.size+1,8,none⟩=some (.slice q.x.1 q.x.2.1 q.x.2.2)))/\A2 w W h1 p h2 q)
   (first | (with_reducible assumption) | (with_reducible (refine a2_s ?_);repeat (first | (with_reducible assumption) | (with_reducible refine A2.dr ?_))))
   (first
    | (go_at_call 173;(with_reducible refine (HSA.out _ ?_).mono ?_);exact A2.self (by repeat (first | (with_reducible assumption) | (with_reducible refine A2.dr ?_)));rintro e w1 ⟨rfl,hb1⟩;obtain ⟨hc1,hf1⟩:=bcell2 hb1;have hz1:=hb1.size;have hst1:A2 w w1 h1 p h2 q:=A2.step (by repeat (first | (with_reducible assumption) | (with_reducible refine A2.dr ?_))) hb1;clear hb1)
    | (go_at_call 173;(with_reducible refine (HSB.out _ ?_).mono ?_);exact A2.self (by repeat (first | (with_reducible assumption) | (with_reducible refine A2.dr ?_)));rintro e w2 ⟨rfl,hb2⟩;obtain ⟨hc2,hf2⟩:=bcell2 hb2;have hz2:=hb2.size;have hst2:A2 w w2 h1 p h2 q:=A2.step (by repeat (first | (with_reducible assumption) | (with_reducible refine A2.dr ?_))) hb2;clear hb2))
  all_goals
   go_wp2
   go_meet
   (with_reducible exact frMid_of hst2)
 obtain ⟨rfl,rfl,hst⟩:=hcut
 have HST:=Lib.hid hst
 clear hst HS0 HSA HSB
 obtain ⟨A1,n1,c1⟩:=h1
 obtain ⟨B1,n2,c2⟩:=h2
 obtain ⟨d0,d1,d2,d3,d4,d5,d6,d7,d8⟩:=HST.out.one.c
 obtain ⟨g0,g1,g2,g3,g4,g5,g6,g7,g8⟩:=HST.out.two.c
 dsimp only [sv] at HL1 HL2 HSM
 cases x with
 | true =>
  have hla:=HX.out.1 rfl
  cases y with
  | true =>
   have hlb:=HY.out.1 rfl
   by_cases hge:n2<=n1
   ·have e:frameE a b=(0,a.shape):=by unfold frameE;rw [if_pos ⟨hla,hlb,by rw [<- HL1.out,<- HL2.out];exact hge⟩]
    have hge2:(n2:Int)<=(n1:Int):=by omega
    have HE:=Lib.hid e
    clear e hla hlb hge
    go_wp2
    go_ret2
    exact frR_a (h1:=(A1,n1,c1)) HE.out HST.out.bel
   ·have e:frameE a b=(0,b.shape):=by unfold frameE;rw [if_neg (by rw [<- HL1.out,<- HL2.out];exact fun h=>hge h.2.2),if_pos hla]
    have hge2:¬ (n2:Int)<=(n1:Int):=by omega
    have HE:=Lib.hid e
    clear e hla hlb hge
    go_wp2
    go_ret2
    exact frR_b (h2:=(B1,n2,c2)) HE.out HST.out.bel
  | false =>
   have hlb:¬ b.len=1:=fun h=>by have:=HY.out.2 h;cases this
   have e:frameE a b=(0,b.shape):=by unfold frameE;rw [if_neg (fun h=>hlb h.2.1),if_pos hla]
   have HE:=Lib.hid e
   clear e hla hlb
   go_wp2
   go_ret2
   exact frR_b (h2:=(B1,n2,c2)) HE.out HST.out.bel
 | false =>
  have hla:¬ a.len=1:=fun h=>by have:=HX.out.2 h;cases this
  cases y with
  | true =>
   have hlb:=HY.out.1 rfl
   have e:frameE a b=(0,a.shape):=by unfold frameE;rw [if_neg (fun h=>hla h.1),if_neg hla,if_pos hlb]
   have HE:=Lib.hid e
   clear e hla hlb
   go_wp2
   go_ret2
   exact frR_a (h1:=(A1,n1,c1)) HE.out HST.out.bel
  | false =>
   have hlb:¬ b.len=1:=fun h=>by have:=HY.out.2 h;cases this
   have e0:frameE a b=if a.shape.length≠b.shape.length then (22,[]) else if a.shape≠b.shape then (23,[]) else (0,a.shape):=by unfold frameE;rw [if_neg (fun h=>hla h.1),if_neg hla,if_neg hlb]
   by_cases hn:n1=n2
   ·by_cases hs:a.shape=b.shape
    ·have e:frameE a b=(0,a.shape):=by rw [e0,if_neg (by rw [<- HL1.out,<- HL2.out];simpa using hn),if_neg (by simpa using hs)]
     have hne:((n1:Int) != (n2:Int))=false:=by simp;omega
     have HE:=Lib.hid e
     have hds:decide (a.shape=b.shape)=true:=by simpa using hs
     rw [hds] at HSM
     clear e e0 hla hlb hn hs hds
     go_wp2_with fail
     refine (HSM.out _ HST.out).mono ?_
     rintro e w3 ⟨rfl,hb3⟩
     have HS3:=Lib.hid (HST.out.step hb3)
     clear hb3 d0 d1 d2 d3 d4 d5 d6 d7 d8 g0 g1 g2 g3 g4 g5 g6 g7 g8
     obtain ⟨d0,d1,d2,d3,d4,d5,d6,d7,d8⟩:=HS3.out.one.c
     go_wp2
     go_ret2
     exact frR_a (h1:=(A1,n1,c1)) HE.out HS3.out.bel
    ·have e:frameE a b=(23,[]):=by rw [e0,if_neg (by rw [<- HL1.out,<- HL2.out];simpa using hn),if_pos (by simpa using hs)]
     have hne:((n1:Int) != (n2:Int))=false:=by simp;omega
     have HE:=Lib.hid e
     have hds:decide (a.shape=b.shape)=false:=by simpa using hs
     rw [hds] at HSM
     clear e e0 hla hlb hn hs hds
     go_wp2_with fail
     refine (HSM.out _ HST.out).mono ?_
     rintro e w3 ⟨rfl,hb3⟩
     have HS3:=Lib.hid (HST.out.step hb3)
     clear hb3 d0 d1 d2 d3 d4 d5 d6 d7 d8 g0 g1 g2 g3 g4 g5 g6 g7 g8
     go_wp2
     go_ret2
     exact frR_e HE.out (by decide) HS3.out.bel
   ·have e:frameE a b=(22,[]):=by rw [e0,if_pos (by rw [<- HL1.out,<- HL2.out];simpa using hn)]
    have hne:((n1:Int) != (n2:Int))=true:=by simp;omega
    have HE:=Lib.hid e
    clear e e0 hla hlb hn
    go_wp2
    go_ret2
    exact frR_e HE.out (by decide) HST.out.bel
end Go.Proofs.YtiahegjdkejjpaaGreatDoor
