/- mono.Apply at any array without boxes: what it tells. pervade.One of any good array tells .. Conditions: as each theorem says. -/
import Derived.Test.YtiahegjdkejjpaaGreatDoorMg40
import Derived.Test.YtiahegjdkejjpaaGreatDoorMg37
import Derived.Test.YtiahegjdkejjpaaGreatDoorMg38
namespace Go.Proofs.YtiahegjdkejjpaaGreatDoor
open Go Go.RowKit Go.Proofs Fl
theorem numsE_yes {N:Nat}{G:Nat->Nat×Int} (h:∀ c,c < N->(G c).2=0):numsE N G=(0,(List.range N).map fun c=>(G c).1):=by
 rcases numsE_cases N G with ⟨⟨c,hc,h1⟩,_⟩ | ⟨_,hq⟩
 ·exact absurd (h c hc) h1
 ·exact hq
theorem numsE_no {N:Nat}{G:Nat->Nat×Int}{c:Nat} (hc:c < N) (h:(G c).2≠0):numsE N G=(24,[]):=by
 rcases numsE_cases N G with ⟨_,hq⟩ | ⟨h1,_⟩
 ·exact hq
 ·exact absurd (h1 c hc) h
abbrev moT (f:Int) (n:Nat) (F:Nat->Nat):Value->World->Prop:=TwT n fun c=>(monP f (F c)).1
noncomputable abbrev moE (f:Int) (n:Nat) (F:Nat->Nat):Int:=(numsE n fun c=>monP f (F c)).1
theorem moT_of {f:Int}{n:Nat}{F G:Nat->Nat}{u:Value}{W:World}{k:Int} (hk:k=(leastF G n:Nat)) (hG:∀ j,j < n->monP f (F j)=(G j,0)) (h:NumV u k n G W):moT f n F u W:=by
 subst hk
 have e:leastF (fun c=>(monP f (F c)).1) n=leastF G n:=leastF_congr fun j hj=>by rw [hG j hj]
 refine .inl ?_
 rw [e]
 exact h.congr fun j hj=>by rw [hG j hj]
theorem moE_of {f:Int}{n:Nat}{F G:Nat->Nat} (hG:∀ j,j < n->monP f (F j)=(G j,0)):moE f n F=0:=by
 unfold moE
 rw [numsE_yes fun c hc=>by rw [hG c hc]]
theorem moE_bad {f:Int}{n:Nat}{F:Nat->Nat}{c:Nat} (hc:c < n) (h:monP f (F c)=(0,24)):moE f n F=24:=by
 unfold moE
 rw [numsE_no hc (by rw [h];decide)]
theorem twoB_wo {H:Nat->Prop}{B:Nat}{w w':World}{E:Int->Int}{L:Nat->Int}{n:Nat}{F:Nat->Nat}{f:Int}{e:Ending} (hz:∀ j,j < n->monP f (F j)=(fi (E (L j)),0)) (h:WoOut H B w E L n e w'):TwoB H B w (moT f n F) (moE f n F) e w':=by
 obtain ⟨k,b,bn,s,i,ff,c,x,he,hk,hb⟩:=h
 exact .inl ⟨moE_of hz,k,b,bn,s,i,ff,c,x,he,hk.imp fun W h=>moT_of (G:=fun j=>fi (E (L j))) rfl hz h,hb⟩
theorem twoL_ok {H:Nat->Prop}{w w':World}{n:Nat}{F G:Nat->Nat}{f:Int}{e:Ending}{k:Int} (hk:k=(leastF G n:Nat)) (hz:∀ j,j < n->monP f (F j)=(G j,0)) (h:VecOk H w (fun u W=>NumV u k n G W) e w'):TwoL H w (moT f n F) (moE f n F) e w' :=
 .inl ⟨moE_of hz,vecOk_imp (fun _ _ h=>moT_of hk hz h) h⟩
theorem mwholes_any (H:Nat->Prop) (f:Int) (h1:1<=f) (h8:f<=8) (h4:f≠4) (a:Option Addr) (c n B:Nat) (F:Nat->Nat) (w:World) (hB:B<=w.heap.size) (hH:∀ b,H b->b < B) (hn:n<=1000000) (hown:Own1 w B 2 (.slice a n c) ((List.range n).map fun j => .int .i64 (zOf (F j)))) (hF:∀ j,j < n->Good (zOf (F j))/\F j=fi (zOf (F j))) :
  Calls Tryz.prog 123 #[.int .i64 f,.slice a n c] w (TwoB H B w (moT f n F) (moE f n F)):=by
 have key:∀ j,j < n->(f=8->zOf (F j)=0\/zOf (F j)=1)->monP f (F j)=(fi (monZ f (zOf (F j))),0)/\Good (monZ f (zOf (F j))):=fun j hj h01=>by
  have h:=monZ_fi h1 h8 h4 (hF j hj).1 h01
  rw [<- (hF j hj).2] at h
  exact h
 have m3:∀ z,monZ 3 z=max (-1) (min z 1):=fun z=>by
  show (if 0 < z then (1:Int) else if z < 0 then -1 else 0)=_
  split
  ·omega
  ·split <;> omega
 have m7:∀ z,monZ 7 z=max z (-z):=fun z=>by
  show (if z < 0 then -z else z)=_
  split <;> omega
 have hL:∀ j,j < n->Good (zOf (F j)):=fun j hj=>(hF j hj).1
 rcases (by omega:f=1\/f=2\/f=3\/f=5\/f=6\/f=7\/f=8) with rfl | rfl | rfl | rfl | rfl | rfl | rfl
 ·exact (mwholes_stay H 1 rfl rfl rfl rfl a c n B (fun j=>zOf (F j)) w hB hH hn hown hL hL).mono fun e w' h=>twoB_wo (fun j hj=>(key j hj (fun h=>by cases h)).1) h
 ·exact (mwholes_2 H a c n B (fun j=>zOf (F j)) w hB hH hn hown hL (fun j hj=>(key j hj (fun h=>by cases h)).2)).mono fun e w' h=>twoB_wo (fun j hj=>(key j hj (fun h=>by cases h)).1) h
 ·exact (mwholes_3 H a c n B (fun j=>zOf (F j)) w hB hH hn hown hL (fun j hj=>by have h:=(key j hj (fun h=>by cases h)).2;rw [m3] at h;exact h)).mono fun e w' h=>twoB_wo (fun j hj=>by have h:=(key j hj (fun h=>by cases h)).1;rw [m3] at h;exact h) h
 ·exact (mwholes_stay H 5 rfl rfl rfl rfl a c n B (fun j=>zOf (F j)) w hB hH hn hown hL hL).mono fun e w' h=>twoB_wo (fun j hj=>(key j hj (fun h=>by cases h)).1) h
 ·exact (mwholes_stay H 6 rfl rfl rfl rfl a c n B (fun j=>zOf (F j)) w hB hH hn hown hL hL).mono fun e w' h=>twoB_wo (fun j hj=>(key j hj (fun h=>by cases h)).1) h
 ·exact (mwholes_7 H a c n B (fun j=>zOf (F j)) w hB hH hn hown hL (fun j hj=>by have h:=(key j hj (fun h=>by cases h)).2;rw [m7] at h;exact h)).mono fun e w' h=>twoB_wo (fun j hj=>by have h:=(key j hj (fun h=>by cases h)).1;rw [m7] at h;exact h) h
 ·refine (mwholes_8 H a c n B (fun j=>zOf (F j)) w hB hH hn hown hL (fun j hj h01=>(key j hj (fun _=>h01)).2)).mono ?_
  rintro e w' (⟨h01,h⟩ | ⟨⟨j,hj,h0,h1⟩,he,hb⟩)
  ·exact twoB_wo (fun j hj=>(key j hj (fun _=>h01 j hj)).1) h
  ·have hE:moE 8 n F=24:=moE_bad hj (by rw [(hF j hj).2];exact monZ_bad (hF j hj).1 h0 h1)
   rw [hE]
   exact .inr ⟨by decide,he,hb⟩
theorem wholesO_any (k:Int) (b:Sl) (bn:Int) (s i ff c x:Sl) (n:Nat) (F:Nat->Nat) (W:World) (h1:k≠1) (h4:k≠4) (hn:n<=1000000) (hN:∀ W',Below W.heap.size W W'->NumX k b bn s i ff c x n F W') :
  Calls Tryz.prog 122 #[vecW k b bn s i ff c x] W fun e w'=>∃ a m cc,e= .returned (.tuple #[.slice a m cc,.bool true])/\(m=n/\Own1 w' W.heap.size 2 (.slice a m cc) ((List.range n).map fun j => .int .i64 (zOf (F j))))/\Below W.heap.size W w':=by
 have h0:=hN W (Below.refl _ _)
 have hz:∀ j,j < n->∃ z,Good z/\F j=fi z/\zOf (F j)=z:=fun j hj=>by
  obtain ⟨z,hg,e⟩:=h0.num.ints h4 j hj
  exact ⟨z,hg,e,by rw [e];exact zOf_of (wholeP_fi hg)⟩
 rcases h0.num.kind with rfl | rfl | rfl | rfl
 ·exact absurd rfl h1
 ·refine (wholes_small _ _ _ _ _ _ _ n (fun j=>zOf (F j)) W hn (fun W' hw=>(hN W' hw).num.len) (fun W' hw j hj=>?_)).mono ?_
  ·obtain ⟨z,hg,e,e2⟩:=hz j hj
   rw [e2]
   exact (hN W' hw).num.wholeI h4 j hj z hg e
  ·rintro e w1 ⟨g,rfl,ho,hb⟩
   exact ⟨_,_,_,rfl,⟨rfl,ho⟩,hb⟩
 ·refine (wholes_3 _ _ _ _ _ _ _ _ W (h0.ints rfl) (by simpa using hn) (fun u hu=>by
   obtain ⟨j,_,rfl⟩:=List.mem_map.1 hu
   rfl)).mono ?_
  rintro e w1 ⟨v,rfl,ho,hb⟩
  obtain ⟨a,cc,e⟩:=ho.reads.len
  rw [List.length_map,List.length_range] at e
  subst e
  exact ⟨_,_,_,rfl,⟨rfl,ho⟩,hb⟩
 ·exact absurd rfl h4
theorem cnt_allT (l:Nat->Bool) (n:Nat):cnt l n=n↔∀ j,j < n->(!l j)=false:=by
 induction n with
 | zero=>exact ⟨fun _ j hj=>absurd hj (Nat.not_lt_zero _),fun _=>rfl⟩
 | succ n ih =>
  have hle:=cnt_le l n
  show cnt l n+(if l n then 1 else 0)=n+1↔_
  constructor
  ·intro h j hj
   cases hln:l n with
   | false=>rw [hln] at h;simp at h;omega
   | true =>
    rw [hln] at h
    simp at h
    by_cases e:j=n
    ·rw [e,hln];rfl
    ·exact ih.1 h j (by omega)
  ·intro h
   have h1:=h n (Nat.lt_succ_self n)
   have h2:=ih.2 fun j hj=>h j (by omega)
   cases hln:l n with
   | false=>rw [hln] at h1;cases h1
   | true=>simp;exact h2
theorem mbits_any (f:Int) (hf:1<=f/\f<=8) (b:Sl) (n:Nat) (F:Nat->Nat) (L:Nat->Bool) (hF:∀ j,j < n->F j=flagF (L j)) (hn:n<=1000000) (K:Nat->Prop) (W:World) (hK:∀ b,K b->b < W.heap.size) (hb:BitsAt W b n L) (tz:TzTab W) (hk:Keeps K W (NumV (vecW 1 b (n:Int) nilS nilS nilS nilS nilS) 1 n F)) :
  Calls Tryz.prog 121 #[.int .i64 f,.agg #[.slice b.1 b.2.1 b.2.2,.int .i64 (n:Int)]] W (TwoL K W (moT f n F) (moE f n F)):=by
 have hl:(1:Int)=(leastF F n:Nat):=by rw [leastF_bits F n L hF];rfl
 have stay:(∀ j,j < n->monP f (F j)=(F j,0))->Keeps K W (moT f n F (vecW 1 b (n:Int) nilS nilS nilS nilS nilS)):=fun h=>hk.imp fun W' g=>moT_of hl h g
 by_cases h8:f=8
 ·subst h8
  refine (mbits_8 K b n L W hK hn hb).mono fun e w' h=>twoL_ok (G:=fun j=>flagF (!L j)) ?_ (fun j hj=>?_) h
  ·rw [leastF_bits _ n (fun j => !L j) fun j _=>rfl];rfl
  ·rw [hF j hj];exact monP_not (L j)
 ·by_cases h2:f=2
  ·subst h2
   have hM:n<=64*((n+63) / 64):=by omega
   have hol:=onesL_len (cutB L n) (64*((n+63) / 64))
   refine (mbits_2 K b n (onesL (cutB L n) (64*((n+63) / 64))) L W hK hn (fun i hi=>onesL_in L n _ i hi) (fun j hj=>onesL_all L n _ hM j hj) (by omega) (fun W' hb'=>by
    have h:=bones_any _ n L W' (by omega) (hb.below hb').in (tz.below hb')
    unfold onesV at h
    exact h)).mono fun e w' h=>twoL_ok (G:=fun j=>fi (if L j=true then -1 else 0)) rfl (fun j hj=>?_) h
   rw [hF j hj];exact monP_less (L j)
  ·by_cases h4:f=4
   ·subst h4
    have hall:cnt L n=n->∀ j,j < n->monP 4 (F j)=(F j,0):=fun hc j hj=>by
     have h:=(cnt_allT L n).1 hc j hj
     have h2:L j=true:=by simpa using h
     rw [hF j hj,monP_turn,h2];rfl
    refine (mbits_4 K b n (cnt L n) (moT 4 n F) W hK (cnt_le L n) (fun W' hb'=>count_any _ n L W' (by omega) (hb.below hb').in) fun hc=>stay (hall hc)).mono ?_
    rintro e w' (⟨hc,h⟩ | ⟨hc,he,hb2⟩)
    ·exact .inl ⟨moE_of (hall hc),h⟩
    ·have hbad:∃ j,j < n/\L j=false:=Classical.byContradiction fun hno=>by
      have hh:cnt L n=n:=(cnt_allT L n).2 fun j hj=>by
       cases hL:L j with
       | true=>rfl
       | false=>exact absurd ⟨j,hj,hL⟩ hno
      omega
     obtain ⟨j,hj,hL⟩:=hbad
     have hE:moE 4 n F=24:=moE_bad hj (by rw [hF j hj,monP_turn,hL];rfl)
     rw [hE]
     exact .inr ⟨by decide,he,hb2⟩
   ·have hs:f=1\/f=3\/f=5\/f=6\/f=7:=by omega
    have hst:∀ j,j < n->monP f (F j)=(F j,0):=fun j hj=>by rw [hF j hj];exact monP_stay hs (L j)
    exact (mbits_keep K f h8 h4 h2 b n (moT f n F) W hK (stay hst)).mono fun e w' h => .inl ⟨moE_of hst,h⟩
theorem mapply_two (H:Nat->Prop) (f:Int) (hf:1<=f/\f<=8) (p:V8) (n:Nat) (F:Nat->Nat) (w:World) (hH:∀ b,H b->b < w.heap.size) (hn:n<=1000000) (tz:TzTab w) (hN:Keeps H w (NumV p.v p.k n F)) :
  Calls Tryz.prog 59 #[.int .i64 f,p.v] w (TwoL H w (moT f n F) (moE f n F)):=by
 obtain ⟨k,b,bn,s,i,ff,c,x⟩:=p
 have hN':Keeps H w (NumV (vecW k b bn s i ff c x) k n F):=hN
 have hcl:∀ W,Below w.heap.size w W->Calls Tryz.prog 58 #[vecW k b bn s i ff c x] W fun e w2=>e= .returned (.int .i64 0)/\Below W.heap.size W w2:=fun W hb=>(hN'.step hb).now.cls
 have hst:∀ W,Below w.heap.size w W->NumV (vecW k b bn s i ff c x) k n F W:=fun W hb=>(hN'.step hb).now
 show Calls Tryz.prog 59 #[.int .i64 f,vecW k b bn s i ff c x] w _
 by_cases h1:k=1
 ·subst h1
  obtain ⟨rfl,L,hL,hF⟩:=hN'.now.bits
  refine mapply_bits H f hf b (n:Int) s i ff c x (moT f n F) (moE f n F) w hH hcl fun W hb K hK1 hK2=>?_
  refine mbits_any f hf b n F L hF hn K W hK2 (hL.below hb) (tz.below hb) ?_
  have hk:Keeps K W (NumV (vecW 1 b (n:Int) s i ff c x) 1 n F):=hN'.below' hb K fun b' hb' e=>by
   rcases hK1 b' e with e | e
   ·exact e
   ·omega
  exact hk.imp fun W' g=>by
   obtain ⟨_,L',hL',hF'⟩:=g.bits
   have h:NumV (vecW 1 b (n:Int) nilS nilS nilS nilS nilS) 1 n (fun j=>flagF (L' j)) W':=numV_bits (by omega) ⟨_,rfl,hL'.in⟩
   exact h.congr fun j hj=>hF' j hj
 ·by_cases h4:k≠4/\f≠4
  ·refine mapply_wholes H f hf h4.2 k h1 b bn s i ff c x (moT f n F) (moE f n F) (fun a m cc W B=>m=n/\Own1 W B 2 (.slice a m cc) ((List.range n).map fun j => .int .i64 (zOf (F j)))) w hH hcl (fun W hb=>wholesO_any k b bn s i ff c x n F W h1 h4.1 hn fun W' hb'=>numX_of (hst W' (bel_both hb hb'))) ?_
   rintro W0 W a m cc hb0 hb1 ⟨rfl,ho⟩ K hK
   refine mwholes_any K f hf.1 hf.2 h4.2 a cc m W0.heap.size F W hb1.size hK hn ho fun j hj=>?_
   obtain ⟨z,hg,e⟩:=hN'.now.ints h4.1 j hj
   have e2:zOf (F j)=z:=by rw [e];exact zOf_of (wholeP_fi hg)
   rw [e2];exact ⟨hg,e⟩
  ·have ht:(k != 4)=true->f=4:=fun h=>by
    have hk4:k≠4:=by simpa using h
    exact Classical.byContradiction fun hf4=>h4 ⟨hk4,hf4⟩
   refine (mapply_floats H f hf (k != 4) ht k h1 b bn s i ff c x n F (fun j=>monP f (F j)) (moE f n F) w hH hn hcl (fun W hb=>?_) (fun W hb=>?_) (fun j hj W=>mon_any f hf.1 hf.2 (F j) (hN'.now.tf j hj) W) (fun j hj=>?_) (fun h=>?_) (fun j hj h=>?_)).mono ?_
   ·refine (wholesW_any ⟨k,b,bn,s,i,ff,c,x⟩ n F W hn fun W' hb'=>hst W' (bel_both hb hb')).mono ?_
    rintro e w' ⟨a,m,cc,rfl,-,hb2⟩
    exact ⟨a,m,cc,rfl,hb2⟩
   ·exact nums_num k _ bn _ _ _ _ _ n F W hn fun W' hb'=>hst W' (bel_both hb hb')
   ·rcases monP_cases hf.1 hf.2 (hN'.now.tf j hj) with ⟨y,hy,e⟩ | e
    ·exact ⟨y,0,e,.inl ⟨hy,rfl⟩⟩
    ·exact ⟨0,24,e,.inr ⟨rfl,rfl⟩⟩
   ·unfold moE;rw [numsE_yes h]
   ·unfold moE;rw [numsE_no hj h]
   ·rintro e w' (⟨hE,h⟩ | h)
    ·exact .inl ⟨hE,vecOk_imp (fun _ _ h => .inl h) h⟩
    ·exact .inr h
theorem mapply_nil (H:Nat->Prop) (f:Int) (hf:1<=f/\f<=8) (F:Nat->Nat) (w:World) (hH:∀ b,H b->b < w.heap.size) :
  Calls Tryz.prog 59 #[.int .i64 f,zbP.v] w (TwoL H w (moT f 0 F) (moE f 0 F)):=by
 have hz:∀ j,j < 0->monP f (F j)=(F j,0):=fun j hj=>absurd hj (Nat.not_lt_zero _)
 have hR:∀ (K:Nat->Prop) (W:World),Keeps K W (moT f 0 F (vecW 1 nilS ((0:Nat):Int) nilS nilS nilS nilS nilS)):=fun K W W' _ _ => .inr ⟨rfl,rfl⟩
 refine mapply_bits H f hf nilS ((0:Nat):Int) nilS nilS nilS nilS nilS (moT f 0 F) (moE f 0 F) w hH (fun W _=>class_1 _ _ _ _ _ _ _ W) fun W hb K hK1 hK2=>?_
 by_cases h8:f=8
 ·subst h8
  exact (mbits_8n K F W).mono fun e w' h=>twoL_ok (by rfl) hz h
 ·by_cases h2:f=2
  ·subst h2
   refine (mbits_2 K nilS 0 [] (fun _=>false) W hK2 (by decide) (fun i hi=>absurd hi (Nat.not_lt_zero _)) (fun j hj=>absurd hj (Nat.not_lt_zero _)) (by decide) (fun W' hb'=>ones_nil W')).mono fun e w' h=>twoL_ok (G:=fun j=>fi (if (fun _=>false) j=true then -1 else 0)) rfl (fun j hj=>absurd hj (Nat.not_lt_zero _)) h
  ·by_cases h4:f=4
   ·subst h4
    refine (mbits_4 K nilS 0 0 (moT 4 0 F) W hK2 (Nat.le_refl _) (fun W' hb'=>count_nil W') fun _=>hR K W).mono ?_
    rintro e w' (⟨hc,h⟩ | ⟨hc,_⟩)
    ·exact .inl ⟨moE_of hz,h⟩
    ·exact absurd hc (Nat.not_lt_zero _)
   ·exact (mbits_keep K f h8 h4 h2 nilS 0 (moT f 0 F) W hK2 (hR K W)).mono fun e w' h => .inl ⟨moE_of hz,h⟩
theorem mapply_num {H:Nat->Prop} (f:Int) (hf:1<=f/\f<=8) (p:V8) (l:List Nat) (w:World) (hH:∀ b,H b->b < w.heap.size) (hl:l.length<=1000000) (tz:TzTab w) (g:NumA H w p l) :
  Calls Tryz.prog 59 #[.int .i64 f,p.v] w (FltOut H w (monL f l)):=by
 have fin:∀ e w',TwoL H w (moT f l.length fun j=>l.getD j 0) (moE f l.length fun j=>l.getD j 0) e w'->FltOut H w (monL f l) e w':=fun e w' h =>
  fltOut_of rfl (fun hE=>by
   rcases numsE_cases l.length (fun c=>monP f (l.getD c 0)) with ⟨_,hq⟩ | ⟨_,hq⟩
   ·have h9:(numsE l.length fun c=>monP f (l.getD c 0)).1=0:=hE
    rw [hq] at h9;cases h9
   ·show (numsE l.length fun c=>monP f (l.getD c 0)).2=_
    rw [hq]) e w' h
 rcases g with g | ⟨rfl,rfl⟩
 ·exact (mapply_two H f hf p l.length (fun j=>l.getD j 0) w hH hl tz g.num).mono fun e w' h=>fin e w' h
 ·exact (mapply_nil H f hf (fun j=>([]:List Nat).getD j 0) w hH).mono fun e w' h=>fin e w' h
theorem pone_any:∀ (N:Nat) (H:Nat->Prop) (f:Int) (a:PA) (d:Nat) (h1:Sl) (p:V8) (w:World),(∀ b,H b->b < w.heap.size)->GoodA d a->SmA 1000000 a->depA a < N->TzTab w->AV H w a h1 p ->
  Calls Tryz.prog 13 #[.int .i64 f,arrV h1 p] w (TwR H w (oneE N f a))
 | 0,_,_,_,_,_,_,_,_,_,_,hN,_,_=>absurd hN (Nat.not_lt_zero _)
 | N+1,H,f,a,d,h1,p,w,hH,ga,sa,hN,tz,va=>by
  have la:a.shape.length<=1048576:=by have:a.shape.length<=8:=ga.sh.2.1;omega
  by_cases hf:1<=f/\f<=8
  ·cases a with
   | nums s l =>
    rw [oneE_nums hf]
    refine one_flat f hf (monL f l) w hH va la (show (0:Nat)≠2 by decide) fun W hb K hK1 hK2=>mapply_num f hf p l W hK2 sa.len (tz.below hb) ?_
    exact NumA.lat (NumA.sub va.nums fun b hb e=>hK1 b hb e) (Lat.below hb)
   | chars s l =>
    have e:oneE (N+1) f (.chars s l)=oneR s (24,[]):=by rw [oneE,if_pos hf];rfl
    rw [e]
    refine one_flat f hf (24,[]) w hH va la (show (1:Nat)≠2 by decide) fun W hb K hK1 hK2=>?_
    obtain ⟨k,b,bn,s',i,ff,c,x⟩:=p
    exact mapply_chr K f hf k b bn s' i ff c x W hK2 fun W' hb'=>av_class va W' (bel_both hb hb')
   | boxes s l =>
    rw [oneE_box hf]
    refine one_box f hf (fun i=>oneE N f (l.getD i default)) w hH va la sa.len fun i hi K W u1 v1 hK g hb=>?_
    have e:l.getD i default=l[i]:=by simp [List.getD,hi]
    exact pone_any N K f _ (d - 1) u1 v1 W hK (good_at ga hi) (by rw [e];exact sa.boxes _ hi) (by have:=depA_at (s:=s) hi;omega) (tz.below hb) g
  ·exact one_unknown H f hf h1 p _ (oneE_unknown hf) w
end Go.Proofs.YtiahegjdkejjpaaGreatDoor
