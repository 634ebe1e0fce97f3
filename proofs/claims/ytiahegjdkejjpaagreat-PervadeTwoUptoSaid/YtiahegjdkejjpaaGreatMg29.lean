/- Merged texts. fold.Two at two arrays' lists that go together: what it tells. Conditions: at most 1000000 elements. fold.Two at any two arrays' lists that go together and are no boxes. Conditions: at most 1000000 elements. The walk of value.of over good plain arrays of fill 0. Conditions: at most 1000000 items. The walk of value.of over good plain arrays of fill 1. Conditions: at most 1000000 items. -/
import Derived.Test.YtiahegjdkejjpaaGreatMg27
import Derived.Test.YtiahegjdkejjpaaGreatMg28
import Derived.Test.YtiahegjdkejjpaaGreatMg17
import Derived.Test.YtiahegjdkejjpaaGreatMg22
import Derived.Test.YtiahegjdkejjpaaGreatMg21
import Derived.Test.YtiahegjdkejjpaaGreatMg16
namespace Go.Proofs.YtiahegjdkejjpaaGreat
open Go Go.RowKit Go.Proofs Fl
abbrev NumZ (H : Nat → Prop) (w : World) (p : V8) (l : List Nat) : Prop := NumA H w p l
def FltOut (H : Nat → Prop) (w : World) (r : Int × List Nat) (e : Ending) (w' : World) : Prop :=
 (r.1 = 0 ∧ ∃ u : V8, e = .returned (.tuple #[u.v, .int .i64 0]) ∧ NumZ H w' u r.2 ∧ Below w.heap.size w w') ∨ (r.1 ≠ 0 ∧ ZeroE w r.1 e w')
abbrev TwT (N : Nat) (G : Nat → Nat) (u : Value) (W : World) : Prop := NumV u (leastF G N : Nat) N G W ∨ (N = 0 ∧ u = zbP.v)
theorem leastF_congr {F F' : Nat → Nat} {n : Nat} (h : ∀ j, j < n → F j = F' j) : leastF F n = leastF F' n := by
 induction n with
 | zero => rfl
 | succ n ih =>
  unfold leastF
  rw [ih fun j hj => h j (by omega), h n (by omega)]
theorem getD_range {N : Nat} (G : Nat → Nat) {j : Nat} (hj : j < N) : ((List.range N).map G).getD j 0 = G j := by
 simp [List.getD, hj]
theorem numZ_of {H : Nat → Prop} {w : World} {k : Int} {b : Sl} {bn : Int} {s i f c x : Sl} {N : Nat} {G : Nat → Nat} (h : Keeps H w (TwT N G (vecW k b bn s i f c x))) : NumZ H w ⟨k, b, bn, s, i, f, c, x⟩ ((List.range N).map G) := by
 by_cases hz : N = 0 ∧ vecW k b bn s i f c x = zbP.v
 ·obtain ⟨rfl, h2⟩ := hz
  refine .inr ⟨rfl, ?_⟩
  unfold vecW vecV at h2
  simp only [Value.agg.injEq, Array.mk.injEq, List.cons.injEq, Value.int.injEq, Value.slice.injEq, true_and, and_true] at h2
  obtain ⟨rfl, ⟨b1, b2, b3⟩, rfl, ⟨s1, s2, s3⟩, ⟨i1, i2, i3⟩, ⟨f1, f2, f3⟩, ⟨c1, c2, c3⟩, ⟨x1, x2, x3⟩⟩ := h2
  obtain ⟨b4, b5, b6⟩ := b
  obtain ⟨s4, s5, s6⟩ := s
  obtain ⟨i4, i5, i6⟩ := i
  obtain ⟨f4, f5, f6⟩ := f
  obtain ⟨c4, c5, c6⟩ := c
  obtain ⟨x4, x5, x6⟩ := x
  subst b1 b2 b3 s1 s2 s3 i1 i2 i3 f1 f2 f3 c1 c2 c3 x1 x2 x3
  rfl
 ·have h1 : Keeps H w (NumV (vecW k b bn s i f c x) (leastF G N : Nat) N G) := h.imp fun W h => h.resolve_right hz
  obtain ⟨b', bn', s', i', f', c', x', e⟩ := h1.now.shape
  have ek : k = (leastF G N : Nat) := by
   unfold vecW vecV at e
   simp only [Value.agg.injEq, Array.mk.injEq, List.cons.injEq, Value.int.injEq, true_and] at e
   exact e.1
  subst ek
  have hl : ((List.range N).map G).length = N := by simp
  refine .inl ⟨?_, ?_⟩
  ·show Keeps H w (NumV (vecW _ b bn s i f c x) _ _ _)
   rw [hl]
   exact h1.imp fun W h => h.congr fun j hj => getD_range G hj
  ·show ((leastF G N : Nat) : Int) = _
   rw [hl]
   exact congrArg _ (leastF_congr fun j hj => (getD_range G hj).symm)
theorem fltOut_of {H : Nat → Prop} {w : World} {N : Nat} {G : Nat → Nat} {E : Int} {r : Int × List Nat} (h1 : r.1 = E) (h2 : E = 0 → r.2 = (List.range N).map G) (e : Ending) (w' : World) (h : TwoL H w (TwT N G) E e w') : FltOut H w r e w' := by
 rcases h with ⟨hE, k, b, bn, s, i, f, c, x, he, hk, hb⟩ | ⟨hE, hz⟩
 ·exact .inl ⟨by rw [h1]; exact hE, ⟨k, b, bn, s, i, f, c, x⟩, he, by rw [h2 hE]; exact numZ_of hk, hb⟩
 ·exact .inr ⟨by rw [h1]; exact hE, by rw [h1]; exact hz⟩
theorem vecOk_imp {H : Nat → Prop} {w : World} {R R' : Value → World → Prop} (h : ∀ u W, R u W → R' u W) {e : Ending} {w' : World} (g : VecOk H w R e w') : VecOk H w R' e w' := by
 obtain ⟨k, b, bn, s, i, f, c, x, he, hk, hb⟩ := g
 exact ⟨k, b, bn, s, i, f, c, x, he, hk.imp fun W h1 => h _ _ h1, hb⟩
theorem aapply_L (H : Nat → Prop) (f : Int) (hf : 1 ≤ f) (hf2 : f ≤ 8) (p q : V8) (m n N : Nat) (F G : Nat → Nat) (w : World) (hL : lenP m n = some N) (hH : ∀ b, H b → b < w.heap.size) (hm : m ≤ 1000000) (hn : n ≤ 1000000)
  (hP : ∀ W, Below w.heap.size w W → NumV p.v p.k m F W) (hQ : ∀ W, Below w.heap.size w W → NumV q.v q.k n G W) :
  Calls Tryz.prog 45 #[.int .i64 f, p.v, q.v] w (TwoL H w (TwT N fun c => (oneP pwP f (F (ixP m c)) (G (ixP n c))).1) (numsE N fun c => oneP pwP f (F (ixP m c)) (G (ixP n c))).1) := by
 refine (aapply_any H f hf hf2 p q m n F G w hH hm hn hP hQ).mono ?_
 rintro e w' (⟨h, -⟩ | ⟨N', hN, h⟩)
 ·rw [hL] at h; cases h
 ·rw [hL] at hN
  injection hN with hN
  subst hN
  rcases numsE_cases N (fun c => oneP pwP f (F (ixP m c)) (G (ixP n c))) with ⟨hb, he⟩ | ⟨hb, he⟩
  ·rw [he]
   rcases h with ⟨h1, _⟩ | ⟨_, h⟩
   ·obtain ⟨c, hc, h2⟩ := hb
    exact absurd (h1 c hc) h2
   ·exact .inr ⟨by decide, h⟩
  ·rw [he]
   rcases h with ⟨_, h⟩ | ⟨⟨c, hc, h1⟩, _⟩
   ·exact .inl ⟨rfl, vecOk_imp (fun _ _ h => .inl h) h⟩
   ·exact absurd (hb c hc) h1
theorem rapply_L (H : Nat → Prop) (f : Int) (hf : 11 ≤ f) (hf2 : f ≤ 16) (p q : V8) (m n N : Nat) (F G : Nat → Nat) (w : World) (hL : lenP m n = some N) (hH : ∀ b, H b → b < w.heap.size) (hm : m ≤ 1000000) (hn : n ≤ 1000000)
  (hP : ∀ W, Below w.heap.size w W → NumV p.v p.k m F W) (hQ : ∀ W, Below w.heap.size w W → NumV q.v q.k n G W) :
  Calls Tryz.prog 46 #[.int .i64 f, p.v, q.v] w (TwoL H w (TwT N fun c => (oneP pwP f (F (ixP m c)) (G (ixP n c))).1) (numsE N fun c => oneP pwP f (F (ixP m c)) (G (ixP n c))).1) := by
 refine (rapply_any H f hf hf2 p q m n F G w hH hm hn hP hQ).mono ?_
 have eG : (fun c => oneP pwP f (F (ixP m c)) (G (ixP n c))) = fun c => (flagF (relB f (F (ixP m c)) (G (ixP n c))), 0) := by
  funext c
  exact oneP_rel hf hf2 _ _
 rintro e w' (⟨h, -⟩ | ⟨N', hN, h⟩)
 ·rw [hL] at h; cases h
 ·rw [hL] at hN
  injection hN with hN
  subst hN
  have e1 : ∀ c, oneP pwP f (F (ixP m c)) (G (ixP n c)) = (flagF (relB f (F (ixP m c)) (G (ixP n c))), 0) := fun c => congrFun eG c
  have e2 : (fun c => (oneP pwP f (F (ixP m c)) (G (ixP n c))).1) = fun c => flagF (relB f (F (ixP m c)) (G (ixP n c))) := by funext c; rw [e1]
  rw [e2]
  rcases numsE_cases N (fun c => oneP pwP f (F (ixP m c)) (G (ixP n c))) with ⟨⟨c, hc, hb⟩, he⟩ | ⟨hb, he⟩
  ·exact absurd (by show (oneP pwP f _ _).2 = 0; rw [e1 c]) hb
  ·rw [he]
   refine .inl ⟨rfl, vecOk_imp (fun u W h => .inl ?_) h⟩
   rw [leastF_bits _ _ _ fun j _ => rfl]
   exact h
theorem lapply_L (H : Nat → Prop) (f : Int) (hf : 21 ≤ f) (hf2 : f ≤ 24) (p q : V8) (m n N : Nat) (F G : Nat → Nat) (w : World) (hL : lenP m n = some N) (hH : ∀ b, H b → b < w.heap.size) (hm : m ≤ 1000000) (hn : n ≤ 1000000) (hN0 : 0 < N)
  (hP : ∀ W, Below w.heap.size w W → Calls Tryz.prog 76 #[p.v] W (TsOut m F W)) (hQ : ∀ W, Below w.heap.size w W → Calls Tryz.prog 76 #[q.v] W (TsOut n G W))
  (hLP : ∀ W, Below w.heap.size w W → Calls Tryz.prog 38 #[p.v] W fun e w2 => e = .returned (.int .i64 (m : Nat)) ∧ Below W.heap.size W w2)
  (hLQ : ∀ W, Below w.heap.size w W → Calls Tryz.prog 38 #[q.v] W fun e w2 => e = .returned (.int .i64 (n : Nat)) ∧ Below W.heap.size W w2) :
  Calls Tryz.prog 47 #[.int .i64 f, p.v, q.v] w (TwoL H w (TwT N fun c => (oneP pwP f (F (ixP m c)) (G (ixP n c))).1) (numsE N fun c => oneP pwP f (F (ixP m c)) (G (ixP n c))).1) := by
 refine (lapply_ts H f hf hf2 p q m n N F G w hH hL hN0 (lenP_le hL hm hn) hP hQ hLP hLQ).mono ?_
 rintro e w' (⟨h, -⟩ | ⟨N', hN, h⟩)
 ·cases h
 ·injection hN with hN
  subst hN
  rcases numsE_cases N (fun c => oneP pwP f (F (ixP m c)) (G (ixP n c))) with ⟨⟨c, hc, hb⟩, he⟩ | ⟨hb, he⟩
  ·rw [he]
   rcases h with ⟨h1, _⟩ | ⟨_, h⟩
   ·exact absurd (by show (oneP pwP f _ _).2 = 0; rw [oneP_log hf, logP_yes (h1 c hc)]) hb
   ·exact .inr ⟨by decide, h⟩
  ·rw [he]
   rcases h with ⟨h1, h⟩ | ⟨⟨c, hc, h1⟩, _⟩
   ·refine .inl ⟨rfl, vecOk_imp (fun u W h => .inl ?_) h⟩
    have e3 : ∀ c, c < N → (oneP pwP f (F (ixP m c)) (G (ixP n c))).1 = flagF (logB f (tv (F (ixP m c))) (tv (G (ixP n c)))) := fun c hc => by rw [oneP_log hf, logP_yes (h1 c hc)]
    rw [leastF_bits _ _ _ e3]
    exact NumV.congr h e3
   ·have h2 := hb c hc
    exfalso
    rw [oneP_log hf, logP_no h1] at h2
    exact absurd h2 (by decide)
theorem known_cases {f : Int} (h : knownB f = true) : (1 ≤ f ∧ f ≤ 8) ∨ (11 ≤ f ∧ f ≤ 16) ∨ (21 ≤ f ∧ f ≤ 24) := by
 unfold knownB at h
 rw [decide_eq_true_iff] at h
 omega
theorem clsV_av {H : Nat → Prop} {w : World} {a : PA} {h : Sl} {p : V8} (g : AV H w a h p) : ClsV w p (a.fill : Nat) a.len :=
 ⟨fun W hb => av_class g W hb, fun W hb => av_len g W hb⟩
theorem ftwo_nums (H : Nat → Prop) (f : Int) (hk : knownB f = true) (p q : V8) (m n N : Nat) (F G : Nat → Nat) (w : World) (hL : lenP m n = some N) (hH : ∀ b, H b → b < w.heap.size) (hm : m ≤ 1000000) (hn : n ≤ 1000000)
  {H1 H2 : Nat → Prop} (hP : Keeps H1 w (NumV p.v p.k m F)) (hQ : Keeps H2 w (NumV q.v q.k n G)) :
  Calls Tryz.prog 23 #[.int .i64 f, p.v, q.v] w (FltOut H w (numsE N fun c => oneP pwP f (F (ixP m c)) (G (ixP n c)))) := by
 have hP0 : Keeps (fun _ => False) w (NumV p.v p.k m F) := hP.sub fun _ _ e => e.elim
 have hQ0 : Keeps (fun _ => False) w (NumV q.v q.k n G) := hQ.sub fun _ _ e => e.elim
 have hP1 := fun W (hb : Below w.heap.size w W) => (hP0.step hb).now
 have hQ1 := fun W (hb : Below w.heap.size w W) => (hQ0.step hb).now
 have hfin : ∀ (e : Ending) (w' : World), TwoL H w (TwT N fun c => (oneP pwP f (F (ixP m c)) (G (ixP n c))).1) (numsE N fun c => oneP pwP f (F (ixP m c)) (G (ixP n c))).1 e w' → FltOut H w (numsE N fun c => oneP pwP f (F (ixP m c)) (G (ixP n c))) e w' := by
  intro e w' h
  refine fltOut_of rfl (fun h0 => ?_) e w' h
  rcases numsE_cases N (fun c => oneP pwP f (F (ixP m c)) (G (ixP n c))) with ⟨_, he⟩ | ⟨_, he⟩
  ·rw [he] at h0; exact absurd h0 (by decide)
  ·rw [he]
 rcases known_cases hk with ⟨h1, h2⟩ | ⟨h1, h2⟩ | ⟨h1, h2⟩
 ·exact (twoL_arith H f _ _ p q w hH h1 h2 fun W H' hb hH' => aapply_L H' f h1 h2 p q _ _ N _ _ W hL hH' hm hn (fun W' hb' => hP1 W' (bel_both hb hb')) fun W' hb' => hQ1 W' (bel_both hb hb')).mono hfin
 ·exact (twoL_relate H f _ _ p q w hH h1 h2 fun W H' hb hH' => rapply_L H' f h1 h2 p q _ _ N _ _ W hL hH' hm hn (fun W' hb' => hP1 W' (bel_both hb hb')) fun W' hb' => hQ1 W' (bel_both hb hb')).mono hfin
 ·refine (twoL_logic H f _ _ p q w hH (by omega) (by omega) fun W H' hb hH' => ?_).mono hfin
  by_cases hN : N = 0
  ·have hcP : ClsV W p 0 m := ⟨fun W' hb' => (hP1 W' (bel_both hb hb')).cls, fun W' hb' => (hP1 W' (bel_both hb hb')).len⟩
   have hcQ : ClsV W q 0 n := ⟨fun W' hb' => (hQ1 W' (bel_both hb hb')).cls, fun W' hb' => (hQ1 W' (bel_both hb hb')).len⟩
   refine (lapply_zero f h1 h2 p q _ _ N 0 0 W hN hL hcP hcQ).mono ?_
   rintro e w' ⟨⟨_, _, rfl⟩ | ⟨h, _⟩, hb2⟩
   ·rcases numsE_cases N (fun c => oneP pwP f (F (ixP m c)) (G (ixP n c))) with ⟨⟨c, hc, _⟩, _⟩ | ⟨_, he⟩
    ·omega
    ·rw [he]
     exact .inl ⟨rfl, 1, nilS, 0, nilS, nilS, nilS, nilS, nilS, rfl, fun _ _ _ => .inr ⟨hN, rfl⟩, hb2⟩
   ·rcases h with h | h <;> exact absurd rfl h
  ·exact lapply_L H' f h1 h2 p q _ _ N _ _ W hL hH' hm hn (by omega) (fun W' hb' => truths_any p _ _ W' hm (hP0.step (bel_both hb hb'))) (fun W' hb' => truths_any q _ _ W' hn (hQ0.step (bel_both hb hb'))) (fun W' hb' => (hP1 W' (bel_both hb hb')).len) fun W' hb' => (hQ1 W' (bel_both hb hb')).len
theorem numA_w {H : Nat → Prop} {w : World} {p : V8} {l : List Nat} (g : NumA H w p l) (W : World) (hb : Below w.heap.size w W) : NumW p.v l.length (fun j => l.getD j 0) W := by
 rcases g with h | ⟨rfl, rfl⟩
 ·exact (Keeps.lat h.num (Lat.below hb)).now.numW
 ·exact ⟨class_1 _ _ _ _ _ _ _ W, len_1 _ _ _ _ _ _ _ W, fun j hj => absurd hj (Nat.not_lt_zero _)⟩
theorem numA_wh {H : Nat → Prop} {w : World} {p : V8} {l : List Nat} (g : NumA H w p l) (hl : l.length ≤ 1000000) (W : World) (hb : Below w.heap.size w W) : Calls Tryz.prog 98 #[p.v] W (WhZ (p.k != 4) W) := by
 rcases g with h | ⟨rfl, rfl⟩
 ·exact whZ_num p _ _ W hl fun W' hb' => (Keeps.lat h.num (Lat.below (bel_both hb hb'))).now
 ·exact whZ_zb W
theorem numA_sp {H : Nat → Prop} {w : World} {p : V8} {l : List Nat} (g : NumA H w p l) {N : Nat} (hN : N = 0) (ho : l.length = N ∨ l.length = 1) (W : World) (hb : Below w.heap.size w W) : Calls Tryz.prog 69 #[p.v, .int .i64 (N : Int)] W (SpOutZ p.k l.length N (fun j => l.getD j 0) W) := by
 rcases g with h | ⟨rfl, rfl⟩
 ·exact (spread_any p.k p.b p.bn p.s p.i p.f p.c p.x l.length N _ W (by omega) ho (Keeps.lat h.num (Lat.below hb)).now).mono fun e w' h => spOutZ_of hN h
 ·exact spread_zb N hN _ W
theorem ftwo_zero (H : Nat → Prop) (f : Int) (hk : knownB f = true) (p q : V8) (l1 l2 : List Nat) (N : Nat) (hN : N = 0) (G : Nat → Nat × Int) (w : World) (hL : lenP l1.length l2.length = some N) (hH : ∀ b, H b → b < w.heap.size) (hm : l1.length ≤ 1000000) (hn : l2.length ≤ 1000000)
  {H1 H2 : Nat → Prop} (hP : NumA H1 w p l1) (hQ : NumA H2 w q l2) :
  Calls Tryz.prog 23 #[.int .i64 f, p.v, q.v] w (FltOut H w (numsE N G)) := by
 have hE : numsE N G = (0, (List.range N).map fun c => (G c).1) := by
  rcases numsE_cases N G with ⟨⟨c, hc, _⟩, _⟩ | ⟨_, he⟩
  ·omega
  ·exact he
 have hfin : ∀ (e : Ending) (w' : World), TwoL H w (TwT N fun c => (G c).1) 0 e w' → FltOut H w (numsE N G) e w' := fun e w' h => fltOut_of (by rw [hE]) (fun _ => by rw [hE]) e w' h
 obtain ⟨o1, o2⟩ := lenP_ok hL
 rcases known_cases hk with ⟨h1, h2⟩ | ⟨h1, h2⟩ | ⟨h1, h2⟩
 ·refine (twoL_arith H f _ _ p q w hH h1 h2 fun W H' hb hH' => ?_).mono hfin
  have hL0 : lenP l1.length l2.length = some 0 := by rw [hL, hN]
  refine (aapply_zero H' f h1 h2 p q l1.length l2.length G _ _ _ _ W hL0 hH' hm hn (fun W' hb' => numA_w hP W' (bel_both hb hb')) (fun W' hb' => numA_w hQ W' (bel_both hb hb')) (fun W' hb' => numA_wh hP hm W' (bel_both hb hb')) fun W' hb' => numA_wh hQ hn W' (bel_both hb hb')).mono ?_
  rintro e w' (⟨h, -⟩ | ⟨N', hN', h⟩)
  ·rw [hL] at h; cases h
  ·rw [hL] at hN'
   injection hN' with hN'
   subst hN'
   rcases h with ⟨_, h⟩ | ⟨⟨c, hc, _⟩, _⟩
   ·exact .inl ⟨rfl, vecOk_imp (fun _ _ h => .inl h) h⟩
   ·omega
 ·refine (twoL_relate H f _ _ p q w hH h1 h2 fun W H' hb hH' => ?_).mono hfin
  refine (rapply_zero H' f h1 h2 p q l1.length l2.length N hN _ _ (fun _ => false) W hH' hm hn hL (fun W' hb' => numA_sp hP hN o1 W' (bel_both hb hb')) (fun W' hb' => numA_sp hQ hN o2 W' (bel_both hb hb')) (fun W' hb' => numA_w hP W' (bel_both hb hb')) fun W' hb' => numA_w hQ W' (bel_both hb hb')).mono ?_
  rintro e w' (⟨h, -⟩ | ⟨N', hN', h⟩)
  ·rw [hL] at h; cases h
  ·rw [hL] at hN'
   injection hN' with hN'
   subst hN'
   refine .inl ⟨rfl, vecOk_imp (fun u W h => .inl ?_) h⟩
   have e1 : leastF (fun c => (G c).1) N = 1 := by subst hN; rfl
   rw [e1]
   exact NumV.congr h fun j hj => absurd hj (by omega)
 ·refine (twoL_logic H f _ _ p q w hH (by omega) (by omega) fun W H' hb hH' => ?_).mono hfin
  refine (lapply_zero f h1 h2 p q _ _ N 0 0 W hN hL ⟨fun W' hb' => (numA_w hP W' (bel_both hb hb')).cls, fun W' hb' => (numA_w hP W' (bel_both hb hb')).len⟩ ⟨fun W' hb' => (numA_w hQ W' (bel_both hb hb')).cls, fun W' hb' => (numA_w hQ W' (bel_both hb hb')).len⟩).mono ?_
  rintro e w' ⟨⟨_, _, rfl⟩ | ⟨h, _⟩, hb2⟩
  ·exact .inl ⟨rfl, 1, nilS, 0, nilS, nilS, nilS, nilS, nilS, rfl, fun _ _ _ => .inr ⟨hN, rfl⟩, hb2⟩
  ·rcases h with h | h <;> exact absurd rfl h
theorem ftwo_numsA (H : Nat → Prop) (f : Int) (hk : knownB f = true) (p q : V8) (l1 l2 : List Nat) (N : Nat) (w : World) (hL : lenP l1.length l2.length = some N) (hH : ∀ b, H b → b < w.heap.size) (hm : l1.length ≤ 1000000) (hn : l2.length ≤ 1000000)
  {H1 H2 : Nat → Prop} (hP : NumA H1 w p l1) (hQ : NumA H2 w q l2) :
  Calls Tryz.prog 23 #[.int .i64 f, p.v, q.v] w (FltOut H w (numsE N fun c => oneP pwP f (l1.getD (ixP l1.length c) 0) (l2.getD (ixP l2.length c) 0))) := by
 by_cases hN : N = 0
 ·exact ftwo_zero H f hk p q l1 l2 N hN _ w hL hH hm hn hP hQ
 ·obtain ⟨i1, i2⟩ := ixP_lt hL (show 0 < N by omega)
  rcases hP with hP | ⟨rfl, _⟩
  ·rcases hQ with hQ | ⟨rfl, _⟩
   ·exact ftwo_nums H f hk p q l1.length l2.length N (fun j => l1.getD j 0) (fun j => l2.getD j 0) w hL hH hm hn hP.num hQ.num
   ·exact absurd i2 (Nat.not_lt_zero _)
  ·exact absurd i1 (Nat.not_lt_zero _)
theorem truths_no (p : V8) (z : Int) (n : Nat) (hz : z ≠ 0) (hk : p.k ≠ 1) (h0 : 0 < n) (w : World) (hc : ClsV w p z n) : Calls Tryz.prog 76 #[p.v] w (TsOut n (fun _ => 5) w) :=
 (truths_cls p z n hz hk w hc).mono fun _ _ ⟨h1, h2⟩ => .inr ⟨⟨0, h0, by decide⟩, h1, h2⟩
def mixE (f : Int) (N : Nat) (S : Nat → Bool) : Int × List Nat := if f = 13 ∨ f = 16 then (0, (List.range N).map fun c => flagF (S c == decide (f = 13))) else (24, [])
theorem ftwo_mix (H : Nat → Prop) (f : Int) (hk : knownB f = true) (p q : V8) (m n N : Nat) (z1 z2 : Int) (S : Nat → Bool) (F G : Nat → Nat) (w : World) (hL : lenP m n = some N) (hH : ∀ b, H b → b < w.heap.size) (hm : m ≤ 1000000) (hn : n ≤ 1000000)
  (hz : z1 ≠ 0 ∨ (z1 = 0 ∧ z2 ≠ 0)) (hP : ClsV w p z1 m) (hQ : ClsV w q z2 n)
  (hTP : 0 < m → ∀ W, Below w.heap.size w W → Calls Tryz.prog 76 #[p.v] W (TsOut m F W)) (hTQ : 0 < n → ∀ W, Below w.heap.size w W → Calls Tryz.prog 76 #[q.v] W (TsOut n G W)) (hFG : (∀ j, F j = 5) ∨ ∀ j, G j = 5)
  (hR : 11 ≤ f → f ≤ 16 → ∀ (W : World) (H' : Nat → Prop), Below w.heap.size w W → (∀ b, H' b → b < W.heap.size) → Calls Tryz.prog 46 #[.int .i64 f, p.v, q.v] W (TwoL H' W (TwT N fun c => flagF (S c == decide (f = 13))) (mixE f N S).1)) :
  Calls Tryz.prog 23 #[.int .i64 f, p.v, q.v] w (FltOut H w (mixE f N S)) := by
 have hfin : ∀ (e : Ending) (w' : World), TwoL H w (TwT N fun c => flagF (S c == decide (f = 13))) (mixE f N S).1 e w' → FltOut H w (mixE f N S) e w' := by
  intro e w' h
  refine fltOut_of rfl (fun h0 => ?_) e w' h
  unfold mixE at h0 ⊢
  split at h0
  ·rename_i h3; rw [if_pos h3]
  ·exact absurd h0 (by decide)
 rcases known_cases hk with ⟨h1, h2⟩ | ⟨h1, h2⟩ | ⟨h1, h2⟩
 ·have hE : mixE f N S = (24, []) := if_neg (by omega)
  refine (twoL_arith H f _ _ p q w hH h1 h2 fun W H' hb hH' => ?_).mono hfin
  rw [hE]
  exact (aapply_cls f h1 h2 p q m n N z1 z2 W hz hL (hP.up hb) (hQ.up hb)).mono fun e w' h => .inr ⟨by decide, h⟩
 ·exact (twoL_relate H f _ _ p q w hH h1 h2 (hR h1 h2)).mono hfin
 ·have hE : mixE f N S = (24, []) := if_neg (by omega)
  refine (twoL_logic H f _ _ p q w hH (by omega) (by omega) fun W H' hb hH' => ?_).mono hfin
  rw [hE]
  by_cases hN : N = 0
  ·refine (lapply_zero f h1 h2 p q _ _ N z1 z2 W hN hL (hP.up hb) (hQ.up hb)).mono ?_
   rintro e w' ⟨⟨h3, h4, _⟩ | ⟨_, h⟩, hb2⟩
   ·rcases hz with hz | ⟨_, hz⟩
    ·exact absurd h3 hz
    ·exact absurd h4 hz
   ·exact .inr ⟨by decide, h, hb2⟩
  ·obtain ⟨o1, o2⟩ := ixP_lt hL (show 0 < N by omega)
   refine (lapply_ts H' f h1 h2 p q m n N F G W hH' hL (by omega) (lenP_le hL hm hn) (fun W' hb' => hTP (by omega) W' (bel_both hb hb')) (fun W' hb' => hTQ (by omega) W' (bel_both hb hb')) (fun W' hb' => hP.len W' (bel_both hb hb')) fun W' hb' => hQ.len W' (bel_both hb hb')).mono ?_
   have hno : (isT (F (ixP m 0)) && isT (G (ixP n 0))) = false := by
    rcases hFG with h | h
    ·rw [h]; rfl
    ·rw [h, Bool.and_comm]; rfl
   rintro e w' (⟨h, -⟩ | ⟨N', hN', h⟩)
   ·cases h
   ·injection hN' with hN'
    subst hN'
    rcases h with ⟨h3, _⟩ | ⟨_, h⟩
    ·have h4 : (isT (F (ixP m 0)) && isT (G (ixP n 0))) = true := h3 0 (by omega)
     rw [hno] at h4
     cases h4
    ·exact .inr ⟨by decide, h⟩
theorem rel_alike (f : Int) (h1 : 11 ≤ f) (h2 : f ≤ 16) (H : Nat → Prop) (p q : V8) (m n N : Nat) (F G : Nat → Int) (w : World) (hH : ∀ b, H b → b < w.heap.size) (hL : lenP m n = some N) (hm : m ≤ 1000000) (hn : n ≤ 1000000) (hP : ClsV w p 1 m) (hQ : ClsV w q 1 n)
  (hCP : ∀ W, Below w.heap.size w W → ∀ j, j < m → Calls Tryz.prog 55 #[p.v, .int .i64 (j : Nat)] W fun e w' => e = .returned (.int .i32 (F j)) ∧ Below W.heap.size W w') (hCQ : ∀ W, Below w.heap.size w W → ∀ j, j < n → Calls Tryz.prog 55 #[q.v, .int .i64 (j : Nat)] W fun e w' => e = .returned (.int .i32 (G j)) ∧ Below W.heap.size W w') :
  Calls Tryz.prog 46 #[.int .i64 f, p.v, q.v] w (TwoL H w (TwT N fun c => flagF ((fun c => decide (F (ixP m c) = G (ixP n c))) c == decide (f = 13))) (mixE f N fun c => decide (F (ixP m c) = G (ixP n c))).1) := by
 refine rapply_alike H f h1 h2 p q m n N _ _ w hH hL hP hQ fun W H' hb hH' => ?_
 by_cases h13 : f = 13
 ·subst h13
  refine (rchars_alike13 H' p q m n N F G W hH' hL hm hn (hP.up hb) (hQ.up hb) (fun W' hb' => hCP W' (bel_both hb hb')) fun W' hb' => hCQ W' (bel_both hb hb')).mono fun e w' h => .inl ⟨rfl, vecOk_imp (fun u W h => .inl ?_) h⟩
  rw [leastF_bits _ _ _ fun j _ => rfl]
  exact NumV.congr h fun j _ => by simp
 ·by_cases h16 : f = 16
  ·subst h16
   refine (rchars_alike16 H' p q m n N F G W hH' hL hm hn (hP.up hb) (hQ.up hb) (fun W' hb' => hCP W' (bel_both hb hb')) fun W' hb' => hCQ W' (bel_both hb hb')).mono fun e w' h => .inl ⟨rfl, vecOk_imp (fun u W h => .inl ?_) h⟩
   rw [leastF_bits _ _ _ fun j _ => rfl]
   exact NumV.congr h fun j _ => by simp
  ·have hE : mixE f N (fun c => decide (F (ixP m c) = G (ixP n c))) = (24, []) := if_neg (by omega)
   rw [hE]
   exact (rchars_bad f h13 h16 p q N W).mono fun e w' h => .inr ⟨by decide, h⟩
theorem rel_unlike (f : Int) (h1 : 11 ≤ f) (h2 : f ≤ 16) (H : Nat → Prop) (p q : V8) (m n N : Nat) (z1 z2 : Int) (hz : z1 ≠ z2) (hy1 : z1 ≠ 2) (hy2 : z2 ≠ 2) (w : World) (hH : ∀ b, H b → b < w.heap.size) (hL : lenP m n = some N) (hm : m ≤ 1000000) (hn : n ≤ 1000000) (hP : ClsV w p z1 m) (hQ : ClsV w q z2 n) :
  Calls Tryz.prog 46 #[.int .i64 f, p.v, q.v] w (TwoL H w (TwT N fun c => flagF ((fun _ => false) c == decide (f = 13))) (mixE f N fun _ => false).1) := by
 refine rapply_unlike H f h1 h2 p q m n N z1 z2 hz hy1 hy2 _ _ w hH hL hP hQ fun W H' hb hH' => ?_
 by_cases h13 : f = 13
 ·subst h13
  refine (rchars_unlike13 H' p q m n N z1 z2 hz W hH' hL hm hn (hP.up hb) (hQ.up hb)).mono fun e w' h => .inl ⟨rfl, vecOk_imp (fun u W h => .inl ?_) h⟩
  rw [leastF_bits _ _ _ fun j _ => rfl]
  exact NumV.congr h fun j _ => by simp
 ·by_cases h16 : f = 16
  ·subst h16
   refine (rchars_unlike16 H' p q m n N z1 z2 hz W hH' hL hm hn (hP.up hb) (hQ.up hb)).mono fun e w' h => .inl ⟨rfl, vecOk_imp (fun u W h => .inl ?_) h⟩
   rw [leastF_bits _ _ _ fun j _ => rfl]
   exact NumV.congr h fun j _ => by simp
  ·have hE : mixE f N (fun _ => false) = (24, []) := if_neg (by omega)
   rw [hE]
   exact (rchars_bad f h13 h16 p q N W).mono fun e w' h => .inr ⟨by decide, h⟩
theorem truths_a {H : Nat → Prop} {w : World} {p : V8} {l : List Nat} (g : NumA H w p l) (hl : l.length ≤ 1000000) (h0 : 0 < l.length) (W : World) (hb : Below w.heap.size w W) : Calls Tryz.prog 76 #[p.v] W (TsOut l.length (fun j => l.getD j 0) W) := by
 rcases g with h | ⟨rfl, _⟩
 ·exact truths_any p _ _ W hl ((h.num.sub fun _ _ e => e.elim : Keeps (fun _ => False) w _).step hb)
 ·exact absurd h0 (Nat.lt_irrefl _)
set_option maxHeartbeats 1000000 in
theorem ftwo_any {H H1 H2 : Nat → Prop} (f : Int) (hk : knownB f = true) {a b : PA} {g1 g2 : Sl} {p q : V8} (w : World) (hH : ∀ b, H b → b < w.heap.size) (ha : AV H1 w a g1 p) (hb : AV H2 w b g2 q) (fa : a.fill ≠ 2) (fb : b.fill ≠ 2)
  (hL : lenP a.len b.len = some (lenE a b)) (hm : a.len ≤ 1000000) (hn : b.len ≤ 1000000) :
  Calls Tryz.prog 23 #[.int .i64 f, p.v, q.v] w (FltOut H w (flatE f a b)) := by
 have hcP := clsV_av ha
 have hcQ := clsV_av hb
 cases a with
 | boxes s l => exact absurd rfl fa
 | nums s l =>
  have hP0 : 0 < l.length → ∀ W, Below w.heap.size w W → Calls Tryz.prog 76 #[p.v] W (TsOut l.length (fun j => l.getD j 0) W) := fun h0 W hw => truths_a ha.nums hm h0 W hw
  cases b with
  | boxes s l => exact absurd rfl fb
  | nums s' l' =>
   rw [flatE_nums]
   exact ftwo_numsA H f hk p q l l' (lenE (.nums s l) (.nums s' l')) w hL hH hm hn ha.nums hb.nums
  | chars s' l' =>
   obtain ⟨c, rfl, _⟩ := hb.chars
   exact ftwo_mix H f hk p _ l.length l'.length (lenE (.nums s l) (.chars s' l')) 0 1 (fun _ => false) (fun j => l.getD j 0) (fun _ => 5) w hL hH hm hn (.inr ⟨rfl, by decide⟩) hcP hcQ hP0 (fun h0 W hw => truths_no _ 1 _ (by decide) (by show (5 : Int) ≠ 1; decide) h0 W (hcQ.up hw)) (.inr fun _ => rfl)
    fun h1 h2 W H' hw hH' => rel_unlike f h1 h2 H' p _ _ _ _ 0 1 (by decide) (by decide) (by decide) W hH' hL hm hn (hcP.up hw) (hcQ.up hw)
 | chars s l =>
  obtain ⟨c, rfl, _⟩ := ha.chars
  cases b with
  | boxes s l => exact absurd rfl fb
  | nums s' l' =>
   have hQ0 : 0 < l'.length → ∀ W, Below w.heap.size w W → Calls Tryz.prog 76 #[q.v] W (TsOut l'.length (fun j => l'.getD j 0) W) := fun h0 W hw => truths_a hb.nums hn h0 W hw
   exact ftwo_mix H f hk _ q l.length l'.length (lenE (.chars s l) (.nums s' l')) 1 0 (fun _ => false) (fun _ => 5) (fun j => l'.getD j 0) w hL hH hm hn (.inl (by decide)) hcP hcQ (fun h0 W hw => truths_no _ 1 _ (by decide) (by show (5 : Int) ≠ 1; decide) h0 W (hcP.up hw)) hQ0 (.inl fun _ => rfl)
    fun h1 h2 W H' hw hH' => rel_unlike f h1 h2 H' _ q _ _ _ 1 0 (by decide) (by decide) (by decide) W hH' hL hm hn (hcP.up hw) (hcQ.up hw)
  | chars s' l' =>
   obtain ⟨c', rfl, _⟩ := hb.chars
   exact ftwo_mix H f hk _ _ l.length l'.length (lenE (.chars s l) (.chars s' l')) 1 1 (sameC (.chars s l) (.chars s' l')) (fun _ => 5) (fun _ => 5) w hL hH hm hn (.inl (by decide)) hcP hcQ (fun h0 W hw => truths_no _ 1 _ (by decide) (by show (5 : Int) ≠ 1; decide) h0 W (hcP.up hw)) (fun h0 W hw => truths_no _ 1 _ (by decide) (by show (5 : Int) ≠ 1; decide) h0 W (hcQ.up hw)) (.inl fun _ => rfl)
    fun h1 h2 W H' hw hH' => rel_alike f h1 h2 H' _ _ _ _ _ (fun j => l.getD j 0) (fun j => l'.getD j 0) W hH' hL hm hn (hcP.up hw) (hcQ.up hw) (fun W' hw' j hj => by
     have e : l.getD j 0 = l[j] := by simp [List.getD, hj]
     rw [e]
     exact vchar_any ha j hj W' (bel_both hw hw')) fun W' hw' j hj => by
     have e : l'.getD j 0 = l'[j] := by simp [List.getD, hj]
     rw [e]
     exact vchar_any hb j hj W' (bel_both hw hw')
set_option maxRecDepth 100000 in
set_option maxHeartbeats 4000000 in
theorem of_0 (H : Nat → Prop) (d : Nat) (hd : d ≤ 40) (sn : List Nat) (items : List RI) (h x : Sl) (w : World) (hH : ∀ b, H b → b < w.heap.size) (hok : OkIs (d + 1) 0 items) (hsn : OkSh sn items.length) (hM : cntP (.mk (sn.map Int.ofNat) items 0) ≤ 1000000) (hr : PV H w (.mk (sn.map Int.ofNat) items 0) h x 0) :
  Calls Tryz.prog 48 #[plV h x 0, .int .i64 ((d + 1 : Nat) : Int)] w (AvR H w (clP (.mk (sn.map Int.ofNat) items 0))) := by
 obtain ⟨hsr, _, hx, hit⟩ := hr.open_
 obtain ⟨A, m, cc⟩ := x
 dsimp only at hx hit
 have hsz : cntP (.mk (sn.map Int.ofNat) items 0) = items.length + (sn.map Int.ofNat).length + 1 + cntIs items := by rw [cntP]
 rw [hsz, List.length_map] at hM
 have hsh : ShV H w h sn := by rw [List.map_map] at hsr; exact hsr
 have HK := Lib.hid hit
 have HMI := Lib.hid hx
 have HSH := Lib.hid hsh
 have hmb : m ≤ 1000000 := by omega
 have HOKI : Hid (∀ i (hi : i < items.length), OkI (d + 1) 0 items[i]) := fun i hi => okIs_at hi hok
 have hpe : prodE sn 1048576 = ((m : Int), 0) := by rw [hx]; exact prodE_ok hsn (by omega)
 have HPR : Hid (∀ W, Below w.heap.size w W → Calls Tryz.prog 43 #[sv h, .int .i64 1048576] W fun e w' => e = .returned (.tuple #[.int .i64 (m : Int), .int .i64 0]) ∧ W = w') := fun W hb => by
  have h1 := product_any (sv h) sn 1048576 W (hsh.step hb).now (by omega)
  rw [hpe] at h1
  exact h1
 have HI0 := Lib.hid (OfI.new w h (A, m, cc) 0)
 obtain ⟨z, hz⟩ : ∃ z : Int, z = ((d + 1 : Nat) : Int) := ⟨_, rfl⟩
 rw [← hz]
 have hz0 : (z == 0) = false := by simp; omega
 have hne : ((m : Int) != (m : Int)) = false := by simp
 have HLN : Hid (sn.length ≤ 1048576) := by unfold Hid; omega
 clear hz hx hsz hM hit hok hsr hr hsn hpe hsh hd
 go_enter Tryz.func48, Tryz.ntmps48
 obtain ⟨c0, c1, c2⟩ := HI0.out.arg
 dsimp only [sv] at c1
 go_wp2_with fail
 refine (HPR.out _ HI0.out.bel).mono ?_
 rintro e w1 ⟨rfl, rfl⟩
 generalize hW : (w.alloc (.cells #[sv h, .slice A m cc, .int .i64 0] 25)).alloc (.cells zeroL 40) = W at *
 clear hW HPR
 go_wp2
 clear c0 c1 c2
 go_loopw [8, 49] (fun v iv wr => ∃ (i : Nat) (vA : Option Addr) (vn vc : Nat), i ≤ m ∧ iv = .int .i64 (i : Int) ∧ v = .slice vA vn vc ∧ Own1 wr (w.heap.size + 2) 50 (.slice vA vn vc) ((items.take i).map fun t => .float .f64 t.numOf) ∧ OfI w h (A, m, cc) 0 wr) (fun _ iv _ => m - (intOf iv).toNat)
 case atStart => exact ⟨0, none, 0, 0, Nat.zero_le _, rfl, rfl, Own1.nil _ _ _, HI0.out⟩
 case round =>
  obtain ⟨i, vA, vn, vc, hi, rfl, rfl, hown, hofi⟩ := hrel
  have HOWN := Lib.hid hown
  have HOF := Lib.hid hofi
  obtain ⟨c0, c1, c2⟩ := hofi.arg
  dsimp only [sv] at c1
  clear hown hofi
  by_cases him : i < m
  ·have him2 : (i : Int) < (m : Int) := by omega
   have hik : i < items.length := by have := HMI.out; omega
   obtain ⟨b, o, k', n', c', y, rfl, -, hiv, hat⟩ := HK.out i hik
   have HTK : Hid (items.take (i + 1) = items.take i ++ [items[i]]) := List.take_succ_eq_append_getElem hik
   have HOI := Lib.hid (HOKI.out i hik)
   have hlb : (items.take i).length ≤ 1000000 := by rw [List.length_take]; omega
   have HLB := Lib.hid hlb
   clear hlb
   generalize items[i] = it at hiv HTK HOI
   cases it with
   | mk kind num char box =>
   obtain ⟨rfl, rfl, rfl, hy, hbx⟩ := hiv.open_
   obtain ⟨yA, ym, yc⟩ := y
   obtain ⟨d0, d1, d2, d3⟩ := hat wr (Lat.below HOF.out.bel)
   dsimp only [sv] at d3
   have hk0 := HOI.out
   rw [OkI] at hk0
   obtain ⟨rfl, hkn, hkb⟩ := hk0
   have hst := fun md => st_item wr 0 0 n' 0 (.slice none 0 0) 53 md
   have g0 := fun o => cell_box1 c0 o
   have g1 := fun o => cell_box1 c1 o
   have g2 := fun o => cell_box1 c2 o
   clear hy hbx hat hiv hkn hkb
   obtain ⟨XB, hXB⟩ : ∃ XB : Obj, XB = .cells #[.int .i64 0, .float .f64 n', .int .i32 c', .slice yA ym yc] 53 := ⟨_, rfl⟩
   have HW1 := Lib.hid (HOF.out.step (bel1 wr XB))
   have HO1 := Lib.hid (HOWN.out.below (bel1 wr XB))
   have HGG : Hid (wr.heap.size + 1 = (wr.alloc XB).heap.size) := by unfold Hid; simp
   have HSZ : Hid (w.heap.size + 2 ≤ (wr.alloc XB).heap.size) := HW1.out.sz
   have HL1 : Hid ((((items.take i).map fun t => Value.float .f64 t.numOf).length + 1) * 8 ≤ 140737488355328) := by unfold Hid; have := HLB.out; rw [List.length_map]; omega
   have HL2 : Hid (((items.take i).map fun t => Value.float .f64 t.numOf).length + 1 ≤ 140737488355328) := by unfold Hid; have := HLB.out; rw [List.length_map]; omega
   subst hXB
   go_wp2_with (at_builtin; go_loud (refine wpList_push1' rfl (.tmp 63) (.tmp 66) 34 50 rfl Tryz.underlying34 (.float .f64 0) 8 info_f64 rfl (w.heap.size + 2) (.slice vA vn vc) ((items.take i).map fun t => Value.float .f64 t.numOf) rfl HO1.out (.float .f64 n') rfl (wr.heap.size + 1) HGG.out rfl HL1.out HL2.out HSZ.out ?_); intro v' w' hown' hbw; (obtain ⟨vA', vn', vc', hvn'⟩ : ∃ A n c, v' = .slice A n c := by (obtain ⟨a, c, e⟩ := hown'.reads.len; exact ⟨a, _, c, e⟩)); subst hvn'; have HV := Lib.hid hown'; have HOF2 := Lib.hid (HW1.out.more (hbw _ (Below.refl _ _))); clear hown' hbw)
   go_roundw
   case rel => exact ⟨i + 1, vA', vn', vc', by omega, by go_num, rfl, by rw [HTK.out, List.map_append]; exact HV.out, HOF2.out⟩
   case measure => simp [intOf]; omega
  ·have hge : ¬ (i : Int) < (m : Int) := by omega
   obtain rfl : i = m := by omega
   have HTL : Hid (items.take i = items) := by unfold Hid; rw [HMI.out]; exact List.take_length
   rw [HTL.out] at HOWN
   have HRD : Hid (Reads1 wr (.slice vA vn vc) ((List.range i).map fun j => .float .f64 ((items.map RI.numOf).getD j 0))) := by
    unfold Hid
    have h1 := HOWN.out.reads
    have h2 := map_range_getD (items.map RI.numOf) 0 (Value.float .f64)
    rw [List.length_map, ← HMI.out, List.map_map] at h2
    rw [h2]; exact h1
   have HG : Hid (∀ j, j < i → okF ((items.map RI.numOf).getD j 0) = true ∧ (items.map RI.numOf).getD j 0 < 18446744073709551616) := fun j hj => by
    have hji : j < items.length := by have := HMI.out; omega
    have h1 := HOKI.out j hji
    have e : (items.map RI.numOf).getD j 0 = items[j].numOf := by simp [List.getD, hji]
    rw [e]
    generalize items[j] = it at h1
    cases it with
    | mk k n c box =>
     rw [OkI] at h1
     exact h1.2.1 h1.1
   have HN := Lib.hid (numbers_tid (fun b => H b ∨ b = w.heap.size + 1) (.slice vA vn vc) i (fun j => (items.map RI.numOf).getD j 0) wr (fun b e => by
    have h1 := HOF.out.sz
    rcases e with e | e
    ·have := hH b e; omega
    ·omega) HRD.out (by omega) (fun j hj => (HG.out j hj).2) (fun j hj => (HG.out j hj).1))
   unfold Vec2R at HN
   go_wp2_with fail
   refine HN.out.mono ?_
   rintro e w2 ⟨k4, b4, bn4, s4, i4, f4, c4, x4, rfl, hkv, hb2⟩
   obtain ⟨p, hp⟩ : ∃ p : V8, p = ⟨k4, b4, bn4, s4, i4, f4, c4, x4⟩ := ⟨_, rfl⟩
   have hkv2 : Keeps (fun b => H b ∨ b = w.heap.size + 1) w2 (NumV p.v (leastF (fun j => tidF ((items.map RI.numOf).getD j 0)) i : Nat) i (fun j => tidF ((items.map RI.numOf).getD j 0))) := by rw [hp]; exact hkv
   clear hkv HN HRD HG
   have hkv := hkv2
   clear hkv2
   have HOF3 := Lib.hid ((HOF.out.step hb2).step (bel1 w2 p.o))
   obtain ⟨y0, y1, y2⟩ := (HOF.out.step hb2).arg
   have gy2 := fun o => cell_box1 y2 o
   have HB3 := Lib.hid (bel_both hb2 (bel1 w2 p.o))
   have HKV := Lib.hid (Keeps.lat hkv (Lat.below (bel1 w2 p.o)))
   have HBP := Lib.hid (boxP_new w2 p)
   obtain ⟨W3, hW3⟩ : ∃ W3, W3 = w2.alloc p.o := ⟨_, rfl⟩
   rw [← hW3] at HOF3 HB3 HKV HBP
   have HH1 : Hid (∀ W : World, W3.heap.size ≤ W.heap.size → ∀ b, (H b ∨ b = w.heap.size + 1) → b < W.heap.size) := fun W hW b e => by
    have h1 := OfI.sz (Hid.out HOF3)
    rcases e with e | e
    ·have := hH b e; omega
    ·omega
   have HSH1 : Hid (∀ W : World, Below W3.heap.size W3 W → ShV (fun b => H b ∨ b = w.heap.size + 1) W h sn) := fun W hb => Keeps.lat (Keeps.lat (Keeps.sub HSH.out (fun b hb e => by
    rcases e with e | e
    ·exact e
    ·omega)) (Lat.below HOF3.out.bel)) (Lat.below hb)
   have HCL := Lib.hid (fun W (hb : Below W3.heap.size W3 W) => clSh_any (HSH1.out W hb) HLN.out (HH1.out W hb.size))
   clear hb2 hkv c0 c1 c2
   subst hp
   dsimp only [V8.o] at hW3
   go_wp2
   rw [← hW3]
   obtain ⟨a0, a1, a2⟩ := HOF3.out.arg
   obtain ⟨⟨z0, z1, z2, z3, z4, z5, z6, z7, z8⟩, zz⟩ := zero_block HOF3.out.res
   obtain ⟨p0, p1, p2, p3, p4, p5, p6, p7⟩ := (show Boxed W3 w2.heap.size k4 (.slice b4.1 b4.2.1 b4.2.2) bn4 (.slice s4.1 s4.2.1 s4.2.2) (.slice i4.1 i4.2.1 i4.2.2) (.slice f4.1 f4.2.1 f4.2.2) (.slice c4.1 c4.2.1 c4.2.2) (.slice x4.1 x4.2.1 x4.2.2) from HBP.out)
   have hl1 : w2.heap.size < W3.heap.size := HBP.out.lt
   have hl2 : w.heap.size + 1 < W3.heap.size := lt_blk HOF3.out.res
   have hl3 : w.heap.size < W3.heap.size := by omega
   clear hW3 gy2 y0 y1 y2
   go_region_with (go_at_call 24; ((with_reducible refine (HCL.out _ ?_).mono ?_); (repeat (first | (with_reducible assumption) | (with_reducible exact Below.refl _ _) | (with_reducible refine Below.drew ?_))); rintro e wa ⟨cA, cn, ccc, rfl, hsh, hba⟩); have HBa := Lib.hid (bel_both (show Below W3.heap.size W3 W3.drew from (Below.refl _ _).drew) hba); have HOFa := Lib.hid (HOF3.out.step HBa.out); (obtain ⟨⟨y0, y1, y2, y3, y4, y5, y6, y7, y8⟩, yy⟩ := zero_block HOFa.out.res); (obtain ⟨q0, q1, q2, q3, q4, q5, q6, q7⟩ := (show Boxed wa w2.heap.size k4 (.slice b4.1 b4.2.1 b4.2.2) bn4 (.slice s4.1 s4.2.1 s4.2.2) (.slice i4.1 i4.2.1 i4.2.2) (.slice f4.1 f4.2.1 f4.2.2) (.slice c4.1 c4.2.1 c4.2.2) (.slice x4.1 x4.2.1 x4.2.2) from HBP.out.below HBa.out)); have HSHa := Lib.hid hsh; clear hba hsh)
   all_goals
    go_wp2
    refine bodyPost_ret (v := .tuple #[arrV (cA, cn, ccc) ⟨k4, b4, bn4, s4, i4, f4, c4, x4⟩, .int .i64 0]) ?_ rfl ⟨(cA, cn, ccc), ⟨k4, b4, bn4, s4, i4, f4, c4, x4⟩, rfl, av_nums HMI.out (Keeps.sub (Keeps.lat HSHa.out (Lat.set9 (G := w.heap.size + 1) (.inr rfl) _ _ _ _ _ _ _ _ _)) (fun _ _ e => .inl e)) (Keeps.sub (Keeps.lat (Keeps.lat HKV.out (Lat.below HBa.out)) (Lat.set9 (G := w.heap.size + 1) (.inr rfl) _ _ _ _ _ _ _ _ _)) (fun _ _ e => .inl e)), below_set9 HOFa.out.bel (Nat.le_succ _) _ _ _ _ _ _ _ _ _⟩
    exact ret_arr2 (fn := Tryz.f48) (p := 4) (u := 5) rfl _ _ (w.heap.size + 1) (by rfl) (set9_block HOFa.out.res _ _ _ _ _ _ _ _ _)
set_option maxRecDepth 100000 in
set_option maxHeartbeats 4000000 in
theorem of_1 (H : Nat → Prop) (d : Nat) (hd : d ≤ 40) (sn : List Nat) (items : List RI) (h x : Sl) (w : World) (hH : ∀ b, H b → b < w.heap.size) (hok : OkIs (d + 1) 1 items) (hsn : OkSh sn items.length) (hM : cntP (.mk (sn.map Int.ofNat) items 1) ≤ 1000000) (hr : PV H w (.mk (sn.map Int.ofNat) items 1) h x 1) :
  Calls Tryz.prog 48 #[plV h x 1, .int .i64 ((d + 1 : Nat) : Int)] w (AvR H w (clP (.mk (sn.map Int.ofNat) items 1))) := by
 obtain ⟨hsr, _, hx, hit⟩ := hr.open_
 obtain ⟨A, m, cc⟩ := x
 dsimp only at hx hit
 have hsz : cntP (.mk (sn.map Int.ofNat) items 1) = items.length + (sn.map Int.ofNat).length + 1 + cntIs items := by rw [cntP]
 rw [hsz, List.length_map] at hM
 have hsh : ShV H w h sn := by rw [List.map_map] at hsr; exact hsr
 have HK := Lib.hid hit
 have HMI := Lib.hid hx
 have HSH := Lib.hid hsh
 have hmb : m ≤ 1000000 := by omega
 have HOKI : Hid (∀ i (hi : i < items.length), OkI (d + 1) 1 items[i]) := fun i hi => okIs_at hi hok
 have hpe : prodE sn 1048576 = ((m : Int), 0) := by rw [hx]; exact prodE_ok hsn (by omega)
 have HPR : Hid (∀ W, Below w.heap.size w W → Calls Tryz.prog 43 #[sv h, .int .i64 1048576] W fun e w' => e = .returned (.tuple #[.int .i64 (m : Int), .int .i64 0]) ∧ W = w') := fun W hb => by
  have h1 := product_any (sv h) sn 1048576 W (hsh.step hb).now (by omega)
  rw [hpe] at h1
  exact h1
 have HI0 := Lib.hid (OfI.new w h (A, m, cc) 1)
 obtain ⟨z, hz⟩ : ∃ z : Int, z = ((d + 1 : Nat) : Int) := ⟨_, rfl⟩
 rw [← hz]
 have hz0 : (z == 0) = false := by simp; omega
 have hne : ((m : Int) != (m : Int)) = false := by simp
 have HLN : Hid (sn.length ≤ 1048576) := by unfold Hid; omega
 clear hz hx hsz hM hit hok hsr hr hsn hpe hsh hd
 go_enter Tryz.func48, Tryz.ntmps48
 obtain ⟨c0, c1, c2⟩ := HI0.out.arg
 dsimp only [sv] at c1
 go_wp2_with fail
 refine (HPR.out _ HI0.out.bel).mono ?_
 rintro e w1 ⟨rfl, rfl⟩
 generalize hW : (w.alloc (.cells #[sv h, .slice A m cc, .int .i64 1] 25)).alloc (.cells zeroL 40) = W at *
 clear hW HPR
 go_wp2
 clear c0 c1 c2
 go_loopw [8, 9, 49] (fun n8 v iv wr => ∃ (i : Nat) (vA : Option Addr) (vn vc : Nat), i ≤ m ∧ iv = .int .i64 (i : Int) ∧ n8 = .slice none 0 0 ∧ v = .slice vA vn vc ∧ Own1 wr (w.heap.size + 2) 21 (.slice vA vn vc) ((items.take i).map fun t => .int .i32 t.charOf) ∧ OfI w h (A, m, cc) 1 wr) (fun _ _ iv _ => m - (intOf iv).toNat)
 case atStart => exact ⟨0, none, 0, 0, Nat.zero_le _, rfl, rfl, rfl, Own1.nil _ _ _, HI0.out⟩
 case round =>
  obtain ⟨i, vA, vn, vc, hi, rfl, rfl, rfl, hown, hofi⟩ := hrel
  have HOWN := Lib.hid hown
  have HOF := Lib.hid hofi
  obtain ⟨c0, c1, c2⟩ := hofi.arg
  dsimp only [sv] at c1
  clear hown hofi
  by_cases him : i < m
  ·have him2 : (i : Int) < (m : Int) := by omega
   have hik : i < items.length := by have := HMI.out; omega
   obtain ⟨b, o, k', n', c', y, rfl, -, hiv, hat⟩ := HK.out i hik
   have HTK : Hid (items.take (i + 1) = items.take i ++ [items[i]]) := List.take_succ_eq_append_getElem hik
   have HOI := Lib.hid (HOKI.out i hik)
   have hlb : (items.take i).length ≤ 1000000 := by rw [List.length_take]; omega
   have HLB := Lib.hid hlb
   clear hlb
   generalize items[i] = it at hiv HTK HOI
   cases it with
   | mk kind num char box =>
   obtain ⟨rfl, rfl, rfl, hy, hbx⟩ := hiv.open_
   obtain ⟨yA, ym, yc⟩ := y
   obtain ⟨d0, d1, d2, d3⟩ := hat wr (Lat.below HOF.out.bel)
   dsimp only [sv] at d3
   have hk0 := HOI.out
   rw [OkI] at hk0
   obtain ⟨rfl, hkn, hkb⟩ := hk0
   have hst := fun md => st_item wr 1 0 n' 0 (.slice none 0 0) 53 md
   have g0 := fun o => cell_box1 c0 o
   have g1 := fun o => cell_box1 c1 o
   have g2 := fun o => cell_box1 c2 o
   clear hy hbx hat hiv hkn hkb
   obtain ⟨XB, hXB⟩ : ∃ XB : Obj, XB = .cells #[.int .i64 1, .float .f64 n', .int .i32 c', .slice yA ym yc] 53 := ⟨_, rfl⟩
   have HW1 := Lib.hid (HOF.out.step (bel1 wr XB))
   have HO1 := Lib.hid (HOWN.out.below (bel1 wr XB))
   have HGG : Hid (wr.heap.size + 1 = (wr.alloc XB).heap.size) := by unfold Hid; simp
   have HSZ : Hid (w.heap.size + 2 ≤ (wr.alloc XB).heap.size) := HW1.out.sz
   have HL1 : Hid ((((items.take i).map fun t => Value.int .i32 t.charOf).length + 1) * 4 ≤ 140737488355328) := by unfold Hid; have := HLB.out; rw [List.length_map]; omega
   have HL2 : Hid (((items.take i).map fun t => Value.int .i32 t.charOf).length + 1 ≤ 140737488355328) := by unfold Hid; have := HLB.out; rw [List.length_map]; omega
   subst hXB
   go_wp2_with (at_builtin; go_loud (refine wpList_push1' rfl (.tmp 70) (.tmp 73) 35 21 rfl Tryz.underlying35 (.int .i32 0) 4 info_i32 rfl (w.heap.size + 2) (.slice vA vn vc) ((items.take i).map fun t => Value.int .i32 t.charOf) rfl HO1.out (.int .i32 c') rfl (wr.heap.size + 1) HGG.out rfl HL1.out HL2.out HSZ.out ?_); intro v' w' hown' hbw; (obtain ⟨vA', vn', vc', hvn'⟩ : ∃ A n c, v' = .slice A n c := by (obtain ⟨a, c, e⟩ := hown'.reads.len; exact ⟨a, _, c, e⟩)); subst hvn'; have HV := Lib.hid hown'; have HOF2 := Lib.hid (HW1.out.more (hbw _ (Below.refl _ _))); clear hown' hbw)
   go_roundw
   case rel => exact ⟨i + 1, vA', vn', vc', by omega, by go_num, rfl, rfl, by rw [HTK.out, List.map_append]; exact HV.out, HOF2.out⟩
   case measure => simp [intOf]; omega
  ·have hge : ¬ (i : Int) < (m : Int) := by omega
   obtain rfl : i = m := by omega
   have HTL : Hid (items.take i = items) := by unfold Hid; rw [HMI.out]; exact List.take_length
   rw [HTL.out] at HOWN
   have HRD : Hid (Reads1 wr (.slice vA vn vc) ((items.map RI.charOf).map (Value.int .i32))) := by
    unfold Hid
    rw [List.map_map]
    exact HOWN.out.reads
   have HN := Lib.hid (numbers_tid (fun b => H b ∨ b = w.heap.size + 1) (.slice none 0 0) 0 (fun _ => 0) wr (fun b e => by
    have h1 := HOF.out.sz
    rcases e with e | e
    ·have := hH b e; omega
    ·omega) (.inl ⟨none, 0, rfl, rfl⟩) (by omega) (fun j hj => by omega) (fun j hj => by omega))
   unfold Vec2R at HN
   go_wp2_with fail
   refine HN.out.mono ?_
   rintro e w2 ⟨k4, b4, bn4, s4, i4, f4, c4, x4, rfl, -, hb2⟩
   obtain ⟨y0, y1, y2⟩ := (HOF.out.step hb2).arg
   have gy2 := fun o => cell_box1 y2 o
   have HB2 := Lib.hid hb2
   have HCH := Lib.hid (fun o : Obj => chars_any (HRD.out.below (bel_both hb2 (bel1 w2 o))) (show (items.map RI.charOf).length ≤ 1000000 by rw [List.length_map, ← HMI.out]; omega))
   clear hb2 c0 c1 c2 HN
   go_wp2_with fail
   refine (HCH.out _).mono ?_
   rintro e w3 ⟨u, rfl, hou, hb3⟩
   obtain ⟨uA, un, uc, huv⟩ : ∃ A n c, u = .slice A n c := by obtain ⟨a, c, e⟩ := hou.reads.len; exact ⟨a, _, c, e⟩
   subst huv
   have HK3 := Lib.hid (block_up hb3)
   obtain ⟨⟨b0, b1, b2, b3, b4', b5, b6, b7⟩, bz⟩ := boxed_of HK3.out
   have HB3a := Lib.hid (bel_both HB2.out (bel_both (bel1 w2 _) hb3))
   have hlt3 := lt_blk HK3.out
   have HOU := Lib.hid hou
   have hww2 : wr.heap.size ≤ w2.heap.size := HB2.out.size
   clear hou hb3 gy2 y0 y1 y2
   obtain ⟨W3, hW3⟩ : ∃ W3, W3 = set8 w3 w2.heap.size (.int .i64 5) vnil (.int .i64 0) vnil vnil vnil (.slice uA un uc) vnil := ⟨_, rfl⟩
   have HBS : Hid (Below wr.heap.size wr W3) := by unfold Hid; rw [hW3]; exact below_set8 HB3a.out hww2 _ _ _ _ _ _ _ _
   have HOF3 := Lib.hid (HOF.out.step HBS.out)
   have HBP : Hid (Boxed W3 w2.heap.size 5 vnil 0 vnil vnil vnil (.slice uA un uc) vnil) := by unfold Hid; rw [hW3]; exact (boxed_of (set8_block HK3.out _ _ _ _ _ _ _ _)).1
   have hwsz : w.heap.size + 2 ≤ wr.heap.size := HOF.out.sz
   have HKV : Hid (RdH (fun b => H b ∨ b = w.heap.size + 1) W3 (.slice uA un uc) ((items.map RI.charOf).map (Value.int .i32))) := by
    unfold Hid
    rw [hW3]
    have h1 : Keeps (fun b => (H b ∨ b = w.heap.size + 1) ∨ b = w2.heap.size) w3 (fun W => Reads1 W (.slice uA un uc) ((items.map RI.charOf).map (Value.int .i32))) := HOU.out.keepsH fun b e => by
     have h9 : (w2.alloc (.cells #[.int .i64 k4, .slice b4.1 b4.2.1 b4.2.2, .int .i64 bn4, .slice s4.1 s4.2.1 s4.2.2, .slice i4.1 i4.2.1 i4.2.2, .slice f4.1 f4.2.1 f4.2.2, .slice c4.1 c4.2.1 c4.2.2, .slice x4.1 x4.2.1 x4.2.2] 38)).heap.size = w2.heap.size + 1 := by simp
     rw [h9]
     rcases e with (e | e) | e
     ·have := hH b e; omega
     ·omega
     ·omega
    exact (Keeps.set8 h1 (.inr rfl) _ _ _ _ _ _ _ _).sub fun _ _ e => .inl e
   have HH1 : Hid (∀ W : World, W3.heap.size ≤ W.heap.size → ∀ b, (H b ∨ b = w.heap.size + 1) → b < W.heap.size) := fun W hW b e => by
    have h1 := OfI.sz (Hid.out HOF3)
    rcases e with e | e
    ·have := hH b e; omega
    ·omega
   have HSH1 : Hid (∀ W : World, Below W3.heap.size W3 W → ShV (fun b => H b ∨ b = w.heap.size + 1) W h sn) := fun W hb => Keeps.lat (Keeps.lat (Keeps.sub HSH.out (fun b hb e => by
    rcases e with e | e
    ·exact e
    ·omega)) (Lat.below HOF3.out.bel)) (Lat.below hb)
   have HCL := Lib.hid (fun W (hb : Below W3.heap.size W3 W) => clSh_any (HSH1.out W hb) HLN.out (HH1.out W hb.size))
   obtain ⟨a0, a1, a2⟩ := HOF3.out.arg
   rw [hW3] at a2
   dsimp only [set8] at hW3 a2
   clear a0 a1
   go_wp2
   rw [← hW3]
   obtain ⟨a0, a1, a2'⟩ := HOF3.out.arg
   obtain ⟨⟨z0, z1, z2, z3, z4, z5, z6, z7, z8⟩, zz⟩ := zero_block HOF3.out.res
   obtain ⟨p0, p1, p2, p3, p4, p5, p6, p7⟩ := HBP.out
   clear hW3 a2 b0 b1 b2 b3 b4' b5 b6 b7 bz HCH HB3a
   go_region_with (go_at_call 24; ((with_reducible refine (HCL.out _ ?_).mono ?_); (repeat (first | (with_reducible assumption) | (with_reducible exact Below.refl _ _) | (with_reducible refine Below.drew ?_))); rintro e wa ⟨cA, cn, ccc, rfl, hsh, hba⟩); have HBa := Lib.hid (bel_both (show Below W3.heap.size W3 W3.drew from (Below.refl _ _).drew) hba); have HOFa := Lib.hid (HOF3.out.step HBa.out); (obtain ⟨⟨y0, y1, y2, y3, y4, y5, y6, y7, y8⟩, yy⟩ := zero_block HOFa.out.res); (obtain ⟨q0, q1, q2, q3, q4, q5, q6, q7⟩ := (show Boxed wa w2.heap.size 5 vnil 0 vnil vnil vnil (.slice uA un uc) vnil from HBP.out.below HBa.out)); have HSHa := Lib.hid hsh; clear hba hsh)
   all_goals
    go_wp2
    refine bodyPost_ret (v := .tuple #[arrV (cA, cn, ccc) (charsP (uA, un, uc)), .int .i64 0]) ?_ rfl ⟨(cA, cn, ccc), charsP (uA, un, uc), rfl, av_chars (Keeps.sub (Keeps.lat HSHa.out (Lat.set9 (G := w.heap.size + 1) (.inr rfl) _ _ _ _ _ _ _ _ _)) (fun _ _ e => .inl e)) (Keeps.sub (Keeps.lat (Keeps.lat HKV.out (Lat.below HBa.out)) (Lat.set9 (G := w.heap.size + 1) (.inr rfl) _ _ _ _ _ _ _ _ _)) (fun _ _ e => .inl e)), below_set9 HOFa.out.bel (Nat.le_succ _) _ _ _ _ _ _ _ _ _⟩
    exact ret_arr2 (fn := Tryz.f48) (p := 4) (u := 5) rfl _ _ (w.heap.size + 1) (by rfl) (set9_block HOFa.out.res _ _ _ _ _ _ _ _ _)
end Go.Proofs.YtiahegjdkejjpaaGreat
