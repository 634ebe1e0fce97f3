/- Merged texts. The walks of Least, Tight and Tidy at a Vec of no truths that lies nowhere. Conditions: none. An array's Vec is tight. Conditions: at most 1000000 elements. The walk of vec.Boxes at any arrays; one array appended, the block's number named. Conditions: as each theorem says. What a function of two numbers makes of two arrays: plain law. Conditions: as each theorem says. How many elements an array and those in its boxes have, at most: plain law. Conditions: as each theorem says. The walk of bitvec.Make, all true. Conditions: as each theorem says. -/
import Derived.Test.YtiahegjdkejjpaaGreatMg14
import Derived.Test.YtiahegjdkejjpaaGreatMg11
import Derived.Test.YtiahegjdkejjpaaGreatMg10
import Derived.Test.YtiahegjdkejjpaaGreatMg05
namespace Go.Proofs.YtiahegjdkejjpaaGreat
open Go Go.RowKit Go.Proofs Fl

abbrev zbV : Value := vecV 1 vnil 0 vnil vnil vnil vnil vnil
set_option maxRecDepth 100000 in
set_option maxHeartbeats 1000000 in
theorem least_zb (w : World) : Calls Tryz.prog 116 #[zbV] w fun e w' => e = .returned (.int .i64 1) ∧ Below w.heap.size w w' := by
  have HC := Lib.hid (fun W => class_1 vnil 0 vnil vnil vnil vnil vnil W)
  have HK := Lib.hid (fun W => vkind_any 1 vnil 0 vnil vnil vnil vnil vnil W)
  have HL := Lib.hid (fun W => len_1 vnil 0 vnil vnil vnil vnil vnil W)
  go_enter Tryz.func116, Tryz.ntmps116
  go_wp2_with fail
  refine (HC.out _).mono ?_
  rintro e w1 ⟨rfl, hb1⟩
  have HB1 := Lib.hid (bel_both (bel1 w _) hb1)
  have HX1 := Lib.hid ((boxed_new w 38 1 vnil 0 vnil vnil vnil vnil vnil).below hb1)
  obtain ⟨h0, h1, h2, h3, h4, h5, h6, h7⟩ := HX1.out
  clear hb1
  go_wp2_with fail
  refine (HK.out _).mono ?_
  rintro e w2 ⟨rfl, hb2⟩
  have HB2 := Lib.hid (bel_both HB1.out hb2)
  have HX2 := Lib.hid (HX1.out.below hb2)
  clear hb2 h0 h1 h2 h3 h4 h5 h6 h7
  obtain ⟨h0, h1, h2, h3, h4, h5, h6, h7⟩ := HX2.out
  go_wp2_with fail
  refine (HL.out _).mono ?_
  rintro e w3 ⟨rfl, hb3⟩
  have HB3 := Lib.hid (bel_both HB2.out hb3)
  clear hb3 h0 h1 h2 h3 h4 h5 h6 h7
  go_wp2_with fail
  refine wp_loop_rounds 1 ?_
  rw [rounds_succ]
  go_wp2
  go_ret
  exact ⟨rfl, HB3.out⟩
set_option maxRecDepth 100000 in
set_option maxHeartbeats 1000000 in
theorem tight_zb (w : World) : Calls Tryz.prog 85 #[zbV] w fun e w' => e = .returned (.bool true) ∧ Below w.heap.size w w' := by
  have HC := Lib.hid (fun W => vkind_any 1 vnil 0 vnil vnil vnil vnil vnil W)
  have HL := Lib.hid (fun W => least_zb W)
  go_enter Tryz.func85, Tryz.ntmps85
  go_wp2_with fail
  go_region_with (first
    | (go_at_call 33; go_loud ((refine (HC.out _).mono ?_); rintro e w1 ⟨rfl, hb1⟩); obtain ⟨hc1, hf1⟩ := bcell2 hb1; have hz1 := hb1.size)
    | (go_at_call 116; go_loud ((refine (HL.out _).mono ?_); rintro e w2 ⟨rfl, hb2⟩); obtain ⟨hc2, hf2⟩ := bcell2 hb2; have hz2 := hb2.size))
  all_goals
    go_wp2
    go_ret
    exact ⟨rfl, bel_both (bel_both (bel1 w _).drew hb1) hb2⟩
set_option maxRecDepth 100000 in
set_option maxHeartbeats 1000000 in
theorem btidy_zb (w : World) : Calls Tryz.prog 87 #[.agg #[.slice none 0 0, .int .i64 0]] w fun e w' => e = .returned (.bool true) ∧ Below w.heap.size w w' := by
  have HB := Lib.hid (bel1 w (.cells #[.slice none 0 0, .int .i64 0] 31))
  have hand : bits .and .i64 0 63 = 0 := by decide
  go_enter Tryz.func87, Tryz.ntmps87
  go_wp2
  go_ret
  exact ⟨rfl, HB.out⟩
end Go.Proofs.YtiahegjdkejjpaaGreat
namespace Go.Proofs.YtiahegjdkejjpaaGreat
open Go Go.RowKit Go.Proofs Fl

theorem av_tight {H : Nat → Prop} {w : World} {a : PA} {h : Sl} {p : V8} (g : AV H w a h p) (hl : a.len ≤ 1000000) (W : World) (hb : Below w.heap.size w W) :
    Calls Tryz.prog 85 #[p.v] W fun e w' => e = .returned (.bool true) ∧ Below W.heap.size W w' := by
  cases a with
  | nums s l =>
    rcases g.nums with h | ⟨rfl, rfl⟩
    · refine (tight_any (n := l.length) (F := fun j => l.getD j 0) hl (fun W' hb' => (Keeps.lat h.num (Lat.below (bel_both hb hb'))).now)).mono ?_
      rintro e w' ⟨rfl, hb2⟩
      refine ⟨?_, hb2⟩
      rw [h.least]
      simp
    · exact tight_zb W
  | chars s l =>
    obtain ⟨c, rfl, _⟩ := g.chars
    exact tight_cls _ _ _ _ _ _ _ _ 1 (by decide) W fun W => class_5 _ _ _ _ _ _ _ W
  | boxes s l =>
    obtain ⟨A, n, c, rfl, _⟩ := g.boxes
    exact tight_cls _ _ _ _ _ _ _ _ 2 (by decide) W fun W => class_6 _ _ _ _ _ _ _ W
end Go.Proofs.YtiahegjdkejjpaaGreat
namespace Go.Proofs.YtiahegjdkejjpaaGreat
open Go Go.RowKit Go.Proofs Fl

theorem ASl.sub {H H' : Nat → Prop} {w : World} {x : Sl} {l : List PA} (hs : ∀ b, b < w.heap.size → H' b → H b) (g : ASl H w x l) : ASl H' w x l := by
  refine ⟨g.1, ?_⟩
  rcases g.2 with g4 | ⟨b, o, g5, hn, g6⟩
  · exact .inl g4
  · cases l with
    | nil => exact .inl ⟨rfl, trivial⟩
    | cons a ar =>
      have hl : b < w.heap.size := by rw [AVs] at g6; obtain ⟨⟨_, _, h9, _⟩, _⟩ := g6; exact h9.lt
      exact .inr ⟨b, o, g5, fun e => hn (hs b hl e), AVs.sub hs g6⟩
theorem Lat.set8 {H : Nat → Prop} {w : World} {G : Nat} (hG : H G) (a0 a1 a2 a3 a4 a5 a6 a7 : Value) : Lat H w (set8 w G a0 a1 a2 a3 a4 a5 a6 a7) :=
  (((((((Lat.set (a := ⟨G, 0, none⟩) hG a0).trans (Lat.set (a := ⟨G, 1, none⟩) hG a1)).trans (Lat.set (a := ⟨G, 2, none⟩) hG a2)).trans (Lat.set (a := ⟨G, 3, none⟩) hG a3)).trans (Lat.set (a := ⟨G, 4, none⟩) hG a4)).trans (Lat.set (a := ⟨G, 5, none⟩) hG a5)).trans (Lat.set (a := ⟨G, 6, none⟩) hG a6)).trans (Lat.set (a := ⟨G, 7, none⟩) hG a7)
/-- a Vec of boxes is told -/
def BxR (H : Nat → Prop) (w : World) (l : List PA) (e : Ending) (w' : World) : Prop := ∃ x : Sl, e = .returned (vecV 6 vnil 0 vnil vnil vnil vnil (sv x)) ∧ ASl H w' x l ∧ Below w.heap.size w w'
set_option maxHeartbeats 1000000 in
theorem boxes_any {H : Nat → Prop} {w : World} {x : Sl} {l : List PA} (g : ASl H w x l) (hl : l.length ≤ 1048576) (hH : ∀ b, H b → b < w.heap.size) : Calls Tryz.prog 41 #[sv x] w (BxR H w l) := by
  have hg2 : ∀ w2, Below w.heap.size w w2 → ASl (fun b => H b ∨ b = w.heap.size) w2 x l := fun w2 hb => (g.sub fun b hb e => by
    rcases e with e | e
    · exact e
    · omega).step hb
  have HC := Lib.hid (clA_any (hg2 _ (bel1 w (.cells #[.int .i64 0, vnil, .int .i64 0, vnil, vnil, vnil, vnil, vnil] 38))) hl (fun b e => by
    rcases e with e | e
    · have := hH b e; simp; omega
    · simp; omega))
  have HH := Lib.hid hH
  clear g hg2 hl hH
  go_enter Tryz.func41, Tryz.ntmps41
  go_wp2_with fail
  refine HC.out.mono ?_
  rintro e w1 ⟨u, rfl, ho, hb1⟩
  have HB1 := Lib.hid ((bel1 w _).trans (hb1.mono (bel1 w _).size))
  obtain ⟨h0, h1, h2, h3, h4, h5, h6, h7⟩ := (boxed_new w 38 0 vnil 0 vnil vnil vnil vnil vnil).below hb1
  have HK := Lib.hid (block_up hb1)
  have hz : ∀ j, w1.frozen? ⟨w.heap.size, j, none⟩ = false := fun j => by rw [hb1.frozen (by simp)]; exact frozen_new _ _ _ _
  obtain ⟨y, rfl, hy⟩ := ho.asl (fun b e => by
    rcases e with e | e
    · have := HH.out b e; simp; omega
    · simp; omega)
  obtain ⟨yA, yn, yc⟩ := y
  have HY := Lib.hid hy
  clear hb1 ho hy
  dsimp only [sv]
  go_wp2
  exact bodyPost_ret (ret_vec rfl _ _ _ rfl (set8_block HK.out _ _ _ _ _ _ _ _)) rfl ⟨(yA, yn, yc), rfl, ASl.sub (fun _ _ e => .inl e) (ASl.lat (Lat.set8 (G := w.heap.size) (.inr rfl) _ _ _ _ _ _ _ _) HY.out), below_set8 HB1.out (Nat.le_refl _) _ _ _ _ _ _ _ _⟩
theorem wpList_pushA' {ops : Array Oper} {rest : List Oper} {o : Oper} {a : Act} {Q : Exit → Act → World → Prop} {w : World} (hgd : o.guard = none) (s x : Operand)
    (ho : o.op = .call { callee := .builtin .append, args := #[s, x], argTypes := #[36, 36] })
    (H : Nat → Prop) (B : Nat) (v : Value) (l : List PA) (hs : a.eval s = v) (hown : AOwn H w B v l) (h : Sl) (p : V8) (A : PA) (hA : AV (fun b => H b ∨ v.ownBlock = some b) w A h p)
    (G : Nat) (hG : G = w.heap.size) (hx : a.eval x = .slice (some ⟨G, 0, none⟩) 1 1) (hl : l.length ≤ 1048576) (hB : B ≤ w.heap.size)
    (k : ∀ v' w', AOwn H w' B v' (l ++ [A]) → (∀ w0, Below B w0 w → Below B w0 w') → wpList Tryz.prog ops Q rest (a.put o.dst v') w') :
    wpList Tryz.prog ops Q (o :: rest) a (w.alloc (arrO h p)) := by
  subst hG
  exact wpList_pushA hgd s x ho H B v l hs hown h p A hA hx hl hB fun v' w' h1 h2 _ _ => k v' w' h1 h2
theorem av_boxed {H : Nat → Prop} {W : World} {sn : List Nat} {items : List RI} {hd x : Sl} (hs : ShV H W hd sn) (hk : ASl H W x (clIs items)) : AV H W (clP (.mk (sn.map Int.ofNat) items 2)) hd (boxesP x) := by
  rw [clP, toNat_of, if_neg (by decide), if_neg (by decide)]
  exact hk.av hs
end Go.Proofs.YtiahegjdkejjpaaGreat
namespace Go.Proofs.YtiahegjdkejjpaaGreat
open Go Go.RowKit Go.Proofs Fl

/-- the shape of what comes of two arrays, and a trouble's number -/
def frameE (a b : PA) : Int × List Nat :=
  if a.len = 1 ∧ b.len = 1 ∧ b.shape.length ≤ a.shape.length then (0, a.shape)
  else if a.len = 1 then (0, b.shape)
  else if b.len = 1 then (0, a.shape)
  else if a.shape.length ≠ b.shape.length then (22, [])
  else if a.shape ≠ b.shape then (23, [])
  else (0, a.shape)
/-- how many elements come of two arrays that go together -/
def lenE (a b : PA) : Nat := if a.len = 1 then b.len else a.len
/-- what goes with a place -/
def partA : PA → Nat → PA
  | .nums _ l, i => .nums [] [l.getD (ixP l.length i) 0]
  | .chars _ l, i => .chars [] [l.getD (ixP l.length i) 0]
  | .boxes _ l, i => l.getD (ixP l.length i) default
/-- results one by one: the first trouble, or all -/
def seqE : List (Int × PA) → Int × List PA
  | [] => (0, [])
  | r :: rs => if r.1 ≠ 0 then (r.1, []) else if (seqE rs).1 ≠ 0 then ((seqE rs).1, []) else (0, r.2 :: (seqE rs).2)
/-- numbers one by one: a trouble, or all -/
noncomputable def numsE (N : Nat) (G : Nat → Nat × Int) : Int × List Nat :=
  @ite _ (∃ c, c < N ∧ (G c).2 ≠ 0) (Classical.propDecidable _) (24, []) (0, (List.range N).map fun c => (G c).1)
/-- are two elements of other kinds, or characters, alike? -/
def sameC : PA → PA → Nat → Bool
  | .chars _ l, .chars _ m, i => decide (l.getD (ixP l.length i) 0 = m.getD (ixP m.length i) 0)
  | _, _, _ => false
/-- elements that are no boxes, one by one -/
noncomputable def flatE (f : Int) (a b : PA) : Int × List Nat :=
  match a, b with
  | .nums _ l, .nums _ m => numsE (lenE a b) fun c => oneP pwP f (l.getD (ixP l.length c) 0) (m.getD (ixP m.length c) 0)
  | _, _ => if f = 13 ∨ f = 16 then (0, (List.range (lenE a b)).map fun c => flagF (sameC a b c == decide (f = 13))) else (24, [])
theorem flatE_nums (f : Int) (sa la sb lb : List Nat) : flatE f (.nums sa la) (.nums sb lb) = numsE (lenE (.nums sa la) (.nums sb lb)) fun c => oneP pwP f (la.getD (ixP la.length c) 0) (lb.getD (ixP lb.length c) 0) := rfl
noncomputable def twoE : Nat → Int → PA → PA → Int × PA
  | 0, _, _, _ => (1, default)
  | N + 1, f, a, b =>
    if knownB f = false then (1, default)
    else if (frameE a b).1 ≠ 0 then ((frameE a b).1, default)
    else if a.fill = 2 ∨ b.fill = 2 then
      let q := seqE ((List.range (lenE a b)).map fun i => twoE N f (partA a i) (partA b i))
      if q.1 ≠ 0 then (q.1, default) else (0, .boxes (frameE a b).2 q.2)
    else if (flatE f a b).1 ≠ 0 then ((flatE f a b).1, default) else (0, .nums (frameE a b).2 (flatE f a b).2)

mutual
/-- how deep boxes lie in one another -/
def depA : PA → Nat
  | .nums _ _ => 0
  | .chars _ _ => 0
  | .boxes _ l => depAs l + 1
def depAs : List PA → Nat
  | [] => 0
  | a :: ar => max (depA a) (depAs ar)
end
theorem depAs_at : ∀ {l : List PA} {i : Nat} (hi : i < l.length), depA l[i] ≤ depAs l
  | [], _, hi => by simp at hi
  | a :: ar, 0, _ => by rw [depAs]; exact Nat.le_max_left _ _
  | a :: ar, i + 1, hi => by
    have := depAs_at (l := ar) (i := i) (by simpa using hi)
    rw [depAs]
    exact Nat.le_trans (by simpa using this) (Nat.le_max_right _ _)
theorem partA_dep {a : PA} {i : Nat} (hi : ixP a.len i < a.len) : depA (partA a i) ≤ depA a ∧ (a.fill = 2 → depA (partA a i) < depA a) := by
  cases a with
  | nums s l => exact ⟨Nat.le_refl _, fun h => by cases h⟩
  | chars s l => exact ⟨Nat.le_refl _, fun h => by cases h⟩
  | boxes s l =>
    have hi' : ixP l.length i < l.length := hi
    have h : depA (partA (.boxes s l) i) ≤ depAs l := by
      show depA (l.getD _ _) ≤ _
      have e : l.getD (ixP l.length i) default = l[ixP l.length i] := by simp [List.getD, hi']
      rw [e]
      exact depAs_at hi'
    have e2 : depA (.boxes s l) = depAs l + 1 := by rw [depA]
    exact ⟨by omega, fun _ => by omega⟩
theorem seqE_ok {rs : List (Int × PA)} (h : ∀ i (hi : i < rs.length), rs[i].1 = 0) : seqE rs = (0, rs.map (·.2)) := by
  induction rs with
  | nil => rfl
  | cons r rs ih =>
    have h0 := h 0 (by simp)
    have h1 := ih fun i hi => by have := h (i + 1) (by simpa using hi); simpa using this
    unfold seqE
    rw [if_neg (by simpa using h0), h1, if_neg (by simp)]
    rfl
theorem seqE_bad {rs : List (Int × PA)} {k : Nat} (hk : k < rs.length) (h : ∀ i (hi : i < k), (rs[i]'(by omega)).1 = 0) (hb : rs[k].1 ≠ 0) : seqE rs = (rs[k].1, []) := by
  induction rs generalizing k with
  | nil => simp at hk
  | cons r rs ih =>
    unfold seqE
    cases k with
    | zero => rw [if_pos (by simpa using hb)]; rfl
    | succ k =>
      have h0 := h 0 (by omega)
      have h1 := ih (k := k) (by simpa using hk) (fun i hi => by have := h (i + 1) (by omega); simpa using this) (by simpa using hb)
      rw [if_neg (by simpa using h0), h1, if_pos (by simpa using hb)]
      rfl
theorem frameE_ok {a b : PA} {d e : Nat} (ha : GoodA d a) (hb : GoodA e b) (h : (frameE a b).1 = 0) : OkSh (frameE a b).2 (lenE a b) ∧ lenP a.len b.len = some (lenE a b) := by
  have h1 := ha.sh.2
  have h2 := hb.sh.2
  unfold frameE at h ⊢
  unfold lenE lenP
  split
  · rename_i hc
    obtain ⟨c1, c2, _⟩ := hc
    rw [if_pos c1, if_pos (by rw [c1, c2])]
    exact ⟨by rw [c2, ← c1]; exact h1, by rw [c1, c2]⟩
  · split
    · rename_i hc
      refine ⟨h2, ?_⟩
      split
      · rename_i e; rw [e]
      · rfl
    · split
      · rename_i hc hc2
        refine ⟨h1, ?_⟩
        split
        · rfl
        · rfl
      · split
        · rename_i g; rw [if_neg (by assumption), if_neg (by assumption), if_neg (by assumption), if_pos g] at h; cases h
        · split
          · rename_i g1 g; rw [if_neg (by assumption), if_neg (by assumption), if_neg (by assumption), if_neg g1, if_pos g] at h; cases h
          · rename_i hc hc2 hc3 hc4 hc5
            have e : a.shape = b.shape := Classical.not_not.1 hc5
            have e2 : a.len = b.len := by rw [← h1.2.2, ← h2.2.2, e]
            exact ⟨h1, if_pos e2⟩

theorem partA_good {a : PA} {d i : Nat} (ha : GoodA d a) (hi : ixP a.len i < a.len) : GoodA d (partA a i) := by
  have h1 : OkSh [] 1 := ⟨by decide, by decide, rfl⟩
  cases a with
  | nums s l =>
    have h := ha.nums _ hi
    rw [GoodA] at ha
    show GoodA d (.nums [] [l.getD _ _])
    rw [GoodA]
    refine ⟨ha.1, h1, fun x hx => ?_⟩
    obtain rfl : x = l.getD (ixP l.length i) 0 := by simpa using hx
    exact h
  | chars s l =>
    rw [GoodA] at ha
    show GoodA d (.chars [] [l.getD _ _])
    rw [GoodA]
    exact ⟨ha.1, h1⟩
  | boxes s l =>
    have hi' : ixP l.length i < l.length := hi
    have h := ha.boxes _ hi'
    show GoodA d (l.getD _ _)
    have e : l.getD (ixP l.length i) default = l[ixP l.length i] := by simp [List.getD, hi']
    rw [e]
    exact h.up (by omega)
theorem numsE_cases (N : Nat) (G : Nat → Nat × Int) : ((∃ c, c < N ∧ (G c).2 ≠ 0) ∧ numsE N G = (24, [])) ∨ ((∀ c, c < N → (G c).2 = 0) ∧ numsE N G = (0, (List.range N).map fun c => (G c).1)) := by
  unfold numsE
  split
  · rename_i h; exact .inl ⟨h, rfl⟩
  · rename_i h
    exact .inr ⟨fun c hc => Classical.byContradiction fun e => h ⟨c, hc, e⟩, rfl⟩
theorem ixP_both {a b : PA} {d e : Nat} (ha : GoodA d a) (hb : GoodA e b) (h : (frameE a b).1 = 0) {i : Nat} (hi : i < lenE a b) : ixP a.len i < a.len ∧ ixP b.len i < b.len := ixP_lt (frameE_ok ha hb h).2 hi

end Go.Proofs.YtiahegjdkejjpaaGreat
namespace Go.Proofs.YtiahegjdkejjpaaGreat
open Go Go.RowKit Go.Proofs Fl

mutual
/-- no list of elements, in boxes too, is longer than M -/
def SmA (M : Nat) : PA → Prop
  | .nums _ l => l.length ≤ M
  | .chars _ l => l.length ≤ M
  | .boxes _ l => l.length ≤ M ∧ SmAs M l
def SmAs (M : Nat) : List PA → Prop
  | [] => True
  | a :: ar => SmA M a ∧ SmAs M ar
end
theorem smAs_at {M : Nat} : ∀ {l : List PA} {i : Nat} (hi : i < l.length), SmAs M l → SmA M l[i]
  | [], _, hi, _ => by simp at hi
  | a :: ar, 0, _, h => by rw [SmAs] at h; exact h.1
  | a :: ar, i + 1, hi, h => by rw [SmAs] at h; simpa using smAs_at (l := ar) (i := i) (by simpa using hi) h.2
theorem smAs_of {M : Nat} : ∀ (l : List PA), (∀ i (hi : i < l.length), SmA M l[i]) → SmAs M l
  | [], _ => by rw [SmAs]; trivial
  | a :: ar, h => by
    rw [SmAs]
    exact ⟨by have := h 0 (by simp); simpa using this, smAs_of ar fun i hi => by have := h (i + 1) (by simpa using hi); simpa using this⟩
theorem SmA.len {M : Nat} {a : PA} (h : SmA M a) : a.len ≤ M := by
  cases a <;> (rw [SmA] at h; first | exact h | exact h.1)
theorem SmA.boxes {M : Nat} {s : List Nat} {l : List PA} (h : SmA M (.boxes s l)) : ∀ i (hi : i < l.length), SmA M l[i] := by
  rw [SmA] at h
  exact fun i hi => smAs_at hi h.2
mutual
theorem SmA.up {M M' : Nat} (hm : M ≤ M') : ∀ (a : PA), SmA M a → SmA M' a
  | .nums s l, h => by rw [SmA] at h ⊢; omega
  | .chars s l, h => by rw [SmA] at h ⊢; omega
  | .boxes s l, h => by rw [SmA] at h ⊢; exact ⟨by omega, SmAs.up hm l h.2⟩
theorem SmAs.up {M M' : Nat} (hm : M ≤ M') : ∀ (l : List PA), SmAs M l → SmAs M' l
  | [], _ => by rw [SmAs]; trivial
  | a :: ar, h => by rw [SmAs] at h ⊢; exact ⟨SmA.up hm a h.1, SmAs.up hm ar h.2⟩
end
theorem smA_one {M : Nat} (hM : 1 ≤ M) {a : PA} (h : SmA M a) (i : Nat) (hi : ixP a.len i < a.len) : SmA M (partA a i) := by
  cases a with
  | nums s l => show SmA M (.nums [] [l.getD _ _]); rw [SmA]; exact hM
  | chars s l => show SmA M (.chars [] [l.getD _ _]); rw [SmA]; exact hM
  | boxes s l =>
    have hi' : ixP l.length i < l.length := hi
    have h2 := h.boxes _ hi'
    show SmA M (l.getD _ _)
    have e : l.getD (ixP l.length i) default = l[ixP l.length i] := by simp [List.getD, hi']
    rw [e]
    exact h2
theorem lenE_le {M : Nat} {a b : PA} (ha : SmA M a) (hb : SmA M b) : lenE a b ≤ M := by
  unfold lenE
  split
  · exact hb.len
  · exact ha.len
end Go.Proofs.YtiahegjdkejjpaaGreat
namespace Go.Proofs.YtiahegjdkejjpaaGreat
open Go Go.RowKit Go.Proofs Fl

set_option maxRecDepth 100000 in
set_option maxHeartbeats 1000000 in
/-- so many true ones -/
theorem make_true (n : Nat) (hn : n ≤ 1048576) (w : World) :
    Calls Tryz.prog 77 #[.int .i64 (n : Int), .bool true] w fun e w' => ∃ g, e = .returned (.agg #[.slice (some ⟨g, 0, none⟩) ((n + 63) / 64) ((n + 63) / 64), .int .i64 (n : Int)]) ∧ RowU w' w.heap.size g ((n + 63) / 64) (packW (fun _ => true) n) ∧ Below w.heap.size w w' := by
  obtain ⟨M, hM⟩ : ∃ M, M = (n + 63) / 64 := ⟨_, rfl⟩
  have hMi : ((n : Int) + 63) / 64 = (M : Int) := by omega
  have hmm : max (0 : Int) (min (n : Int) 1048576) = (n : Int) := by omega
  have hmk := run_make_row' (P := Tryz.prog) 29 148 (.int .u64 0) 8 Tryz.underlying29 info_u64 rfl .i64 .i64 M (by omega) (by omega)
  rw [← hM]
  have HM := Lib.hid hM
  have hMb : M ≤ 16384 := by omega
  clear hM
  have hs1 : (w.alloc (.cells bcells 31)).heap.size = w.heap.size + 1 := by simp
  have hs2 : ((w.alloc (.cells bcells 31)).alloc (.cells (madeCells #[.int .u64 0] M) 148)).heap.size = w.heap.size + 2 := by simp
  have HR0 : Hid (RowU (((w.alloc (.cells bcells 31)).alloc (.cells (madeCells #[.int .u64 0] M) 148)).alloc (.cells #[.slice (some ⟨w.heap.size + 1, 0, none⟩) M M, .int .i64 (n : Int)] 31)) (w.heap.size + 1) (w.heap.size + 1) M (fun _ => 0)) := by
    have h := (RowU.made (w.alloc (.cells bcells 31)) (w.heap.size + 1) (by rw [hs1]; omega) M (by unfold maxLen; omega)).below (bel1 _ (.cells #[.slice (some ⟨w.heap.size + 1, 0, none⟩) M M, .int .i64 (n : Int)] 31))
    rw [hs1] at h
    exact h
  have HB0 := Lib.hid (bel3 w (.cells bcells 31) (.cells (madeCells #[.int .u64 0] M) 148) (.cells #[.slice (some ⟨w.heap.size + 1, 0, none⟩) M M, .int .i64 (n : Int)] 31))
  have HK10 := Lib.hid (block_up (bel2 (w.alloc (.cells bcells 31)) (.cells (madeCells #[.int .u64 0] M) 148) (.cells #[.slice (some ⟨w.heap.size + 1, 0, none⟩) M M, .int .i64 (n : Int)] 31)))
  have HK20 : Hid ((((w.alloc (.cells bcells 31)).alloc (.cells (madeCells #[.int .u64 0] M) 148)).alloc (.cells #[.slice (some ⟨w.heap.size + 1, 0, none⟩) M M, .int .i64 (n : Int)] 31)).heap[w.heap.size + 2]? = some (.cells #[.slice (some ⟨w.heap.size + 1, 0, none⟩) M M, .int .i64 (n : Int)] 31)) := by
    have h := heap_alloc_new ((w.alloc (.cells bcells 31)).alloc (.cells (madeCells #[.int .u64 0] M) 148)) (.cells #[.slice (some ⟨w.heap.size + 1, 0, none⟩) M M, .int .i64 (n : Int)] 31)
    rw [hs2] at h
    exact h
  clear hs1 hs2
  go_enter Tryz.func77, Tryz.ntmps77
  go_wp2_with fail
  go_loopw [20] (fun ii wr => ∃ i : Nat, i ≤ M ∧ ii = .int .i64 i ∧ RowU wr (w.heap.size + 1) (w.heap.size + 1) M (fun j => if j < i then 18446744073709551615 else 0) ∧ Below w.heap.size w wr ∧ wr.heap[w.heap.size]? = some (.cells bcells 31) ∧ wr.heap[w.heap.size + 2]? = some (.cells #[.slice (some ⟨w.heap.size + 1, 0, none⟩) M M, .int .i64 (n : Int)] 31)) (fun ii _ => M - (intOf ii).toNat)
  case atStart => exact ⟨0, Nat.zero_le _, rfl, HR0.out.same (fun j _ => by rw [if_neg (Nat.not_lt_zero _)]), HB0.out, HK10.out, HK20.out⟩
  case round =>
    clear HR0 HB0 HK10 HK20 hmk
    obtain ⟨i, hi, rfl, hrow, hbl, hk1, hk2⟩ := hrel
    have HROW := Lib.hid hrow
    have HBL := Lib.hid hbl
    have HK1 := Lib.hid hk1
    have HK2 := Lib.hid hk2
    clear hrow hbl hk1 hk2
    by_cases hlt : i < M
    · obtain ⟨hv0, hv1, hvf⟩ := pair_of HK2.out
      have hcw := HROW.out.cell hlt
      have hfw := HROW.out.frozen i
      have HPUT := Lib.hid (HROW.out.put hlt 18446744073709551615 (F' := fun j => if j < i + 1 then 18446744073709551615 else 0) (fun j _ => by
        by_cases e : j = i
        · rw [if_pos e, if_pos (by omega)]
        · rw [if_neg e]
          by_cases h2 : j < i
          · rw [if_pos h2, if_pos (by omega)]
          · rw [if_neg h2, if_neg (by omega)]))
      have HB3 := Lib.hid (HBL.out.setCell (p := ⟨w.heap.size + 1, i, none⟩) (by show _ ≤ w.heap.size + 1; omega) (.int .u64 18446744073709551615))
      have HK13 := Lib.hid ((Below.heap_setCell wr ⟨w.heap.size + 1, i, none⟩ (.int .u64 18446744073709551615) w.heap.size (by show _ ≠ w.heap.size + 1; omega)).trans HK1.out)
      have HK23 := Lib.hid ((Below.heap_setCell wr ⟨w.heap.size + 1, i, none⟩ (.int .u64 18446744073709551615) (w.heap.size + 2) (by show _ ≠ w.heap.size + 1; omega)).trans HK2.out)
      go_wp2
      exact ⟨⟨i + 1, by omega, by go_num, HPUT.out, HB3.out, HK13.out, HK23.out⟩, by simp [intOf]; omega⟩
    · obtain rfl : i = M := by omega
      have HT := Lib.hid (trim_any (w.heap.size + 1) (w.heap.size + 1) n i _ wr hn HM.out HROW.out (fun j hj => by
        show (if j < i then _ else _) < _
        rw [if_pos hj]
        decide))
      have HF : Hid (∀ j, j < i → trimF n i (fun j => if j < i then 18446744073709551615 else 0) j = packW (fun _ => true) n j) := by
        refine trimF_pack n i _ (fun _ => true) HM.out (fun j hj => ?_) (fun j hj m hm hin => ?_)
        · show (if j < i then _ else _) < _
          rw [if_pos hj]
          decide
        · show Nat.testBit (if j < i then _ else _) m = _
          rw [if_pos hj]
          have := not_bit 0 m hm (by decide)
          rw [show 18446744073709551615 - 0 = 18446744073709551615 from rfl] at this
          rw [this]
          simp
      obtain ⟨hv0, hv1, hvf⟩ := pair_of HK2.out
      go_wp2_with fail
      refine HT.out.mono ?_
      rintro e w5 ⟨rfl, hr5, hb5, ho5⟩
      have HR5 := Lib.hid (hr5.same (F' := packW (fun _ => true) n) (fun j hj => (HF.out j hj).symm))
      have HB5 := Lib.hid (HBL.out.trans (hb5.mono (by omega)))
      have HK5 := Lib.hid (show w5.heap[w.heap.size]? = some (.cells bcells 31) by rw [hb5.block _ (by omega)]; exact HK1.out)
      have hVl : w.heap.size + 2 < wr.heap.size := lt_of_block HK2.out
      have HKV := Lib.hid (show w5.heap[w.heap.size + 2]? = some (.cells #[.slice (some ⟨w.heap.size + 1, 0, none⟩) i i, .int .i64 (n : Int)] 31) by rw [ho5 (w.heap.size + 2) hVl (by omega)]; exact HK2.out)
      clear hr5 hb5 ho5 hv0 hv1 hvf
      obtain ⟨hv0, hv1, hvf⟩ := pair_of HKV.out
      obtain ⟨hk0, hk1, hkf⟩ := pair_of HK5.out
      go_wp2
      refine bodyPost_ret (ret_bits rfl _ _ _ rfl (set2_block HK5.out _ _)) rfl ⟨w.heap.size + 1, rfl, ?_, below_set2 HB5.out (Nat.le_refl _) _ _⟩
      exact own_set2 (HR5.out.lower (by omega)) (by show some (w.heap.size + 1) ≠ _; intro e; injection e; omega) _ _
theorem packW_false (n j : Nat) : packW (fun _ => false) n j = 0 := by
  apply Nat.eq_of_testBit_eq
  intro m
  rw [Nat.zero_testBit]
  by_cases hm : m < 64
  · rw [packW_bit _ _ _ _ hm]; simp
  · exact packW_high _ _ _ _ hm
/-- so many that are all alike -/
theorem make_any (n : Nat) (t : Bool) (hn : n ≤ 1048576) (w : World) :
    Calls Tryz.prog 77 #[.int .i64 (n : Int), .bool t] w fun e w' => ∃ g, e = .returned (.agg #[.slice (some ⟨g, 0, none⟩) ((n + 63) / 64) ((n + 63) / 64), .int .i64 (n : Int)]) ∧ RowU w' w.heap.size g ((n + 63) / 64) (packW (fun _ => t) n) ∧ Below w.heap.size w w' := by
  cases t
  · refine (make_false n hn w).mono ?_
    rintro e w' ⟨g, rfl, hr, hb⟩
    exact ⟨g, rfl, hr.same fun j _ => packW_false n j, hb⟩
  · exact make_true n hn w
end Go.Proofs.YtiahegjdkejjpaaGreat
