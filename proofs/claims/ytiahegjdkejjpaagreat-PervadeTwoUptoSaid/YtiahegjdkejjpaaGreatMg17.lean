/- Merged texts. What a function of two numbers makes of two arrays: plain law. Conditions: as each theorem says. How many elements an array and those in its boxes have, at most: plain law. Conditions: as each theorem says. The walk of bitvec.Make, all true. Conditions: as each theorem says. -/
import Derived.Test.YtiahegjdkejjpaaGreatMg11
import Derived.Test.YtiahegjdkejjpaaGreatMg10
import Derived.Test.YtiahegjdkejjpaaGreatMg04
namespace Go.Proofs.YtiahegjdkejjpaaGreat
open Go Go.RowKit Go.Proofs Fl
def frameE (a b : PA) : Int × List Nat :=
 if a.len = 1 ∧ b.len = 1 ∧ b.shape.length ≤ a.shape.length then (0, a.shape)
 else if a.len = 1 then (0, b.shape)
 else if b.len = 1 then (0, a.shape)
 else if a.shape.length ≠ b.shape.length then (22, [])
 else if a.shape ≠ b.shape then (23, [])
 else (0, a.shape)
def lenE (a b : PA) : Nat := if a.len = 1 then b.len else a.len
def partA : PA → Nat → PA
 | .nums _ l, i => .nums [] [l.getD (ixP l.length i) 0]
 | .chars _ l, i => .chars [] [l.getD (ixP l.length i) 0]
 | .boxes _ l, i => l.getD (ixP l.length i) default
def seqE : List (Int × PA) → Int × List PA
 | [] => (0, [])
 | r :: rs => if r.1 ≠ 0 then (r.1, []) else if (seqE rs).1 ≠ 0 then ((seqE rs).1, []) else (0, r.2 :: (seqE rs).2)
noncomputable def numsE (N : Nat) (G : Nat → Nat × Int) : Int × List Nat :=
 @ite _ (∃ c, c < N ∧ (G c).2 ≠ 0) (Classical.propDecidable _) (24, []) (0, (List.range N).map fun c => (G c).1)
def sameC : PA → PA → Nat → Bool
 | .chars _ l, .chars _ m, i => decide (l.getD (ixP l.length i) 0 = m.getD (ixP m.length i) 0)
 | _, _, _ => false
noncomputable def flatE (f : Int) (a b : PA) : Int × List Nat :=
 match a, b with
 | .nums _ l, .nums _ m => numsE (lenE a b) fun c => oneP pwP f (l.getD (ixP l.length c) 0) (m.getD (ixP m.length c) 0)
 | _, _ => if f = 13 ∨ f = 16 then (0, (List.range (lenE a b)).map fun c => flagF (sameC a b c == decide (f = 13))) else (24, [])
theorem flatE_nums (f : Int) (sa la sb lb : List Nat) : flatE f (.nums sa la) (.nums sb lb) = numsE (lenE (.nums sa la) (.nums sb lb)) fun c => oneP pwP f (la.getD (ixP la.length c) 0) (lb.getD (ixP lb.length c) 0) := rfl
noncomputable def twoE : Nat → Int → PA → PA → Int × PA
 | 0, _, _, _ => (1, default)
 | N + 1, f, a, b =>
  if knownB f = false then (1, default)
  else if (frameE a b).1 ≠ 0 then ((frameE a b).1, default)
  else if a.fill = 2 ∨ b.fill = 2 then
   let q := seqE ((List.range (lenE a b)).map fun i => twoE N f (partA a i) (partA b i))
   if q.1 ≠ 0 then (q.1, default) else (0, .boxes (frameE a b).2 q.2)
  else if (flatE f a b).1 ≠ 0 then ((flatE f a b).1, default) else (0, .nums (frameE a b).2 (flatE f a b).2)
mutual
def depA : PA → Nat
 | .nums _ _ => 0
 | .chars _ _ => 0
 | .boxes _ l => depAs l + 1
def depAs : List PA → Nat
 | [] => 0
 | a :: ar => max (depA a) (depAs ar)
end
theorem depAs_at : ∀ {l : List PA} {i : Nat} (hi : i < l.length), depA l[i] ≤ depAs l
 | [], _, hi => by simp at hi
 | a :: ar, 0, _ => by rw [depAs]; exact Nat.le_max_left _ _
 | a :: ar, i + 1, hi => by
  have := depAs_at (l := ar) (i := i) (by simpa using hi)
  rw [depAs]
  exact Nat.le_trans (by simpa using this) (Nat.le_max_right _ _)
theorem partA_dep {a : PA} {i : Nat} (hi : ixP a.len i < a.len) : depA (partA a i) ≤ depA a ∧ (a.fill = 2 → depA (partA a i) < depA a) := by
 cases a with
 | nums s l => exact ⟨Nat.le_refl _, fun h => by cases h⟩
 | chars s l => exact ⟨Nat.le_refl _, fun h => by cases h⟩
 | boxes s l =>
  have hi' : ixP l.length i < l.length := hi
  have h : depA (partA (.boxes s l) i) ≤ depAs l := by
   show depA (l.getD _ _) ≤ _
   have e : l.getD (ixP l.length i) default = l[ixP l.length i] := by simp [List.getD, hi']
   rw [e]
   exact depAs_at hi'
  have e2 : depA (.boxes s l) = depAs l + 1 := by rw [depA]
  exact ⟨by omega, fun _ => by omega⟩
theorem seqE_ok {rs : List (Int × PA)} (h : ∀ i (hi : i < rs.length), rs[i].1 = 0) : seqE rs = (0, rs.map (·.2)) := by
 induction rs with
 | nil => rfl
 | cons r rs ih =>
  have h0 := h 0 (by simp)
  have h1 := ih fun i hi => by have := h (i + 1) (by simpa using hi); simpa using this
  unfold seqE
  rw [if_neg (by simpa using h0), h1, if_neg (by simp)]
  rfl
theorem seqE_bad {rs : List (Int × PA)} {k : Nat} (hk : k < rs.length) (h : ∀ i (hi : i < k), (rs[i]'(by omega)).1 = 0) (hb : rs[k].1 ≠ 0) : seqE rs = (rs[k].1, []) := by
 induction rs generalizing k with
 | nil => simp at hk
 | cons r rs ih =>
  unfold seqE
  cases k with
  | zero => rw [if_pos (by simpa using hb)]; rfl
  | succ k =>
   have h0 := h 0 (by omega)
   have h1 := ih (k := k) (by simpa using hk) (fun i hi => by have := h (i + 1) (by omega); simpa using this) (by simpa using hb)
   rw [if_neg (by simpa using h0), h1, if_pos (by simpa using hb)]
   rfl
theorem frameE_ok {a b : PA} {d e : Nat} (ha : GoodA d a) (hb : GoodA e b) (h : (frameE a b).1 = 0) : OkSh (frameE a b).2 (lenE a b) ∧ lenP a.len b.len = some (lenE a b) := by
 have h1 := ha.sh.2
 have h2 := hb.sh.2
 unfold frameE at h ⊢
 unfold lenE lenP
 split
 ·rename_i hc
  obtain ⟨c1, c2, _⟩ := hc
  rw [if_pos c1, if_pos (by rw [c1, c2])]
  exact ⟨by rw [c2, ← c1]; exact h1, by rw [c1, c2]⟩
 ·split
  ·rename_i hc
   refine ⟨h2, ?_⟩
   split
   ·rename_i e; rw [e]
   ·rfl
  ·split
   ·rename_i hc hc2
    refine ⟨h1, ?_⟩
    split
    ·rfl
    ·rfl
   ·split
    ·rename_i g; rw [if_neg (by assumption), if_neg (by assumption), if_neg (by assumption), if_pos g] at h; cases h
    ·split
     ·rename_i g1 g; rw [if_neg (by assumption), if_neg (by assumption), if_neg (by assumption), if_neg g1, if_pos g] at h; cases h
     ·rename_i hc hc2 hc3 hc4 hc5
      have e : a.shape = b.shape := Classical.not_not.1 hc5
      have e2 : a.len = b.len := by rw [← h1.2.2, ← h2.2.2, e]
      exact ⟨h1, if_pos e2⟩
theorem GoodA.nums1 {d : Nat} {s l : List Nat} (h : GoodA d (.nums s l)) : GoodA 1 (.nums s l) := by rw [GoodA] at h ⊢; exact ⟨by decide, h.2⟩
theorem GoodA.chars1 {d : Nat} {s : List Nat} {l : List Int} (h : GoodA d (.chars s l)) : GoodA 1 (.chars s l) := by rw [GoodA] at h ⊢; exact ⟨by decide, h.2⟩
theorem partA_good {a : PA} {d i : Nat} (ha : GoodA d a) (hi : ixP a.len i < a.len) : GoodA d (partA a i) := by
 have h1 : OkSh [] 1 := ⟨by decide, by decide, rfl⟩
 cases a with
 | nums s l =>
  have h := ha.nums _ hi
  rw [GoodA] at ha
  show GoodA d (.nums [] [l.getD _ _])
  rw [GoodA]
  refine ⟨ha.1, h1, fun x hx => ?_⟩
  obtain rfl : x = l.getD (ixP l.length i) 0 := by simpa using hx
  exact h
 | chars s l =>
  rw [GoodA] at ha
  show GoodA d (.chars [] [l.getD _ _])
  rw [GoodA]
  exact ⟨ha.1, h1⟩
 | boxes s l =>
  have hi' : ixP l.length i < l.length := hi
  have h := ha.boxes _ hi'
  show GoodA d (l.getD _ _)
  have e : l.getD (ixP l.length i) default = l[ixP l.length i] := by simp [List.getD, hi']
  rw [e]
  exact h.up (by omega)
theorem partA_goodB {s : List Nat} {l : List PA} {d i : Nat} (ha : GoodA d (.boxes s l)) (hi : ixP l.length i < l.length) : GoodA (d - 1) (partA (.boxes s l) i) := by
 have h := ha.boxes _ hi
 show GoodA (d - 1) (l.getD _ _)
 have e : l.getD (ixP l.length i) default = l[ixP l.length i] := by simp [List.getD, hi]
 rw [e]
 exact h
theorem seqE_mem {rs : List (Int × PA)} (h : (seqE rs).1 = 0) : (seqE rs).2 = rs.map (·.2) ∧ ∀ i (hi : i < rs.length), rs[i].1 = 0 := by
 induction rs with
 | nil => exact ⟨rfl, fun i hi => by simp at hi⟩
 | cons r rs ih =>
  unfold seqE at h ⊢
  split at h
  ·rename_i h0; exact absurd h h0
  ·rename_i h0
   split at h
   ·rename_i h1; exact absurd h h1
   ·rename_i h1
    have h1' : (seqE rs).1 = 0 := Classical.not_not.1 h1
    have := ih h1'
    rw [if_neg h0, if_neg h1]
    refine ⟨by rw [this.1]; rfl, fun i hi => ?_⟩
    cases i with
    | zero => exact Classical.not_not.1 h0
    | succ i => simpa using this.2 i (by simpa using hi)
theorem numsE_cases (N : Nat) (G : Nat → Nat × Int) : ((∃ c, c < N ∧ (G c).2 ≠ 0) ∧ numsE N G = (24, [])) ∨ ((∀ c, c < N → (G c).2 = 0) ∧ numsE N G = (0, (List.range N).map fun c => (G c).1)) := by
 unfold numsE
 split
 ·rename_i h; exact .inl ⟨h, rfl⟩
 ·rename_i h
  exact .inr ⟨fun c hc => Classical.byContradiction fun e => h ⟨c, hc, e⟩, rfl⟩
theorem ixP_both {a b : PA} {d e : Nat} (ha : GoodA d a) (hb : GoodA e b) (h : (frameE a b).1 = 0) {i : Nat} (hi : i < lenE a b) : ixP a.len i < a.len ∧ ixP b.len i < b.len := ixP_lt (frameE_ok ha hb h).2 hi
theorem twoE_good : ∀ (N : Nat) (f : Int) (a b : PA) (d e : Nat), GoodA d a → GoodA e b → depA a + depA b < N → (twoE N f a b).1 = 0 → GoodA (max d e) (twoE N f a b).2
 | 0, _, _, _, _, _, _, _, h, _ => by omega
 | N + 1, f, a, b, d, e, ha, hb, hN, h0 => by
  have hd := ha.sh.1
  rw [twoE] at h0 ⊢
  split at h0
  ·cases h0
  ·rename_i hk
   rw [if_neg hk]
   split at h0
   ·rename_i hf; exact absurd h0 hf
   ·rename_i hf
    have hf0 : (frameE a b).1 = 0 := Classical.not_not.1 hf
    have hsh := (frameE_ok ha hb hf0).1
    rw [if_neg hf]
    split at h0
    ·rename_i hx
     rw [if_pos hx]
     dsimp only at h0 ⊢
     split at h0
     ·rename_i hq; exact absurd h0 hq
     ·rename_i hq
      rw [if_neg hq]
      have hm := seqE_mem (Classical.not_not.1 hq)
      rw [hm.1]
      show GoodA _ (.boxes _ _)
      rw [GoodA]
      refine ⟨by omega, ?_, goodAs_of _ fun i hi => ?_⟩
      ·simpa using hsh
      ·have hi' : i < lenE a b := by simpa using hi
       have hij := ixP_both ha hb hf0 hi'
       have h1 := hm.2 i (by simpa using hi')
       simp only [List.getElem_map, List.getElem_range] at h1 ⊢
       have ga := partA_good ha hij.1
       have gb := partA_good hb hij.2
       have da := partA_dep hij.1
       have db := partA_dep hij.2
       have hlt : depA (partA a i) + depA (partA b i) < N := by
        rcases hx with hx | hx
        ·have := da.2 hx; omega
        ·have := db.2 hx; omega
       cases a with
       | boxes sa la =>
        have ga' := partA_goodB ha hij.1
        cases b with
        | boxes sb lb =>
         have gb' := partA_goodB hb hij.2
         exact (twoE_good N f _ _ _ _ ga' gb' hlt h1).up (by omega)
        | nums sb lb =>
         have gb' : GoodA 1 (partA (.nums sb lb) i) := by
          have := partA_good (GoodA.nums1 hb) hij.2; exact this
         have hd2 : 1 ≤ d - 1 := by have := ga'.sh.1; omega
         exact (twoE_good N f _ _ _ _ ga' gb' hlt h1).up (by omega)
        | chars sb lb =>
         have gb' : GoodA 1 (partA (.chars sb lb) i) := by
          have := partA_good (GoodA.chars1 hb) hij.2; exact this
         have hd2 : 1 ≤ d - 1 := by have := ga'.sh.1; omega
         exact (twoE_good N f _ _ _ _ ga' gb' hlt h1).up (by omega)
       | nums sa la =>
        have ga' : GoodA 1 (partA (.nums sa la) i) := partA_good (GoodA.nums1 ha) hij.1
        cases b with
        | boxes sb lb =>
         have gb' := partA_goodB hb hij.2
         have hd2 : 1 ≤ e - 1 := by have := gb'.sh.1; omega
         exact (twoE_good N f _ _ _ _ ga' gb' hlt h1).up (by omega)
        | nums sb lb => rcases hx with hx | hx <;> cases hx
        | chars sb lb => rcases hx with hx | hx <;> cases hx
       | chars sa la =>
        have ga' : GoodA 1 (partA (.chars sa la) i) := partA_good (GoodA.chars1 ha) hij.1
        cases b with
        | boxes sb lb =>
         have gb' := partA_goodB hb hij.2
         have hd2 : 1 ≤ e - 1 := by have := gb'.sh.1; omega
         exact (twoE_good N f _ _ _ _ ga' gb' hlt h1).up (by omega)
        | nums sb lb => rcases hx with hx | hx <;> cases hx
        | chars sb lb => rcases hx with hx | hx <;> cases hx
    ·rename_i hx
     rw [if_neg hx]
     have hne : ∀ s l, a ≠ .boxes s l := fun s l he => hx (.inl (by rw [he]; rfl))
     have hne2 : ∀ s l, b ≠ .boxes s l := fun s l he => hx (.inr (by rw [he]; rfl))
     split at h0
     ·rename_i hq; exact absurd h0 hq
     ·rename_i hq
      rw [if_neg hq]
      have hq0 : (flatE f a b).1 = 0 := Classical.not_not.1 hq
      have hgo : (flatE f a b).2.length = lenE a b ∧ ∀ x ∈ (flatE f a b).2, TF x := by
       have hfl : ∀ (R : Nat → Bool), ((List.range (lenE a b)).map fun c => flagF (R c)).length = lenE a b ∧ ∀ x ∈ ((List.range (lenE a b)).map fun c => flagF (R c)), TF x := by
        intro R
        refine ⟨by simp, fun x hx => ?_⟩
        obtain ⟨c, _, rfl⟩ := List.mem_map.1 hx
        exact tf_flag _
       have hel : (f = 13 ∨ f = 16) → ∀ (R : Nat → Bool), ((if f = 13 ∨ f = 16 then ((0 : Int), (List.range (lenE a b)).map fun c => flagF (R c)) else (24, [])).2.length = lenE a b ∧ ∀ x ∈ (if f = 13 ∨ f = 16 then ((0 : Int), (List.range (lenE a b)).map fun c => flagF (R c)) else (24, [])).2, TF x) := by
        intro h13 R
        rw [if_pos h13]
        exact hfl R
       have h13 : ∀ (R : List Nat), (if f = 13 ∨ f = 16 then ((0 : Int), R) else (24, [])).1 = 0 → f = 13 ∨ f = 16 := by
        intro R h
        by_cases g : f = 13 ∨ f = 16
        ·exact g
        ·rw [if_neg g] at h; cases h
       cases a with
       | boxes s l => exact absurd rfl (hne s l)
       | nums sa la =>
        cases b with
        | boxes s l => exact absurd rfl (hne2 s l)
        | nums sb lb =>
         rw [flatE_nums] at hq0 ⊢
         rcases numsE_cases (lenE (.nums sa la) (.nums sb lb)) (fun c => oneP pwP f (la.getD (ixP la.length c) 0) (lb.getD (ixP lb.length c) 0)) with ⟨_, hq⟩ | ⟨hall, hq⟩
         ·rw [hq] at hq0; cases hq0
         ·rw [hq]
          refine ⟨by simp, fun x hx => ?_⟩
          obtain ⟨c, hc, rfl⟩ := List.mem_map.1 hx
          have hc' := List.mem_range.1 hc
          have hij := ixP_both ha hb hf0 hc'
          rcases oneP_cases powIs f (show TF (la.getD (ixP la.length c) 0) from ha.nums _ hij.1) (show TF (lb.getD (ixP lb.length c) 0) from hb.nums _ hij.2) with ⟨y, hy, e1⟩ | e1
          ·rw [e1]; exact hy
          ·have := hall c hc'; rw [e1] at this; cases this
        | chars sb lb => exact hel (h13 _ hq0) _
       | chars sa la =>
        cases b with
        | boxes s l => exact absurd rfl (hne2 s l)
        | nums sb lb => exact hel (h13 _ hq0) _
        | chars sb lb => exact hel (h13 _ hq0) _
      show GoodA _ (.nums _ _)
      rw [GoodA]
      exact ⟨by omega, by rw [hgo.1]; exact hsh, hgo.2⟩
mutual
def SmA (M : Nat) : PA → Prop
 | .nums _ l => l.length ≤ M
 | .chars _ l => l.length ≤ M
 | .boxes _ l => l.length ≤ M ∧ SmAs M l
def SmAs (M : Nat) : List PA → Prop
 | [] => True
 | a :: ar => SmA M a ∧ SmAs M ar
end
theorem smAs_at {M : Nat} : ∀ {l : List PA} {i : Nat} (hi : i < l.length), SmAs M l → SmA M l[i]
 | [], _, hi, _ => by simp at hi
 | a :: ar, 0, _, h => by rw [SmAs] at h; exact h.1
 | a :: ar, i + 1, hi, h => by rw [SmAs] at h; simpa using smAs_at (l := ar) (i := i) (by simpa using hi) h.2
theorem smAs_of {M : Nat} : ∀ (l : List PA), (∀ i (hi : i < l.length), SmA M l[i]) → SmAs M l
 | [], _ => by rw [SmAs]; trivial
 | a :: ar, h => by
  rw [SmAs]
  exact ⟨by have := h 0 (by simp); simpa using this, smAs_of ar fun i hi => by have := h (i + 1) (by simpa using hi); simpa using this⟩
theorem SmA.len {M : Nat} {a : PA} (h : SmA M a) : a.len ≤ M := by
 cases a <;> (rw [SmA] at h; first | exact h | exact h.1)
theorem SmA.boxes {M : Nat} {s : List Nat} {l : List PA} (h : SmA M (.boxes s l)) : ∀ i (hi : i < l.length), SmA M l[i] := by
 rw [SmA] at h
 exact fun i hi => smAs_at hi h.2
mutual
theorem SmA.up {M M' : Nat} (hm : M ≤ M') : ∀ (a : PA), SmA M a → SmA M' a
 | .nums s l, h => by rw [SmA] at h ⊢; omega
 | .chars s l, h => by rw [SmA] at h ⊢; omega
 | .boxes s l, h => by rw [SmA] at h ⊢; exact ⟨by omega, SmAs.up hm l h.2⟩
theorem SmAs.up {M M' : Nat} (hm : M ≤ M') : ∀ (l : List PA), SmAs M l → SmAs M' l
 | [], _ => by rw [SmAs]; trivial
 | a :: ar, h => by rw [SmAs] at h ⊢; exact ⟨SmA.up hm a h.1, SmAs.up hm ar h.2⟩
end
theorem smA_one {M : Nat} (hM : 1 ≤ M) {a : PA} (h : SmA M a) (i : Nat) (hi : ixP a.len i < a.len) : SmA M (partA a i) := by
 cases a with
 | nums s l => show SmA M (.nums [] [l.getD _ _]); rw [SmA]; exact hM
 | chars s l => show SmA M (.chars [] [l.getD _ _]); rw [SmA]; exact hM
 | boxes s l =>
  have hi' : ixP l.length i < l.length := hi
  have h2 := h.boxes _ hi'
  show SmA M (l.getD _ _)
  have e : l.getD (ixP l.length i) default = l[ixP l.length i] := by simp [List.getD, hi']
  rw [e]
  exact h2
theorem lenE_le {M : Nat} {a b : PA} (ha : SmA M a) (hb : SmA M b) : lenE a b ≤ M := by
 unfold lenE
 split
 ·exact hb.len
 ·exact ha.len
theorem numsE_le (N : Nat) (G : Nat → Nat × Int) : (numsE N G).2.length ≤ N := by
 rcases numsE_cases N G with ⟨_, h⟩ | ⟨_, h⟩
 ·rw [h]; exact Nat.zero_le _
 ·rw [h]; simp
theorem flatE_le (f : Int) (a b : PA) : (flatE f a b).2.length ≤ lenE a b := by
 have hel : ∀ (R : Nat → Bool), (if f = 13 ∨ f = 16 then ((0 : Int), (List.range (lenE a b)).map fun c => flagF (R c)) else (24, [])).2.length ≤ lenE a b := by
  intro R
  split
  ·simp
  ·exact Nat.zero_le _
 cases a with
 | nums sa la =>
  cases b with
  | nums sb lb => rw [flatE_nums]; exact numsE_le _ _
  | chars sb lb => exact hel _
  | boxes sb lb => exact hel _
 | chars sa la => exact hel _
 | boxes sa la => exact hel _
theorem twoE_small {M : Nat} (hM : 1 ≤ M) : ∀ (N : Nat) (f : Int) (a b : PA) (d e : Nat), GoodA d a → GoodA e b → SmA M a → SmA M b → SmA M (twoE N f a b).2
 | 0, _, _, _, _, _, _, _, _, _ => by rw [twoE]; show SmA M (.nums [] []); rw [SmA]; exact Nat.zero_le _
 | N + 1, f, a, b, d, e, ga, gb, ha, hb => by
  have hz : SmA M (default : PA) := by show SmA M (.nums [] []); rw [SmA]; exact Nat.zero_le _
  rw [twoE]
  split
  ·exact hz
  ·split
   ·exact hz
   ·rename_i hk hf
    have hf0 : (frameE a b).1 = 0 := Classical.not_not.1 hf
    split
    ·dsimp only
     split
     ·exact hz
     ·rename_i hq
      have hm := seqE_mem (Classical.not_not.1 hq)
      show SmA M (.boxes _ _)
      rw [hm.1, SmA]
      refine ⟨by simpa using lenE_le ha hb, smAs_of _ fun i hi => ?_⟩
      have hi' : i < lenE a b := by simpa using hi
      have hij := ixP_both ga gb hf0 hi'
      simp only [List.getElem_map, List.getElem_range]
      exact twoE_small hM N f _ _ d e (partA_good ga hij.1) (partA_good gb hij.2) (smA_one hM ha i hij.1) (smA_one hM hb i hij.2)
    ·split
     ·exact hz
     ·show SmA M (.nums _ _)
      rw [SmA]
      exact Nat.le_trans (flatE_le f a b) (lenE_le ha hb)
mutual
theorem smP {M : Nat} : ∀ (t : RP), cntP t ≤ M → SmA M (clP t)
 | .mk s items fill, h => by
  rw [cntP] at h
  rw [clP]
  split
  ·rw [SmA, List.length_map]; omega
  ·split
   ·rw [SmA, List.length_map]; omega
   ·rw [SmA]; exact ⟨by rw [clIs_len]; omega, smIs items (by omega)⟩
theorem smIs {M : Nat} : ∀ (ts : List RI), cntIs ts ≤ M → SmAs M (clIs ts)
 | [], _ => by rw [clIs, SmAs]; trivial
 | t :: ts, h => by rw [cntIs] at h; rw [clIs, SmAs]; exact ⟨smI t (by omega), smIs ts (by omega)⟩
theorem smI {M : Nat} : ∀ (t : RI), cntI t ≤ M → SmA M (clI t)
 | .mk _ _ _ box, h => by rw [cntI] at h; rw [clI]; exact smPs box h
theorem smPs {M : Nat} : ∀ (ts : List RP), cntPs ts ≤ M → SmA M (clPs ts)
 | [], _ => by rw [clPs, SmA]; exact Nat.zero_le _
 | t :: ts, h => by rw [cntPs] at h; rw [clPs]; exact smP t (by omega)
end
set_option maxRecDepth 100000 in
set_option maxHeartbeats 1000000 in
theorem make_true (n : Nat) (hn : n ≤ 1048576) (w : World) :
  Calls Tryz.prog 77 #[.int .i64 (n : Int), .bool true] w fun e w' => ∃ g, e = .returned (.agg #[.slice (some ⟨g, 0, none⟩) ((n + 63) / 64) ((n + 63) / 64), .int .i64 (n : Int)]) ∧ RowU w' w.heap.size g ((n + 63) / 64) (packW (fun _ => true) n) ∧ Below w.heap.size w w' := by
 obtain ⟨M, hM⟩ : ∃ M, M = (n + 63) / 64 := ⟨_, rfl⟩
 have hMi : ((n : Int) + 63) / 64 = (M : Int) := by omega
 have hmm : max (0 : Int) (min (n : Int) 1048576) = (n : Int) := by omega
 have hmk := run_make_row' (P := Tryz.prog) 29 148 (.int .u64 0) 8 Tryz.underlying29 info_u64 rfl .i64 .i64 M (by omega) (by omega)
 rw [← hM]
 have HM := Lib.hid hM
 have hMb : M ≤ 16384 := by omega
 clear hM
 have hs1 : (w.alloc (.cells bcells 31)).heap.size = w.heap.size + 1 := by simp
 have hs2 : ((w.alloc (.cells bcells 31)).alloc (.cells (madeCells #[.int .u64 0] M) 148)).heap.size = w.heap.size + 2 := by simp
 have HR0 : Hid (RowU (((w.alloc (.cells bcells 31)).alloc (.cells (madeCells #[.int .u64 0] M) 148)).alloc (.cells #[.slice (some ⟨w.heap.size + 1, 0, none⟩) M M, .int .i64 (n : Int)] 31)) (w.heap.size + 1) (w.heap.size + 1) M (fun _ => 0)) := by
  have h := (RowU.made (w.alloc (.cells bcells 31)) (w.heap.size + 1) (by rw [hs1]; omega) M (by unfold maxLen; omega)).below (bel1 _ (.cells #[.slice (some ⟨w.heap.size + 1, 0, none⟩) M M, .int .i64 (n : Int)] 31))
  rw [hs1] at h
  exact h
 have HB0 := Lib.hid (bel3 w (.cells bcells 31) (.cells (madeCells #[.int .u64 0] M) 148) (.cells #[.slice (some ⟨w.heap.size + 1, 0, none⟩) M M, .int .i64 (n : Int)] 31))
 have HK10 := Lib.hid (block_up (bel2 (w.alloc (.cells bcells 31)) (.cells (madeCells #[.int .u64 0] M) 148) (.cells #[.slice (some ⟨w.heap.size + 1, 0, none⟩) M M, .int .i64 (n : Int)] 31)))
 have HK20 : Hid ((((w.alloc (.cells bcells 31)).alloc (.cells (madeCells #[.int .u64 0] M) 148)).alloc (.cells #[.slice (some ⟨w.heap.size + 1, 0, none⟩) M M, .int .i64 (n : Int)] 31)).heap[w.heap.size + 2]? = some (.cells #[.slice (some ⟨w.heap.size + 1, 0, none⟩) M M, .int .i64 (n : Int)] 31)) := by
  have h := heap_alloc_new ((w.alloc (.cells bcells 31)).alloc (.cells (madeCells #[.int .u64 0] M) 148)) (.cells #[.slice (some ⟨w.heap.size + 1, 0, none⟩) M M, .int .i64 (n : Int)] 31)
  rw [hs2] at h
  exact h
 clear hs1 hs2
 go_enter Tryz.func77, Tryz.ntmps77
 go_wp2_with fail
 go_loopw [20] (fun ii wr => ∃ i : Nat, i ≤ M ∧ ii = .int .i64 i ∧ RowU wr (w.heap.size + 1) (w.heap.size + 1) M (fun j => if j < i then 18446744073709551615 else 0) ∧ Below w.heap.size w wr ∧ wr.heap[w.heap.size]? = some (.cells bcells 31) ∧ wr.heap[w.heap.size + 2]? = some (.cells #[.slice (some ⟨w.heap.size + 1, 0, none⟩) M M, .int .i64 (n : Int)] 31)) (fun ii _ => M - (intOf ii).toNat)
 case atStart => exact ⟨0, Nat.zero_le _, rfl, HR0.out.same (fun j _ => by rw [if_neg (Nat.not_lt_zero _)]), HB0.out, HK10.out, HK20.out⟩
 case round =>
  clear HR0 HB0 HK10 HK20 hmk
  obtain ⟨i, hi, rfl, hrow, hbl, hk1, hk2⟩ := hrel
  have HROW := Lib.hid hrow
  have HBL := Lib.hid hbl
  have HK1 := Lib.hid hk1
  have HK2 := Lib.hid hk2
  clear hrow hbl hk1 hk2
  by_cases hlt : i < M
  ·obtain ⟨hv0, hv1, hvf⟩ := pair_of HK2.out
   have hcw := HROW.out.cell hlt
   have hfw := HROW.out.frozen i
   have HPUT := Lib.hid (HROW.out.put hlt 18446744073709551615 (F' := fun j => if j < i + 1 then 18446744073709551615 else 0) (fun j _ => by
    by_cases e : j = i
    ·rw [if_pos e, if_pos (by omega)]
    ·rw [if_neg e]
     by_cases h2 : j < i
     ·rw [if_pos h2, if_pos (by omega)]
     ·rw [if_neg h2, if_neg (by omega)]))
   have HB3 := Lib.hid (HBL.out.setCell (p := ⟨w.heap.size + 1, i, none⟩) (by show _ ≤ w.heap.size + 1; omega) (.int .u64 18446744073709551615))
   have HK13 := Lib.hid ((Below.heap_setCell wr ⟨w.heap.size + 1, i, none⟩ (.int .u64 18446744073709551615) w.heap.size (by show _ ≠ w.heap.size + 1; omega)).trans HK1.out)
   have HK23 := Lib.hid ((Below.heap_setCell wr ⟨w.heap.size + 1, i, none⟩ (.int .u64 18446744073709551615) (w.heap.size + 2) (by show _ ≠ w.heap.size + 1; omega)).trans HK2.out)
   go_wp2
   exact ⟨⟨i + 1, by omega, by go_num, HPUT.out, HB3.out, HK13.out, HK23.out⟩, by simp [intOf]; omega⟩
  ·obtain rfl : i = M := by omega
   have HT := Lib.hid (trim_any (w.heap.size + 1) (w.heap.size + 1) n i _ wr hn HM.out HROW.out (fun j hj => by
    show (if j < i then _ else _) < _
    rw [if_pos hj]
    decide))
   have HF : Hid (∀ j, j < i → trimF n i (fun j => if j < i then 18446744073709551615 else 0) j = packW (fun _ => true) n j) := by
    refine trimF_pack n i _ (fun _ => true) HM.out (fun j hj => ?_) (fun j hj m hm hin => ?_)
    ·show (if j < i then _ else _) < _
     rw [if_pos hj]
     decide
    ·show Nat.testBit (if j < i then _ else _) m = _
     rw [if_pos hj]
     have := not_bit 0 m hm (by decide)
     rw [show 18446744073709551615 - 0 = 18446744073709551615 from rfl] at this
     rw [this]
     simp
   obtain ⟨hv0, hv1, hvf⟩ := pair_of HK2.out
   go_wp2_with fail
   refine HT.out.mono ?_
   rintro e w5 ⟨rfl, hr5, hb5, ho5⟩
   have HR5 := Lib.hid (hr5.same (F' := packW (fun _ => true) n) (fun j hj => (HF.out j hj).symm))
   have HB5 := Lib.hid (HBL.out.trans (hb5.mono (by omega)))
   have HK5 := Lib.hid (show w5.heap[w.heap.size]? = some (.cells bcells 31) by rw [hb5.block _ (by omega)]; exact HK1.out)
   have hVl : w.heap.size + 2 < wr.heap.size := lt_of_block HK2.out
   have HKV := Lib.hid (show w5.heap[w.heap.size + 2]? = some (.cells #[.slice (some ⟨w.heap.size + 1, 0, none⟩) i i, .int .i64 (n : Int)] 31) by rw [ho5 (w.heap.size + 2) hVl (by omega)]; exact HK2.out)
   clear hr5 hb5 ho5 hv0 hv1 hvf
   obtain ⟨hv0, hv1, hvf⟩ := pair_of HKV.out
   obtain ⟨hk0, hk1, hkf⟩ := pair_of HK5.out
   go_wp2
   refine bodyPost_ret (ret_bits rfl _ _ _ rfl (set2_block HK5.out _ _)) rfl ⟨w.heap.size + 1, rfl, ?_, below_set2 HB5.out (Nat.le_refl _) _ _⟩
   exact own_set2 (HR5.out.lower (by omega)) (by show some (w.heap.size + 1) ≠ _; intro e; injection e; omega) _ _
theorem packW_false (n j : Nat) : packW (fun _ => false) n j = 0 := by
 apply Nat.eq_of_testBit_eq
 intro m
 rw [Nat.zero_testBit]
 by_cases hm : m < 64
 ·rw [packW_bit _ _ _ _ hm]; simp
 ·exact packW_high _ _ _ _ hm
theorem make_any (n : Nat) (t : Bool) (hn : n ≤ 1048576) (w : World) :
  Calls Tryz.prog 77 #[.int .i64 (n : Int), .bool t] w fun e w' => ∃ g, e = .returned (.agg #[.slice (some ⟨g, 0, none⟩) ((n + 63) / 64) ((n + 63) / 64), .int .i64 (n : Int)]) ∧ RowU w' w.heap.size g ((n + 63) / 64) (packW (fun _ => t) n) ∧ Below w.heap.size w w' := by
 cases t
 ·refine (make_false n hn w).mono ?_
  rintro e w' ⟨g, rfl, hr, hb⟩
  exact ⟨g, rfl, hr.same fun j _ => packW_false n j, hb⟩
 ·exact make_true n hn w
end Go.Proofs.YtiahegjdkejjpaaGreat
