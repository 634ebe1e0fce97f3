/- Plain law: the words of a text. Nothing is walked here. -/
import Derived.Test.YtnhnaallalgefaaDoorLst
import Derived.Test.YtnhnaallalgefaaDoorSho
import Derived.Test.YtnhnaallalgefaaDoorLexA
namespace Go.Proofs.YtnhnaallalgefaaDoor
open Go Fl

/-- a word, and where it begins -/
structure Tok where
  kind : Int := 0
  at_ : Int := 0
  num : Nat := 0
  text : List Int := []
  name : ByteArray := ⟨#[]⟩
  char : Int := 0

/-- the end of a name -/
def nameEnd (l : List Int) (i : Nat) : Nat := if i < l.length then (if letB (l.getD i 0) || digB (l.getD i 0) then nameEnd l (i + 1) else i) else i
termination_by l.length - i
decreasing_by omega
theorem nameEnd_out {l : List Int} {i : Nat} (h : ¬ i < l.length) : nameEnd l i = i := by rw [nameEnd, if_neg h]
theorem nameEnd_yes {l : List Int} {i : Nat} (h : i < l.length) (h2 : (letB (l.getD i 0) || digB (l.getD i 0)) = true) : nameEnd l i = nameEnd l (i + 1) := by
  conv => lhs; rw [nameEnd, if_pos h]
  rw [if_pos h2]
theorem nameEnd_no {l : List Int} {i : Nat} (h : i < l.length) (h2 : (letB (l.getD i 0) || digB (l.getD i 0)) = false) : nameEnd l i = i := by rw [nameEnd, if_pos h, h2]; rfl
theorem nameEnd_bd (l : List Int) : ∀ (d i : Nat), l.length - i ≤ d → i ≤ l.length → i ≤ nameEnd l i ∧ nameEnd l i ≤ l.length
  | 0, i, h, h2 => by rw [nameEnd_out (by omega)]; omega
  | d + 1, i, h, h2 => by
    by_cases hi : i < l.length
    · cases hb : letB (l.getD i 0) || digB (l.getD i 0) with
      | true => rw [nameEnd_yes hi hb]; have := nameEnd_bd l d (i + 1) (by omega) (by omega); omega
      | false => rw [nameEnd_no hi hb]; omega
    · rw [nameEnd_out hi]; omega
/-- a name -/
def nameS (l : List Int) (i : Nat) : Option (Tok × Nat) :=
  if 32 < nameEnd l i - i then none else some ({ kind := 3, at_ := i, name := seg l i (nameEnd l i) }, nameEnd l i)

/-- nothing of a name or a number -/
def stickB (c : Int) : Bool := letB c || digB c || decide (c = 175)
/-- a number -/
def numberS (l : List Int) (i : Nat) : Option (Tok × Nat) :=
  match readS l i with
  | none => none
  | some (x, e) => if e < l.length ∧ stickB (l.getD e 0) = true then none else some ({ kind := 1, at_ := i, num := x }, e)

/-- the rest of a text in quotes -/
def quoteEnd (l : List Int) (i : Nat) (acc : List Int) : Option (List Int × Nat) :=
  if i < l.length then
    if l.getD i 0 = 10 then none
    else if l.getD i 0 = 39 then (if i + 1 < l.length ∧ l.getD (i + 1) 0 = 39 then quoteEnd l (i + 2) (acc ++ [39]) else some (acc, i + 1))
    else quoteEnd l (i + 1) (acc ++ [l.getD i 0])
  else none
termination_by l.length - i
decreasing_by all_goals omega
theorem quoteEnd_out {l acc : List Int} {i : Nat} (h : ¬ i < l.length) : quoteEnd l i acc = none := by rw [quoteEnd, if_neg h]
theorem quoteEnd_nl {l acc : List Int} {i : Nat} (h : i < l.length) (h2 : l.getD i 0 = 10) : quoteEnd l i acc = none := by rw [quoteEnd, if_pos h, if_pos h2]
theorem quoteEnd_two {l acc : List Int} {i : Nat} (h : i < l.length) (h2 : l.getD i 0 = 39) (h3 : i + 1 < l.length) (h4 : l.getD (i + 1) 0 = 39) : quoteEnd l i acc = quoteEnd l (i + 2) (acc ++ [39]) := by
  conv => lhs; rw [quoteEnd, if_pos h]
  rw [if_neg (by omega), if_pos h2, if_pos ⟨h3, h4⟩]
theorem quoteEnd_one {l acc : List Int} {i : Nat} (h : i < l.length) (h2 : l.getD i 0 = 39) (h3 : ¬ (i + 1 < l.length ∧ l.getD (i + 1) 0 = 39)) : quoteEnd l i acc = some (acc, i + 1) := by
  rw [quoteEnd, if_pos h, if_neg (by omega), if_pos h2, if_neg h3]
theorem quoteEnd_step {l acc : List Int} {i : Nat} (h : i < l.length) (h2 : ¬ l.getD i 0 = 10) (h3 : ¬ l.getD i 0 = 39) : quoteEnd l i acc = quoteEnd l (i + 1) (acc ++ [l.getD i 0]) := by
  conv => lhs; rw [quoteEnd, if_pos h]
  rw [if_neg h2, if_neg h3]
theorem quoteEnd_bd (l : List Int) : ∀ (d i : Nat) (acc t : List Int) (e : Nat), l.length - i ≤ d → quoteEnd l i acc = some (t, e) → i < e ∧ e ≤ l.length
  | 0, i, acc, t, e, h, h2 => by rw [quoteEnd_out (by omega)] at h2; cases h2
  | d + 1, i, acc, t, e, h, h2 => by
    by_cases hi : i < l.length
    · by_cases h10 : l.getD i 0 = 10
      · rw [quoteEnd_nl hi h10] at h2; cases h2
      · by_cases h39 : l.getD i 0 = 39
        · by_cases hb : i + 1 < l.length ∧ l.getD (i + 1) 0 = 39
          · rw [quoteEnd_two hi h39 hb.1 hb.2] at h2
            have := quoteEnd_bd l d _ _ _ _ (by omega) h2; omega
          · rw [quoteEnd_one hi h39 hb] at h2
            obtain ⟨_, rfl⟩ : acc = t ∧ i + 1 = e := by simpa using h2
            omega
        · rw [quoteEnd_step hi h10 h39] at h2
          have := quoteEnd_bd l d _ _ _ _ (by omega) h2; omega
    · rw [quoteEnd_out hi] at h2; cases h2
/-- a text in quotes -/
def quotedS (l : List Int) (i : Nat) : Option (Tok × Nat) := (quoteEnd l (i + 1) []).map fun r => ({ kind := 2, at_ := i, text := r.1 }, r.2)

/-- the signs of functions, of operators, and all others -/
def verbL : List Int := [43, 45, 215, 247, 8968, 8970, 124, 42, 126, 61, 8800, 60, 8804, 8805, 62, 8743, 8744, 9074, 9073, 9076, 44, 9066, 9021, 8854, 9033, 8593, 8595, 9075, 9080, 8714, 8746, 8745, 9035, 9042, 8801, 8802, 8834, 8835, 8868, 8869, 8867, 8866]
def glyphL : List Int := [47, 9023, 92, 9024, 168, 9064, 46, 8728]
def markL : List Int := [40, 41, 91, 93, 123, 125, 59, 8592, 58, 9082, 9077, 9068]

/-- the kind of a sign that is a word alone; 0: it is none -/
def kindS (c : Int) : Int := if c = 10 ∨ c = 8900 then 7 else if c ∈ verbL then 4 else if c ∈ glyphL then 5 else if c ∈ markL then 6 else 0

/-- a word from a place on -/
def wordS (l : List Int) (i : Nat) : Option (Tok × Nat) :=
  if digB (l.getD i 0) = true ∨ l.getD i 0 = 175 then numberS l i
  else if l.getD i 0 = 39 then quotedS l i
  else if letB (l.getD i 0) = true then nameS l i
  else if kindS (l.getD i 0) = 0 then none
  else some ({ kind := kindS (l.getD i 0), at_ := i, char := l.getD i 0 }, i + 1)

theorem readS_bd {l : List Int} {i x e : Nat} (h : readS l i = some (x, e)) : i < e ∧ e ≤ l.length := by
  unfold readS at h
  split at h
  · rename_i hi
    simp only [Int.toNat_natCast] at h
    cases hw : wholeS l i with
    | none => rw [hw] at h; simp at h
    | some p =>
      obtain ⟨n, e1⟩ := p
      have b1 := wholeS_bounds hw (by omega)
      rw [hw] at h
      simp only at h
      split at h
      · rename_i hp
        have he1 : e1 < l.length := (List.getElem?_eq_some_iff.1 hp).1
        cases hw2 : wholeS l (e1 + 1) with
        | none => rw [hw2] at h; simp at h
        | some q =>
          obtain ⟨n2, e2⟩ := q
          have b2 := wholeS_bounds hw2 (by omega)
          rw [hw2] at h
          simp at h
          obtain ⟨b, _, h1, h2⟩ := h
          omega
      · simp at h; omega
  · cases h

theorem wordS_bd {l : List Int} {i : Nat} {t : Tok} {e : Nat} (hi : i < l.length) (h : wordS l i = some (t, e)) : i < e ∧ e ≤ l.length := by
  unfold wordS at h
  split at h
  · unfold numberS at h
    cases hr : readS l i with
    | none => rw [hr] at h; cases h
    | some p =>
      obtain ⟨x, e1⟩ := p
      rw [hr] at h
      simp only at h
      split at h
      · cases h
      · have := readS_bd hr
        simp at h; omega
  · split at h
    · unfold quotedS at h
      cases hq : quoteEnd l (i + 1) [] with
      | none => rw [hq] at h; cases h
      | some p =>
        obtain ⟨x, e1⟩ := p
        rw [hq] at h
        have := quoteEnd_bd l _ _ _ _ _ (Nat.le_refl _) hq
        simp at h; omega
    · split at h
      · rename_i hl
        unfold nameS at h
        split at h
        · cases h
        · have h1 := nameEnd_yes (l := l) hi (by rw [hl]; rfl)
          have h2 := nameEnd_bd l _ (i + 1) (Nat.le_refl _) (by omega)
          simp at h; omega
      · split at h
        · cases h
        · simp at h; omega

/-- the place of the next newline, or the text's end -/
def nlFrom (l : List Int) (i : Nat) : Nat := lineTo l i

/-- the words from a place on; fuel: no fewer than places are left; a place where there is none -/
def cutF (l : List Int) : Nat → Nat → Except Nat (List Tok)
  | 0, _ => .ok []
  | f + 1, i =>
    if i < l.length then
      if l.getD i 0 = 32 ∨ l.getD i 0 = 9 ∨ l.getD i 0 = 13 then cutF l f (i + 1)
      else if l.getD i 0 = 9053 then (if nlFrom l i < l.length then cutF l f (nlFrom l i) else .ok [])
      else match wordS l i with
        | none => .error i
        | some (t, e) => (cutF l f e).map (t :: ·)
    else .ok []
/-- the words of a text -/
def cutS (l : List Int) : Except Nat (List Tok) := cutF l l.length 0
end Go.Proofs.YtnhnaallalgefaaDoor
