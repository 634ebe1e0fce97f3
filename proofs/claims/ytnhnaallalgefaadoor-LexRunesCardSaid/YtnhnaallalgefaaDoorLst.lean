/- Plain law: how numbers are read out of runes. No program in sight. -/
import Derived.Test.YtnhnaallalgefaaDoorScl
namespace Go.Proofs.YtnhnaallalgefaaDoor.Fl
open Ieee Go

def dig (c : Int) : Bool := decide (48 ≤ c) && decide (c ≤ 57)

/-- digits from a place on: their number and where they end; none: they come to too much -/
def dg : Nat → Nat → List Int → Option (Nat × Nat)
  | a, j, [] => some (a, j)
  | a, j, c :: t => if dig c then (if 9007199254740992 < 10 * a + (c - 48).toNat then none else dg (10 * a + (c - 48).toNat) (j + 1) t) else some (a, j)

theorem dg_ge : ∀ (t : List Int) (a j v e : Nat), dg a j t = some (v, e) → j ≤ e ∧ e ≤ j + t.length
  | [], a, j, v, e, h => by simp [dg] at h; simp; omega
  | c :: t, a, j, v, e, h => by
    unfold dg at h
    split at h
    · split at h
      · cases h
      · have := dg_ge t _ _ _ _ h; simp; omega
    · simp at h; simp; omega

theorem dg_le : ∀ (t : List Int) (a j v e : Nat), a ≤ 9007199254740992 → dg a j t = some (v, e) → v ≤ 9007199254740992
  | [], a, j, v, e, h0, h => by simp [dg] at h; omega
  | c :: t, a, j, v, e, h0, h => by
    unfold dg at h
    split at h
    · split at h
      · cases h
      · exact dg_le t _ _ _ _ (by omega) h
    · simp at h; omega

/-- a sign, if there is one, and digits -/
def wholeS (l : List Int) (at_ : Nat) : Option (Int × Nat) :=
  if l[at_]? = some 175 then
    match dg 0 (at_ + 1) (l.drop (at_ + 1)) with
    | none => none
    | some (v, e) => if at_ + 1 < e then some (-(v : Int), e) else none
  else
    match dg 0 at_ (l.drop at_) with
    | none => none
    | some (v, e) => if at_ < e then some ((v : Int), e) else none

theorem wholeS_bounds {l : List Int} {at_ : Nat} {n : Int} {e : Nat} (h : wholeS l at_ = some (n, e)) (hat : at_ ≤ l.length) :
    at_ < e ∧ e ≤ l.length ∧ -9007199254740992 ≤ n ∧ n ≤ 9007199254740992 := by
  unfold wholeS at h
  split at h
  · rename_i hc
    have hlt : at_ < l.length := by
      obtain ⟨h1, _⟩ := List.getElem?_eq_some_iff.1 hc; exact h1
    split at h
    · cases h
    · rename_i v e' hd
      split at h
      · have h1 := dg_ge _ _ _ _ _ hd
        have h2 := dg_le _ _ _ _ _ (by omega) hd
        simp at h h1
        omega
      · cases h
  · split at h
    · cases h
    · rename_i v e' hd
      split at h
      · have h1 := dg_ge _ _ _ _ _ hd
        have h2 := dg_le _ _ _ _ _ (by omega) hd
        simp at h h1
        omega
      · cases h

/-- a number read from a place on: its float and where it ends -/
def readS (l : List Int) (at_ : Int) : Option (Nat × Nat) :=
  if 0 ≤ at_ ∧ at_ < l.length then
    match wholeS l at_.toNat with
    | none => none
    | some (n, e) =>
      if l[e]? = some 112 then
        match wholeS l (e + 1) with
        | none => none
        | some (p, e2) => (scaleS n p).map fun b => (b, e2)
      else some (floatOfInt .f64 n, e)
  else none

theorem drop_get {l : List Int} {j : Nat} (h : j < l.length) : l.drop j = l[j] :: l.drop (j + 1) := List.drop_eq_getElem_cons h

end Go.Proofs.YtnhnaallalgefaaDoor.Fl
