/- Plain law: how whole numbers are written in runes. No program in sight. -/
import Derived.Test.YtopdkllbemgmlaaDoorLst
namespace Go.Proofs.YtopdkllbemgmlaaDoor.Fl
open Ieee Go

/-- the digits of a whole number, the least one first -/
def decR (m : Nat) : List Int := ((48 : Int) + (m % 10 : Nat)) :: (if m / 10 = 0 then [] else decR (m / 10))
termination_by m
decreasing_by omega

/-- a whole number written -/
def writeS (n : Int) : List Int := (if n < 0 then [175] else []) ++ (decR n.natAbs).reverse

theorem decR_last {m : Nat} (h : m / 10 = 0) : decR m = [(48 : Int) + (m % 10 : Nat)] := by rw [decR, if_pos h]
theorem decR_next {m : Nat} (h : m / 10 ≠ 0) : decR m = ((48 : Int) + (m % 10 : Nat)) :: decR (m / 10) := by rw [decR, if_neg h]

theorem decR_len (k : Nat) : ∀ m, m < 10^k → (decR m).length ≤ k ∨ k = 0 := by
  induction k with
  | zero => intro m h; exact .inr rfl
  | succ k ih =>
    intro m h
    left
    by_cases h10 : m / 10 = 0
    · rw [decR_last h10]; simp
    · rw [decR_next h10]
      have h2 : m / 10 < 10^k := by rw [Nat.pow_succ] at h; omega
      rcases ih (m / 10) h2 with h3 | h3
      · simp; exact h3
      · subst h3; simp at h2; omega

theorem decR_ne (m : Nat) : decR m ≠ [] := by rw [decR]; exact List.cons_ne_nil _ _
end Go.Proofs.YtopdkllbemgmlaaDoor.Fl
