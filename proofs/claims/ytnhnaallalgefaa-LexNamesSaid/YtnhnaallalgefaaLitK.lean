/- The walk of the reference's part. Conditions: as each theorem says. -/
import Derived.Test.YtnhnaallalgefaaLitJ
namespace Go.Proofs.Ytnhnaallalgefaa
open Go Go.RowKit Go.Proofs Fl

/-- what part tells of what its reading comes to -/
def PartTells (r : Option (Int × Nat)) (e : Ending) : Prop :=
  match r with
  | some (n, j) => e = .returned (.tuple #[.int .i64 n, .int .i64 j])
  | none => e = .returned (.tuple #[.int .i64 0, .int .i64 (-1)])

theorem digsS_of {l : List Int} {s a j : Nat} (h : dg 0 s (l.drop s) = some (a, j)) : digsS l s = if s < j then some (a, j) else none := by
  unfold digsS; rw [h]
theorem digsS_none {l : List Int} {s : Nat} (h : dg 0 s (l.drop s) = none) : digsS l s = none := by
  unfold digsS; rw [h]

end Go.Proofs.Ytnhnaallalgefaa
