/- The statement ScanRows: for every input the call returns true, and each argument reads afterwards as it read before. Conditions: none of ours; the row's own. -/
import Derived.Test.YtdddmehchfnppaaGreatDoorCards
import Derived.Test.YtdddmehchfnppaaGreatDoorTie
import Derived.Test.YtdddmehchfnppaaGreatDoorMg48
import Derived.ProofKit
import Derived.OpenShut
import Derived.Deep.DeepHandedRow
import Derived.Lib.LaidTab
import Derived.Lib.TrailingZeros
import Derived.ChangeOld
import Derived.SizedLaws
import Derived.Deep.Slices
namespace Go.Proofs.YtdddmehchfnppaaGreatDoor.scanRowsP
open Go.ChangeShapes Go.WideShapes Go.ChangeAt Go.RowKit Go.Deep
open Go.Proofs.YtdddmehchfnppaaGreatDoor Fl

theorem own : ownKnob Tryz.prog.godebug = none := by kernel_rfl
theorem laidOut : laidOutB Tryz.prog = true := by kernel_rfl
theorem gTab : Tryz.prog.globalNamed "math/bits.deBruijn64tab" = some 0 := by kernel_rfl
theorem gTabType : (Tryz.prog.globals[0]?).map (·.type) = some 156 := by kernel_rfl
theorem cellsA : Tryz.prog.cellsOf 156 = 64 := by kernel_rfl
theorem cellsE : Tryz.prog.cellsOf 5 = 1 := by kernel_rfl

def tabZ : List Int := Lib.deBruijn64tab.map Int.ofNat

theorem table {W : World} (h : laidMetH Tryz.prog Rows.scanRowsRow.laid W) : TzTab W := by
  have ht : Lib.TabIs Tryz.prog W "math/bits.deBruijn64tab" .u8 tabZ :=
    Lib.tabIs_of_head (rest := []) gTab gTabType Tryz.underlying156 Tryz.underlying5 cellsE cellsA h
  intro i hi
  have hl : tabZ.length = 64 := by decide
  rw [ht.cell gTab i (by rw [hl]; exact hi)]
  congr 2
  have : ∀ i, i < 64 → tabZ.getD i 0 = ((Lib.deBruijn64tab.getD i 0 : Nat) : Int) := by decide +kernel
  exact this i hi

theorem trod_float {H : Type} {enc : TypeId × Value → H} {W : World} {sp : Nat → Bool} {held : Bool} {base n : Nat} {v : Value} {d : DataW H × List MemPlace}
    (h : DataW.trod enc Tryz.prog W base sp held n 47 [v] = some d) : ∃ b, v = .float .f64 b ∧ b < 18446744073709551616 := by
  cases n with
  | zero => simp [DataW.trod] at h
  | succ n =>
    cases v <;> simp [DataW.trod, Tryz.underlying47] at h
    rename_i k b
    obtain ⟨h1, _⟩ := h
    obtain ⟨rfl, h2⟩ := h1
    exact ⟨b, rfl, by simpa [Lit.wf] using h2⟩

/-- a slice that came in reads as a list -/
theorem float_open {H : Type} {enc : TypeId × Value → H} {W : World} {a : Option Addr} {n c : Nat} {d : DataW H} {p : List MemPlace} {sp : Nat → Bool} {held : Bool} {base : Nat}
    (h : DataW.Trod enc Tryz.prog W base sp held 22 (.slice a n c) d p) : ∃ F, FRow W (.slice a n c) n F := by
  obtain ⟨fuel, hf⟩ := h
  rcases open_slice1 Tryz.underlying22 (by kernel_rfl) hf with ⟨hcs, _⟩ | ⟨x, l, c', m, k, V, D, Pl, hcs, _, hl, hm, hmm, hx, hcell⟩
  · simp [Value.cells] at hcs
    obtain ⟨rfl, rfl, rfl⟩ := hcs
    exact ⟨fun _ => 0, ⟨_, _, rfl, Nat.le_refl _⟩, .inl ⟨none, 0, rfl, rfl⟩, fun j hj => absurd hj (Nat.not_lt_zero _)⟩
  · simp [Value.cells] at hcs
    obtain ⟨rfl, rfl, rfl⟩ := hcs
    have hnm : n ≤ m := by rw [hmm]; split <;> omega
    by_cases h0 : n = 0
    · subst h0; exact ⟨fun _ => 0, ⟨_, _, rfl, hl⟩, .inl ⟨_, c, rfl, rfl⟩, fun j hj => absurd hj (Nat.not_lt_zero _)⟩
    have hfl : ∀ i, ∃ b : Nat, i < m → V i = .float .f64 b ∧ b < 18446744073709551616 := fun i => by
      by_cases hi : i < m
      · obtain ⟨b, hb⟩ := trod_float (hcell i hi).2; exact ⟨b, fun _ => hb⟩
      · exact ⟨0, fun h => absurd h hi⟩
    obtain ⟨b, hb⟩ := Classical.axiomOfChoice hfl
    obtain ⟨bl, off, spot⟩ := x
    have hspot : spot = none := by simpa [Addr.add] using World.cell?_spot (hcell 0 (by omega)).1
    subst hspot
    refine ⟨b, ⟨_, _, rfl, hl⟩, .inr ⟨bl, off, n, c, rfl, by simp, fun i hi => ?_⟩, fun j hj => (hb j (by omega)).2⟩
    have hi' : i < n := by simpa using hi
    have := (hcell i (by omega)).1
    have e : (⟨bl, off, none⟩ : Addr).add i = ⟨bl, off + i, none⟩ := by
      unfold Addr.add; split
      · rename_i h0; subst h0; rfl
      · rfl
    rw [e] at this
    rw [this, (hb i (by omega)).1]
    simp

/-- a world for the witness: the settled one, the table holding what its initialiser lays -/
noncomputable def laidWorld (os : Os) : World :=
  { World.holding Tryz.prog os ⟨#[], #[], []⟩ with heap := (World.holding Tryz.prog os ⟨#[], #[], []⟩).heap.modify 0 fun
      | .cells _ t frozen => .cells (tabZ.map (Value.int .u8)).toArray t frozen
      | o => o }
theorem laid_met (os : Os) : laidMet Tryz.prog Rows.scanRowsRow.laid ((laidWorld os).forCall (fun _ _ => 0) ⟨#[], #[.int .i64 0, .slice none 0 0, .int .i64 0, .int .i64 0, .int .i64 0], []⟩).memory :=
  laidMet_of_run' 8 (by kernel_rfl) (by kernel_rfl)
theorem reads (os : Os) {H : Type} (enc : TypeId × Value → H) : ∃ places, DataW.whole enc Tryz.prog ((laidWorld os).forCall (fun _ _ => 0) ⟨#[], #[.int .i64 0, .slice none 0 0, .int .i64 0, .int .i64 0, .int .i64 0], []⟩).memory Tryz.f3.params.toList Rows.scanRowsSpec.vars false #[Value.int .i64 0, Value.slice none 0 0, Value.int .i64 0, Value.int .i64 0, Value.int .i64 0].toList 8 = some ([.lit (.int .i64 0), .nil, .lit (.int .i64 0), .lit (.int .i64 0), .lit (.int .i64 0)], [], places) :=
  ⟨[], by kernel_rfl⟩

theorem plain (f : FuncId) (fn : Func) (hf : Tryz.pinned.checked.prog.funcNamed "rebus/rebuslaw14.ScanRows" = some f) (hfn : Tryz.pinned.checked.prog.funcs[f]? = some fn) :
    false = Tryz.pinned.checked.prog.looks [] ∧ ∀ (j : Nat) t, fn.params[j]? = some t → Tryz.pinned.checked.prog.wantsStandIn t = false := by
  obtain rfl : f = 3 := Option.some.inj ((show Tryz.prog.funcNamed "rebus/rebuslaw14.ScanRows" = some 3 by kernel_rfl).symm.trans hf) |>.symm
  obtain rfl : fn = Tryz.f3 := (Option.some.inj (Tryz.func3.symm.trans hfn)).symm
  refine ⟨by kernel_rfl, fun j t ht => ?_⟩
  rw [Tryz.params3] at ht
  have hm : t ∈ [3, 22, 3, 3, 3] := by simpa using Array.mem_of_getElem? ht
  have hall : ([3, 22, 3, 3, 3].all fun u => !Tryz.prog.wantsStandIn u) = true := by kernel_rfl
  exact (show Tryz.prog.wantsStandIn t = false by simpa using List.all_eq_true.1 hall t hm)
end Go.Proofs.YtdddmehchfnppaaGreatDoor.scanRowsP

namespace Go.Proofs.YtdddmehchfnppaaGreatDoor
end Go.Proofs.YtdddmehchfnppaaGreatDoor
