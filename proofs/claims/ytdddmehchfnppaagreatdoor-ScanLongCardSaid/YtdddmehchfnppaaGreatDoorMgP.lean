/- The statement ScanLong: for every input the call returns true, and each argument reads afterwards as it read before. Conditions: none of ours; the row's own. -/
import Derived.Test.YtdddmehchfnppaaGreatDoorCards
import Derived.Test.YtdddmehchfnppaaGreatDoorTie
import Derived.Test.YtdddmehchfnppaaGreatDoorMg48
import Derived.ProofKit
import Derived.OpenShut
import Derived.Deep.DeepHandedRow
import Derived.Lib.LaidTab
import Derived.Lib.TrailingZeros
import Derived.ChangeOld
import Derived.SizedLaws
import Derived.Deep.Slices
namespace Go.Proofs.YtdddmehchfnppaaGreatDoor.scanLongP
open Go.ChangeShapes Go.WideShapes Go.ChangeAt Go.RowKit Go.Deep
open Go.Proofs.YtdddmehchfnppaaGreatDoor Fl

theorem own : ownKnob Tryz.prog.godebug = none := by kernel_rfl
theorem laidOut : laidOutB Tryz.prog = true := by kernel_rfl
theorem gTab : Tryz.prog.globalNamed "math/bits.deBruijn64tab" = some 0 := by kernel_rfl
theorem gTabType : (Tryz.prog.globals[0]?).map (·.type) = some 156 := by kernel_rfl
theorem cellsA : Tryz.prog.cellsOf 156 = 64 := by kernel_rfl
theorem cellsE : Tryz.prog.cellsOf 5 = 1 := by kernel_rfl

def tabZ : List Int := Lib.deBruijn64tab.map Int.ofNat

theorem table {W : World} (h : laidMetH Tryz.prog Rows.scanLongRow.laid W) : TzTab W := by
  have ht : Lib.TabIs Tryz.prog W "math/bits.deBruijn64tab" .u8 tabZ :=
    Lib.tabIs_of_head (rest := []) gTab gTabType Tryz.underlying156 Tryz.underlying5 cellsE cellsA h
  intro i hi
  have hl : tabZ.length = 64 := by decide
  rw [ht.cell gTab i (by rw [hl]; exact hi)]
  congr 2
  have : ∀ i, i < 64 → tabZ.getD i 0 = ((Lib.deBruijn64tab.getD i 0 : Nat) : Int) := by decide +kernel
  exact this i hi

theorem trod_bool {H : Type} {enc : TypeId × Value → H} {W : World} {sp : Nat → Bool} {held : Bool} {base n : Nat} {v : Value} {d : DataW H × List MemPlace}
    (h : DataW.trod enc Tryz.prog W base sp held n 4 [v] = some d) : ∃ b, v = .bool b ∧ True := by
  cases n with
  | zero => simp [DataW.trod] at h
  | succ n =>
    cases v <;> simp [DataW.trod, Tryz.underlying4] at h
    rename_i b
    exact ⟨b, rfl, trivial⟩

/-- a slice that came in reads as a list -/
theorem bool_open {H : Type} {enc : TypeId × Value → H} {W : World} {a : Option Addr} {n c : Nat} {d : DataW H} {p : List MemPlace} {sp : Nat → Bool} {held : Bool} {base : Nat}
    (h : DataW.Trod enc Tryz.prog W base sp held 59 (.slice a n c) d p) : ∃ F, BRow W (.slice a n c) n F := by
  obtain ⟨fuel, hf⟩ := h
  rcases open_slice1 Tryz.underlying59 (by kernel_rfl) hf with ⟨hcs, _⟩ | ⟨x, l, c', m, k, V, D, Pl, hcs, _, hl, hm, hmm, hx, hcell⟩
  · simp [Value.cells] at hcs
    obtain ⟨rfl, rfl, rfl⟩ := hcs
    exact ⟨fun _ => false, ⟨_, _, rfl, Nat.le_refl _⟩, .inl ⟨none, 0, rfl, rfl⟩⟩
  · simp [Value.cells] at hcs
    obtain ⟨rfl, rfl, rfl⟩ := hcs
    have hnm : n ≤ m := by rw [hmm]; split <;> omega
    by_cases h0 : n = 0
    · subst h0; exact ⟨fun _ => false, ⟨_, _, rfl, hl⟩, .inl ⟨_, c, rfl, rfl⟩⟩
    have hfl : ∀ i, ∃ b : Bool, i < m → V i = .bool b ∧ True := fun i => by
      by_cases hi : i < m
      · obtain ⟨b, hb⟩ := trod_bool (hcell i hi).2; exact ⟨b, fun _ => hb⟩
      · exact ⟨false, fun h => absurd h hi⟩
    obtain ⟨b, hb⟩ := Classical.axiomOfChoice hfl
    obtain ⟨bl, off, spot⟩ := x
    have hspot : spot = none := by simpa [Addr.add] using World.cell?_spot (hcell 0 (by omega)).1
    subst hspot
    refine ⟨b, ⟨_, _, rfl, hl⟩, .inr ⟨bl, off, n, c, rfl, by simp, fun i hi => ?_⟩⟩
    have hi' : i < n := by simpa using hi
    have := (hcell i (by omega)).1
    have e : (⟨bl, off, none⟩ : Addr).add i = ⟨bl, off + i, none⟩ := by
      unfold Addr.add; split
      · rename_i h0; subst h0; rfl
      · rfl
    rw [e] at this
    rw [this, (hb i (by omega)).1]
    simp

theorem trod_i64 {H : Type} {enc : TypeId × Value → H} {W : World} {sp : Nat → Bool} {held : Bool} {base n : Nat} {v : Value} {d : DataW H × List MemPlace}
    (h : DataW.trod enc Tryz.prog W base sp held n 2 [v] = some d) : ∃ b, v = .int .i64 b ∧ (-9223372036854775808 ≤ b ∧ b ≤ 9223372036854775807) := by
  cases n with
  | zero => simp [DataW.trod] at h
  | succ n =>
    cases v <;> simp [DataW.trod, Tryz.underlying2] at h
    rename_i k b
    obtain ⟨h1, _⟩ := h
    obtain ⟨rfl, h2⟩ := h1
    exact ⟨b, rfl, by simp [Lit.wf, IntKind.min, IntKind.max, IntKind.signed, IntKind.bits] at h2; omega⟩

/-- a slice that came in reads as a list -/
theorem i64_open {H : Type} {enc : TypeId × Value → H} {W : World} {a : Option Addr} {n c : Nat} {d : DataW H} {p : List MemPlace} {sp : Nat → Bool} {held : Bool} {base : Nat}
    (h : DataW.Trod enc Tryz.prog W base sp held 28 (.slice a n c) d p) : ∃ F, LRow W (.slice a n c) n F := by
  obtain ⟨fuel, hf⟩ := h
  rcases open_slice1 Tryz.underlying28 (by kernel_rfl) hf with ⟨hcs, _⟩ | ⟨x, l, c', m, k, V, D, Pl, hcs, _, hl, hm, hmm, hx, hcell⟩
  · simp [Value.cells] at hcs
    obtain ⟨rfl, rfl, rfl⟩ := hcs
    exact ⟨fun _ => 0, ⟨_, _, rfl, Nat.le_refl _⟩, .inl ⟨none, 0, rfl, rfl⟩, fun j hj => absurd hj (Nat.not_lt_zero _)⟩
  · simp [Value.cells] at hcs
    obtain ⟨rfl, rfl, rfl⟩ := hcs
    have hnm : n ≤ m := by rw [hmm]; split <;> omega
    by_cases h0 : n = 0
    · subst h0; exact ⟨fun _ => 0, ⟨_, _, rfl, hl⟩, .inl ⟨_, c, rfl, rfl⟩, fun j hj => absurd hj (Nat.not_lt_zero _)⟩
    have hfl : ∀ i, ∃ b : Int, i < m → V i = .int .i64 b ∧ (-9223372036854775808 ≤ b ∧ b ≤ 9223372036854775807) := fun i => by
      by_cases hi : i < m
      · obtain ⟨b, hb⟩ := trod_i64 (hcell i hi).2; exact ⟨b, fun _ => hb⟩
      · exact ⟨0, fun h => absurd h hi⟩
    obtain ⟨b, hb⟩ := Classical.axiomOfChoice hfl
    obtain ⟨bl, off, spot⟩ := x
    have hspot : spot = none := by simpa [Addr.add] using World.cell?_spot (hcell 0 (by omega)).1
    subst hspot
    refine ⟨b, ⟨_, _, rfl, hl⟩, .inr ⟨bl, off, n, c, rfl, by simp, fun i hi => ?_⟩, fun j hj => (hb j (by omega)).2⟩
    have hi' : i < n := by simpa using hi
    have := (hcell i (by omega)).1
    have e : (⟨bl, off, none⟩ : Addr).add i = ⟨bl, off + i, none⟩ := by
      unfold Addr.add; split
      · rename_i h0; subst h0; rfl
      · rfl
    rw [e] at this
    rw [this, (hb i (by omega)).1]
    simp

set_option maxRecDepth 100000 in
theorem contract (H : Type) (enc : TypeId × Value → H) (W : World) (base : Nat) (args : Array Value) (ds gs : List (DataW H)) (before : List MemPlace)
    (hval : ∀ (j : Nat) t v, Tryz.f5.params[j]? = some t → args[j]? = some v → Value.okWide Tryz.prog W .any base t v)
    (hW : DataW.Whole enc Tryz.prog Tryz.f5.params.toList Rows.scanLongSpec.vars false W args.toList ds gs before) (hL : laidMetH Tryz.prog Rows.scanLongRow.laid W) :
    Calls Tryz.prog 5 args W fun e W' => ∃ v, e = .returned v ∧ Rows.scanLongSpec.post enc Tryz.prog Tryz.f5 false true false false W args v W' := by
  have hW' := hW
  obtain ⟨p, q, hA0, hV, rfl, hfz, hnd⟩ := hW
  have hA : DataW.TrodAll enc Tryz.prog W 0 (fun _ => true) true Tryz.f5.params.toList args.toList ds p := hA0
  rw [Tryz.params5] at hA hval
  obtain ⟨v0, vs0, d0, ds0, p0, q0, hargs, rfl, rfl, h0, r0⟩ := trodAll_cons hA
  obtain ⟨v1, vs1, d1, ds1, p1, q1, rfl, rfl, rfl, h1, r1⟩ := trodAll_cons r0
  obtain ⟨v2, vs2, d2, ds2, p2, q2, rfl, rfl, rfl, h2, r2⟩ := trodAll_cons r1
  obtain ⟨v3, vs3, d3, ds3, p3, q3, rfl, rfl, rfl, h3, r3⟩ := trodAll_cons r2
  obtain ⟨rfl, rfl, rfl⟩ := trodAll_nil r3
  obtain rfl : args = #[v0, v1, v2, v3] := by cases args; simp_all
  obtain ⟨rfl, rfl⟩ := trodVars_none hV
  obtain ⟨x0, rfl, rfl, rfl, wf0⟩ := open_int Tryz.underlying3 (hval 0 3 v0 rfl rfl) h0
  obtain ⟨a1, len1, cap1, rfl⟩ := okWide_slice Tryz.underlying59 (hval 1 59 v1 rfl rfl)
  have k1 := h1
  have lt1 : ∀ x ∈ p1, x.block < W.heap.size := by obtain ⟨m, hm⟩ := k1; exact DataW.trod_lt m _ _ _ hm
  obtain ⟨l1, rn1⟩ := bool_open h1
  obtain ⟨x2, rfl, rfl, rfl, wf2⟩ := open_int Tryz.underlying5 (hval 2 5 v2 rfl rfl) h2
  have bd2 : 0 ≤ x2 ∧ x2 ≤ 255 := by have h2 := wf2; simp [Lit.wf, IntKind.min, IntKind.max, IntKind.signed, IntKind.bits] at h2; omega
  obtain ⟨a3, len3, cap3, rfl⟩ := okWide_slice Tryz.underlying28 (hval 3 28 v3 rfl rfl)
  have k3 := h3
  have lt3 : ∀ x ∈ p3, x.block < W.heap.size := by obtain ⟨m, hm⟩ := k3; exact DataW.trod_lt m _ _ _ hm
  obtain ⟨l3, rn3⟩ := i64_open h3
  clear hA0
  refine (scanLong_any x0 rn1 x2 bd2 rn3 (table hL)).mono fun e W' ⟨he, bel⟩ => ?_
  subst he
  exact ⟨_, rfl, _, _, _, [], _, [], hW', trodAll_mk1 (shut_bool Tryz.underlying4 _), (trodAll_cons_mk (shut_int Tryz.underlying3 wf0) (trodAll_cons_mk (Below.trod laidOut (by kernel_rfl) (of_decide_eq_true (by kernel_rfl)) k1 bel lt1) (trodAll_cons_mk (shut_int Tryz.underlying5 wf2) (trodAll_cons_mk (Below.trod laidOut (by kernel_rfl) (of_decide_eq_true (by kernel_rfl)) k3 bel lt3) trodAll_mk0)))), rfl, bel.frame _, fun h => by cases h⟩

/-- a world for the witness: the settled one, the table holding what its initialiser lays -/
noncomputable def laidWorld (os : Os) : World :=
  { World.holding Tryz.prog os ⟨#[], #[], []⟩ with heap := (World.holding Tryz.prog os ⟨#[], #[], []⟩).heap.modify 0 fun
      | .cells _ t frozen => .cells (tabZ.map (Value.int .u8)).toArray t frozen
      | o => o }
theorem laid_met (os : Os) : laidMet Tryz.prog Rows.scanLongRow.laid ((laidWorld os).forCall (fun _ _ => 0) ⟨#[], #[.int .i64 0, .slice none 0 0, .int .u8 0, .slice none 0 0], []⟩).memory :=
  laidMet_of_run' 8 (by kernel_rfl) (by kernel_rfl)
theorem reads (os : Os) {H : Type} (enc : TypeId × Value → H) : ∃ places, DataW.whole enc Tryz.prog ((laidWorld os).forCall (fun _ _ => 0) ⟨#[], #[.int .i64 0, .slice none 0 0, .int .u8 0, .slice none 0 0], []⟩).memory Tryz.f5.params.toList Rows.scanLongSpec.vars false #[Value.int .i64 0, Value.slice none 0 0, Value.int .u8 0, Value.slice none 0 0].toList 8 = some ([.lit (.int .i64 0), .nil, .lit (.int .u8 0), .nil], [], places) :=
  ⟨[], by kernel_rfl⟩

set_option maxRecDepth 100000 in
theorem lifted (os : Os) (started : os.Started) (H : Type) (enc : TypeId × Value → H) (F : Stop.Interp) :
    ReturnsInHanded {} Tryz.checked os 5 .any ((OpenSpec.ofChange Rows.scanLongSpec).preRow enc Tryz.prog Tryz.f5 Rows.scanLongRow.domain false Rows.scanLongRow.laid) (((OpenSpec.ofChange Rows.scanLongSpec).at F).post enc Tryz.prog Tryz.f5 false true false false) := by
  obtain ⟨places, hx⟩ := reads os enc
  refine returnsInHanded_of_row (C := Tryz.checked) (s := OpenSpec.ofChange Rows.scanLongSpec) own started (by kernel_rfl) Tryz.func5
    (witness_row_at (enc := enc) (C := Tryz.checked) false (laidWorld os) #[.int .i64 0, .slice none 0 0, .int .u8 0, .slice none 0 0] rfl (by kernel_rfl) (by kernel_rfl) (by kernel_rfl)
      (OpenSpec.preRow_of_cond 8 hx (by kernel_rfl) (fun k hk => by cases hk) (by kernel_rfl) (laid_met os))) ?_
  intro W base args ds gs before hval hW _ _ _ hL _ _
  exact contract H enc W base args ds gs before hval hW hL

theorem said : Rows.ScanLongSaid :=
  OpenClaim.holds_of_cond 5 Tryz.f5 rfl rfl rfl rfl rfl rfl rfl ⟨rfl, rfl, rfl, rfl, rfl⟩ rfl rfl rfl rfl rfl (by kernel_rfl) Tryz.func5 (by kernel_rfl)
    (of_decide_eq_true (by kernel_rfl)) (by unfold Func.isWrapper; first | (rw [if_pos (by decide +kernel)]; kernel_rfl) | (rw [if_neg (by decide +kernel)]; exact ⟨rfl, rfl⟩))
    (fun os started H enc _ F => by rw [OpenClaim.pre_eq_preRow]; exact lifted os started H enc F)

theorem plain (f : FuncId) (fn : Func) (hf : Tryz.pinned.checked.prog.funcNamed "rebus/rebuslaw14.ScanLong" = some f) (hfn : Tryz.pinned.checked.prog.funcs[f]? = some fn) :
    false = Tryz.pinned.checked.prog.looks [] ∧ ∀ (j : Nat) t, fn.params[j]? = some t → Tryz.pinned.checked.prog.wantsStandIn t = false := by
  obtain rfl : f = 5 := Option.some.inj ((show Tryz.prog.funcNamed "rebus/rebuslaw14.ScanLong" = some 5 by kernel_rfl).symm.trans hf) |>.symm
  obtain rfl : fn = Tryz.f5 := (Option.some.inj (Tryz.func5.symm.trans hfn)).symm
  refine ⟨by kernel_rfl, fun j t ht => ?_⟩
  rw [Tryz.params5] at ht
  have hm : t ∈ [3, 59, 5, 28] := by simpa using Array.mem_of_getElem? ht
  have hall : ([3, 59, 5, 28].all fun u => !Tryz.prog.wantsStandIn u) = true := by kernel_rfl
  exact (show Tryz.prog.wantsStandIn t = false by simpa using List.all_eq_true.1 hall t hm)
end Go.Proofs.YtdddmehchfnppaaGreatDoor.scanLongP

namespace Go.Proofs.YtdddmehchfnppaaGreatDoor
/-- the tied card of ScanLong -/
theorem scanLong_card : Rows.ScanLongCardSaid :=
  Claim7.holds_tied_plain_at .later [] _ _ _ _ scanLongP.said (fun _ h => by cases h) (by kernel_rfl) (fun _ h => by cases h) scanLong_row_tie rfl ⟨rfl, rfl⟩ (by kernel_rfl) rfl scanLongP.plain (by kernel_rfl)
end Go.Proofs.YtdddmehchfnppaaGreatDoor
