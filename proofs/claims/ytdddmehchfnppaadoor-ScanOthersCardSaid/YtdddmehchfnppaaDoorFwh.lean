/- The walk of fold.wholes where every step goes in whole numbers. Conditions: as each theorem says. -/
import Derived.Test.YtdddmehchfnppaaDoorSqz
import Derived.Test.YtdddmehchfnppaaDoorVcK
import Derived.Laws.MakeOwn
namespace Go.Proofs.YtdddmehchfnppaaDoor
open Go Go.RowKit Go.Proofs Fl

set_option maxRecDepth 100000 in
set_option maxHeartbeats 1000000 in
theorem ints_zero (a : Option Addr) (c : Nat) (w : World) :
    Calls Tryd.prog 52 #[.slice a 0 c] w fun e w' => ∃ u, e = .returned (.tuple #[vecV 3 vnil 0 vnil u vnil vnil vnil, .bool true]) ∧ Own1 w' w.heap.size 2 u (([] : List Int).map (.int .i64)) ∧ Below w.heap.size w w' := by
  have HC := Lib.hid (fun w2 (_ : Below w.heap.size w w2) => cl64_any (w := w2) (v := .slice a 0 c) (xs := ([] : List Int).map (.int .i64)) (.inl ⟨a, c, rfl, rfl⟩) (by simp) (by simp))
  go_enter Tryd.func52, Tryd.ntmps52
  go_wp2
  refine wp_loop_rounds 1 ?_
  rw [rounds_succ]
  go_wp2_with fail
  refine (HC.out _ (bel1 _ _)).mono ?_
  rintro e w1 ⟨u, rfl, ho, hb1⟩
  have HB1 := Lib.hid ((bel1 w _).trans (hb1.mono (bel1 w _).size))
  obtain ⟨h0, h1, h2, h3, h4, h5, h6, h7⟩ := (boxed_new w 35 0 vnil 0 vnil vnil vnil vnil vnil).below hb1
  have HK := Lib.hid (block_up hb1)
  have hz : ∀ j, w1.frozen? ⟨w.heap.size, j, none⟩ = false := fun j => by rw [hb1.frozen (by simp)]; exact frozen_new _ _ _ _
  have HNE : Hid (u.ownBlock ≠ some w.heap.size) := fun e => by have := (World.ownsRow.lt ho _ e).1; simp at this; omega
  have HO := Lib.hid ho
  obtain ⟨a, n, c, hu⟩ : ∃ a n c, u = .slice a n c := by obtain ⟨a, c, e⟩ := ho.reads.len; exact ⟨a, _, c, e⟩
  subst hu
  clear hb1 ho
  go_wp2
  refine bodyPost_ret (v := .tuple #[vecV 3 vnil 0 vnil (.slice a n c) vnil vnil vnil, .bool true]) ?_ rfl ⟨.slice a n c, rfl, own_set8 (HO.out.lower (by simp)) HNE.out _ _ _ _ _ _ _ _, below_set8 HB1.out (Nat.le_refl _) _ _ _ _ _ _ _ _⟩
  exact ret_vec2 (fn := Tryd.f52) (p := 2) (u := 3) rfl _ _ w.heap.size (by rfl) (set8_block HK.out _ _ _ _ _ _ _ _)

/-- vec.Ints at a slice that reads as a list of whole numbers that are not too great -/
theorem ints_any {w : World} {v : Value} {l : List Int} (h : Reads1 w v (l.map (.int .i64))) (hl : l.length ≤ 1000000) (hg : ∀ x ∈ l, Good x) :
    Calls Tryd.prog 52 #[v] w fun e w' => ∃ u, e = .returned (.tuple #[vecV 3 vnil 0 vnil u vnil vnil vnil, .bool true]) ∧ Own1 w' w.heap.size 2 u (l.map (.int .i64)) ∧ Below w.heap.size w w' := by
  rcases h.at with ⟨a, c, rfl, h0⟩ | ⟨b, o, c, rfl, hc⟩
  · have := List.map_eq_nil_iff.1 h0
    subst this
    exact ints_zero a c w
  · rw [List.length_map]
    exact ints_walk b o _ c l rfl hl w (fun i hi => by have := hc i (by simpa using hi); simpa using this) hg

/-- what the rows are put together to, the first cnt of them -/
def outS (X : Nat → Nat → Nat → Int) (inner cnt : Nat) : List Int := (List.range cnt).map fun c => X (c / inner) (c % inner) 0
theorem outS_len (X : Nat → Nat → Nat → Int) (inner cnt : Nat) : (outS X inner cnt).length = cnt := by simp [outS]
theorem outS_succ (X : Nat → Nat → Nat → Int) (inner o k : Nat) (h : k < inner) : (outS X inner (o * inner + k)).map (Value.int .i64) ++ [.int .i64 (X o k 0)] = (outS X inner (o * inner + (k + 1))).map (Value.int .i64) := by
  have h1 : (o * inner + k) / inner = o := by rw [Nat.mul_comm, Nat.mul_add_div (by omega), Nat.div_eq_of_lt h]; omega
  have h2 : (o * inner + k) % inner = k := by rw [Nat.mul_comm, Nat.mul_add_mod, Nat.mod_eq_of_lt h]
  rw [← Nat.add_assoc]
  unfold outS
  rw [List.range_succ, List.map_append, List.map_append]
  simp [h1, h2]
theorem outS_good {X : Nat → Nat → Nat → Int} {outer inner : Nat} (h : ∀ o k, o < outer → k < inner → Good (X o k 0)) : ∀ x ∈ outS X inner (outer * inner), Good x := by
  intro x hx
  obtain ⟨c, hc, rfl⟩ := List.mem_map.1 hx
  have hc' := List.mem_range.1 hc
  have hi : 0 < inner := by
    rcases Nat.eq_zero_or_pos inner with e | e
    · rw [e, Nat.mul_zero] at hc'; omega
    · exact e
  exact h _ _ (Nat.div_lt_of_lt_mul (by rw [Nat.mul_comm]; exact hc')) (Nat.mod_lt _ hi)

theorem make_cap (n : Nat) (hn : n ≤ 1000000) (w : World) : (Instr.makeSlice 23 (.int .i64 0) (.int .i64 (n : Int))).run Tryd.prog w = .ok (.slice (some ⟨w.heap.size, 0, none⟩) 0 n) (w.alloc (.cells (madeCells #[.int .i64 0] n) 2)) := by
  obtain ⟨i, hi, hz, hs, hb⟩ := info_parts info_i64
  have hr := run_make (P := Tryd.prog) w 23 2 i (.int .i64 0) Tryd.underlying23 hi hz .i64 .i64 0 (n : Int) (by omega) (by omega) (by rw [hb]; omega) (by omega)
  simp only [Int.toNat_natCast, hs, Nat.mul_one] at hr
  exact hr
end Go.Proofs.YtdddmehchfnppaaDoor
