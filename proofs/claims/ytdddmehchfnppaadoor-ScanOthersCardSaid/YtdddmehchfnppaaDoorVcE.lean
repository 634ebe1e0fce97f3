/- The walk of vec.Floats where all numbers are finite. Conditions: as each theorem says. -/
import Derived.Test.YtdddmehchfnppaaDoorVcD
namespace Go.Proofs.YtdddmehchfnppaaDoor
open Go Go.RowKit Go.Proofs Fl

/-- a block of eight cells as the walk asks for it -/
theorem boxed_of {w : World} {G : Nat} {e : TypeId} {k : Int} {b : Value} {bn : Int} {s i f c x : Value} (h : w.heap[G]? = some (.cells #[.int .i64 k, b, .int .i64 bn, s, i, f, c, x] e)) :
    Boxed w G k b bn s i f c x ∧ ∀ j, w.frozen? ⟨G, j, none⟩ = false := by
  have h2 : ∀ j u, #[.int .i64 k, b, .int .i64 bn, s, i, f, c, x][j]? = some u → w.cell? ⟨G, j, none⟩ = some u := by
    intro j u hu
    rw [cell_of_row _ G j _ e (0, 0) h]
    exact hu
  exact ⟨⟨h2 0 _ rfl, h2 1 _ rfl, h2 2 _ rfl, h2 3 _ rfl, h2 4 _ rfl, h2 5 _ rfl, h2 6 _ rfl, h2 7 _ rfl⟩, fun j => frozen_of_row _ _ j _ e h⟩

/-- the zero Vec's cells -/
abbrev zcells : Array Value := #[.int .i64 0, .slice none 0 0, .int .i64 0, .slice none 0 0, .slice none 0 0, .slice none 0 0, .slice none 0 0, .slice none 0 0]

set_option maxRecDepth 100000 in
set_option maxHeartbeats 1000000 in
theorem floats_walk (b o n c : Nat) (x y : Nat → Nat) (hn : n ≤ 1000000) (w : World) (hc : ∀ i, i < n → w.cell? ⟨b, o + i, none⟩ = some (.float .f64 (x i)))
    (ht : ∀ i, i < n → ∀ W, Calls Tryd.prog 48 #[.float .f64 (x i)] W fun e w' => e = .returned (.tuple #[.float .f64 (y i), .bool true]) ∧ W = w') :
    Calls Tryd.prog 24 #[.slice (some ⟨b, o, none⟩) n c] w fun e w' => ∃ u, e = .returned (.tuple #[vecV 4 vnil 0 vnil vnil u vnil vnil, .bool true]) ∧ Own1 w' w.heap.size 26 u ((List.range n).map fun j => .float .f64 (y j)) ∧ Below w.heap.size w w' := by
  have HC : Hid (∀ wr, Below w.heap.size w wr → ∀ i, i < n → wr.cell? ⟨b, o + i, none⟩ = some (.float .f64 (x i))) := by
    intro wr hb i h
    rw [hb.cell (cell_lt (hc i h))]; exact hc i h
  have HT := Lib.hid ht
  have hmk := run_make_row' (P := Tryd.prog) 25 26 (.float .f64 0) 8 Tryd.underlying25 info_f64 rfl .i64 .i64 n (by omega) (by omega)
  clear hc ht
  have hsz : (w.alloc (.cells zcells 35)).heap.size = w.heap.size + 1 := by simp
  have HF0 := Lib.hid (Fill.made (w.alloc (.cells zcells 35)) w.heap.size (by simp) 26 (fun j => .float .f64 (y j)) (.float .f64 0) n (by unfold maxLen; omega))
  rw [hsz] at HF0
  have HB0 := Lib.hid (bel2 w (.cells zcells 35) (.cells (madeCells #[.float .f64 0] n) 26))
  have HK0 := Lib.hid (block_up (bel1 (w.alloc (.cells zcells 35)) (.cells (madeCells #[.float .f64 0] n) 26)))
  clear hsz
  go_enter Tryd.func24, Tryd.ntmps24
  go_wp2
  go_loopw [14] (fun j wr => ∃ m : Nat, m ≤ n ∧ j = .int .i64 m ∧ Fill wr w.heap.size (w.heap.size + 1) 26 (fun j => .float .f64 (y j)) (.float .f64 0) n m ∧ Below w.heap.size w wr ∧ wr.heap[w.heap.size]? = some (.cells zcells 35)) (fun j _ => n - (intOf j).toNat)
  case atStart => exact ⟨0, Nat.zero_le _, rfl, HF0.out, HB0.out, HK0.out⟩
  case round =>
    obtain ⟨m, hm, rfl, hf, hbl, hk⟩ := hrel
    have HF := Lib.hid hf
    have HBL := Lib.hid hbl
    have HK := Lib.hid hk
    clear hf hbl hk
    by_cases hlt : m < n
    · have hcell := HC.out wr HBL.out m hlt
      have hc3 := HF.out.cell hlt
      have hz3 := HF.out.frozen m
      have HP := Lib.hid (HF.out.put hlt)
      have HB3 := Lib.hid (HF.out.bel HBL.out m (.float .f64 (y m)))
      have HK3 := Lib.hid (show (wr.setCell ⟨w.heap.size + 1, m, none⟩ (.float .f64 (y m))).heap[w.heap.size]? = some (.cells zcells 35) by rw [Below.heap_setCell _ _ _ _ (by simp)]; exact HK.out)
      have hst := fun md => store_float hc3 hz3 .f64 (y m) md
      have HTM := Lib.hid (HT.out m hlt)
      go_wp2_with fail
      refine (HTM.out _).mono ?_
      rintro e w3 ⟨rfl, rfl⟩
      go_wp2
      go_roundw
      case rel => exact ⟨m + 1, by omega, by go_num, HP.out, HB3.out, HK3.out⟩
      case measure => simp [intOf]; omega
    · obtain rfl : m = n := by omega
      obtain ⟨⟨h0, h1, h2, h3, h4, h5, h6, h7⟩, hz⟩ := boxed_of HK.out
      go_wp2
      refine bodyPost_ret (v := .tuple #[vecV 4 vnil 0 vnil vnil (.slice (some ⟨w.heap.size + 1, 0, none⟩) m m) vnil vnil, .bool true]) ?_ rfl ⟨.slice (some ⟨w.heap.size + 1, 0, none⟩) m m, rfl, own_set8 HF.out.own (by simp [Value.ownBlock]) _ _ _ _ _ _ _ _, below_set8 HBL.out (Nat.le_refl _) _ _ _ _ _ _ _ _⟩
      exact ret_vec2 (fn := Tryd.f24) (p := 2) (u := 3) rfl _ _ w.heap.size (by rfl) (set8_block HK.out _ _ _ _ _ _ _ _)
end Go.Proofs.YtdddmehchfnppaaDoor
