/- The walk of Wholes at a Vec of eight-bit numbers. Conditions: as each theorem says. -/
import Derived.Test.YtdddmehchfnppaaDoorVcI
namespace Go.Proofs.YtdddmehchfnppaaDoor
open Go Go.RowKit Go.Proofs Fl

theorem info_i64 : (Tryd.prog.info? 2).map (fun i => (i.zero, i.size, i.bytes)) = some (some (.int .i64 0), 1, 8) := by kernel_rfl

set_option maxRecDepth 100000 in
set_option maxHeartbeats 1000000 in
theorem wholes_small (b : Value) (bn : Int) (s i f c x : Value) (n : Nat) (l : Nat → Int) (w : World) (hn : n ≤ 1000000)
    (hlen : ∀ w', Below w.heap.size w w' → Calls Tryd.prog 38 #[vecV 2 b bn s i f c x] w' fun e w2 => e = .returned (.int .i64 n) ∧ Below w'.heap.size w' w2)
    (hwh : ∀ w', Below w.heap.size w w' → ∀ j, j < n → Calls Tryd.prog 59 #[vecV 2 b bn s i f c x, .int .i64 (j : Nat)] w' fun e w2 => e = .returned (.tuple #[.int .i64 (l j), .bool true]) ∧ Below w'.heap.size w' w2) :
    Calls Tryd.prog 31 #[vecV 2 b bn s i f c x] w fun e w' => ∃ g, e = .returned (.tuple #[.slice (some ⟨g, 0, none⟩) n n, .bool true]) ∧ Own1 w' w.heap.size 2 (.slice (some ⟨g, 0, none⟩) n n) ((List.range n).map fun j => .int .i64 (l j)) ∧ Below w.heap.size w w' := by
  have HLN := Lib.hid hlen
  have HW := Lib.hid hwh
  have hmk := run_make_row' (P := Tryd.prog) 23 2 (.int .i64 0) 8 Tryd.underlying23 info_i64 rfl .i64 .i64 n (by omega) (by omega)
  clear hlen hwh
  go_enter Tryd.func31, Tryd.ntmps31
  go_wp2_with fail
  refine (HLN.out _ (bel1 w _)).mono ?_
  rintro e w1 ⟨rfl, hb1⟩
  have HB1 := Lib.hid (bel_both (bel1 w _) hb1)
  have HX1 := Lib.hid ((boxed_new w 35 2 b bn s i f c x).below hb1)
  clear hb1
  have HGN : Hid (w1.heap.size ≠ w.heap.size) := by have h1 := HX1.out.lt; show _ ≠ _; omega
  have HF0 := Lib.hid (Fill.made w1 w.heap.size HB1.out.size 2 (fun j => .int .i64 (l j)) (.int .i64 0) n (by unfold maxLen; omega))
  have HBM := Lib.hid (HB1.out.alloc HB1.out.size (.cells (madeCells #[.int .i64 0] n) 2))
  have HXM := Lib.hid (HX1.out.below (bel1 w1 (.cells (madeCells #[.int .i64 0] n) 2)))
  go_wp2_with fail
  go_loopw [21] (fun j wr => ∃ m : Nat, m ≤ n ∧ j = .int .i64 m ∧ Fill wr w.heap.size w1.heap.size 2 (fun j => .int .i64 (l j)) (.int .i64 0) n m ∧ Below w.heap.size w wr ∧ Boxed wr w.heap.size 2 b bn s i f c x) (fun j _ => n - (intOf j).toNat)
  case atStart => exact ⟨0, Nat.zero_le _, rfl, HF0.out, HBM.out, HXM.out⟩
  case round =>
    obtain ⟨m, hm, rfl, hf, hbl, hx⟩ := hrel
    have HF := Lib.hid hf
    have HBL := Lib.hid hbl
    have HX := Lib.hid hx
    clear hf hbl
    by_cases hlt : m < n
    · obtain ⟨h0, h1, h2, h3, h4, h5, h6, h7⟩ := hx
      go_wp2_with fail
      refine (HW.out _ HBL.out m hlt).mono ?_
      rintro e w3 ⟨rfl, hb3⟩
      have HF3 := Lib.hid (HF.out.below hb3)
      have HP3 := Lib.hid (HF3.out.put hlt)
      have HB3 := Lib.hid (HF3.out.bel (bel_both HBL.out hb3) m (.int .i64 (l m)))
      have HX3 := Lib.hid ((HX.out.below hb3).set (p := ⟨w1.heap.size, m, none⟩) HGN.out (.int .i64 (l m)))
      have hc3 := HF3.out.cell hlt
      have hz3 := HF3.out.frozen m
      clear hb3 h0 h1 h2 h3 h4 h5 h6 h7
      generalize l m = z at *
      go_wp2
      go_roundw
      case rel => exact ⟨m + 1, by omega, by go_num, HP3.out, HB3.out, HX3.out⟩
      case measure => simp [intOf]; omega
    · obtain rfl : m = n := by omega
      clear hx
      go_wp2
      go_ret2
      exact ⟨_, rfl, HF.out.own, HBL.out⟩
end Go.Proofs.YtdddmehchfnppaaDoor
