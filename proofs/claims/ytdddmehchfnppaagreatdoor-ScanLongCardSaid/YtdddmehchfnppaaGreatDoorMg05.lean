/- Merged texts. The walk of vec.Floats where all numbers are finite. Conditions: as each theorem says. The walks of whole numbers' sums and differences, and of fold.whole at them; a Vec's numbers as whole ones. Conditions: as each theorem says. The walks of squeeze.whole and squeeze.intoSmalls where all numbers fit eight bits. Conditions: as each theorem says. The walks of squeeze.Into (into eight bits) and of Wholes. Conditions: as each theorem says. The walk of squeeze.Least at whole numbers. Conditions: as each theorem says. What is read out of memory stays so, as long as the blocks outside a hole stay: the word Keeps; squeeze.Squeeze's own blocks. Conditions: as each theorem says. -/
import Derived.Test.YtdddmehchfnppaaGreatDoorMg04
import Derived.Test.YtdddmehchfnppaaGreatDoorMg01
namespace Go.Proofs.YtdddmehchfnppaaGreatDoor
open Go Go.RowKit Go.Proofs Fl

/-- a block of eight cells as the walk asks for it -/
theorem boxed_of {w : World} {G : Nat} {e : TypeId} {k : Int} {b : Value} {bn : Int} {s i f c x : Value} (h : w.heap[G]? = some (.cells #[.int .i64 k, b, .int .i64 bn, s, i, f, c, x] e)) :
    Boxed w G k b bn s i f c x ∧ ∀ j, w.frozen? ⟨G, j, none⟩ = false := by
  have h2 : ∀ j u, #[.int .i64 k, b, .int .i64 bn, s, i, f, c, x][j]? = some u → w.cell? ⟨G, j, none⟩ = some u := by
    intro j u hu
    rw [cell_of_row _ G j _ e (0, 0) h]
    exact hu
  exact ⟨⟨h2 0 _ rfl, h2 1 _ rfl, h2 2 _ rfl, h2 3 _ rfl, h2 4 _ rfl, h2 5 _ rfl, h2 6 _ rfl, h2 7 _ rfl⟩, fun j => frozen_of_row _ _ j _ e h⟩

/-- the zero Vec's cells -/
abbrev zcells : Array Value := #[.int .i64 0, .slice none 0 0, .int .i64 0, .slice none 0 0, .slice none 0 0, .slice none 0 0, .slice none 0 0, .slice none 0 0]

set_option maxRecDepth 100000 in
set_option maxHeartbeats 1000000 in
theorem floats_walk (b o n c : Nat) (x y : Nat → Nat) (hn : n ≤ 1000000) (w : World) (hc : ∀ i, i < n → w.cell? ⟨b, o + i, none⟩ = some (.float .f64 (x i)))
    (ht : ∀ i, i < n → ∀ W, Calls Tryz.prog 60 #[.float .f64 (x i)] W fun e w' => e = .returned (.tuple #[.float .f64 (y i), .bool true]) ∧ W = w') :
    Calls Tryz.prog 29 #[.slice (some ⟨b, o, none⟩) n c] w fun e w' => ∃ u, e = .returned (.tuple #[vecV 4 vnil 0 vnil vnil u vnil vnil, .bool true]) ∧ Own1 w' w.heap.size 47 u ((List.range n).map fun j => .float .f64 (y j)) ∧ Below w.heap.size w w' := by
  have HC : Hid (∀ wr, Below w.heap.size w wr → ∀ i, i < n → wr.cell? ⟨b, o + i, none⟩ = some (.float .f64 (x i))) := by
    intro wr hb i h
    rw [hb.cell (cell_lt (hc i h))]; exact hc i h
  have HT := Lib.hid ht
  have hmk := run_make_row' (P := Tryz.prog) 22 47 (.float .f64 0) 8 Tryz.underlying22 info_f64 rfl .i64 .i64 n (by omega) (by omega)
  clear hc ht
  have hsz : (w.alloc (.cells zcells 32)).heap.size = w.heap.size + 1 := by simp
  have HF0 := Lib.hid (Fill.made (w.alloc (.cells zcells 32)) w.heap.size (by simp) 47 (fun j => .float .f64 (y j)) (.float .f64 0) n (by unfold maxLen; omega))
  rw [hsz] at HF0
  have HB0 := Lib.hid (bel2 w (.cells zcells 32) (.cells (madeCells #[.float .f64 0] n) 47))
  have HK0 := Lib.hid (block_up (bel1 (w.alloc (.cells zcells 32)) (.cells (madeCells #[.float .f64 0] n) 47)))
  clear hsz
  go_enter Tryz.func29, Tryz.ntmps29
  go_wp2
  go_loopw [14] (fun j wr => ∃ m : Nat, m ≤ n ∧ j = .int .i64 m ∧ Fill wr w.heap.size (w.heap.size + 1) 47 (fun j => .float .f64 (y j)) (.float .f64 0) n m ∧ Below w.heap.size w wr ∧ wr.heap[w.heap.size]? = some (.cells zcells 32)) (fun j _ => n - (intOf j).toNat)
  case atStart => exact ⟨0, Nat.zero_le _, rfl, HF0.out, HB0.out, HK0.out⟩
  case round =>
    obtain ⟨m, hm, rfl, hf, hbl, hk⟩ := hrel
    have HF := Lib.hid hf
    have HBL := Lib.hid hbl
    have HK := Lib.hid hk
    clear hf hbl hk
    by_cases hlt : m < n
    · have hcell := HC.out wr HBL.out m hlt
      have hc3 := HF.out.cell hlt
      have hz3 := HF.out.frozen m
      have HP := Lib.hid (HF.out.put hlt)
      have HB3 := Lib.hid (HF.out.bel HBL.out m (.float .f64 (y m)))
      have HK3 := Lib.hid (show (wr.setCell ⟨w.heap.size + 1, m, none⟩ (.float .f64 (y m))).heap[w.heap.size]? = some (.cells zcells 32) by rw [Below.heap_setCell _ _ _ _ (by simp)]; exact HK.out)
      have hst := fun md => store_float hc3 hz3 .f64 (y m) md
      have HTM := Lib.hid (HT.out m hlt)
      go_wp2_with fail
      refine (HTM.out _).mono ?_
      rintro e w3 ⟨rfl, rfl⟩
      go_wp2
      go_roundw
      case rel => exact ⟨m + 1, by omega, by go_num, HP.out, HB3.out, HK3.out⟩
      case measure => simp [intOf]; omega
    · obtain rfl : m = n := by omega
      obtain ⟨⟨h0, h1, h2, h3, h4, h5, h6, h7⟩, hz⟩ := boxed_of HK.out
      go_wp2
      refine bodyPost_ret (v := .tuple #[vecV 4 vnil 0 vnil vnil (.slice (some ⟨w.heap.size + 1, 0, none⟩) m m) vnil vnil, .bool true]) ?_ rfl ⟨.slice (some ⟨w.heap.size + 1, 0, none⟩) m m, rfl, own_set8 HF.out.own (by simp [Value.ownBlock]) _ _ _ _ _ _ _ _, below_set8 HBL.out (Nat.le_refl _) _ _ _ _ _ _ _ _⟩
      exact ret_vec2 (fn := Tryz.f29) (p := 2) (u := 3) rfl _ _ w.heap.size (by rfl) (set8_block HK.out _ _ _ _ _ _ _ _)
end Go.Proofs.YtdddmehchfnppaaGreatDoor
namespace Go.Proofs.YtdddmehchfnppaaGreatDoor
open Go Go.RowKit Go.Proofs Fl

/-- not too great -/
abbrev Good (n : Int) : Prop := -9007199254740992 ≤ n ∧ n ≤ 9007199254740992

set_option maxHeartbeats 1000000 in
theorem good_any (a : Int) (h : Good a) (w : World) : Calls Tryz.prog 138 #[.int .i64 a] w fun e w' => e = .returned (.bool true) ∧ w = w' := by
  obtain ⟨h1, h2⟩ := h
  go_enter Tryz.func138, Tryz.ntmps138
  go_wp2
  go_ret
  exact ⟨by simp, rfl⟩
set_option maxHeartbeats 1000000 in
theorem fit_any (a : Int) (h : Good a) (w : World) : Calls Tryz.prog 140 #[.int .i64 a] w fun e w' => e = .returned (.tuple #[.int .i64 a, .bool true]) ∧ w = w' := by
  obtain ⟨h1, h2⟩ := h
  go_enter Tryz.func140, Tryz.ntmps140
  go_wp2
  go_ret2
  exact ⟨by simp, rfl⟩
set_option maxHeartbeats 1000000 in
theorem pair_any (a : Int) (w : World) : Calls Tryz.prog 139 #[.int .i64 a, .bool true] w fun e w' => e = .returned (.tuple #[.int .i64 a, .bool true]) ∧ w = w' := by
  go_enter Tryz.func139, Tryz.ntmps139
  go_wp2
  go_ret2
  exact ⟨rfl, rfl⟩

set_option maxHeartbeats 1000000 in
theorem addInt_good (a b : Int) (ha : Good a) (hb : Good b) (hs : Good (a + b)) (w : World) : Calls Tryz.prog 115 #[.int .i64 a, .int .i64 b] w fun e w' => e = .returned (.tuple #[.int .i64 (a + b), .bool true]) ∧ w = w' := by
  have HA := Lib.hid (good_any a ha)
  have HB := Lib.hid (good_any b hb)
  have HF := Lib.hid (fit_any (a + b) hs)
  have HP := Lib.hid (pair_any (a + b))
  obtain ⟨h1, h2⟩ := ha
  obtain ⟨h3, h4⟩ := hb
  obtain ⟨h5, h6⟩ := hs
  go_enter Tryz.func115, Tryz.ntmps115
  go_wp2_with fail
  refine (HA.out _).mono ?_
  rintro e w' ⟨rfl, rfl⟩
  go_wp2_with fail
  refine (HB.out _).mono ?_
  rintro e w' ⟨rfl, rfl⟩
  go_wp2_with fail
  refine (HF.out _).mono ?_
  rintro e w' ⟨rfl, rfl⟩
  go_wp2_with fail
  refine (HP.out _).mono ?_
  rintro e w' ⟨rfl, rfl⟩
  go_wp2
  go_ret2
  exact ⟨rfl, rfl⟩
set_option maxHeartbeats 1000000 in
theorem subInt_good (a b : Int) (ha : Good a) (hb : Good b) (hs : Good (a - b)) (w : World) : Calls Tryz.prog 129 #[.int .i64 a, .int .i64 b] w fun e w' => e = .returned (.tuple #[.int .i64 (a - b), .bool true]) ∧ w = w' := by
  have HA := Lib.hid (good_any a ha)
  have HB := Lib.hid (good_any b hb)
  have HF := Lib.hid (fit_any (a - b) hs)
  have HP := Lib.hid (pair_any (a - b))
  obtain ⟨h1, h2⟩ := ha
  obtain ⟨h3, h4⟩ := hb
  obtain ⟨h5, h6⟩ := hs
  go_enter Tryz.func129, Tryz.ntmps129
  go_wp2_with fail
  refine (HA.out _).mono ?_
  rintro e w' ⟨rfl, rfl⟩
  go_wp2_with fail
  refine (HB.out _).mono ?_
  rintro e w' ⟨rfl, rfl⟩
  go_wp2_with fail
  refine (HF.out _).mono ?_
  rintro e w' ⟨rfl, rfl⟩
  go_wp2_with fail
  refine (HP.out _).mono ?_
  rintro e w' ⟨rfl, rfl⟩
  go_wp2
  go_ret2
  exact ⟨rfl, rfl⟩

set_option maxHeartbeats 1000000 in
theorem whole_add (a b : Int) (ha : Good a) (hb : Good b) (hs : Good (a + b)) (w : World) : Calls Tryz.prog 104 #[.int .i64 1, .int .i64 a, .int .i64 b] w fun e w' => e = .returned (.tuple #[.int .i64 (a + b), .bool true]) ∧ w = w' := by
  have HA := Lib.hid (addInt_good a b ha hb hs)
  clear ha hb hs
  go_enter Tryz.func104, Tryz.ntmps104
  go_wp2_with fail
  refine (HA.out _).mono ?_
  rintro e w' ⟨rfl, rfl⟩
  go_wp2
  go_ret2
  exact ⟨rfl, rfl⟩
set_option maxHeartbeats 1000000 in
theorem whole_sub (a b : Int) (ha : Good a) (hb : Good b) (hs : Good (a - b)) (w : World) : Calls Tryz.prog 104 #[.int .i64 2, .int .i64 a, .int .i64 b] w fun e w' => e = .returned (.tuple #[.int .i64 (a - b), .bool true]) ∧ w = w' := by
  have HA := Lib.hid (subInt_good a b ha hb hs)
  clear ha hb hs
  go_enter Tryz.func104, Tryz.ntmps104
  go_wp2_with fail
  refine (HA.out _).mono ?_
  rintro e w' ⟨rfl, rfl⟩
  go_wp2
  go_ret2
  exact ⟨rfl, rfl⟩

/-- the least store of a whole number -/
def rankS (n : Int) : Nat := if n = 0 ∨ n = 1 then 1 else if -128 ≤ n ∧ n ≤ 127 then 2 else 3
set_option maxHeartbeats 1000000 in
theorem rank_any (n : Int) (w : World) : Calls Tryz.prog 78 #[.int .i64 n] w fun e w' => e = .returned (.int .i64 (rankS n : Nat)) ∧ w = w' := by
  go_enter Tryz.func78, Tryz.ntmps78
  go_wp2
  all_goals go_ret
  all_goals refine ⟨?_, rfl⟩
  all_goals refine congrArg (fun b => Ending.returned (.int .i64 b)) ?_
  all_goals unfold rankS
  all_goals (try simp only [beq_iff_eq, beq_eq_false_iff_ne, ne_eq] at *)
  all_goals first | (rw [if_pos (by omega)]; rfl) | (rw [if_neg (by omega), if_pos (by omega)]; rfl) | (rw [if_neg (by omega), if_neg (by omega)]; rfl)
end Go.Proofs.YtdddmehchfnppaaGreatDoor
namespace Go.Proofs.YtdddmehchfnppaaGreatDoor
open Go Go.RowKit Go.Proofs Fl

/-- a Vec's numbers as whole ones, as the callers of squeeze.whole ask for them: n of them, l -/
structure WholesOf (w : World) (v : Value) (n : Nat) (l : Nat → Int) : Prop where
  len : ∀ w', Below w.heap.size w w' → Calls Tryz.prog 39 #[v] w' fun e w2 => e = .returned (.int .i64 n) ∧ Below w'.heap.size w' w2
  whole : ∀ w', Below w.heap.size w w' → ∀ j, j < n → Calls Tryz.prog 106 #[v, .int .i64 (j : Nat)] w' fun e w2 => e = .returned (.tuple #[.int .i64 (l j), .bool true]) ∧ Below w'.heap.size w' w2

theorem bel_both {w a b : World} (h : Below w.heap.size w a) (k : Below a.heap.size a b) : Below w.heap.size w b := h.trans (k.mono h.size)

set_option maxHeartbeats 1000000 in
theorem swhole_small (b : Value) (bn : Int) (i f c x : Value) (B o n q j : Nat) (hj : j < n) (z : Int) (hz : -128 ≤ z) (hz2 : z ≤ 127) (w : World) (hc : w.cell? ⟨B, o + j, none⟩ = some (.int .i8 z)) :
    Calls Tryz.prog 106 #[vecV 2 b bn (.slice (some ⟨B, o, none⟩) n q) i f c x, .int .i64 (j : Int)] w fun e w' => e = .returned (.tuple #[.int .i64 z, .bool true]) ∧ Below w.heap.size w w' := by
  have HV := Lib.hid (fun a => vwhole_2 b bn i f c x B o n q j hj z hz hz2 _ (cell_box1 hc a))
  clear hc hj hz hz2
  go_enter Tryz.func106, Tryz.ntmps106
  go_wp2_with fail
  refine (HV.out _).mono ?_
  rintro e w1 ⟨rfl, hb1⟩
  have HB1 := Lib.hid (bel_both (bel1 w _) hb1)
  clear hb1
  go_wp2
  go_ret2
  exact ⟨rfl, HB1.out⟩
set_option maxHeartbeats 1000000 in
theorem swhole_ints (b : Value) (bn : Int) (s f c x : Value) (B o n q j : Nat) (hj : j < n) (z : Int) (w : World) (hc : w.cell? ⟨B, o + j, none⟩ = some (.int .i64 z)) :
    Calls Tryz.prog 106 #[vecV 3 b bn s (.slice (some ⟨B, o, none⟩) n q) f c x, .int .i64 (j : Int)] w fun e w' => e = .returned (.tuple #[.int .i64 z, .bool true]) ∧ Below w.heap.size w w' := by
  have HV := Lib.hid (fun a => vwhole_3 b bn s f c x B o n q j hj z _ (cell_box1 hc a))
  clear hc hj
  go_enter Tryz.func106, Tryz.ntmps106
  go_wp2_with fail
  refine (HV.out _).mono ?_
  rintro e w1 ⟨rfl, hb1⟩
  have HB1 := Lib.hid (bel_both (bel1 w _) hb1)
  clear hb1
  go_wp2
  go_ret2
  exact ⟨rfl, HB1.out⟩
set_option maxHeartbeats 1000000 in
theorem swhole_float (b : Value) (bn : Int) (s i c x : Value) (B o n q j : Nat) (hj : j < n) (y : Nat) (z : Int) (hw : ∀ W, Calls Tryz.prog 77 #[.float .f64 y] W fun e w' => e = .returned (.tuple #[.int .i64 z, .bool true]) ∧ W = w')
    (w : World) (hc : w.cell? ⟨B, o + j, none⟩ = some (.float .f64 y)) :
    Calls Tryz.prog 106 #[vecV 4 b bn s i (.slice (some ⟨B, o, none⟩) n q) c x, .int .i64 (j : Int)] w fun e w' => e = .returned (.tuple #[.int .i64 z, .bool true]) ∧ Below w.heap.size w w' := by
  have HV := Lib.hid (fun W => vwhole_4 b bn s i c x B o n q j hj W)
  have HM := Lib.hid (fun W (h : Below w.heap.size w W) => num_4 b bn s i c x B o n q j hj y W (by rw [h.cell (cell_lt hc)]; exact hc))
  have HW := Lib.hid hw
  clear hc hj hw
  go_enter Tryz.func106, Tryz.ntmps106
  go_wp2_with fail
  refine (HV.out _).mono ?_
  rintro e w1 ⟨rfl, hb1⟩
  have HB1 := Lib.hid (bel_both (bel1 w _) hb1)
  obtain ⟨h0, h1, h2, h3, h4, h5, h6, h7⟩ := (boxed_new w 32 4 b bn s i (.slice (some ⟨B, o, none⟩) n q) c x).below hb1
  clear hb1
  go_wp2_with fail
  refine (HM.out _ HB1.out).mono ?_
  rintro e w2 ⟨rfl, hb2⟩
  have HB2 := Lib.hid (bel_both HB1.out hb2)
  clear hb2 h0 h1 h2 h3 h4 h5 h6 h7
  go_wp2_with fail
  refine (HW.out _).mono ?_
  rintro e w3 ⟨rfl, rfl⟩
  go_wp2
  go_ret2
  exact ⟨rfl, HB2.out⟩

theorem info_i8 : (Tryz.prog.info? 86).map (fun i => (i.zero, i.size, i.bytes)) = some (some (.int .i8 0), 1, 1) := by kernel_rfl

set_option maxRecDepth 100000 in
set_option maxHeartbeats 1000000 in
theorem intoSmalls_walk (k : Int) (b : Value) (bn : Int) (s i f c x : Value) (n : Nat) (l : Nat → Int) (w : World) (h : WholesOf w (vecV k b bn s i f c x) n l) (hn : n ≤ 1000000) (hl : ∀ j, j < n → -128 ≤ l j ∧ l j ≤ 127) :
    Calls Tryz.prog 62 #[vecV k b bn s i f c x] w fun e w' => ∃ u, e = .returned (.tuple #[vecV 2 vnil 0 u vnil vnil vnil vnil, .bool true]) ∧ Own1 w' w.heap.size 86 u ((List.range n).map fun j => .int .i8 (l j)) ∧ Below w.heap.size w w' := by
  have HN := Lib.hid h
  have HL := Lib.hid hl
  have hmk := run_make_row' (P := Tryz.prog) 27 86 (.int .i8 0) 1 Tryz.underlying27 info_i8 rfl .i64 .i64 n (by omega) (by omega)
  clear h hl
  go_enter Tryz.func62, Tryz.ntmps62
  go_wp2_with fail
  refine (HN.out.len _ (bel2 w _ _)).mono ?_
  rintro e w1 ⟨rfl, hb1⟩
  have HB1 := Lib.hid (bel_both (bel2 w _ _) hb1)
  have HX1 := Lib.hid (((boxed_new w 32 k b bn s i f c x).below (bel1 _ (.cells zcells 32))).below hb1)
  have hk1 : w1.heap[w.heap.size + 1]? = some (.cells zcells 32) := by
    have := block_up hb1
    simpa using this
  have HK1 := Lib.hid hk1
  clear hb1 hk1
  have HGN : Hid (w1.heap.size ≠ w.heap.size ∧ w1.heap.size ≠ w.heap.size + 1) := by
    have h1 := HX1.out.lt
    have h2 := (boxed_of HK1.out).1.lt
    show _ ∧ _
    omega
  have HF0 := Lib.hid (Fill.made w1 w.heap.size HB1.out.size 86 (fun j => .int .i8 (l j)) (.int .i8 0) n (by unfold maxLen; omega))
  have HBM := Lib.hid (HB1.out.alloc HB1.out.size (.cells (madeCells #[.int .i8 0] n) 86))
  have HXM := Lib.hid (HX1.out.below (bel1 w1 (.cells (madeCells #[.int .i8 0] n) 86)))
  have HKM := Lib.hid (show (w1.alloc (.cells (madeCells #[.int .i8 0] n) 86)).heap[w.heap.size + 1]? = some (.cells zcells 32) by rw [Below.heap_alloc _ _ _ (boxed_of HK1.out).1.lt]; exact HK1.out)
  go_wp2_with fail
  go_loopw [13] (fun j wr => ∃ m : Nat, m ≤ n ∧ j = .int .i64 m ∧ Fill wr w.heap.size w1.heap.size 86 (fun j => .int .i8 (l j)) (.int .i8 0) n m ∧ Below w.heap.size w wr ∧ Boxed wr w.heap.size k b bn s i f c x ∧ wr.heap[w.heap.size + 1]? = some (.cells zcells 32)) (fun j _ => n - (intOf j).toNat)
  case atStart => exact ⟨0, Nat.zero_le _, rfl, HF0.out, HBM.out, HXM.out, HKM.out⟩
  case round =>
    obtain ⟨m, hm, rfl, hf, hbl, hx, hk⟩ := hrel
    have HF := Lib.hid hf
    have HBL := Lib.hid hbl
    have HX := Lib.hid hx
    have HK := Lib.hid hk
    clear hf hbl hk
    by_cases hlt : m < n
    · obtain ⟨h0, h1, h2, h3, h4, h5, h6, h7⟩ := hx
      have HLm := Lib.hid (HL.out m hlt)
      go_wp2_with fail
      refine (HN.out.whole _ HBL.out m hlt).mono ?_
      rintro e w3 ⟨rfl, hb3⟩
      have HF3 := Lib.hid (HF.out.below hb3)
      have HP3 := Lib.hid (HF3.out.put hlt)
      have HB3 := Lib.hid (HF3.out.bel (bel_both HBL.out hb3) m (.int .i8 (l m)))
      have HX3 := Lib.hid ((HX.out.below hb3).set (p := ⟨w1.heap.size, m, none⟩) HGN.out.1 (.int .i8 (l m)))
      have HK3 := Lib.hid (show (w3.setCell ⟨w1.heap.size, m, none⟩ (.int .i8 (l m))).heap[w.heap.size + 1]? = some (.cells zcells 32) by
        rw [Below.heap_setCell _ _ _ _ (fun e => HGN.out.2 e.symm), hb3.block _ (boxed_of HK.out).1.lt]; exact HK.out)
      have hc3 := HF3.out.cell hlt
      have hz3 := HF3.out.frozen m
      obtain ⟨hl1, hl2⟩ := HLm.out
      clear hb3 h0 h1 h2 h3 h4 h5 h6 h7
      generalize l m = z at *
      go_wp2
      go_roundw
      case rel => exact ⟨m + 1, by omega, by go_num, HP3.out, HB3.out, HX3.out, HK3.out⟩
      case measure => simp [intOf]; omega
    · obtain rfl : m = n := by omega
      clear hx
      have HS := Lib.hid (smalls_any (w := wr) (l := (List.range m).map l) (v := .slice (some ⟨w1.heap.size, 0, none⟩) m m) (by rw [List.map_map]; exact HF.out.own.reads) (by simpa using hn))
      go_wp2_with fail
      refine HS.out.mono ?_
      rintro e w4 ⟨u, rfl, ho, hb4⟩
      have HB4 := Lib.hid (bel_both HBL.out hb4)
      have HK4 := Lib.hid (show w4.heap[w.heap.size + 1]? = some (.cells zcells 32) by rw [hb4.block _ (boxed_of HK.out).1.lt]; exact HK.out)
      have HNE : Hid (u.ownBlock ≠ some (w.heap.size + 1)) := fun e => by
        have h1 := (World.ownsRow.lt ho _ e).1
        have h2 := (boxed_of HK.out).1.lt
        omega
      have HO := Lib.hid (ho.lower HBL.out.size)
      rw [List.map_map] at HO
      obtain ⟨a, n', c', hu⟩ : ∃ a n c, u = .slice a n c := by obtain ⟨a, c, e⟩ := ho.reads.len; exact ⟨a, _, c, e⟩
      subst hu
      clear hb4 ho
      obtain ⟨⟨h0, h1, h2, h3, h4, h5, h6, h7⟩, hz⟩ := boxed_of HK4.out
      go_wp2
      refine bodyPost_ret (v := .tuple #[vecV 2 vnil 0 (.slice a n' c') vnil vnil vnil vnil, .bool true]) ?_ rfl ⟨.slice a n' c', rfl, own_set8 HO.out HNE.out _ _ _ _ _ _ _ _, below_set8 HB4.out (Nat.le_succ _) _ _ _ _ _ _ _ _⟩
      exact ret_vec2 (fn := Tryz.f62) (p := 2) (u := 3) rfl _ _ (w.heap.size + 1) (by rfl) (set8_block HK4.out _ _ _ _ _ _ _ _)
end Go.Proofs.YtdddmehchfnppaaGreatDoor
namespace Go.Proofs.YtdddmehchfnppaaGreatDoor
open Go Go.RowKit Go.Proofs Fl

/-- a function's own blocks: its Vec in a block, and the result's block behind it, still zero -/
structure St (w W : World) (k : Int) (b : Value) (bn : Int) (s i f c x : Value) : Prop where
  box : Boxed W w.heap.size k b bn s i f c x
  res : W.heap[w.heap.size + 1]? = some (.cells zcells 32)
  bel : Below w.heap.size w W

theorem St.new (w : World) (k : Int) (b : Value) (bn : Int) (s i f c x : Value) : St w ((w.alloc (.cells #[.int .i64 k, b, .int .i64 bn, s, i, f, c, x] 32)).alloc (.cells zcells 32)) k b bn s i f c x :=
  ⟨(boxed_new w 32 k b bn s i f c x).below (bel1 _ (.cells zcells 32)), by
    have := heap_alloc_new (w.alloc (.cells #[.int .i64 k, b, .int .i64 bn, s, i, f, c, x] 32)) (.cells zcells 32)
    simpa using this, bel2 w _ _⟩
theorem St.step {w W W' : World} {k : Int} {b : Value} {bn : Int} {s i f c x : Value} (h : St w W k b bn s i f c x) (hb : Below W.heap.size W W') : St w W' k b bn s i f c x :=
  ⟨h.box.below hb, by rw [hb.block _ (boxed_of h.res).1.lt]; exact h.res, bel_both h.bel hb⟩

set_option maxRecDepth 100000 in
set_option maxHeartbeats 1000000 in
theorem intoSmall_walk (k : Int) (b : Value) (bn : Int) (s i f c x : Value) (n : Nat) (l : Nat → Int) (w : World) (h : WholesOf w (vecV k b bn s i f c x) n l)
    (hcls : ∀ w', Below w.heap.size w w' → Calls Tryz.prog 31 #[vecV k b bn s i f c x] w' fun e w2 => e = .returned (.int .i64 0) ∧ Below w'.heap.size w' w2)
    (hk2 : k ≠ 2) (hk0 : k ≠ 0) (hn : n ≤ 1000000) (hl : ∀ j, j < n → -128 ≤ l j ∧ l j ≤ 127) :
    Calls Tryz.prog 30 #[vecV k b bn s i f c x, .int .i64 2] w fun e w' => ∃ u, e = .returned (.tuple #[vecV 2 vnil 0 u vnil vnil vnil vnil, .bool true]) ∧ Own1 w' w.heap.size 86 u ((List.range n).map fun j => .int .i8 (l j)) ∧ Below w.heap.size w w' := by
  have HK := Lib.hid (fun W => kind_any k b bn s i f c x W)
  have HC := Lib.hid hcls
  have HI := Lib.hid (fun (W : World) (hb : Below w.heap.size w W) => intoSmalls_walk k b bn s i f c x n l W ⟨fun w' h' => h.len w' (bel_both hb h'), fun w' h' => h.whole w' (bel_both hb h')⟩ hn hl)
  clear h hcls hl
  have e2 : (k == 2) = false := by simpa using hk2
  have e0 : (k == 0) = false := by simpa using hk0
  go_enter Tryz.func30, Tryz.ntmps30
  go_wp2_with fail
  refine (HK.out _).mono ?_
  rintro e w1 ⟨rfl, hb1⟩
  have HS1 := Lib.hid ((St.new w k b bn s i f c x).step hb1)
  obtain ⟨h0, h1, h2, h3, h4, h5, h6, h7⟩ := HS1.out.box
  clear hb1
  go_wp2_with fail
  refine (HC.out _ HS1.out.bel).mono ?_
  rintro e w2 ⟨rfl, hb2⟩
  have HS2 := Lib.hid (HS1.out.step hb2)
  clear hb2 h0 h1 h2 h3 h4 h5 h6 h7 HS1
  obtain ⟨h0, h1, h2, h3, h4, h5, h6, h7⟩ := HS2.out.box
  go_wp2_with fail
  refine (HK.out _).mono ?_
  rintro e w3 ⟨rfl, hb3⟩
  have HS3 := Lib.hid (HS2.out.step hb3)
  clear hb3 h0 h1 h2 h3 h4 h5 h6 h7 HS2
  obtain ⟨h0, h1, h2, h3, h4, h5, h6, h7⟩ := HS3.out.box
  go_wp2_with fail
  refine (HI.out _ HS3.out.bel).mono ?_
  rintro e w4 ⟨u, rfl, ho, hb4⟩
  have HS4 := Lib.hid (HS3.out.step hb4)
  have HNE : Hid (u.ownBlock ≠ some (w.heap.size + 1)) := fun e => by
    have h1 := (World.ownsRow.lt ho _ e).1
    have h2 := (boxed_of HS3.out.res).1.lt
    omega
  have HO := Lib.hid (ho.lower HS3.out.bel.size)
  obtain ⟨a, n', c', hu⟩ : ∃ a n c, u = .slice a n c := by obtain ⟨a, c, e⟩ := ho.reads.len; exact ⟨a, _, c, e⟩
  subst hu
  clear hb4 ho h0 h1 h2 h3 h4 h5 h6 h7 HS3
  obtain ⟨⟨h0, h1, h2, h3, h4, h5, h6, h7⟩, hz⟩ := boxed_of HS4.out.res
  go_wp2
  refine bodyPost_ret (v := .tuple #[vecV 2 vnil 0 (.slice a n' c') vnil vnil vnil vnil, .bool true]) ?_ rfl ⟨.slice a n' c', rfl, own_set8 HO.out HNE.out _ _ _ _ _ _ _ _, below_set8 HS4.out.bel (Nat.le_succ _) _ _ _ _ _ _ _ _⟩
  exact ret_vec2 (fn := Tryz.f30) (p := 4) (u := 5) rfl _ _ (w.heap.size + 1) (by rfl) (set8_block HS4.out.res _ _ _ _ _ _ _ _)
end Go.Proofs.YtdddmehchfnppaaGreatDoor
namespace Go.Proofs.YtdddmehchfnppaaGreatDoor
open Go Go.RowKit Go.Proofs Fl

/-- the least store of the first k of a list of whole numbers -/
def leastS (l : Nat → Int) : Nat → Nat
  | 0 => 1
  | k + 1 => max (leastS l k) (rankS (l k))
theorem rankS_le (n : Int) : 1 ≤ rankS n ∧ rankS n ≤ 3 := by unfold rankS; split <;> (try split) <;> omega
theorem leastS_le (l : Nat → Int) (k : Nat) : 1 ≤ leastS l k ∧ leastS l k ≤ 3 := by
  induction k with
  | zero => simp [leastS]
  | succ k ih => have := rankS_le (l k); unfold leastS; omega
theorem leastS_mono (l : Nat → Int) {a b : Nat} (h : a ≤ b) : leastS l a ≤ leastS l b := by
  induction b with
  | zero => have : a = 0 := by omega
            subst this; exact Nat.le_refl _
  | succ b ih =>
    by_cases e : a = b + 1
    · subst e; exact Nat.le_refl _
    · have h1 := ih (by omega)
      have h2 : leastS l (b + 1) = max (leastS l b) (rankS (l b)) := rfl
      omega

set_option maxRecDepth 100000 in
set_option maxHeartbeats 1000000 in
theorem least_ints (b : Value) (bn : Int) (s i f c x : Value) (n : Nat) (l : Nat → Int) (w : World) (hn : n ≤ 1000000)
    (hlen : ∀ w', Below w.heap.size w w' → Calls Tryz.prog 39 #[vecV 3 b bn s i f c x] w' fun e w2 => e = .returned (.int .i64 n) ∧ Below w'.heap.size w' w2)
    (hwh : ∀ w', Below w.heap.size w w' → ∀ j, j < n → Calls Tryz.prog 71 #[vecV 3 b bn s i f c x, .int .i64 (j : Nat)] w' fun e w2 => e = .returned (.tuple #[.int .i64 (l j), .bool true]) ∧ Below w'.heap.size w' w2) :
    Calls Tryz.prog 40 #[vecV 3 b bn s i f c x] w fun e w' => e = .returned (.int .i64 (leastS l n : Nat)) ∧ Below w.heap.size w w' := by
  have HK := Lib.hid (fun W => kind_any 3 b bn s i f c x W)
  have HC := Lib.hid (fun W => class_3 b bn s i f c x W)
  have HLN := Lib.hid hlen
  have HW := Lib.hid hwh
  clear hlen hwh
  go_enter Tryz.func40, Tryz.ntmps40
  go_wp2_with fail
  refine (HC.out _).mono ?_
  rintro e w1 ⟨rfl, hb1⟩
  have HX1 := Lib.hid ((boxed_new w 32 3 b bn s i f c x).below hb1)
  have HB1 := Lib.hid (bel_both (bel1 w _) hb1)
  clear hb1
  obtain ⟨h0, h1, h2, h3, h4, h5, h6, h7⟩ := HX1.out
  go_wp2_with fail
  refine (HK.out _).mono ?_
  rintro e w2 ⟨rfl, hb2⟩
  have HX2 := Lib.hid (HX1.out.below hb2)
  have HB2 := Lib.hid (bel_both HB1.out hb2)
  clear hb2 h0 h1 h2 h3 h4 h5 h6 h7 HX1 HB1
  obtain ⟨h0, h1, h2, h3, h4, h5, h6, h7⟩ := HX2.out
  go_wp2_with fail
  refine (HLN.out _ HB2.out).mono ?_
  rintro e w3 ⟨rfl, hb3⟩
  have HX3 := Lib.hid (HX2.out.below hb3)
  have HB3 := Lib.hid (bel_both HB2.out hb3)
  clear hb3 h0 h1 h2 h3 h4 h5 h6 h7 HX2 HB2
  go_wp2_with fail
  go_loopw [3, 19] (fun q j wr => ∃ m : Nat, m ≤ n ∧ j = .int .i64 m ∧ q = .int .i64 (leastS l m : Nat) ∧ Below w.heap.size w wr ∧ Boxed wr w.heap.size 3 b bn s i f c x) (fun _ j _ => n - (intOf j).toNat)
  case atStart => exact ⟨0, Nat.zero_le _, rfl, rfl, HB3.out, HX3.out⟩
  case round =>
    obtain ⟨m, hm, rfl, rfl, hbl, hx⟩ := hrel
    have HBL := Lib.hid hbl
    have HX := Lib.hid hx
    clear hbl
    by_cases hlt : m < n
    · obtain ⟨h0, h1, h2, h3, h4, h5, h6, h7⟩ := hx
      go_wp2_with fail
      refine (HW.out _ HBL.out m hlt).mono ?_
      rintro e w4 ⟨rfl, hb4⟩
      have HX4 := Lib.hid (HX.out.below hb4)
      have HB4 := Lib.hid (bel_both HBL.out hb4)
      have HR := Lib.hid (rank_any (l m))
      have HM : Hid (leastS l (m + 1) = max (leastS l m) (rankS (l m))) := rfl
      have HM3 := Lib.hid (leastS_mono l (show m + 1 ≤ n by omega))
      have HL3 := Lib.hid (leastS_le l n)
      clear hb4 h0 h1 h2 h3 h4 h5 h6 h7 HX
      obtain ⟨h0, h1, h2, h3, h4, h5, h6, h7⟩ := HX4.out
      generalize leastS l m = p at *
      generalize rankS (l m) = r at *
      go_wp2_with fail
      refine (HR.out _).mono ?_
      rintro e w5 ⟨rfl, rfl⟩
      go_wp2_with fail
      case isTrue h3 =>
        refine (HK.out _).mono ?_
        rintro e w6 ⟨rfl, hb6⟩
        have HB6 := Lib.hid (bel_both HB4.out hb6)
        have HE : Hid (((leastS l n : Nat) : Int) = 3) := by
          have e1 := HM.out
          have e2 := HM3.out
          have e3 := HL3.out
          show _ = _
          omega
        clear hb6
        go_wp2
        go_ret
        exact ⟨by rw [HE.out]; rfl, HB6.out⟩
      case roundEnd h3 =>
        exact ⟨⟨m + 1, by omega, by go_num, by rw [HM.out]; exact congrArg _ (by omega), HB4.out, HX4.out⟩, by simp [intOf]; omega⟩
    · obtain rfl : m = n := by omega
      clear hx
      go_wp2
      go_ret
      exact ⟨rfl, HBL.out⟩
end Go.Proofs.YtdddmehchfnppaaGreatDoor
namespace Go.Proofs.YtdddmehchfnppaaGreatDoor
open Go Go.RowKit Go.Proofs Fl

/-- R holds at every later world in which the blocks outside the hole H are as they are now -/
def Keeps (H : Nat → Prop) (w : World) (R : World → Prop) : Prop := ∀ w', w.heap.size ≤ w'.heap.size → (∀ b, b < w.heap.size → ¬ H b → w'.heap[b]? = w.heap[b]?) → R w'

theorem Keeps.now {H : Nat → Prop} {w : World} {R : World → Prop} (h : Keeps H w R) : R w := h w (Nat.le_refl _) fun _ _ _ => rfl
theorem Keeps.sub {H H' : Nat → Prop} {w : World} {R : World → Prop} (h : Keeps H w R) (hs : ∀ b, b < w.heap.size → H' b → H b) : Keeps H' w R :=
  fun w' hz hb => h w' hz fun b hl hn => hb b hl fun hh => hn (hs b hl hh)
theorem Keeps.imp {H : Nat → Prop} {w : World} {R R' : World → Prop} (h : Keeps H w R) (hi : ∀ w', R w' → R' w') : Keeps H w R' := fun w' hz hb => hi _ (h w' hz hb)
theorem Keeps.and {H : Nat → Prop} {w : World} {R R' : World → Prop} (h : Keeps H w R) (h' : Keeps H w R') : Keeps H w fun w' => R w' ∧ R' w' := fun w' hz hb => ⟨h w' hz hb, h' w' hz hb⟩
theorem Keeps.const {H : Nat → Prop} {w : World} {p : Prop} (h : p) : Keeps H w fun _ => p := fun _ _ _ => h
/-- a later world that agrees outside a greater hole -/
theorem Keeps.go {H : Nat → Prop} {w w1 : World} {R : World → Prop} (h : Keeps H w R) (H' : Nat → Prop) (hs : ∀ b, b < w.heap.size → H' b → H b) (hz : w.heap.size ≤ w1.heap.size) (hb : ∀ b, b < w.heap.size → ¬ H b → w1.heap[b]? = w.heap[b]?) : Keeps (fun b => H' b ∨ w.heap.size ≤ b) w1 R :=
  fun w' hz' hb' => h w' (Nat.le_trans hz hz') fun b hl hn => by
    rw [hb' b (Nat.lt_of_lt_of_le hl hz) ?_, hb b hl hn]
    rintro (e | e)
    · exact hn (hs b hl e)
    · omega
theorem Keeps.below {H : Nat → Prop} {w w1 : World} {R : World → Prop} (h : Keeps H w R) (hb : Below w.heap.size w w1) : Keeps (fun b => H b ∨ w.heap.size ≤ b) w1 R := h.go H (fun _ _ e => e) hb.size fun b hl _ => hb.block b hl
theorem Keeps.below' {H : Nat → Prop} {w w1 : World} {R : World → Prop} (h : Keeps H w R) (hb : Below w.heap.size w w1) (H' : Nat → Prop) (hs : ∀ b, b < w.heap.size → H' b → H b) : Keeps H' w1 R :=
  fun w' hz' hb' => h w' (Nat.le_trans hb.size hz') fun b hl hn => by rw [hb' b (Nat.lt_of_lt_of_le hl hb.size) (fun e => hn (hs b hl e)), hb.block b hl]
theorem Keeps.step {H : Nat → Prop} {w w1 : World} {R : World → Prop} (h : Keeps H w R) (hb : Below w.heap.size w w1) : Keeps H w1 R := h.below' hb H fun _ _ e => e
theorem size_setCell' (w : World) (a : Addr) (u : Value) : (w.setCell a u).heap.size = w.heap.size := by
  have h1 := ((Below.refl 0 w).setCell (Nat.zero_le a.block) u).size
  have h2 : (w.setCell a u).heap.size ≤ w.heap.size := by
    unfold World.setCell
    split <;> simp
  omega
theorem Keeps.set {H : Nat → Prop} {w : World} {R : World → Prop} (h : Keeps H w R) {a : Addr} (ha : H a.block) (u : Value) : Keeps H (w.setCell a u) R :=
  fun w' hz hb => h w' (by rw [size_setCell'] at hz; exact hz) fun b hl hn => by
    rw [hb b (by rw [size_setCell']; exact hl) hn, Below.heap_setCell _ _ _ _ (fun e => hn (by rw [e]; exact ha))]
theorem Keeps.set8 {H : Nat → Prop} {w : World} {R : World → Prop} (h : Keeps H w R) {G : Nat} (hG : H G) (a0 a1 a2 a3 a4 a5 a6 a7 : Value) : Keeps H (set8 w G a0 a1 a2 a3 a4 a5 a6 a7) R :=
  (((((((h.set hG _).set hG _).set hG _).set hG _).set hG _).set hG _).set hG _).set hG _
theorem size_set8 (w : World) (G : Nat) (a0 a1 a2 a3 a4 a5 a6 a7 : Value) : (set8 w G a0 a1 a2 a3 a4 a5 a6 a7).heap.size = w.heap.size := by
  unfold set8
  rw [size_setCell', size_setCell', size_setCell', size_setCell', size_setCell', size_setCell', size_setCell', size_setCell']
/-- a row that the call owns is read so, whatever becomes of the blocks below its own -/
theorem Own1.keeps {w : World} {B : Nat} {e : TypeId} {v : Value} {xs : List Value} (h : Own1 w B e v xs) : Keeps (fun b => b < B) w fun w' => Reads1 w' v xs := by
  intro w' hz hb
  rcases h.reads with h1 | ⟨b, o, n, c, rfl, hn, hc⟩
  · exact .inl h1
  · refine .inr ⟨b, o, n, c, rfl, hn, fun i hi => ?_⟩
    have hcell := hc i hi
    have hlt := cell_lt hcell
    have hB : B ≤ b := by
      rcases h.2 with ⟨h2, _⟩ | ⟨g, cap, cur, hv, hbg, _⟩
      · cases h2
      · injection hv with h3 _ _
        injection h3 with h4
        injection h4 with h5 _ _
        omega
    rw [World.cell?_of_block (w := w) (hb b hlt (by omega))]
    exact hcell
/-- a function's hole: its caller's, and the blocks that it has made so far -/
abbrev Hole (H : Nat → Prop) (w W : World) : Nat → Prop := fun b => H b ∨ (w.heap.size ≤ b ∧ b < W.heap.size)
theorem Keeps.arg {H : Nat → Prop} {w W : World} {R : World → Prop} (h : Keeps H w R) (hb : Below w.heap.size w W) : Keeps (Hole H w W) W R :=
  h.below' hb _ fun b hl e => by
    rcases e with e | ⟨e, _⟩
    · exact e
    · omega
theorem Hole.lt {H : Nat → Prop} {w W : World} (hH : ∀ b, H b → b < w.heap.size) (hb : Below w.heap.size w W) : ∀ b, Hole H w W b → b < W.heap.size := by
  rintro b (e | ⟨_, e⟩)
  · exact Nat.lt_of_lt_of_le (hH b e) hb.size
  · exact e
theorem Own1.keepsH {w : World} {B : Nat} {e : TypeId} {v : Value} {xs : List Value} (h : Own1 w B e v xs) {H : Nat → Prop} (hH : ∀ b, H b → b < B) : Keeps H w fun w' => Reads1 w' v xs := h.keeps.sub fun b _ e => hH b e
end Go.Proofs.YtdddmehchfnppaaGreatDoor
