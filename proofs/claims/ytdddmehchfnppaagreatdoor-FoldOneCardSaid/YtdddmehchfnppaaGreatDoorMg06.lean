/- Merged texts. The walk of vec.Floats where all numbers are finite. Conditions: as each theorem says. The walks of whole numbers' sums and differences, and of fold.whole at them; a Vec's numbers as whole ones. Conditions: as each theorem says. The walks of squeeze.whole and squeeze.intoSmalls where all numbers fit eight bits. Conditions: as each theorem says. -/
import Derived.Test.YtdddmehchfnppaaGreatDoorMg05
import Derived.Test.YtdddmehchfnppaaGreatDoorMg01
namespace Go.Proofs.YtdddmehchfnppaaGreatDoor
open Go Go.RowKit Go.Proofs Fl

/-- a block of eight cells as the walk asks for it -/
theorem boxed_of {w : World} {G : Nat} {e : TypeId} {k : Int} {b : Value} {bn : Int} {s i f c x : Value} (h : w.heap[G]? = some (.cells #[.int .i64 k, b, .int .i64 bn, s, i, f, c, x] e)) :
    Boxed w G k b bn s i f c x ∧ ∀ j, w.frozen? ⟨G, j, none⟩ = false := by
  have h2 : ∀ j u, #[.int .i64 k, b, .int .i64 bn, s, i, f, c, x][j]? = some u → w.cell? ⟨G, j, none⟩ = some u := by
    intro j u hu
    rw [cell_of_row _ G j _ e (0, 0) h]
    exact hu
  exact ⟨⟨h2 0 _ rfl, h2 1 _ rfl, h2 2 _ rfl, h2 3 _ rfl, h2 4 _ rfl, h2 5 _ rfl, h2 6 _ rfl, h2 7 _ rfl⟩, fun j => frozen_of_row _ _ j _ e h⟩

/-- the zero Vec's cells -/
abbrev zcells : Array Value := #[.int .i64 0, .slice none 0 0, .int .i64 0, .slice none 0 0, .slice none 0 0, .slice none 0 0, .slice none 0 0, .slice none 0 0]

set_option maxRecDepth 100000 in
set_option maxHeartbeats 1000000 in
theorem floats_walk (b o n c : Nat) (x y : Nat → Nat) (hn : n ≤ 1000000) (w : World) (hc : ∀ i, i < n → w.cell? ⟨b, o + i, none⟩ = some (.float .f64 (x i)))
    (ht : ∀ i, i < n → ∀ W, Calls Tryz.prog 60 #[.float .f64 (x i)] W fun e w' => e = .returned (.tuple #[.float .f64 (y i), .bool true]) ∧ W = w') :
    Calls Tryz.prog 29 #[.slice (some ⟨b, o, none⟩) n c] w fun e w' => ∃ u, e = .returned (.tuple #[vecV 4 vnil 0 vnil vnil u vnil vnil, .bool true]) ∧ Own1 w' w.heap.size 47 u ((List.range n).map fun j => .float .f64 (y j)) ∧ Below w.heap.size w w' := by
  have HC : Hid (∀ wr, Below w.heap.size w wr → ∀ i, i < n → wr.cell? ⟨b, o + i, none⟩ = some (.float .f64 (x i))) := by
    intro wr hb i h
    rw [hb.cell (cell_lt (hc i h))]; exact hc i h
  have HT := Lib.hid ht
  have hmk := run_make_row' (P := Tryz.prog) 22 47 (.float .f64 0) 8 Tryz.underlying22 info_f64 rfl .i64 .i64 n (by omega) (by omega)
  clear hc ht
  have hsz : (w.alloc (.cells zcells 32)).heap.size = w.heap.size + 1 := by simp
  have HF0 := Lib.hid (Fill.made (w.alloc (.cells zcells 32)) w.heap.size (by simp) 47 (fun j => .float .f64 (y j)) (.float .f64 0) n (by unfold maxLen; omega))
  rw [hsz] at HF0
  have HB0 := Lib.hid (bel2 w (.cells zcells 32) (.cells (madeCells #[.float .f64 0] n) 47))
  have HK0 := Lib.hid (block_up (bel1 (w.alloc (.cells zcells 32)) (.cells (madeCells #[.float .f64 0] n) 47)))
  clear hsz
  go_enter Tryz.func29, Tryz.ntmps29
  go_wp2
  go_loopw [14] (fun j wr => ∃ m : Nat, m ≤ n ∧ j = .int .i64 m ∧ Fill wr w.heap.size (w.heap.size + 1) 47 (fun j => .float .f64 (y j)) (.float .f64 0) n m ∧ Below w.heap.size w wr ∧ wr.heap[w.heap.size]? = some (.cells zcells 32)) (fun j _ => n - (intOf j).toNat)
  case atStart => exact ⟨0, Nat.zero_le _, rfl, HF0.out, HB0.out, HK0.out⟩
  case round =>
    obtain ⟨m, hm, rfl, hf, hbl, hk⟩ := hrel
    have HF := Lib.hid hf
    have HBL := Lib.hid hbl
    have HK := Lib.hid hk
    clear hf hbl hk
    by_cases hlt : m < n
    · have hcell := HC.out wr HBL.out m hlt
      have hc3 := HF.out.cell hlt
      have hz3 := HF.out.frozen m
      have HP := Lib.hid (HF.out.put hlt)
      have HB3 := Lib.hid (HF.out.bel HBL.out m (.float .f64 (y m)))
      have HK3 := Lib.hid (show (wr.setCell ⟨w.heap.size + 1, m, none⟩ (.float .f64 (y m))).heap[w.heap.size]? = some (.cells zcells 32) by rw [Below.heap_setCell _ _ _ _ (by simp)]; exact HK.out)
      have hst := fun md => store_float hc3 hz3 .f64 (y m) md
      have HTM := Lib.hid (HT.out m hlt)
      go_wp2_with fail
      refine (HTM.out _).mono ?_
      rintro e w3 ⟨rfl, rfl⟩
      go_wp2
      go_roundw
      case rel => exact ⟨m + 1, by omega, by go_num, HP.out, HB3.out, HK3.out⟩
      case measure => simp [intOf]; omega
    · obtain rfl : m = n := by omega
      obtain ⟨⟨h0, h1, h2, h3, h4, h5, h6, h7⟩, hz⟩ := boxed_of HK.out
      go_wp2
      refine bodyPost_ret (v := .tuple #[vecV 4 vnil 0 vnil vnil (.slice (some ⟨w.heap.size + 1, 0, none⟩) m m) vnil vnil, .bool true]) ?_ rfl ⟨.slice (some ⟨w.heap.size + 1, 0, none⟩) m m, rfl, own_set8 HF.out.own (by simp [Value.ownBlock]) _ _ _ _ _ _ _ _, below_set8 HBL.out (Nat.le_refl _) _ _ _ _ _ _ _ _⟩
      exact ret_vec2 (fn := Tryz.f29) (p := 2) (u := 3) rfl _ _ w.heap.size (by rfl) (set8_block HK.out _ _ _ _ _ _ _ _)
end Go.Proofs.YtdddmehchfnppaaGreatDoor
namespace Go.Proofs.YtdddmehchfnppaaGreatDoor
open Go Go.RowKit Go.Proofs Fl

/-- not too great -/
abbrev Good (n : Int) : Prop := -9007199254740992 ≤ n ∧ n ≤ 9007199254740992

set_option maxHeartbeats 1000000 in
theorem good_any (a : Int) (h : Good a) (w : World) : Calls Tryz.prog 138 #[.int .i64 a] w fun e w' => e = .returned (.bool true) ∧ w = w' := by
  obtain ⟨h1, h2⟩ := h
  go_enter Tryz.func138, Tryz.ntmps138
  go_wp2
  go_ret
  exact ⟨by simp, rfl⟩
set_option maxHeartbeats 1000000 in
theorem fit_any (a : Int) (h : Good a) (w : World) : Calls Tryz.prog 140 #[.int .i64 a] w fun e w' => e = .returned (.tuple #[.int .i64 a, .bool true]) ∧ w = w' := by
  obtain ⟨h1, h2⟩ := h
  go_enter Tryz.func140, Tryz.ntmps140
  go_wp2
  go_ret2
  exact ⟨by simp, rfl⟩
set_option maxHeartbeats 1000000 in
theorem pair_any (a : Int) (w : World) : Calls Tryz.prog 139 #[.int .i64 a, .bool true] w fun e w' => e = .returned (.tuple #[.int .i64 a, .bool true]) ∧ w = w' := by
  go_enter Tryz.func139, Tryz.ntmps139
  go_wp2
  go_ret2
  exact ⟨rfl, rfl⟩

set_option maxHeartbeats 1000000 in
theorem addInt_good (a b : Int) (ha : Good a) (hb : Good b) (hs : Good (a + b)) (w : World) : Calls Tryz.prog 115 #[.int .i64 a, .int .i64 b] w fun e w' => e = .returned (.tuple #[.int .i64 (a + b), .bool true]) ∧ w = w' := by
  have HA := Lib.hid (good_any a ha)
  have HB := Lib.hid (good_any b hb)
  have HF := Lib.hid (fit_any (a + b) hs)
  have HP := Lib.hid (pair_any (a + b))
  obtain ⟨h1, h2⟩ := ha
  obtain ⟨h3, h4⟩ := hb
  obtain ⟨h5, h6⟩ := hs
  go_enter Tryz.func115, Tryz.ntmps115
  go_wp2_with fail
  refine (HA.out _).mono ?_
  rintro e w' ⟨rfl, rfl⟩
  go_wp2_with fail
  refine (HB.out _).mono ?_
  rintro e w' ⟨rfl, rfl⟩
  go_wp2_with fail
  refine (HF.out _).mono ?_
  rintro e w' ⟨rfl, rfl⟩
  go_wp2_with fail
  refine (HP.out _).mono ?_
  rintro e w' ⟨rfl, rfl⟩
  go_wp2
  go_ret2
  exact ⟨rfl, rfl⟩
set_option maxHeartbeats 1000000 in
theorem subInt_good (a b : Int) (ha : Good a) (hb : Good b) (hs : Good (a - b)) (w : World) : Calls Tryz.prog 129 #[.int .i64 a, .int .i64 b] w fun e w' => e = .returned (.tuple #[.int .i64 (a - b), .bool true]) ∧ w = w' := by
  have HA := Lib.hid (good_any a ha)
  have HB := Lib.hid (good_any b hb)
  have HF := Lib.hid (fit_any (a - b) hs)
  have HP := Lib.hid (pair_any (a - b))
  obtain ⟨h1, h2⟩ := ha
  obtain ⟨h3, h4⟩ := hb
  obtain ⟨h5, h6⟩ := hs
  go_enter Tryz.func129, Tryz.ntmps129
  go_wp2_with fail
  refine (HA.out _).mono ?_
  rintro e w' ⟨rfl, rfl⟩
  go_wp2_with fail
  refine (HB.out _).mono ?_
  rintro e w' ⟨rfl, rfl⟩
  go_wp2_with fail
  refine (HF.out _).mono ?_
  rintro e w' ⟨rfl, rfl⟩
  go_wp2_with fail
  refine (HP.out _).mono ?_
  rintro e w' ⟨rfl, rfl⟩
  go_wp2
  go_ret2
  exact ⟨rfl, rfl⟩

set_option maxHeartbeats 1000000 in
theorem whole_add (a b : Int) (ha : Good a) (hb : Good b) (hs : Good (a + b)) (w : World) : Calls Tryz.prog 104 #[.int .i64 1, .int .i64 a, .int .i64 b] w fun e w' => e = .returned (.tuple #[.int .i64 (a + b), .bool true]) ∧ w = w' := by
  have HA := Lib.hid (addInt_good a b ha hb hs)
  clear ha hb hs
  go_enter Tryz.func104, Tryz.ntmps104
  go_wp2_with fail
  refine (HA.out _).mono ?_
  rintro e w' ⟨rfl, rfl⟩
  go_wp2
  go_ret2
  exact ⟨rfl, rfl⟩
set_option maxHeartbeats 1000000 in
theorem whole_sub (a b : Int) (ha : Good a) (hb : Good b) (hs : Good (a - b)) (w : World) : Calls Tryz.prog 104 #[.int .i64 2, .int .i64 a, .int .i64 b] w fun e w' => e = .returned (.tuple #[.int .i64 (a - b), .bool true]) ∧ w = w' := by
  have HA := Lib.hid (subInt_good a b ha hb hs)
  clear ha hb hs
  go_enter Tryz.func104, Tryz.ntmps104
  go_wp2_with fail
  refine (HA.out _).mono ?_
  rintro e w' ⟨rfl, rfl⟩
  go_wp2
  go_ret2
  exact ⟨rfl, rfl⟩

/-- the least store of a whole number -/
def rankS (n : Int) : Nat := if n = 0 ∨ n = 1 then 1 else if -128 ≤ n ∧ n ≤ 127 then 2 else 3
set_option maxHeartbeats 1000000 in
theorem rank_any (n : Int) (w : World) : Calls Tryz.prog 78 #[.int .i64 n] w fun e w' => e = .returned (.int .i64 (rankS n : Nat)) ∧ w = w' := by
  go_enter Tryz.func78, Tryz.ntmps78
  go_wp2
  all_goals go_ret
  all_goals refine ⟨?_, rfl⟩
  all_goals refine congrArg (fun b => Ending.returned (.int .i64 b)) ?_
  all_goals unfold rankS
  all_goals (try simp only [beq_iff_eq, beq_eq_false_iff_ne, ne_eq] at *)
  all_goals first | (rw [if_pos (by omega)]; rfl) | (rw [if_neg (by omega), if_pos (by omega)]; rfl) | (rw [if_neg (by omega), if_neg (by omega)]; rfl)
end Go.Proofs.YtdddmehchfnppaaGreatDoor
namespace Go.Proofs.YtdddmehchfnppaaGreatDoor
open Go Go.RowKit Go.Proofs Fl

/-- a Vec's numbers as whole ones, as the callers of squeeze.whole ask for them: n of them, l -/
structure WholesOf (w : World) (v : Value) (n : Nat) (l : Nat → Int) : Prop where
  len : ∀ w', Below w.heap.size w w' → Calls Tryz.prog 39 #[v] w' fun e w2 => e = .returned (.int .i64 n) ∧ Below w'.heap.size w' w2
  whole : ∀ w', Below w.heap.size w w' → ∀ j, j < n → Calls Tryz.prog 106 #[v, .int .i64 (j : Nat)] w' fun e w2 => e = .returned (.tuple #[.int .i64 (l j), .bool true]) ∧ Below w'.heap.size w' w2

theorem bel_both {w a b : World} (h : Below w.heap.size w a) (k : Below a.heap.size a b) : Below w.heap.size w b := h.trans (k.mono h.size)

set_option maxHeartbeats 1000000 in
theorem swhole_small (b : Value) (bn : Int) (i f c x : Value) (B o n q j : Nat) (hj : j < n) (z : Int) (hz : -128 ≤ z) (hz2 : z ≤ 127) (w : World) (hc : w.cell? ⟨B, o + j, none⟩ = some (.int .i8 z)) :
    Calls Tryz.prog 106 #[vecV 2 b bn (.slice (some ⟨B, o, none⟩) n q) i f c x, .int .i64 (j : Int)] w fun e w' => e = .returned (.tuple #[.int .i64 z, .bool true]) ∧ Below w.heap.size w w' := by
  have HV := Lib.hid (fun a => vwhole_2 b bn i f c x B o n q j hj z hz hz2 _ (cell_box1 hc a))
  clear hc hj hz hz2
  go_enter Tryz.func106, Tryz.ntmps106
  go_wp2_with fail
  refine (HV.out _).mono ?_
  rintro e w1 ⟨rfl, hb1⟩
  have HB1 := Lib.hid (bel_both (bel1 w _) hb1)
  clear hb1
  go_wp2
  go_ret2
  exact ⟨rfl, HB1.out⟩
set_option maxHeartbeats 1000000 in
theorem swhole_ints (b : Value) (bn : Int) (s f c x : Value) (B o n q j : Nat) (hj : j < n) (z : Int) (w : World) (hc : w.cell? ⟨B, o + j, none⟩ = some (.int .i64 z)) :
    Calls Tryz.prog 106 #[vecV 3 b bn s (.slice (some ⟨B, o, none⟩) n q) f c x, .int .i64 (j : Int)] w fun e w' => e = .returned (.tuple #[.int .i64 z, .bool true]) ∧ Below w.heap.size w w' := by
  have HV := Lib.hid (fun a => vwhole_3 b bn s f c x B o n q j hj z _ (cell_box1 hc a))
  clear hc hj
  go_enter Tryz.func106, Tryz.ntmps106
  go_wp2_with fail
  refine (HV.out _).mono ?_
  rintro e w1 ⟨rfl, hb1⟩
  have HB1 := Lib.hid (bel_both (bel1 w _) hb1)
  clear hb1
  go_wp2
  go_ret2
  exact ⟨rfl, HB1.out⟩
set_option maxHeartbeats 1000000 in
theorem swhole_float (b : Value) (bn : Int) (s i c x : Value) (B o n q j : Nat) (hj : j < n) (y : Nat) (z : Int) (hw : ∀ W, Calls Tryz.prog 77 #[.float .f64 y] W fun e w' => e = .returned (.tuple #[.int .i64 z, .bool true]) ∧ W = w')
    (w : World) (hc : w.cell? ⟨B, o + j, none⟩ = some (.float .f64 y)) :
    Calls Tryz.prog 106 #[vecV 4 b bn s i (.slice (some ⟨B, o, none⟩) n q) c x, .int .i64 (j : Int)] w fun e w' => e = .returned (.tuple #[.int .i64 z, .bool true]) ∧ Below w.heap.size w w' := by
  have HV := Lib.hid (fun W => vwhole_4 b bn s i c x B o n q j hj W)
  have HM := Lib.hid (fun W (h : Below w.heap.size w W) => num_4 b bn s i c x B o n q j hj y W (by rw [h.cell (cell_lt hc)]; exact hc))
  have HW := Lib.hid hw
  clear hc hj hw
  go_enter Tryz.func106, Tryz.ntmps106
  go_wp2_with fail
  refine (HV.out _).mono ?_
  rintro e w1 ⟨rfl, hb1⟩
  have HB1 := Lib.hid (bel_both (bel1 w _) hb1)
  obtain ⟨h0, h1, h2, h3, h4, h5, h6, h7⟩ := (boxed_new w 32 4 b bn s i (.slice (some ⟨B, o, none⟩) n q) c x).below hb1
  clear hb1
  go_wp2_with fail
  refine (HM.out _ HB1.out).mono ?_
  rintro e w2 ⟨rfl, hb2⟩
  have HB2 := Lib.hid (bel_both HB1.out hb2)
  clear hb2 h0 h1 h2 h3 h4 h5 h6 h7
  go_wp2_with fail
  refine (HW.out _).mono ?_
  rintro e w3 ⟨rfl, rfl⟩
  go_wp2
  go_ret2
  exact ⟨rfl, HB2.out⟩

theorem info_i8 : (Tryz.prog.info? 86).map (fun i => (i.zero, i.size, i.bytes)) = some (some (.int .i8 0), 1, 1) := by kernel_rfl

set_option maxRecDepth 100000 in
set_option maxHeartbeats 1000000 in
theorem intoSmalls_walk (k : Int) (b : Value) (bn : Int) (s i f c x : Value) (n : Nat) (l : Nat → Int) (w : World) (h : WholesOf w (vecV k b bn s i f c x) n l) (hn : n ≤ 1000000) (hl : ∀ j, j < n → -128 ≤ l j ∧ l j ≤ 127) :
    Calls Tryz.prog 62 #[vecV k b bn s i f c x] w fun e w' => ∃ u, e = .returned (.tuple #[vecV 2 vnil 0 u vnil vnil vnil vnil, .bool true]) ∧ Own1 w' w.heap.size 86 u ((List.range n).map fun j => .int .i8 (l j)) ∧ Below w.heap.size w w' := by
  have HN := Lib.hid h
  have HL := Lib.hid hl
  have hmk := run_make_row' (P := Tryz.prog) 27 86 (.int .i8 0) 1 Tryz.underlying27 info_i8 rfl .i64 .i64 n (by omega) (by omega)
  clear h hl
  go_enter Tryz.func62, Tryz.ntmps62
  go_wp2_with fail
  refine (HN.out.len _ (bel2 w _ _)).mono ?_
  rintro e w1 ⟨rfl, hb1⟩
  have HB1 := Lib.hid (bel_both (bel2 w _ _) hb1)
  have HX1 := Lib.hid (((boxed_new w 32 k b bn s i f c x).below (bel1 _ (.cells zcells 32))).below hb1)
  have hk1 : w1.heap[w.heap.size + 1]? = some (.cells zcells 32) := by
    have := block_up hb1
    simpa using this
  have HK1 := Lib.hid hk1
  clear hb1 hk1
  have HGN : Hid (w1.heap.size ≠ w.heap.size ∧ w1.heap.size ≠ w.heap.size + 1) := by
    have h1 := HX1.out.lt
    have h2 := (boxed_of HK1.out).1.lt
    show _ ∧ _
    omega
  have HF0 := Lib.hid (Fill.made w1 w.heap.size HB1.out.size 86 (fun j => .int .i8 (l j)) (.int .i8 0) n (by unfold maxLen; omega))
  have HBM := Lib.hid (HB1.out.alloc HB1.out.size (.cells (madeCells #[.int .i8 0] n) 86))
  have HXM := Lib.hid (HX1.out.below (bel1 w1 (.cells (madeCells #[.int .i8 0] n) 86)))
  have HKM := Lib.hid (show (w1.alloc (.cells (madeCells #[.int .i8 0] n) 86)).heap[w.heap.size + 1]? = some (.cells zcells 32) by rw [Below.heap_alloc _ _ _ (boxed_of HK1.out).1.lt]; exact HK1.out)
  go_wp2_with fail
  go_loopw [13] (fun j wr => ∃ m : Nat, m ≤ n ∧ j = .int .i64 m ∧ Fill wr w.heap.size w1.heap.size 86 (fun j => .int .i8 (l j)) (.int .i8 0) n m ∧ Below w.heap.size w wr ∧ Boxed wr w.heap.size k b bn s i f c x ∧ wr.heap[w.heap.size + 1]? = some (.cells zcells 32)) (fun j _ => n - (intOf j).toNat)
  case atStart => exact ⟨0, Nat.zero_le _, rfl, HF0.out, HBM.out, HXM.out, HKM.out⟩
  case round =>
    obtain ⟨m, hm, rfl, hf, hbl, hx, hk⟩ := hrel
    have HF := Lib.hid hf
    have HBL := Lib.hid hbl
    have HX := Lib.hid hx
    have HK := Lib.hid hk
    clear hf hbl hk
    by_cases hlt : m < n
    · obtain ⟨h0, h1, h2, h3, h4, h5, h6, h7⟩ := hx
      have HLm := Lib.hid (HL.out m hlt)
      go_wp2_with fail
      refine (HN.out.whole _ HBL.out m hlt).mono ?_
      rintro e w3 ⟨rfl, hb3⟩
      have HF3 := Lib.hid (HF.out.below hb3)
      have HP3 := Lib.hid (HF3.out.put hlt)
      have HB3 := Lib.hid (HF3.out.bel (bel_both HBL.out hb3) m (.int .i8 (l m)))
      have HX3 := Lib.hid ((HX.out.below hb3).set (p := ⟨w1.heap.size, m, none⟩) HGN.out.1 (.int .i8 (l m)))
      have HK3 := Lib.hid (show (w3.setCell ⟨w1.heap.size, m, none⟩ (.int .i8 (l m))).heap[w.heap.size + 1]? = some (.cells zcells 32) by
        rw [Below.heap_setCell _ _ _ _ (fun e => HGN.out.2 e.symm), hb3.block _ (boxed_of HK.out).1.lt]; exact HK.out)
      have hc3 := HF3.out.cell hlt
      have hz3 := HF3.out.frozen m
      obtain ⟨hl1, hl2⟩ := HLm.out
      clear hb3 h0 h1 h2 h3 h4 h5 h6 h7
      generalize l m = z at *
      go_wp2
      go_roundw
      case rel => exact ⟨m + 1, by omega, by go_num, HP3.out, HB3.out, HX3.out, HK3.out⟩
      case measure => simp [intOf]; omega
    · obtain rfl : m = n := by omega
      clear hx
      have HS := Lib.hid (smalls_any (w := wr) (l := (List.range m).map l) (v := .slice (some ⟨w1.heap.size, 0, none⟩) m m) (by rw [List.map_map]; exact HF.out.own.reads) (by simpa using hn))
      go_wp2_with fail
      refine HS.out.mono ?_
      rintro e w4 ⟨u, rfl, ho, hb4⟩
      have HB4 := Lib.hid (bel_both HBL.out hb4)
      have HK4 := Lib.hid (show w4.heap[w.heap.size + 1]? = some (.cells zcells 32) by rw [hb4.block _ (boxed_of HK.out).1.lt]; exact HK.out)
      have HNE : Hid (u.ownBlock ≠ some (w.heap.size + 1)) := fun e => by
        have h1 := (World.ownsRow.lt ho _ e).1
        have h2 := (boxed_of HK.out).1.lt
        omega
      have HO := Lib.hid (ho.lower HBL.out.size)
      rw [List.map_map] at HO
      obtain ⟨a, n', c', hu⟩ : ∃ a n c, u = .slice a n c := by obtain ⟨a, c, e⟩ := ho.reads.len; exact ⟨a, _, c, e⟩
      subst hu
      clear hb4 ho
      obtain ⟨⟨h0, h1, h2, h3, h4, h5, h6, h7⟩, hz⟩ := boxed_of HK4.out
      go_wp2
      refine bodyPost_ret (v := .tuple #[vecV 2 vnil 0 (.slice a n' c') vnil vnil vnil vnil, .bool true]) ?_ rfl ⟨.slice a n' c', rfl, own_set8 HO.out HNE.out _ _ _ _ _ _ _ _, below_set8 HB4.out (Nat.le_succ _) _ _ _ _ _ _ _ _⟩
      exact ret_vec2 (fn := Tryz.f62) (p := 2) (u := 3) rfl _ _ (w.heap.size + 1) (by rfl) (set8_block HK4.out _ _ _ _ _ _ _ _)
end Go.Proofs.YtdddmehchfnppaaGreatDoor
