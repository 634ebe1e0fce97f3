/- A Vec in a variable's own block; a Vec's numbers as the callers ask for them; the walk of Nums. Conditions: as each theorem says. -/
import Derived.Test.YtdddmehchfnppaaDoorVcA
namespace Go.Proofs.YtdddmehchfnppaaDoor
open Go Go.RowKit Go.Proofs Fl

/-- a block that holds a Vec -/
def Boxed (w : World) (G : Nat) (k : Int) (b : Value) (bn : Int) (s i f c x : Value) : Prop :=
  w.cell? ⟨G, 0, none⟩ = some (.int .i64 k) ∧ w.cell? ⟨G, 1, none⟩ = some b ∧ w.cell? ⟨G, 2, none⟩ = some (.int .i64 bn) ∧ w.cell? ⟨G, 3, none⟩ = some s ∧
    w.cell? ⟨G, 4, none⟩ = some i ∧ w.cell? ⟨G, 5, none⟩ = some f ∧ w.cell? ⟨G, 6, none⟩ = some c ∧ w.cell? ⟨G, 7, none⟩ = some x

theorem boxed_new (w : World) (e : TypeId) (k : Int) (b : Value) (bn : Int) (s i f c x : Value) : Boxed (w.alloc (.cells #[.int .i64 k, b, .int .i64 bn, s, i, f, c, x] e)) w.heap.size k b bn s i f c x := by
  have h : ∀ j u, #[.int .i64 k, b, .int .i64 bn, s, i, f, c, x][j]? = some u → (w.alloc (.cells #[.int .i64 k, b, .int .i64 bn, s, i, f, c, x] e)).cell? ⟨w.heap.size, j, none⟩ = some u := by
    intro j u hu
    rw [cell_of_row _ w.heap.size j _ e (0, 0) (heap_alloc_new w _)]
    exact hu
  exact ⟨h 0 _ rfl, h 1 _ rfl, h 2 _ rfl, h 3 _ rfl, h 4 _ rfl, h 5 _ rfl, h 6 _ rfl, h 7 _ rfl⟩

theorem Boxed.of {w w' : World} {G : Nat} {k : Int} {b : Value} {bn : Int} {s i f c x : Value} (h : Boxed w G k b bn s i f c x) (e : ∀ j, w'.cell? ⟨G, j, none⟩ = w.cell? ⟨G, j, none⟩) : Boxed w' G k b bn s i f c x := by
  unfold Boxed
  rw [e, e, e, e, e, e, e, e]
  exact h
theorem Boxed.lt {w : World} {G : Nat} {k : Int} {b : Value} {bn : Int} {s i f c x : Value} (h : Boxed w G k b bn s i f c x) : G < w.heap.size := cell_lt h.1
theorem Boxed.below {w w' : World} {G : Nat} {k : Int} {b : Value} {bn : Int} {s i f c x : Value} (h : Boxed w G k b bn s i f c x) (hb : Below w.heap.size w w') : Boxed w' G k b bn s i f c x := h.of fun _ => hb.cell h.lt
theorem Boxed.set {w : World} {G : Nat} {k : Int} {b : Value} {bn : Int} {s i f c x : Value} (h : Boxed w G k b bn s i f c x) {p : Addr} (hp : p.block ≠ G) (u : Value) : Boxed (w.setCell p u) G k b bn s i f c x :=
  h.of fun _ => World.cell?_of_block (w := w) (Below.heap_setCell w p u G (fun e => hp e.symm))

/-- a Vec's numbers, as its callers ask for them: n of them, F -/
structure NumsOf (w : World) (v : Value) (n : Nat) (F : Nat → Nat) : Prop where
  cls : ∀ w', Below w.heap.size w w' → Calls Tryd.prog 27 #[v] w' fun e w2 => e = .returned (.int .i64 0) ∧ Below w'.heap.size w' w2
  len : ∀ w', Below w.heap.size w w' → Calls Tryd.prog 38 #[v] w' fun e w2 => e = .returned (.int .i64 n) ∧ Below w'.heap.size w' w2
  num : ∀ w', Below w.heap.size w w' → ∀ j, j < n → Calls Tryd.prog 39 #[v, .int .i64 (j : Nat)] w' fun e w2 => e = .returned (.float .f64 (F j)) ∧ Below w'.heap.size w' w2

theorem numsOf_floats {w : World} {v : Value} {l : List Nat} (h : VR w v (.floats l)) : NumsOf w v l.length (fun j => l.getD j 0) := by
  obtain ⟨s, rfl, hr⟩ := h
  have hlen := hr.len
  refine ⟨fun w' hb => class_4 _ _ _ _ _ _ _ _, fun w' hb => ?_, fun w' hb j hj => ?_⟩
  · obtain ⟨a, c, rfl⟩ := hlen
    rw [List.length_map]
    exact len_4 _ _ _ _ _ _ _ _ _ _
  · rcases hr.at with ⟨a, c, rfl, h0⟩ | ⟨b, o, c, rfl, hc⟩
    · have := congrArg List.length h0; rw [List.length_map, List.length_nil] at this; omega
    · rw [List.length_map]
      refine num_4 _ _ _ _ _ _ _ _ _ _ _ hj _ _ ?_
      have := hc j (by simpa using hj)
      rw [hb.cell (cell_lt this), this]
      simp [List.getD, hj]
theorem numsOf_small {w : World} {v : Value} {l : List Int} (h : VR w v (.small l)) : NumsOf w v l.length (fun j => floatOfInt .f64 (l.getD j 0)) := by
  obtain ⟨s, rfl, hr, _⟩ := h
  have hlen := hr.len
  refine ⟨fun w' hb => class_2 _ _ _ _ _ _ _ _, fun w' hb => ?_, fun w' hb j hj => ?_⟩
  · obtain ⟨a, c, rfl⟩ := hlen
    rw [List.length_map]
    exact len_2 _ _ _ _ _ _ _ _ _ _
  · rcases hr.at with ⟨a, c, rfl, h0⟩ | ⟨b, o, c, rfl, hc⟩
    · have := congrArg List.length h0; rw [List.length_map, List.length_nil] at this; omega
    · rw [List.length_map]
      refine num_2 _ _ _ _ _ _ _ _ _ _ _ hj _ _ ?_
      have := hc j (by simpa using hj)
      rw [hb.cell (cell_lt this), this]
      simp [List.getD, hj]
theorem numsOf_ints {w : World} {v : Value} {l : List Int} (h : VR w v (.ints l)) : NumsOf w v l.length (fun j => floatOfInt .f64 (l.getD j 0)) := by
  obtain ⟨s, rfl, hr, _⟩ := h
  have hlen := hr.len
  refine ⟨fun w' hb => class_3 _ _ _ _ _ _ _ _, fun w' hb => ?_, fun w' hb j hj => ?_⟩
  · obtain ⟨a, c, rfl⟩ := hlen
    rw [List.length_map]
    exact len_3 _ _ _ _ _ _ _ _ _ _
  · rcases hr.at with ⟨a, c, rfl, h0⟩ | ⟨b, o, c, rfl, hc⟩
    · have := congrArg List.length h0; rw [List.length_map, List.length_nil] at this; omega
    · rw [List.length_map]
      refine num_3 _ _ _ _ _ _ _ _ _ _ _ hj _ _ ?_
      have := hc j (by simpa using hj)
      rw [hb.cell (cell_lt this), this]
      simp [List.getD, hj]

theorem info_f64 : (Tryd.prog.info? 26).map (fun i => (i.zero, i.size, i.bytes)) = some (some (.float .f64 0), 1, 8) := by kernel_rfl

theorem store_float {w : World} {a : Addr} {y : Value} (hc : w.cell? a = some y) (hf : w.frozen? a = false) (k : FloatKind) (x : Nat) (m : Mode) : (store a (.float k x) m).run Tryd.prog w = .ok () (w.setCell a (.float k x)) := by
  rw [run_store Tryd.prog w a _ m rfl, hc]
  simp [hf]

set_option maxRecDepth 100000 in
set_option maxHeartbeats 1000000 in
theorem nums_walk (k : Int) (b : Value) (bn : Int) (s i f c x : Value) (n : Nat) (F : Nat → Nat) (w : World) (h : NumsOf w (vecV k b bn s i f c x) n F) (hn : n ≤ 1000000) :
    Calls Tryd.prog 13 #[vecV k b bn s i f c x] w fun e w' => ∃ v, e = .returned v ∧ Own1 w' w.heap.size 26 v ((List.range n).map fun j => .float .f64 (F j)) ∧ Below w.heap.size w w' := by
  have HN := Lib.hid h
  have hmk := run_make_row' (P := Tryd.prog) 25 26 (.float .f64 0) 8 Tryd.underlying25 info_f64 rfl .i64 .i64 n (by omega) (by omega)
  clear h
  go_enter Tryd.func13, Tryd.ntmps13
  go_wp2_with fail
  refine (HN.out.cls _ (bel1 _ _)).mono ?_
  rintro e w1 ⟨rfl, hb1⟩
  have hB1 := (bel1 w _).trans (hb1.mono (bel1 w _).size)
  have hx1 := (boxed_new w 35 k b bn s i f c x).below hb1
  have HB1 := Lib.hid hB1
  have HX1 := Lib.hid hx1
  obtain ⟨h0, h1, h2, h3, h4, h5, h6, h7⟩ := hx1
  clear hb1 hB1
  go_wp2_with fail
  refine (HN.out.len _ HB1.out).mono ?_
  rintro e w2 ⟨rfl, hb2⟩
  have HB2 := Lib.hid (HB1.out.trans (hb2.mono HB1.out.size))
  have HX2 := Lib.hid (HX1.out.below hb2)
  clear hb2 h0 h1 h2 h3 h4 h5 h6 h7 HX1 HB1
  obtain ⟨B, hB⟩ : ∃ B, B = w.heap.size := ⟨_, rfl⟩
  have HBE := Lib.hid hB
  have HF0 := Lib.hid (Fill.made w2 B (by rw [hB]; exact HB2.out.size) 26 (fun j => .float .f64 (F j)) (.float .f64 0) n (by unfold maxLen; omega))
  have HBM := Lib.hid (HB2.out.alloc HB2.out.size (.cells (madeCells #[.float .f64 0] n) 26))
  have HXM := Lib.hid (HX2.out.below (bel1 w2 (.cells (madeCells #[.float .f64 0] n) 26)))
  have HGN : Hid (w2.heap.size ≠ w.heap.size) := by have := HX2.out.lt; show _ ≠ _; omega
  go_wp2_with fail
  go_loopw [13] (fun j wr => ∃ m : Nat, m ≤ n ∧ j = .int .i64 m ∧ Fill wr B w2.heap.size 26 (fun j => .float .f64 (F j)) (.float .f64 0) n m ∧ Below w.heap.size w wr ∧ Boxed wr w.heap.size k b bn s i f c x) (fun j _ => n - (intOf j).toNat)
  case atStart => exact ⟨0, Nat.zero_le _, rfl, HF0.out, HBM.out, HXM.out⟩
  case round =>
    obtain ⟨m, hm, rfl, hf, hbl, hx⟩ := hrel
    have HF := Lib.hid hf
    have HBL := Lib.hid hbl
    have HX := Lib.hid hx
    by_cases hlt : m < n
    · obtain ⟨h0, h1, h2, h3, h4, h5, h6, h7⟩ := hx
      clear hf hbl
      go_wp2_with fail
      refine (HN.out.num _ HBL.out m hlt).mono ?_
      rintro e w3 ⟨rfl, hb3⟩
      have HF3 := Lib.hid (HF.out.below hb3)
      have HP3 := Lib.hid (HF3.out.put hlt)
      have HB3 := Lib.hid (HF3.out.bel (by rw [HBE.out]; exact HBL.out.trans (hb3.mono HBL.out.size)) m (.float .f64 (F m)))
      have HX3 := Lib.hid ((HX.out.below hb3).set (p := ⟨w2.heap.size, m, none⟩) HGN.out (.float .f64 (F m)))
      have hc3 := HF3.out.cell hlt
      have hz3 := HF3.out.frozen m
      have hst := fun md => store_float hc3 hz3 .f64 (F m) md
      clear hb3 h0 h1 h2 h3 h4 h5 h6 h7
      go_wp2
      go_roundw
      case rel => exact ⟨m + 1, by omega, by go_num, HP3.out, by rw [← HBE.out]; exact HB3.out, HX3.out⟩
      case measure => simp [intOf]; omega
    · obtain rfl : m = n := by omega
      clear hf hbl hx
      go_wp2
      go_ret
      exact ⟨_, rfl, by rw [← HBE.out]; exact HF.out.own, HBL.out⟩
end Go.Proofs.YtdddmehchfnppaaDoor
