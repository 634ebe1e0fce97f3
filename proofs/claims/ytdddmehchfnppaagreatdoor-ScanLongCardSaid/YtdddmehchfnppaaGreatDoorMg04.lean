/- Merged texts. A Vec in a variable's own block; a Vec's numbers as the callers ask for them; the walk of Nums. Conditions: as each theorem says. slices.Clone at rows of one-cell elements, off the shelf. Conditions: as each theorem says. The walks that make a Vec of a row. Conditions: as each theorem says. -/
import Derived.Test.YtdddmehchfnppaaGreatDoorMg03
import Derived.Shelf.SlGeneric
import Derived.Shelf.SlicesE.Clone
import Derived.OneCell
import Derived.Laws.ResultCell
import Derived.Laws.Rows
namespace Go.Proofs.YtdddmehchfnppaaGreatDoor
open Go Go.RowKit Go.Proofs Fl

/-- a block that holds a Vec -/
def Boxed (w : World) (G : Nat) (k : Int) (b : Value) (bn : Int) (s i f c x : Value) : Prop :=
  w.cell? ⟨G, 0, none⟩ = some (.int .i64 k) ∧ w.cell? ⟨G, 1, none⟩ = some b ∧ w.cell? ⟨G, 2, none⟩ = some (.int .i64 bn) ∧ w.cell? ⟨G, 3, none⟩ = some s ∧
    w.cell? ⟨G, 4, none⟩ = some i ∧ w.cell? ⟨G, 5, none⟩ = some f ∧ w.cell? ⟨G, 6, none⟩ = some c ∧ w.cell? ⟨G, 7, none⟩ = some x

theorem boxed_new (w : World) (e : TypeId) (k : Int) (b : Value) (bn : Int) (s i f c x : Value) : Boxed (w.alloc (.cells #[.int .i64 k, b, .int .i64 bn, s, i, f, c, x] e)) w.heap.size k b bn s i f c x := by
  have h : ∀ j u, #[.int .i64 k, b, .int .i64 bn, s, i, f, c, x][j]? = some u → (w.alloc (.cells #[.int .i64 k, b, .int .i64 bn, s, i, f, c, x] e)).cell? ⟨w.heap.size, j, none⟩ = some u := by
    intro j u hu
    rw [cell_of_row _ w.heap.size j _ e (0, 0) (heap_alloc_new w _)]
    exact hu
  exact ⟨h 0 _ rfl, h 1 _ rfl, h 2 _ rfl, h 3 _ rfl, h 4 _ rfl, h 5 _ rfl, h 6 _ rfl, h 7 _ rfl⟩

theorem Boxed.of {w w' : World} {G : Nat} {k : Int} {b : Value} {bn : Int} {s i f c x : Value} (h : Boxed w G k b bn s i f c x) (e : ∀ j, w'.cell? ⟨G, j, none⟩ = w.cell? ⟨G, j, none⟩) : Boxed w' G k b bn s i f c x := by
  unfold Boxed
  rw [e, e, e, e, e, e, e, e]
  exact h
theorem Boxed.lt {w : World} {G : Nat} {k : Int} {b : Value} {bn : Int} {s i f c x : Value} (h : Boxed w G k b bn s i f c x) : G < w.heap.size := cell_lt h.1
theorem Boxed.below {w w' : World} {G : Nat} {k : Int} {b : Value} {bn : Int} {s i f c x : Value} (h : Boxed w G k b bn s i f c x) (hb : Below w.heap.size w w') : Boxed w' G k b bn s i f c x := h.of fun _ => hb.cell h.lt
theorem Boxed.set {w : World} {G : Nat} {k : Int} {b : Value} {bn : Int} {s i f c x : Value} (h : Boxed w G k b bn s i f c x) {p : Addr} (hp : p.block ≠ G) (u : Value) : Boxed (w.setCell p u) G k b bn s i f c x :=
  h.of fun _ => World.cell?_of_block (w := w) (Below.heap_setCell w p u G (fun e => hp e.symm))

/-- a Vec's numbers, as its callers ask for them: n of them, F -/
structure NumsOf (w : World) (v : Value) (n : Nat) (F : Nat → Nat) : Prop where
  cls : ∀ w', Below w.heap.size w w' → Calls Tryz.prog 31 #[v] w' fun e w2 => e = .returned (.int .i64 0) ∧ Below w'.heap.size w' w2
  len : ∀ w', Below w.heap.size w w' → Calls Tryz.prog 39 #[v] w' fun e w2 => e = .returned (.int .i64 n) ∧ Below w'.heap.size w' w2
  num : ∀ w', Below w.heap.size w w' → ∀ j, j < n → Calls Tryz.prog 28 #[v, .int .i64 (j : Nat)] w' fun e w2 => e = .returned (.float .f64 (F j)) ∧ Below w'.heap.size w' w2

theorem numsOf_floats {w : World} {v : Value} {l : List Nat} (h : VR w v (.floats l)) : NumsOf w v l.length (fun j => l.getD j 0) := by
  obtain ⟨s, rfl, hr⟩ := h
  have hlen := hr.len
  refine ⟨fun w' hb => class_4 _ _ _ _ _ _ _ _, fun w' hb => ?_, fun w' hb j hj => ?_⟩
  · obtain ⟨a, c, rfl⟩ := hlen
    rw [List.length_map]
    exact len_4 _ _ _ _ _ _ _ _ _ _
  · rcases hr.at with ⟨a, c, rfl, h0⟩ | ⟨b, o, c, rfl, hc⟩
    · have := congrArg List.length h0; rw [List.length_map, List.length_nil] at this; omega
    · rw [List.length_map]
      refine num_4 _ _ _ _ _ _ _ _ _ _ _ hj _ _ ?_
      have := hc j (by simpa using hj)
      rw [hb.cell (cell_lt this), this]
      simp [List.getD, hj]
theorem numsOf_small {w : World} {v : Value} {l : List Int} (h : VR w v (.small l)) : NumsOf w v l.length (fun j => floatOfInt .f64 (l.getD j 0)) := by
  obtain ⟨s, rfl, hr, _⟩ := h
  have hlen := hr.len
  refine ⟨fun w' hb => class_2 _ _ _ _ _ _ _ _, fun w' hb => ?_, fun w' hb j hj => ?_⟩
  · obtain ⟨a, c, rfl⟩ := hlen
    rw [List.length_map]
    exact len_2 _ _ _ _ _ _ _ _ _ _
  · rcases hr.at with ⟨a, c, rfl, h0⟩ | ⟨b, o, c, rfl, hc⟩
    · have := congrArg List.length h0; rw [List.length_map, List.length_nil] at this; omega
    · rw [List.length_map]
      refine num_2 _ _ _ _ _ _ _ _ _ _ _ hj _ _ ?_
      have := hc j (by simpa using hj)
      rw [hb.cell (cell_lt this), this]
      simp [List.getD, hj]
theorem numsOf_ints {w : World} {v : Value} {l : List Int} (h : VR w v (.ints l)) : NumsOf w v l.length (fun j => floatOfInt .f64 (l.getD j 0)) := by
  obtain ⟨s, rfl, hr, _⟩ := h
  have hlen := hr.len
  refine ⟨fun w' hb => class_3 _ _ _ _ _ _ _ _, fun w' hb => ?_, fun w' hb j hj => ?_⟩
  · obtain ⟨a, c, rfl⟩ := hlen
    rw [List.length_map]
    exact len_3 _ _ _ _ _ _ _ _ _ _
  · rcases hr.at with ⟨a, c, rfl, h0⟩ | ⟨b, o, c, rfl, hc⟩
    · have := congrArg List.length h0; rw [List.length_map, List.length_nil] at this; omega
    · rw [List.length_map]
      refine num_3 _ _ _ _ _ _ _ _ _ _ _ hj _ _ ?_
      have := hc j (by simpa using hj)
      rw [hb.cell (cell_lt this), this]
      simp [List.getD, hj]

theorem info_f64 : (Tryz.prog.info? 47).map (fun i => (i.zero, i.size, i.bytes)) = some (some (.float .f64 0), 1, 8) := by kernel_rfl

theorem store_float {w : World} {a : Addr} {y : Value} (hc : w.cell? a = some y) (hf : w.frozen? a = false) (k : FloatKind) (x : Nat) (m : Mode) : (store a (.float k x) m).run Tryz.prog w = .ok () (w.setCell a (.float k x)) := by
  rw [run_store Tryz.prog w a _ m rfl, hc]
  simp [hf]

set_option maxRecDepth 100000 in
set_option maxHeartbeats 1000000 in
theorem nums_walk (k : Int) (b : Value) (bn : Int) (s i f c x : Value) (n : Nat) (F : Nat → Nat) (w : World) (h : NumsOf w (vecV k b bn s i f c x) n F) (hn : n ≤ 1000000) :
    Calls Tryz.prog 13 #[vecV k b bn s i f c x] w fun e w' => ∃ v, e = .returned v ∧ Own1 w' w.heap.size 47 v ((List.range n).map fun j => .float .f64 (F j)) ∧ Below w.heap.size w w' := by
  have HN := Lib.hid h
  have hmk := run_make_row' (P := Tryz.prog) 22 47 (.float .f64 0) 8 Tryz.underlying22 info_f64 rfl .i64 .i64 n (by omega) (by omega)
  clear h
  go_enter Tryz.func13, Tryz.ntmps13
  go_wp2_with fail
  refine (HN.out.cls _ (bel1 _ _)).mono ?_
  rintro e w1 ⟨rfl, hb1⟩
  have hB1 := (bel1 w _).trans (hb1.mono (bel1 w _).size)
  have hx1 := (boxed_new w 32 k b bn s i f c x).below hb1
  have HB1 := Lib.hid hB1
  have HX1 := Lib.hid hx1
  obtain ⟨h0, h1, h2, h3, h4, h5, h6, h7⟩ := hx1
  clear hb1 hB1
  go_wp2_with fail
  refine (HN.out.len _ HB1.out).mono ?_
  rintro e w2 ⟨rfl, hb2⟩
  have HB2 := Lib.hid (HB1.out.trans (hb2.mono HB1.out.size))
  have HX2 := Lib.hid (HX1.out.below hb2)
  clear hb2 h0 h1 h2 h3 h4 h5 h6 h7 HX1 HB1
  obtain ⟨B, hB⟩ : ∃ B, B = w.heap.size := ⟨_, rfl⟩
  have HBE := Lib.hid hB
  have HF0 := Lib.hid (Fill.made w2 B (by rw [hB]; exact HB2.out.size) 47 (fun j => .float .f64 (F j)) (.float .f64 0) n (by unfold maxLen; omega))
  have HBM := Lib.hid (HB2.out.alloc HB2.out.size (.cells (madeCells #[.float .f64 0] n) 47))
  have HXM := Lib.hid (HX2.out.below (bel1 w2 (.cells (madeCells #[.float .f64 0] n) 47)))
  have HGN : Hid (w2.heap.size ≠ w.heap.size) := by have := HX2.out.lt; show _ ≠ _; omega
  go_wp2_with fail
  go_loopw [13] (fun j wr => ∃ m : Nat, m ≤ n ∧ j = .int .i64 m ∧ Fill wr B w2.heap.size 47 (fun j => .float .f64 (F j)) (.float .f64 0) n m ∧ Below w.heap.size w wr ∧ Boxed wr w.heap.size k b bn s i f c x) (fun j _ => n - (intOf j).toNat)
  case atStart => exact ⟨0, Nat.zero_le _, rfl, HF0.out, HBM.out, HXM.out⟩
  case round =>
    obtain ⟨m, hm, rfl, hf, hbl, hx⟩ := hrel
    have HF := Lib.hid hf
    have HBL := Lib.hid hbl
    have HX := Lib.hid hx
    by_cases hlt : m < n
    · obtain ⟨h0, h1, h2, h3, h4, h5, h6, h7⟩ := hx
      clear hf hbl
      go_wp2_with fail
      refine (HN.out.num _ HBL.out m hlt).mono ?_
      rintro e w3 ⟨rfl, hb3⟩
      have HF3 := Lib.hid (HF.out.below hb3)
      have HP3 := Lib.hid (HF3.out.put hlt)
      have HB3 := Lib.hid (HF3.out.bel (by rw [HBE.out]; exact HBL.out.trans (hb3.mono HBL.out.size)) m (.float .f64 (F m)))
      have HX3 := Lib.hid ((HX.out.below hb3).set (p := ⟨w2.heap.size, m, none⟩) HGN.out (.float .f64 (F m)))
      have hc3 := HF3.out.cell hlt
      have hz3 := HF3.out.frozen m
      have hst := fun md => store_float hc3 hz3 .f64 (F m) md
      clear hb3 h0 h1 h2 h3 h4 h5 h6 h7
      go_wp2
      go_roundw
      case rel => exact ⟨m + 1, by omega, by go_num, HP3.out, by rw [← HBE.out]; exact HB3.out, HX3.out⟩
      case measure => simp [intOf]; omega
    · obtain rfl : m = n := by omega
      clear hf hbl hx
      go_wp2
      go_ret
      exact ⟨_, rfl, by rw [← HBE.out]; exact HF.out.own, HBL.out⟩
end Go.Proofs.YtdddmehchfnppaaGreatDoor
namespace Go.Proofs.YtdddmehchfnppaaGreatDoor
open Go Go.RowKit Go.Proofs Go.Shelf Go.Lib

section
variable {P : Program} {ρ : Ren}
set_option maxHeartbeats 1000000 in
theorem clone_zero (L : SlLaysE0.n41 P ρ) (i0 : TypeInfo) (z : Value) (bytes : Nat) (hi : P.info? (ρ.t 23) = some i0) (hz0 : i0.zero = some z) (hz1 : i0.size = 1) (hz2 : i0.bytes = bytes) (hzs : z.cells.size = 1)
    (z23 : ∀ w, (Go.sizeOf (ρ.t 23)).run P w = .ok 1 w) (x : Addr) (c : Nat) (w : World) :
    Calls P (ρ.f 41) #[.slice (some x) 0 c] w fun e w' => ∃ v', e = .returned v' ∧ w'.ownsRow w.heap.size (ρ.t 23) 1 v' 0 [] ∧ Below w.heap.size w w' := by
  have mixed := L.mixed; have t4 := L.t4; have a4 := L.a4; have z4 := L.z4; have v4 := L.v4; have t22 := L.t22; have a22 := L.a22; have z22 := L.z22; have v22 := L.v22
  have q22 : ∀ (w : World) (a : Option Addr) (n c n' c' : Nat), (binOp .eql (ρ.t 22) (.slice a n c) (.slice none n' c')).run P w = .ok (.bool a.isNone) w := fun w a n c n' c' => Lib.run_eql_slice_nil w _ _ a n c n' c' L.t22
  have u22 : ∀ w, Sem.run P (underlying (ρ.t 22)) w = .ok (TypeDesc.slice (ρ.t 23)) w := run_underlying t22
  obtain ⟨_, _, FG⟩ := L.f41
  obtain ⟨n, hn⟩ : ∃ n : Nat, n = 0 := ⟨0, rfl⟩
  rw [← hn]
  have HN := Lib.hid hn
  clear hn
  go_enter FG, SlBodyN.n41_ntmps ρ
  go_wp2_with (at_builtin; refine wpList_append_own _ rfl _ _ (ρ.t 22) rfl w.heap.size (ρ.t 23) i0 z 1 bytes t22 hi hz0 hz1 hz2 hzs (by decide) _ _ _ rfl (World.ownsRow_made w #[] 0 (Nat.le_refl _) (Nat.zero_le _) (by simp)) x n c [] rfl ?qc1 ?qc2 ?qc3 ?qc4 ?qc5 ?qc6 ?_)
  case qc1 => rw [HN.out]; rfl
  case qc2 =>
    intro j u hj
    simp at hj
  case qc3 => intro u hu; cases hu
  case qc4 => rw [Nat.zero_add, HN.out]; exact Nat.zero_le _
  case qc5 => rw [Nat.zero_add, HN.out, Nat.zero_mul]; exact Nat.zero_le _
  case qc6 => simp
  intro v' w1 hown hgrow hnil
  go_wp2
  go_ret
  refine ⟨v', rfl, hown, ?_⟩
  exact ((Below.refl _ w).alloc (Nat.le_refl _) _).grown hgrow (by simp) (by intro k hk; simp [Value.ownBlock] at hk; omega)

theorem clone_reads (L : SlLaysE0.n41 P ρ) (z : Value) (bytes : Nat) (hinfo : (P.info? (ρ.t 23)).map (fun i => (i.zero, i.size, i.bytes)) = some (some z, 1, bytes)) (hzs : z.cells.size = 1)
    (z23 : ∀ w, (Go.sizeOf (ρ.t 23)).run P w = .ok 1 w) {w : World} {v : Value} {xs : List Value} (h : Reads1 w v xs) (hl : xs.length * bytes ≤ 140737488355328) (hl2 : xs.length ≤ 140737488355328) (h1 : ∀ u ∈ xs, u.oneCell' = true) :
    Calls P (ρ.f 41) #[v] w fun e w' => ∃ v', e = .returned v' ∧ w'.ownsRow w.heap.size (ρ.t 23) 1 v' xs.length xs ∧ Below w.heap.size w w' := by
  obtain ⟨i0, hi, hz0, hz1, hz2⟩ := info_parts hinfo
  rcases h with ⟨x, c, rfl, rfl⟩ | ⟨b, o, n, c, rfl, hn, hc⟩
  · cases x with
    | none =>
      refine (AnyE.slices_Clone_nil L 0 c w).mono ?_
      rintro e w' ⟨rfl, rfl⟩
      exact ⟨_, rfl, World.ownsRow_nil _ _ _ _, Below.refl _ _⟩
    | some x => exact clone_zero L i0 z bytes hi hz0 hz1 hz2 hzs z23 x c w
  · refine (AnyE.slices_Clone L i0 z 1 bytes hi hz0 hz1 hz2 hzs (by decide) z23 b o n c xs w (by omega) (by unfold maxLen; omega) (by rw [hn]; exact hl) ?_ h1).mono ?_
    · intro j u hj
      obtain ⟨hlt, rfl⟩ := List.getElem?_eq_some_iff.1 hj
      exact hc j hlt
    · rintro e w' ⟨v', rfl, ho, _, hb⟩
      rw [hn] at ho
      exact ⟨v', rfl, ho, hb⟩
end

theorem info_cl64 : (Tryz.prog.info? 2).map (fun i => (i.zero, i.size, i.bytes)) = some (some (.int .i64 0), 1, 8) := by kernel_rfl
def cl64_ren : Go.Shelf.Ren := ⟨fun | 41 => 70 | n => n, fun | 22 => 28 | 23 => 2 | 4 => 4 | n => n, fun n => n⟩
theorem cl64_lays : SlLaysE0.n41 Tryz.prog cl64_ren where
  mixed := by kernel_rfl
  f41 := ⟨"slices.Clone[[]int64,int64]", by decide, Tryz.func70.trans (congrArg some (by kernel_rfl))⟩
  t4 := Tryz.underlying4
  a4 := Tryz.isAgg4
  z4 := Tryz.sizeOf4
  v4 := Tryz.zeroValue4
  t22 := Tryz.underlying28
  a22 := Tryz.isAgg28
  z22 := Tryz.sizeOf28
  v22 := Tryz.zeroValue28
theorem cl64_any {w : World} {v : Value} {xs : List Value} (h : Reads1 w v xs) (hl : xs.length * 8 ≤ 140737488355328) (h1 : ∀ u ∈ xs, u.oneCell' = true) :
    Calls Tryz.prog 70 #[v] w fun e w' => ∃ v', e = .returned v' ∧ Own1 w' w.heap.size 2 v' xs ∧ Below w.heap.size w w' :=
  clone_reads cl64_lays (.int .i64 0) 8 info_cl64 rfl Tryz.sizeOf2 h (by omega) (by omega) h1

theorem info_cl8 : (Tryz.prog.info? 86).map (fun i => (i.zero, i.size, i.bytes)) = some (some (.int .i8 0), 1, 1) := by kernel_rfl
def cl8_ren : Go.Shelf.Ren := ⟨fun | 41 => 131 | n => n, fun | 22 => 27 | 23 => 86 | 4 => 4 | n => n, fun n => n⟩
theorem cl8_lays : SlLaysE0.n41 Tryz.prog cl8_ren where
  mixed := by kernel_rfl
  f41 := ⟨"slices.Clone[[]int8,int8]", by decide, Tryz.func131.trans (congrArg some (by kernel_rfl))⟩
  t4 := Tryz.underlying4
  a4 := Tryz.isAgg4
  z4 := Tryz.sizeOf4
  v4 := Tryz.zeroValue4
  t22 := Tryz.underlying27
  a22 := Tryz.isAgg27
  z22 := Tryz.sizeOf27
  v22 := Tryz.zeroValue27
theorem cl8_any {w : World} {v : Value} {xs : List Value} (h : Reads1 w v xs) (hl : xs.length * 8 ≤ 140737488355328) (h1 : ∀ u ∈ xs, u.oneCell' = true) :
    Calls Tryz.prog 131 #[v] w fun e w' => ∃ v', e = .returned v' ∧ Own1 w' w.heap.size 86 v' xs ∧ Below w.heap.size w w' :=
  clone_reads cl8_lays (.int .i8 0) 1 info_cl8 rfl Tryz.sizeOf86 h (by omega) (by omega) h1

theorem info_clR : (Tryz.prog.info? 21).map (fun i => (i.zero, i.size, i.bytes)) = some (some (.int .i32 0), 1, 4) := by kernel_rfl
def clR_ren : Go.Shelf.Ren := ⟨fun | 41 => 144 | n => n, fun | 22 => 29 | 23 => 21 | 4 => 4 | n => n, fun n => n⟩
theorem clR_lays : SlLaysE0.n41 Tryz.prog clR_ren where
  mixed := by kernel_rfl
  f41 := ⟨"slices.Clone[[]rune,rune]", by decide, Tryz.func144.trans (congrArg some (by kernel_rfl))⟩
  t4 := Tryz.underlying4
  a4 := Tryz.isAgg4
  z4 := Tryz.sizeOf4
  v4 := Tryz.zeroValue4
  t22 := Tryz.underlying29
  a22 := Tryz.isAgg29
  z22 := Tryz.sizeOf29
  v22 := Tryz.zeroValue29
theorem clR_any {w : World} {v : Value} {xs : List Value} (h : Reads1 w v xs) (hl : xs.length * 8 ≤ 140737488355328) (h1 : ∀ u ∈ xs, u.oneCell' = true) :
    Calls Tryz.prog 144 #[v] w fun e w' => ∃ v', e = .returned v' ∧ Own1 w' w.heap.size 21 v' xs ∧ Below w.heap.size w w' :=
  clone_reads clR_lays (.int .i32 0) 4 info_clR rfl Tryz.sizeOf21 h (by omega) (by omega) h1

def clA_ren : Go.Shelf.Ren := ⟨fun | 41 => 145 | n => n, fun | 22 => 30 | 23 => 155 | 4 => 4 | n => n, fun n => n⟩
theorem clA_lays : SlLaysE0.n41 Tryz.prog clA_ren where
  mixed := by kernel_rfl
  f41 := ⟨"slices.Clone[[]rebus/vec.Array,rebus/vec.Array]", by decide, Tryz.func145.trans (congrArg some (by kernel_rfl))⟩
  t4 := Tryz.underlying4
  a4 := Tryz.isAgg4
  z4 := Tryz.sizeOf4
  v4 := Tryz.zeroValue4
  t22 := Tryz.underlying30
  a22 := Tryz.isAgg30
  z22 := Tryz.sizeOf30
  v22 := Tryz.zeroValue30
theorem clA_nil (c : Nat) (w : World) : Calls Tryz.prog 145 #[.slice none 0 c] w fun e w' => e = .returned (.slice none 0 0) ∧ w' = w := AnyE.slices_Clone_nil clA_lays 0 c w

end Go.Proofs.YtdddmehchfnppaaGreatDoor
namespace Go.Proofs.YtdddmehchfnppaaGreatDoor
open Go Go.RowKit Go.Proofs Fl

/-- a block of eight cells written whole -/
abbrev set8 (w : World) (G : Nat) (a0 a1 a2 a3 a4 a5 a6 a7 : Value) : World :=
  (((((((w.setCell ⟨G, 0, none⟩ a0).setCell ⟨G, 1, none⟩ a1).setCell ⟨G, 2, none⟩ a2).setCell ⟨G, 3, none⟩ a3).setCell ⟨G, 4, none⟩ a4).setCell ⟨G, 5, none⟩ a5).setCell ⟨G, 6, none⟩ a6).setCell ⟨G, 7, none⟩ a7
theorem below_set8 {B : Nat} {w0 w : World} (h : Below B w0 w) {G : Nat} (hG : B ≤ G) (a0 a1 a2 a3 a4 a5 a6 a7 : Value) : Below B w0 (set8 w G a0 a1 a2 a3 a4 a5 a6 a7) :=
  (((((((h.setCell hG _).setCell hG _).setCell hG _).setCell hG _).setCell hG _).setCell hG _).setCell hG _).setCell hG _
theorem own_set8 {w : World} {B : Nat} {e : TypeId} {v : Value} {xs : List Value} (h : Own1 w B e v xs) {G : Nat} (hG : v.ownBlock ≠ some G) (a0 a1 a2 a3 a4 a5 a6 a7 : Value) : Own1 (set8 w G a0 a1 a2 a3 a4 a5 a6 a7) B e v xs := by
  unfold Own1 at *
  exact ownsRow_setCell_other (ownsRow_setCell_other (ownsRow_setCell_other (ownsRow_setCell_other (ownsRow_setCell_other (ownsRow_setCell_other (ownsRow_setCell_other (ownsRow_setCell_other h hG _) hG _) hG _) hG _) hG _) hG _) hG _) hG _

theorem Own1.lower {w : World} {B B' : Nat} {e : TypeId} {v : Value} {xs : List Value} (h : Own1 w B e v xs) (hB : B' ≤ B) : Own1 w B' e v xs := by
  refine ⟨h.1, ?_⟩
  rcases h.2 with h2 | ⟨g, cap, cur, hv, hbg, r⟩
  · exact .inl h2
  · exact .inr ⟨g, cap, cur, hv, by omega, r⟩

theorem frozen_new (w : World) (cs : Array Value) (e : TypeId) (j : Nat) : (w.alloc (.cells cs e)).frozen? ⟨w.heap.size, j, none⟩ = false := frozen_of_row _ _ j cs e (heap_alloc_new w _)

theorem block_up {w w1 : World} {o : Obj} (hb : Below (w.alloc o).heap.size (w.alloc o) w1) : w1.heap[w.heap.size]? = some o := by
  rw [hb.block _ (by simp)]; exact heap_alloc_new w o
theorem set8_block {w : World} {G : Nat} {e : TypeId} {z0 z1 z2 z3 z4 z5 z6 z7 : Value} (h : w.heap[G]? = some (.cells #[z0, z1, z2, z3, z4, z5, z6, z7] e)) (a0 a1 a2 a3 a4 a5 a6 a7 : Value) :
    (set8 w G a0 a1 a2 a3 a4 a5 a6 a7).heap[G]? = some (.cells #[a0, a1, a2, a3, a4, a5, a6, a7] e) := by
  have h0 := heap_setCell_same _ G 0 _ e a0 h
  rw [show (#[z0, z1, z2, z3, z4, z5, z6, z7] : Array Value).setIfInBounds 0 a0 = #[a0, z1, z2, z3, z4, z5, z6, z7] by simp] at h0
  have h1 := heap_setCell_same _ G 1 _ e a1 h0
  rw [show (#[a0, z1, z2, z3, z4, z5, z6, z7] : Array Value).setIfInBounds 1 a1 = #[a0, a1, z2, z3, z4, z5, z6, z7] by simp] at h1
  have h2 := heap_setCell_same _ G 2 _ e a2 h1
  rw [show (#[a0, a1, z2, z3, z4, z5, z6, z7] : Array Value).setIfInBounds 2 a2 = #[a0, a1, a2, z3, z4, z5, z6, z7] by simp] at h2
  have h3 := heap_setCell_same _ G 3 _ e a3 h2
  rw [show (#[a0, a1, a2, z3, z4, z5, z6, z7] : Array Value).setIfInBounds 3 a3 = #[a0, a1, a2, a3, z4, z5, z6, z7] by simp] at h3
  have h4 := heap_setCell_same _ G 4 _ e a4 h3
  rw [show (#[a0, a1, a2, a3, z4, z5, z6, z7] : Array Value).setIfInBounds 4 a4 = #[a0, a1, a2, a3, a4, z5, z6, z7] by simp] at h4
  have h5 := heap_setCell_same _ G 5 _ e a5 h4
  rw [show (#[a0, a1, a2, a3, a4, z5, z6, z7] : Array Value).setIfInBounds 5 a5 = #[a0, a1, a2, a3, a4, a5, z6, z7] by simp] at h5
  have h6 := heap_setCell_same _ G 6 _ e a6 h5
  rw [show (#[a0, a1, a2, a3, a4, a5, z6, z7] : Array Value).setIfInBounds 6 a6 = #[a0, a1, a2, a3, a4, a5, a6, z7] by simp] at h6
  have h7 := heap_setCell_same _ G 7 _ e a7 h6
  rw [show (#[a0, a1, a2, a3, a4, a5, a6, z7] : Array Value).setIfInBounds 7 a7 = #[a0, a1, a2, a3, a4, a5, a6, a7] by simp] at h7
  exact h7
theorem vec_size : (Tryz.prog.info? 32).map (·.size) = some 8 := by kernel_rfl
theorem ret_vec {fn : Func} {p : Tmp} (h : fn.results = #[.cell p 32]) (tmps : Array Value) (w : World) (G : Nat) {e : TypeId} {a0 a1 a2 a3 a4 a5 a6 a7 : Value}
    (hp : tmps.getD p undef = .pointer (some ⟨G, 0, none⟩)) (hg : w.heap[G]? = some (.cells #[a0, a1, a2, a3, a4, a5, a6, a7] e)) :
    (results fn tmps).run Tryz.prog w = .ok (.agg #[a0, a1, a2, a3, a4, a5, a6, a7]) w :=
  results_cell_row h tmps w G e _ (0, 0) _ hp hg Tryz.underlying32 rfl vec_size
theorem ret_vec2 {fn : Func} {p u : Tmp} (h : fn.results = #[.cell p 32, .tmp u]) (tmps : Array Value) (w : World) (G : Nat) {e : TypeId} {a0 a1 a2 a3 a4 a5 a6 a7 : Value}
    (hp : tmps.getD p undef = .pointer (some ⟨G, 0, none⟩)) (hg : w.heap[G]? = some (.cells #[a0, a1, a2, a3, a4, a5, a6, a7] e)) :
    (results fn tmps).run Tryz.prog w = .ok (.tuple #[.agg #[a0, a1, a2, a3, a4, a5, a6, a7], tmps.getD u undef]) w := by
  rw [results_cell_tmp h, hp]
  have := run_loadVar_row (P := Tryz.prog) w G e 32 _ (0, 0) _ hg Tryz.underlying32 rfl vec_size
  simp [asAddr, Result.andThen, this]

set_option maxHeartbeats 1000000 in
theorem smalls_any {w : World} {v : Value} {l : List Int} (h : Reads1 w v (l.map (.int .i8))) (hl : l.length ≤ 1000000) :
    Calls Tryz.prog 107 #[v] w fun e w' => ∃ u, e = .returned (vecV 2 vnil 0 u vnil vnil vnil vnil) ∧ Own1 w' w.heap.size 86 u (l.map (.int .i8)) ∧ Below w.heap.size w w' := by
  have HR := Lib.hid h
  have HC := Lib.hid (fun w2 (hb : Below w.heap.size w w2) => cl8_any (h.below hb) (by rw [List.length_map]; omega) (by intro u hu; obtain ⟨z, _, rfl⟩ := List.mem_map.1 hu; rfl))
  clear h
  go_enter Tryz.func107, Tryz.ntmps107
  go_wp2_with fail
  refine (HC.out _ (bel1 _ _)).mono ?_
  rintro e w1 ⟨u, rfl, ho, hb1⟩
  have HB1 := Lib.hid ((bel1 w _).trans (hb1.mono (bel1 w _).size))
  obtain ⟨h0, h1, h2, h3, h4, h5, h6, h7⟩ := (boxed_new w 32 0 vnil 0 vnil vnil vnil vnil vnil).below hb1
  have HK := Lib.hid (block_up hb1)
  have hz : ∀ j, w1.frozen? ⟨w.heap.size, j, none⟩ = false := fun j => by rw [hb1.frozen (by simp)]; exact frozen_new _ _ _ _
  have HNE : Hid (u.ownBlock ≠ some w.heap.size) := fun e => by have := (World.ownsRow.lt ho _ e).1; simp at this; omega
  have HO := Lib.hid ho
  obtain ⟨a, n, c, hu⟩ : ∃ a n c, u = .slice a n c := by obtain ⟨a, c, e⟩ := ho.reads.len; exact ⟨a, _, c, e⟩
  subst hu
  clear hb1 ho
  go_wp2
  exact bodyPost_ret (ret_vec rfl _ _ _ rfl (set8_block HK.out _ _ _ _ _ _ _ _)) rfl ⟨_, rfl, own_set8 (HO.out.lower (by simp)) HNE.out _ _ _ _ _ _ _ _, below_set8 HB1.out (Nat.le_refl _) _ _ _ _ _ _ _ _⟩
set_option maxHeartbeats 1000000 in
theorem chars_any {w : World} {v : Value} {l : List Int} (h : Reads1 w v (l.map (.int .i32))) (hl : l.length ≤ 1000000) :
    Calls Tryz.prog 133 #[v] w fun e w' => ∃ u, e = .returned (vecV 5 vnil 0 vnil vnil vnil u vnil) ∧ Own1 w' w.heap.size 21 u (l.map (.int .i32)) ∧ Below w.heap.size w w' := by
  have HR := Lib.hid h
  have HC := Lib.hid (fun w2 (hb : Below w.heap.size w w2) => clR_any (h.below hb) (by rw [List.length_map]; omega) (by intro u hu; obtain ⟨z, _, rfl⟩ := List.mem_map.1 hu; rfl))
  clear h
  go_enter Tryz.func133, Tryz.ntmps133
  go_wp2_with fail
  refine (HC.out _ (bel1 _ _)).mono ?_
  rintro e w1 ⟨u, rfl, ho, hb1⟩
  have HB1 := Lib.hid ((bel1 w _).trans (hb1.mono (bel1 w _).size))
  obtain ⟨h0, h1, h2, h3, h4, h5, h6, h7⟩ := (boxed_new w 32 0 vnil 0 vnil vnil vnil vnil vnil).below hb1
  have HK := Lib.hid (block_up hb1)
  have hz : ∀ j, w1.frozen? ⟨w.heap.size, j, none⟩ = false := fun j => by rw [hb1.frozen (by simp)]; exact frozen_new _ _ _ _
  have HNE : Hid (u.ownBlock ≠ some w.heap.size) := fun e => by have := (World.ownsRow.lt ho _ e).1; simp at this; omega
  have HO := Lib.hid ho
  obtain ⟨a, n, c, hu⟩ : ∃ a n c, u = .slice a n c := by obtain ⟨a, c, e⟩ := ho.reads.len; exact ⟨a, _, c, e⟩
  subst hu
  clear hb1 ho
  go_wp2
  exact bodyPost_ret (ret_vec rfl _ _ _ rfl (set8_block HK.out _ _ _ _ _ _ _ _)) rfl ⟨_, rfl, own_set8 (HO.out.lower (by simp)) HNE.out _ _ _ _ _ _ _ _, below_set8 HB1.out (Nat.le_refl _) _ _ _ _ _ _ _ _⟩
set_option maxHeartbeats 1000000 in
theorem boxes_nil (w : World) : Calls Tryz.prog 134 #[.slice none 0 0] w fun e w' => e = .returned (vecV 6 vnil 0 vnil vnil vnil vnil vnil) ∧ Below w.heap.size w w' := by
  go_enter Tryz.func134, Tryz.ntmps134
  go_wp2_with fail
  refine (clA_nil 0 _).mono ?_
  rintro e w1 ⟨rfl, hw'⟩
  have hw := hw'.symm
  clear hw'
  have hb1 : Below (w.alloc (.cells #[.int .i64 0, .slice none 0 0, .int .i64 0, .slice none 0 0, .slice none 0 0, .slice none 0 0, .slice none 0 0, .slice none 0 0] 32)).heap.size (w.alloc (.cells #[.int .i64 0, .slice none 0 0, .int .i64 0, .slice none 0 0, .slice none 0 0, .slice none 0 0, .slice none 0 0, .slice none 0 0] 32)) w1 := by rw [hw]; exact Below.refl _ _
  have HB1 := Lib.hid ((bel1 w _).trans (hb1.mono (bel1 w _).size))
  obtain ⟨h0, h1, h2, h3, h4, h5, h6, h7⟩ := (boxed_new w 32 0 vnil 0 vnil vnil vnil vnil vnil).below hb1
  have HK := Lib.hid (block_up hb1)
  have hz : ∀ j, w1.frozen? ⟨w.heap.size, j, none⟩ = false := fun j => by rw [hb1.frozen (by simp)]; exact frozen_new _ _ _ _
  clear hb1 hw
  go_wp2
  exact bodyPost_ret (ret_vec rfl _ _ _ rfl (set8_block HK.out _ _ _ _ _ _ _ _)) rfl ⟨rfl, below_set8 HB1.out (Nat.le_refl _) _ _ _ _ _ _ _ _⟩

set_option maxRecDepth 100000 in
set_option maxHeartbeats 1000000 in
theorem ints_walk (b o n c : Nat) (l : List Int) (hn : n = l.length) (hl : n ≤ 1000000) (w : World) (hc : ∀ i (h : i < l.length), w.cell? ⟨b, o + i, none⟩ = some (.int .i64 l[i])) (hg : ∀ x ∈ l, -9007199254740992 ≤ x ∧ x ≤ 9007199254740992) :
    Calls Tryz.prog 64 #[.slice (some ⟨b, o, none⟩) n c] w fun e w' => ∃ u, e = .returned (.tuple #[vecV 3 vnil 0 vnil u vnil vnil vnil, .bool true]) ∧ Own1 w' w.heap.size 2 u (l.map (.int .i64)) ∧ Below w.heap.size w w' := by
  have HR : Hid (Reads1 w (.slice (some ⟨b, o, none⟩) n c) (l.map (.int .i64))) := .inr ⟨b, o, n, c, rfl, by rw [List.length_map]; exact hn, fun i hi => by rw [hc i (by simpa using hi)]; simp⟩
  have HC := Lib.hid (fun w2 (hb : Below w.heap.size w w2) => cl64_any (HR.out.below hb) (by rw [List.length_map]; omega) (by intro u hu; obtain ⟨z, _, rfl⟩ := List.mem_map.1 hu; rfl))
  have HCC := Lib.hid hc
  have HG := Lib.hid hg
  have HN := Lib.hid hn
  clear hc hg hn
  go_enter Tryz.func64, Tryz.ntmps64
  go_wp2
  go_loopw [8] (fun j wr => ∃ m : Nat, m ≤ n ∧ j = .int .i64 m ∧ wr = w.alloc (.cells #[.int .i64 0, .slice none 0 0, .int .i64 0, .slice none 0 0, .slice none 0 0, .slice none 0 0, .slice none 0 0, .slice none 0 0] 32)) (fun j _ => n - (intOf j).toNat)
  case atStart => exact ⟨0, Nat.zero_le _, rfl, rfl⟩
  case round =>
    obtain ⟨m, hm, rfl, rfl⟩ := hrel
    by_cases hlt : m < n
    · have hlt' : m < l.length := by rw [← HN.out]; exact hlt
      have hcell := fun a => cell_box1 (HCC.out m hlt') a
      obtain ⟨hx1, hx2⟩ := HG.out l[m] (List.getElem_mem _)
      generalize l[m] = x at *
      go_wp2
      go_roundw
      case rel => exact ⟨m + 1, by omega, by go_num, by first | trivial | rfl⟩
      case measure => simp [intOf]; omega
    · obtain rfl : m = n := by omega
      go_wp2_with fail
      refine (HC.out _ (bel1 _ _)).mono ?_
      rintro e w1 ⟨u, rfl, ho, hb1⟩
      have HB1 := Lib.hid ((bel1 w _).trans (hb1.mono (bel1 w _).size))
      obtain ⟨h0, h1, h2, h3, h4, h5, h6, h7⟩ := (boxed_new w 32 0 vnil 0 vnil vnil vnil vnil vnil).below hb1
      have HK := Lib.hid (block_up hb1)
      have hz : ∀ j, w1.frozen? ⟨w.heap.size, j, none⟩ = false := fun j => by rw [hb1.frozen (by simp)]; exact frozen_new _ _ _ _
      have HNE : Hid (u.ownBlock ≠ some w.heap.size) := fun e => by have := (World.ownsRow.lt ho _ e).1; simp at this; omega
      have HO := Lib.hid ho
      obtain ⟨a, n, c, hu⟩ : ∃ a n c, u = .slice a n c := by obtain ⟨a, c, e⟩ := ho.reads.len; exact ⟨a, _, c, e⟩
      subst hu
      clear hb1 ho
      go_wp2
      refine bodyPost_ret (v := .tuple #[vecV 3 vnil 0 vnil (.slice a n c) vnil vnil vnil, .bool true]) ?_ rfl ⟨.slice a n c, rfl, own_set8 (HO.out.lower (by simp)) HNE.out _ _ _ _ _ _ _ _, below_set8 HB1.out (Nat.le_refl _) _ _ _ _ _ _ _ _⟩
      exact ret_vec2 (fn := Tryz.f64) (p := 2) (u := 3) rfl _ _ w.heap.size (by rfl) (set8_block HK.out _ _ _ _ _ _ _ _)
end Go.Proofs.YtdddmehchfnppaaGreatDoor
