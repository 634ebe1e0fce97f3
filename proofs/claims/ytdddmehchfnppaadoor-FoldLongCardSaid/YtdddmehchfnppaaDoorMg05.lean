/- Merged texts. A Vec in a variable's own block; a Vec's numbers as the callers ask for them; the walk of Nums. Conditions: as each theorem says. slices.Clone at rows of one-cell elements, off the shelf. Conditions: as each theorem says. -/
import Derived.Test.YtdddmehchfnppaaDoorMg04
import Derived.Shelf.SlGeneric
import Derived.Shelf.SlicesE.Clone
namespace Go.Proofs.YtdddmehchfnppaaDoor
open Go Go.RowKit Go.Proofs Fl

/-- a block that holds a Vec -/
def Boxed (w : World) (G : Nat) (k : Int) (b : Value) (bn : Int) (s i f c x : Value) : Prop :=
  w.cell? ⟨G, 0, none⟩ = some (.int .i64 k) ∧ w.cell? ⟨G, 1, none⟩ = some b ∧ w.cell? ⟨G, 2, none⟩ = some (.int .i64 bn) ∧ w.cell? ⟨G, 3, none⟩ = some s ∧
    w.cell? ⟨G, 4, none⟩ = some i ∧ w.cell? ⟨G, 5, none⟩ = some f ∧ w.cell? ⟨G, 6, none⟩ = some c ∧ w.cell? ⟨G, 7, none⟩ = some x

theorem boxed_new (w : World) (e : TypeId) (k : Int) (b : Value) (bn : Int) (s i f c x : Value) : Boxed (w.alloc (.cells #[.int .i64 k, b, .int .i64 bn, s, i, f, c, x] e)) w.heap.size k b bn s i f c x := by
  have h : ∀ j u, #[.int .i64 k, b, .int .i64 bn, s, i, f, c, x][j]? = some u → (w.alloc (.cells #[.int .i64 k, b, .int .i64 bn, s, i, f, c, x] e)).cell? ⟨w.heap.size, j, none⟩ = some u := by
    intro j u hu
    rw [cell_of_row _ w.heap.size j _ e (0, 0) (heap_alloc_new w _)]
    exact hu
  exact ⟨h 0 _ rfl, h 1 _ rfl, h 2 _ rfl, h 3 _ rfl, h 4 _ rfl, h 5 _ rfl, h 6 _ rfl, h 7 _ rfl⟩

theorem Boxed.of {w w' : World} {G : Nat} {k : Int} {b : Value} {bn : Int} {s i f c x : Value} (h : Boxed w G k b bn s i f c x) (e : ∀ j, w'.cell? ⟨G, j, none⟩ = w.cell? ⟨G, j, none⟩) : Boxed w' G k b bn s i f c x := by
  unfold Boxed
  rw [e, e, e, e, e, e, e, e]
  exact h
theorem Boxed.lt {w : World} {G : Nat} {k : Int} {b : Value} {bn : Int} {s i f c x : Value} (h : Boxed w G k b bn s i f c x) : G < w.heap.size := cell_lt h.1
theorem Boxed.below {w w' : World} {G : Nat} {k : Int} {b : Value} {bn : Int} {s i f c x : Value} (h : Boxed w G k b bn s i f c x) (hb : Below w.heap.size w w') : Boxed w' G k b bn s i f c x := h.of fun _ => hb.cell h.lt
theorem Boxed.set {w : World} {G : Nat} {k : Int} {b : Value} {bn : Int} {s i f c x : Value} (h : Boxed w G k b bn s i f c x) {p : Addr} (hp : p.block ≠ G) (u : Value) : Boxed (w.setCell p u) G k b bn s i f c x :=
  h.of fun _ => World.cell?_of_block (w := w) (Below.heap_setCell w p u G (fun e => hp e.symm))

/-- a Vec's numbers, as its callers ask for them: n of them, F -/
structure NumsOf (w : World) (v : Value) (n : Nat) (F : Nat → Nat) : Prop where
  cls : ∀ w', Below w.heap.size w w' → Calls Tryd.prog 27 #[v] w' fun e w2 => e = .returned (.int .i64 0) ∧ Below w'.heap.size w' w2
  len : ∀ w', Below w.heap.size w w' → Calls Tryd.prog 38 #[v] w' fun e w2 => e = .returned (.int .i64 n) ∧ Below w'.heap.size w' w2
  num : ∀ w', Below w.heap.size w w' → ∀ j, j < n → Calls Tryd.prog 39 #[v, .int .i64 (j : Nat)] w' fun e w2 => e = .returned (.float .f64 (F j)) ∧ Below w'.heap.size w' w2

theorem numsOf_floats {w : World} {v : Value} {l : List Nat} (h : VR w v (.floats l)) : NumsOf w v l.length (fun j => l.getD j 0) := by
  obtain ⟨s, rfl, hr⟩ := h
  have hlen := hr.len
  refine ⟨fun w' hb => class_4 _ _ _ _ _ _ _ _, fun w' hb => ?_, fun w' hb j hj => ?_⟩
  · obtain ⟨a, c, rfl⟩ := hlen
    rw [List.length_map]
    exact len_4 _ _ _ _ _ _ _ _ _ _
  · rcases hr.at with ⟨a, c, rfl, h0⟩ | ⟨b, o, c, rfl, hc⟩
    · have := congrArg List.length h0; rw [List.length_map, List.length_nil] at this; omega
    · rw [List.length_map]
      refine num_4 _ _ _ _ _ _ _ _ _ _ _ hj _ _ ?_
      have := hc j (by simpa using hj)
      rw [hb.cell (cell_lt this), this]
      simp [List.getD, hj]
theorem numsOf_small {w : World} {v : Value} {l : List Int} (h : VR w v (.small l)) : NumsOf w v l.length (fun j => floatOfInt .f64 (l.getD j 0)) := by
  obtain ⟨s, rfl, hr, _⟩ := h
  have hlen := hr.len
  refine ⟨fun w' hb => class_2 _ _ _ _ _ _ _ _, fun w' hb => ?_, fun w' hb j hj => ?_⟩
  · obtain ⟨a, c, rfl⟩ := hlen
    rw [List.length_map]
    exact len_2 _ _ _ _ _ _ _ _ _ _
  · rcases hr.at with ⟨a, c, rfl, h0⟩ | ⟨b, o, c, rfl, hc⟩
    · have := congrArg List.length h0; rw [List.length_map, List.length_nil] at this; omega
    · rw [List.length_map]
      refine num_2 _ _ _ _ _ _ _ _ _ _ _ hj _ _ ?_
      have := hc j (by simpa using hj)
      rw [hb.cell (cell_lt this), this]
      simp [List.getD, hj]
theorem numsOf_ints {w : World} {v : Value} {l : List Int} (h : VR w v (.ints l)) : NumsOf w v l.length (fun j => floatOfInt .f64 (l.getD j 0)) := by
  obtain ⟨s, rfl, hr, _⟩ := h
  have hlen := hr.len
  refine ⟨fun w' hb => class_3 _ _ _ _ _ _ _ _, fun w' hb => ?_, fun w' hb j hj => ?_⟩
  · obtain ⟨a, c, rfl⟩ := hlen
    rw [List.length_map]
    exact len_3 _ _ _ _ _ _ _ _ _ _
  · rcases hr.at with ⟨a, c, rfl, h0⟩ | ⟨b, o, c, rfl, hc⟩
    · have := congrArg List.length h0; rw [List.length_map, List.length_nil] at this; omega
    · rw [List.length_map]
      refine num_3 _ _ _ _ _ _ _ _ _ _ _ hj _ _ ?_
      have := hc j (by simpa using hj)
      rw [hb.cell (cell_lt this), this]
      simp [List.getD, hj]

theorem info_f64 : (Tryd.prog.info? 26).map (fun i => (i.zero, i.size, i.bytes)) = some (some (.float .f64 0), 1, 8) := by kernel_rfl

theorem store_float {w : World} {a : Addr} {y : Value} (hc : w.cell? a = some y) (hf : w.frozen? a = false) (k : FloatKind) (x : Nat) (m : Mode) : (store a (.float k x) m).run Tryd.prog w = .ok () (w.setCell a (.float k x)) := by
  rw [run_store Tryd.prog w a _ m rfl, hc]
  simp [hf]

set_option maxRecDepth 100000 in
set_option maxHeartbeats 1000000 in
theorem nums_walk (k : Int) (b : Value) (bn : Int) (s i f c x : Value) (n : Nat) (F : Nat → Nat) (w : World) (h : NumsOf w (vecV k b bn s i f c x) n F) (hn : n ≤ 1000000) :
    Calls Tryd.prog 13 #[vecV k b bn s i f c x] w fun e w' => ∃ v, e = .returned v ∧ Own1 w' w.heap.size 26 v ((List.range n).map fun j => .float .f64 (F j)) ∧ Below w.heap.size w w' := by
  have HN := Lib.hid h
  have hmk := run_make_row' (P := Tryd.prog) 25 26 (.float .f64 0) 8 Tryd.underlying25 info_f64 rfl .i64 .i64 n (by omega) (by omega)
  clear h
  go_enter Tryd.func13, Tryd.ntmps13
  go_wp2_with fail
  refine (HN.out.cls _ (bel1 _ _)).mono ?_
  rintro e w1 ⟨rfl, hb1⟩
  have hB1 := (bel1 w _).trans (hb1.mono (bel1 w _).size)
  have hx1 := (boxed_new w 35 k b bn s i f c x).below hb1
  have HB1 := Lib.hid hB1
  have HX1 := Lib.hid hx1
  obtain ⟨h0, h1, h2, h3, h4, h5, h6, h7⟩ := hx1
  clear hb1 hB1
  go_wp2_with fail
  refine (HN.out.len _ HB1.out).mono ?_
  rintro e w2 ⟨rfl, hb2⟩
  have HB2 := Lib.hid (HB1.out.trans (hb2.mono HB1.out.size))
  have HX2 := Lib.hid (HX1.out.below hb2)
  clear hb2 h0 h1 h2 h3 h4 h5 h6 h7 HX1 HB1
  obtain ⟨B, hB⟩ : ∃ B, B = w.heap.size := ⟨_, rfl⟩
  have HBE := Lib.hid hB
  have HF0 := Lib.hid (Fill.made w2 B (by rw [hB]; exact HB2.out.size) 26 (fun j => .float .f64 (F j)) (.float .f64 0) n (by unfold maxLen; omega))
  have HBM := Lib.hid (HB2.out.alloc HB2.out.size (.cells (madeCells #[.float .f64 0] n) 26))
  have HXM := Lib.hid (HX2.out.below (bel1 w2 (.cells (madeCells #[.float .f64 0] n) 26)))
  have HGN : Hid (w2.heap.size ≠ w.heap.size) := by have := HX2.out.lt; show _ ≠ _; omega
  go_wp2_with fail
  go_loopw [13] (fun j wr => ∃ m : Nat, m ≤ n ∧ j = .int .i64 m ∧ Fill wr B w2.heap.size 26 (fun j => .float .f64 (F j)) (.float .f64 0) n m ∧ Below w.heap.size w wr ∧ Boxed wr w.heap.size k b bn s i f c x) (fun j _ => n - (intOf j).toNat)
  case atStart => exact ⟨0, Nat.zero_le _, rfl, HF0.out, HBM.out, HXM.out⟩
  case round =>
    obtain ⟨m, hm, rfl, hf, hbl, hx⟩ := hrel
    have HF := Lib.hid hf
    have HBL := Lib.hid hbl
    have HX := Lib.hid hx
    by_cases hlt : m < n
    · obtain ⟨h0, h1, h2, h3, h4, h5, h6, h7⟩ := hx
      clear hf hbl
      go_wp2_with fail
      refine (HN.out.num _ HBL.out m hlt).mono ?_
      rintro e w3 ⟨rfl, hb3⟩
      have HF3 := Lib.hid (HF.out.below hb3)
      have HP3 := Lib.hid (HF3.out.put hlt)
      have HB3 := Lib.hid (HF3.out.bel (by rw [HBE.out]; exact HBL.out.trans (hb3.mono HBL.out.size)) m (.float .f64 (F m)))
      have HX3 := Lib.hid ((HX.out.below hb3).set (p := ⟨w2.heap.size, m, none⟩) HGN.out (.float .f64 (F m)))
      have hc3 := HF3.out.cell hlt
      have hz3 := HF3.out.frozen m
      have hst := fun md => store_float hc3 hz3 .f64 (F m) md
      clear hb3 h0 h1 h2 h3 h4 h5 h6 h7
      go_wp2
      go_roundw
      case rel => exact ⟨m + 1, by omega, by go_num, HP3.out, by rw [← HBE.out]; exact HB3.out, HX3.out⟩
      case measure => simp [intOf]; omega
    · obtain rfl : m = n := by omega
      clear hf hbl hx
      go_wp2
      go_ret
      exact ⟨_, rfl, by rw [← HBE.out]; exact HF.out.own, HBL.out⟩
end Go.Proofs.YtdddmehchfnppaaDoor
namespace Go.Proofs.YtdddmehchfnppaaDoor
open Go Go.RowKit Go.Proofs Go.Shelf Go.Lib

section
variable {P : Program} {ρ : Ren}
set_option maxHeartbeats 1000000 in
theorem clone_zero (L : SlLaysE0.n41 P ρ) (i0 : TypeInfo) (z : Value) (bytes : Nat) (hi : P.info? (ρ.t 23) = some i0) (hz0 : i0.zero = some z) (hz1 : i0.size = 1) (hz2 : i0.bytes = bytes) (hzs : z.cells.size = 1)
    (z23 : ∀ w, (Go.sizeOf (ρ.t 23)).run P w = .ok 1 w) (x : Addr) (c : Nat) (w : World) :
    Calls P (ρ.f 41) #[.slice (some x) 0 c] w fun e w' => ∃ v', e = .returned v' ∧ w'.ownsRow w.heap.size (ρ.t 23) 1 v' 0 [] ∧ Below w.heap.size w w' := by
  have mixed := L.mixed; have t4 := L.t4; have a4 := L.a4; have z4 := L.z4; have v4 := L.v4; have t22 := L.t22; have a22 := L.a22; have z22 := L.z22; have v22 := L.v22
  have q22 : ∀ (w : World) (a : Option Addr) (n c n' c' : Nat), (binOp .eql (ρ.t 22) (.slice a n c) (.slice none n' c')).run P w = .ok (.bool a.isNone) w := fun w a n c n' c' => Lib.run_eql_slice_nil w _ _ a n c n' c' L.t22
  have u22 : ∀ w, Sem.run P (underlying (ρ.t 22)) w = .ok (TypeDesc.slice (ρ.t 23)) w := run_underlying t22
  obtain ⟨_, _, FG⟩ := L.f41
  obtain ⟨n, hn⟩ : ∃ n : Nat, n = 0 := ⟨0, rfl⟩
  rw [← hn]
  have HN := Lib.hid hn
  clear hn
  go_enter FG, SlBodyN.n41_ntmps ρ
  go_wp2_with (at_builtin; refine wpList_append_own _ rfl _ _ (ρ.t 22) rfl w.heap.size (ρ.t 23) i0 z 1 bytes t22 hi hz0 hz1 hz2 hzs (by decide) _ _ _ rfl (World.ownsRow_made w #[] 0 (Nat.le_refl _) (Nat.zero_le _) (by simp)) x n c [] rfl ?qc1 ?qc2 ?qc3 ?qc4 ?qc5 ?qc6 ?_)
  case qc1 => rw [HN.out]; rfl
  case qc2 =>
    intro j u hj
    simp at hj
  case qc3 => intro u hu; cases hu
  case qc4 => rw [Nat.zero_add, HN.out]; exact Nat.zero_le _
  case qc5 => rw [Nat.zero_add, HN.out, Nat.zero_mul]; exact Nat.zero_le _
  case qc6 => simp
  intro v' w1 hown hgrow hnil
  go_wp2
  go_ret
  refine ⟨v', rfl, hown, ?_⟩
  exact ((Below.refl _ w).alloc (Nat.le_refl _) _).grown hgrow (by simp) (by intro k hk; simp [Value.ownBlock] at hk; omega)

theorem clone_reads (L : SlLaysE0.n41 P ρ) (z : Value) (bytes : Nat) (hinfo : (P.info? (ρ.t 23)).map (fun i => (i.zero, i.size, i.bytes)) = some (some z, 1, bytes)) (hzs : z.cells.size = 1)
    (z23 : ∀ w, (Go.sizeOf (ρ.t 23)).run P w = .ok 1 w) {w : World} {v : Value} {xs : List Value} (h : Reads1 w v xs) (hl : xs.length * bytes ≤ 140737488355328) (hl2 : xs.length ≤ 140737488355328) (h1 : ∀ u ∈ xs, u.oneCell' = true) :
    Calls P (ρ.f 41) #[v] w fun e w' => ∃ v', e = .returned v' ∧ w'.ownsRow w.heap.size (ρ.t 23) 1 v' xs.length xs ∧ Below w.heap.size w w' := by
  obtain ⟨i0, hi, hz0, hz1, hz2⟩ := info_parts hinfo
  rcases h with ⟨x, c, rfl, rfl⟩ | ⟨b, o, n, c, rfl, hn, hc⟩
  · cases x with
    | none =>
      refine (AnyE.slices_Clone_nil L 0 c w).mono ?_
      rintro e w' ⟨rfl, rfl⟩
      exact ⟨_, rfl, World.ownsRow_nil _ _ _ _, Below.refl _ _⟩
    | some x => exact clone_zero L i0 z bytes hi hz0 hz1 hz2 hzs z23 x c w
  · refine (AnyE.slices_Clone L i0 z 1 bytes hi hz0 hz1 hz2 hzs (by decide) z23 b o n c xs w (by omega) (by unfold maxLen; omega) (by rw [hn]; exact hl) ?_ h1).mono ?_
    · intro j u hj
      obtain ⟨hlt, rfl⟩ := List.getElem?_eq_some_iff.1 hj
      exact hc j hlt
    · rintro e w' ⟨v', rfl, ho, _, hb⟩
      rw [hn] at ho
      exact ⟨v', rfl, ho, hb⟩
end

theorem info_cl64 : (Tryd.prog.info? 2).map (fun i => (i.zero, i.size, i.bytes)) = some (some (.int .i64 0), 1, 8) := by kernel_rfl
def cl64_ren : Go.Shelf.Ren := ⟨fun | 41 => 58 | n => n, fun | 22 => 23 | 23 => 2 | 4 => 4 | n => n, fun n => n⟩
theorem cl64_lays : SlLaysE0.n41 Tryd.prog cl64_ren where
  mixed := by kernel_rfl
  f41 := ⟨"slices.Clone[[]int64,int64]", by decide, Tryd.func58.trans (congrArg some (by kernel_rfl))⟩
  t4 := Tryd.underlying4
  a4 := Tryd.isAgg4
  z4 := Tryd.sizeOf4
  v4 := Tryd.zeroValue4
  t22 := Tryd.underlying23
  a22 := Tryd.isAgg23
  z22 := Tryd.sizeOf23
  v22 := Tryd.zeroValue23
theorem cl64_any {w : World} {v : Value} {xs : List Value} (h : Reads1 w v xs) (hl : xs.length * 8 ≤ 140737488355328) (h1 : ∀ u ∈ xs, u.oneCell' = true) :
    Calls Tryd.prog 58 #[v] w fun e w' => ∃ v', e = .returned v' ∧ Own1 w' w.heap.size 2 v' xs ∧ Below w.heap.size w w' :=
  clone_reads cl64_lays (.int .i64 0) 8 info_cl64 rfl Tryd.sizeOf2 h (by omega) (by omega) h1

theorem info_cl8 : (Tryd.prog.info? 94).map (fun i => (i.zero, i.size, i.bytes)) = some (some (.int .i8 0), 1, 1) := by kernel_rfl
def cl8_ren : Go.Shelf.Ren := ⟨fun | 41 => 103 | n => n, fun | 22 => 31 | 23 => 94 | 4 => 4 | n => n, fun n => n⟩
theorem cl8_lays : SlLaysE0.n41 Tryd.prog cl8_ren where
  mixed := by kernel_rfl
  f41 := ⟨"slices.Clone[[]int8,int8]", by decide, Tryd.func103.trans (congrArg some (by kernel_rfl))⟩
  t4 := Tryd.underlying4
  a4 := Tryd.isAgg4
  z4 := Tryd.sizeOf4
  v4 := Tryd.zeroValue4
  t22 := Tryd.underlying31
  a22 := Tryd.isAgg31
  z22 := Tryd.sizeOf31
  v22 := Tryd.zeroValue31
theorem cl8_any {w : World} {v : Value} {xs : List Value} (h : Reads1 w v xs) (hl : xs.length * 8 ≤ 140737488355328) (h1 : ∀ u ∈ xs, u.oneCell' = true) :
    Calls Tryd.prog 103 #[v] w fun e w' => ∃ v', e = .returned v' ∧ Own1 w' w.heap.size 94 v' xs ∧ Below w.heap.size w w' :=
  clone_reads cl8_lays (.int .i8 0) 1 info_cl8 rfl Tryd.sizeOf94 h (by omega) (by omega) h1

theorem info_clR : (Tryd.prog.info? 21).map (fun i => (i.zero, i.size, i.bytes)) = some (some (.int .i32 0), 1, 4) := by kernel_rfl
def clR_ren : Go.Shelf.Ren := ⟨fun | 41 => 42 | n => n, fun | 22 => 32 | 23 => 21 | 4 => 4 | n => n, fun n => n⟩
theorem clR_lays : SlLaysE0.n41 Tryd.prog clR_ren where
  mixed := by kernel_rfl
  f41 := ⟨"slices.Clone[[]rune,rune]", by decide, Tryd.func42.trans (congrArg some (by kernel_rfl))⟩
  t4 := Tryd.underlying4
  a4 := Tryd.isAgg4
  z4 := Tryd.sizeOf4
  v4 := Tryd.zeroValue4
  t22 := Tryd.underlying32
  a22 := Tryd.isAgg32
  z22 := Tryd.sizeOf32
  v22 := Tryd.zeroValue32
theorem clR_any {w : World} {v : Value} {xs : List Value} (h : Reads1 w v xs) (hl : xs.length * 8 ≤ 140737488355328) (h1 : ∀ u ∈ xs, u.oneCell' = true) :
    Calls Tryd.prog 42 #[v] w fun e w' => ∃ v', e = .returned v' ∧ Own1 w' w.heap.size 21 v' xs ∧ Below w.heap.size w w' :=
  clone_reads clR_lays (.int .i32 0) 4 info_clR rfl Tryd.sizeOf21 h (by omega) (by omega) h1

def clA_ren : Go.Shelf.Ren := ⟨fun | 41 => 43 | n => n, fun | 22 => 33 | 23 => 79 | 4 => 4 | n => n, fun n => n⟩
theorem clA_lays : SlLaysE0.n41 Tryd.prog clA_ren where
  mixed := by kernel_rfl
  f41 := ⟨"slices.Clone[[]rebus/vec.Array,rebus/vec.Array]", by decide, Tryd.func43.trans (congrArg some (by kernel_rfl))⟩
  t4 := Tryd.underlying4
  a4 := Tryd.isAgg4
  z4 := Tryd.sizeOf4
  v4 := Tryd.zeroValue4
  t22 := Tryd.underlying33
  a22 := Tryd.isAgg33
  z22 := Tryd.sizeOf33
  v22 := Tryd.zeroValue33
theorem clA_nil (c : Nat) (w : World) : Calls Tryd.prog 43 #[.slice none 0 c] w fun e w' => e = .returned (.slice none 0 0) ∧ w' = w := AnyE.slices_Clone_nil clA_lays 0 c w

end Go.Proofs.YtdddmehchfnppaaDoor
