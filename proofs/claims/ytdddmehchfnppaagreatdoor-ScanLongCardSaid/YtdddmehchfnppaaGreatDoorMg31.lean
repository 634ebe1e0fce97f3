/- Merged texts. The walk of relate.table. Conditions: as each theorem says. Two Vecs that a function takes: their boxes; the walks of arith.Length and arith.at; which element goes with a place. Conditions: as each theorem says. The walk of arith.floats. Conditions: as each theorem says. -/
import Derived.Test.YtdddmehchfnppaaGreatDoorMg30
import Derived.Test.YtdddmehchfnppaaGreatDoorMg09
import Derived.Test.YtdddmehchfnppaaGreatDoorMg25
import Derived.Test.YtdddmehchfnppaaGreatDoorMg15
import Derived.Deep.RegionHeld3
import Derived.Deep.CutRange
namespace Go.Proofs.YtdddmehchfnppaaGreatDoor
open Go Go.RowKit Go.Proofs Fl

/-- does a relation hold of the two truths that a place of a table of four stands for? -/
def tbR (f : Int) (j : Nat) : Bool := relB f (fi ((j / 2 : Nat) : Int)) (fi ((j % 2 : Nat) : Int))

theorem or_core : ∀ T : Fin 16, ∀ k : Fin 4, bits BinOp.or IntKind.u8 (T.val : Int) (2 ^ k.val % 256) = ((T.val ||| 2 ^ k.val : Nat) : Int) := by decide +kernel

set_option maxRecDepth 100000 in
set_option maxHeartbeats 1000000 in
theorem rtable_any (f : Int) (hf : 11 ≤ f) (hf2 : f ≤ 16) (w : World) :
    Calls Tryz.prog 98 #[.int .i64 f] w fun e w' => ∃ t : Nat, e = .returned (.int .u8 (t : Int)) ∧ (t < 16 ∧ ∀ j, j < 4 → t.testBit j = tbR f j) ∧ w = w' := by
  have HONE := Lib.hid (fun k (hk : k < 4) W => relate_any f hf hf2 (fi ((k / 2 : Nat) : Int)) (fi ((k % 2 : Nat) : Int)) (tf_fi ⟨by omega, by omega⟩) (tf_fi ⟨by omega, by omega⟩) W)
  clear hf hf2
  go_enter Tryz.func98, Tryz.ntmps98
  go_wp2
  go_loop [3, 7] (fun t i => ∃ k T : Nat, k ≤ 4 ∧ i = .int .i64 k ∧ t = .int .u8 (T : Int) ∧ T < 2 ^ k ∧ ∀ j, j < k → T.testBit j = tbR f j) (fun _ i => 4 - (intOf i).toNat)
  case atStart => exact ⟨0, 0, by omega, rfl, rfl, by decide, fun j hj => absurd hj (Nat.not_lt_zero _)⟩
  case round =>
    obtain ⟨k, T, hk, rfl, rfl, hT, hb⟩ := hrel
    have HT := Lib.hid hT
    have HB := Lib.hid hb
    clear hT hb
    by_cases hlt : k < 4
    · have HO := Lib.hid (HONE.out k hlt)
      have e1 : bits .and .i64 (k : Int) 1 = ((k % 2 : Nat) : Int) := and_one_i64 k (by omega)
      have hlt2 : (k : Int) < 4 := by omega
      have HTB : Hid (tbR f k = relB f (fi ((k / 2 : Nat) : Int)) (fi ((k % 2 : Nat) : Int))) := rfl
      generalize relB f (fi ((k / 2 : Nat) : Int)) (fi ((k % 2 : Nat) : Int)) = tt at *
      go_wp2_with fail
      refine (HO.out _).mono ?_
      rintro e w' ⟨rfl, rfl⟩
      have hk3 : 2 ^ k ≤ 8 := by
        have := Nat.pow_le_pow_right (n := 2) (by decide) (show k ≤ 3 by omega)
        exact this
      have HOR : Hid (bits BinOp.or IntKind.u8 (T : Int) (2 ^ k % 256) = ((T ||| 2 ^ k : Nat) : Int)) := or_core ⟨T, by have := HT.out; omega⟩ ⟨k, hlt⟩
      have hp : (2 : Nat) ^ (k + 1) = 2 ^ k * 2 := Nat.pow_succ 2 k
      have HP := Lib.hid hp
      clear hp
      cases tt with
      | true =>
        have HN1 : Hid (T ||| 2 ^ k < 2 ^ (k + 1)) := Nat.or_lt_two_pow (by have := HT.out; have := HP.out; omega) (by have := HP.out; have := Nat.two_pow_pos k; omega)
        have HN2 : Hid (∀ j, j < k + 1 → (T ||| 2 ^ k).testBit j = tbR f j) := fun j hj => by
          rw [Nat.testBit_or, Nat.testBit_two_pow]
          by_cases e : j = k
          · subst e
            rw [HTB.out]
            simp
          · rw [HB.out j (by omega)]
            have : ¬ k = j := fun h => e h.symm
            simp [this]
        clear hk3
        go_wp2
        rw [HOR.out]
        go_round
        case rel => exact ⟨k + 1, T ||| 2 ^ k, by omega, by go_num, rfl, HN1.out, HN2.out⟩
        case measure => simp [intOf]; omega
      | false =>
        have HN1 : Hid (T < 2 ^ (k + 1)) := by have := HT.out; have := HP.out; show T < _; omega
        have HN2 : Hid (∀ j, j < k + 1 → T.testBit j = tbR f j) := fun j hj => by
          by_cases e : j = k
          · subst e
            rw [HTB.out]
            exact Nat.testBit_lt_two_pow HT.out
          · exact HB.out j (by omega)
        clear hk3
        go_wp2
        go_round
        case rel => exact ⟨k + 1, T, by omega, by go_num, rfl, HN1.out, HN2.out⟩
        case measure => simp [intOf]; omega
    · obtain rfl : k = 4 := by omega
      go_wp2
      go_ret
      exact ⟨T, rfl, ⟨HT.out, HB.out⟩, rfl⟩
end Go.Proofs.YtdddmehchfnppaaGreatDoor
namespace Go.Proofs.YtdddmehchfnppaaGreatDoor
open Go Go.RowKit Go.Proofs Fl

/-- a Vec's eight cells, by their headers -/
structure V8 where
  k : Int
  b : Sl
  bn : Int
  s : Sl
  i : Sl
  f : Sl
  c : Sl
  x : Sl
/-- the Vec -/
abbrev V8.v (p : V8) : Value := vecW p.k p.b p.bn p.s p.i p.f p.c p.x
/-- a block holds the Vec -/
abbrev BoxP (W : World) (G : Nat) (p : V8) : Prop := Boxed W G p.k (.slice p.b.1 p.b.2.1 p.b.2.2) p.bn (.slice p.s.1 p.s.2.1 p.s.2.2) (.slice p.i.1 p.i.2.1 p.i.2.2) (.slice p.f.1 p.f.2.1 p.f.2.2) (.slice p.c.1 p.c.2.1 p.c.2.2) (.slice p.x.1 p.x.2.1 p.x.2.2)
/-- the object that a box of it is -/
abbrev V8.o (p : V8) : Obj := .cells #[.int .i64 p.k, .slice p.b.1 p.b.2.1 p.b.2.2, .int .i64 p.bn, .slice p.s.1 p.s.2.1 p.s.2.2, .slice p.i.1 p.i.2.1 p.i.2.2, .slice p.f.1 p.f.2.1 p.f.2.2, .slice p.c.1 p.c.2.1 p.c.2.2, .slice p.x.1 p.x.2.1 p.x.2.2] 32
theorem boxP_new (w : World) (p : V8) : BoxP (w.alloc p.o) w.heap.size p := boxed_new w 32 _ _ _ _ _ _ _ _

/-- own blocks of a function that takes two Vecs and answers one: the boxes and the result's cells -/
structure St2 (w W : World) (p q : V8) : Prop where
  one : BoxP W w.heap.size p
  two : BoxP W (w.heap.size + 1) q
  res : W.heap[w.heap.size + 2]? = some (.cells zcells 32)
  bel : Below w.heap.size w W
theorem St2.step {w W W' : World} {p q : V8} (h : St2 w W p q) (hb : Below W.heap.size W W') : St2 w W' p q :=
  ⟨h.one.below hb, h.two.below hb, by rw [hb.block _ (boxed_of h.res).1.lt]; exact h.res, bel_both h.bel hb⟩
theorem St2.new (w : World) (p q : V8) : St2 w (((w.alloc p.o).alloc q.o).alloc (.cells zcells 32)) p q := by
  have h1 := boxP_new w p
  have h2 := boxP_new (w.alloc p.o) q
  have h3 := heap_alloc_new ((w.alloc p.o).alloc q.o) (.cells zcells 32)
  have e1 : (w.alloc p.o).heap.size = w.heap.size + 1 := by simp
  have e2 : ((w.alloc p.o).alloc q.o).heap.size = w.heap.size + 2 := by simp
  rw [e1] at h2
  rw [e2] at h3
  exact ⟨(h1.below (bel1 _ _)).below (bel1 _ _), h2.below (bel1 _ _), h3, bel_both (bel2 w _ _) (bel1 _ _)⟩
theorem St2.al {w W : World} {p q : V8} (h : St2 w W p q) (o : Obj) : St2 w (W.alloc o) p q := h.step (bel1 W o)
theorem St2.dr {w W : World} {p q : V8} (h : St2 w W p q) : St2 w W.drew p q := h.step (Below.refl _ W).drew
theorem St2.put {w W : World} {p q : V8} (h : St2 w W p q) {g j : Nat} (ha : w.heap.size + 3 ≤ g) (u : Value) : St2 w (W.setCell ⟨g, j, none⟩ u) p q :=
  ⟨h.one.set (by show g ≠ _; omega) u, h.two.set (by show g ≠ _; omega) u, by rw [Below.heap_setCell _ _ _ _ (by show _ ≠ g; omega)]; exact h.res, h.bel.setCell (by show _ ≤ g; omega) u⟩
theorem St2.sz {w W : World} {p q : V8} (h : St2 w W p q) : w.heap.size + 3 ≤ W.heap.size := (boxed_of h.res).1.lt
theorem St2.self {w W : World} {p q : V8} (h : St2 w W p q) : St2 w W p q := h
theorem St2.more {w W W' : World} {p q : V8} (h : St2 w W p q) (hb : Below (w.heap.size + 3) W W') : St2 w W' p q :=
  ⟨h.one.of fun j => hb.cell (p := ⟨w.heap.size, j, none⟩) (by show w.heap.size < _; omega), h.two.of fun j => hb.cell (p := ⟨w.heap.size + 1, j, none⟩) (by show w.heap.size + 1 < _; omega), by rw [hb.block _ (by omega)]; exact h.res, h.bel.trans (hb.mono (by omega))⟩

/-- how many elements come of lists of two lengths -/
def lenP (m n : Nat) : Option Nat := if m = n then some m else if m = 1 then some n else if n = 1 then some m else none
/-- which element goes with a place -/
def ixP (m i : Nat) : Nat := if m = 1 then 0 else i
theorem ixP_lt {m n N i : Nat} (h : lenP m n = some N) (hi : i < N) : ixP m i < m ∧ ixP n i < n := by
  unfold lenP at h
  unfold ixP
  split at h
  · injection h with h; constructor <;> split <;> omega
  · split at h
    · injection h with h; constructor <;> split <;> omega
    · split at h
      · injection h with h; constructor <;> split <;> omega
      · cases h
theorem lenP_le {m n N B : Nat} (h : lenP m n = some N) (hm : m ≤ B) (hn : n ≤ B) : N ≤ B := by
  unfold lenP at h
  split at h
  · injection h with h; omega
  · split at h
    · injection h with h; omega
    · split at h
      · injection h with h; omega
      · cases h
theorem lenP_comm (m n : Nat) : lenP m n = lenP n m := by
  unfold lenP
  by_cases h1 : m = n
  · subst h1; rfl
  · have h1' : ¬ n = m := fun e => h1 e.symm
    simp only [if_neg h1, if_neg h1']
    split <;> split <;> first | rfl | omega | (congr 1; omega)

set_option maxHeartbeats 400000 in
theorem length_any (m n : Nat) (w : World) : Calls Tryz.prog 92 #[.int .i64 (m : Int), .int .i64 (n : Int)] w fun e w' => e = .returned (.tuple #[.int .i64 ((lenP m n).getD 0 : Nat), .bool (lenP m n).isSome]) ∧ w = w' := by
  by_cases h1 : m = n
  · subst h1
    have e : lenP m m = some m := if_pos rfl
    rw [e]
    go_enter Tryz.func92, Tryz.ntmps92
    go_wp2
    go_ret2
    exact ⟨rfl, rfl⟩
  · have f1 : ((m : Int) == (n : Int)) = false := by simp; omega
    by_cases h2 : m = 1
    · have e : lenP m n = some n := by unfold lenP; rw [if_neg h1, if_pos h2]
      rw [e]
      have f2 : ((m : Int) == 1) = true := by simp; omega
      clear h1 h2
      go_enter Tryz.func92, Tryz.ntmps92
      go_wp2
      go_ret2
      exact ⟨rfl, rfl⟩
    · have f2 : ((m : Int) == 1) = false := by simp; omega
      by_cases h3 : n = 1
      · have e : lenP m n = some m := by unfold lenP; rw [if_neg h1, if_neg h2, if_pos h3]
        rw [e]
        have f3 : ((n : Int) == 1) = true := by simp; omega
        clear h1 h2 h3
        go_enter Tryz.func92, Tryz.ntmps92
        go_wp2
        go_ret2
        exact ⟨rfl, rfl⟩
      · have e : lenP m n = none := by unfold lenP; rw [if_neg h1, if_neg h2, if_neg h3]
        rw [e]
        have f3 : ((n : Int) == 1) = false := by simp; omega
        clear h1 h2 h3
        go_enter Tryz.func92, Tryz.ntmps92
        go_wp2
        go_ret2
        exact ⟨rfl, rfl⟩

set_option maxHeartbeats 400000 in
theorem at_any (p : V8) (m i : Nat) (w : World) (hL : ∀ W, Below w.heap.size w W → Calls Tryz.prog 39 #[p.v] W fun e w2 => e = .returned (.int .i64 (m : Nat)) ∧ Below W.heap.size W w2) :
    Calls Tryz.prog 121 #[p.v, .int .i64 (i : Int)] w fun e w' => e = .returned (.int .i64 (ixP m i : Nat)) ∧ Below w.heap.size w w' := by
  have HL := Lib.hid hL
  clear hL
  by_cases h : m = 1
  · have HX : Hid (ixP m i = 0) := if_pos h
    have e1 : ((m : Int) == 1) = true := by simp; omega
    clear h
    go_enter Tryz.func121, Tryz.ntmps121
    go_wp2_with fail
    refine (HL.out _ (bel1 w _)).mono ?_
    rintro e w1 ⟨rfl, hb1⟩
    have HB := Lib.hid (bel_both (bel1 w _) hb1)
    clear hb1
    go_wp2
    go_ret
    exact ⟨by rw [HX.out]; rfl, HB.out⟩
  · have HX : Hid (ixP m i = i) := if_neg h
    have e1 : ((m : Int) == 1) = false := by simp; omega
    clear h
    go_enter Tryz.func121, Tryz.ntmps121
    go_wp2_with fail
    refine (HL.out _ (bel1 w _)).mono ?_
    rintro e w1 ⟨rfl, hb1⟩
    have HB := Lib.hid (bel_both (bel1 w _) hb1)
    clear hb1
    go_wp2
    go_ret
    exact ⟨by rw [HX.out]; rfl, HB.out⟩
end Go.Proofs.YtdddmehchfnppaaGreatDoor
namespace Go.Proofs.YtdddmehchfnppaaGreatDoor
open Go Go.RowKit Go.Proofs Fl

/-- what a function of two lists, element by element, tells -/
def ArOut (H : Nat → Prop) (w : World) (R : Nat → Nat × Int) (N : Nat) (e : Ending) (w' : World) : Prop :=
  ((∀ c, c < N → (R c).2 = 0) ∧ VecOk H w (fun u W => NumV u (leastF (fun c => (R c).1) N : Nat) N (fun c => (R c).1) W) e w') ∨
  ((∃ c, c < N ∧ (R c).2 ≠ 0) ∧ e = .returned (.tuple #[vecV 0 vnil 0 vnil vnil vnil vnil vnil, .int .i64 24]) ∧ Below w.heap.size w w')

/-- the two boxes, and the row that is being filled -/
structure Ar2 (w : World) (p q : V8) (e : TypeId) (f : Nat → Value) (z : Value) (N c : Nat) (W : World) : Prop where
  st : St2 w W p q
  fill : Fill W (w.heap.size + 3) (w.heap.size + 3) e f z N c
theorem Ar2.step {w W W' : World} {p q : V8} {e : TypeId} {f : Nat → Value} {z : Value} {N c : Nat} (h : Ar2 w p q e f z N c W) (hb : Below W.heap.size W W') : Ar2 w p q e f z N c W' := ⟨h.st.step hb, h.fill.below hb⟩
theorem Ar2.dr {w W : World} {p q : V8} {e : TypeId} {f : Nat → Value} {z : Value} {N c : Nat} (h : Ar2 w p q e f z N c W) : Ar2 w p q e f z N c W.drew := h.step (Below.refl _ W).drew
theorem Ar2.self {w W : World} {p q : V8} {e : TypeId} {f : Nat → Value} {z : Value} {N c : Nat} (h : Ar2 w p q e f z N c W) : Ar2 w p q e f z N c W := h
theorem ar2_s {w W : World} {p q : V8} {e : TypeId} {f : Nat → Value} {z : Value} {N c : Nat} (h : Ar2 w p q e f z N c W) : ((W.cell? ⟨w.heap.size, 0, none⟩ = some (.int .i64 p.k) ∧ W.cell? ⟨w.heap.size, 1, none⟩ = some (.slice p.b.1 p.b.2.1 p.b.2.2) ∧ W.cell? ⟨w.heap.size, 2, none⟩ = some (.int .i64 p.bn) ∧ W.cell? ⟨w.heap.size, 3, none⟩ = some (.slice p.s.1 p.s.2.1 p.s.2.2) ∧ W.cell? ⟨w.heap.size, 4, none⟩ = some (.slice p.i.1 p.i.2.1 p.i.2.2) ∧ W.cell? ⟨w.heap.size, 5, none⟩ = some (.slice p.f.1 p.f.2.1 p.f.2.2) ∧ W.cell? ⟨w.heap.size, 6, none⟩ = some (.slice p.c.1 p.c.2.1 p.c.2.2) ∧ W.cell? ⟨w.heap.size, 7, none⟩ = some (.slice p.x.1 p.x.2.1 p.x.2.2)) ∧ (W.cell? ⟨w.heap.size + 1, 0, none⟩ = some (.int .i64 q.k) ∧ W.cell? ⟨w.heap.size + 1, 1, none⟩ = some (.slice q.b.1 q.b.2.1 q.b.2.2) ∧ W.cell? ⟨w.heap.size + 1, 2, none⟩ = some (.int .i64 q.bn) ∧ W.cell? ⟨w.heap.size + 1, 3, none⟩ = some (.slice q.s.1 q.s.2.1 q.s.2.2) ∧ W.cell? ⟨w.heap.size + 1, 4, none⟩ = some (.slice q.i.1 q.i.2.1 q.i.2.2) ∧ W.cell? ⟨w.heap.size + 1, 5, none⟩ = some (.slice q.f.1 q.f.2.1 q.f.2.2) ∧ W.cell? ⟨w.heap.size + 1, 6, none⟩ = some (.slice q.c.1 q.c.2.1 q.c.2.2) ∧ W.cell? ⟨w.heap.size + 1, 7, none⟩ = some (.slice q.x.1 q.x.2.1 q.x.2.2))) ∧ Ar2 w p q e f z N c W := ⟨⟨h.st.one, h.st.two⟩, h⟩
theorem Ar2.new (w : World) (p q : V8) (e : TypeId) (f : Nat → Value) (z : Value) (N : Nat) (hN : N ≤ maxLen) : Ar2 w p q e f z N 0 ((((w.alloc p.o).alloc q.o).alloc (.cells zcells 32)).alloc (.cells (madeCells #[z] N) e)) := by
  have h := Fill.made (((w.alloc p.o).alloc q.o).alloc (.cells zcells 32)) (w.heap.size + 3) (by simp) e f z N hN
  have e3 : (((w.alloc p.o).alloc q.o).alloc (.cells zcells 32)).heap.size = w.heap.size + 3 := by simp
  rw [e3] at h
  exact ⟨(St2.new w p q).al _, h⟩
theorem Ar2.put {w W : World} {p q : V8} {e : TypeId} {f : Nat → Value} {z : Value} {N c : Nat} (h : Ar2 w p q e f z N c W) (hc : c < N) : Ar2 w p q e f z N (c + 1) (W.setCell ⟨w.heap.size + 3, c, none⟩ (f c)) :=
  ⟨h.st.put (Nat.le_refl _) _, h.fill.put hc⟩
/-- behind the region: the outcome of one element -/
def ArMid (w : World) (p q : V8) (e : TypeId) (f : Nat → Value) (z : Value) (N c : Nat) (y : Nat) (E : Int) (x er : Value) (W : World) : Prop := x = .float .f64 y ∧ er = .int .i64 E ∧ Ar2 w p q e f z N c W
theorem arMid_of {w W : World} {p q : V8} {e : TypeId} {f : Nat → Value} {z : Value} {N c y : Nat} {E : Int} (h : Ar2 w p q e f z N c W) : ArMid w p q e f z N c y E (.float .f64 y) (.int .i64 E) W := ⟨rfl, rfl, h⟩

set_option maxRecDepth 100000 in
set_option maxHeartbeats 4000000 in
theorem afloats_any (H : Nat → Prop) (f : Int) (R : Nat → Nat × Int) (p q : V8) (m n N : Nat) (F G : Nat → Nat) (w : World) (hH : ∀ b, H b → b < w.heap.size) (hL : lenP m n = some N) (hm : m ≤ 1000000) (hn : n ≤ 1000000)
    (hP : ∀ W, Below w.heap.size w W → NumW p.v m F W) (hQ : ∀ W, Below w.heap.size w W → NumW q.v n G W)
    (hone : ∀ c, c < N → ∀ W, Calls Tryz.prog 42 #[.int .i64 f, .float .f64 (F (ixP m c)), .float .f64 (G (ixP n c))] W fun e w' => e = .returned (.tuple #[.float .f64 (R c).1, .int .i64 (R c).2]) ∧ W = w')
    (hR : ∀ c, c < N → ∃ y E, R c = (y, E) ∧ ((TF y ∧ E = 0) ∨ (y = 0 ∧ E = 24))) :
    Calls Tryz.prog 94 #[.int .i64 f, .int .i64 (N : Int), p.v, q.v] w (ArOut H w R N) := by
  have hNb : N ≤ 1000000 := lenP_le hL hm hn
  have HP := Lib.hid hP
  have HQ := Lib.hid hQ
  have HONE := Lib.hid hone
  have HR := Lib.hid hR
  have HH := Lib.hid hH
  have HIX := Lib.hid (fun c (hc : c < N) => ixP_lt hL hc)
  have hmk := run_make_row' (P := Tryz.prog) 22 47 (.float .f64 0) 8 Tryz.underlying22 info_f64 rfl .i64 .i64 N (by omega) (by omega)
  obtain ⟨ff, hff⟩ : ∃ ff : Nat → Value, ff = fun c => .float .f64 (R c).1 := ⟨_, rfl⟩
  have HFF : Hid (∀ c, ff c = .float .f64 (R c).1) := fun c => by rw [hff]
  clear hff
  have HA0 := Lib.hid (Ar2.new w p q 47 ff (.float .f64 0) N (by unfold maxLen; omega))
  clear hP hQ hone hR hH hL
  go_enter Tryz.func94, Tryz.ntmps94
  go_wp2
  go_loopw [20] (fun j wr => ∃ c : Nat, c ≤ N ∧ j = .int .i64 c ∧ Ar2 w p q 47 ff (.float .f64 0) N c wr ∧ ∀ cc, cc < c → (R cc).2 = 0) (fun j _ => N - (intOf j).toNat)
  case atStart => exact ⟨0, Nat.zero_le _, rfl, HA0.out, fun cc h => absurd h (Nat.not_lt_zero _)⟩
  case round =>
    clear HA0
    obtain ⟨c, hc, rfl, har, hall⟩ := hrel
    have HAR := Lib.hid har
    have HALL := Lib.hid hall
    clear har hall
    by_cases hlt : c < N
    · obtain ⟨hi1, hi2⟩ := HIX.out c hlt
      have HAP := Lib.hid (fun W (hs : Ar2 w p q 47 ff (.float .f64 0) N c W) => at_any p m c W (fun W' hb => (HP.out W' (bel_both hs.st.bel hb)).len))
      have HAQ := Lib.hid (fun W (hs : Ar2 w p q 47 ff (.float .f64 0) N c W) => at_any q n c W (fun W' hb => (HQ.out W' (bel_both hs.st.bel hb)).len))
      have HNP := Lib.hid (fun W (hs : Ar2 w p q 47 ff (.float .f64 0) N c W) => (HP.out W hs.st.bel).num (ixP m c) hi1)
      have HNQ := Lib.hid (fun W (hs : Ar2 w p q 47 ff (.float .f64 0) N c W) => (HQ.out W hs.st.bel).num (ixP n c) hi2)
      obtain ⟨y, E, hrc, hcase⟩ := HR.out c hlt
      have HO : Hid (∀ W, Calls Tryz.prog 42 #[.int .i64 f, .float .f64 (F (ixP m c)), .float .f64 (G (ixP n c))] W fun e w' => e = .returned (.tuple #[.float .f64 y, .int .i64 E]) ∧ W = w') := by
        have h := HONE.out c hlt
        rw [hrc] at h
        exact h
      have HRC := Lib.hid hrc
      have HCASE := Lib.hid hcase
      have HFC : Hid (ff c = .float .f64 y) := by
        show _ = _
        rw [HFF.out, HRC.out]
      clear hrc hcase hi1 hi2
      generalize F (ixP m c) = xa at *
      generalize G (ixP n c) = xb at *
      generalize ixP m c = ia at *
      generalize ixP n c = ib at *
      go_wp2_with fail
      go_cut [12, 13] from 23 to 46 (fun x er wx => ArMid w p q 47 ff (.float .f64 0) N c y E x er wx)
      case first =>
        have hs0 := HAR.out.dr
        have hs00 := HAR.out
        go_region_held3 (fun W => ((W.cell? ⟨w.heap.size, 0, none⟩ = some (.int .i64 p.k) ∧ W.cell? ⟨w.heap.size, 1, none⟩ = some (.slice p.b.1 p.b.2.1 p.b.2.2) ∧ W.cell? ⟨w.heap.size, 2, none⟩ = some (.int .i64 p.bn) ∧ W.cell? ⟨w.heap.size, 3, none⟩ = some (.slice p.s.1 p.s.2.1 p.s.2.2) ∧ W.cell? ⟨w.heap.size, 4, none⟩ = some (.slice p.i.1 p.i.2.1 p.i.2.2) ∧ W.cell? ⟨w.heap.size, 5, none⟩ = some (.slice p.f.1 p.f.2.1 p.f.2.2) ∧ W.cell? ⟨w.heap.size, 6, none⟩ = some (.slice p.c.1 p.c.2.1 p.c.2.2) ∧ W.cell? ⟨w.heap.size, 7, none⟩ = some (.slice p.x.1 p.x.2.1 p.x.2.2)) ∧ (W.cell? ⟨w.heap.size + 1, 0, none⟩ = some (.int .i64 q.k) ∧ W.cell? ⟨w.heap.size + 1, 1, none⟩ = some (.slice q.b.1 q.b.2.1 q.b.2.2) ∧ W.cell? ⟨w.heap.size + 1, 2, none⟩ = some (.int .i64 q.bn) ∧ W.cell? ⟨w.heap.size + 1, 3, none⟩ = some (.slice q.s.1 q.s.2.1 q.s.2.2) ∧ W.cell? ⟨w.heap.size + 1, 4, none⟩ = some (.slice q.i.1 q.i.2.1 q.i.2.2) ∧ W.cell? ⟨w.heap.size + 1, 5, none⟩ = some (.slice q.f.1 q.f.2.1 q.f.2.2) ∧ W.cell? ⟨w.heap.size + 1, 6, none⟩ = some (.slice q.c.1 q.c.2.1 q.c.2.2) ∧ W.cell? ⟨w.heap.size + 1, 7, none⟩ = some (.slice q.x.1 q.x.2.1 q.x.2.2))) ∧ Ar2 w p q 47 ff (.float .f64 0) N c W)
          (first | (with_reducible assumption) | (with_reducible (refine ar2_s ?_); repeat (first | (with_reducible assumption) | (with_reducible refine Ar2.dr ?_))))
          (first
            | (go_at_call 42; (with_reducible refine (HO.out _).mono ?_); rintro e w5 ⟨rfl, rfl⟩)
            | (go_at_call 121; (with_reducible refine (HAP.out _ ?_).mono ?_); exact Ar2.self (by repeat (first | (with_reducible assumption) | (with_reducible refine Ar2.dr ?_))); rintro e w1 ⟨rfl, hb1⟩; obtain ⟨hc1, hf1⟩ := bcell2 hb1; have hz1 := hb1.size; have hst1 : Ar2 w p q 47 ff (.float .f64 0) N c w1 := Ar2.step (by repeat (first | (with_reducible assumption) | (with_reducible refine Ar2.dr ?_))) hb1; clear hb1)
            | (go_at_call 121; (with_reducible refine (HAQ.out _ ?_).mono ?_); exact Ar2.self (by repeat (first | (with_reducible assumption) | (with_reducible refine Ar2.dr ?_))); rintro e w2 ⟨rfl, hb2⟩; obtain ⟨hc2, hf2⟩ := bcell2 hb2; have hz2 := hb2.size; have hst2 : Ar2 w p q 47 ff (.float .f64 0) N c w2 := Ar2.step (by repeat (first | (with_reducible assumption) | (with_reducible refine Ar2.dr ?_))) hb2; clear hb2)
            | (go_at_call 28; (with_reducible refine (HNP.out _ ?_).mono ?_); exact Ar2.self (by repeat (first | (with_reducible assumption) | (with_reducible refine Ar2.dr ?_))); rintro e w3 ⟨rfl, hb3⟩; obtain ⟨hc3, hf3⟩ := bcell2 hb3; have hz3 := hb3.size; have hst3 : Ar2 w p q 47 ff (.float .f64 0) N c w3 := Ar2.step (by repeat (first | (with_reducible assumption) | (with_reducible refine Ar2.dr ?_))) hb3; clear hb3)
            | (go_at_call 28; (with_reducible refine (HNQ.out _ ?_).mono ?_); exact Ar2.self (by repeat (first | (with_reducible assumption) | (with_reducible refine Ar2.dr ?_))); rintro e w4 ⟨rfl, hb4⟩; obtain ⟨hc4, hf4⟩ := bcell2 hb4; have hz4 := hb4.size; have hst4 : Ar2 w p q 47 ff (.float .f64 0) N c w4 := Ar2.step (by repeat (first | (with_reducible assumption) | (with_reducible refine Ar2.dr ?_))) hb4; clear hb4))
        all_goals
          go_wp2
          go_meet
          first
            | (with_reducible exact arMid_of hst4)
            | (with_reducible exact arMid_of hst3)
            | (with_reducible exact arMid_of hst2)
            | (with_reducible exact arMid_of hst1)
      case rest =>
        obtain ⟨rfl, rfl, har⟩ := hcut
        have HAR2 := Lib.hid har
        clear har HAR HAP HAQ HNP HNQ HO
        rcases HCASE.out with ⟨htf, rfl⟩ | ⟨rfl, rfl⟩
        · have hc3 := HAR2.out.fill.cell hlt
          have hz3 := HAR2.out.fill.frozen c
          have hst := fun md => store_float hc3 hz3 .f64 y md
          have HPUT : Hid (Ar2 w p q 47 ff (.float .f64 0) N (c + 1) (wc.setCell ⟨w.heap.size + 3, c, none⟩ (.float .f64 y))) := by
            have h := HAR2.out.put hlt
            rw [HFC.out] at h
            exact h
          have HALL2 : Hid (∀ cc, cc < c + 1 → (R cc).2 = 0) := fun cc hcc => by
            by_cases e : cc = c
            · rw [e, HRC.out]
            · exact HALL.out cc (by omega)
          clear htf
          go_wp2
          go_roundw
          case rel => exact ⟨c + 1, by omega, by go_num, HPUT.out, HALL2.out⟩
          case measure => simp [intOf]; omega
        · have HBAD : Hid (∃ c, c < N ∧ (R c).2 ≠ 0) := ⟨c, hlt, by rw [HRC.out]; decide⟩
          obtain ⟨⟨h0, h1, h2, h3, h4, h5, h6, h7⟩, hz⟩ := boxed_of HAR2.out.st.res
          go_wp2
          refine bodyPost_ret (v := .tuple #[vecV 0 vnil 0 vnil vnil vnil vnil vnil, .int .i64 24]) ?_ rfl (.inr ⟨HBAD.out, rfl, below_set8 HAR2.out.st.bel (by omega) _ _ _ _ _ _ _ _⟩)
          exact ret_vec2 (fn := Tryz.f94) (p := 8) (u := 9) rfl _ _ (w.heap.size + 2) (by rfl) (set8_block HAR2.out.st.res _ _ _ _ _ _ _ _)
    · obtain rfl : c = N := by omega
      have HTFO : Hid (∀ j, j < c → TF (R j).1) := fun j hj => by
        obtain ⟨y, E, hrc, hcase⟩ := HR.out j hj
        have h0 := HALL.out j hj
        rw [hrc] at h0 ⊢
        rcases hcase with ⟨h, _⟩ | ⟨_, h⟩
        · exact h
        · rw [h] at h0; cases h0
      have HRD : Hid (Reads1 wr (.slice (some ⟨w.heap.size + 3, 0, none⟩) c c) ((List.range c).map fun j => .float .f64 (R j).1)) := by
        have h := HAR.out.fill.own.reads
        have e : (List.range c).map ff = (List.range c).map fun j => .float .f64 (R j).1 := List.map_congr_left fun j _ => HFF.out j
        rw [e] at h
        exact h
      have HNUMS := Lib.hid (numbers_any (fun j => H j ∨ j = w.heap.size + 2) _ c (fun c => (R c).1) wr (fun j e => by
        have h1 := HAR.out.st.sz
        rcases e with e | e
        · have := HH.out j e; omega
        · omega) HRD.out hNb HTFO.out)
      go_wp2_with fail
      refine HNUMS.out.mono ?_
      rintro e w5 ⟨k5, b5, bn5, s5, i5, f5, c5, x5, rfl, hk5, hb5⟩
      have HS5 := Lib.hid (HAR.out.st.step hb5)
      have HK5 := Lib.hid hk5
      clear hb5 hk5
      have z5 : w.heap.size < w5.heap.size := HS5.out.one.lt
      have z5' : w.heap.size + 2 < w5.heap.size := HS5.out.sz
      have HKE := Lib.hid ((HK5.out.set8 (.inr rfl) (.int .i64 k5) (.slice b5.1 b5.2.1 b5.2.2) (.int .i64 bn5) (.slice s5.1 s5.2.1 s5.2.2) (.slice i5.1 i5.2.1 i5.2.2) (.slice f5.1 f5.2.1 f5.2.2) (.slice c5.1 c5.2.1 c5.2.2) (.slice x5.1 x5.2.1 x5.2.2)).sub (H' := H) fun _ _ e => .inl e)
      have HBE := Lib.hid (below_set8 HS5.out.bel (Nat.le_add_right _ 2) (.int .i64 k5) (.slice b5.1 b5.2.1 b5.2.2) (.int .i64 bn5) (.slice s5.1 s5.2.1 s5.2.2) (.slice i5.1 i5.2.1 i5.2.2) (.slice f5.1 f5.2.1 f5.2.2) (.slice c5.1 c5.2.1 c5.2.2) (.slice x5.1 x5.2.1 x5.2.2))
      have HRE := Lib.hid (set8_block HS5.out.res (.int .i64 k5) (.slice b5.1 b5.2.1 b5.2.2) (.int .i64 bn5) (.slice s5.1 s5.2.1 s5.2.2) (.slice i5.1 i5.2.1 i5.2.2) (.slice f5.1 f5.2.1 f5.2.2) (.slice c5.1 c5.2.1 c5.2.2) (.slice x5.1 x5.2.1 x5.2.2))
      obtain ⟨⟨h0, h1, h2, h3, h4, h5, h6, h7⟩, hz⟩ := boxed_of HS5.out.res
      go_wp2
      refine bodyPost_ret (v := .tuple #[vecW k5 b5 bn5 s5 i5 f5 c5 x5, .int .i64 0]) ?_ rfl (.inl ⟨HALL.out, k5, b5, bn5, s5, i5, f5, c5, x5, rfl, HKE.out.step (bel1 _ _), bel_both HBE.out (bel1 _ _)⟩)
      exact ret_vec2 (fn := Tryz.f94) (p := 8) (u := 9) rfl _ _ (w.heap.size + 2) (by rfl) ((Below.heap_alloc _ _ _ (lt_of_block HRE.out)).trans HRE.out)
end Go.Proofs.YtdddmehchfnppaaGreatDoor
