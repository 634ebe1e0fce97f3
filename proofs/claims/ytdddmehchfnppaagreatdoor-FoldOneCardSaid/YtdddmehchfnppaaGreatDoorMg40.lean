/- Merged texts. The walk of the statement FoldRows. Conditions: as each theorem says. The statement FoldRows, from what its parts tell. Conditions: as each theorem says. fold.Fold and the reference's Fold at numbers: both tell the same, whatever comes of it. Conditions: as each theorem says. A region that loads a Vec, calls, and puts the Vec that is told into a new variable, in whatever order. Conditions: as each theorem says. Two Vecs that a function takes: their boxes; the walks of arith.Length and arith.at; which element goes with a place. Conditions: as each theorem says. -/
import Derived.Test.YtdddmehchfnppaaGreatDoorMg36
import Derived.Test.YtdddmehchfnppaaGreatDoorMg38
import Derived.Test.YtdddmehchfnppaaGreatDoorMg39
import Derived.Test.YtdddmehchfnppaaGreatDoorMg29
import Derived.Test.YtdddmehchfnppaaGreatDoorMg10
namespace Go.Proofs.YtdddmehchfnppaaGreatDoor
open Go Go.RowKit Go.Proofs Fl

/-- how many elements lie along the axis, and how many there are in all -/
structure RowsN (n o r : Nat) (Q : Int) (T : Nat) : Prop where
  cs : (0 < o ∧ 0 < r ∧ ((n : Int) / (o : Int)) / (r : Int) = Q) ∨ (o = 0 ∧ Q = 0) ∨ (0 < o ∧ r = 0 ∧ Q = 0)
  q0 : 0 ≤ Q
  q1 : Q ≤ n
  t : T = Q.toNat * o * r
  tn : T ≤ n

/-- kept tells a Vec of numbers -/
def KeptOk (T : Nat) (G : Nat → Nat) (w : World) (e : Ending) (w' : World) : Prop :=
  ∃ (k : Int) (b : Sl) (bn : Int) (s i f g x : Sl), e = .returned (.tuple #[vecW k b bn s i f g x, .bool true]) ∧ (∀ W', Below w'.heap.size w' W' → NumV (vecW k b bn s i f g x) k T G W') ∧ Below w.heap.size w w'
/-- a Vec of numbers is told, in the least store where tight, and no trouble -/
def FoldOk (t : Prop) (N : Nat) (G : Nat → Nat) (w : World) (e : Ending) (w' : World) : Prop :=
  ∃ (k : Int) (b : Sl) (bn : Int) (s i f g x : Sl), e = .returned (.tuple #[vecW k b bn s i f g x, .int .i64 0]) ∧ (∀ W', Below w'.heap.size w' W' → NumV (vecW k b bn s i f g x) k N G W') ∧ (t ∨ k = (leastF G N : Nat)) ∧ Below w.heap.size w w'
/-- a trouble, and no Vec -/
def FoldErr (E : Int) (w : World) (e : Ending) (w' : World) : Prop := e = .returned (.tuple #[vecV 0 vnil 0 vnil vnil vnil vnil vnil, .int .i64 E]) ∧ Below w.heap.size w w'
def RowErr (E : Int) (w : World) (e : Ending) (w' : World) : Prop := e = .returned (.tuple #[.slice none 0 0, .int .i64 E]) ∧ Below w.heap.size w w'
def RowOk (N : Nat) (G : Nat → Nat) (w : World) (e : Ending) (w' : World) : Prop := ∃ v, e = .returned (.tuple #[v, .int .i64 0]) ∧ Reads1 w' v ((List.range N).map fun j => .float .f64 (G j)) ∧ Below w.heap.size w w'
def TidyOk (T : Nat) (G : Nat → Nat) (w : World) (e : Ending) (w' : World) : Prop := ∃ v, e = .returned (.tuple #[v, .bool true]) ∧ Reads1 w' v ((List.range T).map fun j => .float .f64 (G j)) ∧ Below w.heap.size w w'

end Go.Proofs.YtdddmehchfnppaaGreatDoor
namespace Go.Proofs.YtdddmehchfnppaaGreatDoor
open Go Go.RowKit Go.Proofs Fl

theorem rowOk_of {N : Nat} {r : Nat → Option Nat} {G : Nat → Nat} {w : World} (hall : ∀ c, c < N → r c = some (G c)) (e : Ending) (w' : World) (h : RfOut N r w e w') : RowOk N G w e w' := by
  rcases h with ⟨_, ⟨v, rfl, ho⟩, hb⟩ | ⟨⟨c, hc, h0⟩, _⟩
  · refine ⟨v, rfl, ?_, hb⟩
    have e1 : ((List.range N).map fun j => Value.float .f64 (getR r j)) = (List.range N).map fun j => .float .f64 (G j) := by
      apply List.map_congr_left
      intro j hj
      show Value.float .f64 ((r j).getD 0) = _
      rw [hall j (List.mem_range.1 hj)]
      rfl
    rw [← e1]
    exact ho.reads
  · rw [hall c hc] at h0; cases h0
theorem rowErr_of {N : Nat} {r : Nat → Option Nat} {w : World} (hbad : ∃ c, c < N ∧ r c = none) (e : Ending) (w' : World) (h : RfOut N r w e w') : RowErr 24 w e w' := by
  rcases h with ⟨hall, _, _⟩ | ⟨_, rfl, hb⟩
  · obtain ⟨c, hc, h0⟩ := hbad
    obtain ⟨y, hy⟩ := hall c hc
    rw [h0] at hy; cases hy
  · exact ⟨rfl, hb⟩

theorem vecOk_fold {t : Prop} {N : Nat} {G : Nat → Nat} {w : World} (e : Ending) (w' : World) (h : VecOk (fun _ => False) w (fun u W => NumV u (leastF G N : Nat) N G W) e w') : FoldOk t N G w e w' := by
  obtain ⟨k, b, bn, s, i, f, c, x, rfl, hk, hb⟩ := h
  have e1 := hk.now.kindEq
  refine ⟨k, b, bn, s, i, f, c, x, rfl, fun W' hW => ?_, .inr e1, hb⟩
  rw [e1]
  have := (hk.step hW).now
  rw [e1] at this
  exact this

/-- how many elements there are along the axis -/
theorem rowsN (n o r : Nat) : ∃ q T : Nat, RowsN n o r (q : Int) T ∧ T = o * q * r ∧ (q = 0 ∨ (0 < o ∧ 0 < r)) := by
  by_cases h : 0 < o ∧ 0 < r
  · have h1 : n / o / r * o * r ≤ n := by
      have a1 := Nat.div_mul_le_self (n / o) r
      have a2 := Nat.div_mul_le_self n o
      have a3 : n / o / r * o * r = n / o / r * r * o := by rw [Nat.mul_right_comm]
      rw [a3]
      exact Nat.le_trans (Nat.mul_le_mul_right _ a1) a2
    refine ⟨n / o / r, n / o / r * o * r, ⟨.inl ⟨h.1, h.2, by push_cast; rfl⟩, Int.natCast_nonneg _, ?_, by rw [Int.toNat_natCast], h1⟩, by rw [Nat.mul_comm o], .inr h⟩
    have b1 := Nat.div_le_self (n / o) r
    have b2 := Nat.div_le_self n o
    exact Int.ofNat_le.2 (Nat.le_trans b1 b2)
  · refine ⟨0, 0, ⟨?_, by omega, by omega, by simp, by omega⟩, by simp, .inl rfl⟩
    by_cases ho : o = 0
    · exact .inr (.inl ⟨ho, rfl⟩)
    · exact .inr (.inr ⟨by omega, by omega, rfl⟩)

end Go.Proofs.YtdddmehchfnppaaGreatDoor
namespace Go.Proofs.YtdddmehchfnppaaGreatDoor
open Go Go.RowKit Go.Proofs Fl

/-- a Vec of so many numbers, as one world has it -/
structure NumW (v : Value) (n : Nat) (F : Nat → Nat) (w : World) : Prop where
  cls : Calls Tryz.prog 31 #[v] w fun e w2 => e = .returned (.int .i64 0) ∧ Below w.heap.size w w2
  len : Calls Tryz.prog 39 #[v] w fun e w2 => e = .returned (.int .i64 n) ∧ Below w.heap.size w w2
  num : ∀ j, j < n → Calls Tryz.prog 28 #[v, .int .i64 (j : Nat)] w fun e w2 => e = .returned (.float .f64 (F j)) ∧ Below w.heap.size w w2
theorem NumV.numW {v : Value} {k : Int} {n : Nat} {F : Nat → Nat} {w : World} (h : NumV v k n F w) : NumW v n F w := ⟨h.cls, h.len, h.num⟩
theorem numW_zero (O : Nat → Nat) (w : World) : NumW (vecV 0 vnil 0 vnil vnil vnil vnil vnil) 0 O w :=
  ⟨class_0 _ _ _ _ _ _ _ w, len_0 _ _ _ _ _ _ _ w, fun _ hj => absurd hj (Nat.not_lt_zero _)⟩
theorem NumW.of {v : Value} {n : Nat} {F : Nat → Nat} {w : World} {H : Nat → Prop} (h : Keeps H w (NumW v n F)) : NumsOf w v n F :=
  ⟨fun _ hb => (h.step hb).now.cls, fun _ hb => (h.step hb).now.len, fun _ hb j hj => (h.step hb).now.num j hj⟩

/-- a Vec of numbers is told, in the least store where tight, and no trouble -/
def FoldOkH (H : Nat → Prop) (t : Prop) (N : Nat) (G : Nat → Nat) (w : World) (e : Ending) (w' : World) : Prop :=
  ∃ (k : Int) (b : Sl) (bn : Int) (s i f g x : Sl), e = .returned (.tuple #[vecW k b bn s i f g x, .int .i64 0]) ∧ Keeps H w' (NumV (vecW k b bn s i f g x) k N G) ∧ (t ∨ k = (leastF G N : Nat)) ∧ Below w.heap.size w w'
theorem vecOk_foldH {H : Nat → Prop} {t : Prop} {N : Nat} {G : Nat → Nat} {w : World} (e : Ending) (w' : World) (h : VecOk H w (fun u W => NumV u (leastF G N : Nat) N G W) e w') : FoldOkH H t N G w e w' := by
  obtain ⟨k, b, bn, s, i, f, c, x, rfl, hk, hb⟩ := h
  have e1 := hk.now.kindEq
  refine ⟨k, b, bn, s, i, f, c, x, rfl, hk.imp fun W' h => ?_, .inr e1, hb⟩
  rw [← e1] at h
  exact h
/-- a Vec whose numbers can be asked for, and a trouble's number -/
def AnyFold (H : Nat → Prop) (N : Nat) (O : Nat → Nat) (E : Int) (w : World) (e : Ending) (w' : World) : Prop :=
  ∃ (k : Int) (b : Sl) (bn : Int) (s i f g x : Sl), e = .returned (.tuple #[vecW k b bn s i f g x, .int .i64 E]) ∧ Keeps H w' (NumW (vecW k b bn s i f g x) N O) ∧ Below w.heap.size w w'
def AnyRow (N : Nat) (O : Nat → Nat) (E : Int) (w : World) (e : Ending) (w' : World) : Prop := ∃ v, e = .returned (.tuple #[v, .int .i64 E]) ∧ Reads1 w' v ((List.range N).map fun j => .float .f64 (O j)) ∧ Below w.heap.size w w'
theorem foldErr_any {H : Nat → Prop} {O : Nat → Nat} {E : Int} {w : World} (e : Ending) (w' : World) (h : FoldErr E w e w') : AnyFold H 0 O E w e w' := by
  obtain ⟨rfl, hb⟩ := h
  exact ⟨0, (none, 0, 0), 0, (none, 0, 0), (none, 0, 0), (none, 0, 0), (none, 0, 0), (none, 0, 0), rfl, fun W' _ _ => numW_zero O W', hb⟩
theorem rowErr_any {O : Nat → Nat} {E : Int} {w : World} (e : Ending) (w' : World) (h : RowErr E w e w') : AnyRow 0 O E w e w' := by
  obtain ⟨rfl, hb⟩ := h
  exact ⟨_, rfl, .inl ⟨none, 0, rfl, rfl⟩, hb⟩
theorem foldOk_any {H : Nat → Prop} {t : Prop} {N : Nat} {O : Nat → Nat} {w : World} (e : Ending) (w' : World) (h : FoldOkH H t N O w e w') : AnyFold H N O 0 w e w' := by
  obtain ⟨k, b, bn, s, i, f, g, x, rfl, hk, _, hb⟩ := h
  exact ⟨k, b, bn, s, i, f, g, x, rfl, hk.imp fun W' h => h.numW, hb⟩
theorem rowOk_any {N : Nat} {O : Nat → Nat} {w : World} (e : Ending) (w' : World) (h : RowOk N O w e w') : AnyRow N O 0 w e w' := h

end Go.Proofs.YtdddmehchfnppaaGreatDoor
namespace Go.Proofs.YtdddmehchfnppaaGreatDoor
open Go Go.RowKit Go.Proofs Fl

/-- the Vec that is loaded still lies in its block, and nothing older was written -/
structure LdS (w0 : World) (G : Nat) (k : Int) (b : Value) (bn : Int) (s i f c x : Value) (W : World) : Prop where
  box : Boxed W G k b bn s i f c x
  bel : Below w0.heap.size w0 W
  old : G < w0.heap.size
theorem LdS.new {w0 : World} {G : Nat} {k : Int} {b : Value} {bn : Int} {s i f c x : Value} (h : Boxed w0 G k b bn s i f c x) : LdS w0 G k b bn s i f c x w0 := ⟨h, Below.refl _ _, h.lt⟩
theorem LdS.step {w0 W W' : World} {G : Nat} {k : Int} {b : Value} {bn : Int} {s i f c x : Value} (h : LdS w0 G k b bn s i f c x W) (hb : Below W.heap.size W W') : LdS w0 G k b bn s i f c x W' := ⟨h.box.below hb, bel_both h.bel hb, h.old⟩
theorem LdS.al {w0 W : World} {G : Nat} {k : Int} {b : Value} {bn : Int} {s i f c x : Value} (h : LdS w0 G k b bn s i f c x W) (o : Obj) : LdS w0 G k b bn s i f c x (W.alloc o) := h.step (bel1 W o)
theorem LdS.dr {w0 W : World} {G : Nat} {k : Int} {b : Value} {bn : Int} {s i f c x : Value} (h : LdS w0 G k b bn s i f c x W) : LdS w0 G k b bn s i f c x W.drew := h.step (Below.refl _ W).drew
theorem LdS.put {w0 W : World} {G : Nat} {k : Int} {b : Value} {bn : Int} {s i f c x : Value} (h : LdS w0 G k b bn s i f c x W) {g j : Nat} (ha : w0.heap.size ≤ g) (u : Value) : LdS w0 G k b bn s i f c x (W.setCell ⟨g, j, none⟩ u) :=
  ⟨h.box.set (by show g ≠ _; have := h.old; omega) u, h.bel.setCell (by show _ ≤ g; omega) u, h.old⟩
theorem LdS.put8 {w0 W : World} {G : Nat} {k : Int} {b : Value} {bn : Int} {s i f c x : Value} (h : LdS w0 G k b bn s i f c x W) {g : Nat} (ha : w0.heap.size ≤ g) (a0 a1 a2 a3 a4 a5 a6 a7 : Value) : LdS w0 G k b bn s i f c x (set8 W g a0 a1 a2 a3 a4 a5 a6 a7) :=
  (((((((h.put ha _).put ha _).put ha _).put ha _).put ha _).put ha _).put ha _).put ha _
theorem LdS.self {w0 W : World} {G : Nat} {k : Int} {b : Value} {bn : Int} {s i f c x : Value} (h : LdS w0 G k b bn s i f c x W) : LdS w0 G k b bn s i f c x W := h
theorem LdS.sz {w0 W : World} {G : Nat} {k : Int} {b : Value} {bn : Int} {s i f c x : Value} (h : LdS w0 G k b bn s i f c x W) : w0.heap.size ≤ W.heap.size := h.bel.size
theorem ld_s {w0 W : World} {G : Nat} {k : Int} {b : Value} {bn : Int} {s i f c x : Value} (h : LdS w0 G k b bn s i f c x W) : (W.cell? ⟨G, 0, none⟩ = some (.int .i64 k) ∧ W.cell? ⟨G, 1, none⟩ = some b ∧ W.cell? ⟨G, 2, none⟩ = some (.int .i64 bn) ∧ W.cell? ⟨G, 3, none⟩ = some s ∧ W.cell? ⟨G, 4, none⟩ = some i ∧ W.cell? ⟨G, 5, none⟩ = some f ∧ W.cell? ⟨G, 6, none⟩ = some c ∧ W.cell? ⟨G, 7, none⟩ = some x) ∧ LdS w0 G k b bn s i f c x W := ⟨h.box, h⟩

/-- behind the region: a new variable holds the Vec that was told -/
def VcMid (H : Nat → Prop) (w0 : World) (R : Value → World → Prop) (p : Value) (wx : World) : Prop :=
  ∃ (G : Nat) (k : Int) (b : Sl) (bn : Int) (s i f c x : Sl), p = .pointer (some ⟨G, 0, none⟩) ∧ wx.heap[G]? = some (.cells #[.int .i64 k, .slice b.1 b.2.1 b.2.2, .int .i64 bn, .slice s.1 s.2.1 s.2.2, .slice i.1 i.2.1 i.2.2, .slice f.1 f.2.1 f.2.2, .slice c.1 c.2.1 c.2.2, .slice x.1 x.2.1 x.2.2] 32) ∧ w0.heap.size ≤ G ∧
    Keeps H wx (R (vecW k b bn s i f c x)) ∧ Below w0.heap.size w0 wx

theorem vcMid_set {H : Nat → Prop} {w0 W w2 : World} {R : Value → World → Prop} {G Z : Nat} {k : Int} {b : Value} {bn : Int} {s i f c x : Value} {k2 : Int} {b2 : Sl} {bn2 : Int} {s2 i2 f2 c2 x2 : Sl} (hG : w0.heap.size ≤ Z) (hGW : Z < W.heap.size)
    (h1 : w2.heap[Z]? = some (.cells zcells 32)) (hs : LdS w0 G k b bn s i f c x w2) (hk : Keeps (Hole H w0 W) w2 (R (vecW k2 b2 bn2 s2 i2 f2 c2 x2))) :
    VcMid H w0 R (.pointer (some ⟨Z, 0, none⟩)) (set8 w2 Z (.int .i64 k2) (.slice b2.1 b2.2.1 b2.2.2) (.int .i64 bn2) (.slice s2.1 s2.2.1 s2.2.2) (.slice i2.1 i2.2.1 i2.2.2) (.slice f2.1 f2.2.1 f2.2.2) (.slice c2.1 c2.2.1 c2.2.2) (.slice x2.1 x2.2.1 x2.2.2)) :=
  ⟨Z, k2, b2, bn2, s2, i2, f2, c2, x2, rfl, set8_block h1 _ _ _ _ _ _ _ _, hG, (hk.set8 (.inr ⟨hG, hGW⟩) _ _ _ _ _ _ _ _).sub fun _ _ e => .inl e, (hs.put8 hG _ _ _ _ _ _ _ _).bel⟩
theorem vcMid_new {H : Nat → Prop} {w0 W w2 : World} {R : Value → World → Prop} {G : Nat} {k : Int} {b : Value} {bn : Int} {s i f c x : Value} {k2 : Int} {b2 : Sl} {bn2 : Int} {s2 i2 f2 c2 x2 : Sl}
    (hs : LdS w0 G k b bn s i f c x w2) (hk : Keeps (Hole H w0 W) w2 (R (vecW k2 b2 bn2 s2 i2 f2 c2 x2))) :
    VcMid H w0 R (.pointer (some ⟨w2.heap.size, 0, none⟩)) (w2.alloc (.cells #[.int .i64 k2, .slice b2.1 b2.2.1 b2.2.2, .int .i64 bn2, .slice s2.1 s2.2.1 s2.2.2, .slice i2.1 i2.2.1 i2.2.2, .slice f2.1 f2.2.1 f2.2.2, .slice c2.1 c2.2.1 c2.2.2, .slice x2.1 x2.2.1 x2.2.2] 32)) :=
  ⟨w2.heap.size, k2, b2, bn2, s2, i2, f2, c2, x2, rfl, heap_alloc_new w2 _, hs.sz, (hk.sub fun _ _ e => .inl e).step (bel1 w2 _), (hs.al _).bel⟩
theorem blk_al {w1 w2 : World} {o : Obj} (hb : Below (w1.alloc o).heap.size (w1.alloc o) w2) : w2.heap[w1.heap.size]? = some o := block_up hb
theorem blk_dr {w1 w2 : World} {o : Obj} (hb : Below (w1.alloc o).drew.heap.size (w1.alloc o).drew w2) : w2.heap[w1.heap.size]? = some o := by
  rw [hb.block _ (by simp [World.drew])]
  exact heap_alloc_new w1 o
theorem lt_al (w1 : World) (o : Obj) : w1.heap.size < (w1.alloc o).heap.size := by simp
theorem lt_dr (w1 : World) (o : Obj) : w1.heap.size < (w1.alloc o).drew.heap.size := by simp [World.drew]
theorem le_dr (w1 : World) : w1.heap.size ≤ w1.drew.heap.size := (show Below w1.heap.size w1 w1.drew from (Below.refl _ _).drew).size
end Go.Proofs.YtdddmehchfnppaaGreatDoor
namespace Go.Proofs.YtdddmehchfnppaaGreatDoor
open Go Go.RowKit Go.Proofs Fl

/-- a Vec's eight cells, by their headers -/
structure V8 where
  k : Int
  b : Sl
  bn : Int
  s : Sl
  i : Sl
  f : Sl
  c : Sl
  x : Sl
/-- the Vec -/
abbrev V8.v (p : V8) : Value := vecW p.k p.b p.bn p.s p.i p.f p.c p.x
/-- a block holds the Vec -/
abbrev BoxP (W : World) (G : Nat) (p : V8) : Prop := Boxed W G p.k (.slice p.b.1 p.b.2.1 p.b.2.2) p.bn (.slice p.s.1 p.s.2.1 p.s.2.2) (.slice p.i.1 p.i.2.1 p.i.2.2) (.slice p.f.1 p.f.2.1 p.f.2.2) (.slice p.c.1 p.c.2.1 p.c.2.2) (.slice p.x.1 p.x.2.1 p.x.2.2)
/-- the object that a box of it is -/
abbrev V8.o (p : V8) : Obj := .cells #[.int .i64 p.k, .slice p.b.1 p.b.2.1 p.b.2.2, .int .i64 p.bn, .slice p.s.1 p.s.2.1 p.s.2.2, .slice p.i.1 p.i.2.1 p.i.2.2, .slice p.f.1 p.f.2.1 p.f.2.2, .slice p.c.1 p.c.2.1 p.c.2.2, .slice p.x.1 p.x.2.1 p.x.2.2] 32
theorem boxP_new (w : World) (p : V8) : BoxP (w.alloc p.o) w.heap.size p := boxed_new w 32 _ _ _ _ _ _ _ _

/-- own blocks of a function that takes two Vecs and answers one: the boxes and the result's cells -/
structure St2 (w W : World) (p q : V8) : Prop where
  one : BoxP W w.heap.size p
  two : BoxP W (w.heap.size + 1) q
  res : W.heap[w.heap.size + 2]? = some (.cells zcells 32)
  bel : Below w.heap.size w W
theorem St2.step {w W W' : World} {p q : V8} (h : St2 w W p q) (hb : Below W.heap.size W W') : St2 w W' p q :=
  ⟨h.one.below hb, h.two.below hb, by rw [hb.block _ (boxed_of h.res).1.lt]; exact h.res, bel_both h.bel hb⟩
theorem St2.new (w : World) (p q : V8) : St2 w (((w.alloc p.o).alloc q.o).alloc (.cells zcells 32)) p q := by
  have h1 := boxP_new w p
  have h2 := boxP_new (w.alloc p.o) q
  have h3 := heap_alloc_new ((w.alloc p.o).alloc q.o) (.cells zcells 32)
  have e1 : (w.alloc p.o).heap.size = w.heap.size + 1 := by simp
  have e2 : ((w.alloc p.o).alloc q.o).heap.size = w.heap.size + 2 := by simp
  rw [e1] at h2
  rw [e2] at h3
  exact ⟨(h1.below (bel1 _ _)).below (bel1 _ _), h2.below (bel1 _ _), h3, bel_both (bel2 w _ _) (bel1 _ _)⟩
theorem St2.al {w W : World} {p q : V8} (h : St2 w W p q) (o : Obj) : St2 w (W.alloc o) p q := h.step (bel1 W o)
theorem St2.dr {w W : World} {p q : V8} (h : St2 w W p q) : St2 w W.drew p q := h.step (Below.refl _ W).drew
theorem St2.put {w W : World} {p q : V8} (h : St2 w W p q) {g j : Nat} (ha : w.heap.size + 3 ≤ g) (u : Value) : St2 w (W.setCell ⟨g, j, none⟩ u) p q :=
  ⟨h.one.set (by show g ≠ _; omega) u, h.two.set (by show g ≠ _; omega) u, by rw [Below.heap_setCell _ _ _ _ (by show _ ≠ g; omega)]; exact h.res, h.bel.setCell (by show _ ≤ g; omega) u⟩
theorem St2.sz {w W : World} {p q : V8} (h : St2 w W p q) : w.heap.size + 3 ≤ W.heap.size := (boxed_of h.res).1.lt
theorem St2.self {w W : World} {p q : V8} (h : St2 w W p q) : St2 w W p q := h
theorem St2.more {w W W' : World} {p q : V8} (h : St2 w W p q) (hb : Below (w.heap.size + 3) W W') : St2 w W' p q :=
  ⟨h.one.of fun j => hb.cell (p := ⟨w.heap.size, j, none⟩) (by show w.heap.size < _; omega), h.two.of fun j => hb.cell (p := ⟨w.heap.size + 1, j, none⟩) (by show w.heap.size + 1 < _; omega), by rw [hb.block _ (by omega)]; exact h.res, h.bel.trans (hb.mono (by omega))⟩

/-- how many elements come of lists of two lengths -/
def lenP (m n : Nat) : Option Nat := if m = n then some m else if m = 1 then some n else if n = 1 then some m else none
/-- which element goes with a place -/
def ixP (m i : Nat) : Nat := if m = 1 then 0 else i
theorem ixP_lt {m n N i : Nat} (h : lenP m n = some N) (hi : i < N) : ixP m i < m ∧ ixP n i < n := by
  unfold lenP at h
  unfold ixP
  split at h
  · injection h with h; constructor <;> split <;> omega
  · split at h
    · injection h with h; constructor <;> split <;> omega
    · split at h
      · injection h with h; constructor <;> split <;> omega
      · cases h
theorem lenP_le {m n N B : Nat} (h : lenP m n = some N) (hm : m ≤ B) (hn : n ≤ B) : N ≤ B := by
  unfold lenP at h
  split at h
  · injection h with h; omega
  · split at h
    · injection h with h; omega
    · split at h
      · injection h with h; omega
      · cases h
theorem lenP_comm (m n : Nat) : lenP m n = lenP n m := by
  unfold lenP
  by_cases h1 : m = n
  · subst h1; rfl
  · have h1' : ¬ n = m := fun e => h1 e.symm
    simp only [if_neg h1, if_neg h1']
    split <;> split <;> first | rfl | omega | (congr 1; omega)

set_option maxHeartbeats 400000 in
theorem length_any (m n : Nat) (w : World) : Calls Tryz.prog 92 #[.int .i64 (m : Int), .int .i64 (n : Int)] w fun e w' => e = .returned (.tuple #[.int .i64 ((lenP m n).getD 0 : Nat), .bool (lenP m n).isSome]) ∧ w = w' := by
  by_cases h1 : m = n
  · subst h1
    have e : lenP m m = some m := if_pos rfl
    rw [e]
    go_enter Tryz.func92, Tryz.ntmps92
    go_wp2
    go_ret2
    exact ⟨rfl, rfl⟩
  · have f1 : ((m : Int) == (n : Int)) = false := by simp; omega
    by_cases h2 : m = 1
    · have e : lenP m n = some n := by unfold lenP; rw [if_neg h1, if_pos h2]
      rw [e]
      have f2 : ((m : Int) == 1) = true := by simp; omega
      clear h1 h2
      go_enter Tryz.func92, Tryz.ntmps92
      go_wp2
      go_ret2
      exact ⟨rfl, rfl⟩
    · have f2 : ((m : Int) == 1) = false := by simp; omega
      by_cases h3 : n = 1
      · have e : lenP m n = some m := by unfold lenP; rw [if_neg h1, if_neg h2, if_pos h3]
        rw [e]
        have f3 : ((n : Int) == 1) = true := by simp; omega
        clear h1 h2 h3
        go_enter Tryz.func92, Tryz.ntmps92
        go_wp2
        go_ret2
        exact ⟨rfl, rfl⟩
      · have e : lenP m n = none := by unfold lenP; rw [if_neg h1, if_neg h2, if_neg h3]
        rw [e]
        have f3 : ((n : Int) == 1) = false := by simp; omega
        clear h1 h2 h3
        go_enter Tryz.func92, Tryz.ntmps92
        go_wp2
        go_ret2
        exact ⟨rfl, rfl⟩

set_option maxHeartbeats 400000 in
theorem at_any (p : V8) (m i : Nat) (w : World) (hL : ∀ W, Below w.heap.size w W → Calls Tryz.prog 39 #[p.v] W fun e w2 => e = .returned (.int .i64 (m : Nat)) ∧ Below W.heap.size W w2) :
    Calls Tryz.prog 121 #[p.v, .int .i64 (i : Int)] w fun e w' => e = .returned (.int .i64 (ixP m i : Nat)) ∧ Below w.heap.size w w' := by
  have HL := Lib.hid hL
  clear hL
  by_cases h : m = 1
  · have HX : Hid (ixP m i = 0) := if_pos h
    have e1 : ((m : Int) == 1) = true := by simp; omega
    clear h
    go_enter Tryz.func121, Tryz.ntmps121
    go_wp2_with fail
    refine (HL.out _ (bel1 w _)).mono ?_
    rintro e w1 ⟨rfl, hb1⟩
    have HB := Lib.hid (bel_both (bel1 w _) hb1)
    clear hb1
    go_wp2
    go_ret
    exact ⟨by rw [HX.out]; rfl, HB.out⟩
  · have HX : Hid (ixP m i = i) := if_neg h
    have e1 : ((m : Int) == 1) = false := by simp; omega
    clear h
    go_enter Tryz.func121, Tryz.ntmps121
    go_wp2_with fail
    refine (HL.out _ (bel1 w _)).mono ?_
    rintro e w1 ⟨rfl, hb1⟩
    have HB := Lib.hid (bel_both (bel1 w _) hb1)
    clear hb1
    go_wp2
    go_ret
    exact ⟨by rw [HX.out]; rfl, HB.out⟩
end Go.Proofs.YtdddmehchfnppaaGreatDoor
