/- Merged texts. The walk of the statement FoldRows. Conditions: as each theorem says. The statement FoldRows, from what its parts tell. Conditions: as each theorem says. fold.Fold and the reference's Fold at numbers: both tell the same, whatever comes of it. Conditions: as each theorem says. A region that loads a Vec, calls, and puts the Vec that is told into a new variable, in whatever order. Conditions: as each theorem says. The walk of the statement FoldLong. Conditions: as each theorem says. The statement FoldLong, from what its parts tell. Conditions: as each theorem says. The walk of scan.line where every step goes in whole numbers: adding and taking away. Conditions: as each theorem says. -/
import Derived.Test.YtdddmehchfnppaaGreatDoorMg22
import Derived.Test.YtdddmehchfnppaaGreatDoorMg23
import Derived.Test.YtdddmehchfnppaaGreatDoorMg24
import Derived.Test.YtdddmehchfnppaaGreatDoorMg17
import Derived.Test.YtdddmehchfnppaaGreatDoorMg07
import Derived.IntWalk
import Derived.Test.YtdddmehchfnppaaGreatDoorMg06
namespace Go.Proofs.YtdddmehchfnppaaGreatDoor
open Go Go.RowKit Go.Proofs Fl

/-- how many elements lie along the axis, and how many there are in all -/
structure RowsN (n o r : Nat) (Q : Int) (T : Nat) : Prop where
  cs : (0 < o ∧ 0 < r ∧ ((n : Int) / (o : Int)) / (r : Int) = Q) ∨ (o = 0 ∧ Q = 0) ∨ (0 < o ∧ r = 0 ∧ Q = 0)
  q0 : 0 ≤ Q
  q1 : Q ≤ n
  t : T = Q.toNat * o * r
  tn : T ≤ n

/-- kept tells a Vec of numbers -/
def KeptOk (T : Nat) (G : Nat → Nat) (w : World) (e : Ending) (w' : World) : Prop :=
  ∃ (k : Int) (b : Sl) (bn : Int) (s i f g x : Sl), e = .returned (.tuple #[vecW k b bn s i f g x, .bool true]) ∧ (∀ W', Below w'.heap.size w' W' → NumV (vecW k b bn s i f g x) k T G W') ∧ Below w.heap.size w w'
/-- a Vec of numbers is told, in the least store where tight, and no trouble -/
def FoldOk (t : Prop) (N : Nat) (G : Nat → Nat) (w : World) (e : Ending) (w' : World) : Prop :=
  ∃ (k : Int) (b : Sl) (bn : Int) (s i f g x : Sl), e = .returned (.tuple #[vecW k b bn s i f g x, .int .i64 0]) ∧ (∀ W', Below w'.heap.size w' W' → NumV (vecW k b bn s i f g x) k N G W') ∧ (t ∨ k = (leastF G N : Nat)) ∧ Below w.heap.size w w'
/-- a trouble, and no Vec -/
def FoldErr (E : Int) (w : World) (e : Ending) (w' : World) : Prop := e = .returned (.tuple #[vecV 0 vnil 0 vnil vnil vnil vnil vnil, .int .i64 E]) ∧ Below w.heap.size w w'
def RowErr (E : Int) (w : World) (e : Ending) (w' : World) : Prop := e = .returned (.tuple #[.slice none 0 0, .int .i64 E]) ∧ Below w.heap.size w w'
def RowOk (N : Nat) (G : Nat → Nat) (w : World) (e : Ending) (w' : World) : Prop := ∃ v, e = .returned (.tuple #[v, .int .i64 0]) ∧ Reads1 w' v ((List.range N).map fun j => .float .f64 (G j)) ∧ Below w.heap.size w w'
def TidyOk (T : Nat) (G : Nat → Nat) (w : World) (e : Ending) (w' : World) : Prop := ∃ v, e = .returned (.tuple #[v, .bool true]) ∧ Reads1 w' v ((List.range T).map fun j => .float .f64 (G j)) ∧ Below w.heap.size w w'

end Go.Proofs.YtdddmehchfnppaaGreatDoor
namespace Go.Proofs.YtdddmehchfnppaaGreatDoor
open Go Go.RowKit Go.Proofs Fl

theorem rowOk_of {N : Nat} {r : Nat → Option Nat} {G : Nat → Nat} {w : World} (hall : ∀ c, c < N → r c = some (G c)) (e : Ending) (w' : World) (h : RfOut N r w e w') : RowOk N G w e w' := by
  rcases h with ⟨_, ⟨v, rfl, ho⟩, hb⟩ | ⟨⟨c, hc, h0⟩, _⟩
  · refine ⟨v, rfl, ?_, hb⟩
    have e1 : ((List.range N).map fun j => Value.float .f64 (getR r j)) = (List.range N).map fun j => .float .f64 (G j) := by
      apply List.map_congr_left
      intro j hj
      show Value.float .f64 ((r j).getD 0) = _
      rw [hall j (List.mem_range.1 hj)]
      rfl
    rw [← e1]
    exact ho.reads
  · rw [hall c hc] at h0; cases h0
theorem rowErr_of {N : Nat} {r : Nat → Option Nat} {w : World} (hbad : ∃ c, c < N ∧ r c = none) (e : Ending) (w' : World) (h : RfOut N r w e w') : RowErr 24 w e w' := by
  rcases h with ⟨hall, _, _⟩ | ⟨_, rfl, hb⟩
  · obtain ⟨c, hc, h0⟩ := hbad
    obtain ⟨y, hy⟩ := hall c hc
    rw [h0] at hy; cases hy
  · exact ⟨rfl, hb⟩

theorem vecOk_fold {t : Prop} {N : Nat} {G : Nat → Nat} {w : World} (e : Ending) (w' : World) (h : VecOk (fun _ => False) w (fun u W => NumV u (leastF G N : Nat) N G W) e w') : FoldOk t N G w e w' := by
  obtain ⟨k, b, bn, s, i, f, c, x, rfl, hk, hb⟩ := h
  have e1 := hk.now.kindEq
  refine ⟨k, b, bn, s, i, f, c, x, rfl, fun W' hW => ?_, .inr e1, hb⟩
  rw [e1]
  have := (hk.step hW).now
  rw [e1] at this
  exact this

/-- how many elements there are along the axis -/
theorem rowsN (n o r : Nat) : ∃ q T : Nat, RowsN n o r (q : Int) T ∧ T = o * q * r ∧ (q = 0 ∨ (0 < o ∧ 0 < r)) := by
  by_cases h : 0 < o ∧ 0 < r
  · have h1 : n / o / r * o * r ≤ n := by
      have a1 := Nat.div_mul_le_self (n / o) r
      have a2 := Nat.div_mul_le_self n o
      have a3 : n / o / r * o * r = n / o / r * r * o := by rw [Nat.mul_right_comm]
      rw [a3]
      exact Nat.le_trans (Nat.mul_le_mul_right _ a1) a2
    refine ⟨n / o / r, n / o / r * o * r, ⟨.inl ⟨h.1, h.2, by push_cast; rfl⟩, Int.natCast_nonneg _, ?_, by rw [Int.toNat_natCast], h1⟩, by rw [Nat.mul_comm o], .inr h⟩
    have b1 := Nat.div_le_self (n / o) r
    have b2 := Nat.div_le_self n o
    exact Int.ofNat_le.2 (Nat.le_trans b1 b2)
  · refine ⟨0, 0, ⟨?_, by omega, by omega, by simp, by omega⟩, by simp, .inl rfl⟩
    by_cases ho : o = 0
    · exact .inr (.inl ⟨ho, rfl⟩)
    · exact .inr (.inr ⟨by omega, by omega, rfl⟩)

end Go.Proofs.YtdddmehchfnppaaGreatDoor
namespace Go.Proofs.YtdddmehchfnppaaGreatDoor
open Go Go.RowKit Go.Proofs Fl

/-- a Vec of so many numbers, as one world has it -/
structure NumW (v : Value) (n : Nat) (F : Nat → Nat) (w : World) : Prop where
  cls : Calls Tryz.prog 31 #[v] w fun e w2 => e = .returned (.int .i64 0) ∧ Below w.heap.size w w2
  len : Calls Tryz.prog 39 #[v] w fun e w2 => e = .returned (.int .i64 n) ∧ Below w.heap.size w w2
  num : ∀ j, j < n → Calls Tryz.prog 28 #[v, .int .i64 (j : Nat)] w fun e w2 => e = .returned (.float .f64 (F j)) ∧ Below w.heap.size w w2
theorem NumV.numW {v : Value} {k : Int} {n : Nat} {F : Nat → Nat} {w : World} (h : NumV v k n F w) : NumW v n F w := ⟨h.cls, h.len, h.num⟩
theorem numW_zero (O : Nat → Nat) (w : World) : NumW (vecV 0 vnil 0 vnil vnil vnil vnil vnil) 0 O w :=
  ⟨class_0 _ _ _ _ _ _ _ w, len_0 _ _ _ _ _ _ _ w, fun _ hj => absurd hj (Nat.not_lt_zero _)⟩
theorem NumW.of {v : Value} {n : Nat} {F : Nat → Nat} {w : World} {H : Nat → Prop} (h : Keeps H w (NumW v n F)) : NumsOf w v n F :=
  ⟨fun _ hb => (h.step hb).now.cls, fun _ hb => (h.step hb).now.len, fun _ hb j hj => (h.step hb).now.num j hj⟩

/-- a Vec of numbers is told, in the least store where tight, and no trouble -/
def FoldOkH (H : Nat → Prop) (t : Prop) (N : Nat) (G : Nat → Nat) (w : World) (e : Ending) (w' : World) : Prop :=
  ∃ (k : Int) (b : Sl) (bn : Int) (s i f g x : Sl), e = .returned (.tuple #[vecW k b bn s i f g x, .int .i64 0]) ∧ Keeps H w' (NumV (vecW k b bn s i f g x) k N G) ∧ (t ∨ k = (leastF G N : Nat)) ∧ Below w.heap.size w w'
theorem vecOk_foldH {H : Nat → Prop} {t : Prop} {N : Nat} {G : Nat → Nat} {w : World} (e : Ending) (w' : World) (h : VecOk H w (fun u W => NumV u (leastF G N : Nat) N G W) e w') : FoldOkH H t N G w e w' := by
  obtain ⟨k, b, bn, s, i, f, c, x, rfl, hk, hb⟩ := h
  have e1 := hk.now.kindEq
  refine ⟨k, b, bn, s, i, f, c, x, rfl, hk.imp fun W' h => ?_, .inr e1, hb⟩
  rw [← e1] at h
  exact h
/-- a Vec whose numbers can be asked for, and a trouble's number -/
def AnyFold (H : Nat → Prop) (N : Nat) (O : Nat → Nat) (E : Int) (w : World) (e : Ending) (w' : World) : Prop :=
  ∃ (k : Int) (b : Sl) (bn : Int) (s i f g x : Sl), e = .returned (.tuple #[vecW k b bn s i f g x, .int .i64 E]) ∧ Keeps H w' (NumW (vecW k b bn s i f g x) N O) ∧ Below w.heap.size w w'
def AnyRow (N : Nat) (O : Nat → Nat) (E : Int) (w : World) (e : Ending) (w' : World) : Prop := ∃ v, e = .returned (.tuple #[v, .int .i64 E]) ∧ Reads1 w' v ((List.range N).map fun j => .float .f64 (O j)) ∧ Below w.heap.size w w'
theorem foldErr_any {H : Nat → Prop} {O : Nat → Nat} {E : Int} {w : World} (e : Ending) (w' : World) (h : FoldErr E w e w') : AnyFold H 0 O E w e w' := by
  obtain ⟨rfl, hb⟩ := h
  exact ⟨0, (none, 0, 0), 0, (none, 0, 0), (none, 0, 0), (none, 0, 0), (none, 0, 0), (none, 0, 0), rfl, fun W' _ _ => numW_zero O W', hb⟩
theorem rowErr_any {O : Nat → Nat} {E : Int} {w : World} (e : Ending) (w' : World) (h : RowErr E w e w') : AnyRow 0 O E w e w' := by
  obtain ⟨rfl, hb⟩ := h
  exact ⟨_, rfl, .inl ⟨none, 0, rfl, rfl⟩, hb⟩
theorem foldOk_any {H : Nat → Prop} {t : Prop} {N : Nat} {O : Nat → Nat} {w : World} (e : Ending) (w' : World) (h : FoldOkH H t N O w e w') : AnyFold H N O 0 w e w' := by
  obtain ⟨k, b, bn, s, i, f, g, x, rfl, hk, _, hb⟩ := h
  exact ⟨k, b, bn, s, i, f, g, x, rfl, hk.imp fun W' h => h.numW, hb⟩
theorem rowOk_any {N : Nat} {O : Nat → Nat} {w : World} (e : Ending) (w' : World) (h : RowOk N O w e w') : AnyRow N O 0 w e w' := h

end Go.Proofs.YtdddmehchfnppaaGreatDoor
namespace Go.Proofs.YtdddmehchfnppaaGreatDoor
open Go Go.RowKit Go.Proofs Fl

/-- the Vec that is loaded still lies in its block, and nothing older was written -/
structure LdS (w0 : World) (G : Nat) (k : Int) (b : Value) (bn : Int) (s i f c x : Value) (W : World) : Prop where
  box : Boxed W G k b bn s i f c x
  bel : Below w0.heap.size w0 W
  old : G < w0.heap.size
theorem LdS.new {w0 : World} {G : Nat} {k : Int} {b : Value} {bn : Int} {s i f c x : Value} (h : Boxed w0 G k b bn s i f c x) : LdS w0 G k b bn s i f c x w0 := ⟨h, Below.refl _ _, h.lt⟩
theorem LdS.step {w0 W W' : World} {G : Nat} {k : Int} {b : Value} {bn : Int} {s i f c x : Value} (h : LdS w0 G k b bn s i f c x W) (hb : Below W.heap.size W W') : LdS w0 G k b bn s i f c x W' := ⟨h.box.below hb, bel_both h.bel hb, h.old⟩
theorem LdS.al {w0 W : World} {G : Nat} {k : Int} {b : Value} {bn : Int} {s i f c x : Value} (h : LdS w0 G k b bn s i f c x W) (o : Obj) : LdS w0 G k b bn s i f c x (W.alloc o) := h.step (bel1 W o)
theorem LdS.dr {w0 W : World} {G : Nat} {k : Int} {b : Value} {bn : Int} {s i f c x : Value} (h : LdS w0 G k b bn s i f c x W) : LdS w0 G k b bn s i f c x W.drew := h.step (Below.refl _ W).drew
theorem LdS.put {w0 W : World} {G : Nat} {k : Int} {b : Value} {bn : Int} {s i f c x : Value} (h : LdS w0 G k b bn s i f c x W) {g j : Nat} (ha : w0.heap.size ≤ g) (u : Value) : LdS w0 G k b bn s i f c x (W.setCell ⟨g, j, none⟩ u) :=
  ⟨h.box.set (by show g ≠ _; have := h.old; omega) u, h.bel.setCell (by show _ ≤ g; omega) u, h.old⟩
theorem LdS.put8 {w0 W : World} {G : Nat} {k : Int} {b : Value} {bn : Int} {s i f c x : Value} (h : LdS w0 G k b bn s i f c x W) {g : Nat} (ha : w0.heap.size ≤ g) (a0 a1 a2 a3 a4 a5 a6 a7 : Value) : LdS w0 G k b bn s i f c x (set8 W g a0 a1 a2 a3 a4 a5 a6 a7) :=
  (((((((h.put ha _).put ha _).put ha _).put ha _).put ha _).put ha _).put ha _).put ha _
theorem LdS.self {w0 W : World} {G : Nat} {k : Int} {b : Value} {bn : Int} {s i f c x : Value} (h : LdS w0 G k b bn s i f c x W) : LdS w0 G k b bn s i f c x W := h
theorem LdS.sz {w0 W : World} {G : Nat} {k : Int} {b : Value} {bn : Int} {s i f c x : Value} (h : LdS w0 G k b bn s i f c x W) : w0.heap.size ≤ W.heap.size := h.bel.size
theorem ld_s {w0 W : World} {G : Nat} {k : Int} {b : Value} {bn : Int} {s i f c x : Value} (h : LdS w0 G k b bn s i f c x W) : (W.cell? ⟨G, 0, none⟩ = some (.int .i64 k) ∧ W.cell? ⟨G, 1, none⟩ = some b ∧ W.cell? ⟨G, 2, none⟩ = some (.int .i64 bn) ∧ W.cell? ⟨G, 3, none⟩ = some s ∧ W.cell? ⟨G, 4, none⟩ = some i ∧ W.cell? ⟨G, 5, none⟩ = some f ∧ W.cell? ⟨G, 6, none⟩ = some c ∧ W.cell? ⟨G, 7, none⟩ = some x) ∧ LdS w0 G k b bn s i f c x W := ⟨h.box, h⟩

/-- behind the region: a new variable holds the Vec that was told -/
def VcMid (H : Nat → Prop) (w0 : World) (R : Value → World → Prop) (p : Value) (wx : World) : Prop :=
  ∃ (G : Nat) (k : Int) (b : Sl) (bn : Int) (s i f c x : Sl), p = .pointer (some ⟨G, 0, none⟩) ∧ wx.heap[G]? = some (.cells #[.int .i64 k, .slice b.1 b.2.1 b.2.2, .int .i64 bn, .slice s.1 s.2.1 s.2.2, .slice i.1 i.2.1 i.2.2, .slice f.1 f.2.1 f.2.2, .slice c.1 c.2.1 c.2.2, .slice x.1 x.2.1 x.2.2] 32) ∧ w0.heap.size ≤ G ∧
    Keeps H wx (R (vecW k b bn s i f c x)) ∧ Below w0.heap.size w0 wx

theorem vcMid_set {H : Nat → Prop} {w0 W w2 : World} {R : Value → World → Prop} {G Z : Nat} {k : Int} {b : Value} {bn : Int} {s i f c x : Value} {k2 : Int} {b2 : Sl} {bn2 : Int} {s2 i2 f2 c2 x2 : Sl} (hG : w0.heap.size ≤ Z) (hGW : Z < W.heap.size)
    (h1 : w2.heap[Z]? = some (.cells zcells 32)) (hs : LdS w0 G k b bn s i f c x w2) (hk : Keeps (Hole H w0 W) w2 (R (vecW k2 b2 bn2 s2 i2 f2 c2 x2))) :
    VcMid H w0 R (.pointer (some ⟨Z, 0, none⟩)) (set8 w2 Z (.int .i64 k2) (.slice b2.1 b2.2.1 b2.2.2) (.int .i64 bn2) (.slice s2.1 s2.2.1 s2.2.2) (.slice i2.1 i2.2.1 i2.2.2) (.slice f2.1 f2.2.1 f2.2.2) (.slice c2.1 c2.2.1 c2.2.2) (.slice x2.1 x2.2.1 x2.2.2)) :=
  ⟨Z, k2, b2, bn2, s2, i2, f2, c2, x2, rfl, set8_block h1 _ _ _ _ _ _ _ _, hG, (hk.set8 (.inr ⟨hG, hGW⟩) _ _ _ _ _ _ _ _).sub fun _ _ e => .inl e, (hs.put8 hG _ _ _ _ _ _ _ _).bel⟩
theorem vcMid_new {H : Nat → Prop} {w0 W w2 : World} {R : Value → World → Prop} {G : Nat} {k : Int} {b : Value} {bn : Int} {s i f c x : Value} {k2 : Int} {b2 : Sl} {bn2 : Int} {s2 i2 f2 c2 x2 : Sl}
    (hs : LdS w0 G k b bn s i f c x w2) (hk : Keeps (Hole H w0 W) w2 (R (vecW k2 b2 bn2 s2 i2 f2 c2 x2))) :
    VcMid H w0 R (.pointer (some ⟨w2.heap.size, 0, none⟩)) (w2.alloc (.cells #[.int .i64 k2, .slice b2.1 b2.2.1 b2.2.2, .int .i64 bn2, .slice s2.1 s2.2.1 s2.2.2, .slice i2.1 i2.2.1 i2.2.2, .slice f2.1 f2.2.1 f2.2.2, .slice c2.1 c2.2.1 c2.2.2, .slice x2.1 x2.2.1 x2.2.2] 32)) :=
  ⟨w2.heap.size, k2, b2, bn2, s2, i2, f2, c2, x2, rfl, heap_alloc_new w2 _, hs.sz, (hk.sub fun _ _ e => .inl e).step (bel1 w2 _), (hs.al _).bel⟩
theorem blk_al {w1 w2 : World} {o : Obj} (hb : Below (w1.alloc o).heap.size (w1.alloc o) w2) : w2.heap[w1.heap.size]? = some o := block_up hb
theorem blk_dr {w1 w2 : World} {o : Obj} (hb : Below (w1.alloc o).drew.heap.size (w1.alloc o).drew w2) : w2.heap[w1.heap.size]? = some o := by
  rw [hb.block _ (by simp [World.drew])]
  exact heap_alloc_new w1 o
theorem lt_al (w1 : World) (o : Obj) : w1.heap.size < (w1.alloc o).heap.size := by simp
theorem lt_dr (w1 : World) (o : Obj) : w1.heap.size < (w1.alloc o).drew.heap.size := by simp [World.drew]
theorem le_dr (w1 : World) : w1.heap.size ≤ w1.drew.heap.size := (show Below w1.heap.size w1 w1.drew from (Below.refl _ _).drew).size
end Go.Proofs.YtdddmehchfnppaaGreatDoor
namespace Go.Proofs.YtdddmehchfnppaaGreatDoor
open Go Go.RowKit Go.Proofs Fl

/-- a row of truths that came in -/
def BRow (w : World) (v : Value) (n : Nat) (B : Nat → Bool) : Prop :=
  (∃ a c, v = .slice a n c ∧ n ≤ c) ∧ Reads1 w v ((List.range n).map fun j => .bool (B j))
/-- a row of whole numbers that came in -/
def LRow (w : World) (v : Value) (n : Nat) (L : Nat → Int) : Prop :=
  (∃ a c, v = .slice a n c ∧ n ≤ c) ∧ Reads1 w v ((List.range n).map fun j => .int .i64 (L j)) ∧ ∀ j, j < n → -9223372036854775808 ≤ L j ∧ L j ≤ 9223372036854775807
/-- kept tells a Vec of numbers, of no store of whole ones where there are none -/
def KeptK (n T : Nat) (G : Nat → Nat) (w : World) (e : Ending) (w' : World) : Prop :=
  ∃ (k : Int) (b : Sl) (bn : Int) (s i f g x : Sl), e = .returned (.tuple #[vecW k b bn s i f g x, .bool true]) ∧ Keeps (fun _ => False) w' (NumV (vecW k b bn s i f g x) k T G) ∧ (2 ≤ n → k = 3 → 0 < T) ∧ Below w.heap.size w w'

theorem flags_snoc (B : Nat → Bool) (i : Nat) (t : Bool) (h : B i = t) : ((List.range i).map fun j => Value.float .f64 (flagF (B j))) ++ [.float .f64 (flagF t)] = (List.range (i + 1)).map fun j => .float .f64 (flagF (B j)) := by
  rw [List.range_succ, List.map_append, ← h]; rfl
theorem fis_snoc (L : Nat → Int) (i : Nat) : ((List.range i).map fun j => Value.float .f64 (fi (L j))) ++ [.float .f64 (floatOfInt .f64 (L i))] = (List.range (i + 1)).map fun j => .float .f64 (fi (L j)) := by
  rw [List.range_succ, List.map_append]; rfl

end Go.Proofs.YtdddmehchfnppaaGreatDoor
namespace Go.Proofs.YtdddmehchfnppaaGreatDoor
open Go Go.RowKit Go.Proofs Fl

theorem okF_tf {b : Nat} (h : TF b) : okF b = true := by unfold okF; rw [doneP_tf h]; rfl
theorem tidF_tf {b : Nat} (h : TF b) : tidF b = b := by unfold tidF; rw [doneP_tf h]
theorem isT_flag (t : Bool) : isT (flagF t) = true := by cases t <;> decide
theorem fit1_flags (B : Nat → Bool) (n : Nat) : fitB 1 (fun j => flagF (B j)) n = true := by
  unfold fitB
  rw [if_pos rfl]
  exact all_range.2 fun j _ => isT_flag (B j)

/-- kept at tidy numbers -/
theorem kept_tf (kd : Int) (n T : Nat) (F : Nat → Nat) (W : World) (v : Value) (hT : T ≤ 1000000) (hv : Reads1 W v ((List.range T).map fun j => .float .f64 (F j))) (hF : ∀ j, j < T → TF (F j))
    (h3 : 2 ≤ n → 0 < T ∨ ((kd = 1 ∨ kd = 2) ∧ fitB kd F T = true)) :
    Calls Tryz.prog 24 #[v, .int .i64 kd] W (KeptK n T F W) := by
  refine (kept_all (fun _ => False) v kd T F W (fun _ h => h.elim) hT hv (fun j hj => (hF j hj).lt)).mono ?_
  have e : ∀ j, j < T → tidF (F j) = F j := fun j hj => tidF_tf (hF j hj)
  rintro e0 w' (⟨_, k, b, bn, s, i, f, cc, x, rfl, hk, hn, hb⟩ | ⟨⟨j, hj, h0⟩, _⟩)
  · refine ⟨k, b, bn, s, i, f, cc, x, rfl, hn.imp fun W' h => h.congr fun j hj => (e j hj).symm, fun h2 hk3 => ?_, hb⟩
    rcases h3 h2 with h | ⟨h, hfit⟩
    · exact h
    · by_cases hT0 : T = 0
      · have hfit2 : fitB kd (fun j => tidF (F j)) T = true := by
          rw [← hfit]
          unfold fitB
          rw [hT0]
          rfl
        have := hk (by omega) hfit2
        omega
      · omega
  · rw [okF_tf (hF j hj)] at h0; cases h0

end Go.Proofs.YtdddmehchfnppaaGreatDoor
namespace Go.Proofs.YtdddmehchfnppaaGreatDoor
open Go Go.RowKit Go.Proofs Fl

/-- nothing but the block g was written -/
structure Only (g : Nat) (w w' : World) : Prop where
  os : w'.os = w.os
  tape : w'.tape = w.tape
  output : w'.output = w.output
  size : w.heap.size ≤ w'.heap.size
  block : ∀ k, k < w.heap.size → k ≠ g → w'.heap[k]? = w.heap[k]?
theorem Only.refl (g : Nat) (w : World) : Only g w w := ⟨rfl, rfl, rfl, Nat.le_refl _, fun _ _ _ => rfl⟩
theorem Only.trans {g : Nat} {a b c : World} (h : Only g a b) (k : Only g b c) : Only g a c :=
  ⟨k.os.trans h.os, k.tape.trans h.tape, k.output.trans h.output, Nat.le_trans h.size k.size, fun i hi hg => (k.block i (Nat.lt_of_lt_of_le hi h.size) hg).trans (h.block i hi hg)⟩
theorem Only.set {g : Nat} {a b : World} (h : Only g a b) (i : Nat) (u : Value) : Only g a (b.setCell ⟨g, i, none⟩ u) := by
  have hb := (Below.refl g b).setCell (p := ⟨g, i, none⟩) (Nat.le_refl g) u
  exact h.trans ⟨hb.os, hb.tape, hb.output, hb.size, fun k _ hg => Below.heap_setCell _ _ _ _ hg⟩
theorem Only.below {g B : Nat} {w0 w w' : World} (h : Only g w w') (hb : Below B w0 w) (hB : B ≤ g) (hg : g < w.heap.size) : Below B w0 w' :=
  ⟨h.os.trans hb.os, h.tape.trans hb.tape, h.output.trans hb.output, Nat.le_trans hb.size h.size, fun k hk => (h.block k (by omega) (by omega)).trans (hb.block k hk)⟩
theorem Only.cell {g : Nat} {w w' : World} (h : Only g w w') {b i : Nat} {v : Value} (hc : w.cell? ⟨b, i, none⟩ = some v) (hg : b ≠ g) : w'.cell? ⟨b, i, none⟩ = some v := by
  rw [World.cell?_of_block (w := w) (h.block b (cell_lt hc) hg)]; exact hc

/-- a row of T whole numbers that the call made, at block g -/
def Row64 (w : World) (B g T : Nat) (F : Nat → Int) : Prop := Own1 w B 2 (.slice (some ⟨g, 0, none⟩) T T) ((List.range T).map fun j => .int .i64 (F j))
theorem set_map_range {T k : Nat} {f : Nat → Value} (hk : k < T) (u : Value) : ((List.range T).map f).set k u = (List.range T).map fun j => if j = k then u else f j := by
  apply List.ext_getElem?
  intro i
  rw [List.getElem?_set]
  by_cases hi : i < T
  · by_cases e : k = i
    · subst e; simp [hk]
    · have e' : ¬ i = k := fun h => e h.symm
      simp [e, e', hi]
  · have h1 : ((List.range T).map f)[i]? = none := by simp; omega
    have h2 : ((List.range T).map fun j => if j = k then u else f j)[i]? = none := by simp; omega
    rw [h2, if_neg (by omega), h1]
theorem Row64.ow {w : World} {B g T : Nat} {F : Nat → Int} (h : Row64 w B g T F) : w.ownsRow B 2 1 (.slice (some ⟨g, 0, none⟩) T T) T ((List.range T).map fun j => .int .i64 (F j)) := by
  have := h
  unfold Row64 Own1 at this
  rw [List.length_map, List.length_range] at this
  exact this
theorem Row64.of_ow {w : World} {B g T : Nat} {F : Nat → Int} (h : w.ownsRow B 2 1 (.slice (some ⟨g, 0, none⟩) T T) T ((List.range T).map fun j => .int .i64 (F j))) : Row64 w B g T F := by
  unfold Row64 Own1
  rw [List.length_map, List.length_range]
  exact h
theorem Row64.put {w : World} {B g T : Nat} {F : Nat → Int} (h : Row64 w B g T F) {k : Nat} (hk : k < T) (z : Int) : Row64 (w.setCell ⟨g, k, none⟩ (.int .i64 z)) B g T (fun j => if j = k then z else F j) := by
  have h2 := (World.ownsRow.stored h.ow k (.int .i64 z)).1
  rw [set_map_range hk] at h2
  refine Row64.of_ow ?_
  have e : ((List.range T).map fun j => Value.int .i64 (if j = k then z else F j)) = (List.range T).map fun j => if j = k then .int .i64 z else .int .i64 (F j) := by
    apply List.map_congr_left
    intro j _
    split <;> rfl
  rw [e]
  exact h2
theorem Row64.cell {w : World} {B g T : Nat} {F : Nat → Int} (h : Row64 w B g T F) {k : Nat} (hk : k < T) : w.cell? ⟨g, k, none⟩ = some (.int .i64 (F k)) := by
  have := World.ownsRow.cellAt h.ow k (by omega)
  rw [this]
  simp [hk]
theorem Row64.frozen {w : World} {B g T : Nat} {F : Nat → Int} (h : Row64 w B g T F) (k : Nat) : w.frozen? ⟨g, k, none⟩ = false := World.ownsRow.frozenAt h.ow k
theorem Row64.low {w : World} {B g T : Nat} {F : Nat → Int} (h : Row64 w B g T F) : B ≤ g ∧ g < w.heap.size := World.ownsRow.lt h.ow g rfl

/-- what a line leaves of the row: each place is as it was or as it is to be; the line's own are as they are to be -/
def LineR (w : World) (B g T at' n step : Nat) (Z F : Nat → Int) (e : Ending) (w' : World) : Prop :=
  e = .returned (.bool true) ∧ Only g w w' ∧ ∃ F', Row64 w' B g T F' ∧ (∀ i, i < n → F' (at' + i * step) = Z (at' + i * step)) ∧ ∀ j, F' j = F j ∨ F' j = Z j

theorem line_done {at' step i I : Nat} {Z F' Y : Nat → Int} {v : Int} (h2 : Y (i + 1) = v) (h3 : Z I = Y (i + 1)) (hI : I = at' + i * step) (hd : ∀ j, j < i → F' (at' + j * step) = Z (at' + j * step)) :
    ∀ j, j < i + 1 → (fun j => if j = I then v else F' j) (at' + j * step) = Z (at' + j * step) := by
  intro j hj
  show (if at' + j * step = I then v else F' (at' + j * step)) = _
  by_cases e : at' + j * step = I
  · rw [if_pos e, e, h3, h2]
  · rw [if_neg e]
    refine hd j ?_
    rcases Nat.lt_or_ge j i with h | h
    · exact h
    · obtain rfl : j = i := by omega
      exact absurd hI.symm e
theorem line_or {i I : Nat} {Z F F' Y : Nat → Int} {v : Int} (h2 : Y (i + 1) = v) (h3 : Z I = Y (i + 1)) (ho : ∀ j, F' j = F j ∨ F' j = Z j) :
    ∀ j, (fun j => if j = I then v else F' j) j = F j ∨ (fun j => if j = I then v else F' j) j = Z j := by
  intro j
  show (if j = I then v else F' j) = _ ∨ (if j = I then v else F' j) = _
  by_cases e : j = I
  · subst e; rw [if_pos rfl, h3, h2]; exact .inr rfl
  · rw [if_neg e]; exact ho j

set_option maxRecDepth 100000 in
set_option maxHeartbeats 1000000 in
theorem line_add (b o0 c T g B at' n step : Nat) (L Z F : Nat → Int) (Sz : Nat → Int) (w : World) (hT : T ≤ 1000000) (hn : n ≤ 1000)
    (hrow : Row64 w B g T F) (hbg : b ≠ g) (hc : ∀ i, i < T → w.cell? ⟨b, o0 + i, none⟩ = some (.int .i64 (L i))) (hidx : ∀ i, i < n → at' + i * step < T)
    (hLg : ∀ i, i < T → Good (L i)) (hS0 : Sz 0 = 0) (hSz : ∀ i, i < n → Sz (i + 1) = Sz i + max (L (at' + i * step)) (- L (at' + i * step))) (hSg : ∀ i, i ≤ n → Good (Sz i))
    (Y : Nat → Int) (hY0 : Y 0 = 0) (hY : ∀ i, i < n → Y (i + 1) = Y i + L (at' + i * step)) (hYg : ∀ i, i ≤ n → Good (Y i)) (hZ : ∀ i, i < n → Z (at' + i * step) = Y (i + 1)) :
    Calls Tryz.prog 72 #[.int .i64 1, .slice (some ⟨b, o0, none⟩) T c, .slice (some ⟨g, 0, none⟩) T T, .int .i64 (at' : Int), .int .i64 (n : Int), .int .i64 (step : Int)] w (LineR w B g T at' n step Z F) := by
  have HROW := Lib.hid hrow
  have HC := Lib.hid hc
  have HIX := Lib.hid hidx
  have HLG := Lib.hid hLg
  have HS0 := Lib.hid hS0
  have HSZ := Lib.hid hSz
  have HSG := Lib.hid hSg
  have HY0 := Lib.hid hY0
  have HY := Lib.hid hY
  have HYG := Lib.hid hYg
  have HZ := Lib.hid hZ
  clear hrow hc hidx hLg hS0 hSz hSg hY0 hY hYg hZ
  go_enter Tryz.func72, Tryz.ntmps72
  go_wp2_with fail
  go_loopw [13, 14, 19] (fun sz sm ii wr => ∃ i : Nat, i ≤ n ∧ ii = .int .i64 i ∧ sz = .int .i64 (Sz i) ∧ sm = .int .i64 (Y i) ∧ Only g w wr ∧ ∃ F', Row64 wr B g T F' ∧ (∀ j, j < i → F' (at' + j * step) = Z (at' + j * step)) ∧ ∀ j, F' j = F j ∨ F' j = Z j) (fun _ _ ii _ => n - (intOf ii).toNat)
  case atStart => exact ⟨0, Nat.zero_le _, rfl, by rw [HS0.out], by rw [HY0.out], Only.refl g w, F, HROW.out, fun j hj => absurd hj (Nat.not_lt_zero _), fun j => .inl rfl⟩
  case round =>
    obtain ⟨i, hi, rfl, rfl, rfl, hon, F', hrow, hdone, hor⟩ := hrel
    have HON := Lib.hid hon
    have HROW' := Lib.hid hrow
    have HDONE := Lib.hid hdone
    have HOR := Lib.hid hor
    clear hon hrow hdone hor
    by_cases hlt : i < n
    · obtain ⟨Q, eQ⟩ : ∃ Q, Q = i * step := ⟨_, rfl⟩
      obtain ⟨I, eI⟩ : ∃ I, I = at' + Q := ⟨_, rfl⟩
      have hI : I < T := by rw [eI, eQ]; exact HIX.out i hlt
      have f1 : (i : Int) * (step : Int) = (Q : Int) := by rw [eQ]; push_cast; rfl
      have f2 : (at' : Int) + (Q : Int) = (I : Int) := by rw [eI]; push_cast; rfl
      have hci := HON.out.cell (HC.out I hI) hbg
      have hco := HROW'.out.cell hI
      have hfo := HROW'.out.frozen I
      have eI' : I = at' + i * step := by rw [eI, eQ]
      have HEI := Lib.hid eI'
      have h1 := HSZ.out i hlt
      have h2 := HY.out i hlt
      have h3 := HZ.out i hlt
      rw [← eI'] at h1 h2 h3
      obtain ⟨l1, l2⟩ := HLG.out I hI
      obtain ⟨s1, s2⟩ := HSG.out i hi
      obtain ⟨s3, s4⟩ := HSG.out (i + 1) hlt
      obtain ⟨y1, y2⟩ := HYG.out i hi
      obtain ⟨y3, y4⟩ := HYG.out (i + 1) hlt
      clear eQ eI eI'
      have HAI := Lib.hid (addInt_good (Sz i) (max (L I) (-L I)) ⟨s1, s2⟩ ⟨by omega, by omega⟩ (by rw [← h1]; exact ⟨s3, s4⟩))
      have H1 := Lib.hid h1
      have H2 := Lib.hid h2
      have H3 := Lib.hid h3
      rw [h2] at y3 y4
      clear h1 h2 h3 s3 s4
      generalize L I = x at *
      go_wp2_with fail
      refine (HAI.out _).mono ?_
      rintro e w' ⟨rfl, rfl⟩
      rw [← H1.out]
      go_wp2
      go_roundw
      case rel =>
        exact ⟨i + 1, by omega, by go_num, rfl, by rw [H2.out], HON.out.set I _, _, HROW'.out.put hI _, line_done H2.out H3.out HEI.out HDONE.out, line_or H2.out H3.out HOR.out⟩
      case measure => simp [intOf]; omega
    · obtain rfl : i = n := by omega
      go_wp2
      go_ret
      exact ⟨rfl, HON.out, F', HROW'.out, HDONE.out, HOR.out⟩
theorem ofInt_64 (a : Nat) (ha : a < 18446744073709551616) : (BitVec.ofInt 64 (a : Int)).toNat = a := by
  rw [BitVec.ofInt_natCast, BitVec.toNat_ofNat]; exact Nat.mod_eq_of_lt (by omega)
theorem and_one_i64 (i : Nat) (h : i ≤ 1000000) : bits .and .i64 (i : Int) 1 = ((i % 2 : Nat) : Int) := by
  show IntKind.i64.wrap ((BitVec.ofInt 64 (i : Int) &&& BitVec.ofInt 64 ((1 : Nat) : Int)).toNat : Int) = _
  rw [BitVec.toNat_and, ofInt_64 i (by omega), ofInt_64 1 (by omega), Nat.and_one_is_mod, IntKind.wrap_i64]
  omega

set_option maxRecDepth 100000 in
set_option maxHeartbeats 1000000 in
theorem line_sub (b o0 c T g B at' n step : Nat) (L Z F : Nat → Int) (Sz : Nat → Int) (w : World) (hT : T ≤ 1000000) (hn : n ≤ 1000)
    (hrow : Row64 w B g T F) (hbg : b ≠ g) (hc : ∀ i, i < T → w.cell? ⟨b, o0 + i, none⟩ = some (.int .i64 (L i))) (hidx : ∀ i, i < n → at' + i * step < T)
    (hLg : ∀ i, i < T → Good (L i)) (hS0 : Sz 0 = 0) (hSz : ∀ i, i < n → Sz (i + 1) = Sz i + max (L (at' + i * step)) (- L (at' + i * step))) (hSg : ∀ i, i ≤ n → Good (Sz i))
    (Y : Nat → Int) (hY0 : Y 0 = 0) (hY : ∀ i, i < n → Y (i + 1) = Y i + if i % 2 = 1 then - L (at' + i * step) else L (at' + i * step)) (hYg : ∀ i, i ≤ n → Good (Y i)) (hZ : ∀ i, i < n → Z (at' + i * step) = Y (i + 1)) :
    Calls Tryz.prog 72 #[.int .i64 2, .slice (some ⟨b, o0, none⟩) T c, .slice (some ⟨g, 0, none⟩) T T, .int .i64 (at' : Int), .int .i64 (n : Int), .int .i64 (step : Int)] w (LineR w B g T at' n step Z F) := by
  have HROW := Lib.hid hrow
  have HC := Lib.hid hc
  have HIX := Lib.hid hidx
  have HLG := Lib.hid hLg
  have HS0 := Lib.hid hS0
  have HSZ := Lib.hid hSz
  have HSG := Lib.hid hSg
  have HY0 := Lib.hid hY0
  have HY := Lib.hid hY
  have HYG := Lib.hid hYg
  have HZ := Lib.hid hZ
  clear hrow hc hidx hLg hS0 hSz hSg hY0 hY hYg hZ
  go_enter Tryz.func72, Tryz.ntmps72
  go_wp2_with fail
  go_loopw [13, 14, 19] (fun sz sm ii wr => ∃ i : Nat, i ≤ n ∧ ii = .int .i64 i ∧ sz = .int .i64 (Sz i) ∧ sm = .int .i64 (Y i) ∧ Only g w wr ∧ ∃ F', Row64 wr B g T F' ∧ (∀ j, j < i → F' (at' + j * step) = Z (at' + j * step)) ∧ ∀ j, F' j = F j ∨ F' j = Z j) (fun _ _ ii _ => n - (intOf ii).toNat)
  case atStart => exact ⟨0, Nat.zero_le _, rfl, by rw [HS0.out], by rw [HY0.out], Only.refl g w, F, HROW.out, fun j hj => absurd hj (Nat.not_lt_zero _), fun j => .inl rfl⟩
  case round =>
    obtain ⟨i, hi, rfl, rfl, rfl, hon, F', hrow, hdone, hor⟩ := hrel
    have HON := Lib.hid hon
    have HROW' := Lib.hid hrow
    have HDONE := Lib.hid hdone
    have HOR := Lib.hid hor
    clear hon hrow hdone hor
    by_cases hlt : i < n
    · obtain ⟨Q, eQ⟩ : ∃ Q, Q = i * step := ⟨_, rfl⟩
      obtain ⟨I, eI⟩ : ∃ I, I = at' + Q := ⟨_, rfl⟩
      have hI : I < T := by rw [eI, eQ]; exact HIX.out i hlt
      have f1 : (i : Int) * (step : Int) = (Q : Int) := by rw [eQ]; push_cast; rfl
      have f2 : (at' : Int) + (Q : Int) = (I : Int) := by rw [eI]; push_cast; rfl
      have hci := HON.out.cell (HC.out I hI) hbg
      have hco := HROW'.out.cell hI
      have hfo := HROW'.out.frozen I
      have eI' : I = at' + i * step := by rw [eI, eQ]
      have HEI := Lib.hid eI'
      have h1 := HSZ.out i hlt
      have h2 := HY.out i hlt
      have h3 := HZ.out i hlt
      rw [← eI'] at h1 h2 h3
      obtain ⟨l1, l2⟩ := HLG.out I hI
      obtain ⟨s1, s2⟩ := HSG.out i hi
      obtain ⟨s3, s4⟩ := HSG.out (i + 1) hlt
      obtain ⟨y1, y2⟩ := HYG.out i hi
      obtain ⟨y3, y4⟩ := HYG.out (i + 1) hlt
      clear eQ eI eI'
      have HAI := Lib.hid (addInt_good (Sz i) (max (L I) (-L I)) ⟨s1, s2⟩ ⟨by omega, by omega⟩ (by rw [← h1]; exact ⟨s3, s4⟩))
      have H1 := Lib.hid h1
      have H2 := Lib.hid h2
      have H3 := Lib.hid h3
      rw [h2] at y3 y4
      clear h1 h2 h3 s3 s4
      rcases Nat.mod_two_eq_zero_or_one i with hp | hp
      · rw [if_neg (by omega)] at H2 y3 y4
        have hbit : bits .and .i64 (i : Int) 1 = 0 := by rw [and_one_i64 i (by omega), hp]; rfl
        clear hp
        generalize L I = x at *
        go_wp2_with fail
        refine (HAI.out _).mono ?_
        rintro e w' ⟨rfl, rfl⟩
        rw [← H1.out]
        go_wp2
        go_roundw
        case rel =>
          exact ⟨i + 1, by omega, by go_num, rfl, by rw [H2.out], HON.out.set I _, _, HROW'.out.put hI _, line_done H2.out H3.out HEI.out HDONE.out, line_or H2.out H3.out HOR.out⟩
        case measure => simp [intOf]; omega
      · rw [if_pos hp] at H2 y3 y4
        have hbit : bits .and .i64 (i : Int) 1 = 1 := by rw [and_one_i64 i (by omega), hp]; rfl
        clear hp
        generalize L I = x at *
        go_wp2_with fail
        rw [Int.max_comm]
        refine (HAI.out _).mono ?_
        rintro e w' ⟨rfl, rfl⟩
        rw [← H1.out]
        go_wp2
        go_roundw
        case rel =>
          exact ⟨i + 1, by omega, by go_num, rfl, by rw [H2.out], HON.out.set I _, _, HROW'.out.put hI _, line_done H2.out H3.out HEI.out HDONE.out, line_or H2.out H3.out HOR.out⟩
        case measure => simp [intOf]; omega
    · obtain rfl : i = n := by omega
      go_wp2
      go_ret
      exact ⟨rfl, HON.out, F', HROW'.out, HDONE.out, HOR.out⟩
end Go.Proofs.YtdddmehchfnppaaGreatDoor
