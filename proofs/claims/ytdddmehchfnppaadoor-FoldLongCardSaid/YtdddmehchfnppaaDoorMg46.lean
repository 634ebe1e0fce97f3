/- Merged texts. fold.Fold and the reference's Fold at numbers: both tell the same, whatever comes of it. Conditions: as each theorem says. A region that loads a Vec, calls, and puts the Vec that is told into a new variable, in whatever order. Conditions: as each theorem says. -/
import Derived.Test.YtdddmehchfnppaaDoorMg45
namespace Go.Proofs.YtdddmehchfnppaaDoor
open Go Go.RowKit Go.Proofs Fl

/-- a Vec of so many numbers, as one world has it -/
structure NumW (v : Value) (n : Nat) (F : Nat → Nat) (w : World) : Prop where
  cls : Calls Tryd.prog 27 #[v] w fun e w2 => e = .returned (.int .i64 0) ∧ Below w.heap.size w w2
  len : Calls Tryd.prog 38 #[v] w fun e w2 => e = .returned (.int .i64 n) ∧ Below w.heap.size w w2
  num : ∀ j, j < n → Calls Tryd.prog 39 #[v, .int .i64 (j : Nat)] w fun e w2 => e = .returned (.float .f64 (F j)) ∧ Below w.heap.size w w2
theorem NumV.numW {v : Value} {k : Int} {n : Nat} {F : Nat → Nat} {w : World} (h : NumV v k n F w) : NumW v n F w := ⟨h.cls, h.len, h.num⟩
theorem numW_zero (O : Nat → Nat) (w : World) : NumW (vecV 0 vnil 0 vnil vnil vnil vnil vnil) 0 O w :=
  ⟨class_0 _ _ _ _ _ _ _ w, len_0 _ _ _ _ _ _ _ w, fun _ hj => absurd hj (Nat.not_lt_zero _)⟩
theorem NumW.of {v : Value} {n : Nat} {F : Nat → Nat} {w : World} {H : Nat → Prop} (h : Keeps H w (NumW v n F)) : NumsOf w v n F :=
  ⟨fun _ hb => (h.step hb).now.cls, fun _ hb => (h.step hb).now.len, fun _ hb j hj => (h.step hb).now.num j hj⟩

/-- a Vec of numbers is told, in the least store where tight, and no trouble -/
def FoldOkH (H : Nat → Prop) (t : Prop) (N : Nat) (G : Nat → Nat) (w : World) (e : Ending) (w' : World) : Prop :=
  ∃ (k : Int) (b : Sl) (bn : Int) (s i f g x : Sl), e = .returned (.tuple #[vecW k b bn s i f g x, .int .i64 0]) ∧ Keeps H w' (NumV (vecW k b bn s i f g x) k N G) ∧ (t ∨ k = (leastF G N : Nat)) ∧ Below w.heap.size w w'
theorem vecOk_foldH {H : Nat → Prop} {t : Prop} {N : Nat} {G : Nat → Nat} {w : World} (e : Ending) (w' : World) (h : VecOk H w (fun u W => NumV u (leastF G N : Nat) N G W) e w') : FoldOkH H t N G w e w' := by
  obtain ⟨k, b, bn, s, i, f, c, x, rfl, hk, hb⟩ := h
  have e1 := hk.now.kindEq
  refine ⟨k, b, bn, s, i, f, c, x, rfl, hk.imp fun W' h => ?_, .inr e1, hb⟩
  rw [← e1] at h
  exact h
/-- a Vec whose numbers can be asked for, and a trouble's number -/
def AnyFold (H : Nat → Prop) (N : Nat) (O : Nat → Nat) (E : Int) (w : World) (e : Ending) (w' : World) : Prop :=
  ∃ (k : Int) (b : Sl) (bn : Int) (s i f g x : Sl), e = .returned (.tuple #[vecW k b bn s i f g x, .int .i64 E]) ∧ Keeps H w' (NumW (vecW k b bn s i f g x) N O) ∧ Below w.heap.size w w'
def AnyRow (N : Nat) (O : Nat → Nat) (E : Int) (w : World) (e : Ending) (w' : World) : Prop := ∃ v, e = .returned (.tuple #[v, .int .i64 E]) ∧ Reads1 w' v ((List.range N).map fun j => .float .f64 (O j)) ∧ Below w.heap.size w w'
theorem foldErr_any {H : Nat → Prop} {O : Nat → Nat} {E : Int} {w : World} (e : Ending) (w' : World) (h : FoldErr E w e w') : AnyFold H 0 O E w e w' := by
  obtain ⟨rfl, hb⟩ := h
  exact ⟨0, (none, 0, 0), 0, (none, 0, 0), (none, 0, 0), (none, 0, 0), (none, 0, 0), (none, 0, 0), rfl, fun W' _ _ => numW_zero O W', hb⟩
theorem rowErr_any {O : Nat → Nat} {E : Int} {w : World} (e : Ending) (w' : World) (h : RowErr E w e w') : AnyRow 0 O E w e w' := by
  obtain ⟨rfl, hb⟩ := h
  exact ⟨_, rfl, .inl ⟨none, 0, rfl, rfl⟩, hb⟩
theorem foldOk_any {H : Nat → Prop} {t : Prop} {N : Nat} {O : Nat → Nat} {w : World} (e : Ending) (w' : World) (h : FoldOkH H t N O w e w') : AnyFold H N O 0 w e w' := by
  obtain ⟨k, b, bn, s, i, f, g, x, rfl, hk, _, hb⟩ := h
  exact ⟨k, b, bn, s, i, f, g, x, rfl, hk.imp fun W' h => h.numW, hb⟩
theorem rowOk_any {N : Nat} {O : Nat → Nat} {w : World} (e : Ending) (w' : World) (h : RowOk N O w e w') : AnyRow N O 0 w e w' := h

/-- what both tell: a trouble, or the same numbers -/
theorem fold_all (f : Int) (T o n r : Nat) (G : Nat → Nat) (w : World) (hT : T = o * n * r) (ho : o ≤ 1000) (hn : n ≤ 1000) (hr : r ≤ 1000) (hbT : T ≤ 1000000) (hN1 : o * r ≤ 1000000) (hG : ∀ j, j < T → TF (G j)) (ht : TzTab w) :
    (∃ E : Int, E ≠ 0 ∧ (∀ (W : World) (H : Nat → Prop) k b bn s i f' g x, Below w.heap.size w W → (∀ b, H b → b < W.heap.size) → (2 ≤ n → k = 3 → 0 < T) → Keeps H W (NumV (vecW k b bn s i f' g x) k T G) → Calls Tryd.prog 10 #[.int .i64 f, vecW k b bn s i f' g x, .int .i64 (o : Int), .int .i64 (n : Int), .int .i64 (r : Int)] W (FoldErr E W)) ∧
      (∀ W v, Below w.heap.size w W → Reads1 W v ((List.range T).map fun j => .float .f64 (G j)) → Calls Tryd.prog 11 #[.int .i64 f, v, .int .i64 (o : Int), .int .i64 (n : Int), .int .i64 (r : Int)] W (RowErr E W))) ∨
    (∃ O, (∀ j, j < o * r → TF (O j)) ∧ (∀ (W : World) (H : Nat → Prop) k b bn s i f' g x, Below w.heap.size w W → (∀ b, H b → b < W.heap.size) → (2 ≤ n → k = 3 → 0 < T) → Keeps H W (NumV (vecW k b bn s i f' g x) k T G) → Calls Tryd.prog 10 #[.int .i64 f, vecW k b bn s i f' g x, .int .i64 (o : Int), .int .i64 (n : Int), .int .i64 (r : Int)] W (FoldOkH H (n = 1) (o * r) O W)) ∧
      (∀ W v, Below w.heap.size w W → Reads1 W v ((List.range T).map fun j => .float .f64 (G j)) → Calls Tryd.prog 11 #[.int .i64 f, v, .int .i64 (o : Int), .int .i64 (n : Int), .int .i64 (r : Int)] W (RowOk (o * r) O W))) := by
  cases hkn : knownB f with
  | false =>
    exact .inl ⟨1, by decide, fun W H k b bn s i f' g x hb hH _ hN => fold_unknown f hkn _ _ _ _ _ _ _ _ _ _ _ W, fun W v hb hv => rfold_unknown f hkn _ _ _ _ W⟩
  | true =>
    by_cases hq0 : n = 0
    · subst hq0
      have hT0 : T = 0 := by rw [hT]; simp
      cases hs : startF f with
      | none =>
        refine .inl ⟨24, by decide, fun W H k b bn s i f' g x hb hH _ hN => ?_, fun W v hb hv => rfold_start f hkn hs _ _ _ W⟩
        refine (fold_none H f hkn k b bn s i f' g x T o r G W hH ho hr hN1 (fun W' h => numX_of (hN.step h).now)).mono ?_
        rw [hs]
        rintro e w' (⟨x, h, _⟩ | ⟨_, rfl, hb⟩)
        · cases h
        · exact ⟨rfl, hb⟩
      | some x =>
        refine .inr ⟨fun _ => x, fun _ _ => startF_tf hs, fun W H k b bn s i f' g x' hb hH _ hN => ?_, fun W v hb hv => ?_⟩
        · refine (fold_none H f hkn k b bn s i f' g x' T o r G W hH ho hr hN1 (fun W' h => numX_of (hN.step h).now)).mono ?_
          rw [hs]
          rintro e w' (⟨y, h, hv⟩ | ⟨h, _⟩)
          · injection h with h
            subst h
            exact vecOk_foldH e w' hv
          · cases h
        · subst hT0
          exact (rfold_none f hkn x hs v o r W ho hr hN1 hv).mono (rowOk_of fun _ _ => rfl)
    · by_cases hq1 : n = 1
      · subst hq1
        have hTor : T = o * r := by rw [hT, Nat.mul_one]
        have hrow : ∀ cc, cc < o * r → rowsR (oneP pwP f) G 1 r cc = some (G cc) := by
          intro cc hcc
          have e : cc / r * 1 * r + cc % r + (1 - 1) * r = cc := by
            rw [Nat.mul_one, Nat.sub_self, Nat.zero_mul, Nat.add_zero, Nat.mul_comm]
            exact Nat.div_add_mod cc r
          show some (G (cc / r * 1 * r + cc % r + (1 - 1) * r)) = _
          rw [e]
        refine .inr ⟨G, fun j hj => hG j (by omega), fun W H k b bn s i f' g x hb hH _ hN => ?_, fun W v hb hv => ?_⟩
        · refine (fold_one f hkn k b bn s i f' g x T o r G W (fun W' h => numX_of (hN.step h).now)).mono ?_
          rintro e w' ⟨rfl, hb⟩
          rw [← hTor]
          exact ⟨k, b, bn, s, i, f', g, x, rfl, hN.step hb, .inl rfl, hb⟩
        · exact (rfold_num f hkn v T o 1 r G W hT (Nat.le_refl _) ho (by omega) hr hbT hN1 hv hG).mono (rowOk_of hrow)
      · have hF2 : ∀ (W : World) (H : Nat → Prop) (k : Int) (b : Sl) (bn : Int) (s i f' g x : Sl), Below w.heap.size w W → (∀ b, H b → b < W.heap.size) → (2 ≤ n → k = 3 → 0 < T) → Keeps H W (NumV (vecW k b bn s i f' g x) k T G) → Calls Tryd.prog 10 #[.int .i64 f, vecW k b bn s i f' g x, .int .i64 (o : Int), .int .i64 (n : Int), .int .i64 (r : Int)] W (FlOut H W (oneP pwP f) G n r (o * r)) := by
          intro W H k b bn s i f' g x hb hH h3 hN
          exact fold_two powIs H f hkn k b bn s i f' g x T o n r G W hH hT (by omega) ho hn hr hbT hN1 (h3 (by omega)) (fun W' h => numX_of (hN.step h).now) (ht.below hb)
        have hR2 : ∀ W v, Below w.heap.size w W → Reads1 W v ((List.range T).map fun j => .float .f64 (G j)) → Calls Tryd.prog 11 #[.int .i64 f, v, .int .i64 (o : Int), .int .i64 (n : Int), .int .i64 (r : Int)] W (RfOut (o * r) (rowsR (oneP pwP f) G n r) W) :=
          fun W v hb hv => rfold_num f hkn v T o n r G W hT (by omega) ho hn hr hbT hN1 hv hG
        by_cases hyes : ∀ cc, cc < o * r → ∃ y, rowsR (oneP pwP f) G n r cc = some y
        · have hrow : ∀ cc, cc < o * r → rowsR (oneP pwP f) G n r cc = some (outF (oneP pwP f) G n r cc) := by
            intro cc hcc
            obtain ⟨y, hy⟩ := hyes cc hcc
            rw [outF_some hy]; exact hy
          refine .inr ⟨outF (oneP pwP f) G n r, fun cc hcc => ?_, fun W H k b bn s i f' g x hb hH h3 hN => ?_, fun W v hb hv => (hR2 W v hb hv).mono (rowOk_of hrow)⟩
          · have h1 := hrow cc hcc
            refine stepsR_tf powIs (n := n) (x := lineF G n r (cc / r) (cc % r)) (by omega) (fun i hi => hG _ ?_) (n - 1) (Nat.le_refl _) _ h1
            rw [hT]
            have r0 : 0 < r := by
              rcases Nat.eq_zero_or_pos r with e | e
              · subst e; simp at hcc
              · exact e
            have c1 : cc / r < o := Nat.div_lt_of_lt_mul (by rw [Nat.mul_comm]; exact hcc)
            have c2 : cc % r < r := Nat.mod_lt _ r0
            have h1 : cc / r * n + i + 1 ≤ o * n := by
              have : (cc / r + 1) * n ≤ o * n := Nat.mul_le_mul_right _ c1
              rw [Nat.add_mul] at this
              omega
            have h2 : (cc / r * n + i + 1) * r ≤ o * n * r := Nat.mul_le_mul_right _ h1
            rw [Nat.add_mul, Nat.add_mul] at h2
            omega
          · refine (hF2 W H k b bn s i f' g x hb hH h3 hN).mono ?_
            rintro e w' (⟨_, hv⟩ | ⟨⟨cc, hcc, h0⟩, _⟩)
            · exact vecOk_foldH e w' hv
            · rw [hrow cc hcc] at h0; cases h0
        · have hbad : ∃ cc, cc < o * r ∧ rowsR (oneP pwP f) G n r cc = none := by
            obtain ⟨cc, h1⟩ := Classical.not_forall.1 hyes
            obtain ⟨h2, h3⟩ := Classical.not_imp.1 h1
            refine ⟨cc, h2, ?_⟩
            cases he : rowsR (oneP pwP f) G n r cc with
            | none => rfl
            | some y => exact absurd ⟨y, he⟩ h3
          refine .inl ⟨24, by decide, fun W H k b bn s i f' g x hb hH h3 hN => ?_, fun W v hb hv => (hR2 W v hb hv).mono (rowErr_of hbad)⟩
          refine (hF2 W H k b bn s i f' g x hb hH h3 hN).mono ?_
          rintro e w' (⟨hall, _⟩ | ⟨_, rfl, hb⟩)
          · obtain ⟨cc, hcc, h0⟩ := hbad
            obtain ⟨y, hy⟩ := hall cc hcc
            rw [h0] at hy; cases hy
          · exact ⟨rfl, hb⟩
theorem fold_same (f : Int) (T o n r : Nat) (G : Nat → Nat) (w : World) (hT : T = o * n * r) (ho : o ≤ 1000) (hn : n ≤ 1000) (hr : r ≤ 1000) (hbT : T ≤ 1000000) (hN1 : o * r ≤ 1000000) (hG : ∀ j, j < T → TF (G j)) (ht : TzTab w) :
    ∃ (N : Nat) (O : Nat → Nat) (E : Int), N ≤ 1000000 ∧ (∀ j, j < N → TF (O j)) ∧ (∀ (W : World) (H : Nat → Prop) k b bn s i f' g x, Below w.heap.size w W → (∀ b, H b → b < W.heap.size) → (2 ≤ n → k = 3 → 0 < T) → Keeps H W (NumV (vecW k b bn s i f' g x) k T G) → Calls Tryd.prog 10 #[.int .i64 f, vecW k b bn s i f' g x, .int .i64 (o : Int), .int .i64 (n : Int), .int .i64 (r : Int)] W (AnyFold H N O E W)) ∧
      (∀ W v, Below w.heap.size w W → Reads1 W v ((List.range T).map fun j => .float .f64 (G j)) → Calls Tryd.prog 11 #[.int .i64 f, v, .int .i64 (o : Int), .int .i64 (n : Int), .int .i64 (r : Int)] W (AnyRow N O E W)) := by
  rcases fold_all f T o n r G w hT ho hn hr hbT hN1 hG ht with ⟨E, _, h1, h2⟩ | ⟨O, h0, h1, h2⟩
  · exact ⟨0, fun _ => 0, E, by omega, fun j hj => absurd hj (Nat.not_lt_zero _), fun W H k b bn s i f' g x hb hH h3 hN => (h1 W H k b bn s i f' g x hb hH h3 hN).mono foldErr_any, fun W v hb hv => (h2 W v hb hv).mono rowErr_any⟩
  · exact ⟨o * r, O, 0, hN1, h0, fun W H k b bn s i f' g x hb hH h3 hN => (h1 W H k b bn s i f' g x hb hH h3 hN).mono foldOk_any, fun W v hb hv => (h2 W v hb hv).mono rowOk_any⟩
end Go.Proofs.YtdddmehchfnppaaDoor
namespace Go.Proofs.YtdddmehchfnppaaDoor
open Go Go.RowKit Go.Proofs Fl

/-- the Vec that is loaded still lies in its block, and nothing older was written -/
structure LdS (w0 : World) (G : Nat) (k : Int) (b : Value) (bn : Int) (s i f c x : Value) (W : World) : Prop where
  box : Boxed W G k b bn s i f c x
  bel : Below w0.heap.size w0 W
  old : G < w0.heap.size
theorem LdS.new {w0 : World} {G : Nat} {k : Int} {b : Value} {bn : Int} {s i f c x : Value} (h : Boxed w0 G k b bn s i f c x) : LdS w0 G k b bn s i f c x w0 := ⟨h, Below.refl _ _, h.lt⟩
theorem LdS.step {w0 W W' : World} {G : Nat} {k : Int} {b : Value} {bn : Int} {s i f c x : Value} (h : LdS w0 G k b bn s i f c x W) (hb : Below W.heap.size W W') : LdS w0 G k b bn s i f c x W' := ⟨h.box.below hb, bel_both h.bel hb, h.old⟩
theorem LdS.al {w0 W : World} {G : Nat} {k : Int} {b : Value} {bn : Int} {s i f c x : Value} (h : LdS w0 G k b bn s i f c x W) (o : Obj) : LdS w0 G k b bn s i f c x (W.alloc o) := h.step (bel1 W o)
theorem LdS.dr {w0 W : World} {G : Nat} {k : Int} {b : Value} {bn : Int} {s i f c x : Value} (h : LdS w0 G k b bn s i f c x W) : LdS w0 G k b bn s i f c x W.drew := h.step (Below.refl _ W).drew
theorem LdS.put {w0 W : World} {G : Nat} {k : Int} {b : Value} {bn : Int} {s i f c x : Value} (h : LdS w0 G k b bn s i f c x W) {g j : Nat} (ha : w0.heap.size ≤ g) (u : Value) : LdS w0 G k b bn s i f c x (W.setCell ⟨g, j, none⟩ u) :=
  ⟨h.box.set (by show g ≠ _; have := h.old; omega) u, h.bel.setCell (by show _ ≤ g; omega) u, h.old⟩
theorem LdS.put8 {w0 W : World} {G : Nat} {k : Int} {b : Value} {bn : Int} {s i f c x : Value} (h : LdS w0 G k b bn s i f c x W) {g : Nat} (ha : w0.heap.size ≤ g) (a0 a1 a2 a3 a4 a5 a6 a7 : Value) : LdS w0 G k b bn s i f c x (set8 W g a0 a1 a2 a3 a4 a5 a6 a7) :=
  (((((((h.put ha _).put ha _).put ha _).put ha _).put ha _).put ha _).put ha _).put ha _
theorem LdS.self {w0 W : World} {G : Nat} {k : Int} {b : Value} {bn : Int} {s i f c x : Value} (h : LdS w0 G k b bn s i f c x W) : LdS w0 G k b bn s i f c x W := h
theorem LdS.sz {w0 W : World} {G : Nat} {k : Int} {b : Value} {bn : Int} {s i f c x : Value} (h : LdS w0 G k b bn s i f c x W) : w0.heap.size ≤ W.heap.size := h.bel.size
theorem ld_s {w0 W : World} {G : Nat} {k : Int} {b : Value} {bn : Int} {s i f c x : Value} (h : LdS w0 G k b bn s i f c x W) : (W.cell? ⟨G, 0, none⟩ = some (.int .i64 k) ∧ W.cell? ⟨G, 1, none⟩ = some b ∧ W.cell? ⟨G, 2, none⟩ = some (.int .i64 bn) ∧ W.cell? ⟨G, 3, none⟩ = some s ∧ W.cell? ⟨G, 4, none⟩ = some i ∧ W.cell? ⟨G, 5, none⟩ = some f ∧ W.cell? ⟨G, 6, none⟩ = some c ∧ W.cell? ⟨G, 7, none⟩ = some x) ∧ LdS w0 G k b bn s i f c x W := ⟨h.box, h⟩

/-- behind the region: a new variable holds the Vec that was told -/
def VcMid (H : Nat → Prop) (w0 : World) (R : Value → World → Prop) (p : Value) (wx : World) : Prop :=
  ∃ (G : Nat) (k : Int) (b : Sl) (bn : Int) (s i f c x : Sl), p = .pointer (some ⟨G, 0, none⟩) ∧ wx.heap[G]? = some (.cells #[.int .i64 k, .slice b.1 b.2.1 b.2.2, .int .i64 bn, .slice s.1 s.2.1 s.2.2, .slice i.1 i.2.1 i.2.2, .slice f.1 f.2.1 f.2.2, .slice c.1 c.2.1 c.2.2, .slice x.1 x.2.1 x.2.2] 35) ∧ w0.heap.size ≤ G ∧
    Keeps H wx (R (vecW k b bn s i f c x)) ∧ Below w0.heap.size w0 wx

theorem vcMid_set {H : Nat → Prop} {w0 W w2 : World} {R : Value → World → Prop} {G Z : Nat} {k : Int} {b : Value} {bn : Int} {s i f c x : Value} {k2 : Int} {b2 : Sl} {bn2 : Int} {s2 i2 f2 c2 x2 : Sl} (hG : w0.heap.size ≤ Z) (hGW : Z < W.heap.size)
    (h1 : w2.heap[Z]? = some (.cells zcells 35)) (hs : LdS w0 G k b bn s i f c x w2) (hk : Keeps (Hole H w0 W) w2 (R (vecW k2 b2 bn2 s2 i2 f2 c2 x2))) :
    VcMid H w0 R (.pointer (some ⟨Z, 0, none⟩)) (set8 w2 Z (.int .i64 k2) (.slice b2.1 b2.2.1 b2.2.2) (.int .i64 bn2) (.slice s2.1 s2.2.1 s2.2.2) (.slice i2.1 i2.2.1 i2.2.2) (.slice f2.1 f2.2.1 f2.2.2) (.slice c2.1 c2.2.1 c2.2.2) (.slice x2.1 x2.2.1 x2.2.2)) :=
  ⟨Z, k2, b2, bn2, s2, i2, f2, c2, x2, rfl, set8_block h1 _ _ _ _ _ _ _ _, hG, (hk.set8 (.inr ⟨hG, hGW⟩) _ _ _ _ _ _ _ _).sub fun _ _ e => .inl e, (hs.put8 hG _ _ _ _ _ _ _ _).bel⟩
theorem vcMid_new {H : Nat → Prop} {w0 W w2 : World} {R : Value → World → Prop} {G : Nat} {k : Int} {b : Value} {bn : Int} {s i f c x : Value} {k2 : Int} {b2 : Sl} {bn2 : Int} {s2 i2 f2 c2 x2 : Sl}
    (hs : LdS w0 G k b bn s i f c x w2) (hk : Keeps (Hole H w0 W) w2 (R (vecW k2 b2 bn2 s2 i2 f2 c2 x2))) :
    VcMid H w0 R (.pointer (some ⟨w2.heap.size, 0, none⟩)) (w2.alloc (.cells #[.int .i64 k2, .slice b2.1 b2.2.1 b2.2.2, .int .i64 bn2, .slice s2.1 s2.2.1 s2.2.2, .slice i2.1 i2.2.1 i2.2.2, .slice f2.1 f2.2.1 f2.2.2, .slice c2.1 c2.2.1 c2.2.2, .slice x2.1 x2.2.1 x2.2.2] 35)) :=
  ⟨w2.heap.size, k2, b2, bn2, s2, i2, f2, c2, x2, rfl, heap_alloc_new w2 _, hs.sz, (hk.sub fun _ _ e => .inl e).step (bel1 w2 _), (hs.al _).bel⟩
theorem blk_al {w1 w2 : World} {o : Obj} (hb : Below (w1.alloc o).heap.size (w1.alloc o) w2) : w2.heap[w1.heap.size]? = some o := block_up hb
theorem blk_dr {w1 w2 : World} {o : Obj} (hb : Below (w1.alloc o).drew.heap.size (w1.alloc o).drew w2) : w2.heap[w1.heap.size]? = some o := by
  rw [hb.block _ (by simp [World.drew])]
  exact heap_alloc_new w1 o
theorem lt_al (w1 : World) (o : Obj) : w1.heap.size < (w1.alloc o).heap.size := by simp
theorem lt_dr (w1 : World) (o : Obj) : w1.heap.size < (w1.alloc o).drew.heap.size := by simp [World.drew]
theorem le_dr (w1 : World) : w1.heap.size ≤ w1.drew.heap.size := (show Below w1.heap.size w1 w1.drew from (Below.refl _ _).drew).size
end Go.Proofs.YtdddmehchfnppaaDoor
