/- The walk of arith.floats. Conditions: as each theorem says. -/
import Derived.Test.YtdddmehchfnppaaGreatDoorMg40
import Derived.Test.YtdddmehchfnppaaGreatDoorMg25
import Derived.Deep.RegionHeld3
import Derived.Deep.CutRange
namespace Go.Proofs.YtdddmehchfnppaaGreatDoor
open Go Go.RowKit Go.Proofs Fl

/-- what a function of two lists, element by element, tells -/
def ArOut (H : Nat → Prop) (w : World) (R : Nat → Nat × Int) (N : Nat) (e : Ending) (w' : World) : Prop :=
  ((∀ c, c < N → (R c).2 = 0) ∧ VecOk H w (fun u W => NumV u (leastF (fun c => (R c).1) N : Nat) N (fun c => (R c).1) W) e w') ∨
  ((∃ c, c < N ∧ (R c).2 ≠ 0) ∧ e = .returned (.tuple #[vecV 0 vnil 0 vnil vnil vnil vnil vnil, .int .i64 24]) ∧ Below w.heap.size w w')

/-- the two boxes, and the row that is being filled -/
structure Ar2 (w : World) (p q : V8) (e : TypeId) (f : Nat → Value) (z : Value) (N c : Nat) (W : World) : Prop where
  st : St2 w W p q
  fill : Fill W (w.heap.size + 3) (w.heap.size + 3) e f z N c
theorem Ar2.step {w W W' : World} {p q : V8} {e : TypeId} {f : Nat → Value} {z : Value} {N c : Nat} (h : Ar2 w p q e f z N c W) (hb : Below W.heap.size W W') : Ar2 w p q e f z N c W' := ⟨h.st.step hb, h.fill.below hb⟩
theorem Ar2.dr {w W : World} {p q : V8} {e : TypeId} {f : Nat → Value} {z : Value} {N c : Nat} (h : Ar2 w p q e f z N c W) : Ar2 w p q e f z N c W.drew := h.step (Below.refl _ W).drew
theorem Ar2.self {w W : World} {p q : V8} {e : TypeId} {f : Nat → Value} {z : Value} {N c : Nat} (h : Ar2 w p q e f z N c W) : Ar2 w p q e f z N c W := h
theorem ar2_s {w W : World} {p q : V8} {e : TypeId} {f : Nat → Value} {z : Value} {N c : Nat} (h : Ar2 w p q e f z N c W) : ((W.cell? ⟨w.heap.size, 0, none⟩ = some (.int .i64 p.k) ∧ W.cell? ⟨w.heap.size, 1, none⟩ = some (.slice p.b.1 p.b.2.1 p.b.2.2) ∧ W.cell? ⟨w.heap.size, 2, none⟩ = some (.int .i64 p.bn) ∧ W.cell? ⟨w.heap.size, 3, none⟩ = some (.slice p.s.1 p.s.2.1 p.s.2.2) ∧ W.cell? ⟨w.heap.size, 4, none⟩ = some (.slice p.i.1 p.i.2.1 p.i.2.2) ∧ W.cell? ⟨w.heap.size, 5, none⟩ = some (.slice p.f.1 p.f.2.1 p.f.2.2) ∧ W.cell? ⟨w.heap.size, 6, none⟩ = some (.slice p.c.1 p.c.2.1 p.c.2.2) ∧ W.cell? ⟨w.heap.size, 7, none⟩ = some (.slice p.x.1 p.x.2.1 p.x.2.2)) ∧ (W.cell? ⟨w.heap.size + 1, 0, none⟩ = some (.int .i64 q.k) ∧ W.cell? ⟨w.heap.size + 1, 1, none⟩ = some (.slice q.b.1 q.b.2.1 q.b.2.2) ∧ W.cell? ⟨w.heap.size + 1, 2, none⟩ = some (.int .i64 q.bn) ∧ W.cell? ⟨w.heap.size + 1, 3, none⟩ = some (.slice q.s.1 q.s.2.1 q.s.2.2) ∧ W.cell? ⟨w.heap.size + 1, 4, none⟩ = some (.slice q.i.1 q.i.2.1 q.i.2.2) ∧ W.cell? ⟨w.heap.size + 1, 5, none⟩ = some (.slice q.f.1 q.f.2.1 q.f.2.2) ∧ W.cell? ⟨w.heap.size + 1, 6, none⟩ = some (.slice q.c.1 q.c.2.1 q.c.2.2) ∧ W.cell? ⟨w.heap.size + 1, 7, none⟩ = some (.slice q.x.1 q.x.2.1 q.x.2.2))) ∧ Ar2 w p q e f z N c W := ⟨⟨h.st.one, h.st.two⟩, h⟩
theorem Ar2.new (w : World) (p q : V8) (e : TypeId) (f : Nat → Value) (z : Value) (N : Nat) (hN : N ≤ maxLen) : Ar2 w p q e f z N 0 ((((w.alloc p.o).alloc q.o).alloc (.cells zcells 32)).alloc (.cells (madeCells #[z] N) e)) := by
  have h := Fill.made (((w.alloc p.o).alloc q.o).alloc (.cells zcells 32)) (w.heap.size + 3) (by simp) e f z N hN
  have e3 : (((w.alloc p.o).alloc q.o).alloc (.cells zcells 32)).heap.size = w.heap.size + 3 := by simp
  rw [e3] at h
  exact ⟨(St2.new w p q).al _, h⟩
theorem Ar2.put {w W : World} {p q : V8} {e : TypeId} {f : Nat → Value} {z : Value} {N c : Nat} (h : Ar2 w p q e f z N c W) (hc : c < N) : Ar2 w p q e f z N (c + 1) (W.setCell ⟨w.heap.size + 3, c, none⟩ (f c)) :=
  ⟨h.st.put (Nat.le_refl _) _, h.fill.put hc⟩
/-- behind the region: the outcome of one element -/
def ArMid (w : World) (p q : V8) (e : TypeId) (f : Nat → Value) (z : Value) (N c : Nat) (y : Nat) (E : Int) (x er : Value) (W : World) : Prop := x = .float .f64 y ∧ er = .int .i64 E ∧ Ar2 w p q e f z N c W
theorem arMid_of {w W : World} {p q : V8} {e : TypeId} {f : Nat → Value} {z : Value} {N c y : Nat} {E : Int} (h : Ar2 w p q e f z N c W) : ArMid w p q e f z N c y E (.float .f64 y) (.int .i64 E) W := ⟨rfl, rfl, h⟩

set_option maxRecDepth 100000 in
set_option maxHeartbeats 4000000 in
theorem afloats_any (H : Nat → Prop) (f : Int) (R : Nat → Nat × Int) (p q : V8) (m n N : Nat) (F G : Nat → Nat) (w : World) (hH : ∀ b, H b → b < w.heap.size) (hL : lenP m n = some N) (hm : m ≤ 1000000) (hn : n ≤ 1000000)
    (hP : ∀ W, Below w.heap.size w W → NumW p.v m F W) (hQ : ∀ W, Below w.heap.size w W → NumW q.v n G W)
    (hone : ∀ c, c < N → ∀ W, Calls Tryz.prog 42 #[.int .i64 f, .float .f64 (F (ixP m c)), .float .f64 (G (ixP n c))] W fun e w' => e = .returned (.tuple #[.float .f64 (R c).1, .int .i64 (R c).2]) ∧ W = w')
    (hR : ∀ c, c < N → ∃ y E, R c = (y, E) ∧ ((TF y ∧ E = 0) ∨ (y = 0 ∧ E = 24))) :
    Calls Tryz.prog 94 #[.int .i64 f, .int .i64 (N : Int), p.v, q.v] w (ArOut H w R N) := by
  have hNb : N ≤ 1000000 := lenP_le hL hm hn
  have HP := Lib.hid hP
  have HQ := Lib.hid hQ
  have HONE := Lib.hid hone
  have HR := Lib.hid hR
  have HH := Lib.hid hH
  have HIX := Lib.hid (fun c (hc : c < N) => ixP_lt hL hc)
  have hmk := run_make_row' (P := Tryz.prog) 22 47 (.float .f64 0) 8 Tryz.underlying22 info_f64 rfl .i64 .i64 N (by omega) (by omega)
  obtain ⟨ff, hff⟩ : ∃ ff : Nat → Value, ff = fun c => .float .f64 (R c).1 := ⟨_, rfl⟩
  have HFF : Hid (∀ c, ff c = .float .f64 (R c).1) := fun c => by rw [hff]
  clear hff
  have HA0 := Lib.hid (Ar2.new w p q 47 ff (.float .f64 0) N (by unfold maxLen; omega))
  clear hP hQ hone hR hH hL
  go_enter Tryz.func94, Tryz.ntmps94
  go_wp2
  go_loopw [20] (fun j wr => ∃ c : Nat, c ≤ N ∧ j = .int .i64 c ∧ Ar2 w p q 47 ff (.float .f64 0) N c wr ∧ ∀ cc, cc < c → (R cc).2 = 0) (fun j _ => N - (intOf j).toNat)
  case atStart => exact ⟨0, Nat.zero_le _, rfl, HA0.out, fun cc h => absurd h (Nat.not_lt_zero _)⟩
  case round =>
    clear HA0
    obtain ⟨c, hc, rfl, har, hall⟩ := hrel
    have HAR := Lib.hid har
    have HALL := Lib.hid hall
    clear har hall
    by_cases hlt : c < N
    · obtain ⟨hi1, hi2⟩ := HIX.out c hlt
      have HAP := Lib.hid (fun W (hs : Ar2 w p q 47 ff (.float .f64 0) N c W) => at_any p m c W (fun W' hb => (HP.out W' (bel_both hs.st.bel hb)).len))
      have HAQ := Lib.hid (fun W (hs : Ar2 w p q 47 ff (.float .f64 0) N c W) => at_any q n c W (fun W' hb => (HQ.out W' (bel_both hs.st.bel hb)).len))
      have HNP := Lib.hid (fun W (hs : Ar2 w p q 47 ff (.float .f64 0) N c W) => (HP.out W hs.st.bel).num (ixP m c) hi1)
      have HNQ := Lib.hid (fun W (hs : Ar2 w p q 47 ff (.float .f64 0) N c W) => (HQ.out W hs.st.bel).num (ixP n c) hi2)
      obtain ⟨y, E, hrc, hcase⟩ := HR.out c hlt
      have HO : Hid (∀ W, Calls Tryz.prog 42 #[.int .i64 f, .float .f64 (F (ixP m c)), .float .f64 (G (ixP n c))] W fun e w' => e = .returned (.tuple #[.float .f64 y, .int .i64 E]) ∧ W = w') := by
        have h := HONE.out c hlt
        rw [hrc] at h
        exact h
      have HRC := Lib.hid hrc
      have HCASE := Lib.hid hcase
      have HFC : Hid (ff c = .float .f64 y) := by
        show _ = _
        rw [HFF.out, HRC.out]
      clear hrc hcase hi1 hi2
      generalize F (ixP m c) = xa at *
      generalize G (ixP n c) = xb at *
      generalize ixP m c = ia at *
      generalize ixP n c = ib at *
      go_wp2_with fail
      go_cut [12, 13] from 23 to 46 (fun x er wx => ArMid w p q 47 ff (.float .f64 0) N c y E x er wx)
      case first =>
        have hs0 := HAR.out.dr
        have hs00 := HAR.out
        go_region_held3 (fun W => ((W.cell? ⟨w.heap.size, 0, none⟩ = some (.int .i64 p.k) ∧ W.cell? ⟨w.heap.size, 1, none⟩ = some (.slice p.b.1 p.b.2.1 p.b.2.2) ∧ W.cell? ⟨w.heap.size, 2, none⟩ = some (.int .i64 p.bn) ∧ W.cell? ⟨w.heap.size, 3, none⟩ = some (.slice p.s.1 p.s.2.1 p.s.2.2) ∧ W.cell? ⟨w.heap.size, 4, none⟩ = some (.slice p.i.1 p.i.2.1 p.i.2.2) ∧ W.cell? ⟨w.heap.size, 5, none⟩ = some (.slice p.f.1 p.f.2.1 p.f.2.2) ∧ W.cell? ⟨w.heap.size, 6, none⟩ = some (.slice p.c.1 p.c.2.1 p.c.2.2) ∧ W.cell? ⟨w.heap.size, 7, none⟩ = some (.slice p.x.1 p.x.2.1 p.x.2.2)) ∧ (W.cell? ⟨w.heap.size + 1, 0, none⟩ = some (.int .i64 q.k) ∧ W.cell? ⟨w.heap.size + 1, 1, none⟩ = some (.slice q.b.1 q.b.2.1 q.b.2.2) ∧ W.cell? ⟨w.heap.size + 1, 2, none⟩ = some (.int .i64 q.bn) ∧ W.cell? ⟨w.heap.size + 1, 3, none⟩ = some (.slice q.s.1 q.s.2.1 q.s.2.2) ∧ W.cell? ⟨w.heap.size + 1, 4, none⟩ = some (.slice q.i.1 q.i.2.1 q.i.2.2) ∧ W.cell? ⟨w.heap.size + 1, 5, none⟩ = some (.slice q.f.1 q.f.2.1 q.f.2.2) ∧ W.cell? ⟨w.heap.size + 1, 6, none⟩ = some (.slice q.c.1 q.c.2.1 q.c.2.2) ∧ W.cell? ⟨w.heap.size + 1, 7, none⟩ = some (.slice q.x.1 q.x.2.1 q.x.2.2))) ∧ Ar2 w p q 47 ff (.float .f64 0) N c W)
          (first | (with_reducible assumption) | (with_reducible (refine ar2_s ?_); repeat (first | (with_reducible assumption) | (with_reducible refine Ar2.dr ?_))))
          (first
            | (go_at_call 42; (with_reducible refine (HO.out _).mono ?_); rintro e w5 ⟨rfl, rfl⟩)
            | (go_at_call 121; (with_reducible refine (HAP.out _ ?_).mono ?_); exact Ar2.self (by repeat (first | (with_reducible assumption) | (with_reducible refine Ar2.dr ?_))); rintro e w1 ⟨rfl, hb1⟩; obtain ⟨hc1, hf1⟩ := bcell2 hb1; have hz1 := hb1.size; have hst1 : Ar2 w p q 47 ff (.float .f64 0) N c w1 := Ar2.step (by repeat (first | (with_reducible assumption) | (with_reducible refine Ar2.dr ?_))) hb1; clear hb1)
            | (go_at_call 121; (with_reducible refine (HAQ.out _ ?_).mono ?_); exact Ar2.self (by repeat (first | (with_reducible assumption) | (with_reducible refine Ar2.dr ?_))); rintro e w2 ⟨rfl, hb2⟩; obtain ⟨hc2, hf2⟩ := bcell2 hb2; have hz2 := hb2.size; have hst2 : Ar2 w p q 47 ff (.float .f64 0) N c w2 := Ar2.step (by repeat (first | (with_reducible assumption) | (with_reducible refine Ar2.dr ?_))) hb2; clear hb2)
            | (go_at_call 28; (with_reducible refine (HNP.out _ ?_).mono ?_); exact Ar2.self (by repeat (first | (with_reducible assumption) | (with_reducible refine Ar2.dr ?_))); rintro e w3 ⟨rfl, hb3⟩; obtain ⟨hc3, hf3⟩ := bcell2 hb3; have hz3 := hb3.size; have hst3 : Ar2 w p q 47 ff (.float .f64 0) N c w3 := Ar2.step (by repeat (first | (with_reducible assumption) | (with_reducible refine Ar2.dr ?_))) hb3; clear hb3)
            | (go_at_call 28; (with_reducible refine (HNQ.out _ ?_).mono ?_); exact Ar2.self (by repeat (first | (with_reducible assumption) | (with_reducible refine Ar2.dr ?_))); rintro e w4 ⟨rfl, hb4⟩; obtain ⟨hc4, hf4⟩ := bcell2 hb4; have hz4 := hb4.size; have hst4 : Ar2 w p q 47 ff (.float .f64 0) N c w4 := Ar2.step (by repeat (first | (with_reducible assumption) | (with_reducible refine Ar2.dr ?_))) hb4; clear hb4))
        all_goals
          go_wp2
          go_meet
          first
            | (with_reducible exact arMid_of hst4)
            | (with_reducible exact arMid_of hst3)
            | (with_reducible exact arMid_of hst2)
            | (with_reducible exact arMid_of hst1)
      case rest =>
        obtain ⟨rfl, rfl, har⟩ := hcut
        have HAR2 := Lib.hid har
        clear har HAR HAP HAQ HNP HNQ HO
        rcases HCASE.out with ⟨htf, rfl⟩ | ⟨rfl, rfl⟩
        · have hc3 := HAR2.out.fill.cell hlt
          have hz3 := HAR2.out.fill.frozen c
          have hst := fun md => store_float hc3 hz3 .f64 y md
          have HPUT : Hid (Ar2 w p q 47 ff (.float .f64 0) N (c + 1) (wc.setCell ⟨w.heap.size + 3, c, none⟩ (.float .f64 y))) := by
            have h := HAR2.out.put hlt
            rw [HFC.out] at h
            exact h
          have HALL2 : Hid (∀ cc, cc < c + 1 → (R cc).2 = 0) := fun cc hcc => by
            by_cases e : cc = c
            · rw [e, HRC.out]
            · exact HALL.out cc (by omega)
          clear htf
          go_wp2
          go_roundw
          case rel => exact ⟨c + 1, by omega, by go_num, HPUT.out, HALL2.out⟩
          case measure => simp [intOf]; omega
        · have HBAD : Hid (∃ c, c < N ∧ (R c).2 ≠ 0) := ⟨c, hlt, by rw [HRC.out]; decide⟩
          obtain ⟨⟨h0, h1, h2, h3, h4, h5, h6, h7⟩, hz⟩ := boxed_of HAR2.out.st.res
          go_wp2
          refine bodyPost_ret (v := .tuple #[vecV 0 vnil 0 vnil vnil vnil vnil vnil, .int .i64 24]) ?_ rfl (.inr ⟨HBAD.out, rfl, below_set8 HAR2.out.st.bel (by omega) _ _ _ _ _ _ _ _⟩)
          exact ret_vec2 (fn := Tryz.f94) (p := 8) (u := 9) rfl _ _ (w.heap.size + 2) (by rfl) (set8_block HAR2.out.st.res _ _ _ _ _ _ _ _)
    · obtain rfl : c = N := by omega
      have HTFO : Hid (∀ j, j < c → TF (R j).1) := fun j hj => by
        obtain ⟨y, E, hrc, hcase⟩ := HR.out j hj
        have h0 := HALL.out j hj
        rw [hrc] at h0 ⊢
        rcases hcase with ⟨h, _⟩ | ⟨_, h⟩
        · exact h
        · rw [h] at h0; cases h0
      have HRD : Hid (Reads1 wr (.slice (some ⟨w.heap.size + 3, 0, none⟩) c c) ((List.range c).map fun j => .float .f64 (R j).1)) := by
        have h := HAR.out.fill.own.reads
        have e : (List.range c).map ff = (List.range c).map fun j => .float .f64 (R j).1 := List.map_congr_left fun j _ => HFF.out j
        rw [e] at h
        exact h
      have HNUMS := Lib.hid (numbers_any (fun j => H j ∨ j = w.heap.size + 2) _ c (fun c => (R c).1) wr (fun j e => by
        have h1 := HAR.out.st.sz
        rcases e with e | e
        · have := HH.out j e; omega
        · omega) HRD.out hNb HTFO.out)
      go_wp2_with fail
      refine HNUMS.out.mono ?_
      rintro e w5 ⟨k5, b5, bn5, s5, i5, f5, c5, x5, rfl, hk5, hb5⟩
      have HS5 := Lib.hid (HAR.out.st.step hb5)
      have HK5 := Lib.hid hk5
      clear hb5 hk5
      have z5 : w.heap.size < w5.heap.size := HS5.out.one.lt
      have z5' : w.heap.size + 2 < w5.heap.size := HS5.out.sz
      have HKE := Lib.hid ((HK5.out.set8 (.inr rfl) (.int .i64 k5) (.slice b5.1 b5.2.1 b5.2.2) (.int .i64 bn5) (.slice s5.1 s5.2.1 s5.2.2) (.slice i5.1 i5.2.1 i5.2.2) (.slice f5.1 f5.2.1 f5.2.2) (.slice c5.1 c5.2.1 c5.2.2) (.slice x5.1 x5.2.1 x5.2.2)).sub (H' := H) fun _ _ e => .inl e)
      have HBE := Lib.hid (below_set8 HS5.out.bel (Nat.le_add_right _ 2) (.int .i64 k5) (.slice b5.1 b5.2.1 b5.2.2) (.int .i64 bn5) (.slice s5.1 s5.2.1 s5.2.2) (.slice i5.1 i5.2.1 i5.2.2) (.slice f5.1 f5.2.1 f5.2.2) (.slice c5.1 c5.2.1 c5.2.2) (.slice x5.1 x5.2.1 x5.2.2))
      have HRE := Lib.hid (set8_block HS5.out.res (.int .i64 k5) (.slice b5.1 b5.2.1 b5.2.2) (.int .i64 bn5) (.slice s5.1 s5.2.1 s5.2.2) (.slice i5.1 i5.2.1 i5.2.2) (.slice f5.1 f5.2.1 f5.2.2) (.slice c5.1 c5.2.1 c5.2.2) (.slice x5.1 x5.2.1 x5.2.2))
      obtain ⟨⟨h0, h1, h2, h3, h4, h5, h6, h7⟩, hz⟩ := boxed_of HS5.out.res
      go_wp2
      refine bodyPost_ret (v := .tuple #[vecW k5 b5 bn5 s5 i5 f5 c5 x5, .int .i64 0]) ?_ rfl (.inl ⟨HALL.out, k5, b5, bn5, s5, i5, f5, c5, x5, rfl, HKE.out.step (bel1 _ _), bel_both HBE.out (bel1 _ _)⟩)
      exact ret_vec2 (fn := Tryz.f94) (p := 8) (u := 9) rfl _ _ (w.heap.size + 2) (by rfl) ((Below.heap_alloc _ _ _ (lt_of_block HRE.out)).trans HRE.out)
end Go.Proofs.YtdddmehchfnppaaGreatDoor
