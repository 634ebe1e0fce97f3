/- The walks of value.Alike and value.Same at arrays that are alike. Conditions: at most 1000000 elements, 1048576 axes. -/
import Derived.Test.YtiahegjdkejjpaaGreatMg34
namespace Go.Proofs.YtiahegjdkejjpaaGreat
open Go Go.RowKit Go.Proofs Fl

theorem tf_refl {b : Nat} (h : TF b) : (FloatKind.f64.format.order b b == some .eq) = true := by
  obtain ⟨s, Z, hz, rfl, _⟩ := h
  rw [fo_refl' s hz]
  rfl
/-- two boxes that hold Vecs -/
structure V2B (w W : World) (p q : V8) : Prop where
  one : BoxP W w.heap.size p
  two : BoxP W (w.heap.size + 1) q
  bel : Below w.heap.size w W
theorem V2B.step {w W W' : World} {p q : V8} (h : V2B w W p q) (hb : Below W.heap.size W W') : V2B w W' p q := ⟨h.one.below hb, h.two.below hb, bel_both h.bel hb⟩
theorem V2B.dr {w W : World} {p q : V8} (h : V2B w W p q) : V2B w W.drew p q := h.step (Below.refl _ W).drew
theorem V2B.self {w W : World} {p q : V8} (h : V2B w W p q) : V2B w W p q := h
theorem V2B.new (w : World) (p q : V8) : V2B w ((w.alloc p.o).alloc q.o) p q := by
  have h := boxP_new (w.alloc p.o) q
  have e : (w.alloc p.o).heap.size = w.heap.size + 1 := by simp
  rw [e] at h
  exact ⟨(boxP_new w p).below (bel1 _ _), h, bel2 w _ _⟩
theorem v2b_s {w W : World} {p q : V8} (h : V2B w W p q) : ((W.cell? ⟨w.heap.size, 0, none⟩ = some (.int .i64 p.k) ∧ W.cell? ⟨w.heap.size, 1, none⟩ = some (.slice p.b.1 p.b.2.1 p.b.2.2) ∧ W.cell? ⟨w.heap.size, 2, none⟩ = some (.int .i64 p.bn) ∧ W.cell? ⟨w.heap.size, 3, none⟩ = some (.slice p.s.1 p.s.2.1 p.s.2.2) ∧ W.cell? ⟨w.heap.size, 4, none⟩ = some (.slice p.i.1 p.i.2.1 p.i.2.2) ∧ W.cell? ⟨w.heap.size, 5, none⟩ = some (.slice p.f.1 p.f.2.1 p.f.2.2) ∧ W.cell? ⟨w.heap.size, 6, none⟩ = some (.slice p.c.1 p.c.2.1 p.c.2.2) ∧ W.cell? ⟨w.heap.size, 7, none⟩ = some (.slice p.x.1 p.x.2.1 p.x.2.2)) ∧ (W.cell? ⟨w.heap.size + 1, 0, none⟩ = some (.int .i64 q.k) ∧ W.cell? ⟨w.heap.size + 1, 1, none⟩ = some (.slice q.b.1 q.b.2.1 q.b.2.2) ∧ W.cell? ⟨w.heap.size + 1, 2, none⟩ = some (.int .i64 q.bn) ∧ W.cell? ⟨w.heap.size + 1, 3, none⟩ = some (.slice q.s.1 q.s.2.1 q.s.2.2) ∧ W.cell? ⟨w.heap.size + 1, 4, none⟩ = some (.slice q.i.1 q.i.2.1 q.i.2.2) ∧ W.cell? ⟨w.heap.size + 1, 5, none⟩ = some (.slice q.f.1 q.f.2.1 q.f.2.2) ∧ W.cell? ⟨w.heap.size + 1, 6, none⟩ = some (.slice q.c.1 q.c.2.1 q.c.2.2) ∧ W.cell? ⟨w.heap.size + 1, 7, none⟩ = some (.slice q.x.1 q.x.2.1 q.x.2.2))) ∧ V2B w W p q := ⟨⟨h.one, h.two⟩, h⟩
theorem a2_t {w W : World} {h1 h2 : Sl} {p q : V8} (h : A2 w W h1 p h2 q) : ((W.cell? ⟨w.heap.size, 0, none⟩ = some (.slice h1.1 h1.2.1 h1.2.2) ∧ W.cell? ⟨w.heap.size, 1, none⟩ = some (.int .i64 p.k) ∧ W.cell? ⟨w.heap.size, 2, none⟩ = some (.slice p.b.1 p.b.2.1 p.b.2.2) ∧ W.cell? ⟨w.heap.size, 3, none⟩ = some (.int .i64 p.bn) ∧ W.cell? ⟨w.heap.size, 4, none⟩ = some (.slice p.s.1 p.s.2.1 p.s.2.2) ∧ W.cell? ⟨w.heap.size, 5, none⟩ = some (.slice p.i.1 p.i.2.1 p.i.2.2) ∧ W.cell? ⟨w.heap.size, 6, none⟩ = some (.slice p.f.1 p.f.2.1 p.f.2.2) ∧ W.cell? ⟨w.heap.size, 7, none⟩ = some (.slice p.c.1 p.c.2.1 p.c.2.2) ∧ W.cell? ⟨w.heap.size, 8, none⟩ = some (.slice p.x.1 p.x.2.1 p.x.2.2)) ∧ (W.cell? ⟨w.heap.size + 1, 0, none⟩ = some (.slice h2.1 h2.2.1 h2.2.2) ∧ W.cell? ⟨w.heap.size + 1, 1, none⟩ = some (.int .i64 q.k) ∧ W.cell? ⟨w.heap.size + 1, 2, none⟩ = some (.slice q.b.1 q.b.2.1 q.b.2.2) ∧ W.cell? ⟨w.heap.size + 1, 3, none⟩ = some (.int .i64 q.bn) ∧ W.cell? ⟨w.heap.size + 1, 4, none⟩ = some (.slice q.s.1 q.s.2.1 q.s.2.2) ∧ W.cell? ⟨w.heap.size + 1, 5, none⟩ = some (.slice q.i.1 q.i.2.1 q.i.2.2) ∧ W.cell? ⟨w.heap.size + 1, 6, none⟩ = some (.slice q.f.1 q.f.2.1 q.f.2.2) ∧ W.cell? ⟨w.heap.size + 1, 7, none⟩ = some (.slice q.c.1 q.c.2.1 q.c.2.2) ∧ W.cell? ⟨w.heap.size + 1, 8, none⟩ = some (.slice q.x.1 q.x.2.1 q.x.2.2))) ∧ A2 w W h1 p h2 q := ⟨⟨h.one.c, h.two.c⟩, h⟩

set_option maxRecDepth 100000 in
set_option maxHeartbeats 2000000 in
theorem alike_num {Ha Hb : Nat → Prop} {w0 : World} {s s' : List Nat} {l : List Nat} {h1 h2 : Sl} {p q : V8} (ga : AV Ha w0 (.nums s l) h1 p) (gb : AV Hb w0 (.nums s' l) h2 q) (i : Nat) (hi : i < l.length) (ht : ∀ j, j < l.length → TF (l.getD j 0)) (w : World) (hb0 : Below w0.heap.size w0 w) :
    Calls Tryz.prog 39 #[p.v, .int .i64 (i : Int), q.v, .int .i64 (i : Int)] w fun e w' => e = .returned (.bool true) ∧ Below w.heap.size w w' := by
  have HCA : Hid (∀ W, V2B w W p q → Calls Tryz.prog 21 #[p.v] W fun e w' => e = .returned (.int .i64 0) ∧ Below W.heap.size W w') := fun W hs => av_class ga W (bel_both hb0 hs.bel)
  have HCB : Hid (∀ W, V2B w W p q → Calls Tryz.prog 21 #[q.v] W fun e w' => e = .returned (.int .i64 0) ∧ Below W.heap.size W w') := fun W hs => av_class gb W (bel_both hb0 hs.bel)
  have HNA := Lib.hid (fun W (hs : V2B w W p q) => av_num ga W (bel_both hb0 hs.bel) i hi)
  have HNB := Lib.hid (fun W (hs : V2B w W p q) => av_num gb W (bel_both hb0 hs.bel) i hi)
  have hrf := tf_refl (ht i hi)
  generalize l.getD i 0 = y at HNA HNB hrf
  clear ht
  have HS0 := Lib.hid (V2B.new w p q)
  clear ga gb hb0 hi
  go_enter Tryz.func39, Tryz.ntmps39
  go_wp2_with fail
  obtain ⟨wz, hwz⟩ : ∃ wz, wz = (w.alloc p.o).alloc q.o := ⟨_, rfl⟩
  rw [← hwz] at HS0
  have HWZ := Lib.hid hwz
  clear hwz
  rw [← HWZ.out]
  go_cut [13] from 9 (fun x wx => x = .bool false ∧ V2B w wx p q)
  case first =>
    have hs0 := HS0.out.dr
    have hs00 := HS0.out
    go_region_held3 (fun W => ((W.cell? ⟨w.heap.size, 0, none⟩ = some (.int .i64 p.k) ∧ W.cell? ⟨w.heap.size, 1, none⟩ = some (.slice p.b.1 p.b.2.1 p.b.2.2) ∧ W.cell? ⟨w.heap.size, 2, none⟩ = some (.int .i64 p.bn) ∧ W.cell? ⟨w.heap.size, 3, none⟩ = some (.slice p.s.1 p.s.2.1 p.s.2.2) ∧ W.cell? ⟨w.heap.size, 4, none⟩ = some (.slice p.i.1 p.i.2.1 p.i.2.2) ∧ W.cell? ⟨w.heap.size, 5, none⟩ = some (.slice p.f.1 p.f.2.1 p.f.2.2) ∧ W.cell? ⟨w.heap.size, 6, none⟩ = some (.slice p.c.1 p.c.2.1 p.c.2.2) ∧ W.cell? ⟨w.heap.size, 7, none⟩ = some (.slice p.x.1 p.x.2.1 p.x.2.2)) ∧ (W.cell? ⟨w.heap.size + 1, 0, none⟩ = some (.int .i64 q.k) ∧ W.cell? ⟨w.heap.size + 1, 1, none⟩ = some (.slice q.b.1 q.b.2.1 q.b.2.2) ∧ W.cell? ⟨w.heap.size + 1, 2, none⟩ = some (.int .i64 q.bn) ∧ W.cell? ⟨w.heap.size + 1, 3, none⟩ = some (.slice q.s.1 q.s.2.1 q.s.2.2) ∧ W.cell? ⟨w.heap.size + 1, 4, none⟩ = some (.slice q.i.1 q.i.2.1 q.i.2.2) ∧ W.cell? ⟨w.heap.size + 1, 5, none⟩ = some (.slice q.f.1 q.f.2.1 q.f.2.2) ∧ W.cell? ⟨w.heap.size + 1, 6, none⟩ = some (.slice q.c.1 q.c.2.1 q.c.2.2) ∧ W.cell? ⟨w.heap.size + 1, 7, none⟩ = some (.slice q.x.1 q.x.2.1 q.x.2.2))) ∧ V2B w W p q)
      (first | (with_reducible assumption) | (with_reducible (refine v2b_s ?_); repeat (first | (with_reducible assumption) | (with_reducible refine V2B.dr ?_))))
      (first
        | (go_at_call 21; (with_reducible refine (HCA.out _ ?_).mono ?_); exact V2B.self (by repeat (first | (with_reducible assumption) | (with_reducible refine V2B.dr ?_))); rintro e w1 ⟨rfl, hb1⟩; have hst1 : V2B w w1 p q := V2B.step (by repeat (first | (with_reducible assumption) | (with_reducible refine V2B.dr ?_))) hb1; clear hb1)
        | (go_at_call 21; (with_reducible refine (HCB.out _ ?_).mono ?_); exact V2B.self (by repeat (first | (with_reducible assumption) | (with_reducible refine V2B.dr ?_))); rintro e w2 ⟨rfl, hb2⟩; have hst2 : V2B w w2 p q := V2B.step (by repeat (first | (with_reducible assumption) | (with_reducible refine V2B.dr ?_))) hb2; clear hb2))
    all_goals
      go_wp2
      go_meet
      exact ⟨rfl, hst2⟩
  obtain ⟨rfl, hst⟩ := hcut
  have HST := Lib.hid hst
  clear hst HS0 HWZ
  obtain ⟨c0, c1, c2, c3, c4, c5, c6, c7⟩ := HST.out.one
  go_wp2_with fail
  refine (HCA.out _ HST.out).mono ?_
  rintro e w3 ⟨rfl, hb⟩
  have HS3 := Lib.hid (HST.out.step hb)
  clear hb c0 c1 c2 c3 c4 c5 c6 c7 HST
  go_wp2_with fail
  have hs0 := HS3.out.dr
  have hs00 := HS3.out
  go_region_held3 (fun W => ((W.cell? ⟨w.heap.size, 0, none⟩ = some (.int .i64 p.k) ∧ W.cell? ⟨w.heap.size, 1, none⟩ = some (.slice p.b.1 p.b.2.1 p.b.2.2) ∧ W.cell? ⟨w.heap.size, 2, none⟩ = some (.int .i64 p.bn) ∧ W.cell? ⟨w.heap.size, 3, none⟩ = some (.slice p.s.1 p.s.2.1 p.s.2.2) ∧ W.cell? ⟨w.heap.size, 4, none⟩ = some (.slice p.i.1 p.i.2.1 p.i.2.2) ∧ W.cell? ⟨w.heap.size, 5, none⟩ = some (.slice p.f.1 p.f.2.1 p.f.2.2) ∧ W.cell? ⟨w.heap.size, 6, none⟩ = some (.slice p.c.1 p.c.2.1 p.c.2.2) ∧ W.cell? ⟨w.heap.size, 7, none⟩ = some (.slice p.x.1 p.x.2.1 p.x.2.2)) ∧ (W.cell? ⟨w.heap.size + 1, 0, none⟩ = some (.int .i64 q.k) ∧ W.cell? ⟨w.heap.size + 1, 1, none⟩ = some (.slice q.b.1 q.b.2.1 q.b.2.2) ∧ W.cell? ⟨w.heap.size + 1, 2, none⟩ = some (.int .i64 q.bn) ∧ W.cell? ⟨w.heap.size + 1, 3, none⟩ = some (.slice q.s.1 q.s.2.1 q.s.2.2) ∧ W.cell? ⟨w.heap.size + 1, 4, none⟩ = some (.slice q.i.1 q.i.2.1 q.i.2.2) ∧ W.cell? ⟨w.heap.size + 1, 5, none⟩ = some (.slice q.f.1 q.f.2.1 q.f.2.2) ∧ W.cell? ⟨w.heap.size + 1, 6, none⟩ = some (.slice q.c.1 q.c.2.1 q.c.2.2) ∧ W.cell? ⟨w.heap.size + 1, 7, none⟩ = some (.slice q.x.1 q.x.2.1 q.x.2.2))) ∧ V2B w W p q)
    (first | (with_reducible assumption) | (with_reducible (refine v2b_s ?_); repeat (first | (with_reducible assumption) | (with_reducible refine V2B.dr ?_))))
    (first
      | (go_at_call 57; (with_reducible refine (HNA.out _ ?_).mono ?_); exact V2B.self (by repeat (first | (with_reducible assumption) | (with_reducible refine V2B.dr ?_))); rintro e w4 ⟨rfl, hb4⟩; have hst4 : V2B w w4 p q := V2B.step (by repeat (first | (with_reducible assumption) | (with_reducible refine V2B.dr ?_))) hb4; clear hb4)
      | (go_at_call 57; (with_reducible refine (HNB.out _ ?_).mono ?_); exact V2B.self (by repeat (first | (with_reducible assumption) | (with_reducible refine V2B.dr ?_))); rintro e w5 ⟨rfl, hb5⟩; have hst5 : V2B w w5 p q := V2B.step (by repeat (first | (with_reducible assumption) | (with_reducible refine V2B.dr ?_))) hb5; clear hb5))
  all_goals
    go_wp2
    go_ret
    exact ⟨by simp, hst5.bel⟩

set_option maxRecDepth 100000 in
set_option maxHeartbeats 2000000 in
theorem alike_chr {Ha Hb : Nat → Prop} {w0 : World} {s s' : List Nat} {l : List Int} {h1 h2 : Sl} {p q : V8} (ga : AV Ha w0 (.chars s l) h1 p) (gb : AV Hb w0 (.chars s' l) h2 q) (i : Nat) (hi : i < l.length) (w : World) (hb0 : Below w0.heap.size w0 w) :
    Calls Tryz.prog 39 #[p.v, .int .i64 (i : Int), q.v, .int .i64 (i : Int)] w fun e w' => e = .returned (.bool true) ∧ Below w.heap.size w w' := by
  have HCA : Hid (∀ W, V2B w W p q → Calls Tryz.prog 21 #[p.v] W fun e w' => e = .returned (.int .i64 1) ∧ Below W.heap.size W w') := fun W hs => av_class ga W (bel_both hb0 hs.bel)
  have HCB : Hid (∀ W, V2B w W p q → Calls Tryz.prog 21 #[q.v] W fun e w' => e = .returned (.int .i64 1) ∧ Below W.heap.size W w') := fun W hs => av_class gb W (bel_both hb0 hs.bel)
  have HNA := Lib.hid (fun W (hs : V2B w W p q) => vchar_any ga i hi W (bel_both hb0 hs.bel))
  have HNB := Lib.hid (fun W (hs : V2B w W p q) => vchar_any gb i hi W (bel_both hb0 hs.bel))
  generalize l[i] = y at HNA HNB
  have HS0 := Lib.hid (V2B.new w p q)
  clear ga gb hb0 hi
  go_enter Tryz.func39, Tryz.ntmps39
  go_wp2_with fail
  obtain ⟨wz, hwz⟩ : ∃ wz, wz = (w.alloc p.o).alloc q.o := ⟨_, rfl⟩
  rw [← hwz] at HS0
  have HWZ := Lib.hid hwz
  clear hwz
  rw [← HWZ.out]
  go_cut [13] from 9 (fun x wx => x = .bool false ∧ V2B w wx p q)
  case first =>
    have hs0 := HS0.out.dr
    have hs00 := HS0.out
    go_region_held3 (fun W => ((W.cell? ⟨w.heap.size, 0, none⟩ = some (.int .i64 p.k) ∧ W.cell? ⟨w.heap.size, 1, none⟩ = some (.slice p.b.1 p.b.2.1 p.b.2.2) ∧ W.cell? ⟨w.heap.size, 2, none⟩ = some (.int .i64 p.bn) ∧ W.cell? ⟨w.heap.size, 3, none⟩ = some (.slice p.s.1 p.s.2.1 p.s.2.2) ∧ W.cell? ⟨w.heap.size, 4, none⟩ = some (.slice p.i.1 p.i.2.1 p.i.2.2) ∧ W.cell? ⟨w.heap.size, 5, none⟩ = some (.slice p.f.1 p.f.2.1 p.f.2.2) ∧ W.cell? ⟨w.heap.size, 6, none⟩ = some (.slice p.c.1 p.c.2.1 p.c.2.2) ∧ W.cell? ⟨w.heap.size, 7, none⟩ = some (.slice p.x.1 p.x.2.1 p.x.2.2)) ∧ (W.cell? ⟨w.heap.size + 1, 0, none⟩ = some (.int .i64 q.k) ∧ W.cell? ⟨w.heap.size + 1, 1, none⟩ = some (.slice q.b.1 q.b.2.1 q.b.2.2) ∧ W.cell? ⟨w.heap.size + 1, 2, none⟩ = some (.int .i64 q.bn) ∧ W.cell? ⟨w.heap.size + 1, 3, none⟩ = some (.slice q.s.1 q.s.2.1 q.s.2.2) ∧ W.cell? ⟨w.heap.size + 1, 4, none⟩ = some (.slice q.i.1 q.i.2.1 q.i.2.2) ∧ W.cell? ⟨w.heap.size + 1, 5, none⟩ = some (.slice q.f.1 q.f.2.1 q.f.2.2) ∧ W.cell? ⟨w.heap.size + 1, 6, none⟩ = some (.slice q.c.1 q.c.2.1 q.c.2.2) ∧ W.cell? ⟨w.heap.size + 1, 7, none⟩ = some (.slice q.x.1 q.x.2.1 q.x.2.2))) ∧ V2B w W p q)
      (first | (with_reducible assumption) | (with_reducible (refine v2b_s ?_); repeat (first | (with_reducible assumption) | (with_reducible refine V2B.dr ?_))))
      (first
        | (go_at_call 21; (with_reducible refine (HCA.out _ ?_).mono ?_); exact V2B.self (by repeat (first | (with_reducible assumption) | (with_reducible refine V2B.dr ?_))); rintro e w1 ⟨rfl, hb1⟩; have hst1 : V2B w w1 p q := V2B.step (by repeat (first | (with_reducible assumption) | (with_reducible refine V2B.dr ?_))) hb1; clear hb1)
        | (go_at_call 21; (with_reducible refine (HCB.out _ ?_).mono ?_); exact V2B.self (by repeat (first | (with_reducible assumption) | (with_reducible refine V2B.dr ?_))); rintro e w2 ⟨rfl, hb2⟩; have hst2 : V2B w w2 p q := V2B.step (by repeat (first | (with_reducible assumption) | (with_reducible refine V2B.dr ?_))) hb2; clear hb2))
    all_goals
      go_wp2
      go_meet
      exact ⟨rfl, hst2⟩
  obtain ⟨rfl, hst⟩ := hcut
  have HST := Lib.hid hst
  clear hst HS0 HWZ
  obtain ⟨c0, c1, c2, c3, c4, c5, c6, c7⟩ := HST.out.one
  go_wp2_with fail
  refine (HCA.out _ HST.out).mono ?_
  rintro e w3 ⟨rfl, hb⟩
  have HS3 := Lib.hid (HST.out.step hb)
  clear hb c0 c1 c2 c3 c4 c5 c6 c7 HST
  go_wp2_with fail
  have hs0 := HS3.out.dr
  have hs00 := HS3.out
  go_region_held3 (fun W => ((W.cell? ⟨w.heap.size, 0, none⟩ = some (.int .i64 p.k) ∧ W.cell? ⟨w.heap.size, 1, none⟩ = some (.slice p.b.1 p.b.2.1 p.b.2.2) ∧ W.cell? ⟨w.heap.size, 2, none⟩ = some (.int .i64 p.bn) ∧ W.cell? ⟨w.heap.size, 3, none⟩ = some (.slice p.s.1 p.s.2.1 p.s.2.2) ∧ W.cell? ⟨w.heap.size, 4, none⟩ = some (.slice p.i.1 p.i.2.1 p.i.2.2) ∧ W.cell? ⟨w.heap.size, 5, none⟩ = some (.slice p.f.1 p.f.2.1 p.f.2.2) ∧ W.cell? ⟨w.heap.size, 6, none⟩ = some (.slice p.c.1 p.c.2.1 p.c.2.2) ∧ W.cell? ⟨w.heap.size, 7, none⟩ = some (.slice p.x.1 p.x.2.1 p.x.2.2)) ∧ (W.cell? ⟨w.heap.size + 1, 0, none⟩ = some (.int .i64 q.k) ∧ W.cell? ⟨w.heap.size + 1, 1, none⟩ = some (.slice q.b.1 q.b.2.1 q.b.2.2) ∧ W.cell? ⟨w.heap.size + 1, 2, none⟩ = some (.int .i64 q.bn) ∧ W.cell? ⟨w.heap.size + 1, 3, none⟩ = some (.slice q.s.1 q.s.2.1 q.s.2.2) ∧ W.cell? ⟨w.heap.size + 1, 4, none⟩ = some (.slice q.i.1 q.i.2.1 q.i.2.2) ∧ W.cell? ⟨w.heap.size + 1, 5, none⟩ = some (.slice q.f.1 q.f.2.1 q.f.2.2) ∧ W.cell? ⟨w.heap.size + 1, 6, none⟩ = some (.slice q.c.1 q.c.2.1 q.c.2.2) ∧ W.cell? ⟨w.heap.size + 1, 7, none⟩ = some (.slice q.x.1 q.x.2.1 q.x.2.2))) ∧ V2B w W p q)
    (first | (with_reducible assumption) | (with_reducible (refine v2b_s ?_); repeat (first | (with_reducible assumption) | (with_reducible refine V2B.dr ?_))))
    (first
      | (go_at_call 55; (with_reducible refine (HNA.out _ ?_).mono ?_); exact V2B.self (by repeat (first | (with_reducible assumption) | (with_reducible refine V2B.dr ?_))); rintro e w4 ⟨rfl, hb4⟩; have hst4 : V2B w w4 p q := V2B.step (by repeat (first | (with_reducible assumption) | (with_reducible refine V2B.dr ?_))) hb4; clear hb4)
      | (go_at_call 55; (with_reducible refine (HNB.out _ ?_).mono ?_); exact V2B.self (by repeat (first | (with_reducible assumption) | (with_reducible refine V2B.dr ?_))); rintro e w5 ⟨rfl, hb5⟩; have hst5 : V2B w w5 p q := V2B.step (by repeat (first | (with_reducible assumption) | (with_reducible refine V2B.dr ?_))) hb5; clear hb5))
  all_goals
    go_wp2
    go_ret
    exact ⟨by simp, hst5.bel⟩

set_option maxRecDepth 100000 in
set_option maxHeartbeats 2000000 in
theorem alike_box {Ha Hb : Nat → Prop} {w0 : World} {s s' : List Nat} {l : List PA} {h1 h2 : Sl} {p q : V8} (ga : AV Ha w0 (.boxes s l) h1 p) (gb : AV Hb w0 (.boxes s' l) h2 q) (i : Nat) (hi : i < l.length) (hIH : ∀ (W : World) (u1 u2 : Sl) (v1 v2 : V8), AV Ha W (l.getD i default) u1 v1 → AV Hb W (l.getD i default) u2 v2 → Calls Tryz.prog 14 #[arrV u1 v1, arrV u2 v2] W fun e w' => e = .returned (.bool true) ∧ Below W.heap.size W w') (w : World) (hb0 : Below w0.heap.size w0 w) :
    Calls Tryz.prog 39 #[p.v, .int .i64 (i : Int), q.v, .int .i64 (i : Int)] w fun e w' => e = .returned (.bool true) ∧ Below w.heap.size w w' := by
  have HCA : Hid (∀ W, V2B w W p q → Calls Tryz.prog 21 #[p.v] W fun e w' => e = .returned (.int .i64 2) ∧ Below W.heap.size W w') := fun W hs => av_class ga W (bel_both hb0 hs.bel)
  have HCB : Hid (∀ W, V2B w W p q → Calls Tryz.prog 21 #[q.v] W fun e w' => e = .returned (.int .i64 2) ∧ Below W.heap.size W w') := fun W hs => av_class gb W (bel_both hb0 hs.bel)
  have HNA := Lib.hid (fun W (hs : V2B w W p q) => vbox_any (AV.step ga (bel_both hb0 hs.bel)) i hi W (Below.refl _ _))
  have HNB := Lib.hid (fun W (hs : V2B w W p q) => vbox_any (AV.step gb (bel_both hb0 hs.bel)) i hi W (Below.refl _ _))
  have HII := Lib.hid hIH
  have e : l.getD i default = l[i] := by simp [List.getD, hi]
  rw [e] at HII
  unfold BoxR at HNA HNB
  generalize l[i] = y at HNA HNB HII
  clear hIH e
  have HS0 := Lib.hid (V2B.new w p q)
  clear ga gb hb0 hi
  go_enter Tryz.func39, Tryz.ntmps39
  go_wp2_with fail
  obtain ⟨wz, hwz⟩ : ∃ wz, wz = (w.alloc p.o).alloc q.o := ⟨_, rfl⟩
  rw [← hwz] at HS0
  have HWZ := Lib.hid hwz
  clear hwz
  rw [← HWZ.out]
  go_cut [13] from 9 (fun x wx => x = .bool false ∧ V2B w wx p q)
  case first =>
    have hs0 := HS0.out.dr
    have hs00 := HS0.out
    go_region_held3 (fun W => ((W.cell? ⟨w.heap.size, 0, none⟩ = some (.int .i64 p.k) ∧ W.cell? ⟨w.heap.size, 1, none⟩ = some (.slice p.b.1 p.b.2.1 p.b.2.2) ∧ W.cell? ⟨w.heap.size, 2, none⟩ = some (.int .i64 p.bn) ∧ W.cell? ⟨w.heap.size, 3, none⟩ = some (.slice p.s.1 p.s.2.1 p.s.2.2) ∧ W.cell? ⟨w.heap.size, 4, none⟩ = some (.slice p.i.1 p.i.2.1 p.i.2.2) ∧ W.cell? ⟨w.heap.size, 5, none⟩ = some (.slice p.f.1 p.f.2.1 p.f.2.2) ∧ W.cell? ⟨w.heap.size, 6, none⟩ = some (.slice p.c.1 p.c.2.1 p.c.2.2) ∧ W.cell? ⟨w.heap.size, 7, none⟩ = some (.slice p.x.1 p.x.2.1 p.x.2.2)) ∧ (W.cell? ⟨w.heap.size + 1, 0, none⟩ = some (.int .i64 q.k) ∧ W.cell? ⟨w.heap.size + 1, 1, none⟩ = some (.slice q.b.1 q.b.2.1 q.b.2.2) ∧ W.cell? ⟨w.heap.size + 1, 2, none⟩ = some (.int .i64 q.bn) ∧ W.cell? ⟨w.heap.size + 1, 3, none⟩ = some (.slice q.s.1 q.s.2.1 q.s.2.2) ∧ W.cell? ⟨w.heap.size + 1, 4, none⟩ = some (.slice q.i.1 q.i.2.1 q.i.2.2) ∧ W.cell? ⟨w.heap.size + 1, 5, none⟩ = some (.slice q.f.1 q.f.2.1 q.f.2.2) ∧ W.cell? ⟨w.heap.size + 1, 6, none⟩ = some (.slice q.c.1 q.c.2.1 q.c.2.2) ∧ W.cell? ⟨w.heap.size + 1, 7, none⟩ = some (.slice q.x.1 q.x.2.1 q.x.2.2))) ∧ V2B w W p q)
      (first | (with_reducible assumption) | (with_reducible (refine v2b_s ?_); repeat (first | (with_reducible assumption) | (with_reducible refine V2B.dr ?_))))
      (first
        | (go_at_call 21; (with_reducible refine (HCA.out _ ?_).mono ?_); exact V2B.self (by repeat (first | (with_reducible assumption) | (with_reducible refine V2B.dr ?_))); rintro e w1 ⟨rfl, hb1⟩; have hst1 : V2B w w1 p q := V2B.step (by repeat (first | (with_reducible assumption) | (with_reducible refine V2B.dr ?_))) hb1; clear hb1)
        | (go_at_call 21; (with_reducible refine (HCB.out _ ?_).mono ?_); exact V2B.self (by repeat (first | (with_reducible assumption) | (with_reducible refine V2B.dr ?_))); rintro e w2 ⟨rfl, hb2⟩; have hst2 : V2B w w2 p q := V2B.step (by repeat (first | (with_reducible assumption) | (with_reducible refine V2B.dr ?_))) hb2; clear hb2))
    all_goals
      go_wp2
      go_meet
      exact ⟨rfl, hst2⟩
  obtain ⟨rfl, hst⟩ := hcut
  have HST := Lib.hid hst
  clear hst HS0 HWZ
  obtain ⟨c0, c1, c2, c3, c4, c5, c6, c7⟩ := HST.out.one
  go_wp2_with fail
  refine (HCA.out _ HST.out).mono ?_
  rintro e w3 ⟨rfl, hb⟩
  have HS3 := Lib.hid (HST.out.step hb)
  clear hb c0 c1 c2 c3 c4 c5 c6 c7 HST
  go_wp2_with fail
  have hs0 := HS3.out.dr
  have hs00 := HS3.out
  go_region_held3 (fun W => ((W.cell? ⟨w.heap.size, 0, none⟩ = some (.int .i64 p.k) ∧ W.cell? ⟨w.heap.size, 1, none⟩ = some (.slice p.b.1 p.b.2.1 p.b.2.2) ∧ W.cell? ⟨w.heap.size, 2, none⟩ = some (.int .i64 p.bn) ∧ W.cell? ⟨w.heap.size, 3, none⟩ = some (.slice p.s.1 p.s.2.1 p.s.2.2) ∧ W.cell? ⟨w.heap.size, 4, none⟩ = some (.slice p.i.1 p.i.2.1 p.i.2.2) ∧ W.cell? ⟨w.heap.size, 5, none⟩ = some (.slice p.f.1 p.f.2.1 p.f.2.2) ∧ W.cell? ⟨w.heap.size, 6, none⟩ = some (.slice p.c.1 p.c.2.1 p.c.2.2) ∧ W.cell? ⟨w.heap.size, 7, none⟩ = some (.slice p.x.1 p.x.2.1 p.x.2.2)) ∧ (W.cell? ⟨w.heap.size + 1, 0, none⟩ = some (.int .i64 q.k) ∧ W.cell? ⟨w.heap.size + 1, 1, none⟩ = some (.slice q.b.1 q.b.2.1 q.b.2.2) ∧ W.cell? ⟨w.heap.size + 1, 2, none⟩ = some (.int .i64 q.bn) ∧ W.cell? ⟨w.heap.size + 1, 3, none⟩ = some (.slice q.s.1 q.s.2.1 q.s.2.2) ∧ W.cell? ⟨w.heap.size + 1, 4, none⟩ = some (.slice q.i.1 q.i.2.1 q.i.2.2) ∧ W.cell? ⟨w.heap.size + 1, 5, none⟩ = some (.slice q.f.1 q.f.2.1 q.f.2.2) ∧ W.cell? ⟨w.heap.size + 1, 6, none⟩ = some (.slice q.c.1 q.c.2.1 q.c.2.2) ∧ W.cell? ⟨w.heap.size + 1, 7, none⟩ = some (.slice q.x.1 q.x.2.1 q.x.2.2))) ∧ V2B w W p q)
    (first | (with_reducible assumption) | (with_reducible (refine v2b_s ?_); repeat (first | (with_reducible assumption) | (with_reducible refine V2B.dr ?_))))
    (first
      | (go_at_call 56; (with_reducible refine (HNA.out _ ?_).mono ?_); exact V2B.self (by repeat (first | (with_reducible assumption) | (with_reducible refine V2B.dr ?_))); rintro e w4 ⟨u4, v4, rfl, hav4, hb4⟩; have hst4 : V2B w w4 p q := V2B.step (by repeat (first | (with_reducible assumption) | (with_reducible refine V2B.dr ?_))) hb4; have hat4 : AvAt Ha y u4 v4 w4 := AV.step hav4 hb4; clear hav4; clear hb4)
      | (go_at_call 56; (with_reducible refine (HNB.out _ ?_).mono ?_); exact V2B.self (by repeat (first | (with_reducible assumption) | (with_reducible refine V2B.dr ?_))); rintro e w5 ⟨u5, v5, rfl, hav5, hb5⟩; have hst5 : V2B w w5 p q := V2B.step (by repeat (first | (with_reducible assumption) | (with_reducible refine V2B.dr ?_))) hb5; have hat5 : AvAt Hb y u5 v5 w5 := AV.step hav5 hb5; have hat45 : AvAt Ha y u4 v4 w5 := AvAt.step (by repeat (first | (with_reducible assumption) | (with_reducible refine AvAt.dr ?_))) hb5; clear hav5; clear hb5)
      | (go_at_call 14; (with_reducible refine (HII.out _ _ _ _ _ ?_ ?_).mono ?_); exact AvAt.self (by repeat (first | (with_reducible assumption) | (with_reducible refine AvAt.dr ?_))); exact AvAt.self (by repeat (first | (with_reducible assumption) | (with_reducible refine AvAt.dr ?_))); rintro e w6 ⟨rfl, hb6⟩; have hst6 : V2B w w6 p q := V2B.step (by repeat (first | (with_reducible assumption) | (with_reducible refine V2B.dr ?_))) hb6; clear hb6))
  all_goals
    go_wp2
    go_ret
    exact ⟨rfl, hst6.bel⟩

set_option maxRecDepth 100000 in
set_option maxHeartbeats 2000000 in
/-- value.Same over a contract of Alike -/
theorem vsame_over {Ha Hb : Nat → Prop} {a : PA} {h1 h2 : Sl} {p q : V8} (w : World) (ga : AV Ha w a h1 p) (gb : AV Hb w a h2 q) (hs : a.shape.length ≤ 1048576) (hl : a.len ≤ 1000000)
    (hAL : ∀ i, i < a.len → ∀ W, Below w.heap.size w W → Calls Tryz.prog 39 #[p.v, .int .i64 (i : Int), q.v, .int .i64 (i : Int)] W fun e w' => e = .returned (.bool true) ∧ Below W.heap.size W w') :
    Calls Tryz.prog 14 #[arrV h1 p, arrV h2 q] w fun e w' => e = .returned (.bool true) ∧ Below w.heap.size w w' := by
  have HSS : Hid (∀ W, A2 w W h1 p h2 q → Calls Tryz.prog 37 #[sv h1, sv h2] W fun e w' => e = .returned (.bool true) ∧ Below W.heap.size W w') := fun W hW => by
    have h := shSame_any ga.shape gb.shape hs hs W hW.bel
    rwa [decide_eq_true rfl] at h
  have HCA := Lib.hid (fun W (hW : A2 w W h1 p h2 q) => av_class ga W hW.bel)
  have HCB := Lib.hid (fun W (hW : A2 w W h1 p h2 q) => av_class gb W hW.bel)
  have HLA := Lib.hid (fun W (hW : A2 w W h1 p h2 q) => av_len ga W hW.bel)
  have HLB := Lib.hid (fun W (hW : A2 w W h1 p h2 q) => av_len gb W hW.bel)
  have HAL := Lib.hid hAL
  generalize a.len = n at *
  generalize a.fill = z at *
  have zz : ((z : Int) != (z : Int)) = false := by simp
  have nn : ((n : Int) != (n : Int)) = false := by simp
  have HS0 := Lib.hid (A2.new w h1 h2 p q)
  clear ga gb hs hAL
  go_enter Tryz.func14, Tryz.ntmps14
  go_wp2_with fail
  obtain ⟨wz, hwz⟩ : ∃ wz, wz = (w.alloc (arrO h1 p)).alloc (arrO h2 q) := ⟨_, rfl⟩
  rw [← hwz] at HS0
  have HWZ := Lib.hid hwz
  clear hwz
  rw [← HWZ.out]
  go_cut [29] from 6 (fun x wx => x = .bool false ∧ A2 w wx h1 p h2 q)
  case first =>
    have hs0 := HS0.out.dr
    have hs00 := HS0.out
    go_region_held3 (fun W => ((W.cell? ⟨w.heap.size, 0, none⟩ = some (.slice h1.1 h1.2.1 h1.2.2) ∧ W.cell? ⟨w.heap.size, 1, none⟩ = some (.int .i64 p.k) ∧ W.cell? ⟨w.heap.size, 2, none⟩ = some (.slice p.b.1 p.b.2.1 p.b.2.2) ∧ W.cell? ⟨w.heap.size, 3, none⟩ = some (.int .i64 p.bn) ∧ W.cell? ⟨w.heap.size, 4, none⟩ = some (.slice p.s.1 p.s.2.1 p.s.2.2) ∧ W.cell? ⟨w.heap.size, 5, none⟩ = some (.slice p.i.1 p.i.2.1 p.i.2.2) ∧ W.cell? ⟨w.heap.size, 6, none⟩ = some (.slice p.f.1 p.f.2.1 p.f.2.2) ∧ W.cell? ⟨w.heap.size, 7, none⟩ = some (.slice p.c.1 p.c.2.1 p.c.2.2) ∧ W.cell? ⟨w.heap.size, 8, none⟩ = some (.slice p.x.1 p.x.2.1 p.x.2.2)) ∧ (W.cell? ⟨w.heap.size + 1, 0, none⟩ = some (.slice h2.1 h2.2.1 h2.2.2) ∧ W.cell? ⟨w.heap.size + 1, 1, none⟩ = some (.int .i64 q.k) ∧ W.cell? ⟨w.heap.size + 1, 2, none⟩ = some (.slice q.b.1 q.b.2.1 q.b.2.2) ∧ W.cell? ⟨w.heap.size + 1, 3, none⟩ = some (.int .i64 q.bn) ∧ W.cell? ⟨w.heap.size + 1, 4, none⟩ = some (.slice q.s.1 q.s.2.1 q.s.2.2) ∧ W.cell? ⟨w.heap.size + 1, 5, none⟩ = some (.slice q.i.1 q.i.2.1 q.i.2.2) ∧ W.cell? ⟨w.heap.size + 1, 6, none⟩ = some (.slice q.f.1 q.f.2.1 q.f.2.2) ∧ W.cell? ⟨w.heap.size + 1, 7, none⟩ = some (.slice q.c.1 q.c.2.1 q.c.2.2) ∧ W.cell? ⟨w.heap.size + 1, 8, none⟩ = some (.slice q.x.1 q.x.2.1 q.x.2.2))) ∧ A2 w W h1 p h2 q)
      (first | (with_reducible assumption) | (with_reducible (refine a2_t ?_); repeat (first | (with_reducible assumption) | (with_reducible refine A2.dr ?_))))
      (first
        | (go_at_call 37; (with_reducible refine (HSS.out _ ?_).mono ?_); exact A2.self (by repeat (first | (with_reducible assumption) | (with_reducible refine A2.dr ?_))); rintro e w1 ⟨rfl, hb1⟩; have hst1 : A2 w w1 h1 p h2 q := A2.step (by repeat (first | (with_reducible assumption) | (with_reducible refine A2.dr ?_))) hb1; clear hb1)
        | (go_at_call 21; (with_reducible refine (HCA.out _ ?_).mono ?_); exact A2.self (by repeat (first | (with_reducible assumption) | (with_reducible refine A2.dr ?_))); rintro e w2 ⟨rfl, hb2⟩; have hst2 : A2 w w2 h1 p h2 q := A2.step (by repeat (first | (with_reducible assumption) | (with_reducible refine A2.dr ?_))) hb2; clear hb2)
        | (go_at_call 21; (with_reducible refine (HCB.out _ ?_).mono ?_); exact A2.self (by repeat (first | (with_reducible assumption) | (with_reducible refine A2.dr ?_))); rintro e w3 ⟨rfl, hb3⟩; have hst3 : A2 w w3 h1 p h2 q := A2.step (by repeat (first | (with_reducible assumption) | (with_reducible refine A2.dr ?_))) hb3; clear hb3)
        | (go_at_call 38; (with_reducible refine (HLA.out _ ?_).mono ?_); exact A2.self (by repeat (first | (with_reducible assumption) | (with_reducible refine A2.dr ?_))); rintro e w4 ⟨rfl, hb4⟩; have hst4 : A2 w w4 h1 p h2 q := A2.step (by repeat (first | (with_reducible assumption) | (with_reducible refine A2.dr ?_))) hb4; clear hb4)
        | (go_at_call 38; (with_reducible refine (HLB.out _ ?_).mono ?_); exact A2.self (by repeat (first | (with_reducible assumption) | (with_reducible refine A2.dr ?_))); rintro e w5 ⟨rfl, hb5⟩; have hst5 : A2 w w5 h1 p h2 q := A2.step (by repeat (first | (with_reducible assumption) | (with_reducible refine A2.dr ?_))) hb5; clear hb5))
    all_goals
      go_wp2
      go_meet
      exact ⟨rfl, hst5⟩
  obtain ⟨rfl, hst⟩ := hcut
  have HST := Lib.hid hst
  clear hst HS0 HWZ
  obtain ⟨c0, c1, c2, c3, c4, c5, c6, c7, c8⟩ := HST.out.one.c
  go_wp2_with fail
  refine (HLA.out _ HST.out).mono ?_
  rintro e w3 ⟨rfl, hb⟩
  have HS3 := Lib.hid (HST.out.step hb)
  clear hb c0 c1 c2 c3 c4 c5 c6 c7 c8 HST HCA HCB HLA HLB HSS
  go_wp2
  go_loopw [33] (fun iv wr => ∃ i : Nat, i ≤ n ∧ iv = .int .i64 (i : Int) ∧ A2 w wr h1 p h2 q) (fun iv _ => n - (intOf iv).toNat)
  case atStart => exact ⟨0, Nat.zero_le _, rfl, HS3.out⟩
  case round =>
    obtain ⟨i, hi, rfl, hti⟩ := hrel
    have HTI := Lib.hid hti
    clear hti
    by_cases hlt : i < n
    · have hlt2 : (i : Int) < (n : Int) := by omega
      obtain ⟨c0, c1, c2, c3, c4, c5, c6, c7, c8⟩ := HTI.out.one.c
      obtain ⟨g0, g1, g2, g3, g4, g5, g6, g7, g8⟩ := HTI.out.two.c
      go_wp2_with fail
      refine (HAL.out i hlt _ HTI.out.bel).mono ?_
      rintro e w4 ⟨rfl, hb⟩
      have HT4 := Lib.hid (HTI.out.step hb)
      clear hb c0 c1 c2 c3 c4 c5 c6 c7 c8 g0 g1 g2 g3 g4 g5 g6 g7 g8
      go_wp2
      go_roundw
      case rel => exact ⟨i + 1, by omega, by go_num, HT4.out⟩
      case measure => simp [intOf]; omega
    · have hge : ¬ (i : Int) < (n : Int) := by omega
      go_wp2
      go_ret
      exact ⟨rfl, HTI.out.bel⟩

/-- value.Same of two arrays that are alike -/
theorem vsame_any : ∀ (d : Nat) (Ha Hb : Nat → Prop) (a : PA) (h1 h2 : Sl) (p q : V8) (w : World), GoodA d a → SmA 1000000 a → AV Ha w a h1 p → AV Hb w a h2 q →
    Calls Tryz.prog 14 #[arrV h1 p, arrV h2 q] w fun e w' => e = .returned (.bool true) ∧ Below w.heap.size w w'
  | 0, _, _, _, _, _, _, _, _, hg, _, _, _ => absurd hg.sh.1 (Nat.lt_irrefl _)
  | d + 1, Ha, Hb, .nums s l, h1, h2, p, q, w, hg, hs, ga, gb => vsame_over w ga gb (by have : s.length ≤ 8 := hg.sh.2.1; show s.length ≤ _; omega) hs.len fun i hi W hb => alike_num ga gb i hi hg.nums W hb
  | d + 1, Ha, Hb, .chars s l, h1, h2, p, q, w, hg, hs, ga, gb => vsame_over w ga gb (by have : s.length ≤ 8 := hg.sh.2.1; show s.length ≤ _; omega) hs.len fun i hi W hb => alike_chr ga gb i hi W hb
  | d + 1, Ha, Hb, .boxes s l, h1, h2, p, q, w, hg, hs, ga, gb => vsame_over w ga gb (by have : s.length ≤ 8 := hg.sh.2.1; show s.length ≤ _; omega) hs.len fun i hi W hb => by
    have hi2 : i < l.length := hi
    have e : l.getD i default = l[i] := by simp [List.getD, hi2]
    refine alike_box ga gb i hi2 (fun W u1 u2 v1 v2 g1 g2 => ?_) W hb
    rw [e] at g1 g2
    exact vsame_any d Ha Hb l[i] u1 u2 v1 v2 W (by simpa using hg.boxes i hi2) (hs.boxes i hi2) g1 g2
end Go.Proofs.YtiahegjdkejjpaaGreat
