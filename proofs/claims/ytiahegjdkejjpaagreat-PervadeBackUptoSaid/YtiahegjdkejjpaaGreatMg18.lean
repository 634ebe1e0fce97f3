/- The walk of arith.Apply at numbers in any stores. Conditions: as each theorem says. -/
import Derived.Test.YtiahegjdkejjpaaGreatMg17
import Derived.Test.YtiahegjdkejjpaaGreatMg10
namespace Go.Proofs.YtiahegjdkejjpaaGreat
open Go Go.RowKit Go.Proofs Fl

/-- what a function of two lists tells: that they don't go together, or what it tells element by element -/
def Ap2Out (H : Nat → Prop) (w : World) (R : Nat → Nat × Int) (r : Option Nat) (e : Ending) (w' : World) : Prop :=
  (r = none ∧ e = .returned (.tuple #[vecV 0 vnil 0 vnil vnil vnil vnil vnil, .int .i64 23]) ∧ Below w.heap.size w w') ∨ (∃ N, r = some N ∧ ArOut H w R N e w')
theorem st2_s {w W : World} {p q : V8} (h : St2 w W p q) : ((W.cell? ⟨w.heap.size, 0, none⟩ = some (.int .i64 p.k) ∧ W.cell? ⟨w.heap.size, 1, none⟩ = some (.slice p.b.1 p.b.2.1 p.b.2.2) ∧ W.cell? ⟨w.heap.size, 2, none⟩ = some (.int .i64 p.bn) ∧ W.cell? ⟨w.heap.size, 3, none⟩ = some (.slice p.s.1 p.s.2.1 p.s.2.2) ∧ W.cell? ⟨w.heap.size, 4, none⟩ = some (.slice p.i.1 p.i.2.1 p.i.2.2) ∧ W.cell? ⟨w.heap.size, 5, none⟩ = some (.slice p.f.1 p.f.2.1 p.f.2.2) ∧ W.cell? ⟨w.heap.size, 6, none⟩ = some (.slice p.c.1 p.c.2.1 p.c.2.2) ∧ W.cell? ⟨w.heap.size, 7, none⟩ = some (.slice p.x.1 p.x.2.1 p.x.2.2)) ∧ (W.cell? ⟨w.heap.size + 1, 0, none⟩ = some (.int .i64 q.k) ∧ W.cell? ⟨w.heap.size + 1, 1, none⟩ = some (.slice q.b.1 q.b.2.1 q.b.2.2) ∧ W.cell? ⟨w.heap.size + 1, 2, none⟩ = some (.int .i64 q.bn) ∧ W.cell? ⟨w.heap.size + 1, 3, none⟩ = some (.slice q.s.1 q.s.2.1 q.s.2.2) ∧ W.cell? ⟨w.heap.size + 1, 4, none⟩ = some (.slice q.i.1 q.i.2.1 q.i.2.2) ∧ W.cell? ⟨w.heap.size + 1, 5, none⟩ = some (.slice q.f.1 q.f.2.1 q.f.2.2) ∧ W.cell? ⟨w.heap.size + 1, 6, none⟩ = some (.slice q.c.1 q.c.2.1 q.c.2.2) ∧ W.cell? ⟨w.heap.size + 1, 7, none⟩ = some (.slice q.x.1 q.x.2.1 q.x.2.2))) ∧ St2 w W p q := ⟨⟨h.one, h.two⟩, h⟩
def LenMid (w : World) (p q : V8) (L : Nat) (ok : Bool) (x y : Value) (W : World) : Prop := x = .int .i64 (L : Nat) ∧ y = .bool ok ∧ St2 w W p q
theorem lenMid_of {w W : World} {p q : V8} {L : Nat} {ok : Bool} (h : St2 w W p q) : LenMid w p q L ok (.int .i64 (L : Nat)) (.bool ok) W := ⟨rfl, rfl, h⟩

theorem awholes_any (pw : Nat → Nat → Nat × Int) (H : Nat → Prop) (f : Int) (p q : V8) (m n N : Nat) (F G : Nat → Nat) (w : World) (hH : ∀ b, H b → b < w.heap.size) (hL : lenP m n = some N) (hm : m ≤ 1000000) (hn : n ≤ 1000000)
    (hP : ∀ W, Below w.heap.size w W → NumV p.v p.k m F W) (hQ : ∀ W, Below w.heap.size w W → NumV q.v q.k n G W) :
    Calls Tryz.prog 66 #[.int .i64 f, .int .i64 (N : Int), p.v, q.v] w (AwOut H w (fun c => oneP pw f (F (ixP m c)) (G (ixP n c))) N) := by
  by_cases h4 : p.k = 4 ∨ q.k = 4
  · exact (awholes_no f p q m n N F G w hm hn hP hQ h4).mono fun e w' h => .inr h
  · exact awholes_go pw H f p q m n N F G w hH hL hm hn hP hQ (fun h => h4 (.inl h)) (fun h => h4 (.inr h))

set_option maxRecDepth 100000 in
set_option maxHeartbeats 4000000 in
theorem aapply_none (H : Nat → Prop) (f : Int) (hf : 1 ≤ f) (hf2 : f ≤ 8) (p q : V8) (m n : Nat) (F G : Nat → Nat) (R : Nat → Nat × Int) (w : World) (hL : lenP m n = none)
    (hP : ∀ W, Below w.heap.size w W → NumW p.v m F W) (hQ : ∀ W, Below w.heap.size w W → NumW q.v n G W) :
    Calls Tryz.prog 45 #[.int .i64 f, p.v, q.v] w (Ap2Out H w R (lenP m n)) := by
  have HLP := Lib.hid (fun W (hs : St2 w W p q) => (hP W hs.bel).len)
  have HLQ := Lib.hid (fun W (hs : St2 w W p q) => (hQ W hs.bel).len)
  have HCP := Lib.hid (fun W (hs : St2 w W p q) => (hP W hs.bel).cls)
  have HCQ := Lib.hid (fun W (hs : St2 w W p q) => (hQ W hs.bel).cls)
  have HLL := Lib.hid (fun W => length_any m n W)
  have HS0 := Lib.hid (St2.new w p q)
  obtain ⟨L, ok, hL1, hL2⟩ : ∃ L ok, L = (lenP m n).getD 0 ∧ ok = (lenP m n).isSome := ⟨_, _, rfl, rfl⟩
  rw [← hL1, ← hL2] at HLL
  obtain rfl : ok = false := by rw [hL2, hL]; rfl
  have HLN := Lib.hid hL
  clear hL1 hL2 hL hP hQ
  go_enter Tryz.func45, Tryz.ntmps45
  go_wp2_with fail
  obtain ⟨w0, hw0⟩ : ∃ w0, w0 = ((w.alloc p.o).alloc q.o).alloc (.cells zcells 38) := ⟨_, rfl⟩
  rw [← hw0] at HS0 ⊢
  clear hw0
  go_cut [8, 9] from 19 (fun x y wx => LenMid w p q L false x y wx)
  case first =>
    have hs0 := HS0.out.dr
    have hs00 := HS0.out
    go_region_held3 (fun W => ((W.cell? ⟨w.heap.size, 0, none⟩ = some (.int .i64 p.k) ∧ W.cell? ⟨w.heap.size, 1, none⟩ = some (.slice p.b.1 p.b.2.1 p.b.2.2) ∧ W.cell? ⟨w.heap.size, 2, none⟩ = some (.int .i64 p.bn) ∧ W.cell? ⟨w.heap.size, 3, none⟩ = some (.slice p.s.1 p.s.2.1 p.s.2.2) ∧ W.cell? ⟨w.heap.size, 4, none⟩ = some (.slice p.i.1 p.i.2.1 p.i.2.2) ∧ W.cell? ⟨w.heap.size, 5, none⟩ = some (.slice p.f.1 p.f.2.1 p.f.2.2) ∧ W.cell? ⟨w.heap.size, 6, none⟩ = some (.slice p.c.1 p.c.2.1 p.c.2.2) ∧ W.cell? ⟨w.heap.size, 7, none⟩ = some (.slice p.x.1 p.x.2.1 p.x.2.2)) ∧ (W.cell? ⟨w.heap.size + 1, 0, none⟩ = some (.int .i64 q.k) ∧ W.cell? ⟨w.heap.size + 1, 1, none⟩ = some (.slice q.b.1 q.b.2.1 q.b.2.2) ∧ W.cell? ⟨w.heap.size + 1, 2, none⟩ = some (.int .i64 q.bn) ∧ W.cell? ⟨w.heap.size + 1, 3, none⟩ = some (.slice q.s.1 q.s.2.1 q.s.2.2) ∧ W.cell? ⟨w.heap.size + 1, 4, none⟩ = some (.slice q.i.1 q.i.2.1 q.i.2.2) ∧ W.cell? ⟨w.heap.size + 1, 5, none⟩ = some (.slice q.f.1 q.f.2.1 q.f.2.2) ∧ W.cell? ⟨w.heap.size + 1, 6, none⟩ = some (.slice q.c.1 q.c.2.1 q.c.2.2) ∧ W.cell? ⟨w.heap.size + 1, 7, none⟩ = some (.slice q.x.1 q.x.2.1 q.x.2.2))) ∧ St2 w W p q)
      (first | (with_reducible assumption) | (with_reducible (refine st2_s ?_); repeat (first | (with_reducible assumption) | (with_reducible refine St2.dr ?_))))
      (first
        | (go_at_call 65; (with_reducible refine (HLL.out _).mono ?_); rintro e w5 ⟨rfl, rfl⟩)
        | (go_at_call 38; (with_reducible refine (HLP.out _ ?_).mono ?_); exact St2.self (by repeat (first | (with_reducible assumption) | (with_reducible refine St2.dr ?_))); rintro e w1 ⟨rfl, hb1⟩; obtain ⟨hc1, hf1⟩ := bcell2 hb1; have hz1 := hb1.size; have hst1 : St2 w w1 p q := St2.step (by repeat (first | (with_reducible assumption) | (with_reducible refine St2.dr ?_))) hb1; clear hb1)
        | (go_at_call 38; (with_reducible refine (HLQ.out _ ?_).mono ?_); exact St2.self (by repeat (first | (with_reducible assumption) | (with_reducible refine St2.dr ?_))); rintro e w2 ⟨rfl, hb2⟩; obtain ⟨hc2, hf2⟩ := bcell2 hb2; have hz2 := hb2.size; have hst2 : St2 w w2 p q := St2.step (by repeat (first | (with_reducible assumption) | (with_reducible refine St2.dr ?_))) hb2; clear hb2))
    all_goals
      go_wp2
      go_meet
      first
        | (with_reducible exact lenMid_of hst2)
        | (with_reducible exact lenMid_of hst1)
  obtain ⟨rfl, rfl, hst⟩ := hcut
  have HST := Lib.hid hst
  clear hst HS0 HLP HLQ HLL
  obtain ⟨⟨h0, h1, h2, h3, h4, h5, h6, h7⟩, hz⟩ := boxed_of HST.out.res
  go_wp2
  refine bodyPost_ret (v := .tuple #[vecV 0 vnil 0 vnil vnil vnil vnil vnil, .int .i64 23]) ?_ rfl (.inl ⟨HLN.out, rfl, below_set8 HST.out.bel (Nat.le_add_right _ 2) _ _ _ _ _ _ _ _⟩)
  exact ret_vec2 (fn := Tryz.f45) (p := 6) (u := 7) rfl _ _ (w.heap.size + 2) (by rfl) (set8_block HST.out.res _ _ _ _ _ _ _ _)

set_option maxRecDepth 100000 in
set_option maxHeartbeats 4000000 in
theorem aapply_div (H : Nat → Prop) (f : Int) (hf : 1 ≤ f) (hf2 : f ≤ 8) (p q : V8) (m n : Nat) (F G : Nat → Nat) (R : Nat → Nat × Int) (w : World) (N : Nat) (hH : ∀ b, H b → b < w.heap.size) (hL : lenP m n = some N) (hd : f = 4 ∨ f = 8)
    (hfl : ∀ (W : World) (H' : Nat → Prop), Below w.heap.size w W → (∀ b, H' b → b < W.heap.size) → Calls Tryz.prog 67 #[.int .i64 f, .int .i64 (N : Int), p.v, q.v] W (ArOut H' W R N))
    (hP : ∀ W, Below w.heap.size w W → NumW p.v m F W) (hQ : ∀ W, Below w.heap.size w W → NumW q.v n G W) :
    Calls Tryz.prog 45 #[.int .i64 f, p.v, q.v] w (Ap2Out H w R (lenP m n)) := by
  have HLP := Lib.hid (fun W (hs : St2 w W p q) => (hP W hs.bel).len)
  have HLQ := Lib.hid (fun W (hs : St2 w W p q) => (hQ W hs.bel).len)
  have HCP := Lib.hid (fun W (hs : St2 w W p q) => (hP W hs.bel).cls)
  have HCQ := Lib.hid (fun W (hs : St2 w W p q) => (hQ W hs.bel).cls)
  have HLL := Lib.hid (fun W => length_any m n W)
  have HS0 := Lib.hid (St2.new w p q)
  obtain ⟨L, ok, hL1, hL2⟩ : ∃ L ok, L = (lenP m n).getD 0 ∧ ok = (lenP m n).isSome := ⟨_, _, rfl, rfl⟩
  rw [← hL1, ← hL2] at HLL
  obtain rfl : ok = true := by rw [hL2, hL]; rfl
  obtain rfl : L = N := by rw [hL1, hL]; rfl
  have HLN := Lib.hid hL
  have HH := Lib.hid hH
  have HFL := Lib.hid hfl
  unfold ArOut at HFL
  have hdd : ((f != 4) = false) ∨ ((f != 4) = true ∧ (f != 8) = false) := by
    rcases hd with h | h
    · left; simp [h]
    · right; subst h; exact ⟨by decide, by decide⟩
  clear hL1 hL2 hL hP hQ hH hfl hd
  rcases hdd with d4 | ⟨d4, d8⟩
  all_goals
    go_enter Tryz.func45, Tryz.ntmps45
    go_wp2_with fail
    obtain ⟨w0, hw0⟩ : ∃ w0, w0 = ((w.alloc p.o).alloc q.o).alloc (.cells zcells 38) := ⟨_, rfl⟩
    rw [← hw0] at HS0 ⊢
    clear hw0
    go_cut [8, 9] from 19 (fun x y wx => LenMid w p q L true x y wx)
    case first =>
      have hs0 := HS0.out.dr
      have hs00 := HS0.out
      go_region_held3 (fun W => ((W.cell? ⟨w.heap.size, 0, none⟩ = some (.int .i64 p.k) ∧ W.cell? ⟨w.heap.size, 1, none⟩ = some (.slice p.b.1 p.b.2.1 p.b.2.2) ∧ W.cell? ⟨w.heap.size, 2, none⟩ = some (.int .i64 p.bn) ∧ W.cell? ⟨w.heap.size, 3, none⟩ = some (.slice p.s.1 p.s.2.1 p.s.2.2) ∧ W.cell? ⟨w.heap.size, 4, none⟩ = some (.slice p.i.1 p.i.2.1 p.i.2.2) ∧ W.cell? ⟨w.heap.size, 5, none⟩ = some (.slice p.f.1 p.f.2.1 p.f.2.2) ∧ W.cell? ⟨w.heap.size, 6, none⟩ = some (.slice p.c.1 p.c.2.1 p.c.2.2) ∧ W.cell? ⟨w.heap.size, 7, none⟩ = some (.slice p.x.1 p.x.2.1 p.x.2.2)) ∧ (W.cell? ⟨w.heap.size + 1, 0, none⟩ = some (.int .i64 q.k) ∧ W.cell? ⟨w.heap.size + 1, 1, none⟩ = some (.slice q.b.1 q.b.2.1 q.b.2.2) ∧ W.cell? ⟨w.heap.size + 1, 2, none⟩ = some (.int .i64 q.bn) ∧ W.cell? ⟨w.heap.size + 1, 3, none⟩ = some (.slice q.s.1 q.s.2.1 q.s.2.2) ∧ W.cell? ⟨w.heap.size + 1, 4, none⟩ = some (.slice q.i.1 q.i.2.1 q.i.2.2) ∧ W.cell? ⟨w.heap.size + 1, 5, none⟩ = some (.slice q.f.1 q.f.2.1 q.f.2.2) ∧ W.cell? ⟨w.heap.size + 1, 6, none⟩ = some (.slice q.c.1 q.c.2.1 q.c.2.2) ∧ W.cell? ⟨w.heap.size + 1, 7, none⟩ = some (.slice q.x.1 q.x.2.1 q.x.2.2))) ∧ St2 w W p q)
        (first | (with_reducible assumption) | (with_reducible (refine st2_s ?_); repeat (first | (with_reducible assumption) | (with_reducible refine St2.dr ?_))))
        (first
          | (go_at_call 65; (with_reducible refine (HLL.out _).mono ?_); rintro e w5 ⟨rfl, rfl⟩)
          | (go_at_call 38; (with_reducible refine (HLP.out _ ?_).mono ?_); exact St2.self (by repeat (first | (with_reducible assumption) | (with_reducible refine St2.dr ?_))); rintro e w1 ⟨rfl, hb1⟩; obtain ⟨hc1, hf1⟩ := bcell2 hb1; have hz1 := hb1.size; have hst1 : St2 w w1 p q := St2.step (by repeat (first | (with_reducible assumption) | (with_reducible refine St2.dr ?_))) hb1; clear hb1)
          | (go_at_call 38; (with_reducible refine (HLQ.out _ ?_).mono ?_); exact St2.self (by repeat (first | (with_reducible assumption) | (with_reducible refine St2.dr ?_))); rintro e w2 ⟨rfl, hb2⟩; obtain ⟨hc2, hf2⟩ := bcell2 hb2; have hz2 := hb2.size; have hst2 : St2 w w2 p q := St2.step (by repeat (first | (with_reducible assumption) | (with_reducible refine St2.dr ?_))) hb2; clear hb2))
      all_goals
        go_wp2
        go_meet
        first
          | (with_reducible exact lenMid_of hst2)
          | (with_reducible exact lenMid_of hst1)
    obtain ⟨rfl, rfl, hst⟩ := hcut
    have HST := Lib.hid hst
    clear hst HS0 HLP HLQ HLL
    obtain ⟨h0, h1, h2, h3, h4, h5, h6, h7⟩ := HST.out.one
    go_wp2_with fail
    refine (HCP.out _ HST.out).mono ?_
    rintro e w3 ⟨rfl, hb3⟩
    have HS3 := Lib.hid (HST.out.step hb3)
    clear hb3 h0 h1 h2 h3 h4 h5 h6 h7 HST
    obtain ⟨h0, h1, h2, h3, h4, h5, h6, h7⟩ := HS3.out.two
    go_wp2_with fail
    refine (HCQ.out _ HS3.out).mono ?_
    rintro e w4 ⟨rfl, hb4⟩
    have HS4 := Lib.hid (HS3.out.step hb4)
    clear hb4 h0 h1 h2 h3 h4 h5 h6 h7 HS3
    obtain ⟨h0, h1, h2, h3, h4, h5, h6, h7⟩ := HS4.out.one
    obtain ⟨g0, g1, g2, g3, g4, g5, g6, g7⟩ := HS4.out.two
    go_wp2_with fail
    refine (HFL.out _ (fun j => H j ∨ j = w.heap.size + 2) HS4.out.bel (fun j e => by
      have h1 := HS4.out.sz
      rcases e with e | e
      · have := HH.out j e; omega
      · omega)).mono ?_
    clear h0 h1 h2 h3 h4 h5 h6 h7 g0 g1 g2 g3 g4 g5 g6 g7
    rintro e w7 (⟨hall, k5, b5, bn5, s5, i5, f5, c5, x5, rfl, hk5, hb5⟩ | ⟨hbad, rfl, hb5⟩)
    · have HS7 := Lib.hid (HS4.out.step hb5)
      have HKE := Lib.hid hk5
      have HALL := Lib.hid hall
      clear hb5 hk5 hall
      obtain ⟨⟨h0, h1, h2, h3, h4, h5, h6, h7⟩, hz⟩ := boxed_of HS7.out.res
      go_wp2
      refine bodyPost_ret (v := .tuple #[vecW k5 b5 bn5 s5 i5 f5 c5 x5, .int .i64 0]) ?_ rfl (.inr ⟨_, HLN.out, .inl ⟨HALL.out, k5, b5, bn5, s5, i5, f5, c5, x5, rfl, (HKE.out.set8 (.inr rfl) _ _ _ _ _ _ _ _).sub (fun _ _ e => .inl e), below_set8 HS7.out.bel (Nat.le_add_right _ 2) _ _ _ _ _ _ _ _⟩⟩)
      exact ret_vec2 (fn := Tryz.f45) (p := 6) (u := 7) rfl _ _ (w.heap.size + 2) (by rfl) (set8_block HS7.out.res _ _ _ _ _ _ _ _)
    · have HS7 := Lib.hid (HS4.out.step hb5)
      have HBAD := Lib.hid hbad
      clear hb5 hbad
      obtain ⟨⟨h0, h1, h2, h3, h4, h5, h6, h7⟩, hz⟩ := boxed_of HS7.out.res
      go_wp2
      refine bodyPost_ret (v := .tuple #[vecV 0 vnil 0 vnil vnil vnil vnil vnil, .int .i64 24]) ?_ rfl (.inr ⟨_, HLN.out, .inr ⟨HBAD.out, rfl, below_set8 HS7.out.bel (Nat.le_add_right _ 2) _ _ _ _ _ _ _ _⟩⟩)
      exact ret_vec2 (fn := Tryz.f45) (p := 6) (u := 7) rfl _ _ (w.heap.size + 2) (by rfl) (set8_block HS7.out.res _ _ _ _ _ _ _ _)

set_option maxRecDepth 100000 in
set_option maxHeartbeats 4000000 in
theorem aapply_all (H : Nat → Prop) (f : Int) (hf : 1 ≤ f) (hf2 : f ≤ 8) (p q : V8) (m n : Nat) (F G : Nat → Nat) (R : Nat → Nat × Int) (w : World) (N : Nat) (hH : ∀ b, H b → b < w.heap.size) (hL : lenP m n = some N) (hd : ¬ (f = 4 ∨ f = 8))
    (hfl : ∀ (W : World) (H' : Nat → Prop), Below w.heap.size w W → (∀ b, H' b → b < W.heap.size) → Calls Tryz.prog 67 #[.int .i64 f, .int .i64 (N : Int), p.v, q.v] W (ArOut H' W R N))
    (hwh : ∀ (W : World) (H' : Nat → Prop), Below w.heap.size w W → (∀ b, H' b → b < W.heap.size) → Calls Tryz.prog 66 #[.int .i64 f, .int .i64 (N : Int), p.v, q.v] W (AwOut H' W R N))
    (hP : ∀ W, Below w.heap.size w W → NumW p.v m F W) (hQ : ∀ W, Below w.heap.size w W → NumW q.v n G W) :
    Calls Tryz.prog 45 #[.int .i64 f, p.v, q.v] w (Ap2Out H w R (lenP m n)) := by
  have HLP := Lib.hid (fun W (hs : St2 w W p q) => (hP W hs.bel).len)
  have HLQ := Lib.hid (fun W (hs : St2 w W p q) => (hQ W hs.bel).len)
  have HCP := Lib.hid (fun W (hs : St2 w W p q) => (hP W hs.bel).cls)
  have HCQ := Lib.hid (fun W (hs : St2 w W p q) => (hQ W hs.bel).cls)
  have HLL := Lib.hid (fun W => length_any m n W)
  have HS0 := Lib.hid (St2.new w p q)
  obtain ⟨L, ok, hL1, hL2⟩ : ∃ L ok, L = (lenP m n).getD 0 ∧ ok = (lenP m n).isSome := ⟨_, _, rfl, rfl⟩
  rw [← hL1, ← hL2] at HLL
  obtain rfl : ok = true := by rw [hL2, hL]; rfl
  obtain rfl : L = N := by rw [hL1, hL]; rfl
  have HLN := Lib.hid hL
  have HH := Lib.hid hH
  have HFL := Lib.hid hfl
  unfold ArOut at HFL
  have HWH := Lib.hid hwh
  unfold AwOut at HWH
  have d4 : (f != 4) = true := by simpa using fun h => hd (.inl h)
  have d8 : (f != 8) = true := by simpa using fun h => hd (.inr h)
  clear hL1 hL2 hL hP hQ hH hfl hd hwh
  go_enter Tryz.func45, Tryz.ntmps45
  go_wp2_with fail
  obtain ⟨w0, hw0⟩ : ∃ w0, w0 = ((w.alloc p.o).alloc q.o).alloc (.cells zcells 38) := ⟨_, rfl⟩
  rw [← hw0] at HS0 ⊢
  clear hw0
  go_cut [8, 9] from 19 (fun x y wx => LenMid w p q L true x y wx)
  case first =>
    have hs0 := HS0.out.dr
    have hs00 := HS0.out
    go_region_held3 (fun W => ((W.cell? ⟨w.heap.size, 0, none⟩ = some (.int .i64 p.k) ∧ W.cell? ⟨w.heap.size, 1, none⟩ = some (.slice p.b.1 p.b.2.1 p.b.2.2) ∧ W.cell? ⟨w.heap.size, 2, none⟩ = some (.int .i64 p.bn) ∧ W.cell? ⟨w.heap.size, 3, none⟩ = some (.slice p.s.1 p.s.2.1 p.s.2.2) ∧ W.cell? ⟨w.heap.size, 4, none⟩ = some (.slice p.i.1 p.i.2.1 p.i.2.2) ∧ W.cell? ⟨w.heap.size, 5, none⟩ = some (.slice p.f.1 p.f.2.1 p.f.2.2) ∧ W.cell? ⟨w.heap.size, 6, none⟩ = some (.slice p.c.1 p.c.2.1 p.c.2.2) ∧ W.cell? ⟨w.heap.size, 7, none⟩ = some (.slice p.x.1 p.x.2.1 p.x.2.2)) ∧ (W.cell? ⟨w.heap.size + 1, 0, none⟩ = some (.int .i64 q.k) ∧ W.cell? ⟨w.heap.size + 1, 1, none⟩ = some (.slice q.b.1 q.b.2.1 q.b.2.2) ∧ W.cell? ⟨w.heap.size + 1, 2, none⟩ = some (.int .i64 q.bn) ∧ W.cell? ⟨w.heap.size + 1, 3, none⟩ = some (.slice q.s.1 q.s.2.1 q.s.2.2) ∧ W.cell? ⟨w.heap.size + 1, 4, none⟩ = some (.slice q.i.1 q.i.2.1 q.i.2.2) ∧ W.cell? ⟨w.heap.size + 1, 5, none⟩ = some (.slice q.f.1 q.f.2.1 q.f.2.2) ∧ W.cell? ⟨w.heap.size + 1, 6, none⟩ = some (.slice q.c.1 q.c.2.1 q.c.2.2) ∧ W.cell? ⟨w.heap.size + 1, 7, none⟩ = some (.slice q.x.1 q.x.2.1 q.x.2.2))) ∧ St2 w W p q)
      (first | (with_reducible assumption) | (with_reducible (refine st2_s ?_); repeat (first | (with_reducible assumption) | (with_reducible refine St2.dr ?_))))
      (first
        | (go_at_call 65; (with_reducible refine (HLL.out _).mono ?_); rintro e w5 ⟨rfl, rfl⟩)
        | (go_at_call 38; (with_reducible refine (HLP.out _ ?_).mono ?_); exact St2.self (by repeat (first | (with_reducible assumption) | (with_reducible refine St2.dr ?_))); rintro e w1 ⟨rfl, hb1⟩; obtain ⟨hc1, hf1⟩ := bcell2 hb1; have hz1 := hb1.size; have hst1 : St2 w w1 p q := St2.step (by repeat (first | (with_reducible assumption) | (with_reducible refine St2.dr ?_))) hb1; clear hb1)
        | (go_at_call 38; (with_reducible refine (HLQ.out _ ?_).mono ?_); exact St2.self (by repeat (first | (with_reducible assumption) | (with_reducible refine St2.dr ?_))); rintro e w2 ⟨rfl, hb2⟩; obtain ⟨hc2, hf2⟩ := bcell2 hb2; have hz2 := hb2.size; have hst2 : St2 w w2 p q := St2.step (by repeat (first | (with_reducible assumption) | (with_reducible refine St2.dr ?_))) hb2; clear hb2))
    all_goals
      go_wp2
      go_meet
      first
        | (with_reducible exact lenMid_of hst2)
        | (with_reducible exact lenMid_of hst1)
  obtain ⟨rfl, rfl, hst⟩ := hcut
  have HST := Lib.hid hst
  clear hst HS0 HLP HLQ HLL
  obtain ⟨h0, h1, h2, h3, h4, h5, h6, h7⟩ := HST.out.one
  go_wp2_with fail
  refine (HCP.out _ HST.out).mono ?_
  rintro e w3 ⟨rfl, hb3⟩
  have HS3 := Lib.hid (HST.out.step hb3)
  clear hb3 h0 h1 h2 h3 h4 h5 h6 h7 HST
  obtain ⟨h0, h1, h2, h3, h4, h5, h6, h7⟩ := HS3.out.two
  go_wp2_with fail
  refine (HCQ.out _ HS3.out).mono ?_
  rintro e w4 ⟨rfl, hb4⟩
  have HS4 := Lib.hid (HS3.out.step hb4)
  clear hb4 h0 h1 h2 h3 h4 h5 h6 h7 HS3
  obtain ⟨h0, h1, h2, h3, h4, h5, h6, h7⟩ := HS4.out.one
  obtain ⟨g0, g1, g2, g3, g4, g5, g6, g7⟩ := HS4.out.two
  go_wp2_with fail
  refine (HWH.out _ (fun j => H j ∨ j = w.heap.size + 2) HS4.out.bel (fun j e => by
    have h1 := HS4.out.sz
    rcases e with e | e
    · have := HH.out j e; omega
    · omega)).mono ?_
  clear h0 h1 h2 h3 h4 h5 h6 h7 g0 g1 g2 g3 g4 g5 g6 g7
  rintro e w6 (⟨hall, k6, b6, bn6, s6, i6, f6, c6, x6, rfl, hk6, hb6⟩ | ⟨rfl, hb6⟩)
  · have HS6 := Lib.hid (HS4.out.step hb6)
    have HKE0 := Lib.hid hk6
    have HALL := Lib.hid hall
    have z6 : w.heap.size + 2 < w6.heap.size := HS6.out.sz
    have z6a : w.heap.size < w6.heap.size := HS6.out.one.lt
    clear hb6 hk6 hall
    have HKE := Lib.hid ((HKE0.out.set8 (.inr rfl) (.int .i64 k6) (.slice b6.1 b6.2.1 b6.2.2) (.int .i64 bn6) (.slice s6.1 s6.2.1 s6.2.2) (.slice i6.1 i6.2.1 i6.2.2) (.slice f6.1 f6.2.1 f6.2.2) (.slice c6.1 c6.2.1 c6.2.2) (.slice x6.1 x6.2.1 x6.2.2)).sub (H' := H) fun _ _ e => .inl e)
    have HBE := Lib.hid (below_set8 HS6.out.bel (Nat.le_add_right _ 2) (.int .i64 k6) (.slice b6.1 b6.2.1 b6.2.2) (.int .i64 bn6) (.slice s6.1 s6.2.1 s6.2.2) (.slice i6.1 i6.2.1 i6.2.2) (.slice f6.1 f6.2.1 f6.2.2) (.slice c6.1 c6.2.1 c6.2.2) (.slice x6.1 x6.2.1 x6.2.2))
    have HRE := Lib.hid (set8_block HS6.out.res (.int .i64 k6) (.slice b6.1 b6.2.1 b6.2.2) (.int .i64 bn6) (.slice s6.1 s6.2.1 s6.2.2) (.slice i6.1 i6.2.1 i6.2.2) (.slice f6.1 f6.2.1 f6.2.2) (.slice c6.1 c6.2.1 c6.2.2) (.slice x6.1 x6.2.1 x6.2.2))
    obtain ⟨⟨h0, h1, h2, h3, h4, h5, h6, h7⟩, hz⟩ := boxed_of HS6.out.res
    go_wp2
    refine bodyPost_ret (v := .tuple #[vecW k6 b6 bn6 s6 i6 f6 c6 x6, .int .i64 0]) ?_ rfl (.inr ⟨_, HLN.out, .inl ⟨HALL.out, k6, b6, bn6, s6, i6, f6, c6, x6, rfl, HKE.out.step (bel1 _ _), bel_both HBE.out (bel1 _ _)⟩⟩)
    exact ret_vec2 (fn := Tryz.f45) (p := 6) (u := 7) rfl _ _ (w.heap.size + 2) (by rfl) ((Below.heap_alloc _ _ _ (lt_of_block HRE.out)).trans HRE.out)
  · have HS6 := Lib.hid ((HS4.out.step hb6).al (.cells #[.int .i64 0, vnil, .int .i64 0, vnil, vnil, vnil, vnil, vnil] 38))
    clear hb6
    obtain ⟨h0, h1, h2, h3, h4, h5, h6, h7⟩ := HS6.out.one
    obtain ⟨g0, g1, g2, g3, g4, g5, g6, g7⟩ := HS6.out.two
    go_wp2_with fail
    refine (HFL.out _ (fun j => H j ∨ j = w.heap.size + 2) HS6.out.bel (fun j e => by
      have h1 := HS6.out.sz
      rcases e with e | e
      · have := HH.out j e; omega
      · omega)).mono ?_
    clear h0 h1 h2 h3 h4 h5 h6 h7 g0 g1 g2 g3 g4 g5 g6 g7
    rintro e w7 (⟨hall, k5, b5, bn5, s5, i5, f5, c5, x5, rfl, hk5, hb5⟩ | ⟨hbad, rfl, hb5⟩)
    · have HS7 := Lib.hid (HS6.out.step hb5)
      have HKE := Lib.hid hk5
      have HALL := Lib.hid hall
      clear hb5 hk5 hall
      obtain ⟨⟨h0, h1, h2, h3, h4, h5, h6, h7⟩, hz⟩ := boxed_of HS7.out.res
      go_wp2
      refine bodyPost_ret (v := .tuple #[vecW k5 b5 bn5 s5 i5 f5 c5 x5, .int .i64 0]) ?_ rfl (.inr ⟨_, HLN.out, .inl ⟨HALL.out, k5, b5, bn5, s5, i5, f5, c5, x5, rfl, (HKE.out.set8 (.inr rfl) _ _ _ _ _ _ _ _).sub (fun _ _ e => .inl e), below_set8 HS7.out.bel (Nat.le_add_right _ 2) _ _ _ _ _ _ _ _⟩⟩)
      exact ret_vec2 (fn := Tryz.f45) (p := 6) (u := 7) rfl _ _ (w.heap.size + 2) (by rfl) (set8_block HS7.out.res _ _ _ _ _ _ _ _)
    · have HS7 := Lib.hid (HS6.out.step hb5)
      have HBAD := Lib.hid hbad
      clear hb5 hbad
      obtain ⟨⟨h0, h1, h2, h3, h4, h5, h6, h7⟩, hz⟩ := boxed_of HS7.out.res
      go_wp2
      refine bodyPost_ret (v := .tuple #[vecV 0 vnil 0 vnil vnil vnil vnil vnil, .int .i64 24]) ?_ rfl (.inr ⟨_, HLN.out, .inr ⟨HBAD.out, rfl, below_set8 HS7.out.bel (Nat.le_add_right _ 2) _ _ _ _ _ _ _ _⟩⟩)
      exact ret_vec2 (fn := Tryz.f45) (p := 6) (u := 7) rfl _ _ (w.heap.size + 2) (by rfl) (set8_block HS7.out.res _ _ _ _ _ _ _ _)

theorem aapply_any (H : Nat → Prop) (f : Int) (hf : 1 ≤ f) (hf2 : f ≤ 8) (p q : V8) (m n : Nat) (F G : Nat → Nat) (w : World) (hH : ∀ b, H b → b < w.heap.size) (hm : m ≤ 1000000) (hn : n ≤ 1000000)
    (hP : ∀ W, Below w.heap.size w W → NumV p.v p.k m F W) (hQ : ∀ W, Below w.heap.size w W → NumV q.v q.k n G W) :
    Calls Tryz.prog 45 #[.int .i64 f, p.v, q.v] w (Ap2Out H w (fun c => oneP pwP f (F (ixP m c)) (G (ixP n c))) (lenP m n)) := by
  have hP' : ∀ W, Below w.heap.size w W → NumW p.v m F W := fun W hb => (hP W hb).numW
  have hQ' : ∀ W, Below w.heap.size w W → NumW q.v n G W := fun W hb => (hQ W hb).numW
  have hFt := (hP w (Below.refl _ _)).tf
  have hGt := (hQ w (Below.refl _ _)).tf
  cases hL : lenP m n with
  | none =>
    rw [← hL]
    exact aapply_none H f hf hf2 p q m n F G _ w hL hP' hQ'
  | some N =>
    rw [← hL]
    have hfl : ∀ (W : World) (H' : Nat → Prop), Below w.heap.size w W → (∀ b, H' b → b < W.heap.size) → Calls Tryz.prog 67 #[.int .i64 f, .int .i64 (N : Int), p.v, q.v] W (ArOut H' W (fun c => oneP pwP f (F (ixP m c)) (G (ixP n c))) N) := by
      intro W H' hb hH'
      refine afloats_any H' f _ p q m n N F G W hH' hL hm hn (fun W' hb' => hP' W' (bel_both hb hb')) (fun W' hb' => hQ' W' (bel_both hb hb')) (fun c hc W' => ?_) (fun c hc => ?_)
      · obtain ⟨h1, h2⟩ := ixP_lt hL hc
        exact arith_any powIs f hf hf2 _ _ (hFt _ h1) (hGt _ h2) W'
      · obtain ⟨h1, h2⟩ := ixP_lt hL hc
        rcases oneP_cases powIs f (hFt _ h1) (hGt _ h2) with ⟨y, ht, e⟩ | e
        · exact ⟨y, 0, e, .inl ⟨ht, rfl⟩⟩
        · exact ⟨0, 24, e, .inr ⟨rfl, rfl⟩⟩
    by_cases hd : f = 4 ∨ f = 8
    · exact aapply_div H f hf hf2 p q m n F G _ w N hH hL hd hfl hP' hQ'
    · exact aapply_all H f hf hf2 p q m n F G _ w N hH hL hd hfl (fun W H' hb hH' => awholes_any pwP H' f p q m n N F G W hH' hL hm hn (fun W' hb' => hP W' (bel_both hb hb')) (fun W' hb' => hQ W' (bel_both hb hb'))) hP' hQ'
end Go.Proofs.YtiahegjdkejjpaaGreat
