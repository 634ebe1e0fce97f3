/- Merged texts. The walk of pervade.frame. Conditions: at most 1048576 axes. The walk of relate.numbers. Conditions: as each theorem says. -/
import Derived.Test.YtiahegjdkejjpaaGreatMg12
import Derived.Test.YtiahegjdkejjpaaGreatMg19
import Derived.Test.YtiahegjdkejjpaaGreatMg15
import Derived.Deep.CutBlock
namespace Go.Proofs.YtiahegjdkejjpaaGreat
open Go Go.RowKit Go.Proofs Fl

/-- two boxes that hold arrays -/
structure A2 (w W : World) (h1 : Sl) (p : V8) (h2 : Sl) (q : V8) : Prop where
  one : At9 W w.heap.size 0 h1 p
  two : At9 W (w.heap.size + 1) 0 h2 q
  bel : Below w.heap.size w W
theorem A2.step {w W W' : World} {h1 h2 : Sl} {p q : V8} (h : A2 w W h1 p h2 q) (hb : Below W.heap.size W W') : A2 w W' h1 p h2 q := ⟨h.one.below hb, h.two.below hb, bel_both h.bel hb⟩
theorem A2.dr {w W : World} {h1 h2 : Sl} {p q : V8} (h : A2 w W h1 p h2 q) : A2 w W.drew h1 p h2 q := h.step (Below.refl _ W).drew
theorem A2.self {w W : World} {h1 h2 : Sl} {p q : V8} (h : A2 w W h1 p h2 q) : A2 w W h1 p h2 q := h
theorem A2.new (w : World) (h1 h2 : Sl) (p q : V8) : A2 w ((w.alloc (arrO h1 p)).alloc (arrO h2 q)) h1 p h2 q := by
  have h := at9_new (w.alloc (arrO h1 p)) h2 q
  have e : (w.alloc (arrO h1 p)).heap.size = w.heap.size + 1 := by simp
  rw [e] at h
  exact ⟨(at9_new w h1 p).below (bel1 _ _), h, bel2 w _ _⟩
theorem a2_s {w W : World} {h1 h2 : Sl} {p q : V8} (h : A2 w W h1 p h2 q) : ((W.cell? ⟨w.heap.size, 0, none⟩ = some (.slice h1.1 h1.2.1 h1.2.2) ∧ W.cell? ⟨w.heap.size, 1, none⟩ = some (.int .i64 p.k) ∧ W.cell? ⟨w.heap.size, 2, none⟩ = some (.slice p.b.1 p.b.2.1 p.b.2.2) ∧ W.cell? ⟨w.heap.size, 3, none⟩ = some (.int .i64 p.bn) ∧ W.cell? ⟨w.heap.size, 4, none⟩ = some (.slice p.s.1 p.s.2.1 p.s.2.2) ∧ W.cell? ⟨w.heap.size, 5, none⟩ = some (.slice p.i.1 p.i.2.1 p.i.2.2) ∧ W.cell? ⟨w.heap.size, 6, none⟩ = some (.slice p.f.1 p.f.2.1 p.f.2.2) ∧ W.cell? ⟨w.heap.size, 7, none⟩ = some (.slice p.c.1 p.c.2.1 p.c.2.2) ∧ W.cell? ⟨w.heap.size, 8, none⟩ = some (.slice p.x.1 p.x.2.1 p.x.2.2)) ∧ (W.cell? ⟨w.heap.size + 1, 0, none⟩ = some (.slice h2.1 h2.2.1 h2.2.2) ∧ W.cell? ⟨w.heap.size + 1, 1, none⟩ = some (.int .i64 q.k) ∧ W.cell? ⟨w.heap.size + 1, 2, none⟩ = some (.slice q.b.1 q.b.2.1 q.b.2.2) ∧ W.cell? ⟨w.heap.size + 1, 3, none⟩ = some (.int .i64 q.bn) ∧ W.cell? ⟨w.heap.size + 1, 4, none⟩ = some (.slice q.s.1 q.s.2.1 q.s.2.2) ∧ W.cell? ⟨w.heap.size + 1, 5, none⟩ = some (.slice q.i.1 q.i.2.1 q.i.2.2) ∧ W.cell? ⟨w.heap.size + 1, 6, none⟩ = some (.slice q.f.1 q.f.2.1 q.f.2.2) ∧ W.cell? ⟨w.heap.size + 1, 7, none⟩ = some (.slice q.c.1 q.c.2.1 q.c.2.2) ∧ W.cell? ⟨w.heap.size + 1, 8, none⟩ = some (.slice q.x.1 q.x.2.1 q.x.2.2))) ∧ A2 w W h1 p h2 q := ⟨⟨h.one.c, h.two.c⟩, h⟩
def FrMid (w : World) (h1 : Sl) (p : V8) (h2 : Sl) (q : V8) (x y : Bool) (u v : Value) (W : World) : Prop := u = .bool x ∧ v = .bool y ∧ A2 w W h1 p h2 q
theorem frMid_of {w W : World} {h1 h2 : Sl} {p q : V8} {x y : Bool} (h : A2 w W h1 p h2 q) : FrMid w h1 p h2 q x y (.bool x) (.bool y) W := ⟨rfl, rfl, h⟩
/-- what frame tells: one of the two shapes, or a trouble -/
def FrR (a b : PA) (h1 h2 : Sl) (w : World) (e : Ending) (w' : World) : Prop :=
  (((frameE a b).1 = 0 ∧ ∃ s : Sl, e = .returned (.tuple #[sv s, .int .i64 0]) ∧ ((s = h1 ∧ (frameE a b).2 = a.shape) ∨ (s = h2 ∧ (frameE a b).2 = b.shape))) ∨ ((frameE a b).1 ≠ 0 ∧ e = .returned (.tuple #[vnil, .int .i64 (frameE a b).1]))) ∧ Below w.heap.size w w'
theorem frR_a {a b : PA} {h1 h2 : Sl} {w w' : World} (e : frameE a b = (0, a.shape)) (hb : Below w.heap.size w w') : FrR a b h1 h2 w (.returned (.tuple #[sv h1, .int .i64 0])) w' := ⟨.inl ⟨by rw [e], h1, rfl, .inl ⟨rfl, by rw [e]⟩⟩, hb⟩
theorem frR_b {a b : PA} {h1 h2 : Sl} {w w' : World} (e : frameE a b = (0, b.shape)) (hb : Below w.heap.size w w') : FrR a b h1 h2 w (.returned (.tuple #[sv h2, .int .i64 0])) w' := ⟨.inl ⟨by rw [e], h2, rfl, .inr ⟨rfl, by rw [e]⟩⟩, hb⟩
theorem frR_e {a b : PA} {h1 h2 : Sl} {w w' : World} {z : Int} (e : frameE a b = (z, [])) (hz : z ≠ 0) (hb : Below w.heap.size w w') : FrR a b h1 h2 w (.returned (.tuple #[vnil, .int .i64 z])) w' := ⟨.inr ⟨by rw [e]; exact hz, by rw [e]⟩, hb⟩
theorem AV.shp {H : Nat → Prop} {w : World} {a : PA} {h : Sl} {p : V8} (g : AV H w a h p) : ShV H w h a.shape := by
  cases a <;> (rw [AV] at g; exact g.1)

set_option maxRecDepth 100000 in
set_option maxHeartbeats 4000000 in
theorem frame_any {Ha Hb : Nat → Prop} {a b : PA} {h1 h2 : Sl} {p q : V8} (w : World) (ga : AV Ha w a h1 p) (gb : AV Hb w b h2 q) (sa : a.shape.length ≤ 1048576) (sb : b.shape.length ≤ 1048576) :
    Calls Tryz.prog 20 #[arrV h1 p, arrV h2 q] w (FrR a b h1 h2 w) := by
  obtain ⟨x, hx⟩ : ∃ x, x = ((a.len : Int) == 1) := ⟨_, rfl⟩
  obtain ⟨y, hy⟩ : ∃ y, y = ((b.len : Int) == 1) := ⟨_, rfl⟩
  have HSA := Lib.hid (fun W (hs : A2 w W h1 p h2 q) => single_any (AV.step ga hs.bel))
  have HSB := Lib.hid (fun W (hs : A2 w W h1 p h2 q) => single_any (AV.step gb hs.bel))
  have HSM := Lib.hid (fun W (hs : A2 w W h1 p h2 q) => shSame_any ga.shp gb.shp sa sb W hs.bel)
  rw [← hx] at HSA
  rw [← hy] at HSB
  have HL1 : Hid (h1.2.1 = a.shape.length) := ga.shp.len
  have HL2 : Hid (h2.2.1 = b.shape.length) := gb.shp.len
  have HX : Hid (x = true ↔ a.len = 1) := by unfold Hid; rw [hx]; simp; omega
  have HY : Hid (y = true ↔ b.len = 1) := by unfold Hid; rw [hy]; simp; omega
  have HS0 := Lib.hid (A2.new w h1 h2 p q)
  clear ga gb hx hy sa sb
  go_enter Tryz.func20, Tryz.ntmps20
  go_wp2_with fail
  obtain ⟨w0, hw0⟩ : ∃ w0, w0 = (w.alloc (arrO h1 p)).alloc (arrO h2 q) := ⟨_, rfl⟩
  rw [← hw0] at HS0 ⊢
  clear hw0
  skip
  go_cut [6, 7] from 8 (fun u v wx => FrMid w h1 p h2 q x y u v wx)
  case first =>
    have hs0 := HS0.out.dr
    have hs00 := HS0.out
    go_region_held3 (fun W => ((W.cell? ⟨w.heap.size, 0, none⟩ = some (.slice h1.1 h1.2.1 h1.2.2) ∧ W.cell? ⟨w.heap.size, 1, none⟩ = some (.int .i64 p.k) ∧ W.cell? ⟨w.heap.size, 2, none⟩ = some (.slice p.b.1 p.b.2.1 p.b.2.2) ∧ W.cell? ⟨w.heap.size, 3, none⟩ = some (.int .i64 p.bn) ∧ W.cell? ⟨w.heap.size, 4, none⟩ = some (.slice p.s.1 p.s.2.1 p.s.2.2) ∧ W.cell? ⟨w.heap.size, 5, none⟩ = some (.slice p.i.1 p.i.2.1 p.i.2.2) ∧ W.cell? ⟨w.heap.size, 6, none⟩ = some (.slice p.f.1 p.f.2.1 p.f.2.2) ∧ W.cell? ⟨w.heap.size, 7, none⟩ = some (.slice p.c.1 p.c.2.1 p.c.2.2) ∧ W.cell? ⟨w.heap.size, 8, none⟩ = some (.slice p.x.1 p.x.2.1 p.x.2.2)) ∧ (W.cell? ⟨w.heap.size + 1, 0, none⟩ = some (.slice h2.1 h2.2.1 h2.2.2) ∧ W.cell? ⟨w.heap.size + 1, 1, none⟩ = some (.int .i64 q.k) ∧ W.cell? ⟨w.heap.size + 1, 2, none⟩ = some (.slice q.b.1 q.b.2.1 q.b.2.2) ∧ W.cell? ⟨w.heap.size + 1, 3, none⟩ = some (.int .i64 q.bn) ∧ W.cell? ⟨w.heap.size + 1, 4, none⟩ = some (.slice q.s.1 q.s.2.1 q.s.2.2) ∧ W.cell? ⟨w.heap.size + 1, 5, none⟩ = some (.slice q.i.1 q.i.2.1 q.i.2.2) ∧ W.cell? ⟨w.heap.size + 1, 6, none⟩ = some (.slice q.f.1 q.f.2.1 q.f.2.2) ∧ W.cell? ⟨w.heap.size + 1, 7, none⟩ = some (.slice q.c.1 q.c.2.1 q.c.2.2) ∧ W.cell? ⟨w.heap.size + 1, 8, none⟩ = some (.slice q.x.1 q.x.2.1 q.x.2.2))) ∧ A2 w W h1 p h2 q)
      (first | (with_reducible assumption) | (with_reducible (refine a2_s ?_); repeat (first | (with_reducible assumption) | (with_reducible refine A2.dr ?_))))
      (first
        | (go_at_call 42; (with_reducible refine (HSA.out _ ?_).mono ?_); exact A2.self (by repeat (first | (with_reducible assumption) | (with_reducible refine A2.dr ?_))); rintro e w1 ⟨rfl, hb1⟩; obtain ⟨hc1, hf1⟩ := bcell2 hb1; have hz1 := hb1.size; have hst1 : A2 w w1 h1 p h2 q := A2.step (by repeat (first | (with_reducible assumption) | (with_reducible refine A2.dr ?_))) hb1; clear hb1)
        | (go_at_call 42; (with_reducible refine (HSB.out _ ?_).mono ?_); exact A2.self (by repeat (first | (with_reducible assumption) | (with_reducible refine A2.dr ?_))); rintro e w2 ⟨rfl, hb2⟩; obtain ⟨hc2, hf2⟩ := bcell2 hb2; have hz2 := hb2.size; have hst2 : A2 w w2 h1 p h2 q := A2.step (by repeat (first | (with_reducible assumption) | (with_reducible refine A2.dr ?_))) hb2; clear hb2))
    all_goals
      go_wp2
      go_meet
      (with_reducible exact frMid_of hst2)
  obtain ⟨rfl, rfl, hst⟩ := hcut
  have HST := Lib.hid hst
  clear hst HS0 HSA HSB
  obtain ⟨A1, n1, c1⟩ := h1
  obtain ⟨B1, n2, c2⟩ := h2
  obtain ⟨d0, d1, d2, d3, d4, d5, d6, d7, d8⟩ := HST.out.one.c
  obtain ⟨g0, g1, g2, g3, g4, g5, g6, g7, g8⟩ := HST.out.two.c
  dsimp only [sv] at HL1 HL2 HSM
  cases x with
  | true =>
    have hla := HX.out.1 rfl
    cases y with
    | true =>
      have hlb := HY.out.1 rfl
      by_cases hge : n2 ≤ n1
      · have e : frameE a b = (0, a.shape) := by unfold frameE; rw [if_pos ⟨hla, hlb, by rw [← HL1.out, ← HL2.out]; exact hge⟩]
        have hge2 : (n2 : Int) ≤ (n1 : Int) := by omega
        have HE := Lib.hid e
        clear e hla hlb hge
        go_wp2
        go_ret2
        exact frR_a (h1 := (A1, n1, c1)) HE.out HST.out.bel
      · have e : frameE a b = (0, b.shape) := by unfold frameE; rw [if_neg (by rw [← HL1.out, ← HL2.out]; exact fun h => hge h.2.2), if_pos hla]
        have hge2 : ¬ (n2 : Int) ≤ (n1 : Int) := by omega
        have HE := Lib.hid e
        clear e hla hlb hge
        go_wp2
        go_ret2
        exact frR_b (h2 := (B1, n2, c2)) HE.out HST.out.bel
    | false =>
      have hlb : ¬ b.len = 1 := fun h => by have := HY.out.2 h; cases this
      have e : frameE a b = (0, b.shape) := by unfold frameE; rw [if_neg (fun h => hlb h.2.1), if_pos hla]
      have HE := Lib.hid e
      clear e hla hlb
      go_wp2
      go_ret2
      exact frR_b (h2 := (B1, n2, c2)) HE.out HST.out.bel
  | false =>
    have hla : ¬ a.len = 1 := fun h => by have := HX.out.2 h; cases this
    cases y with
    | true =>
      have hlb := HY.out.1 rfl
      have e : frameE a b = (0, a.shape) := by unfold frameE; rw [if_neg (fun h => hla h.1), if_neg hla, if_pos hlb]
      have HE := Lib.hid e
      clear e hla hlb
      go_wp2
      go_ret2
      exact frR_a (h1 := (A1, n1, c1)) HE.out HST.out.bel
    | false =>
      have hlb : ¬ b.len = 1 := fun h => by have := HY.out.2 h; cases this
      have e0 : frameE a b = if a.shape.length ≠ b.shape.length then (22, []) else if a.shape ≠ b.shape then (23, []) else (0, a.shape) := by unfold frameE; rw [if_neg (fun h => hla h.1), if_neg hla, if_neg hlb]
      by_cases hn : n1 = n2
      · by_cases hs : a.shape = b.shape
        · have e : frameE a b = (0, a.shape) := by rw [e0, if_neg (by rw [← HL1.out, ← HL2.out]; simpa using hn), if_neg (by simpa using hs)]
          have hne : ((n1 : Int) != (n2 : Int)) = false := by simp; omega
          have HE := Lib.hid e
          have hds : decide (a.shape = b.shape) = true := by simpa using hs
          rw [hds] at HSM
          clear e e0 hla hlb hn hs hds
          go_wp2_with fail
          refine (HSM.out _ HST.out).mono ?_
          rintro e w3 ⟨rfl, hb3⟩
          have HS3 := Lib.hid (HST.out.step hb3)
          clear hb3 d0 d1 d2 d3 d4 d5 d6 d7 d8 g0 g1 g2 g3 g4 g5 g6 g7 g8
          obtain ⟨d0, d1, d2, d3, d4, d5, d6, d7, d8⟩ := HS3.out.one.c
          go_wp2
          go_ret2
          exact frR_a (h1 := (A1, n1, c1)) HE.out HS3.out.bel
        · have e : frameE a b = (23, []) := by rw [e0, if_neg (by rw [← HL1.out, ← HL2.out]; simpa using hn), if_pos (by simpa using hs)]
          have hne : ((n1 : Int) != (n2 : Int)) = false := by simp; omega
          have HE := Lib.hid e
          have hds : decide (a.shape = b.shape) = false := by simpa using hs
          rw [hds] at HSM
          clear e e0 hla hlb hn hs hds
          go_wp2_with fail
          refine (HSM.out _ HST.out).mono ?_
          rintro e w3 ⟨rfl, hb3⟩
          have HS3 := Lib.hid (HST.out.step hb3)
          clear hb3 d0 d1 d2 d3 d4 d5 d6 d7 d8 g0 g1 g2 g3 g4 g5 g6 g7 g8
          go_wp2
          go_ret2
          exact frR_e HE.out (by decide) HS3.out.bel
      · have e : frameE a b = (22, []) := by rw [e0, if_pos (by rw [← HL1.out, ← HL2.out]; simpa using hn)]
        have hne : ((n1 : Int) != (n2 : Int)) = true := by simp; omega
        have HE := Lib.hid e
        clear e e0 hla hlb hn
        go_wp2
        go_ret2
        exact frR_e HE.out (by decide) HST.out.bel
end Go.Proofs.YtiahegjdkejjpaaGreat
namespace Go.Proofs.YtiahegjdkejjpaaGreat
open Go Go.RowKit Go.Proofs Fl

theorem store_bool {w : World} {a : Addr} {y : Value} (hc : w.cell? a = some y) (hf : w.frozen? a = false) (x : Bool) (m : Mode) : (store a (.bool x) m).run Tryz.prog w = .ok () (w.setCell a (.bool x)) := by
  rw [run_store Tryz.prog w a _ m rfl, hc]
  simp [hf]
theorem rl_put {w W : World} {p q : V8} {f : Nat → Value} {N c : Nat} {u : Value} (h : Ar2 w p q 4 f (.bool false) N c W) (hc : c < N) (hu : f c = u) : Ar2 w p q 4 f (.bool false) N (c + 1) (W.setCell ⟨w.heap.size + 3, c, none⟩ u) := by rw [← hu]; exact h.put hc

set_option maxRecDepth 100000 in
set_option maxHeartbeats 4000000 in
theorem rnumbers_any (H : Nat → Prop) (f : Int) (R : Nat → Bool) (p q : V8) (m n N : Nat) (F G : Nat → Nat) (w : World) (hH : ∀ b, H b → b < w.heap.size) (hL : lenP m n = some N) (hm : m ≤ 1000000) (hn : n ≤ 1000000)
    (hP : ∀ W, Below w.heap.size w W → NumW p.v m F W) (hQ : ∀ W, Below w.heap.size w W → NumW q.v n G W)
    (hone : ∀ c, c < N → ∀ W, Calls Tryz.prog 107 #[.int .i64 f, .float .f64 (F (ixP m c)), .float .f64 (G (ixP n c))] W fun e w' => e = .returned (.tuple #[.bool (R c), .int .i64 0]) ∧ W = w') :
    Calls Tryz.prog 73 #[.int .i64 f, .int .i64 (N : Int), p.v, q.v] w (VecR H w (fun u W => NumV u 1 N (fun c => flagF (R c)) W)) := by
  have hNb : N ≤ 1000000 := lenP_le hL hm hn
  have HP := Lib.hid hP
  have HQ := Lib.hid hQ
  have HONE := Lib.hid hone
  have HH := Lib.hid hH
  have HIX := Lib.hid (fun c (hc : c < N) => ixP_lt hL hc)
  have hmk := run_make_row' (P := Tryz.prog) 91 4 (.bool false) 1 Tryz.underlying91 info_bool rfl .i64 .i64 N (by omega) (by omega)
  obtain ⟨ff, hff⟩ : ∃ ff : Nat → Value, ff = fun c => .bool (R c) := ⟨_, rfl⟩
  have HFF : Hid (∀ c, ff c = .bool (R c)) := fun c => by rw [hff]
  clear hff
  have HA0 := Lib.hid (Ar2.new w p q 4 ff (.bool false) N (by unfold maxLen; omega))
  clear hP hQ hone hH hL
  go_enter Tryz.func73, Tryz.ntmps73
  go_wp2
  go_loopw [15] (fun j wr => ∃ c : Nat, c ≤ N ∧ j = .int .i64 c ∧ Ar2 w p q 4 ff (.bool false) N c wr) (fun j _ => N - (intOf j).toNat)
  case atStart => exact ⟨0, Nat.zero_le _, rfl, HA0.out⟩
  case round =>
    clear HA0
    obtain ⟨c, hc, rfl, har⟩ := hrel
    have HAR := Lib.hid har
    clear har
    by_cases hlt : c < N
    · obtain ⟨hi1, hi2⟩ := HIX.out c hlt
      have HAP := Lib.hid (fun W (hs : Ar2 w p q 4 ff (.bool false) N c W) => rat_any p m c W (fun W' hb => (HP.out W' (bel_both hs.st.bel hb)).len))
      have HAQ := Lib.hid (fun W (hs : Ar2 w p q 4 ff (.bool false) N c W) => rat_any q n c W (fun W' hb => (HQ.out W' (bel_both hs.st.bel hb)).len))
      have HNP := Lib.hid (fun W (hs : Ar2 w p q 4 ff (.bool false) N c W) => (HP.out W hs.st.bel).num (ixP m c) hi1)
      have HNQ := Lib.hid (fun W (hs : Ar2 w p q 4 ff (.bool false) N c W) => (HQ.out W hs.st.bel).num (ixP n c) hi2)
      have HO := Lib.hid (HONE.out c hlt)
      have HFC := Lib.hid (HFF.out c)
      clear hi1 hi2
      generalize R c = y at HO HFC
      generalize F (ixP m c) = xa at *
      generalize G (ixP n c) = xb at *
      generalize ixP m c = ia at *
      generalize ixP n c = ib at *
      go_upto_block 1 with fail
      go_cut [10] from 17 to 36 (fun x wx => x = .int .i64 (c : Int) ∧ Ar2 w p q 4 ff (.bool false) N (c + 1) wx)
      case first =>
        go_wp2_with fail
        have hs0 := HAR.out.dr
        have hs00 := HAR.out
        have hss0 := hs0.st
        have hss00 := hs00.st
        have hrc := HAR.out.fill.cell hlt
        have hrf := HAR.out.fill.frozen c
        have hrz : w.heap.size + 3 < wr.heap.size := HAR.out.fill.low.2
        go_region_held3 (fun W => ((W.cell? ⟨w.heap.size, 0, none⟩ = some (.int .i64 p.k) ∧ W.cell? ⟨w.heap.size, 1, none⟩ = some (.slice p.b.1 p.b.2.1 p.b.2.2) ∧ W.cell? ⟨w.heap.size, 2, none⟩ = some (.int .i64 p.bn) ∧ W.cell? ⟨w.heap.size, 3, none⟩ = some (.slice p.s.1 p.s.2.1 p.s.2.2) ∧ W.cell? ⟨w.heap.size, 4, none⟩ = some (.slice p.i.1 p.i.2.1 p.i.2.2) ∧ W.cell? ⟨w.heap.size, 5, none⟩ = some (.slice p.f.1 p.f.2.1 p.f.2.2) ∧ W.cell? ⟨w.heap.size, 6, none⟩ = some (.slice p.c.1 p.c.2.1 p.c.2.2) ∧ W.cell? ⟨w.heap.size, 7, none⟩ = some (.slice p.x.1 p.x.2.1 p.x.2.2)) ∧ (W.cell? ⟨w.heap.size + 1, 0, none⟩ = some (.int .i64 q.k) ∧ W.cell? ⟨w.heap.size + 1, 1, none⟩ = some (.slice q.b.1 q.b.2.1 q.b.2.2) ∧ W.cell? ⟨w.heap.size + 1, 2, none⟩ = some (.int .i64 q.bn) ∧ W.cell? ⟨w.heap.size + 1, 3, none⟩ = some (.slice q.s.1 q.s.2.1 q.s.2.2) ∧ W.cell? ⟨w.heap.size + 1, 4, none⟩ = some (.slice q.i.1 q.i.2.1 q.i.2.2) ∧ W.cell? ⟨w.heap.size + 1, 5, none⟩ = some (.slice q.f.1 q.f.2.1 q.f.2.2) ∧ W.cell? ⟨w.heap.size + 1, 6, none⟩ = some (.slice q.c.1 q.c.2.1 q.c.2.2) ∧ W.cell? ⟨w.heap.size + 1, 7, none⟩ = some (.slice q.x.1 q.x.2.1 q.x.2.2))) ∧ St2 w W p q)
          (first | (with_reducible assumption) | (with_reducible (refine st2_s ?_); repeat (first | (with_reducible assumption) | (with_reducible refine St2.dr ?_) | (with_reducible refine St2.put ?_ (by first | assumption | omega | (simp; omega)) _))))
          (first
            | (go_at_call 107; (with_reducible refine (HO.out _).mono ?_); rintro e w5 ⟨rfl, rfl⟩)
            | (go_at_call 104; (with_reducible refine (HAP.out _ ?_).mono ?_); exact Ar2.self (by repeat (first | (with_reducible assumption) | (with_reducible refine Ar2.dr ?_))); rintro e w1 ⟨rfl, hb1⟩; obtain ⟨hc1, hf1⟩ := bcell2 hb1; have hz1 := hb1.size; have hst1 : Ar2 w p q 4 ff (.bool false) N c w1 := Ar2.step (by repeat (first | (with_reducible assumption) | (with_reducible refine Ar2.dr ?_))) hb1; have hss1 : St2 w w1 p q := hst1.st; have hcr1 := hst1.fill.cell hlt; have hfr1 := hst1.fill.frozen c; clear hb1)
            | (go_at_call 104; (with_reducible refine (HAQ.out _ ?_).mono ?_); exact Ar2.self (by repeat (first | (with_reducible assumption) | (with_reducible refine Ar2.dr ?_))); rintro e w2 ⟨rfl, hb2⟩; obtain ⟨hc2, hf2⟩ := bcell2 hb2; have hz2 := hb2.size; have hst2 : Ar2 w p q 4 ff (.bool false) N c w2 := Ar2.step (by repeat (first | (with_reducible assumption) | (with_reducible refine Ar2.dr ?_))) hb2; have hss2 : St2 w w2 p q := hst2.st; have hcr2 := hst2.fill.cell hlt; have hfr2 := hst2.fill.frozen c; clear hb2)
            | (go_at_call 57; (with_reducible refine (HNP.out _ ?_).mono ?_); exact Ar2.self (by repeat (first | (with_reducible assumption) | (with_reducible refine Ar2.dr ?_))); rintro e w3 ⟨rfl, hb3⟩; obtain ⟨hc3, hf3⟩ := bcell2 hb3; have hz3 := hb3.size; have hst3 : Ar2 w p q 4 ff (.bool false) N c w3 := Ar2.step (by repeat (first | (with_reducible assumption) | (with_reducible refine Ar2.dr ?_))) hb3; have hss3 : St2 w w3 p q := hst3.st; have hcr3 := hst3.fill.cell hlt; have hfr3 := hst3.fill.frozen c; clear hb3)
            | (go_at_call 57; (with_reducible refine (HNQ.out _ ?_).mono ?_); exact Ar2.self (by repeat (first | (with_reducible assumption) | (with_reducible refine Ar2.dr ?_))); rintro e w4 ⟨rfl, hb4⟩; obtain ⟨hc4, hf4⟩ := bcell2 hb4; have hz4 := hb4.size; have hst4 : Ar2 w p q 4 ff (.bool false) N c w4 := Ar2.step (by repeat (first | (with_reducible assumption) | (with_reducible refine Ar2.dr ?_))) hb4; have hss4 : St2 w w4 p q := hst4.st; have hcr4 := hst4.fill.cell hlt; have hfr4 := hst4.fill.frozen c; clear hb4))
        all_goals
          go_wp2
          go_meet
          first
            | (with_reducible exact ⟨rfl, rl_put hst4 hlt HFC.out⟩)
            | (with_reducible exact ⟨rfl, rl_put hst3 hlt HFC.out⟩)
            | (with_reducible exact ⟨rfl, rl_put hst2 hlt HFC.out⟩)
            | (with_reducible exact ⟨rfl, rl_put hst1 hlt HFC.out⟩)
      case rest =>
        obtain ⟨rfl, har⟩ := hcut
        have HAR2 := Lib.hid har
        clear har HAR HAP HAQ HNP HNQ HO
        go_wp2
        go_roundw
        case rel => exact ⟨c + 1, by omega, by go_num, HAR2.out⟩
        case measure => simp [intOf]; omega
    · obtain rfl : c = N := by omega
      have HPK := Lib.hid (pack_any (w.heap.size + 3) 0 c c R (by omega) (Nat.le_refl _) wr (fun i hi => by
        rw [Nat.zero_add, HAR.out.fill.done i hi (Nat.le_refl _), HFF.out]))
      go_wp2_with fail
      refine HPK.out.mono ?_
      rintro e w5 ⟨gg, rfl, hr5, hb5⟩
      have HS5 := Lib.hid (HAR.out.st.step hb5)
      have HGW : Hid (wr.heap.size ≤ gg) := hr5.low.1
      have HGS : Hid (w.heap.size + 3 ≤ wr.heap.size) := HAR.out.st.sz
      have HR5 := Lib.hid hr5
      clear hb5 hr5
      go_wp2_with fail
      refine (vbits_any _ _ _ _ _).mono ?_
      rintro e w6 ⟨rfl, hb6⟩
      have HS6 := Lib.hid (HS5.out.step hb6)
      have HR6 := Lib.hid (HR5.out.below hb6)
      clear hb6
      have HRE := Lib.hid (set8_block HS6.out.res (.int .i64 1) (.slice (some ⟨gg, 0, none⟩) ((c + 63) / 64) ((c + 63) / 64)) (.int .i64 (c : Int)) vnil vnil vnil vnil vnil)
      have HBE := Lib.hid (below_set8 HS6.out.bel (Nat.le_add_right _ 2) (.int .i64 1) (.slice (some ⟨gg, 0, none⟩) ((c + 63) / 64) ((c + 63) / 64)) (.int .i64 (c : Int)) vnil vnil vnil vnil vnil)
      have HKE : Hid (Keeps H (set8 w6 (w.heap.size + 2) (.int .i64 1) (.slice (some ⟨gg, 0, none⟩) ((c + 63) / 64) ((c + 63) / 64)) (.int .i64 (c : Int)) vnil vnil vnil vnil vnil) (NumV (vecW 1 (some ⟨gg, 0, none⟩, (c + 63) / 64, (c + 63) / 64) (c : Int) (none, 0, 0) (none, 0, 0) (none, 0, 0) (none, 0, 0) (none, 0, 0)) 1 c (fun c => flagF (R c)))) := by
        have h1 : Keeps (fun j => H j ∨ j = w.heap.size + 2) w6 (fun W => Reads1 W (.slice (some ⟨gg, 0, none⟩) ((c + 63) / 64) ((c + 63) / 64)) ((List.range ((c + 63) / 64)).map fun j => .int .u64 (packW R c j : Nat))) :=
          Own1.keepsH HR6.out (fun j e => by
            have h1 := HGW.out
            have h2 := HGS.out
            rcases e with e | e
            · have := HH.out j e; omega
            · omega)
        refine ((h1.imp fun W' h => numV_bits (by omega) ⟨_, rfl, ⟨gg, 0, _, rfl, fun j hj => ?_⟩⟩).set8 (.inr rfl) _ _ _ _ _ _ _ _).sub fun _ _ e => .inl e
        exact reads_cell h j hj
      clear HR5 HR6
      obtain ⟨⟨h0, h1, h2, h3, h4, h5, h6, h7⟩, hz⟩ := boxed_of HS6.out.res
      go_wp2
      refine bodyPost_ret (ret_vec rfl _ _ _ rfl HRE.out) rfl ?_
      exact ⟨1, (some ⟨gg, 0, none⟩, (c + 63) / 64, (c + 63) / 64), (c : Int), (none, 0, 0), (none, 0, 0), (none, 0, 0), (none, 0, 0), (none, 0, 0), rfl, HKE.out, HBE.out⟩
end Go.Proofs.YtiahegjdkejjpaaGreat
