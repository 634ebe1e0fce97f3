/- Merged texts. The walk of relate.Apply at numbers in any stores. Conditions: as each theorem says. The walk of logic.Truths. Conditions: as each theorem says. The walk of logic.Apply at numbers in any stores, at least one. Conditions: as each theorem says. The walks of squeeze.Into, logic.Truths, arith.Apply and logic.Apply at characters. Conditions: as each theorem says. -/
import Derived.Test.YtiahegjdkejjpaaGreatMg20
import Derived.Test.YtiahegjdkejjpaaGreatMg08
import Derived.Test.YtiahegjdkejjpaaGreatMg16
import Derived.Test.YtiahegjdkejjpaaGreatMg19
namespace Go.Proofs.YtiahegjdkejjpaaGreat
open Go Go.RowKit Go.Proofs Fl
def tabRN (f : Int) : Nat := (tbR f 0).toNat + 2 * (tbR f 1).toNat + 4 * (tbR f 2).toNat + 8 * (tbR f 3).toNat
theorem four_bits : ∀ a b c d : Bool, ((a.toNat + 2 * b.toNat + 4 * c.toNat + 8 * d.toNat).testBit 0 = a ∧ (a.toNat + 2 * b.toNat + 4 * c.toNat + 8 * d.toNat).testBit 1 = b ∧ (a.toNat + 2 * b.toNat + 4 * c.toNat + 8 * d.toNat).testBit 2 = c ∧ (a.toNat + 2 * b.toNat + 4 * c.toNat + 8 * d.toNat).testBit 3 = d) ∧ a.toNat + 2 * b.toNat + 4 * c.toNat + 8 * d.toNat < 16 := by decide
theorem tabRN_lt (f : Int) : tabRN f < 16 := (four_bits _ _ _ _).2
theorem tabRN_bit (f : Int) (j : Nat) (hj : j < 4) : (tabRN f).testBit j = tbR f j := by
 obtain ⟨⟨h0, h1, h2, h3⟩, _⟩ := four_bits (tbR f 0) (tbR f 1) (tbR f 2) (tbR f 3)
 match j, hj with
 | 0, _ => exact h0
 | 1, _ => exact h1
 | 2, _ => exact h2
 | 3, _ => exact h3
theorem rtable_fix (f : Int) (hf : 11 ≤ f) (hf2 : f ≤ 16) (w : World) : Calls Tryz.prog 71 #[.int .i64 f] w fun e w' => e = .returned (.int .u8 ((tabRN f : Nat) : Int)) ∧ w = w' := by
 refine (rtable_any f hf hf2 w).mono ?_
 rintro e w' ⟨t, rfl, ⟨ht, hb⟩, rfl⟩
 have e : t = tabRN f := by
  apply Nat.eq_of_testBit_eq
  intro j
  by_cases hj : j < 4
  ·rw [hb j hj, tabRN_bit f j hj]
  ·have h16 : (16 : Nat) ≤ 2 ^ j := Nat.pow_le_pow_right (n := 2) (by decide) (show 4 ≤ j by omega)
   rw [Nat.testBit_lt_two_pow (Nat.lt_of_lt_of_le ht h16), Nat.testBit_lt_two_pow (Nat.lt_of_lt_of_le (tabRN_lt f) h16)]
 exact ⟨by rw [e], rfl⟩
theorem fi_toNat (t : Bool) : fi ((t.toNat : Nat) : Int) = flagF t := by
 cases t
 ·exact fi_zero
 ·exact fi_one
theorem tabRN_rel (f : Int) (a b : Bool) : (tabRN f).testBit (2 * a.toNat + b.toNat) = relB f (flagF a) (flagF b) := by
 rw [tabRN_bit _ _ (by cases a <;> cases b <;> decide)]
 unfold tbR
 have e1 : (2 * a.toNat + b.toNat) / 2 = a.toNat := by cases a <;> cases b <;> rfl
 have e2 : (2 * a.toNat + b.toNat) % 2 = b.toNat := by cases a <;> cases b <;> rfl
 rw [e1, e2, fi_toNat, fi_toNat]
def Rl2Out (H : Nat → Prop) (w : World) (R : Nat → Bool) (r : Option Nat) (e : Ending) (w' : World) : Prop :=
 (r = none ∧ e = .returned (.tuple #[vecV 0 vnil 0 vnil vnil vnil vnil vnil, .int .i64 23]) ∧ Below w.heap.size w w') ∨ (∃ N, r = some N ∧ VecOk H w (fun u W => NumV u 1 N (fun c => flagF (R c)) W) e w')
def ClsMid (w : World) (p q : V8) (x : Value) (W : World) : Prop := x = .bool false ∧ St2 w W p q
theorem clsMid_of {w W : World} {p q : V8} (h : St2 w W p q) : ClsMid w p q (.bool false) W := ⟨rfl, h⟩
structure LdB (w0 : World) (V1 V2 : Nat) (b1 b2 : Sl) (N : Nat) (W : World) : Prop where
 one : W.heap[V1]? = some (.cells #[.slice b1.1 b1.2.1 b1.2.2, .int .i64 (N : Int)] 31)
 two : W.heap[V2]? = some (.cells #[.slice b2.1 b2.2.1 b2.2.2, .int .i64 (N : Int)] 31)
 bel : Below w0.heap.size w0 W
 old1 : V1 < w0.heap.size
 old2 : V2 < w0.heap.size
theorem LdB.step {w0 W W' : World} {V1 V2 : Nat} {b1 b2 : Sl} {N : Nat} (h : LdB w0 V1 V2 b1 b2 N W) (hb : Below W.heap.size W W') : LdB w0 V1 V2 b1 b2 N W' :=
 ⟨by rw [hb.block _ (lt_of_block h.one)]; exact h.one, by rw [hb.block _ (lt_of_block h.two)]; exact h.two, bel_both h.bel hb, h.old1, h.old2⟩
theorem LdB.al {w0 W : World} {V1 V2 : Nat} {b1 b2 : Sl} {N : Nat} (h : LdB w0 V1 V2 b1 b2 N W) (o : Obj) : LdB w0 V1 V2 b1 b2 N (W.alloc o) := h.step (bel1 W o)
theorem LdB.dr {w0 W : World} {V1 V2 : Nat} {b1 b2 : Sl} {N : Nat} (h : LdB w0 V1 V2 b1 b2 N W) : LdB w0 V1 V2 b1 b2 N W.drew := h.step (Below.refl _ W).drew
theorem LdB.put {w0 W : World} {V1 V2 : Nat} {b1 b2 : Sl} {N : Nat} (h : LdB w0 V1 V2 b1 b2 N W) {g j : Nat} (ha : w0.heap.size ≤ g) (u : Value) : LdB w0 V1 V2 b1 b2 N (W.setCell ⟨g, j, none⟩ u) :=
 ⟨by rw [Below.heap_setCell _ _ _ _ (by show _ ≠ g; have := h.old1; omega)]; exact h.one, by rw [Below.heap_setCell _ _ _ _ (by show _ ≠ g; have := h.old2; omega)]; exact h.two, h.bel.setCell (by show _ ≤ g; omega) u, h.old1, h.old2⟩
theorem LdB.prev {w0 W W' : World} {V1 V2 : Nat} {b1 b2 : Sl} {N : Nat} (h : LdB w0 V1 V2 b1 b2 N W) (_ : Below W.heap.size W W') : Below w0.heap.size w0 W := h.bel
theorem LdB.self {w0 W : World} {V1 V2 : Nat} {b1 b2 : Sl} {N : Nat} (h : LdB w0 V1 V2 b1 b2 N W) : LdB w0 V1 V2 b1 b2 N W := h
theorem ldb_s {w0 W : World} {V1 V2 : Nat} {b1 b2 : Sl} {N : Nat} (h : LdB w0 V1 V2 b1 b2 N W) : ((W.cell? ⟨V1, 0, none⟩ = some (.slice b1.1 b1.2.1 b1.2.2) ∧ W.cell? ⟨V1, 1, none⟩ = some (.int .i64 (N : Int))) ∧ (W.cell? ⟨V2, 0, none⟩ = some (.slice b2.1 b2.2.1 b2.2.2) ∧ W.cell? ⟨V2, 1, none⟩ = some (.int .i64 (N : Int)))) ∧ LdB w0 V1 V2 b1 b2 N W :=
 ⟨⟨⟨(pair_of h.one).1, (pair_of h.one).2.1⟩, ⟨(pair_of h.two).1, (pair_of h.two).2.1⟩⟩, h⟩
def TrMid (w0 : World) (N : Nat) (l : Nat → Bool) (x y : Value) (wx : World) : Prop :=
 ∃ (V g : Nat), x = .pointer (some ⟨V, 0, none⟩) ∧ wx.heap[V]? = some (.cells #[.slice (some ⟨g, 0, none⟩) ((N + 63) / 64) ((N + 63) / 64), .int .i64 (N : Int)] 31) ∧ RowU wx w0.heap.size g ((N + 63) / 64) (packW l N) ∧ Below w0.heap.size w0 wx ∧ y = .bool true
theorem trMid_new {w0 W w2 : World} {N : Nat} {l : Nat → Bool} {g : Nat} {V1 V2 : Nat} {b1 b2 : Sl} (hb : Below w0.heap.size w0 W) (hr : RowU w2 W.heap.size g ((N + 63) / 64) (packW l N)) (hs : LdB w0 V1 V2 b1 b2 N w2) :
  TrMid w0 N l (.pointer (some ⟨w2.heap.size, 0, none⟩)) (.bool true) (w2.alloc (.cells #[.slice (some ⟨g, 0, none⟩) ((N + 63) / 64) ((N + 63) / 64), .int .i64 (N : Int)] 31)) :=
 ⟨w2.heap.size, g, rfl, heap_alloc_new w2 _, (hr.below (bel1 w2 _)).lower hb.size, bel_both hs.bel (bel1 w2 _), rfl⟩
theorem trMid_set {w0 W w2 : World} {N : Nat} {l : Nat → Bool} {g Z : Nat} {V1 V2 : Nat} {b1 b2 : Sl} (hb : Below w0.heap.size w0 W) (hZ : w0.heap.size ≤ Z) (hZW : Z < W.heap.size) (h1 : w2.heap[Z]? = some (.cells bcells 31)) (hr : RowU w2 W.heap.size g ((N + 63) / 64) (packW l N)) (hs : LdB w0 V1 V2 b1 b2 N w2) :
  TrMid w0 N l (.pointer (some ⟨Z, 0, none⟩)) (.bool true) (set2 w2 Z (.slice (some ⟨g, 0, none⟩) ((N + 63) / 64) ((N + 63) / 64)) (.int .i64 (N : Int))) :=
 ⟨Z, g, rfl, set2_block h1 _ _, (own_set2 hr (by show some g ≠ _; have := hr.low.1; intro e; injection e; omega) _ _).lower hb.size, below_set2 hs.bel hZ _ _, rfl⟩
set_option maxRecDepth 100000 in
set_option maxHeartbeats 4000000 in
theorem rapply_none (H : Nat → Prop) (f : Int) (hf : 11 ≤ f) (hf2 : f ≤ 16) (p q : V8) (m n : Nat) (F G : Nat → Nat) (R : Nat → Bool) (w : World) (hL : lenP m n = none)
  (hP : ∀ W, Below w.heap.size w W → NumW p.v m F W) (hQ : ∀ W, Below w.heap.size w W → NumW q.v n G W) :
  Calls Tryz.prog 46 #[.int .i64 f, p.v, q.v] w (Rl2Out H w R (lenP m n)) := by
 have HLP := Lib.hid (fun W (hs : St2 w W p q) => (hP W hs.bel).len)
 have HLQ := Lib.hid (fun W (hs : St2 w W p q) => (hQ W hs.bel).len)
 have HCP := Lib.hid (fun W (hs : St2 w W p q) => (hP W hs.bel).cls)
 have HCQ := Lib.hid (fun W (hs : St2 w W p q) => (hQ W hs.bel).cls)
 have HLL := Lib.hid (fun W => length_any m n W)
 have HS0 := Lib.hid (St2.new w p q)
 obtain ⟨L, ok, hL1, hL2⟩ : ∃ L ok, L = (lenP m n).getD 0 ∧ ok = (lenP m n).isSome := ⟨_, _, rfl, rfl⟩
 rw [← hL1, ← hL2] at HLL
 obtain rfl : ok = false := by rw [hL2, hL]; rfl
 have HLN := Lib.hid hL
 clear hL1 hL2 hL hP hQ
 go_enter Tryz.func46, Tryz.ntmps46
 go_wp2_with fail
 obtain ⟨w0, hw0⟩ : ∃ w0, w0 = ((w.alloc p.o).alloc q.o).alloc (.cells zcells 38) := ⟨_, rfl⟩
 rw [← hw0] at HS0 ⊢
 clear hw0
 go_cut [8, 9] from 22 (fun x y wx => LenMid w p q L false x y wx)
 case first =>
  have hs0 := HS0.out.dr
  have hs00 := HS0.out
  go_region_held3 (fun W => ((W.cell? ⟨w.heap.size, 0, none⟩ = some (.int .i64 p.k) ∧ W.cell? ⟨w.heap.size, 1, none⟩ = some (.slice p.b.1 p.b.2.1 p.b.2.2) ∧ W.cell? ⟨w.heap.size, 2, none⟩ = some (.int .i64 p.bn) ∧ W.cell? ⟨w.heap.size, 3, none⟩ = some (.slice p.s.1 p.s.2.1 p.s.2.2) ∧ W.cell? ⟨w.heap.size, 4, none⟩ = some (.slice p.i.1 p.i.2.1 p.i.2.2) ∧ W.cell? ⟨w.heap.size, 5, none⟩ = some (.slice p.f.1 p.f.2.1 p.f.2.2) ∧ W.cell? ⟨w.heap.size, 6, none⟩ = some (.slice p.c.1 p.c.2.1 p.c.2.2) ∧ W.cell? ⟨w.heap.size, 7, none⟩ = some (.slice p.x.1 p.x.2.1 p.x.2.2)) ∧ (W.cell? ⟨w.heap.size + 1, 0, none⟩ = some (.int .i64 q.k) ∧ W.cell? ⟨w.heap.size + 1, 1, none⟩ = some (.slice q.b.1 q.b.2.1 q.b.2.2) ∧ W.cell? ⟨w.heap.size + 1, 2, none⟩ = some (.int .i64 q.bn) ∧ W.cell? ⟨w.heap.size + 1, 3, none⟩ = some (.slice q.s.1 q.s.2.1 q.s.2.2) ∧ W.cell? ⟨w.heap.size + 1, 4, none⟩ = some (.slice q.i.1 q.i.2.1 q.i.2.2) ∧ W.cell? ⟨w.heap.size + 1, 5, none⟩ = some (.slice q.f.1 q.f.2.1 q.f.2.2) ∧ W.cell? ⟨w.heap.size + 1, 6, none⟩ = some (.slice q.c.1 q.c.2.1 q.c.2.2) ∧ W.cell? ⟨w.heap.size + 1, 7, none⟩ = some (.slice q.x.1 q.x.2.1 q.x.2.2))) ∧ St2 w W p q)
   (first | (with_reducible assumption) | (with_reducible (refine st2_s ?_); repeat (first | (with_reducible assumption) | (with_reducible refine St2.dr ?_))))
   (first
    | (go_at_call 65; (with_reducible refine (HLL.out _).mono ?_); rintro e w5 ⟨rfl, rfl⟩)
    | (go_at_call 38; (with_reducible refine (HLP.out _ ?_).mono ?_); exact St2.self (by repeat (first | (with_reducible assumption) | (with_reducible refine St2.dr ?_))); rintro e w1 ⟨rfl, hb1⟩; obtain ⟨hc1, hf1⟩ := bcell2 hb1; have hz1 := hb1.size; have hst1 : St2 w w1 p q := St2.step (by repeat (first | (with_reducible assumption) | (with_reducible refine St2.dr ?_))) hb1; clear hb1)
    | (go_at_call 38; (with_reducible refine (HLQ.out _ ?_).mono ?_); exact St2.self (by repeat (first | (with_reducible assumption) | (with_reducible refine St2.dr ?_))); rintro e w2 ⟨rfl, hb2⟩; obtain ⟨hc2, hf2⟩ := bcell2 hb2; have hz2 := hb2.size; have hst2 : St2 w w2 p q := St2.step (by repeat (first | (with_reducible assumption) | (with_reducible refine St2.dr ?_))) hb2; clear hb2))
  all_goals
   go_wp2
   go_meet
   first
    | (with_reducible exact lenMid_of hst2)
    | (with_reducible exact lenMid_of hst1)
 obtain ⟨rfl, rfl, hst⟩ := hcut
 have HST := Lib.hid hst
 clear hst HS0 HLP HLQ HLL
 obtain ⟨⟨h0, h1, h2, h3, h4, h5, h6, h7⟩, hz⟩ := boxed_of HST.out.res
 go_wp2
 refine bodyPost_ret (v := .tuple #[vecV 0 vnil 0 vnil vnil vnil vnil vnil, .int .i64 23]) ?_ rfl (.inl ⟨HLN.out, rfl, below_set8 HST.out.bel (Nat.le_add_right _ 2) _ _ _ _ _ _ _ _⟩)
 exact ret_vec2 (fn := Tryz.f46) (p := 6) (u := 7) rfl _ _ (w.heap.size + 2) (by rfl) (set8_block HST.out.res _ _ _ _ _ _ _ _)
set_option maxRecDepth 100000 in
set_option maxHeartbeats 4000000 in
theorem rapply_some (H : Nat → Prop) (f : Int) (hf : 11 ≤ f) (hf2 : f ≤ 16) (p q : V8) (m n : Nat) (F G : Nat → Nat) (R : Nat → Bool) (w : World) (N : Nat) (hH : ∀ b, H b → b < w.heap.size) (hL : lenP m n = some N) (hNb : N ≤ 1000000)
  (hSP : ∀ W, Below w.heap.size w W → Calls Tryz.prog 69 #[p.v, .int .i64 (N : Int)] W (SpOut p.k m N F W))
  (hSQ : ∀ W, Below w.heap.size w W → Calls Tryz.prog 69 #[q.v, .int .i64 (N : Int)] W (SpOut q.k n N G W))
  (hNU : ∀ (W : World) (H' : Nat → Prop), Below w.heap.size w W → (∀ b, H' b → b < W.heap.size) → Calls Tryz.prog 73 #[.int .i64 f, .int .i64 (N : Int), p.v, q.v] W (VecR H' W (fun u W' => NumV u 1 N (fun c => flagF (R c)) W')))
  (hTR : ∀ (W : World) (b1 b2 : Sl) (L1 L2 : Nat → Bool), BitsAt W b1 N L1 → BitsAt W b2 N L2 → (∀ j, j < N → F (ixP m j) = flagF (L1 j)) → (∀ j, j < N → G (ixP n j) = flagF (L2 j)) → Calls Tryz.prog 70 #[.int .u8 ((tabRN f : Nat) : Int), .agg #[.slice b1.1 b1.2.1 b1.2.2, .int .i64 (N : Int)], .agg #[.slice b2.1 b2.2.1 b2.2.2, .int .i64 (N : Int)]] W fun e w' => ∃ g, e = .returned (.tuple #[.agg #[.slice (some ⟨g, 0, none⟩) ((N + 63) / 64) ((N + 63) / 64), .int .i64 (N : Int)], .bool true]) ∧ RowU w' W.heap.size g ((N + 63) / 64) (packW R N) ∧ Below W.heap.size W w')
  (hP : ∀ W, Below w.heap.size w W → NumW p.v m F W) (hQ : ∀ W, Below w.heap.size w W → NumW q.v n G W) :
  Calls Tryz.prog 46 #[.int .i64 f, p.v, q.v] w (Rl2Out H w R (lenP m n)) := by
 have HLP := Lib.hid (fun W (hs : St2 w W p q) => (hP W hs.bel).len)
 have HLQ := Lib.hid (fun W (hs : St2 w W p q) => (hQ W hs.bel).len)
 have HCP := Lib.hid (fun W (hs : St2 w W p q) => (hP W hs.bel).cls)
 have HCQ := Lib.hid (fun W (hs : St2 w W p q) => (hQ W hs.bel).cls)
 have HLL := Lib.hid (fun W => length_any m n W)
 have HS0 := Lib.hid (St2.new w p q)
 obtain ⟨L, ok, hL1, hL2⟩ : ∃ L ok, L = (lenP m n).getD 0 ∧ ok = (lenP m n).isSome := ⟨_, _, rfl, rfl⟩
 rw [← hL1, ← hL2] at HLL
 obtain rfl : ok = true := by rw [hL2, hL]; rfl
 obtain rfl : N = L := by rw [hL1, hL]; rfl
 have HLN := Lib.hid hL
 have HH := Lib.hid hH
 have HSP := Lib.hid hSP
 have HSQ := Lib.hid hSQ
 have HNU := Lib.hid hNU
 have HTR := Lib.hid hTR
 have HNB := Lib.hid hNb
 have HTB := Lib.hid (fun W => rtable_fix f hf hf2 W)
 unfold SpOut at HSP HSQ
 unfold VecR at HNU
 clear hL1 hL2 hL hP hQ hH hSP hSQ hNU hTR hNb
 go_enter Tryz.func46, Tryz.ntmps46
 go_wp2_with fail
 obtain ⟨w0, hw0⟩ : ∃ w0, w0 = ((w.alloc p.o).alloc q.o).alloc (.cells zcells 38) := ⟨_, rfl⟩
 rw [← hw0] at HS0 ⊢
 clear hw0
 go_cut [8, 9] from 22 (fun x y wx => LenMid w p q N true x y wx)
 case first =>
  have hs0 := HS0.out.dr
  have hs00 := HS0.out
  go_region_held3 (fun W => ((W.cell? ⟨w.heap.size, 0, none⟩ = some (.int .i64 p.k) ∧ W.cell? ⟨w.heap.size, 1, none⟩ = some (.slice p.b.1 p.b.2.1 p.b.2.2) ∧ W.cell? ⟨w.heap.size, 2, none⟩ = some (.int .i64 p.bn) ∧ W.cell? ⟨w.heap.size, 3, none⟩ = some (.slice p.s.1 p.s.2.1 p.s.2.2) ∧ W.cell? ⟨w.heap.size, 4, none⟩ = some (.slice p.i.1 p.i.2.1 p.i.2.2) ∧ W.cell? ⟨w.heap.size, 5, none⟩ = some (.slice p.f.1 p.f.2.1 p.f.2.2) ∧ W.cell? ⟨w.heap.size, 6, none⟩ = some (.slice p.c.1 p.c.2.1 p.c.2.2) ∧ W.cell? ⟨w.heap.size, 7, none⟩ = some (.slice p.x.1 p.x.2.1 p.x.2.2)) ∧ (W.cell? ⟨w.heap.size + 1, 0, none⟩ = some (.int .i64 q.k) ∧ W.cell? ⟨w.heap.size + 1, 1, none⟩ = some (.slice q.b.1 q.b.2.1 q.b.2.2) ∧ W.cell? ⟨w.heap.size + 1, 2, none⟩ = some (.int .i64 q.bn) ∧ W.cell? ⟨w.heap.size + 1, 3, none⟩ = some (.slice q.s.1 q.s.2.1 q.s.2.2) ∧ W.cell? ⟨w.heap.size + 1, 4, none⟩ = some (.slice q.i.1 q.i.2.1 q.i.2.2) ∧ W.cell? ⟨w.heap.size + 1, 5, none⟩ = some (.slice q.f.1 q.f.2.1 q.f.2.2) ∧ W.cell? ⟨w.heap.size + 1, 6, none⟩ = some (.slice q.c.1 q.c.2.1 q.c.2.2) ∧ W.cell? ⟨w.heap.size + 1, 7, none⟩ = some (.slice q.x.1 q.x.2.1 q.x.2.2))) ∧ St2 w W p q)
   (first | (with_reducible assumption) | (with_reducible (refine st2_s ?_); repeat (first | (with_reducible assumption) | (with_reducible refine St2.dr ?_))))
   (first
    | (go_at_call 65; (with_reducible refine (HLL.out _).mono ?_); rintro e w5 ⟨rfl, rfl⟩)
    | (go_at_call 38; (with_reducible refine (HLP.out _ ?_).mono ?_); exact St2.self (by repeat (first | (with_reducible assumption) | (with_reducible refine St2.dr ?_))); rintro e w1 ⟨rfl, hb1⟩; obtain ⟨hc1, hf1⟩ := bcell2 hb1; have hz1 := hb1.size; have hst1 : St2 w w1 p q := St2.step (by repeat (first | (with_reducible assumption) | (with_reducible refine St2.dr ?_))) hb1; clear hb1)
    | (go_at_call 38; (with_reducible refine (HLQ.out _ ?_).mono ?_); exact St2.self (by repeat (first | (with_reducible assumption) | (with_reducible refine St2.dr ?_))); rintro e w2 ⟨rfl, hb2⟩; obtain ⟨hc2, hf2⟩ := bcell2 hb2; have hz2 := hb2.size; have hst2 : St2 w w2 p q := St2.step (by repeat (first | (with_reducible assumption) | (with_reducible refine St2.dr ?_))) hb2; clear hb2))
  all_goals
   go_wp2
   go_meet
   first
    | (with_reducible exact lenMid_of hst2)
    | (with_reducible exact lenMid_of hst1)
 obtain ⟨rfl, rfl, hst⟩ := hcut
 have HST := Lib.hid hst
 clear hst HS0 HLP HLQ HLL
 obtain ⟨h0, h1, h2, h3, h4, h5, h6, h7⟩ := HST.out.one
 go_wp2_with fail
 refine (HCP.out _ HST.out).mono ?_
 rintro e w3 ⟨rfl, hb3⟩
 have HS3 := Lib.hid (HST.out.step hb3)
 clear hb3 h0 h1 h2 h3 h4 h5 h6 h7 HST
 obtain ⟨h0, h1, h2, h3, h4, h5, h6, h7⟩ := HS3.out.two
 go_wp2_with fail
 refine (HCQ.out _ HS3.out).mono ?_
 rintro e w4 ⟨rfl, hb4⟩
 have HS4 := Lib.hid (HS3.out.step hb4)
 clear hb4 h0 h1 h2 h3 h4 h5 h6 h7 HS3
 go_wp2_with fail
 go_cut [51] from 42 to 50 (fun x wx => ClsMid w p q x wx)
 case first =>
  have hs0 := HS4.out.dr
  have hs00 := HS4.out
  go_region_held3 (fun W => ((W.cell? ⟨w.heap.size, 0, none⟩ = some (.int .i64 p.k) ∧ W.cell? ⟨w.heap.size, 1, none⟩ = some (.slice p.b.1 p.b.2.1 p.b.2.2) ∧ W.cell? ⟨w.heap.size, 2, none⟩ = some (.int .i64 p.bn) ∧ W.cell? ⟨w.heap.size, 3, none⟩ = some (.slice p.s.1 p.s.2.1 p.s.2.2) ∧ W.cell? ⟨w.heap.size, 4, none⟩ = some (.slice p.i.1 p.i.2.1 p.i.2.2) ∧ W.cell? ⟨w.heap.size, 5, none⟩ = some (.slice p.f.1 p.f.2.1 p.f.2.2) ∧ W.cell? ⟨w.heap.size, 6, none⟩ = some (.slice p.c.1 p.c.2.1 p.c.2.2) ∧ W.cell? ⟨w.heap.size, 7, none⟩ = some (.slice p.x.1 p.x.2.1 p.x.2.2)) ∧ (W.cell? ⟨w.heap.size + 1, 0, none⟩ = some (.int .i64 q.k) ∧ W.cell? ⟨w.heap.size + 1, 1, none⟩ = some (.slice q.b.1 q.b.2.1 q.b.2.2) ∧ W.cell? ⟨w.heap.size + 1, 2, none⟩ = some (.int .i64 q.bn) ∧ W.cell? ⟨w.heap.size + 1, 3, none⟩ = some (.slice q.s.1 q.s.2.1 q.s.2.2) ∧ W.cell? ⟨w.heap.size + 1, 4, none⟩ = some (.slice q.i.1 q.i.2.1 q.i.2.2) ∧ W.cell? ⟨w.heap.size + 1, 5, none⟩ = some (.slice q.f.1 q.f.2.1 q.f.2.2) ∧ W.cell? ⟨w.heap.size + 1, 6, none⟩ = some (.slice q.c.1 q.c.2.1 q.c.2.2) ∧ W.cell? ⟨w.heap.size + 1, 7, none⟩ = some (.slice q.x.1 q.x.2.1 q.x.2.2))) ∧ St2 w W p q)
   (first | (with_reducible assumption) | (with_reducible (refine st2_s ?_); repeat (first | (with_reducible assumption) | (with_reducible refine St2.dr ?_))))
   (first
    | (go_at_call 21; (with_reducible refine (HCP.out _ ?_).mono ?_); exact St2.self (by repeat (first | (with_reducible assumption) | (with_reducible refine St2.dr ?_))); rintro e w1 ⟨rfl, hb1⟩; obtain ⟨hc1, hf1⟩ := bcell2 hb1; have hz1 := hb1.size; have hst1 : St2 w w1 p q := St2.step (by repeat (first | (with_reducible assumption) | (with_reducible refine St2.dr ?_))) hb1; clear hb1)
    | (go_at_call 21; (with_reducible refine (HCQ.out _ ?_).mono ?_); exact St2.self (by repeat (first | (with_reducible assumption) | (with_reducible refine St2.dr ?_))); rintro e w2 ⟨rfl, hb2⟩; obtain ⟨hc2, hf2⟩ := bcell2 hb2; have hz2 := hb2.size; have hst2 : St2 w w2 p q := St2.step (by repeat (first | (with_reducible assumption) | (with_reducible refine St2.dr ?_))) hb2; clear hb2))
  all_goals
   go_wp2
   go_meet
   first
    | (with_reducible exact clsMid_of hst2)
    | (with_reducible exact clsMid_of hst1)
 obtain ⟨rfl, hst⟩ := hcut
 have HS5 := Lib.hid hst
 clear hst HS4
 obtain ⟨h0, h1, h2, h3, h4, h5, h6, h7⟩ := HS5.out.one
 go_wp2_with fail
 refine (HSP.out _ HS5.out.bel).mono ?_
 clear h0 h1 h2 h3 h4 h5 h6 h7
 rintro e w6 (⟨-, b1, L1, rfl, hat1, hf1, hb6⟩ | ⟨-, rfl, hb6⟩)
 ·have HS7 := Lib.hid ((HS5.out.step hb6).al (.cells #[.slice b1.1 b1.2.1 b1.2.2, .int .i64 (N : Int)] 31))
  have HAT1 := Lib.hid (hat1.below (bel1 w6 (.cells #[.slice b1.1 b1.2.1 b1.2.2, .int .i64 (N : Int)] 31)))
  have HV1 := Lib.hid (heap_alloc_new w6 (.cells #[.slice b1.1 b1.2.1 b1.2.2, .int .i64 (N : Int)] 31))
  clear hb6 hat1
  obtain ⟨h0, h1, h2, h3, h4, h5, h6, h7⟩ := HS7.out.two
  go_wp2_with fail
  refine (HSQ.out _ HS7.out.bel).mono ?_
  clear h0 h1 h2 h3 h4 h5 h6 h7
  rintro e w7 (⟨-, b2, L2, rfl, hat2, hf2, hb7⟩ | ⟨-, rfl, hb7⟩)
  ·have HA1 := Lib.hid ((HAT1.out.below hb7).below (bel1 w7 (.cells #[.slice b2.1 b2.2.1 b2.2.2, .int .i64 (N : Int)] 31)))
   have HA2 := Lib.hid (hat2.below (bel1 w7 (.cells #[.slice b2.1 b2.2.1 b2.2.2, .int .i64 (N : Int)] 31)))
   have HF1 := Lib.hid hf1
   have HF2 := Lib.hid hf2
   have HS8 := Lib.hid ((HS7.out.step hb7).al (.cells #[.slice b2.1 b2.2.1 b2.2.2, .int .i64 (N : Int)] 31))
   have HV2 := Lib.hid (heap_alloc_new w7 (.cells #[.slice b2.1 b2.2.1 b2.2.2, .int .i64 (N : Int)] 31))
   have HV1' := Lib.hid (show (w7.alloc (.cells #[.slice b2.1 b2.2.1 b2.2.2, .int .i64 (N : Int)] 31)).heap[w6.heap.size]? = some (.cells #[.slice b1.1 b1.2.1 b1.2.2, .int .i64 (N : Int)] 31) by rw [Below.heap_alloc _ _ _ (by have := hb7.size; have := lt_of_block HV1.out; omega), hb7.block _ (lt_of_block HV1.out)]; exact HV1.out)
   clear hb7 hat2 hf1 hf2
   go_wp2_with fail
   obtain ⟨w0, hw0⟩ : ∃ w0, w0 = w7.alloc (.cells #[.slice b2.1 b2.2.1 b2.2.2, .int .i64 (N : Int)] 31) := ⟨_, rfl⟩
   rw [← hw0] at HA1 HA2 HS8 HV2 HV1' ⊢
   clear hw0
   have HLD := Lib.hid (⟨HV1'.out, HV2.out, Below.refl _ _, lt_of_block HV1'.out, lt_of_block HV2.out⟩ : LdB w0 w6.heap.size w7.heap.size b1 b2 N w0)
   have HTT := Lib.hid (fun W (hs : LdB w0 w6.heap.size w7.heap.size b1 b2 N W) => HTR.out W b1 b2 L1 L2 (HA1.out.below hs.bel) (HA2.out.below hs.bel) HF1.out HF2.out)
   obtain ⟨V1, hV1⟩ : ∃ V, V = w6.heap.size := ⟨_, rfl⟩
   obtain ⟨V2, hV2⟩ : ∃ V, V = w7.heap.size := ⟨_, rfl⟩
   rw [← hV1, ← hV2] at HLD HTT
   rw [← hV1, ← hV2]
   clear hV1 hV2
   go_cut [13, 14] from 75 (fun x y wx => TrMid w0 N R x y wx)
   case first =>
    have hs0 := HLD.out.dr
    have hs00 := HLD.out
    go_region_held3 (fun W => ((W.cell? ⟨V1, 0, none⟩ = some (.slice b1.1 b1.2.1 b1.2.2) ∧ W.cell? ⟨V1, 1, none⟩ = some (.int .i64 (N : Int))) ∧ (W.cell? ⟨V2, 0, none⟩ = some (.slice b2.1 b2.2.1 b2.2.2) ∧ W.cell? ⟨V2, 1, none⟩ = some (.int .i64 (N : Int)))) ∧ LdB w0 V1 V2 b1 b2 N W)
     (first | (with_reducible assumption) | (with_reducible (refine ldb_s ?_); repeat (first | (with_reducible assumption) | (with_reducible refine LdB.dr ?_) | (with_reducible refine LdB.put ?_ (by first | assumption | omega | (simp; omega)) _) | (with_reducible refine LdB.al ?_ _))))
     (first
      | (go_at_call 71; (with_reducible refine (HTB.out _).mono ?_); rintro e w5 ⟨rfl, rfl⟩)
      | (go_at_call 70; (with_reducible refine (HTT.out _ ?_).mono ?_); exact LdB.self (by repeat (first | (with_reducible assumption) | (with_reducible refine LdB.dr ?_) | (with_reducible refine LdB.put ?_ (by first | assumption | omega | (simp; omega)) _) | (with_reducible refine LdB.al ?_ _))); rintro e w8 ⟨g8, rfl, hr8, hb8⟩; obtain ⟨hc8, hf8⟩ := bcell2 hb8; have hz8 := hb8.size; have hst8 : LdB w0 V1 V2 b1 b2 N w8 := LdB.step (by repeat (first | (with_reducible assumption) | (with_reducible refine LdB.dr ?_) | (with_reducible refine LdB.put ?_ (by first | assumption | omega | (simp; omega)) _) | (with_reducible refine LdB.al ?_ _))) hb8; have hpv8 := LdB.prev (w0 := w0) (V1 := V1) (V2 := V2) (b1 := b1) (b2 := b2) (N := N) (by repeat (first | (with_reducible assumption) | (with_reducible refine LdB.dr ?_) | (with_reducible refine LdB.put ?_ (by first | assumption | omega | (simp; omega)) _) | (with_reducible refine LdB.al ?_ _))) hb8; have HB8 := Lib.hid hb8; have HR8 := Lib.hid hr8; have HPV8 := Lib.hid hpv8; clear hb8 hr8 hpv8))
    all_goals
     go_wp2
     go_meet
     first
      | (with_reducible exact trMid_new HPV8.out HR8.out hst8)
      | (with_reducible exact trMid_set HPV8.out (Nat.le_refl _) (lt_al _ _) (blk_al HB8.out) HR8.out hst8)
      | (with_reducible exact trMid_set HPV8.out (Nat.le_refl _) (lt_dr _ _) (blk_dr HB8.out) HR8.out hst8)
      | (with_reducible exact trMid_set HPV8.out (le_dr _) (lt_al _ _) (blk_al HB8.out) HR8.out hst8)
      | (with_reducible exact trMid_set HPV8.out (le_dr _) (lt_dr _ _) (blk_dr HB8.out) HR8.out hst8)
   obtain ⟨V, g8, rfl, hV, hr, hb, rfl⟩ := hcut
   have HS9 := Lib.hid (HS8.out.step hb)
   have HR9 := Lib.hid hr
   have HW0 := Lib.hid HS8.out.sz
   obtain ⟨hv0, hv1, hvf⟩ := pair_of hV
   clear hr hb hV
   go_wp2_with fail
   refine (vbits_any _ _ _ _ _).mono ?_
   rintro e w10 ⟨rfl, hb10⟩
   have HS10 := Lib.hid (HS9.out.step hb10)
   have HR10 := Lib.hid (HR9.out.below hb10)
   clear hb10 hv0 hv1 hvf
   have HRE := Lib.hid (set8_block HS10.out.res (.int .i64 1) (.slice (some ⟨g8, 0, none⟩) ((N + 63) / 64) ((N + 63) / 64)) (.int .i64 (N : Int)) vnil vnil vnil vnil vnil)
   have HBE := Lib.hid (below_set8 HS10.out.bel (Nat.le_add_right _ 2) (.int .i64 1) (.slice (some ⟨g8, 0, none⟩) ((N + 63) / 64) ((N + 63) / 64)) (.int .i64 (N : Int)) vnil vnil vnil vnil vnil)
   have HKE : Hid (Keeps H (set8 w10 (w.heap.size + 2) (.int .i64 1) (.slice (some ⟨g8, 0, none⟩) ((N + 63) / 64) ((N + 63) / 64)) (.int .i64 (N : Int)) vnil vnil vnil vnil vnil) (NumV (vecW 1 (some ⟨g8, 0, none⟩, (N + 63) / 64, (N + 63) / 64) (N : Int) (none, 0, 0) (none, 0, 0) (none, 0, 0) (none, 0, 0) (none, 0, 0)) 1 N (fun c => flagF (R c)))) := by
    have h1 : Keeps (fun j => H j ∨ j = w.heap.size + 2) w10 (fun W => Reads1 W (.slice (some ⟨g8, 0, none⟩) ((N + 63) / 64) ((N + 63) / 64)) ((List.range ((N + 63) / 64)).map fun j => .int .u64 (packW R N j : Nat))) :=
     Own1.keepsH HR10.out (fun j e => by
      have h2 := HW0.out
      rcases e with e | e
      ·have := HH.out j e; omega
      ·omega)
    refine ((h1.imp fun W' h => numV_bits (by have := HNB.out; omega) ⟨_, rfl, ⟨g8, 0, _, rfl, fun j hj => ?_⟩⟩).set8 (.inr rfl) _ _ _ _ _ _ _ _).sub fun _ _ e => .inl e
    exact reads_cell h j hj
   clear HR9 HR10
   obtain ⟨⟨h0, h1, h2, h3, h4, h5, h6, h7⟩, hz⟩ := boxed_of HS10.out.res
   go_wp2
   refine bodyPost_ret (v := .tuple #[vecW 1 (some ⟨g8, 0, none⟩, (N + 63) / 64, (N + 63) / 64) (N : Int) (none, 0, 0) (none, 0, 0) (none, 0, 0) (none, 0, 0) (none, 0, 0), .int .i64 0]) ?_ rfl (.inr ⟨_, HLN.out, 1, (some ⟨g8, 0, none⟩, (N + 63) / 64, (N + 63) / 64), (N : Int), (none, 0, 0), (none, 0, 0), (none, 0, 0), (none, 0, 0), (none, 0, 0), rfl, HKE.out, HBE.out⟩)
   exact ret_vec2 (fn := Tryz.f46) (p := 6) (u := 7) rfl _ _ (w.heap.size + 2) (by rfl) HRE.out
  ·have HS8 := Lib.hid ((HS7.out.step hb7).al (.cells bcells 31))
   clear hb7
   obtain ⟨h0, h1, h2, h3, h4, h5, h6, h7⟩ := HS8.out.one
   obtain ⟨g0, g1, g2, g3, g4, g5, g6, g7⟩ := HS8.out.two
   go_wp2_with fail
   refine (HNU.out _ (fun j => H j ∨ j = w.heap.size + 2) HS8.out.bel (fun j e => by
    have h1 := HS8.out.sz
    rcases e with e | e
    ·have := HH.out j e; omega
    ·omega)).mono ?_
   clear h0 h1 h2 h3 h4 h5 h6 h7 g0 g1 g2 g3 g4 g5 g6 g7
   rintro e w9 ⟨k5, b5, bn5, s5, i5, f5, c5, x5, rfl, hk9, hb9⟩
   have HS9 := Lib.hid (HS8.out.step hb9)
   have HKE := Lib.hid hk9
   clear hb9 hk9
   obtain ⟨⟨h0, h1, h2, h3, h4, h5, h6, h7⟩, hz⟩ := boxed_of HS9.out.res
   go_wp2
   refine bodyPost_ret (v := .tuple #[vecW k5 b5 bn5 s5 i5 f5 c5 x5, .int .i64 0]) ?_ rfl (.inr ⟨_, HLN.out, k5, b5, bn5, s5, i5, f5, c5, x5, rfl, (HKE.out.set8 (.inr rfl) _ _ _ _ _ _ _ _).sub (fun _ _ e => .inl e), below_set8 HS9.out.bel (Nat.le_add_right _ 2) _ _ _ _ _ _ _ _⟩)
   exact ret_vec2 (fn := Tryz.f46) (p := 6) (u := 7) rfl _ _ (w.heap.size + 2) (by rfl) (set8_block HS9.out.res _ _ _ _ _ _ _ _)
 ·have HS7 := Lib.hid ((HS5.out.step hb6).al (.cells bcells 31))
  clear hb6
  obtain ⟨h0, h1, h2, h3, h4, h5, h6, h7⟩ := HS7.out.two
  go_wp2_with fail
  refine (HSQ.out _ HS7.out.bel).mono ?_
  clear h0 h1 h2 h3 h4 h5 h6 h7
  rintro e w7 (⟨-, b2, L2, rfl, hat2, hf2, hb7⟩ | ⟨-, rfl, hb7⟩)
  ·have HS8 := Lib.hid ((HS7.out.step hb7).al (.cells #[.slice b2.1 b2.2.1 b2.2.2, .int .i64 (N : Int)] 31))
   clear hb7 hat2 hf2
   obtain ⟨h0, h1, h2, h3, h4, h5, h6, h7⟩ := HS8.out.one
   obtain ⟨g0, g1, g2, g3, g4, g5, g6, g7⟩ := HS8.out.two
   go_wp2_with fail
   refine (HNU.out _ (fun j => H j ∨ j = w.heap.size + 2) HS8.out.bel (fun j e => by
    have h1 := HS8.out.sz
    rcases e with e | e
    ·have := HH.out j e; omega
    ·omega)).mono ?_
   clear h0 h1 h2 h3 h4 h5 h6 h7 g0 g1 g2 g3 g4 g5 g6 g7
   rintro e w9 ⟨k5, b5, bn5, s5, i5, f5, c5, x5, rfl, hk9, hb9⟩
   have HS9 := Lib.hid (HS8.out.step hb9)
   have HKE := Lib.hid hk9
   clear hb9 hk9
   obtain ⟨⟨h0, h1, h2, h3, h4, h5, h6, h7⟩, hz⟩ := boxed_of HS9.out.res
   go_wp2
   refine bodyPost_ret (v := .tuple #[vecW k5 b5 bn5 s5 i5 f5 c5 x5, .int .i64 0]) ?_ rfl (.inr ⟨_, HLN.out, k5, b5, bn5, s5, i5, f5, c5, x5, rfl, (HKE.out.set8 (.inr rfl) _ _ _ _ _ _ _ _).sub (fun _ _ e => .inl e), below_set8 HS9.out.bel (Nat.le_add_right _ 2) _ _ _ _ _ _ _ _⟩)
   exact ret_vec2 (fn := Tryz.f46) (p := 6) (u := 7) rfl _ _ (w.heap.size + 2) (by rfl) (set8_block HS9.out.res _ _ _ _ _ _ _ _)
  ·have HS8 := Lib.hid ((HS7.out.step hb7).al (.cells bcells 31))
   clear hb7
   obtain ⟨h0, h1, h2, h3, h4, h5, h6, h7⟩ := HS8.out.one
   obtain ⟨g0, g1, g2, g3, g4, g5, g6, g7⟩ := HS8.out.two
   go_wp2_with fail
   refine (HNU.out _ (fun j => H j ∨ j = w.heap.size + 2) HS8.out.bel (fun j e => by
    have h1 := HS8.out.sz
    rcases e with e | e
    ·have := HH.out j e; omega
    ·omega)).mono ?_
   clear h0 h1 h2 h3 h4 h5 h6 h7 g0 g1 g2 g3 g4 g5 g6 g7
   rintro e w9 ⟨k5, b5, bn5, s5, i5, f5, c5, x5, rfl, hk9, hb9⟩
   have HS9 := Lib.hid (HS8.out.step hb9)
   have HKE := Lib.hid hk9
   clear hb9 hk9
   obtain ⟨⟨h0, h1, h2, h3, h4, h5, h6, h7⟩, hz⟩ := boxed_of HS9.out.res
   go_wp2
   refine bodyPost_ret (v := .tuple #[vecW k5 b5 bn5 s5 i5 f5 c5 x5, .int .i64 0]) ?_ rfl (.inr ⟨_, HLN.out, k5, b5, bn5, s5, i5, f5, c5, x5, rfl, (HKE.out.set8 (.inr rfl) _ _ _ _ _ _ _ _).sub (fun _ _ e => .inl e), below_set8 HS9.out.bel (Nat.le_add_right _ 2) _ _ _ _ _ _ _ _⟩)
   exact ret_vec2 (fn := Tryz.f46) (p := 6) (u := 7) rfl _ _ (w.heap.size + 2) (by rfl) (set8_block HS9.out.res _ _ _ _ _ _ _ _)
theorem packW_congr {l l' : Nat → Bool} {n : Nat} (h : ∀ j, j < n → l j = l' j) (i : Nat) : packW l n i = packW l' n i := by
 apply Nat.eq_of_testBit_eq
 intro m
 by_cases hm : m < 64
 ·rw [packW_bit _ _ _ _ hm, packW_bit _ _ _ _ hm]
  by_cases hj : 64 * i + m < n
  ·rw [h _ hj]
  ·simp [hj]
 ·rw [packW_high _ _ _ _ hm, packW_high _ _ _ _ hm]
theorem lenP_ok {m n N : Nat} (h : lenP m n = some N) : (m = N ∨ m = 1) ∧ (n = N ∨ n = 1) := by
 unfold lenP at h
 split at h
 ·injection h with h; omega
 ·split at h
  ·injection h with h; omega
  ·split at h
   ·injection h with h; omega
   ·cases h
theorem rapply_any (H : Nat → Prop) (f : Int) (hf : 11 ≤ f) (hf2 : f ≤ 16) (p q : V8) (m n : Nat) (F G : Nat → Nat) (w : World) (hH : ∀ b, H b → b < w.heap.size) (hm : m ≤ 1000000) (hn : n ≤ 1000000)
  (hP : ∀ W, Below w.heap.size w W → NumV p.v p.k m F W) (hQ : ∀ W, Below w.heap.size w W → NumV q.v q.k n G W) :
  Calls Tryz.prog 46 #[.int .i64 f, p.v, q.v] w (Rl2Out H w (fun c => relB f (F (ixP m c)) (G (ixP n c))) (lenP m n)) := by
 have hP' : ∀ W, Below w.heap.size w W → NumW p.v m F W := fun W hb => (hP W hb).numW
 have hQ' : ∀ W, Below w.heap.size w W → NumW q.v n G W := fun W hb => (hQ W hb).numW
 have hFt := (hP w (Below.refl _ _)).tf
 have hGt := (hQ w (Below.refl _ _)).tf
 cases hL : lenP m n with
 | none =>
  rw [← hL]
  exact rapply_none H f hf hf2 p q m n F G _ w hL hP' hQ'
 | some N =>
  rw [← hL]
  have hNb := lenP_le hL hm hn
  obtain ⟨o1, o2⟩ := lenP_ok hL
  refine rapply_some H f hf hf2 p q m n F G _ w N hH hL hNb (fun W hb => spread_any p.k p.b p.bn p.s p.i p.f p.c p.x m N F W hNb o1 (hP W hb)) (fun W hb => spread_any q.k q.b q.bn q.s q.i q.f q.c q.x n N G W hNb o2 (hQ W hb)) (fun W H' hb hH' => ?_) (fun W b1 b2 L1 L2 h1 h2 e1 e2 => ?_) hP' hQ'
  ·refine rnumbers_any H' f _ p q m n N F G W hH' hL hm hn (fun W' hb' => hP' W' (bel_both hb hb')) (fun W' hb' => hQ' W' (bel_both hb hb')) (fun c hc W' => ?_)
   obtain ⟨h1, h2⟩ := ixP_lt hL hc
   exact relate_any f hf hf2 _ _ (hFt _ h1) (hGt _ h2) W'
  ·obtain ⟨g1, o1, c1, rfl, hc1⟩ := h1
   obtain ⟨g2, o2, c2, rfl, hc2⟩ := h2
   refine (btruth_any (tabRN f) (tabRN_lt f) g1 o1 c1 g2 o2 c2 N L1 L2 W (by omega) hc1 hc2).mono ?_
   rintro e w' ⟨g, rfl, hr, hb⟩
   refine ⟨g, rfl, hr.same fun j _ => packW_congr (fun i hi => ?_) j, hb⟩
   rw [tabRN_rel, e1 i hi, e2 i hi]
def TsOut (m : Nat) (F : Nat → Nat) (w : World) (e : Ending) (w' : World) : Prop :=
 ((∀ j, j < m → isT (F j) = true) ∧ ∃ (b : Sl) (L : Nat → Bool), e = .returned (.tuple #[.agg #[.slice b.1 b.2.1 b.2.2, .int .i64 (m : Int)], .bool true]) ∧ BitsAt w' b m L ∧ (∀ j, j < m → F j = flagF (L j)) ∧ Below w.heap.size w w') ∨
 ((∃ j, j < m ∧ isT (F j) = false) ∧ e = .returned (.tuple #[.agg #[vnil, .int .i64 0], .bool false]) ∧ Below w.heap.size w w')
theorem fit1_iff {m : Nat} {F : Nat → Nat} : fitB 1 F m = true ↔ ∀ j, j < m → isT (F j) = true := by
 unfold fitB
 rw [if_pos rfl]
 exact all_range
theorem fit1_bad {m : Nat} {F : Nat → Nat} (h : fitB 1 F m = false) : ∃ j, j < m ∧ isT (F j) = false := by
 rcases first_bad (fun j => isT (F j)) m with hall | ⟨K, hK, hb, _⟩
 ·rw [fit1_iff.2 hall] at h; cases h
 ·exact ⟨K, hK, hb⟩
theorem isT_of_bits {k : Int} {b : Sl} {bn : Int} {s i f g x : Sl} {m : Nat} {F : Nat → Nat} {w : World} (hk : 1 = k) (h : NumV (vecW k b bn s i f g x) k m F w) : fitB 1 F m = true := by
 subst hk
 obtain ⟨_, L, _, hf⟩ := h.bits
 exact fit1_iff.2 fun j hj => by rw [hf j hj]; cases L j <;> decide
set_option maxRecDepth 100000 in
set_option maxHeartbeats 1000000 in
theorem truths_any (p : V8) (m : Nat) (F : Nat → Nat) (w : World) (hm : m ≤ 1000000) (hv : Keeps (fun _ => False) w (NumV p.v p.k m F)) :
  Calls Tryz.prog 76 #[p.v] w (TsOut m F w) := by
 have HI := Lib.hid (fun W (hb : Below w.heap.size w W) (hz : w.heap.size + 1 < W.heap.size) => into_num (fun j => j = w.heap.size + 1) 1 p.k p.b p.bn p.s p.i p.f p.c p.x m F W (fun j h => by omega) hm (hv.below' hb _ (fun j hj h => by omega)) (.inl rfl) (fun e => isT_of_bits e (hv.step hb).now))
 have HC := Lib.hid (fun W (hb : Below w.heap.size w W) => ((hv.step hb).now).cls)
 have HS0 := Lib.hid (Sb.new w p)
 unfold Sub at HI
 clear hv
 go_enter Tryz.func76, Tryz.ntmps76
 obtain ⟨h0, h1, h2, h3, h4, h5, h6, h7⟩ := HS0.out.one
 go_wp2_with fail
 refine (HI.out _ HS0.out.bel HS0.out.sz).mono ?_
 rintro e w1 ⟨k, b, bn, s, i, f, c, x, t, rfl, hk, hb1⟩
 have HS1 := Lib.hid (HS0.out.step hb1)
 have HK := Lib.hid hk
 clear hb1 hk h0 h1 h2 h3 h4 h5 h6 h7
 have HS2 := Lib.hid (HS1.out.step (bel1 w1 (.cells #[.int .i64 k, .slice b.1 b.2.1 b.2.2, .int .i64 bn, .slice s.1 s.2.1 s.2.2, .slice i.1 i.2.1 i.2.2, .slice f.1 f.2.1 f.2.2, .slice c.1 c.2.1 c.2.2, .slice x.1 x.2.1 x.2.2] 38)))
 have HX2 := Lib.hid (boxed_new w1 38 k (.slice b.1 b.2.1 b.2.2) bn (.slice s.1 s.2.1 s.2.2) (.slice i.1 i.2.1 i.2.2) (.slice f.1 f.2.1 f.2.2) (.slice c.1 c.2.1 c.2.2) (.slice x.1 x.2.1 x.2.2))
 have z1 : w.heap.size + 1 < w1.heap.size := HS1.out.sz
 cases t with
 | false =>
  have HBAD := Lib.hid (fit1_bad HK.out.now.1.symm)
  have HKE := Lib.hid (set2_block HS1.out.res vnil (.int .i64 0))
  obtain ⟨hk0, hk1, hkf⟩ := pair_of HS1.out.res
  go_wp2
  refine bodyPost_ret (v := .tuple #[.agg #[vnil, .int .i64 0], .bool false]) ?_ rfl (.inr ⟨HBAD.out, rfl, bel_both (below_set2 HS1.out.bel (Nat.le_succ _) _ _) (bel1 _ _)⟩)
  exact ret_bits2 (fn := Tryz.f76) (p := 2) (u := 3) rfl _ _ (w.heap.size + 1) (by rfl) ((Below.heap_alloc _ _ _ (lt_of_block HKE.out)).trans HKE.out)
 | true =>
  have HALL := Lib.hid (fit1_iff.1 HK.out.now.1.symm)
  have HKN : Hid (Keeps (fun j => j = w.heap.size + 1) w1 (NumV (vecW k b bn s i f c x) 1 m F)) := HK.out.imp fun W h => h.2.1 rfl
  obtain rfl : k = 1 := HKN.out.now.kindEq
  obtain ⟨h0, h1, h2, h3, h4, h5, h6, h7⟩ := HS2.out.one
  go_wp2_with fail
  refine (HC.out _ HS2.out.bel).mono ?_
  rintro e w3 ⟨rfl, hb3⟩
  have HS3 := Lib.hid (HS2.out.step hb3)
  have HX3 := Lib.hid (HX2.out.below hb3)
  have HK3 := Lib.hid ((HKN.out.step (bel1 w1 (.cells #[.int .i64 1, .slice b.1 b.2.1 b.2.2, .int .i64 bn, .slice s.1 s.2.1 s.2.2, .slice i.1 i.2.1 i.2.2, .slice f.1 f.2.1 f.2.2, .slice c.1 c.2.1 c.2.2, .slice x.1 x.2.1 x.2.2] 38))).step hb3)
  clear hb3 h0 h1 h2 h3 h4 h5 h6 h7
  obtain ⟨h0, h1, h2, h3, h4, h5, h6, h7⟩ := HX3.out
  go_wp2_with fail
  refine (packed_yes b bn _ _ _ _ _ _).mono ?_
  rintro e w4 ⟨rfl, hb4⟩
  have HS4 := Lib.hid (HS3.out.step hb4)
  have HK4 := Lib.hid (HK3.out.step hb4)
  clear hb4 h0 h1 h2 h3 h4 h5 h6 h7
  have HKS : Hid (Keeps (fun j => j = w.heap.size + 1) (set2 w4 (w.heap.size + 1) (.slice b.1 b.2.1 b.2.2) (.int .i64 bn)) (NumV (vecW 1 b bn s i f c x) 1 m F)) := (HK4.out.set rfl _).set rfl _
  obtain ⟨rfl, L, hL, hF⟩ := HKS.out.now.bits
  have HF := Lib.hid hF
  have HLE := Lib.hid hL
  have HKE := Lib.hid (set2_block HS4.out.res (.slice b.1 b.2.1 b.2.2) (.int .i64 (m : Int)))
  have HBE := Lib.hid (below_set2 HS4.out.bel (Nat.le_succ _) (.slice b.1 b.2.1 b.2.2) (.int .i64 (m : Int)))
  clear hL hF
  obtain ⟨hk0, hk1, hkf⟩ := pair_of HS4.out.res
  go_wp2
  refine bodyPost_ret (v := .tuple #[.agg #[.slice b.1 b.2.1 b.2.2, .int .i64 (m : Int)], .bool true]) ?_ rfl (.inl ⟨HALL.out, b, L, rfl, HLE.out, HF.out, HBE.out⟩)
  exact ret_bits2 (fn := Tryz.f76) (p := 2) (u := 3) rfl _ _ (w.heap.size + 1) (by rfl) HKE.out
theorem tabN_rel (f : Int) (hf : 21 ≤ f) (hf2 : f ≤ 24) (a b : Bool) : (tabN f).testBit (2 * a.toNat + b.toNat) = logB f a b := by
 refine int4 (P := fun f => (tabN f).testBit (2 * a.toNat + b.toNat) = logB f a b) f hf hf2 ?_ ?_ ?_ ?_
 all_goals cases a <;> cases b <;> decide
theorem tabN_lt (f : Int) : tabN f < 16 := by unfold tabN; split; decide; split; decide; split <;> decide
theorem tv_flag (t : Bool) : tv (flagF t) = t := by cases t <;> decide
theorem BitsAt.set2 {W : World} {b : Sl} {n : Nat} {L : Nat → Bool} (h : BitsAt W b n L) {V : Nat} {a : Option Addr} {l c : Nat} {z : Int} {e : TypeId} (hV : W.heap[V]? = some (.cells #[.slice a l c, .int .i64 z] e)) (u0 u1 : Value) : BitsAt (Go.Proofs.YtiahegjdkejjpaaGreat.set2 W V u0 u1) b n L := by
 obtain ⟨g, o, cc, e1, hc⟩ := h
 refine ⟨g, o, cc, e1, fun j hj => ?_⟩
 have hcj := hc j hj
 have hne : g ≠ V := by
  rintro rfl
  rw [cell_of_row _ g (o + j) _ e (0, 0) hV] at hcj
  match hoj : o + j with
  | 0 => rw [hoj] at hcj; simp at hcj
  | 1 => rw [hoj] at hcj; simp at hcj
  | k + 2 => rw [hoj] at hcj; simp at hcj
 rw [← hcj]
 exact World.cell?_of_block (by rw [Below.heap_setCell _ _ _ _ hne, Below.heap_setCell _ _ _ _ hne])
def Lg2Out (H : Nat → Prop) (w : World) (TT R : Nat → Bool) (r : Option Nat) (e : Ending) (w' : World) : Prop :=
 (r = none ∧ e = .returned (.tuple #[vecV 0 vnil 0 vnil vnil vnil vnil vnil, .int .i64 23]) ∧ Below w.heap.size w w') ∨
 (∃ N, r = some N ∧ (((∀ c, c < N → TT c = true) ∧ VecOk H w (fun u W => NumV u 1 N (fun c => flagF (R c)) W) e w') ∨ ((∃ c, c < N ∧ TT c = false) ∧ e = .returned (.tuple #[vecV 0 vnil 0 vnil vnil vnil vnil vnil, .int .i64 24]) ∧ Below w.heap.size w w')))
structure ClsV (w : World) (p : V8) (z : Int) (n : Nat) : Prop where
 cls : ∀ W, Below w.heap.size w W → Calls Tryz.prog 21 #[p.v] W fun e w' => e = .returned (.int .i64 z) ∧ Below W.heap.size W w'
 len : ∀ W, Below w.heap.size w W → Calls Tryz.prog 38 #[p.v] W fun e w' => e = .returned (.int .i64 (n : Nat)) ∧ Below W.heap.size W w'
theorem ClsV.up {w w' : World} {p : V8} {z : Int} {n : Nat} (h : ClsV w p z n) (hb : Below w.heap.size w w') : ClsV w' p z n := ⟨fun W hw => h.cls W (bel_both hb hw), fun W hw => h.len W (bel_both hb hw)⟩
def ZeroE (w : World) (E : Int) (e : Ending) (w' : World) : Prop := e = .returned (.tuple #[vecV 0 vnil 0 vnil vnil vnil vnil vnil, .int .i64 E]) ∧ Below w.heap.size w w'
set_option maxRecDepth 100000 in
set_option maxHeartbeats 1000000 in
theorem into_cls (p : V8) (z : Int) (n : Nat) (hz : z ≠ 0) (hk : p.k ≠ 1) (w : World) (hc : ClsV w p z n) :
  Calls Tryz.prog 109 #[p.v, .int .i64 1] w (NoVec w) := by
 have HC := Lib.hid hc.cls
 have HS0 := Lib.hid (St.new w p.k (.slice p.b.1 p.b.2.1 p.b.2.2) p.bn (.slice p.s.1 p.s.2.1 p.s.2.2) (.slice p.i.1 p.i.2.1 p.i.2.2) (.slice p.f.1 p.f.2.1 p.f.2.2) (.slice p.c.1 p.c.2.1 p.c.2.2) (.slice p.x.1 p.x.2.1 p.x.2.2))
 have hk1 : (p.k == 1) = false := by simpa using hk
 have hz1 : (z != 0) = true := by simpa using hz
 clear hc hk hz
 go_enter Tryz.func109, Tryz.ntmps109
 go_wp2_with fail
 refine (vkind_any _ _ _ _ _ _ _ _ _).mono ?_
 rintro e w1 ⟨rfl, hb⟩
 have HS1 := Lib.hid (HS0.out.step hb)
 clear hb
 obtain ⟨h0, h1, h2, h3, h4, h5, h6, h7⟩ := HS1.out.box
 go_wp2_with fail
 refine (HC.out _ HS1.out.bel).mono ?_
 rintro e w2 ⟨rfl, hb⟩
 have HS2 := Lib.hid (HS1.out.step hb)
 clear hb h0 h1 h2 h3 h4 h5 h6 h7
 obtain ⟨⟨h0, h1, h2, h3, h4, h5, h6, h7⟩, hz⟩ := boxed_of HS2.out.res
 go_wp2
 refine bodyPost_ret (v := .tuple #[vecV 0 vnil 0 vnil vnil vnil vnil vnil, .bool false]) ?_ rfl ⟨rfl, below_set8 HS2.out.bel (Nat.le_succ _) _ _ _ _ _ _ _ _⟩
 exact ret_vec2 (fn := Tryz.f109) (p := 4) (u := 5) rfl _ _ (w.heap.size + 1) (by rfl) (set8_block HS2.out.res _ _ _ _ _ _ _ _)
set_option maxRecDepth 100000 in
set_option maxHeartbeats 1000000 in
theorem truths_cls (p : V8) (z : Int) (n : Nat) (hz : z ≠ 0) (hk : p.k ≠ 1) (w : World) (hc : ClsV w p z n) :
  Calls Tryz.prog 76 #[p.v] w fun e w' => e = .returned (.tuple #[.agg #[vnil, .int .i64 0], .bool false]) ∧ Below w.heap.size w w' := by
 have HS0 := Lib.hid (Sb.new w p)
 have HI := Lib.hid (into_cls p z n hz hk _ (hc.up HS0.out.bel))
 unfold NoVec at HI
 clear hc hk hz
 go_enter Tryz.func76, Tryz.ntmps76
 obtain ⟨h0, h1, h2, h3, h4, h5, h6, h7⟩ := HS0.out.one
 go_wp2_with fail
 refine HI.out.mono ?_
 rintro e w1 ⟨rfl, hb1⟩
 have HS1 := Lib.hid (HS0.out.step hb1)
 clear hb1 h0 h1 h2 h3 h4 h5 h6 h7
 have HKE := Lib.hid (set2_block HS1.out.res vnil (.int .i64 0))
 obtain ⟨hk0, hk1, hkf⟩ := pair_of HS1.out.res
 have z1 : w.heap.size + 1 < w1.heap.size := HS1.out.sz
 go_wp2
 refine bodyPost_ret (v := .tuple #[.agg #[vnil, .int .i64 0], .bool false]) ?_ rfl ⟨rfl, bel_both (below_set2 HS1.out.bel (Nat.le_succ _) _ _) (bel1 _ _)⟩
 exact ret_bits2 (fn := Tryz.f76) (p := 2) (u := 3) rfl _ _ (w.heap.size + 1) (by rfl) ((Below.heap_alloc _ _ _ (lt_of_block HKE.out)).trans HKE.out)
theorem len_mid (p q : V8) (m n N : Nat) (z1 z2 : Int) (w : World) (hL : lenP m n = some N) (hP : ClsV w p z1 m) (hQ : ClsV w q z2 n) :
  (∀ W, St2 w W p q → Calls Tryz.prog 38 #[p.v] W fun e w2 => e = .returned (.int .i64 (m : Nat)) ∧ Below W.heap.size W w2) ∧
  (∀ W, St2 w W p q → Calls Tryz.prog 38 #[q.v] W fun e w2 => e = .returned (.int .i64 (n : Nat)) ∧ Below W.heap.size W w2) ∧
  (∀ W, Calls Tryz.prog 65 #[.int .i64 (m : Int), .int .i64 (n : Int)] W fun e w' => e = .returned (.tuple #[.int .i64 (N : Nat), .bool true]) ∧ W = w') :=
 ⟨fun W hs => hP.len W hs.bel, fun W hs => hQ.len W hs.bel, fun W => by
  have h := length_any m n W
  rw [hL] at h
  exact h⟩
set_option maxRecDepth 100000 in
set_option maxHeartbeats 4000000 in
theorem aapply_cls (f : Int) (hf : 1 ≤ f) (hf2 : f ≤ 8) (p q : V8) (m n N : Nat) (z1 z2 : Int) (w : World) (hz : z1 ≠ 0 ∨ (z1 = 0 ∧ z2 ≠ 0)) (hL : lenP m n = some N) (hP : ClsV w p z1 m) (hQ : ClsV w q z2 n) :
  Calls Tryz.prog 45 #[.int .i64 f, p.v, q.v] w (ZeroE w 24) := by
 obtain ⟨h1, h2, h3⟩ := len_mid p q m n N z1 z2 w hL hP hQ
 have HLP := Lib.hid h1
 have HLQ := Lib.hid h2
 have HLL := Lib.hid h3
 have HCP := Lib.hid (fun W (hs : St2 w W p q) => hP.cls W hs.bel)
 have HCQ := Lib.hid (fun W (hs : St2 w W p q) => hQ.cls W hs.bel)
 have HS0 := Lib.hid (St2.new w p q)
 have HZ := Lib.hid hz
 unfold ZeroE
 clear h1 h2 h3 hL hP hQ hz
 go_enter Tryz.func45, Tryz.ntmps45
 go_wp2_with fail
 obtain ⟨w0, hw0⟩ : ∃ w0, w0 = ((w.alloc p.o).alloc q.o).alloc (.cells zcells 38) := ⟨_, rfl⟩
 rw [← hw0] at HS0 ⊢
 clear hw0
 go_cut [8, 9] from 19 (fun x y wx => LenMid w p q N true x y wx)
 case first =>
  have hs0 := HS0.out.dr
  have hs00 := HS0.out
  go_region_held3 (fun W => ((W.cell? ⟨w.heap.size, 0, none⟩ = some (.int .i64 p.k) ∧ W.cell? ⟨w.heap.size, 1, none⟩ = some (.slice p.b.1 p.b.2.1 p.b.2.2) ∧ W.cell? ⟨w.heap.size, 2, none⟩ = some (.int .i64 p.bn) ∧ W.cell? ⟨w.heap.size, 3, none⟩ = some (.slice p.s.1 p.s.2.1 p.s.2.2) ∧ W.cell? ⟨w.heap.size, 4, none⟩ = some (.slice p.i.1 p.i.2.1 p.i.2.2) ∧ W.cell? ⟨w.heap.size, 5, none⟩ = some (.slice p.f.1 p.f.2.1 p.f.2.2) ∧ W.cell? ⟨w.heap.size, 6, none⟩ = some (.slice p.c.1 p.c.2.1 p.c.2.2) ∧ W.cell? ⟨w.heap.size, 7, none⟩ = some (.slice p.x.1 p.x.2.1 p.x.2.2)) ∧ (W.cell? ⟨w.heap.size + 1, 0, none⟩ = some (.int .i64 q.k) ∧ W.cell? ⟨w.heap.size + 1, 1, none⟩ = some (.slice q.b.1 q.b.2.1 q.b.2.2) ∧ W.cell? ⟨w.heap.size + 1, 2, none⟩ = some (.int .i64 q.bn) ∧ W.cell? ⟨w.heap.size + 1, 3, none⟩ = some (.slice q.s.1 q.s.2.1 q.s.2.2) ∧ W.cell? ⟨w.heap.size + 1, 4, none⟩ = some (.slice q.i.1 q.i.2.1 q.i.2.2) ∧ W.cell? ⟨w.heap.size + 1, 5, none⟩ = some (.slice q.f.1 q.f.2.1 q.f.2.2) ∧ W.cell? ⟨w.heap.size + 1, 6, none⟩ = some (.slice q.c.1 q.c.2.1 q.c.2.2) ∧ W.cell? ⟨w.heap.size + 1, 7, none⟩ = some (.slice q.x.1 q.x.2.1 q.x.2.2))) ∧ St2 w W p q)
   (first | (with_reducible assumption) | (with_reducible (refine st2_s ?_); repeat (first | (with_reducible assumption) | (with_reducible refine St2.dr ?_))))
   (first
    | (go_at_call 65; (with_reducible refine (HLL.out _).mono ?_); rintro e w5 ⟨rfl, rfl⟩)
    | (go_at_call 38; (with_reducible refine (HLP.out _ ?_).mono ?_); exact St2.self (by repeat (first | (with_reducible assumption) | (with_reducible refine St2.dr ?_))); rintro e w1 ⟨rfl, hb1⟩; obtain ⟨hc1, hf1⟩ := bcell2 hb1; have hz1 := hb1.size; have hst1 : St2 w w1 p q := St2.step (by repeat (first | (with_reducible assumption) | (with_reducible refine St2.dr ?_))) hb1; clear hb1)
    | (go_at_call 38; (with_reducible refine (HLQ.out _ ?_).mono ?_); exact St2.self (by repeat (first | (with_reducible assumption) | (with_reducible refine St2.dr ?_))); rintro e w2 ⟨rfl, hb2⟩; obtain ⟨hc2, hf2⟩ := bcell2 hb2; have hz2 := hb2.size; have hst2 : St2 w w2 p q := St2.step (by repeat (first | (with_reducible assumption) | (with_reducible refine St2.dr ?_))) hb2; clear hb2))
  all_goals
   go_wp2
   go_meet
   first
    | (with_reducible exact lenMid_of hst2)
    | (with_reducible exact lenMid_of hst1)
 obtain ⟨rfl, rfl, hst⟩ := hcut
 have HST := Lib.hid hst
 clear hst HS0 HLP HLQ HLL
 obtain ⟨h0, h1, h2, h3, h4, h5, h6, h7⟩ := HST.out.one
 rcases HZ.out with hz | ⟨rfl, hz⟩
 ·have z3 : (z1 != 0) = true := by simpa using hz
  clear HZ hz
  go_wp2_with fail
  refine (HCP.out _ HST.out).mono ?_
  rintro e w3 ⟨rfl, hb3⟩
  have HS3 := Lib.hid (HST.out.step hb3)
  clear hb3 h0 h1 h2 h3 h4 h5 h6 h7 HST
  obtain ⟨⟨h0, h1, h2, h3, h4, h5, h6, h7⟩, hz⟩ := boxed_of HS3.out.res
  go_wp2
  refine bodyPost_ret (v := .tuple #[vecV 0 vnil 0 vnil vnil vnil vnil vnil, .int .i64 24]) ?_ rfl ⟨rfl, below_set8 HS3.out.bel (Nat.le_add_right _ 2) _ _ _ _ _ _ _ _⟩
  exact ret_vec2 (fn := Tryz.f45) (p := 6) (u := 7) rfl _ _ (w.heap.size + 2) (by rfl) (set8_block HS3.out.res _ _ _ _ _ _ _ _)
 ·have z3 : (z2 != 0) = true := by simpa using hz
  clear HZ hz
  go_wp2_with fail
  refine (HCP.out _ HST.out).mono ?_
  rintro e w3 ⟨rfl, hb3⟩
  have HS3 := Lib.hid (HST.out.step hb3)
  clear hb3 h0 h1 h2 h3 h4 h5 h6 h7 HST
  obtain ⟨h0, h1, h2, h3, h4, h5, h6, h7⟩ := HS3.out.two
  go_wp2_with fail
  refine (HCQ.out _ HS3.out).mono ?_
  rintro e w4 ⟨rfl, hb4⟩
  have HS4 := Lib.hid (HS3.out.step hb4)
  clear hb4 h0 h1 h2 h3 h4 h5 h6 h7 HS3
  obtain ⟨⟨h0, h1, h2, h3, h4, h5, h6, h7⟩, hz⟩ := boxed_of HS4.out.res
  go_wp2
  refine bodyPost_ret (v := .tuple #[vecV 0 vnil 0 vnil vnil vnil vnil vnil, .int .i64 24]) ?_ rfl ⟨rfl, below_set8 HS4.out.bel (Nat.le_add_right _ 2) _ _ _ _ _ _ _ _⟩
  exact ret_vec2 (fn := Tryz.f45) (p := 6) (u := 7) rfl _ _ (w.heap.size + 2) (by rfl) (set8_block HS4.out.res _ _ _ _ _ _ _ _)
end Go.Proofs.YtiahegjdkejjpaaGreat
